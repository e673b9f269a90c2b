/- The document's Open, in closed form. -/
import Derived.Test.YtlallfmbpbnaaaaAmPipe
namespace Go.Proofs
open Go.AM

/-- A sum that does not go round, from 0 to 1024. -/
def sumOk (a b : Int) : Bool := decide (0 ≤ a + b ∧ a + b ≤ 1024)
def inR (a : Int) : Prop := -9223372036854775808 ≤ a ∧ a < 9223372036854775808

theorem wrap_cases {a b : Int} (ha : inR a) (hb : inR b) : (IntKind.wrap .i64 (a + b) = a + b ∧ inR (a + b)) ∨ (IntKind.wrap .i64 (a + b) = a + b + 18446744073709551616 ∧ a + b < -9223372036854775808) ∨ (IntKind.wrap .i64 (a + b) = a + b - 18446744073709551616 ∧ 9223372036854775808 ≤ a + b) := by
  unfold inR at *
  simp only [IntKind.wrap, IntKind.bits, IntKind.signed]
  have e1 : (2 : Int) ^ 64 = 18446744073709551616 := rfl
  have e2 : (2 : Int) ^ (64 - 1) = 9223372036854775808 := rfl
  simp only [Bool.true_and, decide_eq_true_eq, e1, e2]
  split <;> omega

theorem f15_parts {n : Nat} {σ : St} {a b : Int} (ha : inR a) (hb : inR b) :
    ∃ x, (sumOk a b = true → x = a + b) ∧ callP Try.prog (n + 1) 15 [.int .i64 a, .int .i64 b] σ = some (.ret (.tuple [.int .i64 x, .bool (sumOk a b)]), σ) := by
  have hw := wrap_cases ha hb
  unfold inR at *
  rw [f15_in]
  generalize hx : IntKind.wrap .i64 (a + b) = x at *
  by_cases h1 : b ≥ 0
  · by_cases h2 : x < a
    · refine ⟨0, ?_, ?_⟩
      · simp only [sumOk, decide_eq_true_eq]; omega
      · have : sumOk a b = false := by simp only [sumOk, decide_eq_false_iff_not]; omega
        simp [h1, h2, this]
    · have h3 : ¬ b < 0 := by omega
      by_cases h4 : x ≥ 0
      · refine ⟨x, by simp only [sumOk, decide_eq_true_eq]; omega, ?_⟩
        have : sumOk a b = decide (x ≤ 1024) := by simp only [sumOk]; congr 1; simp; omega
        simp [h1, h2, h3, h4, this]
      · refine ⟨x, by simp only [sumOk, decide_eq_true_eq]; omega, ?_⟩
        have : sumOk a b = false := by simp only [sumOk, decide_eq_false_iff_not]; omega
        simp [h1, h2, h3, h4, this]
  · have h3 : b < 0 := by omega
    by_cases h2 : x > a
    · refine ⟨0, ?_, ?_⟩
      · simp only [sumOk, decide_eq_true_eq]; omega
      · have : sumOk a b = false := by simp only [sumOk, decide_eq_false_iff_not]; omega
        simp [h1, h2, h3, this]
    · by_cases h4 : x ≥ 0
      · refine ⟨x, by simp only [sumOk, decide_eq_true_eq]; omega, ?_⟩
        have : sumOk a b = decide (x ≤ 1024) := by simp only [sumOk]; congr 1; simp; omega
        simp [h1, h2, h3, h4, this]
      · refine ⟨x, by simp only [sumOk, decide_eq_true_eq]; omega, ?_⟩
        have : sumOk a b = false := by simp only [sumOk, decide_eq_false_iff_not]; omega
        simp [h1, h2, h3, h4, this]

/-- The parts of Open's answer. -/
def oOk (r w a b : Int) : Bool := sumOk r a && sumOk w b
def oR (r w a b : Int) : Int := if oOk r w a b then r + a else r
def oW (r w a b : Int) : Int := if oOk r w a b then w + b else w
def oE (r w a b : Int) : Int := if oOk r w a b then 0 else 1

theorem f13_parts {n : Nat} {σ : St} {s : List UInt8} {r w a b : Int} (hr : inR r) (hw : inR w) (ha : inR a) (hb : inR b) :
    callP Try.prog (n + 2) 13 [.agg [.str s, .int .i64 r, .int .i64 w], .int .i64 a, .int .i64 b] σ = some (.ret (.tuple [.agg [.str s, .int .i64 (oR r w a b), .int .i64 (oW r w a b)], .int .i64 (oE r w a b)]), σ) := by
  obtain ⟨x, hx, h1⟩ := f15_parts (n := n) (σ := σ) hr ha
  obtain ⟨y, hy, h2⟩ := f15_parts (n := n) (σ := σ) hw hb
  rw [f13_in, f13_r1_3 h1, f13_r2_3 h2]
  unfold oR oW oE oOk
  cases e1 : sumOk r a <;> cases e2 : sumOk w b <;> simp [e1, e2] at hx hy ⊢
  exact ⟨hx, hy⟩

end Go.Proofs

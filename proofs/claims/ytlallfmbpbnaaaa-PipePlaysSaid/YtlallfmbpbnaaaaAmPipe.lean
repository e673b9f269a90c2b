/- The pipe's functions, in closed form. -/
import Derived.Test.YtlallfmbpbnaaaaAmP0
namespace Go.Proofs
open Go.AM

theorem wrap64 {x : Int} (h1 : -9223372036854775808 ≤ x) (h2 : x < 9223372036854775808) : IntKind.wrap .i64 x = x := by
  simp only [IntKind.wrap, IntKind.bits, IntKind.signed]
  have e1 : (2 : Int) ^ 64 = 18446744073709551616 := rfl
  have e2 : (2 : Int) ^ (64 - 1) = 9223372036854775808 := rfl
  simp only [Bool.true_and, decide_eq_true_eq, e1, e2]
  split <;> omega

abbrev pipeV (s : List UInt8) (r w : Int) : AV := .agg [.str s, .int .i64 r, .int .i64 w]

def room (s t : List UInt8) : Nat := min (64 - s.length) t.length

def pwrite (s : List UInt8) (r w : Int) (t : List UInt8) : AV :=
  if r < 1 then .tuple [pipeV [] 0 0, .int .i64 0, .int .i64 18]
  else if room s t = 0 ∧ 0 < t.length then .tuple [pipeV s r w, .int .i64 0, .int .i64 12]
  else .tuple [pipeV (s ++ t.take (room s t)) r w, .int .i64 (room s t), .int .i64 0]

theorem within_room (s t : List UInt8) (hs : s.length ≤ 4611686018427387904) :
    (if (t.length : Int) < (if (0 : Int) > IntKind.wrap .i64 (64 - s.length) then 0 else IntKind.wrap .i64 (64 - s.length)) then (t.length : Int) else (if (0 : Int) > IntKind.wrap .i64 (64 - s.length) then 0 else IntKind.wrap .i64 (64 - s.length))) = (room s t : Int) := by
  rw [wrap64 (by omega) (by omega)]
  unfold room
  split <;> split at * <;> omega

theorem f8_spec {n : Nat} {σ : St} {s t : List UInt8} {r w : Int} (hs : s.length ≤ 2305843009213693952) (ht : t.length ≤ 2305843009213693952) :
    callP Try.prog (n + 2) 8 [pipeV s r w, .str t] σ = some (.ret (pwrite s r w t), σ) := by
  rw [f8_in]
  unfold pwrite
  by_cases hr : r < 1
  · simp only [hr, decide_true, cond, if_true]
  · simp only [hr, decide_false, cond, if_false]
    rw [f8_r3_6 f14_in, within_room s t (by omega)]
    have go : pt Try.prog 8 (n + 1) [1, 1, 1, 1, 0, 4] [] ⟨tm 36 [(1, .v (.str t)), (2, .lp 2 0), (4, .lp 4 0), (5, .v (.int .i64 (0 : Int))), (6, .v (.int .i64 (0 : Int))), (7, .v (.int .i64 (room s t : Int))), (27, .lp 2 0), (28, .v (.str s)), (29, .v (.str t)), (30, .v (.int .i64 (room s t : Int)))] 0, [(2, [.str s, .int .i64 r, .int .i64 w]), (4, [.str [], .int .i64 (0 : Int), .int .i64 (0 : Int)])]⟩ σ =
        some (.ret (.tuple [pipeV (s ++ t.take (room s t)) r w, .int .i64 (room s t), .int .i64 0]), σ) := by
      have hle : room s t ≤ t.length := Nat.min_le_right _ _
      rw [f8_r6_4 (by omega), f8_r6_5 (by simp; omega)]
      simp
    by_cases h0 : room s t = 0
    · by_cases h1 : 0 < t.length
      · simp [h0, h1]
      · simp [h0, h1] at go ⊢
        rw [go]
    · have e0 : ((room s t : Int) == 0) = false := by simp; omega
      rw [e0]
      simp [h0] at go ⊢
      rw [go]

theorem shown_true {n : Nat} {σ : St} : callP Try.prog (n + 5) 7 [] σ = some (.ret (.bool true), σ) := by kernel_rfl

/-- The parts of Write's answer. -/
def wBad (s t : List UInt8) : Bool := decide (room s t = 0 ∧ 0 < t.length)
def wS (s : List UInt8) (r : Int) (t : List UInt8) : List UInt8 := if r < 1 then [] else if wBad s t then s else s ++ t.take (room s t)
def wR (r : Int) : Int := if r < 1 then 0 else r
def wW (r w : Int) : Int := if r < 1 then 0 else w
def wK (s : List UInt8) (r : Int) (t : List UInt8) : Int := if r < 1 then 0 else if wBad s t then 0 else room s t
def wE (s : List UInt8) (r : Int) (t : List UInt8) : Int := if r < 1 then 18 else if wBad s t then 12 else 0

theorem f8_parts {n : Nat} {σ : St} {s t : List UInt8} {r w : Int} (hs : s.length ≤ 2305843009213693952) (ht : t.length ≤ 2305843009213693952) :
    callP Try.prog (n + 2) 8 [.agg [.str s, .int .i64 r, .int .i64 w], .str t] σ = some (.ret (.tuple [.agg [.str (wS s r t), .int .i64 (wR r), .int .i64 (wW r w)], .int .i64 (wK s r t), .int .i64 (wE s r t)]), σ) := by
  rw [f8_spec hs ht]
  unfold pwrite wS wR wW wK wE wBad
  by_cases hr : r < 1
  · simp [hr]
  · by_cases hb : room s t = 0 ∧ 0 < t.length
    · simp [hr, hb]
    · simp [hr, hb]

/-- The parts of Read's answer. -/
def rd (s : List UInt8) (m : Int) : Nat := min m.toNat s.length
def rS (s : List UInt8) (m : Int) : List UInt8 := if m < 0 then [] else s.drop (rd s m)
def rT (s : List UInt8) (m : Int) : List UInt8 := if m < 0 then [] else s.take (rd s m)
def rR (r m : Int) : Int := if m < 0 then 0 else r
def rE (s : List UInt8) (w m : Int) : Int := if m < 0 then 1 else if m > 0 ∧ s = [] ∧ w > 0 then 12 else 0

theorem within_rd (s : List UInt8) (m : Int) (hm : ¬ m < 0) :
    (if (s.length : Int) < (if (0 : Int) > m then 0 else m) then (s.length : Int) else (if (0 : Int) > m then 0 else m)) = (rd s m : Int) := by
  unfold rd
  split <;> split at * <;> omega

theorem f9_parts {n : Nat} {σ : St} {s : List UInt8} {r w m : Int} :
    callP Try.prog (n + 2) 9 [.agg [.str s, .int .i64 r, .int .i64 w], .int .i64 m] σ = some (.ret (.tuple [.agg [.str (rS s m), .int .i64 (rR r m), .int .i64 (rR w m)], .str (rT s m), .int .i64 (rE s w m)]), σ) := by
  rw [f9_in]
  by_cases hm : m < 0
  · simp [hm, rS, rR, rT, rE]
  · have go : pt Try.prog 9 (n + 1) [1, 1, 1, 0, 4] [] ⟨tm 41 [(1, .v (.int .i64 m)), (2, .lp 2 0), (4, .lp 4 0), (5, .v (.str [])), (6, .v (.int .i64 (0 : Int))), (25, .v (.int .i64 m)), (26, .lp 2 0), (27, .v (.str s)), (28, .v (.int .i64 (s.length : Int)))] 0, [(2, [.str s, .int .i64 r, .int .i64 w]), (4, [.str [], .int .i64 (0 : Int), .int .i64 (0 : Int)])]⟩ σ =
        some (.ret (.tuple [.agg [.str (s.drop (rd s m)), .int .i64 r, .int .i64 w], .str (s.take (rd s m)), .int .i64 0]), σ) := by
      have hle : rd s m ≤ s.length := Nat.min_le_right _ _
      rw [f9_r5_4 f14_in, within_rd s m hm, f9_r6_3 (by omega), f9_r7_3 (by omega)]
      simp
    rw [go]
    by_cases hp : m > 0
    · by_cases hs : s = []
      · subst hs
        by_cases hw : w > 0
        · simp [hm, hp, hw, rS, rR, rT, rE]
        · simp [hm, hp, hw, rS, rR, rT, rE]
      · have e : (s == []) = false := by cases s; exact absurd rfl hs; rfl
        rw [e]
        simp [hm, hp, hs, rS, rR, rT, rE]
    · simp [hm, hp, rS, rR, rT, rE]

end Go.Proofs

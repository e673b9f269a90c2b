/- PipeEnds: what it answers. -/
import Derived.Test.YtlallfmbpbnaaaaAmPipe
import Derived.Test.YtlallfmbpbnaaaaAmP1
namespace Go.Proofs
open Go.AM

theorem ends_loop {k : Nat} {σ : St} {most r : Int} {s t : List UInt8} (hm : 1 ≤ most) (hs : s.length ≤ 4096) : ∀ (d i m0 : Nat) (out q : List UInt8), i + d = s.length + 1 → d + 1 ≤ m0 → out ++ q = s → (q.length + i ≤ s.length ∨ q = []) →
    pt Try.prog 5 (k + 8) [1, 1, 1, 1, 1, 1, 1, 0, 1, 0] [m0] ⟨tm 97 [(1, .v (.int .i64 most)), (2, .v (.str t)), (3, .lp 3 0), (6, .v (.bool false)), (7, .v (.bool true)), (8, .lp 8 0), (9, .v (.str out)), (10, .v (.int .i64 (i : Int)))] 0, [(3, [.str s, .int .i64 r, .int .i64 (0 : Int)]), (8, [.str q, .int .i64 r, .int .i64 (0 : Int)])]⟩ σ =
    pt Try.prog 5 (k + 8) [1, 1, 1, 1, 1, 1, 1, 1] [] ⟨tm 97 [(1, .v (.int .i64 most)), (2, .v (.str t)), (3, .lp 3 0), (6, .v (.bool false)), (7, .v (.bool true)), (8, .lp 8 0), (9, .v (.str s))] 0, [(3, [.str s, .int .i64 r, .int .i64 (0 : Int)]), (8, [.str [], .int .i64 r, .int .i64 (0 : Int)])]⟩ σ := by
  intro d
  induction d with
  | zero =>
    intro i m0 out q hi hm0 ho hq
    obtain ⟨m, rfl⟩ : ∃ m, m0 = m + 1 := ⟨m0 - 1, by omega⟩
    rw [f5_l1111111010]
    have hq' : q = [] := by
      rcases hq with h | h
      · omega
      · exact h
    have hle : decide ((i : Int) ≤ (s.length : Int)) = false := by simp; omega
    subst hq'
    simp only [List.append_nil] at ho
    subst ho
    simp only [hle, cond]
  | succ d ih =>
    intro i m0 out q hi hm0 ho hq
    obtain ⟨m, rfl⟩ : ∃ m, m0 = m + 1 := ⟨m0 - 1, by omega⟩
    rw [f5_l1111111010]
    have hle : decide ((i : Int) ≤ (s.length : Int)) = true := by simp; omega
    rw [hle]
    simp only [cond]
    have hlen : out.length + q.length = s.length := by rw [← ho]; simp
    have e1 : rE q 0 most = 0 := by unfold rE; simp; omega
    have e2 : rS q most = q.drop (rd q most) := by unfold rS; rw [if_neg (by omega)]
    have e3 : rT q most = q.take (rd q most) := by unfold rT; rw [if_neg (by omega)]
    have e4 : ∀ x, rR x most = x := by intro x; unfold rR; rw [if_neg (by omega)]
    rw [f5_r12_2 f9_parts, e1, e2, e3, e4, e4]
    have e5 : ((0 : Int) != 0) = false := rfl
    rw [e5]
    simp only [cond]
    rw [f5_r16_2 (by simp; omega)]
    have e6 : IntKind.wrap .i64 ((i : Int) + 1) = ((i + 1 : Nat) : Int) := by rw [wrap64 (by omega) (by omega)]; simp
    rw [e6]
    refine ih (i + 1) m _ _ (by omega) (by omega) (by simp [ho]) ?_
    rcases hq with h | h
    · by_cases hq0 : q = []
      · right; subst hq0; simp
      · left
        have : 0 < q.length := List.length_pos_iff.2 hq0
        unfold rd
        simp
        omega
    · right; subst h; simp

theorem ends {k : Nat} {σ : St} {s t : List UInt8} {r w most : Int} (hk : s.length ≤ k) (ht : t.length ≤ 2305843009213693952) :
    callP Try.prog (k + 9) 5 [.agg [.str s, .int .i64 r, .int .i64 w], .int .i64 most, .str t] σ = some (.ret (.bool true), σ) := by
  rw [f5_in, f5_r1_0 shown_true]
  by_cases hs : (s.length : Int) > 4096
  · simp [hs]
  · have fin : ∀ mo : Int, 1 ≤ mo → pt Try.prog 5 (k + 8) [1, 1, 1, 1, 1, 1, 1, 0, 1, 0] [k + 8] ⟨tm 97 [(1, .v (.int .i64 mo)), (2, .v (.str t)), (3, .lp 3 0), (6, .v (.bool false)), (7, .v (.bool true)), (8, .lp 8 0), (9, .v (.str [])), (10, .v (.int .i64 (0 : Int)))] 0, [(3, [.str s, .int .i64 r, .int .i64 (0 : Int)]), (8, [.str s, .int .i64 r, .int .i64 (0 : Int)])]⟩ σ = some (.ret (.bool true), σ) := by
      intro mo hmo
      have := ends_loop (k := k) (σ := σ) (r := r) (s := s) (t := t) hmo (by omega) (s.length + 1) 0 (k + 8) [] s (by omega) (by omega) (List.nil_append s) (.inl (by omega))
      rw [show ((0 : Nat) : Int) = 0 from rfl] at this
      rw [this, f5_j11111111, f5_r17_2 f9_parts, f5_r19_2 (f8_parts (by omega) (by omega))]
      have e1 : rE [] 0 mo = 0 := by unfold rE; simp; omega
      have e2 : rS [] mo = [] := by unfold rS; simp
      have e3 : rT [] mo = [] := by unfold rT; simp
      have e4 : ∀ x, rR x mo = x := by intro x; unfold rR; rw [if_neg (by omega)]
      simp [e1, e2, e3, e4, wK, wE]
    simp only [hs, decide_false, cond]
    by_cases h1 : most < 1
    · simp only [h1, decide_true]
      exact fin 3 (by omega)
    · simp only [h1, decide_false]
      by_cases h2 : most > 100
      · simp only [h2, decide_true]
        exact fin 3 (by omega)
      · simp only [h2, decide_false]
        exact fin most (by omega)

end Go.Proofs

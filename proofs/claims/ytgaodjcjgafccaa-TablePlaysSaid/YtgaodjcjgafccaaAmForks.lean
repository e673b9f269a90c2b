/- TableForks: what it answers. -/
import Derived.Test.YtgaodjcjgafccaaAmTabA
namespace Go.Proofs
open Go.AM

section
variable {T : List Rw} {n : Nat} {σ : St}

theorem forks_loop (h : T.length = 8) {i : Nat} (hi : i < 8) (hf : ∀ k, 0 < k → k < i → fr (tg T k) = false) (pid : Int) : ∀ (d k m : Nat) (z : Int), z = k → k + d = 8 → d < m →
    f5_l1 (pt Try.prog 5 n) m true i z (tb T) (tb (T.set i ⟨1, pid, 0, false⟩)) σ = some (.ret (.bool true), σ) := by
  have hs : (T.set i ⟨1, pid, 0, false⟩).length = 8 := by simpa using h
  intro d
  induction d with
  | zero =>
    intro k m z hz hk hm
    subst hz
    obtain ⟨m, rfl⟩ : ∃ k, m = k + 1 := ⟨m - 1, by omega⟩
    have e : k = 8 := by omega
    subst e
    refine f5_l1_e.some ?_
    unfold f5_l1_t
    refine f5_j3_e.some ?_
    unfold f5_j3_t
    rfl
  | succ d ih =>
    intro k m z hz hk hm
    subst hz
    obtain ⟨m, rfl⟩ : ∃ k, m = k + 1 := ⟨m - 1, by omega⟩
    have h8 : k < 8 := by omega
    have ih' : f5_j2 (pt Try.prog 5 n) m true i k (tb T) (tb (T.set i ⟨1, pid, 0, false⟩)) σ = some (.ret (.bool true), σ) := by
      refine f5_j2_e.some ?_
      unfold f5_j2_t
      rw [succ64 h8]
      exact ih (k + 1) m _ rfl (by omega) (by omega)
    refine f5_l1_e.some ?_
    unfold f5_l1_t
    have d1 : decide ((k : Int) < 8) = true := by simp; omega
    simp only [d1, cT, ix h8, cr h h8, cr hs h8, c0 h h8, tg_set h h8, xAgg_a, rwC, unC_c, xInt_i, xBool_b, nlC_n, ih']
    by_cases hki : k = i
    · subst hki
      have d2 : ((k : Int) != (k : Int)) = false := by simp
      simp only [d2, cF]
      by_cases h0 : 0 < k
      · have d3 : decide ((k : Int) > 0) = true := by simp; omega
        have d4 : decide ((k : Int) < (k : Int)) = false := by simp
        simp only [d3, d4, cT, cF]
      · have d3 : decide ((k : Int) > 0) = false := by simp; omega
        simp only [d3, cF]
    · have d2 : ((k : Int) != (i : Int)) = true := by simp; omega
      simp only [d2, cT, if_neg (Ne.symm hki), beq_self_eq_true, Bool.and_self, Bool.not_true, cF]
      by_cases h0 : 0 < k
      · have d3 : decide ((k : Int) > 0) = true := by simp; omega
        by_cases hlt : k < i
        · have d4 : decide ((k : Int) < (i : Int)) = true := by simp; omega
          simp only [d3, d4, cT]
          have := hf k h0 hlt
          unfold fr at this
          rcases Bool.eq_false_or_eq_true ((tg T k).st != 1) with g | g
          · rw [g, Bool.true_and] at this
            simp only [g, this, cT, cF]
          · simp only [g, cF]
        · have d4 : decide ((k : Int) < (i : Int)) = false := by simp; omega
          simp only [d3, d4, cT, cF]
      · have d3 : decide ((k : Int) > 0) = false := by simp; omega
        simp only [d3, cF]

theorem forks (h : T.length = 8) (pid : Int) : callP Try.prog (n + 20) 5 [.agg (tb T), .int .i64 pid] σ = some (.ret (.bool true), σ) := by
  refine f5_e.some ?_
  unfold f5_t
  have hF := forkT_len h pid
  simp only [ones_tb, callT_ok shown_true, xBool_b, all_tb h, xAgg_a, callT_ok (f10_spec h pid), xTup_t, unC_c, xInt_i, nlC_n, well_tb hF]
  rw [lst_tb hF (by simp)]
  simp only [all_tb hF, xAgg_a, eq_tb hF h, cT]
  unfold forkT forkN forkE
  cases hl : lives T pid
  · simp [cond_if]
  · simp only [if_true]
    cases hff : ff T 8 0 with
    | none => simp [cond_if]
    | some i =>
      obtain ⟨_, hi, h0, hfr, hmin⟩ := ff_lt hff
      have h8 : i < 8 := by omega
      have hs : (T.set i ⟨1, pid, 0, false⟩).length = 8 := by simpa using h
      have e1 : (tg T i).st ≠ 1 ∧ (tg T i).st ≠ 2 := by simpa [fr] using hfr
      have b1 : ((tg T i).st == 1) = false := by simp [e1.1]
      have b2 : ((tg T i).st == 2) = false := by simp [e1.2]
      have d1 : decide ((i : Int) < 1) = false := by simp; omega
      have d2 : decide ((i : Int) > 7) = false := by simp; omega
      have d3 : ((0 : Int) != 0) = false := rfl
      simp only [d1, d2, d3, cF, ix h8, c0 h h8, cr hs h8, xInt_i, b1, b2, xAgg_a, tg_set h h8, if_true, rwC, unC_c, xBool_b, nlC_n, beq_self_eq_true, Bool.and_self, Bool.not_true]
      exact forks_loop h h8 (fun k k0 k1 => hmin k k0 (by omega) k1) pid 8 0 _ 0 rfl (by omega) (by omega)

end
end Go.Proofs

/- The document's functions of the table, in the same closed form. -/
import Derived.Test.YtgaodjcjgafccaaAmTab
namespace Go.Proofs
open Go.AM

section
variable {T : List Rw} {n : Nat} {σ : St}

theorem f15_loop (h : T.length = 8) (pid x y : Int) {cs : List AV} (hc : cs.length = 32) : ∀ (d i m : Nat) (z : Int), z = i → 0 < i → i + d = 8 → d < m →
    f15_l1 (pt Try.prog 15 (n + 1)) m pid x y z (tb T) cs σ = some (.ret (match ff T d i with | some i => .tuple [.agg (tb (T.set i ⟨1, pid, 0, false⟩)), .int .i64 i, .int .i64 0] | none => .tuple [.agg (tb T), .int .i64 0, .int .i64 4]), σ) := by
  intro d
  induction d with
  | zero =>
    intro i m z hz h0 hi hm
    subst hz
    obtain ⟨m, rfl⟩ : ∃ k, m = k + 1 := ⟨m - 1, by omega⟩
    have e : i = 8 := by omega
    subst e
    refine f15_l1_e.some ?_
    unfold f15_l1_t
    refine f15_j2_e.some ?_
    unfold f15_j2_t
    simp only [all_tb h, xAgg_a, well_tb h, lst_tb h hc]
    rfl
  | succ d ih =>
    intro i m z hz h0 hi hm
    subst hz
    obtain ⟨m, rfl⟩ : ∃ k, m = k + 1 := ⟨m - 1, by omega⟩
    have h8 : i < 8 := by omega
    have hs : (T.set i ⟨1, pid, 0, false⟩).length = 8 := by simpa using h
    have ih' := ih (i + 1) m _ rfl (by omega) (by omega) (by omega)
    refine f15_l1_e.some ?_
    unfold f15_l1_t ff
    have d1 : decide ((i : Int) < 8) = true := by simp; omega
    simp only [d1, cT, all_tb h, xAgg_a, callT_ok (f25_spec h h8), xBool_b, succ64 h8, ih']
    cases hf : fr (tg T i)
    · simp only [Bool.not_false, cT]
      rw [if_neg (by simp)]
    · simp only [Bool.not_true, cF]
      rw [if_pos (by simp [h0])]
      refine f15_j2_e.some ?_
      unfold f15_j2_t
      have d2 : ((i : Int) == 8) = false := by simp; omega
      simp only [d2, cF, ix h8, wr h h8, all_tb hs, xAgg_a, well_tb hs, lst_tb hs hc]

theorem f15_spec (h : T.length = 8) (pid : Int) : callP Try.prog (n + 10) 15 [.agg (tb T), .int .i64 pid] σ = some (.ret (.tuple [.agg (tb (forkT T pid)), .int .i64 (forkN T pid), .int .i64 (forkE T pid)]), σ) := by
  refine f15_e.some ?_
  unfold f15_t forkT forkN forkE
  simp only [ones_tb, all_tb h, xAgg_a, callT_ok (f24_spec h pid), xBool_b, well_tb h]
  cases hl : lives T pid
  · simp only [Bool.not_false, cT]
    rw [lst_tb h (by simp), all_tb h]
    simp
  · simp only [Bool.not_true, cF, if_true]
    rw [f15_loop h pid 0 0 (by simp) 7 1 (n + 9) 1 rfl (by omega) (by omega) (by omega)]
    have e : ff T 8 0 = ff T 7 1 := by
      rw [ff]; simp
    rw [e]
    cases ff T 7 1 <;> simp

theorem f16_loop (pid x : Int) {cs : List AV} (hc : cs.length = 32) : ∀ (d i m : Nat) (z : Int) (T : List Rw), T.length = 8 → z = i → i + d = 8 → d < m →
    f16_l1 (pt Try.prog 16 (n + 2)) m pid x z (tb T) cs σ = some (.ret (.tuple [.agg (tb (ol pid d i T)), .int .i64 0]), σ) := by
  intro d
  induction d with
  | zero =>
    intro i m z T h hz hi hm
    subst hz
    obtain ⟨m, rfl⟩ : ∃ k, m = k + 1 := ⟨m - 1, by omega⟩
    have e : i = 8 := by omega
    subst e
    refine f16_l1_e.some ?_
    unfold f16_l1_t
    refine f16_j2_e.some ?_
    unfold f16_j2_t
    simp only [all_tb h, xAgg_a, well_tb h, lst_tb h hc]
    rfl
  | succ d ih =>
    intro i m z T h hz hi hm
    subst hz
    obtain ⟨m, rfl⟩ : ∃ k, m = k + 1 := ⟨m - 1, by omega⟩
    have h8 : i < 8 := by omega
    have e0 := ih (i + 1) m _ T h rfl (by omega) (by omega)
    have e1 := ih (i + 1) m _ (T.set i { tg T i with pa := 0 }) (by simpa using h) rfl (by omega) (by omega)
    refine f16_l1_e.some ?_
    unfold f16_l1_t ol childB
    have d1 : decide ((i : Int) < 8) = true := by simp; omega
    simp only [d1, cT, all_tb h, xAgg_a, callT_ok (f25_spec h h8), xBool_b, ix h8, c1 h h8, xInt_i, w1 h h8, succ64 h8, e0, e1]
    cases fr (tg T i) <;> cases ((i : Int) != pid) <;> cases ((tg T i).pa == pid) <;> simp

theorem f16_spec (h : T.length = 8) (pid s : Int) : callP Try.prog (n + 10) 16 [.agg (tb T), .int .i64 pid, .int .i64 s] σ = some (.ret (.tuple [.agg (tb (exitT T pid s)), .int .i64 (exitE T pid)]), σ) := by
  refine f16_e.some ?_
  unfold f16_t exitT exitE
  simp only [ones_tb, all_tb h, xAgg_a, callT_ok (f24_spec h pid), xBool_b, well_tb h]
  cases hl : lives T pid
  · simp only [Bool.not_false, cT]
    rw [lst_tb h (by simp), all_tb h]
    simp
  · simp only [Bool.not_true, cF, if_true]
    obtain ⟨i, rfl, hi, _⟩ := lives_lt hl
    have h1 : (T.set i { tg T i with st := 2 }).length = 8 := by simpa using h
    have h2 : ((T.set i { tg T i with st := 2 }).set i { tg (T.set i { tg T i with st := 2 }) i with sta := s }).length = 8 := by simpa using h
    simp only [ix hi, w0 h hi, w2 h1 hi, w3 h2 hi, set3 h hi]
    exact f16_loop i 0 (by simp) 8 0 (n + 9) 0 _ (endT_len h _ _) rfl (by omega) (by omega)

theorem f17_loop (h : T.length = 8) (pid z0 : Int) {cs : List AV} (hc : cs.length = 32) : ∀ (d i m k : Nat) (z q : Int), z = i → q = k → k ≤ i → i + d = 8 → d < m →
    f17_l1 (pt Try.prog 17 (n + 2)) m pid 0 0 z0 q z (tb T) cs σ = some (.ret (wl T pid d i (if 0 < k then 12 else 19)).av, σ) := by
  intro d
  induction d with
  | zero =>
    intro i m k z q hz hq hk hi hm
    subst hz hq
    obtain ⟨m, rfl⟩ : ∃ k, m = k + 1 := ⟨m - 1, by omega⟩
    have e : i = 8 := by omega
    subst e
    refine f17_l1_e.some ?_
    unfold f17_l1_t
    refine f17_j2_e.some ?_
    unfold f17_j2_t
    simp only [all_tb h, xAgg_a, well_tb h, lst_tb h hc]
    by_cases hk : 0 < k
    · have d2 : decide ((k : Int) > 0) = true := by simp; omega
      rw [d2, if_pos hk]; rfl
    · have d2 : decide ((k : Int) > 0) = false := by simp; omega
      rw [d2, if_neg hk]; rfl
  | succ d ih =>
    intro i m k z q hz hq hk hi hm
    subst hz hq
    obtain ⟨m, rfl⟩ : ∃ k, m = k + 1 := ⟨m - 1, by omega⟩
    have h8 : i < 8 := by omega
    have hs : (T.set i ⟨0, 0, 0, false⟩).length = 8 := by simpa using h
    have e0 := ih (i + 1) m k _ _ rfl rfl (by omega) (by omega) (by omega)
    have e1 := ih (i + 1) m (k + 1) _ _ rfl rfl (by omega) (by omega) (by omega)
    rw [if_pos (by omega : 0 < k + 1)] at e1
    have hsk : IntKind.wrap .i64 ((k : Int) + 1) = ((k + 1 : Nat) : Int) := by rw [wrap64 (by omega) (by omega)]; simp
    refine f17_l1_e.some ?_
    unfold f17_l1_t wl childB
    have d1 : decide ((i : Int) < 8) = true := by simp; omega
    simp only [d1, cT, all_tb h, xAgg_a, callT_ok (f25_spec h h8), xBool_b, ix h8, c0 h h8, c1 h h8, c2 h h8, xInt_i, wr h h8, all_tb hs, well_tb hs, lst_tb hs hc, succ64 h8, hsk, e0, e1, bne]
    rcases Bool.eq_false_or_eq_true (fr (tg T i)) with g1 | g1 <;> rcases Bool.eq_false_or_eq_true ((i : Int) == pid) with g2 | g2 <;> rcases Bool.eq_false_or_eq_true ((tg T i).pa == pid) with g3 | g3 <;>
      rcases Bool.eq_false_or_eq_true ((tg T i).st == 2) with g4 | g4 <;> simp [g1, g2, g3, g4, WR.av]

theorem f17_spec (h : T.length = 8) (pid : Int) : callP Try.prog (n + 10) 17 [.agg (tb T), .int .i64 pid] σ = some (.ret (waitR T pid).av, σ) := by
  refine f17_e.some ?_
  unfold f17_t waitR
  simp only [ones_tb, all_tb h, xAgg_a, callT_ok (f24_spec h pid), xBool_b, well_tb h]
  cases hl : lives T pid
  · simp only [Bool.not_false, cT]
    rw [lst_tb h (by simp), all_tb h]
    simp [WR.av]
  · simp only [Bool.not_true, cF, if_true]
    exact f17_loop h pid 0 (by simp) 8 0 (n + 9) 0 0 0 rfl rfl (by omega) (by omega) (by omega)

theorem f19_spec (h : T.length = 8) (pid : Int) : callP Try.prog (n + 2) 19 [.agg (tb T), .int .i64 pid] σ = some (.ret (.tuple [.agg (tb (killT T pid)), .int .i64 (exitE T pid)]), σ) := by
  refine f19_e.some ?_
  unfold f19_t killT exitE
  simp only [ones_tb, all_tb h, xAgg_a, callT_ok (f24_spec h pid), xBool_b, well_tb h]
  cases hl : lives T pid
  · simp only [Bool.not_false, cT]
    rw [lst_tb h (by simp), all_tb h]
    simp
  · simp only [Bool.not_true, cF, if_true]
    obtain ⟨i, rfl, hi, _⟩ := lives_lt hl
    have h1 : (T.set i { tg T i with kl := true }).length = 8 := by simpa using h
    simp only [ix hi, w3 h hi, all_tb h1, xAgg_a, well_tb h1]
    rw [lst_tb h1 (by simp), all_tb h1]
    simp

theorem mod_stepR {b i : Nat} (hb : b < 8) (hi : i < 8) : Int.tmod (IntKind.wrap .i64 ((b : Int) + ((i + 1 : Nat) : Int))) 8 = (((b + 1 + i) % 8 : Nat) : Int) := by
  rw [wrap64 (by omega) (by omega), Int.tmod_eq_emod_of_nonneg (by omega)]
  omega

theorem f20_loop (h : T.length = 8) {B : List Bool} (hB : B.length = 8) {b : Nat} (hb : b < 8) (y : Int) : ∀ (d i m : Nat) (z : Int), z = (i + 1 : Nat) → i + d = 8 → d < m →
    f20_l2 (pt Try.prog 20 (n + 1)) m y b z (tb T) (bb B) σ = some (.ret (.int .i64 (nl T B b d i)), σ) := by
  intro d
  induction d with
  | zero =>
    intro i m z hz hi hm
    subst hz
    obtain ⟨m, rfl⟩ : ∃ k, m = k + 1 := ⟨m - 1, by omega⟩
    have e : i = 8 := by omega
    subst e
    refine f20_l2_e.some ?_
    unfold f20_l2_t
    refine f20_j3_e.some ?_
    unfold f20_j3_t
    rfl
  | succ d ih =>
    intro i m z hz hi hm
    subst hz
    obtain ⟨m, rfl⟩ : ∃ k, m = k + 1 := ⟨m - 1, by omega⟩
    have h8 : i < 8 := by omega
    have hk : (b + 1 + i) % 8 < 8 := Nat.mod_lt _ (by omega)
    have hsk : IntKind.wrap .i64 (((i + 1 : Nat) : Int) + 1) = ((i + 1 + 1 : Nat) : Int) := by rw [wrap64 (by omega) (by omega)]; simp
    refine f20_l2_e.some ?_
    unfold f20_l2_t nl
    have d1 : decide (((i + 1 : Nat) : Int) ≤ 8) = true := by simp; omega
    simp only [d1, cT, mod_stepR hb h8, all_tb h, xAgg_a, callT_ok (f24_spec h _), xBool_b, ix hk, busyK hB hk, hsk]
    cases hl : lives T ((b + 1 + i) % 8 : Nat)
    · simp only [cF, Bool.false_and, Bool.false_eq_true, if_false]
      exact ih (i + 1) m _ rfl (by omega) (by omega)
    · cases hb2 : bg B ((b + 1 + i) % 8)
      · simp only [Bool.not_false, cT, Bool.true_and, if_true]
      · simp only [Bool.not_true, cT, cF, Bool.and_false, Bool.false_eq_true, if_false]
        exact ih (i + 1) m _ rfl (by omega) (by omega)

theorem f20_spec (h : T.length = 8) {B : List Bool} (hB : B.length = 8) (after : Int) : callP Try.prog (n + 10) 20 [.agg (tb T), .int .i64 after, .agg (bb B)] σ = some (.ret (.int .i64 (nextT T B after)), σ) := by
  refine f20_e.some ?_
  unfold f20_t
  rw [ones_tb, onesK_ok (bb_one B)]
  have fin : ∀ x : Int, x = (base after : Int) → f20_j1 (pt Try.prog 20 (n + 9)) 0 x (tb T) (bb B) σ = some (.ret (.int .i64 (nextT T B after)), σ) := by
    intro x hx
    subst hx
    refine f20_j1_e.some ?_
    unfold f20_j1_t
    exact f20_loop h hB (base_lt after) 0 8 0 (n + 9) 1 rfl (by omega) (by omega)
  have h3 : Int.tmod after 8 = after - 8 * (Int.tdiv after 8) := by have := Int.mul_tdiv_add_tmod after 8; omega
  have h1 := Int.emod_nonneg after (b := 8) (by omega)
  have h2 := Int.emod_lt_of_pos after (b := 8) (by omega)
  have a1 := Int.tmod_lt_of_pos after (b := 8) (by omega)
  have a2 := Int.lt_tmod_of_pos after (b := 8) (by omega)
  by_cases hn : Int.tmod after 8 < 0
  · rw [show decide (Int.tmod after 8 < 0) = true from by simp [hn]]
    rw [cT]
    refine fin _ ?_
    rw [wrap64 (by omega) (by omega)]
    unfold base
    omega
  · rw [show decide (Int.tmod after 8 < 0) = false from by simp [hn]]
    rw [cF]
    refine fin _ ?_
    unfold base
    omega

end
end Go.Proofs

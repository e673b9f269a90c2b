/- TableFair: what it answers. -/
import Derived.Test.YtgaodjcjgafccaaAmTabA
namespace Go.Proofs
open Go.AM

theorem a40 : aggO Try.prog 40 = some true := by kernel_rfl
theorem s40 : szOf Try.prog 40 = 8 := by kernel_rfl
theorem i40 : (Try.prog.info? 40).isSome = true := by kernel_rfl
theorem bb_len {B : List Bool} (h : B.length = 8) : (bb B).length = 8 := by simpa [bb] using h
theorem all_bb {B : List Bool} {f : AV → Out} (h : B.length = 8) : partK Try.prog 40 (bb B) 0 f = f (.agg (bb B)) := partK_all a40 s40 (bb_len h)
theorem well_bb {B : List Bool} {x : Out} (h : B.length = 8) : wellK Try.prog 40 (bb B) x = x := wellK_ok (by rw [bb_len h, s40]) i40 (bb_one B)
theorem lst_bb {B : List Bool} {cs : List AV} {f : List AV → Out} (h : B.length = 8) (hc : cs.length = 8) : lstK cs 0 (bb B) f = f (bb B) := lstK_all (by rw [bb_len h, hc])

section
variable {T : List Rw} {B : List Bool} {n : Nat} {σ : St}

theorem nl_hit {b j : Nat} (hj : j < 8) (hl : lives T ((b + 1 + j) % 8 : Nat) = true) (hb : bg B ((b + 1 + j) % 8) = false) : ∀ (d i : Nat), i + d = 8 → i ≤ j → ∃ j', i ≤ j' ∧ j' ≤ j ∧ nl T B b d i = ((b + 1 + j') % 8 : Nat)
  | 0, i, hi, hij => by omega
  | d + 1, i, hi, hij => by
    unfold nl
    split
    · exact ⟨i, Nat.le_refl _, hij, rfl⟩
    · rename_i hn
      rcases Nat.lt_or_ge i j with hlt | hge
      · obtain ⟨j', h1, h2, h3⟩ := nl_hit hj hl hb d (i + 1) (by omega) (by omega)
        exact ⟨j', by omega, h2, h3⟩
      · have : i = j := by omega
        subst this
        rw [hl, hb] at hn
        simp at hn

theorem base_nat {k : Nat} (hk : k < 8) : base (k : Int) = k := by unfold base; omega

theorem fair_loop (h : T.length = 8) (hB : B.length = 8) {p : Nat} (hp : p < 8) (hl : lives T (p : Int) = true) (hb : bg B p = false) : ∀ (r i m : Nat) (z nn : Int), z = i → i + r = 8 → r < m → (p + 15 - base nn) % 8 < r →
    f4_l1 (pt Try.prog 4 (n + 10)) m p true nn z (tb T) (bb B) σ = some (.ret (.bool true), σ) := by
  intro r
  induction r with
  | zero => intro i m z nn _ _ _ hd; omega
  | succ r ih =>
    intro i m z nn hz hi hm hd
    subst hz
    obtain ⟨m, rfl⟩ : ∃ k, m = k + 1 := ⟨m - 1, by omega⟩
    have h8 : i < 8 := by omega
    have hbl := base_lt nn
    refine f4_l1_e.some ?_
    unfold f4_l1_t
    have d1 : decide ((i : Int) < 8) = true := by simp; omega
    simp only [d1, cT, all_tb h, all_bb hB, xAgg_a, callT_ok (f13_spec h hB nn), xInt_i, succ64 h8]
    have e1 : (base nn + 1 + (p + 15 - base nn) % 8) % 8 = p := by omega
    obtain ⟨j', _, hj', hn⟩ := nl_hit (T := T) (B := B) (b := base nn) (j := (p + 15 - base nn) % 8) (Nat.mod_lt _ (by omega)) (by rw [e1]; exact hl) (by rw [e1]; exact hb) 8 0 (by omega) (by omega)
    have hn' : nextT T B nn = (((base nn + 1 + j') % 8 : Nat) : Int) := hn
    rw [hn']
    by_cases hpe : (base nn + 1 + j') % 8 = p
    · rw [hpe]
      simp [cond_if]
    · have b1 : ((((base nn + 1 + j') % 8 : Nat) : Int) == (p : Int)) = false := by simp; omega
      have d2 : decide ((((base nn + 1 + j') % 8 : Nat) : Int) < 0) = false := by simp; omega
      simp only [b1, cF, d2]
      refine ih (i + 1) m _ _ rfl (by omega) (by omega) ?_
      rw [base_nat (Nat.mod_lt _ (by omega))]
      omega

def fairC (T : List Rw) (B : List Bool) (after pid : Int) : List AV := tb T ++ (bb B ++ [.int .i64 after, .int .i64 pid])

theorem fair (h : T.length = 8) (hB : B.length = 8) (after pid : Int) : callP Try.prog (n + 13) 4 [.agg (fairC T B after pid)] σ = some (.ret (.bool true), σ) := by
  refine f4_e.some ?_
  unfold f4_t
  have lT := tb_len h
  have lB := bb_len hB
  have e0 : (fairC T B after pid).length = 42 := by simp only [fairC, List.length_append, lT, lB]; rfl
  have e1 : ((fairC T B after pid).drop 0).take 32 = tb T := by
    rw [List.drop_zero, fairC, ← lT, List.take_left]
  have e2 : ((fairC T B after pid).drop 32).take 8 = bb B := by
    rw [fairC, ← lT, List.drop_left, ← lB, List.take_left]
  have e3 : (fairC T B after pid)[40]? = some (.int .i64 after) := by
    rw [fairC, List.getElem?_append_right (by omega), List.getElem?_append_right (by omega), lT, lB]; rfl
  have e4 : (fairC T B after pid)[41]? = some (.int .i64 pid) := by
    rw [fairC, List.getElem?_append_right (by omega), List.getElem?_append_right (by omega), lT, lB]; rfl
  have e5 : (fairC T B after pid).all AV.one = true := by
    simp only [fairC, List.all_append, all_flat rwC_one T, bb_one B]; rfl
  rw [onesK_ok e5, partK_a a27 s27 (by omega), e1]
  simp only [xAgg_a, well_tb h]
  rw [lst_tb h (by simp), partK_a a40 s40 (by omega), e2]
  simp only [xAgg_a, well_bb hB]
  rw [lst_bb hB (by simp), partK_s a3 e3]
  simp only [xInt_i]
  rw [partK_s a3 e4]
  simp only [xInt_i, callT_ok shown_true, xBool_b]
  by_cases h0 : pid < 0
  · simp [h0]
  · by_cases h7 : pid > 7
    · simp [h0, h7]
    · obtain ⟨p, rfl⟩ := Int.eq_ofNat_of_zero_le (Int.not_lt.1 h0)
      have hp : p < 8 := by omega
      have d1 : decide ((p : Int) < 0) = false := by simp
      have d2 : decide ((p : Int) > 7) = false := by simp; omega
      simp only [d1, d2, cF, ix hp, c0 h hp, busyK hB hp, xInt_i, xBool_b]
      by_cases hst : (tg T p).st = 1
      · have b1 : ((tg T p).st != 1) = false := by simp [hst]
        simp only [b1, cF]
        cases hb : bg B p with
        | true => simp
        | false =>
          simp only [cF]
          exact fair_loop h hB hp (by simp [lives, hst]; omega) hb 8 0 (n + 12) 0 after rfl (by omega) (by omega) (Nat.mod_lt _ (by omega))
      · have b1 : ((tg T p).st != 1) = true := by simp [hst]
        simp only [b1, cT]

end
end Go.Proofs

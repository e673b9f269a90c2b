/- TableWaits: what it answers. -/
import Derived.Test.YtgaodjcjgafccaaAmTabA
namespace Go.Proofs
open Go.AM

section
variable {T : List Rw} {n : Nat} {σ : St}

theorem wl_cases (pid : Int) : ∀ (d i : Nat) (e : Int), (∃ k, i ≤ k ∧ k < i + d ∧ childB T k pid = true ∧ (tg T k).st = 2 ∧ wl T pid d i e = ⟨T.set k ⟨0, 0, 0, false⟩, k, (tg T k).sta, 0⟩) ∨
    (∃ e', (e' = e ∨ e' = 12) ∧ wl T pid d i e = ⟨T, 0, 0, e'⟩)
  | 0, i, e => .inr ⟨e, .inl rfl, rfl⟩
  | d + 1, i, e => by
    unfold wl
    by_cases hc : childB T i pid = true
    · rw [if_pos hc]
      by_cases h2 : (tg T i).st = 2
      · rw [if_pos (by simp [h2])]
        exact .inl ⟨i, Nat.le_refl _, by omega, hc, h2, rfl⟩
      · rw [if_neg (by simp [h2])]
        rcases wl_cases pid d (i + 1) 12 with ⟨k, h1, h3, h4, h5, h6⟩ | ⟨e', he, h6⟩
        · exact .inl ⟨k, by omega, by omega, h4, h5, h6⟩
        · exact .inr ⟨e', .inr (by rcases he with h | h <;> exact h), h6⟩
    · rw [if_neg hc]
      rcases wl_cases pid d (i + 1) e with ⟨k, h1, h3, h4, h5, h6⟩ | ⟨e', he, h6⟩
      · exact .inl ⟨k, by omega, by omega, h4, h5, h6⟩
      · exact .inr ⟨e', he, h6⟩

theorem ol_keeps (pid : Int) {k : Nat} (hk : k < 8) : ∀ (d i : Nat) (T : List Rw), T.length = 8 → i + d ≤ 8 → (tg (ol pid d i T) k).st = (tg T k).st ∧ (tg (ol pid d i T) k).sta = (tg T k).sta ∧ (tg (ol pid d i T) k).kl = (tg T k).kl
  | 0, _, _, _, _ => ⟨rfl, rfl, rfl⟩
  | d + 1, i, T, h, hi => by
    unfold ol
    split
    · have := ol_keeps pid hk d (i + 1) (T.set i { tg T i with pa := 0 }) (by simpa using h) (by omega)
      rw [tg_set h hk] at this
      by_cases e : i = k
      · subst e; rw [if_pos rfl] at this; exact this
      · rw [if_neg e] at this; exact this
    · exact ol_keeps pid hk d (i + 1) T h (by omega)

theorem waits_j2 (h : T.length = 8) (other i3 : Int) {U : List Rw} (hU : U.length = 8) (hu : i3 = 0 ∨ U = T) : f7_j2 (pt Try.prog 7 (n + 20)) other true i3 (exitE T other) (tb T) (tb U) (tb (killT T other)) σ = some (.ret (.bool true), σ) := by
  refine f7_j2_e.some ?_
  unfold f7_j2_t
  have hK := killT_len h other
  have hW := exitT_len hK other 3
  simp only [all_tb hK, xAgg_a, callT_ok (f11_spec hK other 3), xTup_t, unC_c, xInt_i, nlC_n, well_tb hW]
  rw [lst_tb hW (by simp)]
  simp only [all_tb h, all_tb hU, xAgg_a, eq_tb hK h, eq_tb hU h, cT]
  cases hl : lives T other with
  | false =>
    have e1 : exitE T other = 5 := by simp [exitE, hl]
    have e2 : killT T other = T := by simp [killT, hl]
    rw [e1, e2, show ((5 : Int) != 0) = true from rfl, cT]
    simp
  | true =>
    obtain ⟨i, rfl, hi, hst⟩ := lives_lt hl
    have e1 : exitE T i = 0 := by simp [exitE, hl]
    have e2 : tg (killT T i) i = { tg T i with kl := true } := by
      simp only [killT, hl, if_true, Int.toNat_natCast]
      rw [tg_set h hi, if_pos rfl]
    have hl2 : lives (killT T i) i = true := by simp [lives, e2, hst]; omega
    have e3 : exitE (killT T i) i = 0 := by simp [exitE, hl2]
    have e4 : exitT (killT T i) i 3 = ol i 8 0 (endT (killT T i) i 3) := by simp [exitT, hl2]
    have e5 : tg (endT (killT T i) i 3) i = ⟨2, (tg T i).pa, 3, false⟩ := by
      unfold endT
      rw [Int.toNat_natCast, tg_set hK hi, if_pos rfl, e2]
    obtain ⟨g1, g2, g3⟩ := ol_keeps i hi 8 0 _ (endT_len hK i 3) (Nat.le_refl _)
    rw [e5] at g1 g2 g3
    rw [← e4] at g1 g2 g3
    simp only [ix hi, c0 hW hi, c2 hW hi, c3 hW hi, xInt_i, xBool_b, g1, g2, g3, e1, e3]
    rcases hu with hu | hu
    · rw [hu]
      simp [cond_if]
    · rw [hu]
      simp [cond_if]

theorem waits_j1 (h : T.length = 8) (other i3 : Int) {U : List Rw} (hU : U.length = 8) (hu : i3 = 0 ∨ U = T) : f7_j1 (pt Try.prog 7 (n + 20)) other true i3 (tb T) (tb U) σ = some (.ret (.bool true), σ) := by
  refine f7_j1_e.some ?_
  unfold f7_j1_t
  have hK := killT_len h other
  simp only [all_tb h, xAgg_a, callT_ok (f18_spec h other), xTup_t, unC_c, xInt_i, nlC_n, well_tb hK]
  rw [lst_tb hK (by simp), waits_j2 h other i3 hU hu]
  cases hl : lives T other with
  | false =>
    have e1 : exitE T other = 5 := by simp [exitE, hl]
    rw [e1]; simp
  | true =>
    obtain ⟨i, rfl, hi, hst⟩ := lives_lt hl
    have e2 : tg (killT T i) i = { tg T i with kl := true } := by
      simp only [killT, hl, if_true, Int.toNat_natCast]
      rw [tg_set h hi, if_pos rfl]
    simp only [ix hi, c0 hK hi, c3 hK hi, xInt_i, xBool_b, e2, hst]
    simp [cond_if]

theorem waits (h : T.length = 8) (pid other : Int) : callP Try.prog (n + 21) 7 [.agg (tb T), .int .i64 pid, .int .i64 other] σ = some (.ret (.bool true), σ) := by
  refine f7_e.some ?_
  unfold f7_t
  have hW := waitR_len h pid
  simp only [ones_tb, callT_ok shown_true, xBool_b, all_tb h, xAgg_a, callT_ok (f12_spec h pid), WR.av, xTup_t, unC_c, xInt_i, nlC_n, well_tb hW]
  rw [lst_tb hW (by simp)]
  cases hl : lives T pid with
  | false =>
    have e : waitR T pid = ⟨T, 0, 0, 5⟩ := by simp [waitR, hl]
    rw [e, waits_j1 h other 5 h (.inr rfl)]
    simp
  | true =>
    have e : waitR T pid = wl T pid 8 0 19 := by simp [waitR, hl]
    rcases wl_cases (T := T) pid 8 0 19 with ⟨k, _, hk, hc, h2, hw⟩ | ⟨e', he, hw⟩
    · have hk8 : k < 8 := by omega
      have hs : (T.set k ⟨0, 0, 0, false⟩).length = 8 := by simpa using h
      have hr : tg (T.set k ⟨0, 0, 0, false⟩) k = ⟨0, 0, 0, false⟩ := by rw [tg_set h hk8, if_pos rfl]
      unfold childB at hc
      simp only [Bool.and_eq_true] at hc
      obtain ⟨hc1, _, hc3⟩ := hc
      have hc3' : (tg T k).pa = pid := by simpa using hc3
      have hc1' : ((k : Int) == pid) = false := by simpa using hc1
      rw [e, hw]
      simp only [waits_j1 h other 0 hs (.inl rfl), ix hk8, c0 h hk8, c1 h hk8, c2 h hk8, cr hs hk8, hr, rwC, xInt_i, xAgg_a, unC_c, xBool_b, nlC_n, h2, hc3', hc1']
      have d1 : decide ((k : Int) < 0) = false := by simp
      have d2 : decide ((k : Int) > 7) = false := by simp; omega
      simp [d1, d2]
    · rw [e, hw, waits_j1 h other e' h (.inr rfl)]
      have : (e' == 0) = false := by rcases he with rfl | rfl <;> rfl
      rw [this, cF]

end
end Go.Proofs

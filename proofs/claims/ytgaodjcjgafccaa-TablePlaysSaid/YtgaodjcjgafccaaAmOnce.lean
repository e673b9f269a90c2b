/- TableOnce: what it answers. -/
import Derived.Test.YtgaodjcjgafccaaAmWaits
import Derived.Test.YtgaodjcjgafccaaT3
namespace Go.Proofs
open Go.AM

structure TAct where
  kind : Int
  pid : Int
  n : Int

def tactC (a : TAct) : List AV := [.int .i64 a.kind, .int .i64 a.pid, .int .i64 a.n]
theorem tactC_len (a : TAct) : (tactC a).length = 3 := rfl
abbrev tactS (l : List TAct) : St := [.cells (l.flatMap tactC) false]

theorem a30 : aggO Try.prog 30 = some true := by kernel_rfl
theorem s30 : szOf Try.prog 30 = 3 := by kernel_rfl

theorem ld_tact {l : List TAct} {i : Nat} {a : TAct} {f : AV → Out} (h : l[i]? = some a) : ldK Try.prog 30 (tactS l) 0 (0 + (i : Int).toNat * 3) f = f (.agg (tactC a)) := by
  unfold ldK cellsAt
  simp only [List.getElem?_cons_zero]
  exact partK_part tactC_len a30 s30 h (by simp)

section
variable {T : List Rw} {n : Nat}

/-! ### how many have ended -/

def dn (T : List Rw) : Nat → Nat
  | 0 => 0
  | i + 1 => dn T i + (if (tg T i).st = 2 then 1 else 0)

theorem dn_change {T U : List Rw} {k : Nat} (h : ∀ j, j < 8 → j ≠ k → (tg U j).st = (tg T j).st) : ∀ i, i ≤ 8 → dn U i + (if k < i ∧ (tg T k).st = 2 then 1 else 0) = dn T i + (if k < i ∧ (tg U k).st = 2 then 1 else 0)
  | 0, _ => by simp [dn]
  | i + 1, hi => by
    have ih := dn_change h i (by omega)
    unfold dn
    by_cases hk : k = i
    · subst hk
      simp only [Nat.lt_irrefl, false_and, if_false, Nat.add_zero] at ih
      simp only [Nat.lt_succ_self, true_and]
      omega
    · rw [h i (by omega) (Ne.symm hk)]
      have e : (k < i + 1) = (k < i) := by apply propext; omega
      simp only [e]
      omega

theorem dn_le (T : List Rw) : ∀ i, dn T i ≤ i
  | 0 => Nat.le_refl _
  | i + 1 => by
    unfold dn
    have := dn_le T i
    split <;> omega

/-! ### what holds of every table that comes about -/

structure Inv (T : List Rw) : Prop where
  len : T.length = 8
  st : ∀ k, k < 8 → (tg T k).st = 0 ∨ (tg T k).st = 1 ∨ (tg T k).st = 2
  pa : ∀ k, k < 8 → (tg T k).st ≠ 0 → ∃ p : Nat, (tg T k).pa = p ∧ p < 8 ∧ (p = 0 ∨ (p ≠ k ∧ (tg T p).st = 1))

theorem firstT_inv : Inv firstT := by
  refine ⟨rfl, ?_, ?_⟩
  · intro k hk
    match k, hk with
    | 0, _ => exact .inr (.inl rfl)
    | 1, _ | 2, _ | 3, _ | 4, _ | 5, _ | 6, _ | 7, _ => exact .inl rfl
  · intro k hk h
    match k, hk with
    | 0, _ => exact ⟨0, rfl, by omega, .inl rfl⟩
    | 1, _ | 2, _ | 3, _ | 4, _ | 5, _ | 6, _ | 7, _ => exact absurd rfl h

theorem fork_inv (h : Inv T) (pid : Int) : Inv (forkT T pid) ∧ dn (forkT T pid) 8 = dn T 8 := by
  unfold forkT
  split
  · rename_i hl
    split
    · rename_i i hf
      obtain ⟨p, rfl, hp, hst⟩ := lives_lt hl
      obtain ⟨_, hi, h0, hfr, _⟩ := ff_lt hf
      have hi8 : i < 8 := by omega
      have e1 : (tg T i).st ≠ 1 ∧ (tg T i).st ≠ 2 := by simpa [fr] using hfr
      have hpi : p ≠ i := by intro e; subst e; exact e1.1 hst
      refine ⟨⟨by simpa using h.len, ?_, ?_⟩, ?_⟩
      · intro k hk
        rw [tg_set h.len hk]
        by_cases e : i = k
        · rw [if_pos e]; exact .inr (.inl rfl)
        · rw [if_neg e]; exact h.st k hk
      · intro k hk hs
        rw [tg_set h.len hk] at hs ⊢
        by_cases e : i = k
        · subst e
          rw [if_pos rfl]
          refine ⟨p, rfl, hp, .inr ⟨hpi, ?_⟩⟩
          rw [tg_set h.len hp, if_neg (Ne.symm hpi)]; exact hst
        · rw [if_neg e] at hs ⊢
          obtain ⟨q, hq1, hq2, hq3⟩ := h.pa k hk hs
          refine ⟨q, hq1, hq2, ?_⟩
          rcases hq3 with hq3 | ⟨hq3, hq4⟩
          · exact .inl hq3
          · refine .inr ⟨hq3, ?_⟩
            have : i ≠ q := by intro e; subst e; exact e1.1 hq4
            rw [tg_set h.len hq2, if_neg this]; exact hq4
      · have := dn_change (T := T) (U := T.set i ⟨1, p, 0, false⟩) (k := i) (fun j hj hne => by rw [tg_set h.len hj, if_neg (Ne.symm hne)]) 8 (Nat.le_refl _)
        rw [tg_set h.len hi8, if_pos rfl] at this
        simp [e1.2] at this
        exact this
    · exact ⟨h, rfl⟩
  · exact ⟨h, rfl⟩

/-- What the orphans' round leaves of each. -/
theorem ol_row (pid : Int) {k : Nat} (hk : k < 8) : ∀ (d i : Nat) (T : List Rw), T.length = 8 → i + d ≤ 8 →
    tg (ol pid d i T) k = if (i ≤ k ∧ k < i + d) ∧ childB T k pid = true then { tg T k with pa := 0 } else tg T k
  | 0, i, T, h, hi => by
    unfold ol
    rw [if_neg (by omega)]
  | d + 1, i, T, h, hi => by
    unfold ol
    by_cases hc : childB T i pid = true
    · rw [if_pos hc]
      have hs : (T.set i { tg T i with pa := 0 }).length = 8 := by simpa using h
      rw [ol_row pid hk d (i + 1) _ hs (by omega)]
      by_cases e : i = k
      · subst e
        rw [if_neg (by omega), if_pos ⟨⟨Nat.le_refl _, by omega⟩, hc⟩, tg_set h hk, if_pos rfl]
      · have e2 : tg (T.set i { tg T i with pa := 0 }) k = tg T k := by rw [tg_set h hk, if_neg e]
        have e3 : childB (T.set i { tg T i with pa := 0 }) k pid = childB T k pid := by unfold childB; rw [e2]
        rw [e2, e3]
        have : (i + 1 ≤ k ∧ k < i + 1 + d) = (i ≤ k ∧ k < i + (d + 1)) := by apply propext; omega
        simp only [this]
    · rw [if_neg hc, ol_row pid hk d (i + 1) T h (by omega)]
      by_cases e : i = k
      · subst e
        rw [if_neg (by omega), if_neg (by simp [hc])]
      · have : (i + 1 ≤ k ∧ k < i + 1 + d) = (i ≤ k ∧ k < i + (d + 1)) := by apply propext; omega
        simp only [this]

theorem exit_inv (h : Inv T) (pid s : Int) : Inv (exitT T pid s) ∧ dn (exitT T pid s) 8 = dn T 8 + (if exitE T pid = 0 then 1 else 0) := by
  unfold exitT exitE
  cases hl : lives T pid with
  | false => exact ⟨h, by simp⟩
  | true =>
    simp only [if_true]
    obtain ⟨p, rfl, hp, hst⟩ := lives_lt hl
    have hE := endT_len h.len p s
    have row : ∀ k, k < 8 → tg (endT T p s) k = if p = k then ⟨2, (tg T p).pa, s, false⟩ else tg T k := by
      intro k hk
      unfold endT
      rw [Int.toNat_natCast, tg_set h.len hk]
    have row2 : ∀ k, k < 8 → tg (ol p 8 0 (endT T p s)) k = if childB (endT T p s) k p = true then { tg (endT T p s) k with pa := 0 } else tg (endT T p s) k := by
      intro k hk
      rw [ol_row p hk 8 0 _ hE (Nat.le_refl _)]
      have : ((0 ≤ k ∧ k < 0 + 8) ∧ childB (endT T p s) k p = true) = (childB (endT T p s) k p = true) := by apply propext; constructor <;> intro h <;> simp_all
      simp only [this]
    have st2 : ∀ k, k < 8 → (tg (ol p 8 0 (endT T p s)) k).st = if p = k then 2 else (tg T k).st := by
      intro k hk
      rw [row2 k hk]
      split <;> (rw [row k hk]; split <;> rfl)
    refine ⟨⟨ol_len _ _ _ _ hE, ?_, ?_⟩, ?_⟩
    · intro k hk
      rw [st2 k hk]
      split
      · exact .inr (.inr rfl)
      · exact h.st k hk
    · intro k hk hs
      rw [st2 k hk] at hs
      by_cases e : p = k
      · subst e
        obtain ⟨q, hq1, hq2, hq3⟩ := h.pa p hp (by rw [hst]; decide)
        have hnc : childB (endT T p s) p p = false := by simp [childB]
        rw [row2 p hp, hnc, row p hp]
        simp only [Bool.false_eq_true, if_false, if_true]
        refine ⟨q, hq1, hq2, ?_⟩
        rcases hq3 with hq3 | ⟨hq3, hq4⟩
        · exact .inl hq3
        · refine .inr ⟨hq3, ?_⟩
          rw [st2 q hq2, if_neg (Ne.symm hq3)]; exact hq4
      · rw [if_neg e] at hs
        obtain ⟨q, hq1, hq2, hq3⟩ := h.pa k hk hs
        by_cases hc : childB (endT T p s) k p = true
        · rw [row2 k hk, if_pos hc]
          exact ⟨0, rfl, by omega, .inl rfl⟩
        · rw [row2 k hk, if_neg hc, row k hk, if_neg e]
          refine ⟨q, hq1, hq2, ?_⟩
          rcases hq3 with hq3 | ⟨hq3, hq4⟩
          · exact .inl hq3
          · refine .inr ⟨hq3, ?_⟩
            have hqp : p ≠ q := by
              intro e2
              subst e2
              apply hc
              unfold childB fr
              rw [row k hk, if_neg e, hq1]
              rcases h.st k hk with h0 | h0 | h0
              · exact absurd h0 hs
              · simp [h0]; omega
              · simp [h0]; omega
            rw [st2 q hq2, if_neg hqp]; exact hq4
    · have := dn_change (T := T) (U := ol p 8 0 (endT T p s)) (k := p) (fun j hj hne => by rw [st2 j hj, if_neg (Ne.symm hne)]) 8 (Nat.le_refl _)
      rw [st2 p hp, if_pos rfl, hst] at this
      simp [hp] at this
      exact this

theorem wait_inv (h : Inv T) (pid : Int) : Inv (waitR T pid).t ∧ dn (waitR T pid).t 8 + (if (waitR T pid).e = 0 then 1 else 0) = dn T 8 := by
  unfold waitR
  cases hl : lives T pid with
  | false => exact ⟨h, by simp⟩
  | true =>
    simp only [if_true]
    rcases wl_cases (T := T) pid 8 0 19 with ⟨k, _, hk, hc, h2, hw⟩ | ⟨e', he, hw⟩
    · rw [hw]
      have hk8 : k < 8 := by omega
      refine ⟨⟨by simpa using h.len, ?_, ?_⟩, ?_⟩
      · intro j hj
        rw [tg_set h.len hj]
        split
        · exact .inl rfl
        · exact h.st j hj
      · intro j hj hs
        rw [tg_set h.len hj] at hs ⊢
        by_cases e : k = j
        · rw [if_pos e] at hs; exact absurd rfl hs
        · rw [if_neg e] at hs ⊢
          obtain ⟨q, hq1, hq2, hq3⟩ := h.pa j hj hs
          refine ⟨q, hq1, hq2, ?_⟩
          rcases hq3 with hq3 | ⟨hq3, hq4⟩
          · exact .inl hq3
          · refine .inr ⟨hq3, ?_⟩
            have : k ≠ q := by intro e2; subst e2; rw [h2] at hq4; cases hq4
            rw [tg_set h.len hq2, if_neg this]; exact hq4
      · have := dn_change (T := T) (U := T.set k ⟨0, 0, 0, false⟩) (k := k) (fun j hj hne => by rw [tg_set h.len hj, if_neg (Ne.symm hne)]) 8 (Nat.le_refl _)
        rw [tg_set h.len hk8, if_pos rfl, h2] at this
        simp [hk8] at this
        simpa using this
    · rw [hw]
      refine ⟨h, ?_⟩
      rcases he with rfl | rfl <;> simp

/-! ### the run -/

variable {l : List TAct} {m0 : Nat}

theorem once_in {σ : St} (h : Inv T) {a1 : Option (Nat × Nat)} {n2 : Nat} {c3 : Option Nat} {z4 : Nat} {i6 i7 i8 : Int} {R : Out} (hj : f3_j6 (pt Try.prog 3 n) m0 a1 n2 c3 z4 true i6 i7 i8 (dn T 8 : Nat) (tb T) σ = R) (hR : ∃ o, R = some o) :
    ∀ (d k m1 : Nat) (q z : Int), z = k → q = dn T k → k + d = 8 → d < m1 → f3_l4 (pt Try.prog 3 n) m0 m1 a1 n2 c3 z4 true i6 i7 i8 q z (tb T) σ = R := by
  obtain ⟨o, rfl⟩ := hR
  intro d
  induction d with
  | zero =>
    intro k m1 q z hz hq hk hm
    subst hz hq
    obtain ⟨m, rfl⟩ : ∃ k, m1 = k + 1 := ⟨m1 - 1, by omega⟩
    have e : k = 8 := by omega
    subst e
    refine f3_l4_e.some ?_
    unfold f3_l4_t
    have d1 : decide (((8 : Nat) : Int) < 8) = false := rfl
    rw [d1, cF]
    exact hj
  | succ d ih =>
    intro k m1 q z hz hq hk hm
    subst hz hq
    obtain ⟨m, rfl⟩ : ∃ k, m1 = k + 1 := ⟨m1 - 1, by omega⟩
    have h8 : k < 8 := by omega
    have hdl := dn_le T k
    have hsd : IntKind.wrap .i64 ((dn T k : Int) + 1) = ((dn T k + 1 : Nat) : Int) := by rw [wrap64 (by omega) (by omega)]; simp
    have j5 : f3_j5 (pt Try.prog 3 n) m0 m a1 n2 c3 z4 true i6 i7 i8 (dn T (k + 1) : Nat) k (tb T) σ = some o := by
      refine f3_j5_e.some ?_
      unfold f3_j5_t
      have nx := ih (k + 1) m _ _ rfl rfl (by omega) (by omega)
      simp only [ix h8, c0 h.len h8, c1 h.len h8, xInt_i, succ64 h8, nx]
      by_cases hs : (tg T k).st = 0
      · have b1 : ((tg T k).st != 0) = false := by simp [hs]
        simp only [b1, cF]
      · have b1 : ((tg T k).st != 0) = true := by simp [hs]
        obtain ⟨p, hp1, hp2, hp3⟩ := h.pa k h8 hs
        have d2 : decide ((p : Int) < 0) = false := by simp
        have d3 : decide ((p : Int) > 7) = false := by simp; omega
        simp only [b1, cT, hp1, d2, d3, cF, ix hp2, c0 h.len hp2, xInt_i]
        rcases hp3 with rfl | ⟨_, hp3⟩
        · have b2 : (((0 : Nat) : Int) != 0) = false := rfl
          simp only [b2, cF]
        · have b3 : ((tg T p).st != 1) = false := by simp [hp3]
          cases hb : ((p : Int) != 0)
          · simp only [cF]
          · simp only [cT, b3, cF]
    refine f3_l4_e.some ?_
    unfold f3_l4_t
    have d1 : decide ((k : Int) < 8) = true := by simp; omega
    simp only [d1, cT, ix h8, c0 h.len h8, xInt_i, hsd]
    by_cases h2 : (tg T k).st = 2
    · have e : dn T (k + 1) = dn T k + 1 := by rw [dn, if_pos h2]
      rw [e] at j5
      have b1 : ((tg T k).st == 2) = true := by simp [h2]
      simp only [b1, cT]
      exact j5
    · have e : dn T (k + 1) = dn T k := by rw [dn, if_neg h2, Nat.add_zero]
      rw [e] at j5
      have b1 : ((tg T k).st == 2) = false := by simp [h2]
      simp only [b1, cF]
      exact j5

theorem once_loop (hlen : l.length ≤ 9007199254740992) : ∀ (d i m e t : Nat) (T : List Rw) (z : Int), z = i → i + d = l.length → d < m → Inv T → e = t + dn T 8 → e ≤ i →
    f3_l1 (pt Try.prog 3 (n + 20)) m (some (0, 0)) l.length none 3 true e t z (tb T) (tactS l) = some (.ret (.bool true), tactS l) := by
  intro d
  induction d with
  | zero =>
    intro i m e t T z hz hi hm _ _ _
    subst hz
    obtain ⟨m, rfl⟩ : ∃ k, m = k + 1 := ⟨m - 1, by omega⟩
    refine f3_l1_e.some ?_
    unfold f3_l1_t
    have d1 : decide ((i : Int) < (l.length : Int)) = false := by simp; omega
    rw [d1, cF]
    exact f3_j3_e.some rfl
  | succ d ih =>
    intro i m e t T z hz hi hm hT he hle
    subst hz
    obtain ⟨m, rfl⟩ : ∃ k, m = k + 1 := ⟨m - 1, by omega⟩
    have hil : i < l.length := by omega
    obtain ⟨a, ha⟩ : ∃ a, l[i]? = some a := ⟨l[i], List.getElem?_eq_getElem hil⟩
    have hsi : IntKind.wrap .i64 ((i : Int) + 1) = ((i + 1 : Nat) : Int) := by rw [wrap64 (by omega) (by omega)]; simp
    have tail : ∀ (T' : List Rw) (e' t' : Nat), Inv T' → e' = t' + dn T' 8 → e' ≤ i + 1 →
        f3_j2 (pt Try.prog 3 (n + 20)) m (some (0, 0)) l.length none 3 true e' t' i (tb T') (tactS l) = some (.ret (.bool true), tactS l) := by
      intro T' e' t' hT' he' hle'
      refine f3_j2_e.some ?_
      unfold f3_j2_t
      refine once_in hT' ?_ ⟨_, rfl⟩ 8 0 (n + 20) 0 0 rfl rfl (by omega) (by omega)
      refine f3_j6_e.some ?_
      unfold f3_j6_t
      have hw : IntKind.wrap .i64 ((t' : Int) + ((dn T' 8 : Nat) : Int)) = (e' : Int) := by rw [wrap64 (by omega) (by omega)]; omega
      have b1 : ((e' : Int) != (e' : Int)) = false := by simp
      rw [hw, b1, cF]
      refine f3_j7_e.some ?_
      unfold f3_j7_t
      rw [hsi]
      exact ih (i + 1) m e' t' T' _ rfl (by omega) (by omega) hT' he' (by omega)
    have hle8 := dn_le T 8
    have hse : IntKind.wrap .i64 ((e : Int) + 1) = ((e + 1 : Nat) : Int) := by rw [wrap64 (by omega) (by omega)]; simp
    have hst : IntKind.wrap .i64 ((t : Int) + 1) = ((t + 1 : Nat) : Int) := by rw [wrap64 (by omega) (by omega)]; simp
    obtain ⟨f1, f2⟩ := fork_inv hT a.pid
    obtain ⟨x1, x2⟩ := exit_inv hT a.pid a.n
    obtain ⟨w1, w2⟩ := wait_inv hT a.pid
    refine f3_l1_e.some ?_
    unfold f3_l1_t
    have d1 : decide ((i : Int) < (l.length : Int)) = true := by simp; omega
    rw [d1, cT, idxK_ok (by omega), derefK_s, szK_s, ld_tact ha]
    simp only [xAgg_a, tactC, unC_c, xInt_i, nlC_n, all_tb hT.len, callT_ok (f10_spec hT.len a.pid), callT_ok (f11_spec hT.len a.pid a.n), callT_ok (f12_spec hT.len a.pid), WR.av, xTup_t,
      well_tb f1.len, well_tb x1.len, well_tb w1.len, lst_tb f1.len (tb_len hT.len), lst_tb x1.len (tb_len hT.len), lst_tb w1.len (tb_len hT.len), hse, hst]
    by_cases k1 : a.kind = 1
    · have b1 : (a.kind == 1) = true := by simp [k1]
      simp only [b1, cT]
      exact tail _ e t f1 (by rw [f2]; exact he) (by omega)
    · have b1 : (a.kind == 1) = false := by simp [k1]
      simp only [b1, cF]
      by_cases k2 : a.kind = 2
      · have b2 : (a.kind == 2) = true := by simp [k2]
        simp only [b2, cT]
        by_cases hx : exitE T a.pid = 0
        · have b3 : (exitE T a.pid == 0) = true := by simp [hx]
          rw [if_pos hx] at x2
          simp only [b3, cT]
          exact tail _ (e + 1) t x1 (by omega) (by omega)
        · have b3 : (exitE T a.pid == 0) = false := by simp [hx]
          rw [if_neg hx] at x2
          simp only [b3, cF]
          exact tail _ e t x1 (by omega) (by omega)
      · have b2 : (a.kind == 2) = false := by simp [k2]
        simp only [b2, cF]
        by_cases k3 : a.kind = 3
        · have b3 : (a.kind == 3) = true := by simp [k3]
          simp only [b3, cT]
          by_cases hx : (waitR T a.pid).e = 0
          · have b4 : ((waitR T a.pid).e == 0) = true := by simp [hx]
            rw [if_pos hx] at w2
            simp only [b4, cT]
            exact tail _ e (t + 1) w1 (by omega) (by omega)
          · have b4 : ((waitR T a.pid).e == 0) = false := by simp [hx]
            rw [if_neg hx] at w2
            simp only [b4, cF]
            exact tail _ e t w1 (by omega) (by omega)
        · have b3 : (a.kind == 3) = false := by simp [k3]
          simp only [b3, cF]
          exact tail _ e t hT he (by omega)

theorem once (hlen : l.length ≤ 9007199254740992) : callP Try.prog (l.length + n + 21) 3 [.slice (some (0, 0)) l.length none 3] (tactS l) = some (.ret (.bool true), tactS l) := by
  refine f3_e.some ?_
  unfold f3_t
  rw [show l.length + n + 20 = (l.length + n) + 20 from rfl]
  simp only [callT_ok shown_true, xBool_b, callT_ok f9_spec, xAgg_a, well_tb firstT_len]
  rw [lst_tb firstT_len (by simp)]
  exact once_loop (n := l.length + n) hlen l.length 0 _ 0 0 _ 0 rfl (by omega) (by omega) firstT_inv rfl (by omega)

theorem once_nil {σ : St} {c : Option Nat} {z : Nat} : callP Try.prog (n + 21) 3 [.slice none 0 c z] σ = some (.ret (.bool true), σ) := by
  refine f3_e.some ?_
  unfold f3_t
  simp only [callT_ok shown_true, xBool_b, callT_ok f9_spec, xAgg_a, well_tb firstT_len]
  rw [lst_tb firstT_len (by simp)]
  refine f3_l1_e.some ?_
  unfold f3_l1_t
  have d1 : decide ((0 : Int) < ((0 : Nat) : Int)) = false := rfl
  rw [d1, cF]
  exact f3_j3_e.some rfl

end
end Go.Proofs

/- TablePlays: what it answers. -/
import Derived.Test.YtgaodjcjgafccaaAmOnce
import Derived.Test.YtgaodjcjgafccaaAmFair
namespace Go.Proofs
open Go.AM

section
variable {T : List Rw} {B : List Bool} {n : Nat} {l : List TAct}

theorem eq_self {f : Bool → Out} (h : T.length = 8) : eqK Try.prog 27 (.agg (tb T)) (.agg (tb T)) f = f true := by rw [eq_tb h h]; simp
theorem ne_self (i : Int) : (i != i) = false := by simp

theorem plays_j4 (hB : B.length = 8) {i : Nat} (hil : i < l.length) (hlen : l.length ≤ 9007199254740992) {m : Nat} {R : Out} (h : T.length = 8)
    (hR : ∃ o, R = some o) (nx : f6_l3 (pt Try.prog 6 (n + 20)) m (some (0, 0)) l.length none 3 true ((i + 1 : Nat) : Int) (tb T) (bb B) (tb T) (tactS l) = R) (x y z : Int) :
    f6_j4 (pt Try.prog 6 (n + 20)) m (some (0, 0)) l.length none 3 true i (tb T) (bb B) (tb T) x y z (tactS l) = R := by
  obtain ⟨o, rfl⟩ := hR
  have hsi : IntKind.wrap .i64 ((i : Int) + 1) = ((i + 1 : Nat) : Int) := by rw [wrap64 (by omega) (by omega)]; simp
  refine f6_j4_e.some ?_
  unfold f6_j4_t
  simp only [all_tb h, all_bb hB, xAgg_a, callTD_ok (f13_spec h hB z), callTD_ok (f20_spec h hB z), xInt_i, ne_self, cF, hsi]
  exact nx

theorem plays_loop (hB : B.length = 8) (hlen : l.length ≤ 9007199254740992) : ∀ (d i m : Nat) (T : List Rw) (z : Int), T.length = 8 → z = i → i + d = l.length → d < m →
    f6_l3 (pt Try.prog 6 (n + 20)) m (some (0, 0)) l.length none 3 true z (tb T) (bb B) (tb T) (tactS l) = some (.ret (.bool true), tactS l) := by
  intro d
  induction d with
  | zero =>
    intro i m T z h hz hi hm
    subst hz
    obtain ⟨m, rfl⟩ : ∃ k, m = k + 1 := ⟨m - 1, by omega⟩
    refine f6_l3_e.some ?_
    unfold f6_l3_t
    have d1 : decide ((i : Int) < (l.length : Int)) = false := by simp; omega
    rw [d1, cF]
    exact f6_j5_e.some rfl
  | succ d ih =>
    intro i m T z h hz hi hm
    subst hz
    obtain ⟨m, rfl⟩ : ∃ k, m = k + 1 := ⟨m - 1, by omega⟩
    have hil : i < l.length := by omega
    obtain ⟨a, ha⟩ : ∃ a, l[i]? = some a := ⟨l[i], List.getElem?_eq_getElem hil⟩
    have j4 : ∀ T : List Rw, T.length = 8 → f6_j4 (pt Try.prog 6 (n + 20)) m (some (0, 0)) l.length none 3 true i (tb T) (bb B) (tb T) a.kind a.pid a.n (tactS l) = some (.ret (.bool true), tactS l) := by
      intro T h
      exact plays_j4 hB hil hlen h ⟨_, rfl⟩ (ih (i + 1) m T _ h rfl (by omega) (by omega)) _ _ _
    have hF := forkT_len h a.pid
    have hX := exitT_len h a.pid a.n
    have hW := waitR_len h a.pid
    have hK := killT_len h a.pid
    refine f6_l3_e.some ?_
    unfold f6_l3_t
    have d1 : decide ((i : Int) < (l.length : Int)) = true := by simp; omega
    rw [d1, cT, idxK_ok (by omega), derefK_s, szK_s, ld_tact ha]
    simp only [xAgg_a, tactC, unC_c, xInt_i, nlC_n, all_tb h]
    by_cases k1 : a.kind = 1
    · have b1 : (a.kind == 1) = true := by simp [k1]
      rw [b1, cT]
      simp only [callT_ok (f10_spec h a.pid), callT_ok (f15_spec h a.pid), xTup_t, unC_c, xAgg_a, xInt_i, nlC_n, well_tb hF]
      rw [lst_tb hF (by simp), lst_tb hF (by simp)]
      simp only [all_tb hF, xAgg_a, eq_self hF, Bool.not_true, cF, ne_self, well_tb hF, lst_tb hF (tb_len h)]
      exact j4 _ hF
    · have b1 : (a.kind == 1) = false := by simp [k1]
      rw [b1, cF]
      by_cases k2 : a.kind = 2
      · have b2 : (a.kind == 2) = true := by simp [k2]
        rw [b2, cT]
        simp only [callT_ok (f11_spec h a.pid a.n), callT_ok (f16_spec h a.pid a.n), xTup_t, unC_c, xAgg_a, xInt_i, nlC_n, well_tb hX]
        rw [lst_tb hX (by simp), lst_tb hX (by simp)]
        simp only [all_tb hX, xAgg_a, eq_self hX, Bool.not_true, cF, ne_self, well_tb hX, lst_tb hX (tb_len h)]
        exact j4 _ hX
      · have b2 : (a.kind == 2) = false := by simp [k2]
        rw [b2, cF]
        by_cases k3 : a.kind = 3
        · have b3 : (a.kind == 3) = true := by simp [k3]
          rw [b3, cT]
          simp only [callT_ok (f12_spec h a.pid), callT_ok (f17_spec h a.pid), WR.av, xTup_t, unC_c, xAgg_a, xInt_i, nlC_n, well_tb hW]
          rw [lst_tb hW (by simp), lst_tb hW (by simp)]
          simp only [all_tb hW, xAgg_a, eq_self hW, Bool.not_true, cF, ne_self, well_tb hW, lst_tb hW (tb_len h)]
          exact j4 _ hW
        · have b3 : (a.kind == 3) = false := by simp [k3]
          rw [b3, cF]
          by_cases k4 : a.kind = 4
          · have b4 : (a.kind == 4) = true := by simp [k4]
            rw [b4, cT]
            simp only [callT_ok (f18_spec h a.pid), callT_ok (f19_spec h a.pid), xTup_t, unC_c, xAgg_a, xInt_i, nlC_n, well_tb hK]
            rw [lst_tb hK (by simp), lst_tb hK (by simp)]
            simp only [all_tb hK, xAgg_a, eq_self hK, Bool.not_true, cF, ne_self, well_tb hK, lst_tb hK (tb_len h)]
            exact j4 _ hK
          · have b4 : (a.kind == 4) = false := by simp [k4]
            rw [b4, cF]
            exact j4 _ h

theorem plays_nil {σ : St} {c : Option Nat} {z : Nat} (m : Nat) : f6_l3 (pt Try.prog 6 n) (m + 1) none 0 c z true 0 (tb T) (bb B) (tb T) σ = some (.ret (.bool true), σ) := by
  refine f6_l3_e.some ?_
  unfold f6_l3_t
  have d1 : decide ((0 : Int) < ((0 : Nat) : Int)) = false := rfl
  rw [d1, cF]
  exact f6_j5_e.some rfl

def playC (T : List Rw) (first : Bool) (B : List Bool) (s : AV) : List AV := tb T ++ ([.bool first] ++ (bb B ++ [s]))

theorem a22 : aggO Try.prog 22 = some false := by kernel_rfl

theorem plays_go (h : T.length = 8) (hB : B.length = 8) (first : Bool) {a : Option (Nat × Nat)} {k : Nat} {c : Option Nat} {z : Nat} {σ : St} {o : Res × St}
    (hl : ∀ T : List Rw, T.length = 8 → f6_l3 (pt Try.prog 6 (n + 20)) (n + 20) a k c z true 0 (tb T) (bb B) (tb T) σ = some o) :
    callP Try.prog (n + 21) 6 [.agg (playC T first B (.slice a k c z))] σ = some o := by
  refine f6_e.some ?_
  unfold f6_t
  have lT := tb_len h
  have lB := bb_len hB
  have e0 : (playC T first B (.slice a k c z)).length = 42 := by simp only [playC, List.length_append, lT, lB]; rfl
  have e1 : ((playC T first B (.slice a k c z)).drop 0).take 32 = tb T := by rw [List.drop_zero, playC, ← lT, List.take_left]
  have e2 : (playC T first B (.slice a k c z))[32]? = some (.bool first) := by
    rw [playC, List.getElem?_append_right (by omega), lT]; rfl
  have e3 : ((playC T first B (.slice a k c z)).drop 33).take 8 = bb B := by
    have : playC T first B (.slice a k c z) = (tb T ++ [.bool first]) ++ (bb B ++ [.slice a k c z]) := by simp [playC]
    have l33 : (tb T ++ [AV.bool first]).length = 33 := by rw [List.length_append, lT]; rfl
    rw [this, ← l33, List.drop_left, ← lB, List.take_left]
  have e4 : (playC T first B (.slice a k c z))[41]? = some (.slice a k c z) := by
    have : playC T first B (.slice a k c z) = (tb T ++ ([.bool first] ++ bb B)) ++ [.slice a k c z] := by simp [playC]
    have l41 : (tb T ++ ([AV.bool first] ++ bb B)).length = 41 := by rw [List.length_append, List.length_append, lT, lB]; rfl
    rw [this, List.getElem?_append_right (by omega), l41]; rfl
  have e5 : (playC T first B (.slice a k c z)).all AV.one = true := by
    simp only [playC, List.all_append, all_flat rwC_one T, bb_one B]; rfl
  rw [onesK_ok e5, partK_a a27 s27 (by omega), e1]
  simp only [xAgg_a, well_tb h]
  rw [lst_tb h (by simp), partK_s a4 e2]
  simp only [xBool_b]
  rw [partK_a a40 s40 (by omega), e3]
  simp only [xAgg_a, well_bb hB]
  rw [lst_bb hB (by simp), partK_s a22 e4]
  simp only [xSl_s, callT_ok shown_true, xBool_b]
  have j2 : ∀ T : List Rw, T.length = 8 → f6_j2 (pt Try.prog 6 (n + 20)) a k c z true (tb T) (bb B) σ = some o := by
    intro T h
    refine f6_j2_e.some ?_
    unfold f6_j2_t
    simp only [all_tb h, xAgg_a, well_tb h]
    rw [lst_tb h (by simp)]
    exact hl T h
  cases first with
  | true =>
    rw [cT]
    simp only [callT_ok f9_spec, xAgg_a, well_tb firstT_len, lst_tb firstT_len (tb_len h)]
    refine f6_j1_e.some ?_
    unfold f6_j1_t
    rw [cT]
    simp only [all_tb firstT_len, xAgg_a, callTD_ok f14_spec, eq_self firstT_len, Bool.not_true, cF]
    exact j2 _ firstT_len
  | false =>
    rw [cF]
    refine f6_j1_e.some ?_
    unfold f6_j1_t
    rw [cF]
    exact j2 _ h

theorem plays (h : T.length = 8) (hB : B.length = 8) (first : Bool) (hlen : l.length ≤ 9007199254740992) :
    callP Try.prog (l.length + n + 21) 6 [.agg (playC T first B (.slice (some (0, 0)) l.length none 3))] (tactS l) = some (.ret (.bool true), tactS l) :=
  plays_go (n := l.length + n) h hB first fun T h => plays_loop hB hlen l.length 0 _ T 0 h rfl (by omega) (by omega)

theorem plays_none (h : T.length = 8) (hB : B.length = 8) (first : Bool) {σ : St} {c : Option Nat} {z : Nat} :
    callP Try.prog (n + 21) 6 [.agg (playC T first B (.slice none 0 c z))] σ = some (.ret (.bool true), σ) :=
  plays_go h hB first fun _ _ => plays_nil (n + 19)

end
end Go.Proofs

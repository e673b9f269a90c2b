/- Which instructions there are: both texts say the same. -/
import Derived.Test.YtidammkjfdonaaaDoorGives
namespace Go.Proofs.Inst
open Go.AM Go.Proofs

theorem tmod0 (v k : Int) : (Int.tmod v k == 0) = decide (v % k = 0) := by
  have : Int.tmod v k = 0 ↔ v % k = 0 := by rw [← Int.dvd_iff_tmod_eq_zero, ← Int.dvd_iff_emod_eq_zero]
  rw [Bool.eq_iff_iff]; simp [this]

def hasB (f op : Int) : List Bool :=
  if f = 1 ∨ f = 2 then [true, false, false, true]
  else if f = 3 ∨ f = 6 ∨ f = 7 then [true, true, false, true]
  else if f = 4 ∨ f = 5 then [false, true, true, true]
  else if f = 8 then [true, true, true, false]
  else if f = 9 then [true, true, decide (op ≠ 66 ∧ op ≠ 77), true]
  else [false, false, false, false]

theorem ten {f : Int} (h : 1 ≤ f ∧ f ≤ 10) : f = 1 ∨ f = 2 ∨ f = 3 ∨ f = 4 ∨ f = 5 ∨ f = 6 ∨ f = 7 ∨ f = 8 ∨ f = 9 ∨ f = 10 := by omega

theorem ret_fields {f op : Int} (h : 1 ≤ f ∧ f ≤ 10) : Ret 24 [.int .u32 f, .int .i64 op] 1 (.agg ((hasB f op).map .bool)) := .mk fun n _ σ _ => by
  rcases ten h with rfl | rfl | rfl | rfl | rfl | rfl | rfl | rfl | rfl | rfl <;> (refine .le f24_e ?_; unfold f24_t; simp only [Int.reduceBEq, cT, cF])
  · refine .le f24_j1_e ?_; unfold f24_j1_t; exact .ret (.refl _)
  · refine .le f24_j2_e ?_; unfold f24_j2_t; simp only [Int.reduceBEq, cT, cF]; exact .ret (.refl _)
  all_goals (refine .le f24_j2_e ?_; unfold f24_j2_t; simp only [Int.reduceBEq, cT, cF])
  · refine .le f24_j3_e ?_; unfold f24_j3_t; exact .ret (.refl _)
  · refine .le f24_j4_e ?_; unfold f24_j4_t; simp only [Int.reduceBEq, cT, cF]; refine .le f24_j5_e ?_; unfold f24_j5_t; exact .ret (.refl _)
  · refine .le f24_j4_e ?_; unfold f24_j4_t; simp only [Int.reduceBEq, cF]; refine .le f24_j6_e ?_; unfold f24_j6_t; simp only [cT]; exact .ret (.refl _)
  · refine .le f24_j3_e ?_; unfold f24_j3_t; exact .ret (.refl _)
  · refine .le f24_j4_e ?_; unfold f24_j4_t; simp only [cT]; exact .ret (.refl _)
  all_goals (refine .le f24_j4_e ?_; unfold f24_j4_t; simp only [Int.reduceBEq, cF]; refine .le f24_j6_e ?_; unfold f24_j6_t; simp only [Int.reduceBEq, cT, cF])
  · exact .ret (.refl _)
  · by_cases h1 : op = 66
    · subst h1; exact .ret (.refl _)
    · by_cases h2 : op = 77
      · subst h2; exact .ret (.refl _)
      · have e1 : (op != (66 : Int)) = true := by simp [h1]
        have e2 : (op != (77 : Int)) = true := by simp [h2]
        simp only [e1, e2, cT]
        exact .ret (.refl _) (by simp [hasB, h1, h2])
  · exact .ret (.refl _)

/-- May a number stand in a form? -/
def spansB (f v : Int) : Bool :=
  if f = 1 then decide (-2147483648 ≤ v ∧ v < 2147483648 ∧ v % 4096 = 0)
  else if f = 2 then decide (-1048576 ≤ v ∧ v < 1048576 ∧ v % 2 = 0)
  else if f = 4 then decide (-4096 ≤ v ∧ v < 4096 ∧ v % 2 = 0)
  else if f = 6 then decide (0 ≤ v ∧ v < 64)
  else if f = 7 then decide (0 ≤ v ∧ v < 32)
  else if f = 9 then decide (0 ≤ v ∧ v < 4)
  else decide (-2048 ≤ v ∧ v < 2048)

theorem ret_spans {f v : Int} (h : 1 ≤ f ∧ f ≤ 10) : Ret 25 [.int .u32 f, .int .i64 v] 1 (.bool (spansB f v)) := .mk fun n _ σ _ => by
  rcases ten h with rfl | rfl | rfl | rfl | rfl | rfl | rfl | rfl | rfl | rfl <;>
  (refine .le f25_e ?_; unfold f25_t; simp only [Int.reduceBEq, cT, cF, tmod0]
   refine .ite (fun h1 => ?_) (fun h1 => ?_)) <;>
  first
  | (refine .ite (fun h2 => ?_) (fun h2 => ?_) <;> refine .ret (.refl _) ?_ <;> simp only [decide_eq_true_eq, decide_eq_false_iff_not] at h1 h2 <;> congr 1 <;> simp only [spansB, Int.reduceEq, if_true, if_false] <;> rw [Bool.eq_iff_iff] <;> simp only [decide_eq_true_eq, Bool.false_eq_true, false_iff] <;> omega)
  | (refine .ret (.refl _) ?_ <;> simp only [decide_eq_true_eq, decide_eq_false_iff_not] at h1 <;> congr 1 <;> simp only [spansB, Int.reduceEq, if_true, if_false] <;> rw [Bool.eq_iff_iff] <;> simp only [decide_eq_true_eq, Bool.false_eq_true, false_iff] <;> omega)

/-- 'May', as the program's text has it. -/
theorem may_iff {x : Ins} (h1 : 1 ≤ x.op) (h2 : x.op ≤ 87) {b1 b2 b3 b4 : Bool} (hb : hasB (rowAt x.op).form x.op = [b1, b2, b3, b4]) :
    May x ↔ (0 ≤ x.rd ∧ x.rd ≤ 31 ∧ (b1 = false → x.rd = 0)) ∧ (0 ≤ x.rs1 ∧ x.rs1 ≤ 31 ∧ (b2 = false → x.rs1 = 0)) ∧ (0 ≤ x.rs2 ∧ x.rs2 ≤ 31 ∧ (b3 = false → x.rs2 = 0)) ∧ (if b4 = false then x.imm = 0 else spansB (rowAt x.op).form x.imm = true) := by
  have hr := (rowOk h1 h2).form
  unfold May
  generalize (rowAt x.op).form = f at *
  rcases ten hr with rfl | rfl | rfl | rfl | rfl | rfl | rfl | rfl | rfl | rfl <;> simp [hasB] at hb <;> obtain ⟨rfl, rfl, rfl, rfl⟩ := hb <;> simp [FormOk, spansB, h1, h2] <;> omega

theorem may_step {n m : Nat} {i i1 q1 q2 q3 op rd rs1 rs2 imm : Int} {b1 b2 b3 b4 : Bool} {σ σ0 : St} {v : AV} {r : Int} {b : Bool} (hi : 0 ≤ i ∧ i < 3) (hr : [AV.int .i64 q1, .int .i64 q2, .int .i64 q3][i.toNat * 1]? = some (.int .i64 r)) (hb : [AV.bool b1, .bool b2, .bool b3, .bool b4][0 + i.toNat * 1]? = some (.bool b))
    (bad : ¬ (0 ≤ r ∧ r ≤ 31 ∧ (b = false → r = 0)) → Gives σ0 v (some (.ret (.bool false), σ)))
    (next : 0 ≤ r → r ≤ 31 → (b = false → r = 0) → Gives σ0 v (f11_l1 (pt Tryd.prog Lb 11 n) m i1 q1 q2 q3 (IntKind.wrap .i64 (i + 1)) op rd rs1 rs2 imm b1 b2 b3 b4 σ)) :
    Gives σ0 v (f11_l1 (pt Tryd.prog Lb 11 n) (m + 1) i1 q1 q2 q3 i op rd rs1 rs2 imm b1 b2 b3 b4 σ) := by
  refine .le f11_l1_e ?_
  unfold f11_l1_t
  rw [decide_eq_true hi.2, cT, idxK_ok ⟨hi.1, hi.2⟩, partK_s agg3 hr, xInt_i]
  refine .ite (fun h => bad (by simp at h; omega)) fun h => .ite (fun h' => bad (by simp at h'; omega)) fun h' => ?_
  simp only [decide_eq_false_iff_not] at h h'
  rw [idxK_ok ⟨hi.1, by omega⟩, partK_s agg4 hb, xBool_b]
  refine .ite (fun h2 => .ite (fun h3 => bad fun h4 => ?_) fun h3 => next (by omega) (by omega) fun _ => by simpa using h3) fun h2 => next (by omega) (by omega) fun h3 => by simp [h3] at h2
  simp at h2 h3
  exact h3 (h4.2.2 h2)

theorem hasB_four (f op : Int) : ∃ b1 b2 b3 b4 : Bool, hasB f op = [b1, b2, b3, b4] := by
  unfold hasB
  repeat' split
  all_goals exact ⟨_, _, _, _, rfl⟩

theorem ret_may (x : Ins) : Ret 11 [insV x] 5 (.bool (decide (May x))) := .mk fun n hn σ hk => by
  refine .le f11_e ?_
  unfold f11_t
  refine .ite (fun h => .ret (.refl _) ?_) fun h1 => .ite (fun h => .ret (.refl _) ?_) fun h2 => ?_
  · simp at h; rw [decide_eq_false]; intro hm; have := hm.1; omega
  · simp at h; rw [decide_eq_false]; intro hm; have := hm.2.1; omega
  have h1 : 1 ≤ x.op := by simpa using h1
  have h2 : x.op ≤ 87 := by simpa using h2
  refine .callD ret_rows (by omega) (.refl _) hk fun σ1 _ u1 k1 => ?_
  rw [xAgg_a, rows_at (by omega) h2, xAgg_a]
  simp only [rowV, unC_c, xInt_i, nlC_n]
  have hr := (rowOk h1 h2).form
  refine .call (ret_fields hr) (by omega) u1 k1 fun σ2 _ u2 k2 => ?_
  obtain ⟨b1, b2, b3, b4, hb⟩ := hasB_four (rowAt x.op).form x.op
  have hiff := may_iff h1 h2 hb
  rw [hb]
  simp only [List.map, xAgg_a, unC_c, xBool_b, nlC_n]
  obtain ⟨m, rfl⟩ : ∃ m, n = m + 4 := ⟨n - 4, by omega⟩
  refine may_step (r := x.rd) (b := b1) (by decide) rfl rfl (fun hc => .ret u2 ?_) fun c1 c1' c1'' => ?_
  · rw [decide_eq_false]; intro hm; exact hc (hiff.1 hm).1
  refine may_step (i := 1) (r := x.rs1) (b := b2) (by decide) rfl rfl (fun hc => .ret u2 ?_) fun c2 c2' c2'' => ?_
  · rw [decide_eq_false]; intro hm; exact hc (hiff.1 hm).2.1
  refine may_step (i := 2) (r := x.rs2) (b := b3) (by decide) rfl rfl (fun hc => .ret u2 ?_) fun c3 c3' c3'' => ?_
  · rw [decide_eq_false]; intro hm; exact hc (hiff.1 hm).2.2.1
  refine .le f11_l1_e ?_
  unfold f11_l1_t
  rw [show decide (IntKind.wrap .i64 ((2 : Int) + 1) < (3 : Int)) = false from rfl, cF]
  refine .le f11_j2_e ?_
  unfold f11_j2_t
  refine .ite (fun hb4 => .ret u2 ?_) fun hb4 => ?_
  · simp at hb4
    subst hb4
    congr 1
    rw [Bool.eq_iff_iff]
    simp only [decide_eq_true_eq, beq_iff_eq, hiff]
    simp
    exact ⟨fun h => ⟨⟨c1, c1', c1''⟩, ⟨c2, c2', c2''⟩, ⟨c3, c3', c3''⟩, h⟩, fun h => h.2.2.2⟩
  · simp at hb4
    subst hb4
    refine .call (ret_spans hr) (by omega) u2 k2 fun σ3 _ u3 _ => ?_
    rw [xBool_b]
    refine .ret u3 ?_
    congr 1
    rw [Bool.eq_iff_iff]
    simp only [decide_eq_true_eq, hiff]
    simp
    exact ⟨fun h => ⟨⟨c1, c1', c1''⟩, ⟨c2, c2', c2''⟩, ⟨c3, c3', c3''⟩, h⟩, fun h => h.2.2.2⟩


/-! ### the reference -/

theorem let1 {f : Int} (h : 1 ≤ f ∧ f ≤ 10) : (letter f == [85]) = decide (f = 1) := by
  rcases ten h with rfl | rfl | rfl | rfl | rfl | rfl | rfl | rfl | rfl | rfl <;> decide
theorem let2 {f : Int} (h : 1 ≤ f ∧ f ≤ 10) : (letter f == [74]) = decide (f = 2) := by
  rcases ten h with rfl | rfl | rfl | rfl | rfl | rfl | rfl | rfl | rfl | rfl <;> decide
theorem let3 {f : Int} (h : 1 ≤ f ∧ f ≤ 10) : (letter f == [73]) = decide (f = 3) := by
  rcases ten h with rfl | rfl | rfl | rfl | rfl | rfl | rfl | rfl | rfl | rfl <;> decide
theorem let4 {f : Int} (h : 1 ≤ f ∧ f ≤ 10) : (letter f == [66]) = decide (f = 4) := by
  rcases ten h with rfl | rfl | rfl | rfl | rfl | rfl | rfl | rfl | rfl | rfl <;> decide
theorem let5 {f : Int} (h : 1 ≤ f ∧ f ≤ 10) : (letter f == [83]) = decide (f = 5) := by
  rcases ten h with rfl | rfl | rfl | rfl | rfl | rfl | rfl | rfl | rfl | rfl <;> decide
theorem let6 {f : Int} (h : 1 ≤ f ∧ f ≤ 10) : (letter f == [72]) = decide (f = 6) := by
  rcases ten h with rfl | rfl | rfl | rfl | rfl | rfl | rfl | rfl | rfl | rfl <;> decide
theorem let7 {f : Int} (h : 1 ≤ f ∧ f ≤ 10) : (letter f == [86]) = decide (f = 7) := by
  rcases ten h with rfl | rfl | rfl | rfl | rfl | rfl | rfl | rfl | rfl | rfl <;> decide
theorem let8 {f : Int} (h : 1 ≤ f ∧ f ≤ 10) : (letter f == [82]) = decide (f = 8) := by
  rcases ten h with rfl | rfl | rfl | rfl | rfl | rfl | rfl | rfl | rfl | rfl <;> decide
theorem let9 {f : Int} (h : 1 ≤ f ∧ f ≤ 10) : (letter f == [65]) = decide (f = 9) := by
  rcases ten h with rfl | rfl | rfl | rfl | rfl | rfl | rfl | rfl | rfl | rfl <;> decide
theorem let10 {f : Int} (h : 1 ≤ f ∧ f ≤ 10) : (letter f == [78]) = decide (f = 10) := by
  rcases ten h with rfl | rfl | rfl | rfl | rfl | rfl | rfl | rfl | rfl | rfl <;> decide


theorem ret_reg (v : Int) : Ret 26 [.int .i64 v] 1 (.bool (decide (0 ≤ v ∧ v ≤ 31))) := .mk fun n _ σ _ => by
  refine .le f26_e ?_
  unfold f26_t
  refine .ite (fun h => .ret (.refl _) ?_) fun h => .ret (.refl _) ?_
  · simp at h; simp [h]
  · simp at h; congr 1; rw [eq_comm, decide_eq_false_iff_not]; omega

theorem ret_within (v a b k : Int) (hk : k ≠ 0) : Ret 27 [.int .i64 v, .int .i64 a, .int .i64 b, .int .i64 k] 1 (.bool (decide (a ≤ v ∧ v ≤ b ∧ v % k = 0))) := .mk fun n _ σ _ => by
  refine .le f27_e ?_
  unfold f27_t
  refine .ite (fun h => .ite (fun h' => ?_) fun h' => .ret (.refl _) ?_) fun h => .ret (.refl _) ?_
  · rw [divK_ok hk, tmod0]
    refine .ret (.refl _) ?_
    simp at h h'
    simp [h, h']
  · simp at h h'; congr 1; rw [eq_comm, decide_eq_false_iff_not]; omega
  · simp at h; congr 1; rw [eq_comm, decide_eq_false_iff_not]; omega

theorem ret_mayRef (x : Ins) : Ret 12 [insV x] 2 (.bool (decide (May x))) := .mk fun n hn σ hk => by
  refine .le f12_e ?_
  unfold f12_t
  refine .ite (fun h => .ret (.refl _) ?_) fun h1 => .ite (fun h => .ret (.refl _) ?_) fun h2 => ?_
  · simp at h; rw [decide_eq_false]; intro hm; have := hm.1; omega
  · simp at h; rw [decide_eq_false]; intro hm; have := hm.2.1; omega
  have h1 : 1 ≤ x.op := by simpa using h1
  have h2 : x.op ≤ 87 := by simpa using h2
  refine .call (ret_reg _) hn (.refl _) hk fun σ1 _ u1 k1 => ?_
  rw [xBool_b]
  refine .call (ret_reg _) hn u1 k1 fun σ2 _ u2 k2 => ?_
  rw [xBool_b]
  refine .call (ret_reg _) hn u2 k2 fun σ3 _ u3 k3 => ?_
  rw [xBool_b]
  refine .ite (fun h => .ret u3 ?_) fun h3 => .ite (fun h => .ret u3 ?_) fun h4 => .ite (fun h => .ret u3 ?_) fun h5 => ?_
  · simp at h; rw [decide_eq_false]; intro hm; have := hm.2.2.1; omega
  · simp at h; rw [decide_eq_false]; intro hm; have := hm.2.2.2.1; omega
  · simp at h; rw [decide_eq_false]; intro hm; have := hm.2.2.2.2.1; omega
  simp at h3 h4 h5
  refine .refD (op := x.op) (by omega) h2 hn u3 k3 fun σ4 b u4 k4 hg => ?_
  rw [xSl_s, idxK_ok ⟨by omega, by omega⟩, derefK_s, szK_s, hg]
  simp only [refAt, xAgg_a, unC_c, xStr_s, xInt_i, nlC_n]
  have hr := (rowOk h1 h2).form
  have hM : May x ↔ FormOk (rowAt x.op).form x := by
    unfold May; simp [h1, h2, h3, h4, h5]
  generalize (rowAt x.op).form = f at *
  rw [let1 hr, let2 hr, let3 hr, let4 hr, let5 hr, let6 hr, let7 hr, let8 hr, let9 hr]
  rcases ten hr with rfl | rfl | rfl | rfl | rfl | rfl | rfl | rfl | rfl | rfl <;> simp only [Int.reduceEq, decide_true, decide_false, cT, cF]
  · refine .ite (fun h => .ite (fun h' => ?_) fun h' => .ret u4 ?_) fun h => .ret u4 ?_
    · refine .call (ret_within _ _ _ _ (by decide)) hn u4 k4 fun σ5 _ u5 _ => ?_
      rw [xBool_b]; refine .ret u5 ?_
      simp at h h'
      congr 1; rw [Bool.eq_iff_iff]; simp [hM, FormOk, h, h']; omega
    · simp at h h'; congr 1; rw [eq_comm, decide_eq_false_iff_not]; simp [hM, FormOk, h']
    · simp at h; congr 1; rw [eq_comm, decide_eq_false_iff_not]; simp [hM, FormOk, h]
  · refine .ite (fun h => .ite (fun h' => ?_) fun h' => .ret u4 ?_) fun h => .ret u4 ?_
    · refine .call (ret_within _ _ _ _ (by decide)) hn u4 k4 fun σ5 _ u5 _ => ?_
      rw [xBool_b]; refine .ret u5 ?_
      simp at h h'
      congr 1; rw [Bool.eq_iff_iff]; simp [hM, FormOk, h, h']; omega
    · simp at h h'; congr 1; rw [eq_comm, decide_eq_false_iff_not]; simp [hM, FormOk, h']
    · simp at h; congr 1; rw [eq_comm, decide_eq_false_iff_not]; simp [hM, FormOk, h]
  · refine .ite (fun h => ?_) fun h => .ret u4 ?_
    · refine .call (ret_within _ _ _ _ (by decide)) hn u4 k4 fun σ5 _ u5 _ => ?_
      rw [xBool_b]; refine .ret u5 ?_
      simp at h
      congr 1; rw [Bool.eq_iff_iff]; simp [hM, FormOk, h]; omega
    · simp at h; congr 1; rw [eq_comm, decide_eq_false_iff_not]; simp [hM, FormOk, h]
  · refine .ite (fun h => ?_) fun h => .ret u4 ?_
    · refine .call (ret_within _ _ _ _ (by decide)) hn u4 k4 fun σ5 _ u5 _ => ?_
      rw [xBool_b]; refine .ret u5 ?_
      simp at h
      congr 1; rw [Bool.eq_iff_iff]; simp [hM, FormOk, h]; omega
    · simp at h; congr 1; rw [eq_comm, decide_eq_false_iff_not]; simp [hM, FormOk, h]
  · refine .ite (fun h => ?_) fun h => .ret u4 ?_
    · refine .call (ret_within _ _ _ _ (by decide)) hn u4 k4 fun σ5 _ u5 _ => ?_
      rw [xBool_b]; refine .ret u5 ?_
      simp at h
      congr 1; rw [Bool.eq_iff_iff]; simp [hM, FormOk, h]; omega
    · simp at h; congr 1; rw [eq_comm, decide_eq_false_iff_not]; simp [hM, FormOk, h]
  · refine .ite (fun h => ?_) fun h => .ret u4 ?_
    · refine .call (ret_within _ _ _ _ (by decide)) hn u4 k4 fun σ5 _ u5 _ => ?_
      rw [xBool_b]; refine .ret u5 ?_
      simp at h
      congr 1; rw [Bool.eq_iff_iff]; simp [hM, FormOk, h]; omega
    · simp at h; congr 1; rw [eq_comm, decide_eq_false_iff_not]; simp [hM, FormOk, h]
  · refine .ite (fun h => ?_) fun h => .ret u4 ?_
    · refine .call (ret_within _ _ _ _ (by decide)) hn u4 k4 fun σ5 _ u5 _ => ?_
      rw [xBool_b]; refine .ret u5 ?_
      simp at h
      congr 1; rw [Bool.eq_iff_iff]; simp [hM, FormOk, h]; omega
    · simp at h; congr 1; rw [eq_comm, decide_eq_false_iff_not]; simp [hM, FormOk, h]
  · refine .ret u4 ?_
    congr 1; rw [Bool.eq_iff_iff]; simp [hM, FormOk]
  · refine .ite (fun h => ?_) fun h => ?_
    · simp at h
      refine .call (ret_within _ _ _ _ (by decide)) hn u4 k4 fun σ5 _ u5 _ => ?_
      rw [xBool_b]
      refine .ite (fun h' => .ret u5 ?_) fun h' => .ret u5 ?_
      · simp at h'; congr 1; rw [Bool.eq_iff_iff]; simp [hM, FormOk, h]; omega
      · simp at h'; congr 1; rw [eq_comm, decide_eq_false_iff_not]; simp [hM, FormOk]; omega
    · simp at h
      refine .call (ret_within _ _ _ _ (by decide)) hn u4 k4 fun σ5 _ u5 _ => ?_
      rw [xBool_b]
      refine .ite (fun h' => .ite (fun h'' => .ret u5 ?_) fun h'' => .ret u5 ?_) fun h' => .ret u5 ?_
      · simp at h' h''; congr 1; rw [eq_comm, decide_eq_true_iff]; simp [hM, FormOk, h, h'']; omega
      · simp at h' h''; congr 1; rw [Bool.eq_iff_iff]; simp [hM, FormOk, h'']; omega
      · simp at h'; congr 1; rw [eq_comm, decide_eq_false_iff_not]; simp [hM, FormOk]; omega
  · refine .ite (fun h => .ite (fun h' => .ite (fun h'' => .ret u4 ?_) fun h'' => .ret u4 ?_) fun h' => .ret u4 ?_) fun h => .ret u4 ?_
    · simp at h h' h''; congr 1; rw [Bool.eq_iff_iff]; simp [hM, FormOk, h, h', h'']
    · simp at h h' h''; congr 1; rw [eq_comm, decide_eq_false_iff_not]; simp [hM, FormOk, h'']
    · simp at h h'; congr 1; rw [eq_comm, decide_eq_false_iff_not]; simp [hM, FormOk, h']
    · simp at h; congr 1; rw [eq_comm, decide_eq_false_iff_not]; simp [hM, FormOk, h]

end Go.Proofs.Inst

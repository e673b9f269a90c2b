/- The reference's texts. -/
import Derived.Test.YtidammkjfdonaaaDoorText
namespace Go.Proofs.Inst
open Go.AM Go.Proofs

theorem byts_new {σ : St} {z : Int} {w : Wr} {f : List UInt8 → Out} : bytsK (σ ++ [.cells [.int .u8 z] w]) (some (σ.length, 0)) 1 1 f = f [UInt8.ofNat z.toNat] := by
  unfold bytsK
  simp only [if_true]
  rw [cellsAt_new]
  rfl

theorem tmod_abs (i : Int) : (if Int.tmod i 10 < 0 then 0 - Int.tmod i 10 else Int.tmod i 10) = ((i.natAbs % 10 : Nat) : Int) := by
  rcases Int.natAbs_eq i with h | h
  · rw [h, Int.tmod_eq_emod_of_nonneg (by omega)]; split <;> omega
  · rw [h, Int.neg_tmod, Int.tmod_eq_emod_of_nonneg (by omega)]; split <;> omega
theorem tdiv_abs (i : Int) : (Int.tdiv i 10).natAbs = i.natAbs / 10 := by
  rcases Int.natAbs_eq i with h | h
  · rw [h, Int.tdiv_eq_ediv_of_nonneg (by omega)]; omega
  · rw [h, Int.neg_tdiv, Int.tdiv_eq_ediv_of_nonneg (by omega)]; omega

theorem dec_l1 {n : Nat} {b : Bool} {s2 : List UInt8} {σ0 : St} {v : AV} : ∀ (k m : Nat) (i : Int) (acc : List UInt8) (σ : St), i.natAbs < 10 ^ (k + 1) → I64 i → k < m → acc.length + k ≤ 100 → Up σ0 σ →
    (∀ σ', Up σ0 σ' → Gives σ0 v (f34_j3 (pt Tryd.prog Lb 34 n) s2 (Lib.decDigits i.natAbs ++ acc) b σ')) → Gives σ0 v (f34_l1 (pt Tryd.prog Lb 34 n) m i s2 acc b σ) := by
  intro k
  induction k with
  | zero =>
    intro m i acc σ hi hI hm ha hu g
    obtain ⟨m, rfl⟩ : ∃ m', m = m' + 1 := ⟨m - 1, by omega⟩
    have hd := tmod_abs i
    have hq := tdiv_abs i
    have hI1 := hI.1; have hI2 := hI.2
    have e0 : Int.tdiv i 10 = 0 := by omega
    have ew : IntKind.wrap .i64 (Int.tdiv i 10) = 0 := by rw [e0]; rfl
    have key : ∀ d : Int, d = ((i.natAbs % 10 : Nat) : Int) → Gives σ0 v (f34_j2 (pt Tryd.prog Lb 34 n) m i s2 acc b d σ) := by
      intro d hd
      refine .le f34_j2_e ?_
      unfold f34_j2_t
      rw [byts_new, catK_ok (by simp; omega), ew]
      refine .ite (fun _ => ?_) fun h => by simp at h
      have := g _ (hu.more [AObj.cells [.int .u8 (IntKind.wrap .u8 (IntKind.wrap .i64 (48 + d)))] (.rw (some 5))])
      rw [Lib.decDigits, dif_pos (by omega)] at this
      have e : (IntKind.wrap .u8 (IntKind.wrap .i64 (48 + d))).toNat = 48 + i.natAbs := by rw [wrap64 (by omega) (by omega), wrapu8 (by omega) (by omega)]; omega
      rw [e]; exact this
    refine .le f34_l1_e ?_
    unfold f34_l1_t
    refine .ite (fun h => key _ ?_) fun h => key _ ?_
    · have h : Int.tmod i 10 < 0 := by simpa using h
      rw [if_pos h] at hd
      rw [wrap64 (by omega) (by omega)]; exact hd
    · have h : ¬ Int.tmod i 10 < 0 := by simpa using h
      rw [if_neg h] at hd
      exact hd
  | succ k ih =>
    intro m i acc σ hi hI hm ha hu g
    obtain ⟨m, rfl⟩ : ∃ m', m = m' + 1 := ⟨m - 1, by omega⟩
    have hd := tmod_abs i
    have hq := tdiv_abs i
    have hI1 := hI.1; have hI2 := hI.2
    have ew : IntKind.wrap .i64 (Int.tdiv i 10) = Int.tdiv i 10 := wrap64 (by omega) (by omega)
    have key : ∀ d : Int, d = ((i.natAbs % 10 : Nat) : Int) → Gives σ0 v (f34_j2 (pt Tryd.prog Lb 34 n) m i s2 acc b d σ) := by
      intro d hd
      refine .le f34_j2_e ?_
      unfold f34_j2_t
      have e : (IntKind.wrap .u8 (IntKind.wrap .i64 (48 + d))).toNat = 48 + i.natAbs % 10 := by rw [wrap64 (by omega) (by omega), wrapu8 (by omega) (by omega)]; omega
      rw [byts_new, catK_ok (by simp; omega), ew]
      have hu' := hu.more [AObj.cells [.int .u8 (IntKind.wrap .u8 (IntKind.wrap .i64 (48 + d)))] (.rw (some 5))]
      refine .ite (fun h => ?_) fun h => ?_
      · have h : Int.tdiv i 10 = 0 := by simpa using h
        have := g _ hu'
        rw [Lib.decDigits, dif_pos (by omega)] at this
        have e2 : i.natAbs % 10 = i.natAbs := by omega
        rw [e, e2]; exact this
      · have h : Int.tdiv i 10 ≠ 0 := by simpa using h
        refine ih m _ _ _ (by rw [hq]; rw [Nat.pow_succ] at hi; omega) ⟨by omega, by omega⟩ (by omega) (by simp; omega) hu' fun σ' u' => ?_
        have := g σ' u'
        rw [Lib.decDigits, dif_neg (by omega)] at this
        rw [hq, e, ← List.append_assoc]; exact this
    refine .le f34_l1_e ?_
    unfold f34_l1_t
    refine .ite (fun h => key _ ?_) fun h => key _ ?_
    · have h : Int.tmod i 10 < 0 := by simpa using h
      rw [if_pos h] at hd
      rw [wrap64 (by omega) (by omega)]; exact hd
    · have h : ¬ Int.tmod i 10 < 0 := by simpa using h
      rw [if_neg h] at hd
      exact hd

theorem ret_decimal {i : Int} (h : I64 i) : Ret 34 [.int .i64 i] 31 (.str (Lib.itoa i)) := .mk fun n hn σ _ => by
  refine .le f34_e ?_
  unfold f34_t
  have h1 := h.1; have h2 := h.2
  have e : (10 : Nat) ^ 19 = 10000000000000000000 := rfl
  refine dec_l1 18 n i [] σ (by rw [e]; omega) h (by omega) (by simp) (.refl _) fun σ' u => ?_
  refine .le f34_j3_e ?_
  unfold f34_j3_t
  have hl := itoa_len h
  refine .ite (fun hb => ?_) fun hb => ?_
  · have hb : i < 0 := by simpa using hb
    unfold Lib.itoa at hl ⊢
    rw [if_pos hb] at hl ⊢
    rw [List.append_nil, catK_ok (by simp at hl ⊢; omega)]
    exact .ret u
  · have hb : 0 ≤ i := by simpa using hb
    unfold Lib.itoa
    rw [if_neg (by omega), List.append_nil]
    have : i.natAbs = i.toNat := by omega
    rw [this]; exact .ret u

theorem ret_r {i : Int} (h : I64 i) : Ret 35 [.int .i64 i] 32 (.str (reg i)) := .mk fun n hn σ hk => by
  refine .le f35_e ?_
  unfold f35_t
  refine .call (ret_decimal h) hn (.refl _) hk fun σ1 _ u1 _ => ?_
  have := itoa_len h
  rw [xStr_s, catK_ok (by simp; omega)]
  exact .ret u1

theorem code3 {op : Int} (h1 : 1 ≤ op) (h2 : op ≤ 87) : ((rowAt op).code = 3 ↔ 11 ≤ op ∧ op ≤ 17) ∧ ((rowAt op).code = 3 ∨ op = 4 → (rowAt op).form = 3) := by
  have := all_ops (p := fun op => decide (((rowAt op).code = 3 ↔ 11 ≤ op ∧ op ≤ 17) ∧ ((rowAt op).code = 3 ∨ op = 4 → (rowAt op).form = 3))) (by kernel_rfl) h1 h2
  exact of_decide_eq_true this

theorem ret_textRef (x : Ins) : Ret 18 [insV x] 34 (.tuple [.str (if May x then textS x else []), .int .i64 (if May x then 0 else 2)]) := .mk fun n hn σ hk => by
  refine .le f18_e ?_
  unfold f18_t
  refine .call (ret_mayRef x) (by omega) (.refl _) hk fun σ1 _ u1 k1 => ?_
  rw [xBool_b]
  refine .ite (fun h => .ret u1 ?_) fun h => ?_
  · simp at h; simp [h]
  have hM : May x := by simpa using h
  rw [if_pos hM, if_pos hM]
  clear h
  obtain ⟨i1, i2, i3, i4⟩ := may_i64 hM
  obtain ⟨h1, h2, h3, h4, h5, h⟩ := hM
  have hnl := name_len h1 h2
  have a1 := reg_len i1; have a2 := reg_len i2; have a3 := reg_len i3; have a4 := itoa_len i4
  have r1 := ret_r i1; have r2 := ret_r i2; have r3 := ret_r i3
  refine .refD (op := x.op) (by omega) h2 (by omega) u1 k1 fun σ2 b u2 k2 hg => ?_
  rw [xSl_s, idxK_ok ⟨by omega, by omega⟩, derefK_s, szK_s, hg]
  simp only [refAt, xAgg_a, unC_c, xStr_s, xInt_i, nlC_n]
  refine .call (ret_decimal i4) (by omega) u2 k2 fun σ3 _ u k => ?_
  rw [xStr_s]
  have hf := (rowOk h1 h2).form
  have hc3 := code3 h1 h2
  unfold textS
  generalize nameAt x.op = nm at *
  rw [let1 hf, let2 hf]
  refine .ite (fun hU => ?_) fun hU => ?_
  · have hU : (rowAt x.op).form = 1 := by simpa using hU
    rw [hU]
    refine .le f18_j1_e ?_
    unfold f18_j1_t
    rw [catK_ok (by simp; omega)]
    refine .call r1 (by omega) u k fun σ4 _ u4 _ => ?_
    rw [xStr_s, catK_ok (by simp; omega), catK_ok (by simp; omega), catK_ok (by simp; omega)]
    refine .ret u4 ?_
    simp [partsS, Lib.join_cons, Lib.joinTail, List.append_assoc]
  refine .le f18_j2_e ?_
  unfold f18_j2_t
  rw [let4 hf, let5 hf, let8 hf, let9 hf, let10 hf]
  have hU : (rowAt x.op).form ≠ 1 := by simpa using hU
  generalize (rowAt x.op).code = cd at *
  generalize (rowAt x.op).form = f at *
  rcases ten hf with rfl | rfl | rfl | rfl | rfl | rfl | rfl | rfl | rfl | rfl <;> simp only [Int.reduceEq, decide_true, decide_false, cT, cF, ne_eq, not_true_eq_false] at hU ⊢
  · rw [catK_ok (by simp; omega)]
    refine .call r1 (by omega) u k fun σ4 _ u4 _ => ?_
    rw [xStr_s, catK_ok (by simp; omega), catK_ok (by simp; omega), catK_ok (by simp; omega)]
    refine .ret u4 ?_
    simp [partsS, Lib.join_cons, Lib.joinTail, List.append_assoc]
  · refine .ite (fun hc => ?_) fun hc => .ite (fun ho => ?_) fun ho => ?_
    · have hc : cd = 3 := by simpa using hc
      have e : partsS 3 x = [reg x.rd, Lib.itoa x.imm ++ [40] ++ reg x.rs1 ++ [41]] := by
        have := hc3.1.1 hc
        simp [partsS, this]
      rw [catK_ok (by simp; omega)]
      refine .callD r1 (by omega) u k fun σ4 _ u4 k4 => ?_
      rw [xStr_s, catK_ok (by simp; omega), catK_ok (by simp; omega), catK_ok (by simp; omega), catK_ok (by simp; omega)]
      refine .callD r2 (by omega) u4 k4 fun σ5 _ u5 _ => ?_
      rw [xStr_s, catK_ok (by simp; omega), catK_ok (by simp; omega)]
      refine .ret u5 ?_
      rw [e]
      simp [Lib.join_cons, Lib.joinTail, List.append_assoc]
    · have ho : x.op = 4 := by simpa using ho
      have e : partsS 3 x = [reg x.rd, Lib.itoa x.imm ++ [40] ++ reg x.rs1 ++ [41]] := by simp [partsS, ho]
      rw [catK_ok (by simp; omega)]
      refine .callD r1 (by omega) u k fun σ4 _ u4 k4 => ?_
      rw [xStr_s, catK_ok (by simp; omega), catK_ok (by simp; omega), catK_ok (by simp; omega), catK_ok (by simp; omega)]
      refine .callD r2 (by omega) u4 k4 fun σ5 _ u5 _ => ?_
      rw [xStr_s, catK_ok (by simp; omega), catK_ok (by simp; omega)]
      refine .ret u5 ?_
      rw [e]
      simp [Lib.join_cons, Lib.joinTail, List.append_assoc]
    · have ho : x.op ≠ 4 := by simpa using ho
      have hc : cd ≠ 3 := by simpa using hc
      have e : partsS 3 x = [reg x.rd, reg x.rs1, Lib.itoa x.imm] := by
        have : ¬ (11 ≤ x.op ∧ x.op ≤ 17) := fun h => hc (hc3.1.2 h)
        simp [partsS, ho, this]
      rw [catK_ok (by simp; omega)]
      refine .callD r1 (by omega) u k fun σ4 _ u4 k4 => ?_
      rw [xStr_s, catK_ok (by simp; omega), catK_ok (by simp; omega)]
      refine .callD r2 (by omega) u4 k4 fun σ5 _ u5 _ => ?_
      rw [xStr_s, catK_ok (by simp; omega), catK_ok (by simp; omega), catK_ok (by simp; omega)]
      refine .ret u5 ?_
      rw [e]
      simp [Lib.join_cons, Lib.joinTail, List.append_assoc]
  · rw [catK_ok (by simp; omega)]
    refine .callD r2 (by omega) u k fun σ4 _ u4 k4 => ?_
    rw [xStr_s, catK_ok (by simp; omega), catK_ok (by simp; omega)]
    refine .callD r3 (by omega) u4 k4 fun σ5 _ u5 _ => ?_
    rw [xStr_s, catK_ok (by simp; omega), catK_ok (by simp; omega), catK_ok (by simp; omega)]
    refine .ret u5 ?_
    simp [partsS, Lib.join_cons, Lib.joinTail, List.append_assoc]
  · rw [catK_ok (by simp; omega)]
    refine .callD r3 (by omega) u k fun σ4 _ u4 k4 => ?_
    rw [xStr_s, catK_ok (by simp; omega), catK_ok (by simp; omega), catK_ok (by simp; omega), catK_ok (by simp; omega)]
    refine .callD r2 (by omega) u4 k4 fun σ5 _ u5 _ => ?_
    rw [xStr_s, catK_ok (by simp; omega), catK_ok (by simp; omega)]
    refine .ret u5 ?_
    simp [partsS, Lib.join_cons, Lib.joinTail, List.append_assoc]
  · have hc : cd ≠ 3 := fun h => absurd (hc3.2 (.inl h)) (by decide)
    have ho : x.op ≠ 4 := fun h => absurd (hc3.2 (.inr h)) (by decide)
    rw [show (cd == 3) = false by simpa using hc, show (x.op == 4) = false by simpa using ho, cF, cF]
    rw [catK_ok (by simp; omega)]
    refine .callD r1 (by omega) u k fun σ4 _ u4 k4 => ?_
    rw [xStr_s, catK_ok (by simp; omega), catK_ok (by simp; omega)]
    refine .callD r2 (by omega) u4 k4 fun σ5 _ u5 _ => ?_
    rw [xStr_s, catK_ok (by simp; omega), catK_ok (by simp; omega), catK_ok (by simp; omega)]
    refine .ret u5 ?_
    simp [partsS, Lib.join_cons, Lib.joinTail, List.append_assoc]
  · have hc : cd ≠ 3 := fun h => absurd (hc3.2 (.inl h)) (by decide)
    have ho : x.op ≠ 4 := fun h => absurd (hc3.2 (.inr h)) (by decide)
    rw [show (cd == 3) = false by simpa using hc, show (x.op == 4) = false by simpa using ho, cF, cF]
    rw [catK_ok (by simp; omega)]
    refine .callD r1 (by omega) u k fun σ4 _ u4 k4 => ?_
    rw [xStr_s, catK_ok (by simp; omega), catK_ok (by simp; omega)]
    refine .callD r2 (by omega) u4 k4 fun σ5 _ u5 _ => ?_
    rw [xStr_s, catK_ok (by simp; omega), catK_ok (by simp; omega), catK_ok (by simp; omega)]
    refine .ret u5 ?_
    simp [partsS, Lib.join_cons, Lib.joinTail, List.append_assoc]
  · rw [catK_ok (by simp; omega)]
    refine .callD r1 (by omega) u k fun σ4 _ u4 k4 => ?_
    rw [xStr_s, catK_ok (by simp; omega), catK_ok (by simp; omega)]
    refine .callD r2 (by omega) u4 k4 fun σ5 _ u5 k5 => ?_
    rw [xStr_s, catK_ok (by simp; omega), catK_ok (by simp; omega)]
    refine .callD r3 (by omega) u5 k5 fun σ6 _ u6 _ => ?_
    rw [xStr_s, catK_ok (by simp; omega)]
    refine .ret u6 ?_
    simp [partsS, Lib.join_cons, Lib.joinTail, List.append_assoc]
  · have hs := suf_len x.imm
    rw [suf_at (by unfold FormOk at h; omega), xStr_s, catK_ok (by omega), catK_ok (by simp; omega)]
    refine .callD r1 (by omega) u k fun σ4 _ u4 k4 => ?_
    rw [xStr_s, catK_ok (by simp; omega), catK_ok (by simp; omega)]
    have e9 : partsS 9 x = if x.op = 66 ∨ x.op = 77 then [reg x.rd, [40] ++ reg x.rs1 ++ [41]] else [reg x.rd, reg x.rs2, [40] ++ reg x.rs1 ++ [41]] := by simp [partsS]
    rw [e9]
    refine .ite (fun ho => ?_) fun ho => .ite (fun ho' => ?_) fun ho' => ?_
    · rw [if_pos (c := x.op = 66 ∨ x.op = 77) (.inl (by simpa using ho)), catK_ok (by simp; omega)]
      refine .call r2 (by omega) u4 k4 fun σ5 _ u5 _ => ?_
      rw [xStr_s, catK_ok (by simp; omega), catK_ok (by simp; omega)]
      refine .ret u5 ?_
      simp [Lib.join_cons, Lib.joinTail, List.append_assoc]
    · rw [if_pos (c := x.op = 66 ∨ x.op = 77) (.inr (by simpa using ho')), catK_ok (by simp; omega)]
      refine .call r2 (by omega) u4 k4 fun σ5 _ u5 _ => ?_
      rw [xStr_s, catK_ok (by simp; omega), catK_ok (by simp; omega)]
      refine .ret u5 ?_
      simp [Lib.join_cons, Lib.joinTail, List.append_assoc]
    · simp at ho ho'
      rw [if_neg (c := x.op = 66 ∨ x.op = 77) (by omega)]
      refine .callD r3 (by omega) u4 k4 fun σ5 _ u5 k5 => ?_
      rw [xStr_s, catK_ok (by simp; omega), catK_ok (by simp; omega)]
      refine .callD r2 (by omega) u5 k5 fun σ6 _ u6 _ => ?_
      rw [xStr_s, catK_ok (by simp; omega), catK_ok (by simp; omega)]
      refine .ret u6 ?_
      simp [Lib.join_cons, Lib.joinTail, List.append_assoc]
  · exact .ret u

end Go.Proofs.Inst

/- How a word is read: the one instruction whose word it is, or none; the reference's reading. -/
import Derived.Test.YtidammkjfdonaaaDoorEncRef
import Derived.Test.YtidammkjfdonaaaDoorT2
namespace Go.Proofs.Inst
open Go.AM Go.Proofs

def noIns : Ins := ⟨0, 0, 0, 0, 0⟩

/-- The instruction whose word it is. -/
noncomputable def decodeV (w : Int) : AV :=
  open Classical in if h : ∃ x, May x ∧ enc x = w then .tuple [insV (Classical.choose h), .int .i64 0] else .tuple [insV noIns, .int .i64 2]

theorem decodeV_some {x : Ins} {w : Int} (h : May x) (e : enc x = w) : decodeV w = .tuple [insV x, .int .i64 0] := by
  have hex : ∃ x, May x ∧ enc x = w := ⟨x, h, e⟩
  unfold decodeV
  rw [dif_pos hex]
  have hc := Classical.choose_spec hex
  rw [enc_inj hc.1 h (hc.2.trans e.symm)]
theorem decodeV_none {w : Int} (h : ∀ x, May x → enc x ≠ w) : decodeV w = .tuple [insV noIns, .int .i64 2] := by
  unfold decodeV
  rw [dif_neg]
  rintro ⟨x, h1, h2⟩
  exact h x h1 h2

/-! ### bits of a word -/

theorem at_l1 {n : Nat} {a : Int} {F m W : Nat} {i3 : Int} {σ σ0 : St} {v : AV} (ha : a = (F : Int)) (hm : m ≤ 20) (hF : F + m ≤ 32) (hW : W < 4294967296) : ∀ (d r : Nat), d ≤ m → d < r →
    Gives σ0 v (f47_j2 (pt Tryd.prog Lb 47 n) i3 ((W / 2 ^ F % 2 ^ m : Nat) : Int) σ) →
    Gives σ0 v (f47_l1 (pt Tryd.prog Lb 47 n) r (W : Int) a i3 ((W / 2 ^ (F + d) % 2 ^ (m - d) : Nat) : Int) ((d : Int) - 1) σ) := by
  intro d
  induction d with
  | zero =>
    intro r _ hr g
    obtain ⟨r, rfl⟩ : ∃ r', r = r' + 1 := ⟨r - 1, by omega⟩
    refine .le f47_l1_e ?_
    unfold f47_l1_t
    rw [decide_eq_false (by omega), cF]
    exact g
  | succ d ih =>
    intro r hd hr g
    obtain ⟨r, rfl⟩ : ∃ r', r = r' + 1 := ⟨r - 1, by omega⟩
    refine .le f47_l1_e ?_
    unfold f47_l1_t
    have next := ih r (by omega) (by omega) g
    have e1 : W / 2 ^ (F + d) % 2 ^ (m - d) = W / 2 ^ (F + (d + 1)) % 2 ^ (m - (d + 1)) * 2 + W / 2 ^ (F + d) % 2 := by
      rw [show m - d = (m - (d + 1)) + 1 by omega, Nat.pow_succ, Nat.mul_comm (2 ^ _) 2, Nat.mod_mul, show F + (d + 1) = F + d + 1 by omega, Nat.pow_succ, ← Nat.div_div_eq_div_mul]
      omega
    have hlt : W / 2 ^ (F + (d + 1)) % 2 ^ (m - (d + 1)) < 1048576 := by
      refine Nat.lt_of_lt_of_le (Nat.mod_lt _ (Nat.two_pow_pos _)) ?_
      have := Nat.pow_le_pow_right (n := 2) (by omega) (show m - (d + 1) ≤ 20 by omega)
      have e : 2 ^ 20 = 1048576 := rfl
      omega
    rw [e1] at next
    have hc : ((d + 1 : Nat) : Int) - 1 = (d : Int) := by omega
    rw [hc]
    have e5 : IntKind.wrap .u64 (IntKind.wrap .i64 (a + (d : Int))) = ((F + d : Nat) : Int) := by
      rw [ha, wrap64 (by omega) (by omega), wrapu64 (by omega) (by omega)]; omega
    rw [decide_eq_true (by omega), cT, e5, shK_ok (by omega), wrap64 (x := (d : Int) - 1) (by omega) (by omega)]
    have e6 : min (((F + d : Nat) : Int)).toNat (IntKind.bits .u32) = F + d := by
      rw [Int.toNat_natCast]; exact Nat.min_eq_left (by simp only [IntKind.bits]; omega)
    have e7 : (2 : Int) ^ (F + d) = ((2 ^ (F + d) : Nat) : Int) := by rw [Int.natCast_pow]; rfl
    have e8 : (IntKind.wrap .u32 (((BitVec.ofInt 32 (Int.fdiv (W : Int) (2 ^ (min (((F + d : Nat) : Int)).toNat (IntKind.bits .u32)))) &&& BitVec.ofInt 32 (1 : Int)).toNat : Nat) : Int)) = ((W / 2 ^ (F + d) % 2 : Nat) : Int) := by
      rw [e6, e7, fdiv_pos (Int.natCast_nonneg _), ← Int.natCast_ediv]
      have hlt3 : W / 2 ^ (F + d) < 4294967296 := Nat.lt_of_le_of_lt (Nat.div_le_self _ _) hW
      generalize W / 2 ^ (F + d) = Q at *
      show andI (Q : Int) (2 - 1) = _
      rw [andI_mask 1 (M := 2) rfl (by decide) (by omega) (by omega)]
      omega
    rw [e8]
    have hB : W / 2 ^ (F + d) % 2 < 2 := Nat.mod_lt _ (by decide)
    clear e1 e8
    generalize W / 2 ^ (F + (d + 1)) % 2 ^ (m - (d + 1)) = V at *
    generalize W / 2 ^ (F + d) % 2 = B at *
    rw [wrap64 (x := (V : Int) * 2) (by omega) (by omega), wrap64 (x := (B : Int)) (by omega) (by omega), wrap64 (by omega) (by omega)]
    have e9 : (V : Int) * 2 + (B : Int) = ((V * 2 + B : Nat) : Int) := by omega
    rw [e9]
    exact next

theorem ret_at {w a m A M : Int} (hw : 0 ≤ w ∧ w < 4294967296) (ha : 0 ≤ a) (hm : 1 ≤ m ∧ m ≤ 20) (ham : a + m ≤ 32) (hA : ((2 ^ a.toNat : Nat) : Int) = A) (hM : ((2 ^ m.toNat : Nat) : Int) = M) :
    Ret 47 [.int .u32 w, .int .i64 a, .int .i64 m] 33 (.int .i64 (w / A % M)) := .mk fun n hn σ _ => by
  refine .le f47_e ?_
  unfold f47_t
  have hg : Gives σ (.int .i64 (w / A % M)) (f47_j2 (pt Tryd.prog Lb 47 n) 0 ((w.toNat / 2 ^ a.toNat % 2 ^ m.toNat : Nat) : Int) σ) := by
    refine .le f47_j2_e ?_
    unfold f47_j2_t
    refine .ret (.refl _) ?_
    rw [Int.natCast_emod, hM, Int.natCast_ediv, hA, Int.toNat_of_nonneg hw.1]
  have := at_l1 (n := n) (a := a) (F := a.toNat) (m := m.toNat) (W := w.toNat) (by omega) (by omega) (by omega) (by omega) m.toNat n (Nat.le_refl _) (by omega) hg
  rw [Nat.sub_self, Nat.pow_zero, Nat.mod_one] at this
  have e1 : ((m.toNat : Int) - 1) = IntKind.wrap .i64 (m - 1) := by rw [wrap64 (by omega) (by omega)]; omega
  rw [e1, Int.toNat_of_nonneg hw.1] at this
  exact this

theorem ret_signed20 {v : Int} (hv : 0 ≤ v ∧ v < 1048576) : Ret 48 [.int .i64 v, .int .i64 20] 1 (.int .i64 (sg 1048576 v)) := .mk fun n _ σ _ => by
  refine .le f48_e ?_
  unfold f48_t
  have e1 : IntKind.wrap .u64 (IntKind.wrap .i64 ((20 : Int) - 1)) = 19 := rfl
  have e2 : IntKind.wrap .i64 ((1 : Int) * 2 ^ (min ((19 : Int)).toNat (IntKind.bits .i64))) = 524288 := rfl
  have e3 : IntKind.wrap .i64 ((2 : Int) * 524288) = 1048576 := rfl
  rw [e1, shK_ok (by decide), e2, e3]
  refine .ite (fun h => .ret (.refl _) ?_) fun h => .ret (.refl _) ?_
  · simp at h
    rw [wrap64 (by omega) (by omega)]; unfold sg; rw [if_neg (by omega)]
  · simp at h
    unfold sg; rw [if_pos (by omega)]
theorem ret_signed12 {v : Int} (hv : 0 ≤ v ∧ v < 4096) : Ret 48 [.int .i64 v, .int .i64 12] 1 (.int .i64 (sg 4096 v)) := .mk fun n _ σ _ => by
  refine .le f48_e ?_
  unfold f48_t
  have e1 : IntKind.wrap .u64 (IntKind.wrap .i64 ((12 : Int) - 1)) = 11 := rfl
  have e2 : IntKind.wrap .i64 ((1 : Int) * 2 ^ (min ((11 : Int)).toNat (IntKind.bits .i64))) = 2048 := rfl
  have e3 : IntKind.wrap .i64 ((2 : Int) * 2048) = 4096 := rfl
  rw [e1, shK_ok (by decide), e2, e3]
  refine .ite (fun h => .ret (.refl _) ?_) fun h => .ret (.refl _) ?_
  · simp at h
    rw [wrap64 (by omega) (by omega)]; unfold sg; rw [if_neg (by omega)]
  · simp at h
    unfold sg; rw [if_pos (by omega)]

theorem sg_range {m v : Int} (_ : 0 ≤ m) (hv : 0 ≤ v ∧ v < m) : -m ≤ sg m v ∧ sg m v < m := by
  unfold sg; split <;> omega

theorem ret_fits {op w : Int} (h1 : 1 ≤ op) (h2 : op ≤ 87) (hw : 0 ≤ w ∧ w < 4294967296) : Ret 31 [.int .i64 op, .int .u32 w] 34 (insV (decR (rowAt op) op w)) := .mk fun n hn σ hk => by
  refine .le f31_e ?_
  unfold f31_t
  refine .ref (op := op) (by omega) h2 (by omega) (.refl _) hk fun σ1 b u1 k1 hg => ?_
  rw [xSl_s, idxK_ok ⟨by omega, by omega⟩, derefK_s, szK_s, hg]
  simp only [refAt, xAgg_a, unC_c, xStr_s, xInt_i, nlC_n]
  refine .call (ret_at (A := 128) (M := 32) hw (by decide) (by decide) (by decide) rfl rfl) hn u1 k1 fun σ2 _ u2 k2 => ?_
  rw [xInt_i]
  refine .call (ret_at (A := 32768) (M := 32) hw (by decide) (by decide) (by decide) rfl rfl) hn u2 k2 fun σ3 _ u3 k3 => ?_
  rw [xInt_i]
  refine .call (ret_at (A := 1048576) (M := 32) hw (by decide) (by decide) (by decide) rfl rfl) hn u3 k3 fun σ4 _ u k => ?_
  rw [xInt_i]
  have hf := (rowOk h1 h2).form
  rw [let1 hf, let2 hf, let3 hf, let4 hf, let5 hf, let6 hf, let7 hf, let8 hf, let9 hf]
  generalize rowAt op = r at *
  have hF := ten hf
  rcases hF with h | h | h | h | h | h | h | h | h | h <;> simp only [h, Int.reduceEq, decide_true, decide_false, cT, cF]
  · refine .call (ret_at (A := 4096) (M := 1048576) hw (by decide) (by decide) (by decide) rfl rfl) hn u k fun σ5 _ u k => ?_
    rw [xInt_i]
    refine .call (ret_signed20 (by omega)) (by omega) u k fun σ6 _ u k => ?_
    rw [xInt_i]
    refine .ret u ?_
    have hs := sg_range (m := 1048576) (v := w / 4096 % 1048576) (by decide) (by omega)
    rw [wrap64 (by omega) (by omega)]
    simp [decR, h, insV]
  · refine .call (ret_at (A := 2147483648) (M := 2) hw (by decide) (by decide) (by decide) rfl rfl) hn u k fun σ5 _ u k => ?_
    rw [xInt_i]
    refine .call (ret_at (A := 4096) (M := 256) hw (by decide) (by decide) (by decide) rfl rfl) hn u k fun σ5 _ u k => ?_
    rw [xInt_i]
    refine .call (ret_at (A := 1048576) (M := 2) hw (by decide) (by decide) (by decide) rfl rfl) hn u k fun σ5 _ u k => ?_
    rw [xInt_i]
    refine .call (ret_at (A := 2097152) (M := 1024) hw (by decide) (by decide) (by decide) rfl rfl) hn u k fun σ5 _ u k => ?_
    rw [xInt_i]
    rw [wrap64 (x := w / 2147483648 % 2 * 524288) (by omega) (by omega), wrap64 (x := w / 4096 % 256 * 2048) (by omega) (by omega), wrap64 (x := w / 2147483648 % 2 * 524288 + w / 4096 % 256 * 2048) (by omega) (by omega), wrap64 (x := w / 1048576 % 2 * 1024) (by omega) (by omega), wrap64 (x := w / 2147483648 % 2 * 524288 + w / 4096 % 256 * 2048 + w / 1048576 % 2 * 1024) (by omega) (by omega), wrap64 (x := w / 2147483648 % 2 * 524288 + w / 4096 % 256 * 2048 + w / 1048576 % 2 * 1024 + w / 2097152 % 1024) (by omega) (by omega)]
    refine .call (ret_signed20 (by omega)) (by omega) u k fun σ6 _ u k => ?_
    rw [xInt_i]
    refine .ret u ?_
    have hs := sg_range (m := 1048576) (v := w / 2147483648 % 2 * 524288 + w / 4096 % 256 * 2048 + w / 1048576 % 2 * 1024 + w / 2097152 % 1024) (by decide) (by omega)
    rw [wrap64 (by omega) (by omega)]
    simp [decR, h, insV]
  · refine .call (ret_at (A := 1048576) (M := 4096) hw (by decide) (by decide) (by decide) rfl rfl) hn u k fun σ5 _ u k => ?_
    rw [xInt_i]
    refine .call (ret_signed12 (by omega)) (by omega) u k fun σ6 _ u k => ?_
    rw [xInt_i]
    refine .ret u ?_
    simp [decR, h, insV]
  · refine .call (ret_at (A := 2147483648) (M := 2) hw (by decide) (by decide) (by decide) rfl rfl) hn u k fun σ5 _ u k => ?_
    rw [xInt_i]
    refine .call (ret_at (A := 128) (M := 2) hw (by decide) (by decide) (by decide) rfl rfl) hn u k fun σ5 _ u k => ?_
    rw [xInt_i]
    refine .call (ret_at (A := 33554432) (M := 64) hw (by decide) (by decide) (by decide) rfl rfl) hn u k fun σ5 _ u k => ?_
    rw [xInt_i]
    refine .call (ret_at (A := 256) (M := 16) hw (by decide) (by decide) (by decide) rfl rfl) hn u k fun σ5 _ u k => ?_
    rw [xInt_i]
    rw [wrap64 (x := w / 2147483648 % 2 * 2048) (by omega) (by omega), wrap64 (x := w / 128 % 2 * 1024) (by omega) (by omega), wrap64 (x := w / 2147483648 % 2 * 2048 + w / 128 % 2 * 1024) (by omega) (by omega), wrap64 (x := w / 33554432 % 64 * 16) (by omega) (by omega), wrap64 (x := w / 2147483648 % 2 * 2048 + w / 128 % 2 * 1024 + w / 33554432 % 64 * 16) (by omega) (by omega), wrap64 (x := w / 2147483648 % 2 * 2048 + w / 128 % 2 * 1024 + w / 33554432 % 64 * 16 + w / 256 % 16) (by omega) (by omega)]
    refine .call (ret_signed12 (by omega)) (by omega) u k fun σ6 _ u k => ?_
    rw [xInt_i]
    refine .ret u ?_
    have hs := sg_range (m := 4096) (v := w / 2147483648 % 2 * 2048 + w / 128 % 2 * 1024 + w / 33554432 % 64 * 16 + w / 256 % 16) (by decide) (by omega)
    rw [wrap64 (by omega) (by omega)]
    simp [decR, h, insV]
  · refine .call (ret_at (A := 33554432) (M := 128) hw (by decide) (by decide) (by decide) rfl rfl) hn u k fun σ5 _ u k => ?_
    rw [xInt_i]
    refine .call (ret_at (A := 128) (M := 32) hw (by decide) (by decide) (by decide) rfl rfl) hn u k fun σ5 _ u k => ?_
    rw [xInt_i]
    rw [wrap64 (x := w / 33554432 % 128 * 32) (by omega) (by omega), wrap64 (x := w / 33554432 % 128 * 32 + w / 128 % 32) (by omega) (by omega)]
    refine .call (ret_signed12 (by omega)) (by omega) u k fun σ6 _ u k => ?_
    rw [xInt_i]
    refine .ret u ?_
    simp [decR, h, insV]
  · refine .call (ret_at (A := 1048576) (M := 64) hw (by decide) (by decide) (by decide) rfl rfl) hn u k fun σ5 _ u k => ?_
    rw [xInt_i]
    refine .ret u ?_
    simp [decR, h, insV]
  · refine .call (ret_at (A := 1048576) (M := 32) hw (by decide) (by decide) (by decide) rfl rfl) hn u k fun σ5 _ u k => ?_
    rw [xInt_i]
    refine .ret u ?_
    simp [decR, h, insV]
  · refine .ret u ?_
    simp [decR, h, insV]
  · refine .ite (fun ho => ?_) fun ho => .ite (fun ho' => ?_) fun ho' => ?_
    all_goals (refine .le f31_j1_e ?_; unfold f31_j1_t; refine .call (ret_at (A := 33554432) (M := 4) hw (by decide) (by decide) (by decide) rfl rfl) hn u k fun σ5 _ u k => ?_; rw [xInt_i]; refine .ret u ?_)
    · simp at ho; simp [decR, h, insV, ho]
    · simp at ho'; simp [decR, h, insV, ho']
    · simp at ho ho'; simp [decR, h, insV, ho, ho']
  · refine .ret u ?_
    simp [decR, h, insV]

theorem decR_op (r : Row) (op w : Int) : (decR r op w).op = op := by
  unfold decR; repeat' split
  all_goals rfl

theorem dec16_l1 {n : Nat} {w i2 : Int} {σ0 : St} (hn : 67 ≤ n) (hw : 0 ≤ w ∧ w < 4294967296) : ∀ (d m : Nat) (k z1 z2 z3 z4 z5 : Int) (σ : St), 1 ≤ k → k + d = 88 → d < m → Up σ0 σ → Kn σ → (∀ x, May x → enc x = w → k ≤ x.op) →
    Gives σ0 (decodeV w) (f16_l1 (pt Tryd.prog Lb 16 n) m w i2 k z1 z2 z3 z4 z5 σ) := by
  intro d
  induction d with
  | zero =>
    intro m k z1 z2 z3 z4 z5 σ h1 hk hm hu hkn hx
    obtain ⟨m, rfl⟩ : ∃ m', m = m' + 1 := ⟨m - 1, by omega⟩
    refine .le f16_l1_e ?_
    unfold f16_l1_t
    rw [decide_eq_false (by omega), cF]
    refine .le f16_j2_e ?_
    unfold f16_j2_t
    refine .ret hu ?_
    rw [decodeV_none]
    · rfl
    · intro x hm he
      have := hx x hm he; have := hm.2.1; omega
  | succ d ih =>
    intro m k z1 z2 z3 z4 z5 σ h1 hk hm hu hkn hx
    obtain ⟨m, rfl⟩ : ∃ m', m = m' + 1 := ⟨m - 1, by omega⟩
    refine .le f16_l1_e ?_
    unfold f16_l1_t
    rw [decide_eq_true (by omega), cT]
    refine .call (ret_fits h1 (by omega) hw) (by omega) hu hkn fun σ1 _ u1 k1 => ?_
    have hop := decR_op (rowAt k) k w
    have hdec : ∀ y, May y → enc y = w → y.op = k → decR (rowAt k) k w = y := by
      intro y hy he ho
      rw [← ho, ← he]; exact dec_enc hy
    generalize decR (rowAt k) k w = x at *
    simp only [insV, xAgg_a, unC_c, xInt_i, nlC_n]
    refine .call (ret_encodeRef x) hn u1 k1 fun σ2 _ u2 k2 => ?_
    simp only [xTup_t, unC_c, xInt_i, nlC_n]
    have next : (May x → enc x ≠ w) → Gives σ0 (decodeV w) (f16_l1 (pt Tryd.prog Lb 16 n) m w i2 (IntKind.wrap .i64 (k + 1)) z1 z2 z3 z4 z5 σ2) := by
      intro hne
      rw [wrap64 (by omega) (by omega)]
      refine ih m (k + 1) _ _ _ _ _ σ2 (by omega) (by omega) (by omega) u2 k2 ?_
      intro y hy he
      have h3 := hx y hy he
      apply Classical.byContradiction
      intro h4
      have h5 := hdec y hy he (by omega)
      subst h5
      exact hne hy he
    by_cases hM : May x
    · rw [if_pos hM, if_pos hM]
      refine .ite (fun _ => .ite (fun h => .ret u2 ?_) fun h => next fun _ => by simpa using h) fun h => by simp at h
      exact (decodeV_some hM (by simpa using h)).symm
    · rw [if_neg hM, if_neg hM]
      refine .ite (fun h => by simp at h) fun _ => next fun h => absurd h hM

theorem ret_decodeRef {w : Int} (hw : 0 ≤ w ∧ w < 4294967296) : Ret 16 [.int .u32 w] 90 (decodeV w) := .mk fun n hn σ hk => by
  refine .le f16_e ?_
  unfold f16_t
  exact dec16_l1 (by omega) hw 87 n 1 0 0 0 0 0 σ (by decide) (by decide) (by omega) (.refl _) hk fun x hx _ => hx.1

end Go.Proofs.Inst

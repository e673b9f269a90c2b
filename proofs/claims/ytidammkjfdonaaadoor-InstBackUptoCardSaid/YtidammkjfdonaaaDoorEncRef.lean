/- The reference's words. -/
import Derived.Test.YtidammkjfdonaaaDoorEnc
namespace Go.Proofs.Inst
open Go.AM Go.Proofs

theorem field_l1 {n : Nat} {from_ many tt out : Int} {σ σ0 : St} {v : AV} : ∀ (d m u : Nat) (k : Int), 0 ≤ k → k + d = from_ → from_ ≤ 64 → d < m → u < 18446744073709551616 →
    Gives σ0 v (f29_j2 (pt Tryd.prog Lb 29 n) many tt out ((u / 2 ^ d : Nat) : Int) σ) → Gives σ0 v (f29_l1 (pt Tryd.prog Lb 29 n) m from_ many tt out (u : Int) k σ) := by
  intro d
  induction d with
  | zero =>
    intro m u k h0 hk _ hm _ g
    obtain ⟨m, rfl⟩ : ∃ m', m = m' + 1 := ⟨m - 1, by omega⟩
    refine .le f29_l1_e ?_
    unfold f29_l1_t
    rw [decide_eq_false (by omega), cF]
    rw [Nat.pow_zero, Nat.div_one] at g
    exact g
  | succ d ih =>
    intro m u k h0 hk hf hm hu g
    obtain ⟨m, rfl⟩ : ∃ m', m = m' + 1 := ⟨m - 1, by omega⟩
    refine .le f29_l1_e ?_
    unfold f29_l1_t
    rw [decide_eq_true (by omega), cT, wrap64 (x := k + 1) (by omega) (by omega), Int.tdiv_eq_ediv_of_nonneg (by omega)]
    have e : ((u : Int) / 2) = ((u / 2 : Nat) : Int) := by omega
    rw [e, wrapu64 (by omega) (by omega)]
    refine ih m (u / 2) (k + 1) (by omega) (by omega) hf (by omega) (by omega) ?_
    rw [Nat.div_div_eq_div_mul, ← Nat.pow_succ']
    exact g

theorem field_l3 {n : Nat} {many tt : Int} {T : Nat} {o8 : Int} {σ σ0 : St} {v : AV} (hto : tt = (T : Int)) (U : Nat) (hU : U < 18446744073709551616) : ∀ (d m i : Nat), many = ((i + d : Nat) : Int) → T + i + d ≤ 32 → d < m →
    Gives σ0 v (f29_j4 (pt Tryd.prog Lb 29 n) o8 ((U % 2 ^ (i + d) * 2 ^ T : Nat) : Int) σ) →
    Gives σ0 v (f29_l3 (pt Tryd.prog Lb 29 n) m many tt o8 ((U / 2 ^ i : Nat) : Int) ((U % 2 ^ i * 2 ^ T : Nat) : Int) (i : Int) σ) := by
  intro d
  induction d with
  | zero =>
    intro m i hk _ hm g
    obtain ⟨m, rfl⟩ : ∃ m', m = m' + 1 := ⟨m - 1, by omega⟩
    refine .le f29_l3_e ?_
    unfold f29_l3_t
    rw [decide_eq_false (by omega), cF]
    exact g
  | succ d ih =>
    intro m i hk hl hm g
    obtain ⟨m, rfl⟩ : ∃ m', m = m' + 1 := ⟨m - 1, by omega⟩
    refine .le f29_l3_e ?_
    unfold f29_l3_t
    have hlt : U / 2 ^ i < 18446744073709551616 := Nat.lt_of_le_of_lt (Nat.div_le_self _ _) hU
    have hlt2 : U / 2 ^ (i + 1) < 18446744073709551616 := Nat.lt_of_le_of_lt (Nat.div_le_self _ _) hU
    have hPQ : U / 2 ^ i / 2 = U / 2 ^ (i + 1) := by rw [Nat.div_div_eq_div_mul, ← Nat.pow_succ]
    have e2 : (i : Int) + 1 = ((i + 1 : Nat) : Int) := by omega
    have g' : Gives σ0 v (f29_j4 (pt Tryd.prog Lb 29 n) o8 ((U % 2 ^ (i + 1 + d) * 2 ^ T : Nat) : Int) σ) := by
      rw [show i + 1 + d = i + (d + 1) by omega]; exact g
    have next := ih m (i + 1) (by omega) (by omega) (by omega) g'
    have e4 : U % 2 ^ (i + 1) * 2 ^ T = U % 2 ^ i * 2 ^ T + U / 2 ^ i % 2 * 2 ^ (T + i) := by
      rw [Nat.mod_pow_succ, Nat.add_mul, Nat.pow_add, Nat.mul_comm (2 ^ i), Nat.mul_assoc, Nat.mul_comm (2 ^ i) (2 ^ T)]
    rw [e4, ← e2] at next
    clear g g' e4
    have hlow : U % 2 ^ i * 2 ^ T < 2 ^ (T + i) := by
      rw [Nat.pow_add, Nat.mul_comm]
      exact Nat.mul_lt_mul_of_pos_left (Nat.mod_lt _ (Nat.two_pow_pos i)) (Nat.two_pow_pos T)
    generalize U % 2 ^ i * 2 ^ T = W at *
    generalize U / 2 ^ i = P at *
    generalize U / 2 ^ (i + 1) = Q at *
    have e1 : ((P : Int) / 2) = (Q : Int) := by omega
    rw [decide_eq_true (by omega), cT, wrap64 (x := (i : Int) + 1) (by omega) (by omega), Int.tdiv_eq_ediv_of_nonneg (by omega), e1, wrapu64 (x := (Q : Int)) (by omega) (by omega)]
    have e3 : Int.tmod (P : Int) 2 = ((P % 2 : Nat) : Int) := by
      rw [Int.tmod_eq_emod_of_nonneg (by omega)]; omega
    have hT : (2 : Nat) ^ (T + i) ≤ 2147483648 := by
      have := Nat.pow_le_pow_right (n := 2) (by omega) (show T + i ≤ 31 by omega)
      have e : 2 ^ 31 = 2147483648 := rfl
      omega
    rw [e3]
    refine .ite (fun h => ?_) fun h => ?_
    · have h : P % 2 = 1 := by
        have : ((P % 2 : Nat) : Int) = 1 := by simpa using h
        omega
      rw [h, Nat.one_mul] at next
      have e5 : IntKind.wrap .u64 (IntKind.wrap .i64 (tt + (i : Int))) = ((T + i : Nat) : Int) := by
        rw [hto, wrap64 (by omega) (by omega), wrapu64 (by omega) (by omega)]; omega
      rw [e5, shK_ok (by omega)]
      have e6 : min (((T + i : Nat) : Int)).toNat (IntKind.bits .u32) = T + i := by
        rw [Int.toNat_natCast]; exact Nat.min_eq_left (by simp only [IntKind.bits]; omega)
      have e7 : (2 : Int) ^ (T + i) = ((2 ^ (T + i) : Nat) : Int) := by rw [Int.natCast_pow]; rfl
      rw [e6, e7, Int.one_mul, wrap32 (x := ((2 ^ (T + i) : Nat) : Int)) (by omega) (by omega), fold_or]
      rw [orI_add (T + i) 1 (K := ((2 ^ (T + i) : Nat) : Int)) (M := ((2 ^ (T + i + 1) : Nat) : Int)) rfl rfl (by omega) (by omega) (by omega) (by omega) ?_ (Int.emod_self) ?_]
      · have e8 : ((W : Nat) : Int) + ((2 ^ (T + i) : Nat) : Int) = ((W + 2 ^ (T + i) : Nat) : Int) := by omega
        rw [e8]
        exact next
      · rw [Nat.pow_succ]; have := Nat.two_pow_pos (T + i); omega
      · rw [← Int.natCast_emod]
        have : W % 2 ^ (T + i + 1) ≤ W := Nat.mod_le _ _
        omega
    · have h : P % 2 = 0 := by
        have : ¬ ((P % 2 : Nat) : Int) = 1 := by simpa using h
        omega
      rw [h, Nat.zero_mul, Nat.add_zero] at next
      exact next

theorem ret_field {v a m t A M T : Int} (ha : 0 ≤ a) (hm : 0 ≤ m) (ht : 0 ≤ t) (ham : a + m ≤ 64) (hmt : t + m ≤ 32) (hA : ((2 ^ a.toNat : Nat) : Int) = A) (hM : ((2 ^ m.toNat : Nat) : Int) = M) (hT : ((2 ^ t.toNat : Nat) : Int) = T) :
    Ret 29 [.int .i64 v, .int .i64 a, .int .i64 m, .int .i64 t] 66 (.int .u32 (v / A % M * T)) := .mk fun n hn σ _ => by
  refine .le f29_e ?_
  unfold f29_t
  have hw : IntKind.wrap .u64 v = ((v % 18446744073709551616).toNat : Int) := by rw [wrapu64_mod]; omega
  rw [hw]
  refine field_l1 a.toNat n _ 0 (by omega) (by omega) (by omega) (by omega) (by omega) ?_
  refine .le f29_j2_e ?_
  unfold f29_j2_t
  generalize hU : (v % 18446744073709551616).toNat / 2 ^ a.toNat = U
  have hlt : U < 18446744073709551616 := by
    rw [← hU]
    exact Nat.lt_of_le_of_lt (Nat.div_le_self _ _) (by omega)
  have hl := field_l3 (n := n) (many := m) (o8 := 0) (σ := σ) (σ0 := σ) (v := .int .u32 (v / A % M * T)) (tt := t) (T := t.toNat) (by omega) U hlt m.toNat n 0 (by omega) (by omega) (by omega)
  have key : ((U % 2 ^ (0 + m.toNat) * 2 ^ t.toNat : Nat) : Int) = v / A % M * T := by
    rw [Nat.zero_add, Int.natCast_mul, hT, Int.natCast_emod, hM, ← hU, Int.natCast_ediv, hA]
    congr 1
    have hv : (((v % 18446744073709551616).toNat : Nat) : Int) = v % 18446744073709551616 := by omega
    rw [hv]
    have hA0 : 0 < A := by rw [← hA]; have := Nat.two_pow_pos a.toNat; omega
    have hd : A * M ∣ 18446744073709551616 := by
      have : (2 ^ (a.toNat + m.toNat) : Nat) ∣ 2 ^ 64 := Nat.pow_dvd_pow 2 (by omega)
      have := Int.natCast_dvd_natCast.2 this
      rw [Nat.pow_add, Int.natCast_mul, hA, hM] at this
      exact this
    obtain ⟨q, hq⟩ := hd
    have e : v = v % 18446744073709551616 + A * (M * (q * (v / 18446744073709551616))) := by
      have := Int.emod_add_mul_ediv v 18446744073709551616
      rw [← Int.mul_assoc, ← Int.mul_assoc, ← hq]; exact this.symm
    conv => rhs; rw [e]
    rw [Int.add_mul_ediv_left _ _ (by omega), Int.add_mul_emod_self_left]
  rw [key] at hl
  rw [Nat.pow_zero, Nat.div_one, Nat.mod_one, Nat.zero_mul] at hl
  refine hl ?_
  refine .le f29_j4_e ?_
  unfold f29_j4_t
  exact .ret (.refl _)

theorem ret_encodeRef (x : Ins) : Ret 14 [insV x] 67 (.tuple [.int .u32 (if May x then enc x else 0), .int .i64 (if May x then 0 else 2)]) := .mk fun n hn σ hk => by
  refine .le f14_e ?_
  unfold f14_t
  refine .call (ret_mayRef x) (by omega) (.refl _) hk fun σ1 _ u1 k1 => ?_
  rw [xBool_b]
  refine .ite (fun h => .ret u1 ?_) fun h => ?_
  · simp at h; simp [h]
  have hM : May x := by simpa using h
  rw [if_pos hM, if_pos hM]
  clear h
  obtain ⟨h1, h2, h3, h4, h5, h⟩ := hM
  refine .refD (op := x.op) (by omega) h2 (by omega) u1 k1 fun σ2 b u2 k2 hg => ?_
  rw [xSl_s, idxK_ok ⟨by omega, by omega⟩, derefK_s, szK_s, hg]
  simp only [refAt, xAgg_a, unC_c, xStr_s, xInt_i, nlC_n]
  have hr := rowOk h1 h2
  have q1 := hr.code0; have q2 := hr.code; have q3 := hr.f3; have q4 := hr.f7; have q5 := hr.f76; have q6 := hr.f77; have q7 := hr.f79
  have hf := hr.form
  unfold enc
  generalize rowAt x.op = r at *
  rw [wrap64 (x := r.f3) (by omega) (by omega), wrap64 (x := r.f7) (by omega) (by omega)]
  clear hr
  have hrd : x.rd % 32 = x.rd := by omega
  have hrs1 : x.rs1 % 32 = x.rs1 := by omega
  have hrs2 : x.rs2 % 32 = x.rs2 := by omega
  have hf3 : r.f3 % 8 = r.f3 := by omega
  have hf7 : r.f7 % 128 = r.f7 := by omega
  refine .call (ret_field (A := 1) (M := 32) (T := 128) (by decide) (by decide) (by decide) (by decide) (by decide) rfl rfl rfl) (by omega) u2 k2 fun σ3 _ u3 k3 => ?_
  rw [xInt_i]
  refine .call (ret_field (A := 1) (M := 8) (T := 4096) (by decide) (by decide) (by decide) (by decide) (by decide) rfl rfl rfl) (by omega) u3 k3 fun σ4 _ u4 k4 => ?_
  rw [xInt_i]
  refine .call (ret_field (A := 1) (M := 32) (T := 32768) (by decide) (by decide) (by decide) (by decide) (by decide) rfl rfl rfl) (by omega) u4 k4 fun σ5 _ u5 k5 => ?_
  rw [xInt_i]
  refine .call (ret_field (A := 1) (M := 32) (T := 1048576) (by decide) (by decide) (by decide) (by decide) (by decide) rfl rfl rfl) (by omega) u5 k5 fun σ6 _ u6 k6 => ?_
  rw [xInt_i]
  refine .call (ret_field (A := 1) (M := 128) (T := 33554432) (by decide) (by decide) (by decide) (by decide) (by decide) rfl rfl rfl) (by omega) u6 k6 fun σ7 _ u7 k7 => ?_
  rw [xInt_i]
  rw [let1 hf, let2 hf, let3 hf, let4 hf, let5 hf, let6 hf, let7 hf, let8 hf, let9 hf]
  rcases h with h | h | h | h | h | h | h | h | h | h <;> simp only [h.1, Int.reduceEq, decide_true, decide_false, cT, cF] <;> simp only [h.1, ne_eq, Int.reduceEq, not_false_eq_true, forall_const] at q2 q5 q6 q7
  · refine .callD (ret_field (A := 4096) (M := 1048576) (T := 4096) (by decide) (by decide) (by decide) (by decide) (by decide) rfl rfl rfl) (by omega) u7 k7 fun σ8 _ u7 k7 => ?_
    rw [xInt_i]
    refine .ret u7 ?_
    simp only [Int.ediv_one, encR, h.1, Int.reduceEq, if_true, if_false, or_false]
    obtain ⟨A, p1, b1, _⟩ := pieces1 x.imm
    simp only [p1]
    simp only [AV.tuple.injEq, List.cons.injEq, AV.int.injEq, and_true, true_and]
    simp only [hrd]
    simp only [wrap32_mod]
    omega
  · refine .callD (ret_field (A := 1048576) (M := 2) (T := 2147483648) (by decide) (by decide) (by decide) (by decide) (by decide) rfl rfl rfl) (by omega) u7 k7 fun σ8 _ u7 k7 => ?_
    rw [xInt_i]
    refine .callD (ret_field (A := 2) (M := 1024) (T := 2097152) (by decide) (by decide) (by decide) (by decide) (by decide) rfl rfl rfl) (by omega) u7 k7 fun σ8 _ u7 k7 => ?_
    rw [xInt_i]
    refine .callD (ret_field (A := 2048) (M := 2) (T := 1048576) (by decide) (by decide) (by decide) (by decide) (by decide) rfl rfl rfl) (by omega) u7 k7 fun σ8 _ u7 k7 => ?_
    rw [xInt_i]
    refine .callD (ret_field (A := 4096) (M := 256) (T := 4096) (by decide) (by decide) (by decide) (by decide) (by decide) rfl rfl rfl) (by omega) u7 k7 fun σ8 _ u7 k7 => ?_
    rw [xInt_i]
    refine .ret u7 ?_
    simp only [Int.ediv_one, encR, h.1, Int.reduceEq, if_true, if_false, or_false]
    obtain ⟨A, B, C, D, p1, p2, p3, p4, b1, b2, b3, b4, _⟩ := pieces2 x.imm
    simp only [p1, p2, p3, p4]
    simp only [AV.tuple.injEq, List.cons.injEq, AV.int.injEq, and_true, true_and]
    simp only [hrd]
    simp only [wrap32_mod]
    omega
  · refine .callD (ret_field (A := 1) (M := 4096) (T := 1048576) (by decide) (by decide) (by decide) (by decide) (by decide) rfl rfl rfl) (by omega) u7 k7 fun σ8 _ u7 k7 => ?_
    rw [xInt_i]
    refine .ret u7 ?_
    simp only [Int.ediv_one, encR, h.1, Int.reduceEq, if_true, if_false, or_false]
    simp only [AV.tuple.injEq, List.cons.injEq, AV.int.injEq, and_true, true_and]
    simp only [hrd, hrs1, hf3]
    simp only [wrap32_mod]
    omega
  · refine .callD (ret_field (A := 4096) (M := 2) (T := 2147483648) (by decide) (by decide) (by decide) (by decide) (by decide) rfl rfl rfl) (by omega) u7 k7 fun σ8 _ u7 k7 => ?_
    rw [xInt_i]
    refine .callD (ret_field (A := 32) (M := 64) (T := 33554432) (by decide) (by decide) (by decide) (by decide) (by decide) rfl rfl rfl) (by omega) u7 k7 fun σ8 _ u7 k7 => ?_
    rw [xInt_i]
    refine .callD (ret_field (A := 2) (M := 16) (T := 256) (by decide) (by decide) (by decide) (by decide) (by decide) rfl rfl rfl) (by omega) u7 k7 fun σ8 _ u7 k7 => ?_
    rw [xInt_i]
    refine .callD (ret_field (A := 2048) (M := 2) (T := 128) (by decide) (by decide) (by decide) (by decide) (by decide) rfl rfl rfl) (by omega) u7 k7 fun σ8 _ u7 k7 => ?_
    rw [xInt_i]
    refine .ret u7 ?_
    simp only [Int.ediv_one, encR, h.1, Int.reduceEq, if_true, if_false, or_false]
    obtain ⟨A, B, C, D, p1, p2, p3, p4, b1, b2, b3, b4, _⟩ := pieces4 x.imm
    simp only [p1, p2, p3, p4]
    simp only [AV.tuple.injEq, List.cons.injEq, AV.int.injEq, and_true, true_and]
    simp only [hrs1, hrs2, hf3]
    simp only [wrap32_mod]
    omega
  · refine .callD (ret_field (A := 32) (M := 128) (T := 33554432) (by decide) (by decide) (by decide) (by decide) (by decide) rfl rfl rfl) (by omega) u7 k7 fun σ8 _ u7 k7 => ?_
    rw [xInt_i]
    refine .callD (ret_field (A := 1) (M := 32) (T := 128) (by decide) (by decide) (by decide) (by decide) (by decide) rfl rfl rfl) (by omega) u7 k7 fun σ8 _ u7 k7 => ?_
    rw [xInt_i]
    refine .ret u7 ?_
    simp only [Int.ediv_one, encR, h.1, Int.reduceEq, if_true, if_false, or_false]
    obtain ⟨A, B, p1, p2, b1, b2, _⟩ := pieces5 x.imm
    simp only [p1, p2]
    simp only [AV.tuple.injEq, List.cons.injEq, AV.int.injEq, and_true, true_and]
    simp only [hrs1, hrs2, hf3]
    simp only [wrap32_mod]
    omega
  · refine .callD (ret_field (A := 1) (M := 64) (T := 1048576) (by decide) (by decide) (by decide) (by decide) (by decide) rfl rfl rfl) (by omega) u7 k7 fun σ8 _ u7 k7 => ?_
    rw [xInt_i]
    refine .ret u7 ?_
    simp only [Int.ediv_one, encR, h.1, Int.reduceEq, if_true, if_false, or_false]
    simp only [AV.tuple.injEq, List.cons.injEq, AV.int.injEq, and_true, true_and]
    simp only [hrd, hrs1, hf3, hf7]
    rw [show x.imm % 64 = x.imm by omega]
    simp only [wrap32_mod]
    omega
  · refine .callD (ret_field (A := 1) (M := 32) (T := 1048576) (by decide) (by decide) (by decide) (by decide) (by decide) rfl rfl rfl) (by omega) u7 k7 fun σ8 _ u7 k7 => ?_
    rw [xInt_i]
    refine .ret u7 ?_
    simp only [Int.ediv_one, encR, h.1, Int.reduceEq, if_true, if_false, or_true]
    simp only [AV.tuple.injEq, List.cons.injEq, AV.int.injEq, and_true, true_and]
    simp only [hrd, hrs1, hf3, hf7]
    rw [show x.imm % 32 = x.imm by omega]
    simp only [wrap32_mod]
    omega
  · refine .ret u7 ?_
    simp only [Int.ediv_one, encR, h.1, Int.reduceEq, if_true, if_false, or_false]
    simp only [AV.tuple.injEq, List.cons.injEq, AV.int.injEq, and_true, true_and]
    simp only [hrd, hrs1, hrs2, hf3, hf7]
    simp only [wrap32_mod]
    omega
  · refine .callD (ret_field (A := 1) (M := 4) (T := 33554432) (by decide) (by decide) (by decide) (by decide) (by decide) rfl rfl rfl) (by omega) u7 k7 fun σ8 _ u7 k7 => ?_
    rw [xInt_i]
    refine .callD (ret_field (A := 1) (M := 32) (T := 134217728) (by decide) (by decide) (by decide) (by decide) (by decide) rfl rfl rfl) (by omega) u7 k7 fun σ8 _ u7 k7 => ?_
    rw [xInt_i]
    refine .ret u7 ?_
    simp only [Int.ediv_one, encR, h.1, Int.reduceEq, if_true, if_false, or_false]
    simp only [AV.tuple.injEq, List.cons.injEq, AV.int.injEq, and_true, true_and]
    simp only [hrd, hrs1, hrs2, hf3]
    rw [show x.imm % 4 = x.imm by omega, show r.f7 % 32 = r.f7 by omega]
    simp only [wrap32_mod]
    omega
  · refine .ret u7 ?_
    simp [encR, h.1]

end Go.Proofs.Inst

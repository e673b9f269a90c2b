/- The program's reading of a word. -/
import Derived.Test.YtidammkjfdonaaaDoorDecRef
namespace Go.Proofs.Inst
open Go.AM Go.Proofs

/-- Bits of the captured word. -/
theorem call_at {n b : Nat} {w a m A M : Int} {σ : St} (hb : cellsAt σ b = some [.int .u32 w]) (hw : 0 ≤ w ∧ w < 4294967296) (ha : 0 ≤ a ∧ a ≤ 31) (hm : 0 ≤ m ∧ m ≤ 31) (hA : ((2 ^ a.toNat : Nat) : Int) = A) (hM : ((2 ^ m.toNat : Nat) : Int) = M) :
    callP Tryd.prog Lb (n + 1) 45 [.int .i64 a, .int .i64 m, .ptr (some (b, 0))] σ = some (.ret (.int .u32 (w / A % M)), σ) := by
  refine f45_e.some ?_
  unfold f45_t
  rw [ldK_at hb, partK_s agg26 (v := .int .u32 w) rfl, xInt_i, shK_ok ha.1, shK_ok hm.1]
  congr 4
  have e1 : min a.toNat (IntKind.bits .u32) = a.toNat := Nat.min_eq_left (by simp only [IntKind.bits]; omega)
  have e2 : min m.toNat (IntKind.bits .u32) = m.toNat := Nat.min_eq_left (by simp only [IntKind.bits]; omega)
  have e3 : (2 : Int) ^ a.toNat = A := by rw [← hA, Int.natCast_pow]; rfl
  have e4 : (2 : Int) ^ m.toNat = M := by rw [← hM, Int.natCast_pow]; rfl
  rw [e1, e2, e3, e4, Int.one_mul]
  have hA0 : 0 < A := by rw [← hA]; have := Nat.two_pow_pos a.toNat; omega
  have hM0 : 1 ≤ M := by rw [← hM]; have := Nat.two_pow_pos m.toNat; omega
  have hM1 : M ≤ 2147483648 := by
    rw [← hM]
    have := Nat.pow_le_pow_right (n := 2) (by omega) (show m.toNat ≤ 31 by omega)
    have e : 2 ^ 31 = 2147483648 := rfl
    omega
  rw [wrap32 (x := M) (by omega) (by omega), wrap32 (x := M - 1) (by omega) (by omega), fdiv_pos (by omega)]
  have h1 : 0 ≤ w / A := Int.ediv_nonneg hw.1 (by omega)
  have h2 : w / A ≤ w := Int.ediv_le_self _ hw.1
  show andI (w / A) (M - 1) = _
  exact andI_mask m.toNat hM (by omega) h1 (by omega)

theorem Gives.at45 {n b : Nat} {w a m A M : Int} {σ0 σ : St} {v : AV} {k : AV → St → Out} (hb : cellsAt σ b = some [.int .u32 w]) (hw : 0 ≤ w ∧ w < 4294967296) (ha : 0 ≤ a ∧ a ≤ 31) (hm : 0 ≤ m ∧ m ≤ 31) (hA : ((2 ^ a.toNat : Nat) : Int) = A) (hM : ((2 ^ m.toNat : Nat) : Int) = M) (hn : 1 ≤ n)
    (g : Gives σ0 v (k (.int .u32 (w / A % M)) σ)) : Gives σ0 v (callT Tryd.prog Lb n 45 [.int .i64 a, .int .i64 m, .ptr (some (b, 0))] σ k) := by
  obtain ⟨m', rfl⟩ : ∃ m', n = m' + 1 := ⟨n - 1, by omega⟩
  rw [callT_ok (call_at hb hw ha hm hA hM)]
  exact g

/-! ### numbers put together -/

theorem num_step {n m b L i : Nat} {c3 : Option Nat} {i5 V N p k K : Int} {σ : St} {o : Res × St} {cs : List AV} (hb : cellsAt σ b = some cs) (h0 : cs[i]? = some (.int .u32 p)) (h1 : cs[i + 1]? = some (.int .u32 k)) (hL : i + 1 < L) (hL2 : L < 100)
    (hk : 0 ≤ k ∧ k ≤ 20) (hK : ((2 ^ k.toNat : Nat) : Int) = K) (hp : 0 ≤ p ∧ p < K) (hV : 0 ≤ V ∧ V < 1099511627776) (hN : 0 ≤ N ∧ N ≤ 1000)
    (g : f46_l1 (pt Tryd.prog Lb 46 n) m (some (b, 0)) L c3 1 i5 (V * K + p) (N + k) ((i + 2 : Nat) : Int) σ = some o) :
    f46_l1 (pt Tryd.prog Lb 46 n) (m + 1) (some (b, 0)) L c3 1 i5 V N (i : Int) σ = some o := by
  refine f46_l1_e.some ?_
  unfold f46_l1_t
  have e1 : IntKind.wrap .i64 ((i : Int) + 1) = ((i + 1 : Nat) : Int) := by rw [wrap64 (by omega) (by omega)]; omega
  have e2 : IntKind.wrap .i64 ((i : Int) + 2) = ((i + 2 : Nat) : Int) := by rw [wrap64 (by omega) (by omega)]; omega
  have hK0 : 1 ≤ K := by rw [← hK]; have := Nat.two_pow_pos k.toNat; omega
  have hK1 : K ≤ 1048576 := by
    rw [← hK]
    have := Nat.pow_le_pow_right (n := 2) (by omega) (show k.toNat ≤ 20 by omega)
    have e : 2 ^ 20 = 1048576 := rfl
    omega
  rw [e1, e2, decide_eq_true (by omega), cT, idxK_ok ⟨by omega, by omega⟩, derefK_s, szK_s, ldK_at hb, Int.toNat_natCast, Nat.mul_one, Nat.zero_add, partK_s agg26 h1, xInt_i, shK_ok hk.1, idxK_ok ⟨by omega, by omega⟩, derefK_s, szK_s, ldK_at hb, Int.toNat_natCast, Nat.mul_one, Nat.zero_add, partK_s agg26 h0, xInt_i,
    idxK_ok ⟨by omega, by omega⟩, derefK_s, szK_s, ldK_at hb, Nat.zero_add, partK_s agg26 h1, xInt_i]
  have e3 : min k.toNat (IntKind.bits .i64) = k.toNat := Nat.min_eq_left (by simp only [IntKind.bits]; omega)
  have e4 : (2 : Int) ^ k.toNat = K := by rw [← hK, Int.natCast_pow]; rfl
  have hVK0 : 0 ≤ V * K := Int.mul_nonneg hV.1 (by omega)
  have hVK : V * K ≤ 1099511627775 * 1048576 := Int.mul_le_mul (by omega) hK1 (by omega) (by omega)
  rw [e3, e4, wrap64 (x := V * K) (by omega) (by omega), wrap64 (x := p) (by omega) (by omega), wrap64 (x := k) (by omega) (by omega), wrap64 (x := N + k) (by omega) (by omega)]
  show f46_l1 (pt Tryd.prog Lb 46 n) m (some (b, 0)) L c3 1 i5 (or64 (V * K) p) (N + k) ((i + 2 : Nat) : Int) σ = some o
  rw [or64_add k.toNat hK hVK0 (by omega) hp.1 hp.2 (Int.mul_emod_left _ _) (by omega)]
  exact g

theorem num_end20 {n m b L i : Nat} {c3 : Option Nat} {i5 V : Int} {σ : St} (hL : L = i) (hL2 : L < 100) (hV : 0 ≤ V ∧ V < 1048576) :
    f46_l1 (pt Tryd.prog Lb 46 n) (m + 1) (some (b, 0)) L c3 1 i5 V 20 (i : Int) σ = some (.ret (.int .i64 (sg 1048576 V)), σ) := by
  refine f46_l1_e.some ?_
  unfold f46_l1_t
  rw [wrap64 (x := (i : Int) + 1) (by omega) (by omega), decide_eq_false (by omega), cF]
  refine f46_j2_e.some ?_
  unfold f46_j2_t
  have e1 : IntKind.wrap .i64 ((64 : Int) - 20) = 44 := rfl
  have e2 : min ((44 : Int)).toNat (IntKind.bits .i64) = 44 := rfl
  have e3 : (2 : Int) ^ 44 = 17592186044416 := rfl
  rw [e1, shK_ok (by decide), shK_ok (by decide), e2, e3, fdiv_pos (by decide)]
  congr 4
  unfold sg
  by_cases h : V < 1048576 / 2
  · rw [if_pos h, wrap64 (by omega) (by omega)]; omega
  · rw [if_neg h]
    have : IntKind.wrap .i64 (V * 17592186044416) = V * 17592186044416 - 18446744073709551616 := by
      simp only [IntKind.wrap, IntKind.bits, IntKind.signed]
      have e1 : (2 : Int) ^ 64 = 18446744073709551616 := rfl
      have e2 : (2 : Int) ^ (64 - 1) = 9223372036854775808 := rfl
      simp only [Bool.true_and, decide_eq_true_eq, e1, e2]
      rw [if_pos (by omega)]; omega
    rw [this]; omega
theorem num_end12 {n m b L i : Nat} {c3 : Option Nat} {i5 V : Int} {σ : St} (hL : L = i) (hL2 : L < 100) (hV : 0 ≤ V ∧ V < 4096) :
    f46_l1 (pt Tryd.prog Lb 46 n) (m + 1) (some (b, 0)) L c3 1 i5 V 12 (i : Int) σ = some (.ret (.int .i64 (sg 4096 V)), σ) := by
  refine f46_l1_e.some ?_
  unfold f46_l1_t
  rw [wrap64 (x := (i : Int) + 1) (by omega) (by omega), decide_eq_false (by omega), cF]
  refine f46_j2_e.some ?_
  unfold f46_j2_t
  have e1 : IntKind.wrap .i64 ((64 : Int) - 12) = 52 := rfl
  have e2 : min ((52 : Int)).toNat (IntKind.bits .i64) = 52 := rfl
  have e3 : (2 : Int) ^ 52 = 4503599627370496 := rfl
  rw [e1, shK_ok (by decide), shK_ok (by decide), e2, e3, fdiv_pos (by decide)]
  congr 4
  unfold sg
  by_cases h : V < 4096 / 2
  · rw [if_pos h, wrap64 (by omega) (by omega)]; omega
  · rw [if_neg h]
    have : IntKind.wrap .i64 (V * 4503599627370496) = V * 4503599627370496 - 18446744073709551616 := by
      simp only [IntKind.wrap, IntKind.bits, IntKind.signed]
      have e1 : (2 : Int) ^ 64 = 18446744073709551616 := rfl
      have e2 : (2 : Int) ^ (64 - 1) = 9223372036854775808 := rfl
      simp only [Bool.true_and, decide_eq_true_eq, e1, e2]
      rw [if_pos (by omega)]; omega
    rw [this]; omega

theorem Gives.num {n : Nat} {σ0 σ σ1 : St} {v r : AV} {args : List AV} {k : AV → St → Out} (h : callP Tryd.prog Lb n 46 args σ = some (.ret r, σ1)) (g : Gives σ0 v (k r σ1)) : Gives σ0 v (callT Tryd.prog Lb n 46 args σ k) := by
  rw [callT_ok h]; exact g

section
variable {n : Nat} {σ : St} {p q r s : Int}

theorem num1_20 (hp : 0 ≤ p ∧ p < 1048576) : callP Tryd.prog Lb (n + 9) 46 [.slice (some (σ.length, 0)) 2 (some 2) 1] (σ ++ [.cells [.int .u32 p, .int .u32 20] (.rw (some 26))]) = some (.ret (.int .i64 (sg 1048576 p)), σ ++ [.cells [.int .u32 p, .int .u32 20] (.rw (some 26))]) := by
  refine f46_e.some ?_
  unfold f46_t
  refine num_step (i := 0) (K := 1048576) cellsAt_new rfl rfl (by decide) (by decide) (by decide) rfl hp (by decide) (by decide) ?_
  refine (num_end20 (i := 2) rfl (by decide) (by omega)).trans ?_
  congr 5; omega
theorem num1_12 (hp : 0 ≤ p ∧ p < 4096) : callP Tryd.prog Lb (n + 9) 46 [.slice (some (σ.length, 0)) 2 (some 2) 1] (σ ++ [.cells [.int .u32 p, .int .u32 12] (.rw (some 26))]) = some (.ret (.int .i64 (sg 4096 p)), σ ++ [.cells [.int .u32 p, .int .u32 12] (.rw (some 26))]) := by
  refine f46_e.some ?_
  unfold f46_t
  refine num_step (i := 0) (K := 4096) cellsAt_new rfl rfl (by decide) (by decide) (by decide) rfl hp (by decide) (by decide) ?_
  refine (num_end12 (i := 2) rfl (by decide) (by omega)).trans ?_
  congr 5; omega
theorem num5 (hp : 0 ≤ p ∧ p < 128) (hq : 0 ≤ q ∧ q < 32) : callP Tryd.prog Lb (n + 9) 46 [.slice (some (σ.length, 0)) 4 (some 4) 1] (σ ++ [.cells [.int .u32 p, .int .u32 7, .int .u32 q, .int .u32 5] (.rw (some 26))]) = some (.ret (.int .i64 (sg 4096 (p * 32 + q))), σ ++ [.cells [.int .u32 p, .int .u32 7, .int .u32 q, .int .u32 5] (.rw (some 26))]) := by
  refine f46_e.some ?_
  unfold f46_t
  refine num_step (i := 0) (K := 128) cellsAt_new rfl rfl (by decide) (by decide) (by decide) rfl hp (by decide) (by decide) ?_
  refine num_step (i := 2) (K := 32) cellsAt_new rfl rfl (by decide) (by decide) (by decide) rfl hq (by omega) (by decide) ?_
  refine (num_end12 (i := 4) rfl (by decide) (by omega)).trans ?_
  congr 5; omega
theorem num4 (hp : 0 ≤ p ∧ p < 2) (hq : 0 ≤ q ∧ q < 2) (hr : 0 ≤ r ∧ r < 64) (hs : 0 ≤ s ∧ s < 16) : callP Tryd.prog Lb (n + 9) 46 [.slice (some (σ.length, 0)) 8 (some 8) 1] (σ ++ [.cells [.int .u32 p, .int .u32 1, .int .u32 q, .int .u32 1, .int .u32 r, .int .u32 6, .int .u32 s, .int .u32 4] (.rw (some 26))]) = some (.ret (.int .i64 (sg 4096 (p * 2048 + q * 1024 + r * 16 + s))), σ ++ [.cells [.int .u32 p, .int .u32 1, .int .u32 q, .int .u32 1, .int .u32 r, .int .u32 6, .int .u32 s, .int .u32 4] (.rw (some 26))]) := by
  refine f46_e.some ?_
  unfold f46_t
  refine num_step (i := 0) (K := 2) cellsAt_new rfl rfl (by decide) (by decide) (by decide) rfl hp (by decide) (by decide) ?_
  refine num_step (i := 2) (K := 2) cellsAt_new rfl rfl (by decide) (by decide) (by decide) rfl hq (by omega) (by decide) ?_
  refine num_step (i := 4) (K := 64) cellsAt_new rfl rfl (by decide) (by decide) (by decide) rfl hr (by omega) (by decide) ?_
  refine num_step (i := 6) (K := 16) cellsAt_new rfl rfl (by decide) (by decide) (by decide) rfl hs (by omega) (by decide) ?_
  refine (num_end12 (i := 8) rfl (by decide) (by omega)).trans ?_
  congr 5; omega
theorem num2 (hp : 0 ≤ p ∧ p < 2) (hq : 0 ≤ q ∧ q < 256) (hr : 0 ≤ r ∧ r < 2) (hs : 0 ≤ s ∧ s < 1024) : callP Tryd.prog Lb (n + 9) 46 [.slice (some (σ.length, 0)) 8 (some 8) 1] (σ ++ [.cells [.int .u32 p, .int .u32 1, .int .u32 q, .int .u32 8, .int .u32 r, .int .u32 1, .int .u32 s, .int .u32 10] (.rw (some 26))]) = some (.ret (.int .i64 (sg 1048576 (p * 524288 + q * 2048 + r * 1024 + s))), σ ++ [.cells [.int .u32 p, .int .u32 1, .int .u32 q, .int .u32 8, .int .u32 r, .int .u32 1, .int .u32 s, .int .u32 10] (.rw (some 26))]) := by
  refine f46_e.some ?_
  unfold f46_t
  refine num_step (i := 0) (K := 2) cellsAt_new rfl rfl (by decide) (by decide) (by decide) rfl hp (by decide) (by decide) ?_
  refine num_step (i := 2) (K := 256) cellsAt_new rfl rfl (by decide) (by decide) (by decide) rfl hq (by omega) (by decide) ?_
  refine num_step (i := 4) (K := 2) cellsAt_new rfl rfl (by decide) (by decide) (by decide) rfl hr (by omega) (by decide) ?_
  refine num_step (i := 6) (K := 1024) cellsAt_new rfl rfl (by decide) (by decide) (by decide) rfl hs (by omega) (by decide) ?_
  refine (num_end20 (i := 8) rfl (by decide) (by omega)).trans ?_
  congr 5; omega

end

/-- A word's number, by its form. -/
def immF (f w : Int) : Int :=
  if f = 1 then sg 1048576 (w / 4096 % 1048576) * 4096
  else if f = 2 then sg 1048576 (w / 2147483648 % 2 * 524288 + w / 4096 % 256 * 2048 + w / 1048576 % 2 * 1024 + w / 2097152 % 1024) * 2
  else if f = 3 then sg 4096 (w / 1048576 % 4096)
  else if f = 4 then sg 4096 (w / 2147483648 % 2 * 2048 + w / 128 % 2 * 1024 + w / 33554432 % 64 * 16 + w / 256 % 16) * 2
  else if f = 5 then sg 4096 (w / 33554432 % 128 * 32 + w / 128 % 32)
  else if f = 6 then w / 1048576 % 64
  else if f = 7 then w / 1048576 % 32
  else if f = 9 then w / 33554432 % 4
  else 0

theorem ret_imm {f w : Int} (hf : 1 ≤ f ∧ f ≤ 10) (hw : 0 ≤ w ∧ w < 4294967296) : Ret 30 [.int .u32 f, .int .u32 w] 20 (.int .i64 (immF f w)) := .mk fun n hn σ _ => by
  refine .le f30_e ?_
  unfold f30_t
  obtain ⟨n, rfl⟩ : ∃ m, n = m + 9 := ⟨n - 9, by omega⟩
  have hb : cellsAt (σ ++ [AObj.cells [.int .u32 w] (.rw none)]) σ.length = some [.int .u32 w] := cellsAt_new
  have u := Up.app σ [AObj.cells [.int .u32 w] (.rw none)]
  rcases ten hf with rfl | rfl | rfl | rfl | rfl | rfl | rfl | rfl | rfl | rfl <;> simp only [Int.reduceBEq, cT, cF]
  · refine .at45 (A := 4096) (M := 1048576) hb hw (by decide) (by decide) rfl rfl (by omega) ?_
    rw [xInt_i]
    refine .num (num1_20 (by omega)) ?_
    rw [xInt_i]
    have hs := sg_range (m := 1048576) (v := w / 4096 % 1048576) (by decide) (by omega)
    refine .ret (u.more _) ?_
    rw [show (2 : Int) ^ 12 = 4096 from rfl, wrap64 (by omega) (by omega)]; rfl
  · refine .at45 (A := 2147483648) (M := 2) hb hw (by decide) (by decide) rfl rfl (by omega) ?_
    rw [xInt_i]
    refine .at45 (A := 4096) (M := 256) hb hw (by decide) (by decide) rfl rfl (by omega) ?_
    rw [xInt_i]
    refine .at45 (A := 1048576) (M := 2) hb hw (by decide) (by decide) rfl rfl (by omega) ?_
    rw [xInt_i]
    refine .at45 (A := 2097152) (M := 1024) hb hw (by decide) (by decide) rfl rfl (by omega) ?_
    rw [xInt_i]
    refine .num (num2 (by omega) (by omega) (by omega) (by omega)) ?_
    rw [xInt_i]
    have hs := sg_range (m := 1048576) (v := w / 2147483648 % 2 * 524288 + w / 4096 % 256 * 2048 + w / 1048576 % 2 * 1024 + w / 2097152 % 1024) (by decide) (by omega)
    refine .ret (u.more _) ?_
    rw [show (2 : Int) ^ 1 = 2 from rfl, wrap64 (by omega) (by omega)]; rfl
  · refine .at45 (A := 1048576) (M := 4096) hb hw (by decide) (by decide) rfl rfl (by omega) ?_
    rw [xInt_i]
    refine .num (num1_12 (by omega)) ?_
    rw [xInt_i]
    exact .ret (u.more _)
  · refine .at45 (A := 2147483648) (M := 2) hb hw (by decide) (by decide) rfl rfl (by omega) ?_
    rw [xInt_i]
    refine .at45 (A := 128) (M := 2) hb hw (by decide) (by decide) rfl rfl (by omega) ?_
    rw [xInt_i]
    refine .at45 (A := 33554432) (M := 64) hb hw (by decide) (by decide) rfl rfl (by omega) ?_
    rw [xInt_i]
    refine .at45 (A := 256) (M := 16) hb hw (by decide) (by decide) rfl rfl (by omega) ?_
    rw [xInt_i]
    refine .num (num4 (by omega) (by omega) (by omega) (by omega)) ?_
    rw [xInt_i]
    have hs := sg_range (m := 4096) (v := w / 2147483648 % 2 * 2048 + w / 128 % 2 * 1024 + w / 33554432 % 64 * 16 + w / 256 % 16) (by decide) (by omega)
    refine .ret (u.more _) ?_
    rw [show (2 : Int) ^ 1 = 2 from rfl, wrap64 (by omega) (by omega)]; rfl
  · refine .at45 (A := 33554432) (M := 128) hb hw (by decide) (by decide) rfl rfl (by omega) ?_
    rw [xInt_i]
    refine .at45 (A := 128) (M := 32) hb hw (by decide) (by decide) rfl rfl (by omega) ?_
    rw [xInt_i]
    refine .num (num5 (by omega) (by omega)) ?_
    rw [xInt_i]
    exact .ret (u.more _)
  · refine .at45 (A := 1048576) (M := 64) hb hw (by decide) (by decide) rfl rfl (by omega) ?_
    rw [xInt_i, wrap64 (by omega) (by omega)]
    exact .ret u
  · refine .at45 (A := 1048576) (M := 32) hb hw (by decide) (by decide) rfl rfl (by omega) ?_
    rw [xInt_i, wrap64 (by omega) (by omega)]
    exact .ret u
  · exact .ret u
  · refine .at45 (A := 33554432) (M := 4) hb hw (by decide) (by decide) rfl rfl (by omega) ?_
    rw [xInt_i, wrap64 (by omega) (by omega)]
    exact .ret u
  · exact .ret u

theorem reg5 {w : Int} (k : Nat) {K : Int} (hK : ((2 ^ k : Nat) : Int) = K) (hw : 0 ≤ w ∧ w < 4294967296) : (IntKind.wrap .i64 (IntKind.wrap .u32 (((BitVec.ofInt 32 (Int.fdiv w (2 ^ k)) &&& BitVec.ofInt 32 (31 : Int)).toNat : Nat) : Int))) = w / K % 32 := by
  have e4 : (2 : Int) ^ k = K := by rw [← hK, Int.natCast_pow]; rfl
  have hK0 : 1 ≤ K := by rw [← hK]; have := Nat.two_pow_pos k; omega
  have h1 : 0 ≤ w / K := Int.ediv_nonneg hw.1 (by omega)
  have h2 : w / K ≤ w := Int.ediv_le_self _ hw.1
  rw [e4, fdiv_pos (by omega)]
  have : (IntKind.wrap .u32 (((BitVec.ofInt 32 (w / K) &&& BitVec.ofInt 32 (31 : Int)).toNat : Nat) : Int)) = w / K % 32 := by
    show andI (w / K) (32 - 1) = _
    exact andI_mask 5 rfl (by decide) h1 (by omega)
  rw [this, wrap64 (by omega) (by omega)]

/-- From the fields that a form has to the instruction. -/
theorem dec_fields {r : Row} {op w : Int} (hf : 1 ≤ r.form ∧ r.form ≤ 10) {b1 b2 b3 b4 : Bool} (hb : hasB r.form op = [b1, b2, b3, b4]) :
    decR r op w = ⟨op, if b1 = true then w / 128 % 32 else 0, if b2 = true then w / 32768 % 32 else 0, if b3 = true then w / 1048576 % 32 else 0, if b4 = true then immF r.form w else 0⟩ := by
  rcases ten hf with h | h | h | h | h | h | h | h | h | h <;> simp [hasB, h] at hb <;> obtain ⟨rfl, rfl, rfl, rfl⟩ := hb <;> simp [decR, immF, h]
  by_cases h1 : op = 66
  · simp [h1]
  · by_cases h2 : op = 77
    · simp [h2]
    · simp [h1, h2]

theorem dec15_l1 {n : Nat} {w i2 : Int} {σ0 : St} (hn : 22 ≤ n) (hw : 0 ≤ w ∧ w < 4294967296) : ∀ (d m : Nat) (k z1 z2 z3 z4 z5 : Int) (σ : St), 0 ≤ k → k + d = 88 → d < m → Up σ0 σ → Kn σ → (∀ x, May x → enc x = w → k ≤ x.op) →
    Gives σ0 (decodeV w) (f15_l1 (pt Tryd.prog Lb 15 n) m w i2 rowsV k z1 z2 z3 z4 z5 σ) := by
  intro d
  induction d with
  | zero =>
    intro m k z1 z2 z3 z4 z5 σ h1 hk hm hu hkn hx
    obtain ⟨m, rfl⟩ : ∃ m', m = m' + 1 := ⟨m - 1, by omega⟩
    refine .le f15_l1_e ?_
    unfold f15_l1_t
    rw [decide_eq_false (by omega), cF]
    refine .le f15_j4_e ?_
    unfold f15_j4_t
    refine .ret hu ?_
    rw [decodeV_none]
    · rfl
    · intro x hm he
      have := hx x hm he; have := hm.2.1; omega
  | succ d ih =>
    intro m k z1 z2 z3 z4 z5 σ h1 hk hm hu hkn hx
    obtain ⟨m, rfl⟩ : ∃ m', m = m' + 1 := ⟨m - 1, by omega⟩
    refine .le f15_l1_e ?_
    unfold f15_l1_t
    rw [decide_eq_true (by omega), cT, rows_at h1 (by omega)]
    simp only [rowV, xAgg_a, unC_c, xInt_i, nlC_n]
    have next : ∀ σ1, Up σ0 σ1 → Kn σ1 → (∀ y, May y → enc y = w → y.op ≠ k) → Gives σ0 (decodeV w) (f15_j2 (pt Tryd.prog Lb 15 n) m w i2 rowsV k z1 z2 z3 z4 z5 σ1) := by
      intro σ1 u1 k1 hne
      refine .le f15_j2_e ?_
      unfold f15_j2_t
      rw [wrap64 (by omega) (by omega)]
      refine ih m (k + 1) _ _ _ _ _ σ1 (by omega) (by omega) (by omega) u1 k1 ?_
      intro y hy he
      have h3 := hx y hy he
      have h4 := hne y hy he
      omega
    refine .ite (fun h0 => next σ hu hkn ?_) fun h0 => ?_
    · intro y hy _ ho
      have : k = 0 := by simpa using h0
      have := hy.1; omega
    have hk0 : k ≠ 0 := by simpa using h0
    have hk1 : 1 ≤ k := by omega
    have hr := rowOk hk1 (by omega : k ≤ 87)
    have go : Gives σ0 (decodeV w) (f15_j3 (pt Tryd.prog Lb 15 n) m w i2 k rowsV k z1 z2 z3 z4 z5 (rowAt k).form (rowAt k).code (rowAt k).f3 (rowAt k).f7 σ) := by
      refine .le f15_j3_e ?_
      unfold f15_j3_t
      refine .call (ret_fields hr.form) (by omega) hu hkn fun σ1 _ u1 k1 => ?_
      obtain ⟨b1, b2, b3, b4, hb⟩ := hasB_four (rowAt k).form k
      have hdec := dec_fields (w := w) hr.form hb
      rw [hb]
      simp only [List.map, xAgg_a, unC_c, xBool_b, nlC_n]
      rw [reg5 7 (K := 128) rfl hw]
      have g8 : ∀ (r1 r2 r3 im : Int) (σ1 : St), Up σ0 σ1 → Kn σ1 → (⟨k, r1, r2, r3, im⟩ : Ins) = decR (rowAt k) k w → Gives σ0 (decodeV w) (f15_j8 (pt Tryd.prog Lb 15 n) m w i2 rowsV k z1 z2 z3 z4 z5 k r1 r2 r3 im σ1) := by
        intro r1 r2 r3 im σ1 u1 k1 hxe
        refine .le f15_j8_e ?_
        unfold f15_j8_t
        refine .call (ret_encode ⟨k, r1, r2, r3, im⟩) (by omega) u1 k1 fun σ2 _ u2 k2 => ?_
        have hne : (May ⟨k, r1, r2, r3, im⟩ → enc ⟨k, r1, r2, r3, im⟩ ≠ w) → ∀ y, May y → enc y = w → y.op ≠ k := by
          intro hne y hy he ho
          have : (⟨k, r1, r2, r3, im⟩ : Ins) = y := by rw [hxe, ← ho, ← he]; exact dec_enc hy
          subst this
          exact hne hy he
        have hxop : ∀ x : Ins, x = ⟨k, r1, r2, r3, im⟩ → insV x = .agg [.int .i64 k, .int .i64 r1, .int .i64 r2, .int .i64 r3, .int .i64 im] := by rintro _ rfl; rfl
        have hsome := fun h1 h2 => decodeV_some (x := ⟨k, r1, r2, r3, im⟩) (w := w) h1 h2
        rw [hxop _ rfl] at hsome
        clear hxop hxe
        generalize (⟨k, r1, r2, r3, im⟩ : Ins) = x at *
        simp only [xTup_t, unC_c, xInt_i, nlC_n]
        by_cases hM : May x
        · rw [if_pos hM, if_pos hM]
          refine .ite (fun _ => .ite (fun h => .ret u2 ?_) fun h => next σ2 u2 k2 (hne fun _ => by simpa using h)) fun h => by simp at h
          exact (hsome hM (by simpa using h)).symm
        · rw [if_neg hM, if_neg hM]
          refine .ite (fun h => by simp at h) fun _ => next σ2 u2 k2 (hne fun h => absurd h hM)
      have g7 : ∀ (r1 r2 r3 : Int), r1 = (if b1 = true then w / 128 % 32 else 0) → r2 = (if b2 = true then w / 32768 % 32 else 0) → r3 = (if b3 = true then w / 1048576 % 32 else 0) →
          Gives σ0 (decodeV w) (f15_j7 (pt Tryd.prog Lb 15 n) m w i2 rowsV k z1 z2 z3 z4 z5 (rowAt k).form (rowAt k).code (rowAt k).f3 (rowAt k).f7 b1 b2 b3 b4 k r1 r2 r3 0 σ1) := by
        intro r1 r2 r3 e1 e2 e3
        refine .le f15_j7_e ?_
        unfold f15_j7_t
        refine .ite (fun h4 => ?_) fun h4 => ?_
        · refine .call (ret_imm hr.form hw) (by omega) u1 k1 fun σ2 _ u2 k2 => ?_
          rw [xInt_i]
          refine g8 _ _ _ _ _ u2 k2 ?_
          rw [hdec, e1, e2, e3, if_pos h4]
        · refine g8 _ _ _ _ _ u1 k1 ?_
          rw [hdec, e1, e2, e3, if_neg (c := b4 = true) (by simp [h4])]
      have g6 : ∀ (r1 r2 : Int), r1 = (if b1 = true then w / 128 % 32 else 0) → r2 = (if b2 = true then w / 32768 % 32 else 0) →
          Gives σ0 (decodeV w) (f15_j6 (pt Tryd.prog Lb 15 n) m w i2 rowsV k z1 z2 z3 z4 z5 (rowAt k).form (rowAt k).code (rowAt k).f3 (rowAt k).f7 b1 b2 b3 b4 k r1 r2 0 0 σ1) := by
        intro r1 r2 e1 e2
        refine .le f15_j6_e ?_
        unfold f15_j6_t
        rw [reg5 20 (K := 1048576) rfl hw]
        refine .ite (fun h => g7 _ _ _ e1 e2 (by rw [if_pos h])) fun h => g7 _ _ _ e1 e2 (by rw [if_neg (by simp [h])])
      have g5 : ∀ (r1 : Int), r1 = (if b1 = true then w / 128 % 32 else 0) →
          Gives σ0 (decodeV w) (f15_j5 (pt Tryd.prog Lb 15 n) m w i2 rowsV k z1 z2 z3 z4 z5 (rowAt k).form (rowAt k).code (rowAt k).f3 (rowAt k).f7 b1 b2 b3 b4 k r1 0 0 0 σ1) := by
        intro r1 e1
        refine .le f15_j5_e ?_
        unfold f15_j5_t
        rw [reg5 15 (K := 32768) rfl hw]
        refine .ite (fun h => g6 _ _ e1 (by rw [if_pos h])) fun h => g6 _ _ e1 (by rw [if_neg (by simp [h])])
      exact .ite (fun h => g5 _ (by rw [if_pos h])) fun h => g5 _ (by rw [if_neg (by simp [h])])
    refine .ite (fun h10 => ?_) fun _ => go
    have h10 : (rowAt k).form ≠ 10 := by simpa using h10
    have hcode := hr.code h10
    have ea : (IntKind.wrap .u32 (((BitVec.ofInt 32 w &&& BitVec.ofInt 32 (127 : Int)).toNat : Nat) : Int)) = w % 128 := by
      show andI w (128 - 1) = _
      exact andI_mask 7 rfl (by decide) hw.1 hw.2
    have eb : (IntKind.wrap .u32 (((BitVec.ofInt 32 (Int.fdiv w (2 ^ 12)) &&& BitVec.ofInt 32 (7 : Int)).toNat : Nat) : Int)) = w / 4096 % 8 := by
      rw [show (2 : Int) ^ 12 = 4096 from rfl, fdiv_pos (by decide)]
      show andI (w / 4096) (8 - 1) = _
      exact andI_mask 3 rfl (by decide) (by omega) (by omega)
    rw [ea, eb]
    refine .ite (fun h => next σ hu hkn ?_) fun _ => .ite (fun h2 => .ite (fun h => next σ hu hkn ?_) fun _ => go) fun _ => go
    · intro y hy he ho
      have h : w % 128 ≠ (rowAt k).code := by simpa using h
      have := enc_code hy
      rw [he, ho] at this
      have := hr.code0
      omega
    · intro y hy he ho
      have h : w / 4096 % 8 ≠ (rowAt k).f3 := by simpa using h
      have h2 : (rowAt k).form > 2 := by simpa using h2
      have hlt := hr.form
      have := enc_f3 hy
      rw [he, ho] at this
      exact h (this ⟨h2, by omega⟩)

theorem ret_decode {w : Int} (hw : 0 ≤ w ∧ w < 4294967296) : Ret 15 [.int .u32 w] 91 (decodeV w) := .mk fun n hn σ hk => by
  refine .le f15_e ?_
  unfold f15_t
  refine .call ret_rows (by omega) (.refl _) hk fun σ1 _ u1 k1 => ?_
  rw [xAgg_a]
  exact dec15_l1 (by omega) hw 88 n 0 0 0 0 0 0 σ1 (by decide) (by decide) (by omega) u1 k1 fun x hx _ => by have := hx.1; omega

end Go.Proofs.Inst

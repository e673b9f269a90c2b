/- The functions, as trees of named steps. -/
import Derived.Test.YtidammkjfdonaaaDoorAmT
import Derived.Test.YtidammkjfdonaaaDoorLb
import Derived.Test.YtidammkjfdonaaaDoorChecked
namespace Go.Proofs
open Go.AM
set_option maxHeartbeats 4000000
/-! ### binnacle/inst.Decode(w) -/
noncomputable def f15_l1 (L : Leaf) (m0 : Nat) (i1 i2 : Int) (cs3 : List AV) (i4 i5 i6 i7 i8 i9 : Int) (σ : St) : Out :=
  L [1, 0, 1, 0] [m0] ⟨tm 91 [(0, .v (.int .u32 i1)), (2, .lp 2 0), (3, .v (.int .i64 i2)), (10, .v (.agg cs3)), (11, .v (.int .i64 i4))] 0, [(2, [.int .i64 i5, .int .i64 i6, .int .i64 i7, .int .i64 i8, .int .i64 i9])]⟩ σ
noncomputable def f15_j2 (L : Leaf) (m0 : Nat) (i1 i2 : Int) (cs3 : List AV) (i4 i5 i6 i7 i8 i9 : Int) (σ : St) : Out :=
  L [1, 0, 1, 0, 0, 1, 1, 1] [m0] ⟨tm 91 [(0, .v (.int .u32 i1)), (2, .lp 2 0), (3, .v (.int .i64 i2)), (10, .v (.agg cs3)), (11, .v (.int .i64 i4))] 0, [(2, [.int .i64 i5, .int .i64 i6, .int .i64 i7, .int .i64 i8, .int .i64 i9])]⟩ σ
noncomputable def f15_j3 (L : Leaf) (m0 : Nat) (i1 i2 i3 : Int) (cs4 : List AV) (i5 i6 i7 i8 i9 i10 i11 i12 i13 i14 : Int) (σ : St) : Out :=
  L [1, 0, 1, 0, 0, 1, 1, 0, 0, 1, 1] [m0] ⟨tm 91 [(0, .v (.int .u32 i1)), (2, .lp 2 0), (3, .v (.int .i64 i2)), (4, .v (.int .i64 i3)), (5, .lp 5 0), (10, .v (.agg cs4)), (11, .v (.int .i64 i5))] 0, [(2, [.int .i64 i6, .int .i64 i7, .int .i64 i8, .int .i64 i9, .int .i64 i10]), (5, [.int .u32 i11, .int .u32 i12, .int .u32 i13, .int .u32 i14])]⟩ σ
noncomputable def f15_j4 (L : Leaf) (i1 i2 i3 i4 i5 i6 : Int) (σ : St) : Out :=
  L [1, 1] [] ⟨tm 91 [(2, .lp 2 0), (3, .v (.int .i64 i1))] 0, [(2, [.int .i64 i2, .int .i64 i3, .int .i64 i4, .int .i64 i5, .int .i64 i6])]⟩ σ
noncomputable def f15_j5 (L : Leaf) (m0 : Nat) (i1 i2 : Int) (cs3 : List AV) (i4 i5 i6 i7 i8 i9 i10 i11 i12 i13 : Int) (b14 b15 b16 b17 : Bool) (i18 i19 i20 i21 i22 : Int) (σ : St) : Out :=
  L [1, 0, 1, 0, 0, 1, 1, 0, 0, 1, 1, 1, 1, 1] [m0] ⟨tm 91 [(0, .v (.int .u32 i1)), (2, .lp 2 0), (3, .v (.int .i64 i2)), (5, .lp 5 0), (6, .lp 6 0), (7, .lp 7 0), (10, .v (.agg cs3)), (11, .v (.int .i64 i4))] 0, [(2, [.int .i64 i5, .int .i64 i6, .int .i64 i7, .int .i64 i8, .int .i64 i9]), (5, [.int .u32 i10, .int .u32 i11, .int .u32 i12, .int .u32 i13]), (6, [.bool b14, .bool b15, .bool b16, .bool b17]), (7, [.int .i64 i18, .int .i64 i19, .int .i64 i20, .int .i64 i21, .int .i64 i22])]⟩ σ
noncomputable def f15_j6 (L : Leaf) (m0 : Nat) (i1 i2 : Int) (cs3 : List AV) (i4 i5 i6 i7 i8 i9 i10 i11 i12 i13 : Int) (b14 b15 b16 b17 : Bool) (i18 i19 i20 i21 i22 : Int) (σ : St) : Out :=
  L [1, 0, 1, 0, 0, 1, 1, 0, 0, 1, 1, 1, 1, 1, 1] [m0] ⟨tm 91 [(0, .v (.int .u32 i1)), (2, .lp 2 0), (3, .v (.int .i64 i2)), (5, .lp 5 0), (6, .lp 6 0), (7, .lp 7 0), (10, .v (.agg cs3)), (11, .v (.int .i64 i4))] 0, [(2, [.int .i64 i5, .int .i64 i6, .int .i64 i7, .int .i64 i8, .int .i64 i9]), (5, [.int .u32 i10, .int .u32 i11, .int .u32 i12, .int .u32 i13]), (6, [.bool b14, .bool b15, .bool b16, .bool b17]), (7, [.int .i64 i18, .int .i64 i19, .int .i64 i20, .int .i64 i21, .int .i64 i22])]⟩ σ
noncomputable def f15_j7 (L : Leaf) (m0 : Nat) (i1 i2 : Int) (cs3 : List AV) (i4 i5 i6 i7 i8 i9 i10 i11 i12 i13 : Int) (b14 b15 b16 b17 : Bool) (i18 i19 i20 i21 i22 : Int) (σ : St) : Out :=
  L [1, 0, 1, 0, 0, 1, 1, 0, 0, 1, 1, 1, 1, 1, 1, 1] [m0] ⟨tm 91 [(0, .v (.int .u32 i1)), (2, .lp 2 0), (3, .v (.int .i64 i2)), (5, .lp 5 0), (6, .lp 6 0), (7, .lp 7 0), (10, .v (.agg cs3)), (11, .v (.int .i64 i4))] 0, [(2, [.int .i64 i5, .int .i64 i6, .int .i64 i7, .int .i64 i8, .int .i64 i9]), (5, [.int .u32 i10, .int .u32 i11, .int .u32 i12, .int .u32 i13]), (6, [.bool b14, .bool b15, .bool b16, .bool b17]), (7, [.int .i64 i18, .int .i64 i19, .int .i64 i20, .int .i64 i21, .int .i64 i22])]⟩ σ
noncomputable def f15_j8 (L : Leaf) (m0 : Nat) (i1 i2 : Int) (cs3 : List AV) (i4 i5 i6 i7 i8 i9 i10 i11 i12 i13 i14 : Int) (σ : St) : Out :=
  L [1, 0, 1, 0, 0, 1, 1, 0, 0, 1, 1, 1, 1, 1, 1, 1, 1] [m0] ⟨tm 91 [(0, .v (.int .u32 i1)), (2, .lp 2 0), (3, .v (.int .i64 i2)), (7, .lp 7 0), (10, .v (.agg cs3)), (11, .v (.int .i64 i4))] 0, [(2, [.int .i64 i5, .int .i64 i6, .int .i64 i7, .int .i64 i8, .int .i64 i9]), (7, [.int .i64 i10, .int .i64 i11, .int .i64 i12, .int .i64 i13, .int .i64 i14])]⟩ σ
noncomputable def f15_t (L : Leaf) (n : Nat) (i1 : Int) (σ : St) : Out :=
 callT Tryd.prog Lb n 23 [] σ fun v3 σ2 =>
 xAgg v3 fun cs4 =>
 f15_l1 L n i1 (0 : Int) cs4 (0 : Int) (0 : Int) (0 : Int) (0 : Int) (0 : Int) (0 : Int) σ2
theorem f15_g (L : Leaf) (n : Nat) (i1 : Int) (σ : St) : goT Tryd.prog Lb 15 n L [] [] [] ⟨tm 91 [(0, .v (.int .u32 i1))] 0, []⟩ σ = f15_t L n i1 σ := by kernel_rfl
theorem f15_e {n : Nat} {i1 : Int} {σ : St} : Le (f15_t (pt Tryd.prog Lb 15 n) n i1 σ) (callP Tryd.prog Lb (n + 1) 15 [.int .u32 i1] σ) :=
  goT_call (f15_g _ n i1 σ) rfl (by kernel_rfl) (by kernel_rfl)
noncomputable def f15_l1_t (L : Leaf) (_ m0 : Nat) (i1 i2 : Int) (cs3 : List AV) (i4 i5 i6 i7 i8 i9 : Int) (σ : St) : Out :=
 cond (decide (i4 < (88 : Int))) (idxK i4 88 <|
  partK Tryd.prog 57 cs3 ((i4).toNat * 4) fun x10 =>
  xAgg x10 fun cs11 =>
  unC cs11 fun x12 r13 =>
  xInt .u32 x12 fun i14 =>
  unC r13 fun x15 r16 =>
  xInt .u32 x15 fun i17 =>
  unC r16 fun x18 r19 =>
  xInt .u32 x18 fun i20 =>
  unC r19 fun x21 r22 =>
  xInt .u32 x21 fun i23 =>
  nlC r22 <|
  cond (i4 == (0 : Int)) (f15_j2 L m0 i1 i2 cs3 i4 i5 i6 i7 i8 i9 σ) (cond (i14 != (10 : Int)) (cond ((IntKind.wrap .u32 (((BitVec.ofInt 32 i1 &&& BitVec.ofInt 32 (127 : Int)).toNat : Nat) : Int)) != i17) (f15_j2 L m0 i1 i2 cs3 i4 i5 i6 i7 i8 i9 σ) (cond (decide (i14 > (2 : Int))) (cond ((IntKind.wrap .u32 (((BitVec.ofInt 32 (Int.fdiv i1 (2 ^ 12)) &&& BitVec.ofInt 32 (7 : Int)).toNat : Nat) : Int)) != i20) (f15_j2 L m0 i1 i2 cs3 i4 i5 i6 i7 i8 i9 σ) (f15_j3 L m0 i1 i2 i4 cs3 i4 i5 i6 i7 i8 i9 i14 i17 i20 i23 σ)) (f15_j3 L m0 i1 i2 i4 cs3 i4 i5 i6 i7 i8 i9 i14 i17 i20 i23 σ))) (f15_j3 L m0 i1 i2 i4 cs3 i4 i5 i6 i7 i8 i9 i14 i17 i20 i23 σ))) (f15_j4 L i2 i5 i6 i7 i8 i9 σ)
theorem f15_l1_g (L : Leaf) (n : Nat) (m0 : Nat) (i1 i2 : Int) (cs3 : List AV) (i4 i5 i6 i7 i8 i9 : Int) (σ : St) : goT Tryd.prog Lb 15 n L [[1, 0, 1, 0, 0, 1, 1, 0, 0, 1, 1], [1, 0, 1, 0, 0, 1, 1, 1], [1, 1]] [1, 0, 1, 0] [m0 + 1] ⟨tm 91 [(0, .v (.int .u32 i1)), (2, .lp 2 0), (3, .v (.int .i64 i2)), (10, .v (.agg cs3)), (11, .v (.int .i64 i4))] 0, [(2, [.int .i64 i5, .int .i64 i6, .int .i64 i7, .int .i64 i8, .int .i64 i9])]⟩ σ = f15_l1_t L n m0 i1 i2 cs3 i4 i5 i6 i7 i8 i9 σ := by kernel_rfl
theorem f15_l1_e {n : Nat} {m0 : Nat} {i1 i2 : Int} {cs3 : List AV} {i4 i5 i6 i7 i8 i9 : Int} {σ : St} : Le (f15_l1_t (pt Tryd.prog Lb 15 n) n m0 i1 i2 cs3 i4 i5 i6 i7 i8 i9 σ) (f15_l1 (pt Tryd.prog Lb 15 n) (m0 + 1) i1 i2 cs3 i4 i5 i6 i7 i8 i9 σ) := by
  unfold f15_l1; exact goT_pt (f15_l1_g _ n m0 i1 i2 cs3 i4 i5 i6 i7 i8 i9 σ)
noncomputable def f15_j2_t (L : Leaf) (_ m0 : Nat) (i1 i2 : Int) (cs3 : List AV) (i4 i5 i6 i7 i8 i9 : Int) (σ : St) : Out :=
 f15_l1 L m0 i1 i2 cs3 (IntKind.wrap .i64 (i4 + (1 : Int))) i5 i6 i7 i8 i9 σ
theorem f15_j2_g (L : Leaf) (n : Nat) (m0 : Nat) (i1 i2 : Int) (cs3 : List AV) (i4 i5 i6 i7 i8 i9 : Int) (σ : St) : goT Tryd.prog Lb 15 n L [] [1, 0, 1, 0, 0, 1, 1, 1] [m0] ⟨tm 91 [(0, .v (.int .u32 i1)), (2, .lp 2 0), (3, .v (.int .i64 i2)), (10, .v (.agg cs3)), (11, .v (.int .i64 i4))] 0, [(2, [.int .i64 i5, .int .i64 i6, .int .i64 i7, .int .i64 i8, .int .i64 i9])]⟩ σ = f15_j2_t L n m0 i1 i2 cs3 i4 i5 i6 i7 i8 i9 σ := by kernel_rfl
theorem f15_j2_e {n : Nat} {m0 : Nat} {i1 i2 : Int} {cs3 : List AV} {i4 i5 i6 i7 i8 i9 : Int} {σ : St} : Le (f15_j2_t (pt Tryd.prog Lb 15 n) n m0 i1 i2 cs3 i4 i5 i6 i7 i8 i9 σ) (f15_j2 (pt Tryd.prog Lb 15 n) m0 i1 i2 cs3 i4 i5 i6 i7 i8 i9 σ) := by
  unfold f15_j2; exact goT_pt (f15_j2_g _ n m0 i1 i2 cs3 i4 i5 i6 i7 i8 i9 σ)
noncomputable def f15_j3_t (L : Leaf) (n m0 : Nat) (i1 i2 i3 : Int) (cs4 : List AV) (i5 i6 i7 i8 i9 i10 i11 i12 i13 i14 : Int) (σ : St) : Out :=
 callT Tryd.prog Lb n 24 [.int .u32 i11, .int .i64 i3] σ fun v16 σ15 =>
 xAgg v16 fun cs17 =>
 unC cs17 fun x18 r19 =>
 xBool x18 fun b20 =>
 unC r19 fun x21 r22 =>
 xBool x21 fun b23 =>
 unC r22 fun x24 r25 =>
 xBool x24 fun b26 =>
 unC r25 fun x27 r28 =>
 xBool x27 fun b29 =>
 nlC r28 <|
 cond b20 (f15_j5 L m0 i1 i2 cs4 i5 i6 i7 i8 i9 i10 i11 i12 i13 i14 b20 b23 b26 b29 i3 (IntKind.wrap .i64 (IntKind.wrap .u32 (((BitVec.ofInt 32 (Int.fdiv i1 (2 ^ 7)) &&& BitVec.ofInt 32 (31 : Int)).toNat : Nat) : Int))) (0 : Int) (0 : Int) (0 : Int) σ15) (f15_j5 L m0 i1 i2 cs4 i5 i6 i7 i8 i9 i10 i11 i12 i13 i14 b20 b23 b26 b29 i3 (0 : Int) (0 : Int) (0 : Int) (0 : Int) σ15)
theorem f15_j3_g (L : Leaf) (n : Nat) (m0 : Nat) (i1 i2 i3 : Int) (cs4 : List AV) (i5 i6 i7 i8 i9 i10 i11 i12 i13 i14 : Int) (σ : St) : goT Tryd.prog Lb 15 n L [[1, 0, 1, 0, 0, 1, 1, 0, 0, 1, 1, 1, 1, 1]] [1, 0, 1, 0, 0, 1, 1, 0, 0, 1, 1] [m0] ⟨tm 91 [(0, .v (.int .u32 i1)), (2, .lp 2 0), (3, .v (.int .i64 i2)), (4, .v (.int .i64 i3)), (5, .lp 5 0), (10, .v (.agg cs4)), (11, .v (.int .i64 i5))] 0, [(2, [.int .i64 i6, .int .i64 i7, .int .i64 i8, .int .i64 i9, .int .i64 i10]), (5, [.int .u32 i11, .int .u32 i12, .int .u32 i13, .int .u32 i14])]⟩ σ = f15_j3_t L n m0 i1 i2 i3 cs4 i5 i6 i7 i8 i9 i10 i11 i12 i13 i14 σ := by kernel_rfl
theorem f15_j3_e {n : Nat} {m0 : Nat} {i1 i2 i3 : Int} {cs4 : List AV} {i5 i6 i7 i8 i9 i10 i11 i12 i13 i14 : Int} {σ : St} : Le (f15_j3_t (pt Tryd.prog Lb 15 n) n m0 i1 i2 i3 cs4 i5 i6 i7 i8 i9 i10 i11 i12 i13 i14 σ) (f15_j3 (pt Tryd.prog Lb 15 n) m0 i1 i2 i3 cs4 i5 i6 i7 i8 i9 i10 i11 i12 i13 i14 σ) := by
  unfold f15_j3; exact goT_pt (f15_j3_g _ n m0 i1 i2 i3 cs4 i5 i6 i7 i8 i9 i10 i11 i12 i13 i14 σ)
noncomputable def f15_j4_t (_ : Leaf) (_ : Nat) (_ _ _ _ _ _ : Int) (σ : St) : Out :=
 some (.ret (.tuple [.agg [.int .i64 (0 : Int), .int .i64 (0 : Int), .int .i64 (0 : Int), .int .i64 (0 : Int), .int .i64 (0 : Int)], .int .i64 (2 : Int)]), σ)
theorem f15_j4_g (L : Leaf) (n : Nat) (i1 i2 i3 i4 i5 i6 : Int) (σ : St) : goT Tryd.prog Lb 15 n L [] [1, 1] [] ⟨tm 91 [(2, .lp 2 0), (3, .v (.int .i64 i1))] 0, [(2, [.int .i64 i2, .int .i64 i3, .int .i64 i4, .int .i64 i5, .int .i64 i6])]⟩ σ = f15_j4_t L n i1 i2 i3 i4 i5 i6 σ := by kernel_rfl
theorem f15_j4_e {n : Nat} {i1 i2 i3 i4 i5 i6 : Int} {σ : St} : Le (f15_j4_t (pt Tryd.prog Lb 15 n) n i1 i2 i3 i4 i5 i6 σ) (f15_j4 (pt Tryd.prog Lb 15 n) i1 i2 i3 i4 i5 i6 σ) := by
  unfold f15_j4; exact goT_pt (f15_j4_g _ n i1 i2 i3 i4 i5 i6 σ)
noncomputable def f15_j5_t (L : Leaf) (_ m0 : Nat) (i1 i2 : Int) (cs3 : List AV) (i4 i5 i6 i7 i8 i9 i10 i11 i12 i13 : Int) (b14 b15 b16 b17 : Bool) (i18 i19 i20 i21 i22 : Int) (σ : St) : Out :=
 cond b15 (f15_j6 L m0 i1 i2 cs3 i4 i5 i6 i7 i8 i9 i10 i11 i12 i13 b14 b15 b16 b17 i18 i19 (IntKind.wrap .i64 (IntKind.wrap .u32 (((BitVec.ofInt 32 (Int.fdiv i1 (2 ^ 15)) &&& BitVec.ofInt 32 (31 : Int)).toNat : Nat) : Int))) i21 i22 σ) (f15_j6 L m0 i1 i2 cs3 i4 i5 i6 i7 i8 i9 i10 i11 i12 i13 b14 b15 b16 b17 i18 i19 i20 i21 i22 σ)
theorem f15_j5_g (L : Leaf) (n : Nat) (m0 : Nat) (i1 i2 : Int) (cs3 : List AV) (i4 i5 i6 i7 i8 i9 i10 i11 i12 i13 : Int) (b14 b15 b16 b17 : Bool) (i18 i19 i20 i21 i22 : Int) (σ : St) : goT Tryd.prog Lb 15 n L [[1, 0, 1, 0, 0, 1, 1, 0, 0, 1, 1, 1, 1, 1, 1]] [1, 0, 1, 0, 0, 1, 1, 0, 0, 1, 1, 1, 1, 1] [m0] ⟨tm 91 [(0, .v (.int .u32 i1)), (2, .lp 2 0), (3, .v (.int .i64 i2)), (5, .lp 5 0), (6, .lp 6 0), (7, .lp 7 0), (10, .v (.agg cs3)), (11, .v (.int .i64 i4))] 0, [(2, [.int .i64 i5, .int .i64 i6, .int .i64 i7, .int .i64 i8, .int .i64 i9]), (5, [.int .u32 i10, .int .u32 i11, .int .u32 i12, .int .u32 i13]), (6, [.bool b14, .bool b15, .bool b16, .bool b17]), (7, [.int .i64 i18, .int .i64 i19, .int .i64 i20, .int .i64 i21, .int .i64 i22])]⟩ σ = f15_j5_t L n m0 i1 i2 cs3 i4 i5 i6 i7 i8 i9 i10 i11 i12 i13 b14 b15 b16 b17 i18 i19 i20 i21 i22 σ := by kernel_rfl
theorem f15_j5_e {n : Nat} {m0 : Nat} {i1 i2 : Int} {cs3 : List AV} {i4 i5 i6 i7 i8 i9 i10 i11 i12 i13 : Int} {b14 b15 b16 b17 : Bool} {i18 i19 i20 i21 i22 : Int} {σ : St} : Le (f15_j5_t (pt Tryd.prog Lb 15 n) n m0 i1 i2 cs3 i4 i5 i6 i7 i8 i9 i10 i11 i12 i13 b14 b15 b16 b17 i18 i19 i20 i21 i22 σ) (f15_j5 (pt Tryd.prog Lb 15 n) m0 i1 i2 cs3 i4 i5 i6 i7 i8 i9 i10 i11 i12 i13 b14 b15 b16 b17 i18 i19 i20 i21 i22 σ) := by
  unfold f15_j5; exact goT_pt (f15_j5_g _ n m0 i1 i2 cs3 i4 i5 i6 i7 i8 i9 i10 i11 i12 i13 b14 b15 b16 b17 i18 i19 i20 i21 i22 σ)
noncomputable def f15_j6_t (L : Leaf) (_ m0 : Nat) (i1 i2 : Int) (cs3 : List AV) (i4 i5 i6 i7 i8 i9 i10 i11 i12 i13 : Int) (b14 b15 b16 b17 : Bool) (i18 i19 i20 i21 i22 : Int) (σ : St) : Out :=
 cond b16 (f15_j7 L m0 i1 i2 cs3 i4 i5 i6 i7 i8 i9 i10 i11 i12 i13 b14 b15 b16 b17 i18 i19 i20 (IntKind.wrap .i64 (IntKind.wrap .u32 (((BitVec.ofInt 32 (Int.fdiv i1 (2 ^ 20)) &&& BitVec.ofInt 32 (31 : Int)).toNat : Nat) : Int))) i22 σ) (f15_j7 L m0 i1 i2 cs3 i4 i5 i6 i7 i8 i9 i10 i11 i12 i13 b14 b15 b16 b17 i18 i19 i20 i21 i22 σ)
theorem f15_j6_g (L : Leaf) (n : Nat) (m0 : Nat) (i1 i2 : Int) (cs3 : List AV) (i4 i5 i6 i7 i8 i9 i10 i11 i12 i13 : Int) (b14 b15 b16 b17 : Bool) (i18 i19 i20 i21 i22 : Int) (σ : St) : goT Tryd.prog Lb 15 n L [[1, 0, 1, 0, 0, 1, 1, 0, 0, 1, 1, 1, 1, 1, 1, 1]] [1, 0, 1, 0, 0, 1, 1, 0, 0, 1, 1, 1, 1, 1, 1] [m0] ⟨tm 91 [(0, .v (.int .u32 i1)), (2, .lp 2 0), (3, .v (.int .i64 i2)), (5, .lp 5 0), (6, .lp 6 0), (7, .lp 7 0), (10, .v (.agg cs3)), (11, .v (.int .i64 i4))] 0, [(2, [.int .i64 i5, .int .i64 i6, .int .i64 i7, .int .i64 i8, .int .i64 i9]), (5, [.int .u32 i10, .int .u32 i11, .int .u32 i12, .int .u32 i13]), (6, [.bool b14, .bool b15, .bool b16, .bool b17]), (7, [.int .i64 i18, .int .i64 i19, .int .i64 i20, .int .i64 i21, .int .i64 i22])]⟩ σ = f15_j6_t L n m0 i1 i2 cs3 i4 i5 i6 i7 i8 i9 i10 i11 i12 i13 b14 b15 b16 b17 i18 i19 i20 i21 i22 σ := by kernel_rfl
theorem f15_j6_e {n : Nat} {m0 : Nat} {i1 i2 : Int} {cs3 : List AV} {i4 i5 i6 i7 i8 i9 i10 i11 i12 i13 : Int} {b14 b15 b16 b17 : Bool} {i18 i19 i20 i21 i22 : Int} {σ : St} : Le (f15_j6_t (pt Tryd.prog Lb 15 n) n m0 i1 i2 cs3 i4 i5 i6 i7 i8 i9 i10 i11 i12 i13 b14 b15 b16 b17 i18 i19 i20 i21 i22 σ) (f15_j6 (pt Tryd.prog Lb 15 n) m0 i1 i2 cs3 i4 i5 i6 i7 i8 i9 i10 i11 i12 i13 b14 b15 b16 b17 i18 i19 i20 i21 i22 σ) := by
  unfold f15_j6; exact goT_pt (f15_j6_g _ n m0 i1 i2 cs3 i4 i5 i6 i7 i8 i9 i10 i11 i12 i13 b14 b15 b16 b17 i18 i19 i20 i21 i22 σ)
noncomputable def f15_j7_t (L : Leaf) (n m0 : Nat) (i1 i2 : Int) (cs3 : List AV) (i4 i5 i6 i7 i8 i9 i10 _ _ _ : Int) (_ _ _ b17 : Bool) (i18 i19 i20 i21 i22 : Int) (σ : St) : Out :=
 cond b17 (callT Tryd.prog Lb n 30 [.int .u32 i10, .int .u32 i1] σ fun v24 σ23 =>
  xInt .i64 v24 fun i25 =>
  f15_j8 L m0 i1 i2 cs3 i4 i5 i6 i7 i8 i9 i18 i19 i20 i21 i25 σ23) (f15_j8 L m0 i1 i2 cs3 i4 i5 i6 i7 i8 i9 i18 i19 i20 i21 i22 σ)
theorem f15_j7_g (L : Leaf) (n : Nat) (m0 : Nat) (i1 i2 : Int) (cs3 : List AV) (i4 i5 i6 i7 i8 i9 i10 i11 i12 i13 : Int) (b14 b15 b16 b17 : Bool) (i18 i19 i20 i21 i22 : Int) (σ : St) : goT Tryd.prog Lb 15 n L [[1, 0, 1, 0, 0, 1, 1, 0, 0, 1, 1, 1, 1, 1, 1, 1, 1]] [1, 0, 1, 0, 0, 1, 1, 0, 0, 1, 1, 1, 1, 1, 1, 1] [m0] ⟨tm 91 [(0, .v (.int .u32 i1)), (2, .lp 2 0), (3, .v (.int .i64 i2)), (5, .lp 5 0), (6, .lp 6 0), (7, .lp 7 0), (10, .v (.agg cs3)), (11, .v (.int .i64 i4))] 0, [(2, [.int .i64 i5, .int .i64 i6, .int .i64 i7, .int .i64 i8, .int .i64 i9]), (5, [.int .u32 i10, .int .u32 i11, .int .u32 i12, .int .u32 i13]), (6, [.bool b14, .bool b15, .bool b16, .bool b17]), (7, [.int .i64 i18, .int .i64 i19, .int .i64 i20, .int .i64 i21, .int .i64 i22])]⟩ σ = f15_j7_t L n m0 i1 i2 cs3 i4 i5 i6 i7 i8 i9 i10 i11 i12 i13 b14 b15 b16 b17 i18 i19 i20 i21 i22 σ := by kernel_rfl
theorem f15_j7_e {n : Nat} {m0 : Nat} {i1 i2 : Int} {cs3 : List AV} {i4 i5 i6 i7 i8 i9 i10 i11 i12 i13 : Int} {b14 b15 b16 b17 : Bool} {i18 i19 i20 i21 i22 : Int} {σ : St} : Le (f15_j7_t (pt Tryd.prog Lb 15 n) n m0 i1 i2 cs3 i4 i5 i6 i7 i8 i9 i10 i11 i12 i13 b14 b15 b16 b17 i18 i19 i20 i21 i22 σ) (f15_j7 (pt Tryd.prog Lb 15 n) m0 i1 i2 cs3 i4 i5 i6 i7 i8 i9 i10 i11 i12 i13 b14 b15 b16 b17 i18 i19 i20 i21 i22 σ) := by
  unfold f15_j7; exact goT_pt (f15_j7_g _ n m0 i1 i2 cs3 i4 i5 i6 i7 i8 i9 i10 i11 i12 i13 b14 b15 b16 b17 i18 i19 i20 i21 i22 σ)
noncomputable def f15_j8_t (L : Leaf) (n m0 : Nat) (i1 i2 : Int) (cs3 : List AV) (i4 i5 i6 i7 i8 i9 i10 i11 i12 i13 i14 : Int) (σ : St) : Out :=
 callT Tryd.prog Lb n 13 [.agg [.int .i64 i10, .int .i64 i11, .int .i64 i12, .int .i64 i13, .int .i64 i14]] σ fun v16 σ15 =>
 xTup v16 fun cs17 =>
 unC cs17 fun x18 r19 =>
 xInt .u32 x18 fun i20 =>
 unC r19 fun x21 r22 =>
 xInt .i64 x21 fun i23 =>
 nlC r22 <|
 cond (i23 == (0 : Int)) (cond (i20 == i1) (some (.ret (.tuple [.agg [.int .i64 i10, .int .i64 i11, .int .i64 i12, .int .i64 i13, .int .i64 i14], .int .i64 (0 : Int)]), σ15)) (f15_j2 L m0 i1 i2 cs3 i4 i5 i6 i7 i8 i9 σ15)) (f15_j2 L m0 i1 i2 cs3 i4 i5 i6 i7 i8 i9 σ15)
theorem f15_j8_g (L : Leaf) (n : Nat) (m0 : Nat) (i1 i2 : Int) (cs3 : List AV) (i4 i5 i6 i7 i8 i9 i10 i11 i12 i13 i14 : Int) (σ : St) : goT Tryd.prog Lb 15 n L [[1, 0, 1, 0, 0, 1, 1, 1]] [1, 0, 1, 0, 0, 1, 1, 0, 0, 1, 1, 1, 1, 1, 1, 1, 1] [m0] ⟨tm 91 [(0, .v (.int .u32 i1)), (2, .lp 2 0), (3, .v (.int .i64 i2)), (7, .lp 7 0), (10, .v (.agg cs3)), (11, .v (.int .i64 i4))] 0, [(2, [.int .i64 i5, .int .i64 i6, .int .i64 i7, .int .i64 i8, .int .i64 i9]), (7, [.int .i64 i10, .int .i64 i11, .int .i64 i12, .int .i64 i13, .int .i64 i14])]⟩ σ = f15_j8_t L n m0 i1 i2 cs3 i4 i5 i6 i7 i8 i9 i10 i11 i12 i13 i14 σ := by kernel_rfl
theorem f15_j8_e {n : Nat} {m0 : Nat} {i1 i2 : Int} {cs3 : List AV} {i4 i5 i6 i7 i8 i9 i10 i11 i12 i13 i14 : Int} {σ : St} : Le (f15_j8_t (pt Tryd.prog Lb 15 n) n m0 i1 i2 cs3 i4 i5 i6 i7 i8 i9 i10 i11 i12 i13 i14 σ) (f15_j8 (pt Tryd.prog Lb 15 n) m0 i1 i2 cs3 i4 i5 i6 i7 i8 i9 i10 i11 i12 i13 i14 σ) := by
  unfold f15_j8; exact goT_pt (f15_j8_g _ n m0 i1 i2 cs3 i4 i5 i6 i7 i8 i9 i10 i11 i12 i13 i14 σ)
/-! ### binnacle/binnacleref02.Decode(w) -/
noncomputable def f16_l1 (L : Leaf) (m0 : Nat) (i1 i2 i3 i4 i5 i6 i7 i8 : Int) (σ : St) : Out :=
  L [1, 0, 1, 0] [m0] ⟨tm 29 [(0, .v (.int .u32 i1)), (2, .lp 2 0), (3, .v (.int .i64 i2)), (4, .v (.int .i64 i3))] 0, [(2, [.int .i64 i4, .int .i64 i5, .int .i64 i6, .int .i64 i7, .int .i64 i8])]⟩ σ
noncomputable def f16_j2 (L : Leaf) (i1 i2 i3 i4 i5 i6 : Int) (σ : St) : Out :=
  L [1, 1] [] ⟨tm 29 [(2, .lp 2 0), (3, .v (.int .i64 i1))] 0, [(2, [.int .i64 i2, .int .i64 i3, .int .i64 i4, .int .i64 i5, .int .i64 i6])]⟩ σ
noncomputable def f16_t (L : Leaf) (n : Nat) (i1 : Int) (σ : St) : Out :=
 f16_l1 L n i1 (0 : Int) (1 : Int) (0 : Int) (0 : Int) (0 : Int) (0 : Int) (0 : Int) σ
theorem f16_g (L : Leaf) (n : Nat) (i1 : Int) (σ : St) : goT Tryd.prog Lb 16 n L [] [] [] ⟨tm 29 [(0, .v (.int .u32 i1))] 0, []⟩ σ = f16_t L n i1 σ := by kernel_rfl
theorem f16_e {n : Nat} {i1 : Int} {σ : St} : Le (f16_t (pt Tryd.prog Lb 16 n) n i1 σ) (callP Tryd.prog Lb (n + 1) 16 [.int .u32 i1] σ) :=
  goT_call (f16_g _ n i1 σ) rfl (by kernel_rfl) (by kernel_rfl)
noncomputable def f16_l1_t (L : Leaf) (n m0 : Nat) (i1 i2 i3 i4 i5 i6 i7 i8 : Int) (σ : St) : Out :=
 cond (decide (i3 ≤ (87 : Int))) (callT Tryd.prog Lb n 31 [.int .i64 i3, .int .u32 i1] σ fun v10 σ9 =>
  xAgg v10 fun cs11 =>
  unC cs11 fun x12 r13 =>
  xInt .i64 x12 fun i14 =>
  unC r13 fun x15 r16 =>
  xInt .i64 x15 fun i17 =>
  unC r16 fun x18 r19 =>
  xInt .i64 x18 fun i20 =>
  unC r19 fun x21 r22 =>
  xInt .i64 x21 fun i23 =>
  unC r22 fun x24 r25 =>
  xInt .i64 x24 fun i26 =>
  nlC r25 <|
  callT Tryd.prog Lb n 14 [.agg [.int .i64 i14, .int .i64 i17, .int .i64 i20, .int .i64 i23, .int .i64 i26]] σ9 fun v28 σ27 =>
  xTup v28 fun cs29 =>
  unC cs29 fun x30 r31 =>
  xInt .u32 x30 fun i32 =>
  unC r31 fun x33 r34 =>
  xInt .i64 x33 fun i35 =>
  nlC r34 <|
  cond (i35 == (0 : Int)) (cond (i32 == i1) (some (.ret (.tuple [.agg [.int .i64 i14, .int .i64 i17, .int .i64 i20, .int .i64 i23, .int .i64 i26], .int .i64 (0 : Int)]), σ27)) (f16_l1 L m0 i1 i2 (IntKind.wrap .i64 (i3 + (1 : Int))) i4 i5 i6 i7 i8 σ27)) (f16_l1 L m0 i1 i2 (IntKind.wrap .i64 (i3 + (1 : Int))) i4 i5 i6 i7 i8 σ27)) (f16_j2 L i2 i4 i5 i6 i7 i8 σ)
theorem f16_l1_g (L : Leaf) (n : Nat) (m0 : Nat) (i1 i2 i3 i4 i5 i6 i7 i8 : Int) (σ : St) : goT Tryd.prog Lb 16 n L [[1, 1]] [1, 0, 1, 0] [m0 + 1] ⟨tm 29 [(0, .v (.int .u32 i1)), (2, .lp 2 0), (3, .v (.int .i64 i2)), (4, .v (.int .i64 i3))] 0, [(2, [.int .i64 i4, .int .i64 i5, .int .i64 i6, .int .i64 i7, .int .i64 i8])]⟩ σ = f16_l1_t L n m0 i1 i2 i3 i4 i5 i6 i7 i8 σ := by kernel_rfl
theorem f16_l1_e {n : Nat} {m0 : Nat} {i1 i2 i3 i4 i5 i6 i7 i8 : Int} {σ : St} : Le (f16_l1_t (pt Tryd.prog Lb 16 n) n m0 i1 i2 i3 i4 i5 i6 i7 i8 σ) (f16_l1 (pt Tryd.prog Lb 16 n) (m0 + 1) i1 i2 i3 i4 i5 i6 i7 i8 σ) := by
  unfold f16_l1; exact goT_pt (f16_l1_g _ n m0 i1 i2 i3 i4 i5 i6 i7 i8 σ)
noncomputable def f16_j2_t (_ : Leaf) (_ : Nat) (_ _ _ _ _ _ : Int) (σ : St) : Out :=
 some (.ret (.tuple [.agg [.int .i64 (0 : Int), .int .i64 (0 : Int), .int .i64 (0 : Int), .int .i64 (0 : Int), .int .i64 (0 : Int)], .int .i64 (2 : Int)]), σ)
theorem f16_j2_g (L : Leaf) (n : Nat) (i1 i2 i3 i4 i5 i6 : Int) (σ : St) : goT Tryd.prog Lb 16 n L [] [1, 1] [] ⟨tm 29 [(2, .lp 2 0), (3, .v (.int .i64 i1))] 0, [(2, [.int .i64 i2, .int .i64 i3, .int .i64 i4, .int .i64 i5, .int .i64 i6])]⟩ σ = f16_j2_t L n i1 i2 i3 i4 i5 i6 σ := by kernel_rfl
theorem f16_j2_e {n : Nat} {i1 i2 i3 i4 i5 i6 : Int} {σ : St} : Le (f16_j2_t (pt Tryd.prog Lb 16 n) n i1 i2 i3 i4 i5 i6 σ) (f16_j2 (pt Tryd.prog Lb 16 n) i1 i2 i3 i4 i5 i6 σ) := by
  unfold f16_j2; exact goT_pt (f16_j2_g _ n i1 i2 i3 i4 i5 i6 σ)
/-! ### binnacle/inst.imm(form, w) -/
noncomputable def f30_t (_ : Leaf) (n : Nat) (i1 i2 : Int) (σ : St) : Out :=
 cond (i1 == (1 : Int)) (callT Tryd.prog Lb n 45 [.int .i64 (12 : Int), .int .i64 (20 : Int), .ptr (some (σ.length, 0))] (σ ++ [AObj.cells [.int .u32 i2] (.rw none)] : St) fun v4 σ3 =>
  xInt .u32 v4 fun i5 =>
  callT Tryd.prog Lb n 46 [.slice (some (σ3.length, 0)) 2 (some 2) 1] (σ3 ++ [AObj.cells [.int .u32 i5, .int .u32 (20 : Int)] (.rw (some 26))] : St) fun v7 σ6 =>
  xInt .i64 v7 fun i8 =>
  some (.ret (.int .i64 (IntKind.wrap .i64 (i8 * 2 ^ 12))), σ6)) (cond (i1 == (2 : Int)) (callT Tryd.prog Lb n 45 [.int .i64 (31 : Int), .int .i64 (1 : Int), .ptr (some (σ.length, 0))] (σ ++ [AObj.cells [.int .u32 i2] (.rw none)] : St) fun v10 σ9 =>
   xInt .u32 v10 fun i11 =>
   callT Tryd.prog Lb n 45 [.int .i64 (12 : Int), .int .i64 (8 : Int), .ptr (some (σ.length, 0))] σ9 fun v13 σ12 =>
   xInt .u32 v13 fun i14 =>
   callT Tryd.prog Lb n 45 [.int .i64 (20 : Int), .int .i64 (1 : Int), .ptr (some (σ.length, 0))] σ12 fun v16 σ15 =>
   xInt .u32 v16 fun i17 =>
   callT Tryd.prog Lb n 45 [.int .i64 (21 : Int), .int .i64 (10 : Int), .ptr (some (σ.length, 0))] σ15 fun v19 σ18 =>
   xInt .u32 v19 fun i20 =>
   callT Tryd.prog Lb n 46 [.slice (some (σ18.length, 0)) 8 (some 8) 1] (σ18 ++ [AObj.cells [.int .u32 i11, .int .u32 (1 : Int), .int .u32 i14, .int .u32 (8 : Int), .int .u32 i17, .int .u32 (1 : Int), .int .u32 i20, .int .u32 (10 : Int)] (.rw (some 26))] : St) fun v22 σ21 =>
   xInt .i64 v22 fun i23 =>
   some (.ret (.int .i64 (IntKind.wrap .i64 (i23 * 2 ^ 1))), σ21)) (cond (i1 == (3 : Int)) (callT Tryd.prog Lb n 45 [.int .i64 (20 : Int), .int .i64 (12 : Int), .ptr (some (σ.length, 0))] (σ ++ [AObj.cells [.int .u32 i2] (.rw none)] : St) fun v25 σ24 =>
    xInt .u32 v25 fun i26 =>
    callT Tryd.prog Lb n 46 [.slice (some (σ24.length, 0)) 2 (some 2) 1] (σ24 ++ [AObj.cells [.int .u32 i26, .int .u32 (12 : Int)] (.rw (some 26))] : St) fun v28 σ27 =>
    xInt .i64 v28 fun i29 =>
    some (.ret (.int .i64 i29), σ27)) (cond (i1 == (4 : Int)) (callT Tryd.prog Lb n 45 [.int .i64 (31 : Int), .int .i64 (1 : Int), .ptr (some (σ.length, 0))] (σ ++ [AObj.cells [.int .u32 i2] (.rw none)] : St) fun v31 σ30 =>
     xInt .u32 v31 fun i32 =>
     callT Tryd.prog Lb n 45 [.int .i64 (7 : Int), .int .i64 (1 : Int), .ptr (some (σ.length, 0))] σ30 fun v34 σ33 =>
     xInt .u32 v34 fun i35 =>
     callT Tryd.prog Lb n 45 [.int .i64 (25 : Int), .int .i64 (6 : Int), .ptr (some (σ.length, 0))] σ33 fun v37 σ36 =>
     xInt .u32 v37 fun i38 =>
     callT Tryd.prog Lb n 45 [.int .i64 (8 : Int), .int .i64 (4 : Int), .ptr (some (σ.length, 0))] σ36 fun v40 σ39 =>
     xInt .u32 v40 fun i41 =>
     callT Tryd.prog Lb n 46 [.slice (some (σ39.length, 0)) 8 (some 8) 1] (σ39 ++ [AObj.cells [.int .u32 i32, .int .u32 (1 : Int), .int .u32 i35, .int .u32 (1 : Int), .int .u32 i38, .int .u32 (6 : Int), .int .u32 i41, .int .u32 (4 : Int)] (.rw (some 26))] : St) fun v43 σ42 =>
     xInt .i64 v43 fun i44 =>
     some (.ret (.int .i64 (IntKind.wrap .i64 (i44 * 2 ^ 1))), σ42)) (cond (i1 == (5 : Int)) (callT Tryd.prog Lb n 45 [.int .i64 (25 : Int), .int .i64 (7 : Int), .ptr (some (σ.length, 0))] (σ ++ [AObj.cells [.int .u32 i2] (.rw none)] : St) fun v46 σ45 =>
      xInt .u32 v46 fun i47 =>
      callT Tryd.prog Lb n 45 [.int .i64 (7 : Int), .int .i64 (5 : Int), .ptr (some (σ.length, 0))] σ45 fun v49 σ48 =>
      xInt .u32 v49 fun i50 =>
      callT Tryd.prog Lb n 46 [.slice (some (σ48.length, 0)) 4 (some 4) 1] (σ48 ++ [AObj.cells [.int .u32 i47, .int .u32 (7 : Int), .int .u32 i50, .int .u32 (5 : Int)] (.rw (some 26))] : St) fun v52 σ51 =>
      xInt .i64 v52 fun i53 =>
      some (.ret (.int .i64 i53), σ51)) (cond (i1 == (6 : Int)) (callT Tryd.prog Lb n 45 [.int .i64 (20 : Int), .int .i64 (6 : Int), .ptr (some (σ.length, 0))] (σ ++ [AObj.cells [.int .u32 i2] (.rw none)] : St) fun v55 σ54 =>
       xInt .u32 v55 fun i56 =>
       some (.ret (.int .i64 (IntKind.wrap .i64 i56)), σ54)) (cond (i1 == (7 : Int)) (callT Tryd.prog Lb n 45 [.int .i64 (20 : Int), .int .i64 (5 : Int), .ptr (some (σ.length, 0))] (σ ++ [AObj.cells [.int .u32 i2] (.rw none)] : St) fun v58 σ57 =>
        xInt .u32 v58 fun i59 =>
        some (.ret (.int .i64 (IntKind.wrap .i64 i59)), σ57)) (cond (i1 == (9 : Int)) (callT Tryd.prog Lb n 45 [.int .i64 (25 : Int), .int .i64 (2 : Int), .ptr (some (σ.length, 0))] (σ ++ [AObj.cells [.int .u32 i2] (.rw none)] : St) fun v61 σ60 =>
         xInt .u32 v61 fun i62 =>
         some (.ret (.int .i64 (IntKind.wrap .i64 i62)), σ60)) (some (.ret (.int .i64 (0 : Int)), (σ ++ [AObj.cells [.int .u32 i2] (.rw none)] : St))))))))))
theorem f30_g (L : Leaf) (n : Nat) (i1 i2 : Int) (σ : St) : goT Tryd.prog Lb 30 n L [] [] [] ⟨tm 70 [(0, .v (.int .u32 i1)), (1, .v (.int .u32 i2))] 0, []⟩ σ = f30_t L n i1 i2 σ := by kernel_rfl
theorem f30_e {n : Nat} {i1 i2 : Int} {σ : St} : Le (f30_t (pt Tryd.prog Lb 30 n) n i1 i2 σ) (callP Tryd.prog Lb (n + 1) 30 [.int .u32 i1, .int .u32 i2] σ) :=
  goT_call (f30_g _ n i1 i2 σ) rfl (by kernel_rfl) (by kernel_rfl)
/-! ### binnacle/binnacleref02.fits(op, w) -/
noncomputable def f31_j1 (L : Leaf) (i1 i2 i3 i4 i5 i6 i7 i8 i9 i10 : Int) (σ : St) : Out :=
  L [1, 1, 1, 1, 1, 0, 1, 0, 1, 1, 1, 1, 1, 1, 1, 1, 1, 1, 1, 1, 1, 1, 1, 1, 1, 0, 1] [] ⟨tm 135 [(0, .v (.int .i64 i1)), (1, .v (.int .u32 i2)), (4, .lp 4 0), (6, .v (.int .i64 i3)), (7, .v (.int .i64 i4)), (8, .v (.int .i64 i5))] 0, [(4, [.int .i64 i6, .int .i64 i7, .int .i64 i8, .int .i64 i9, .int .i64 i10])]⟩ σ
noncomputable def f31_t (L : Leaf) (n : Nat) (i1 i2 : Int) (σ : St) : Out :=
 callT Tryd.prog Lb n 22 [] σ fun v4 σ3 =>
 xSl v4 fun a5 n6 _ z8 =>
 idxK i1 n6 <|
 derefK a5 fun b9 o10 =>
 szK z8 5 <|
 ldK Tryd.prog 47 σ3 b9 (o10 + ((i1).toNat * 5)) fun x11 =>
 xAgg x11 fun cs12 =>
 unC cs12 fun x13 r14 =>
 xStr x13 fun _ =>
 unC r14 fun x16 r17 =>
 xStr x16 fun s18 =>
 unC r17 fun x19 r20 =>
 xInt .u32 x19 fun _ =>
 unC r20 fun x22 r23 =>
 xInt .u32 x22 fun _ =>
 unC r23 fun x25 r26 =>
 xInt .u32 x25 fun _ =>
 nlC r26 <|
 callT Tryd.prog Lb n 47 [.int .u32 i2, .int .i64 (7 : Int), .int .i64 (5 : Int)] σ3 fun v29 σ28 =>
 xInt .i64 v29 fun i30 =>
 callT Tryd.prog Lb n 47 [.int .u32 i2, .int .i64 (15 : Int), .int .i64 (5 : Int)] σ28 fun v32 σ31 =>
 xInt .i64 v32 fun i33 =>
 callT Tryd.prog Lb n 47 [.int .u32 i2, .int .i64 (20 : Int), .int .i64 (5 : Int)] σ31 fun v35 σ34 =>
 xInt .i64 v35 fun i36 =>
 cond (s18 == [85]) (callT Tryd.prog Lb n 47 [.int .u32 i2, .int .i64 (12 : Int), .int .i64 (20 : Int)] σ34 fun v38 σ37 =>
  xInt .i64 v38 fun i39 =>
  callT Tryd.prog Lb n 48 [.int .i64 i39, .int .i64 (20 : Int)] σ37 fun v41 σ40 =>
  xInt .i64 v41 fun i42 =>
  some (.ret (.agg [.int .i64 i1, .int .i64 i30, .int .i64 (0 : Int), .int .i64 (0 : Int), .int .i64 (IntKind.wrap .i64 (i42 * (4096 : Int)))]), σ40)) (cond (s18 == [74]) (callT Tryd.prog Lb n 47 [.int .u32 i2, .int .i64 (31 : Int), .int .i64 (1 : Int)] σ34 fun v44 σ43 =>
   xInt .i64 v44 fun i45 =>
   callT Tryd.prog Lb n 47 [.int .u32 i2, .int .i64 (12 : Int), .int .i64 (8 : Int)] σ43 fun v47 σ46 =>
   xInt .i64 v47 fun i48 =>
   callT Tryd.prog Lb n 47 [.int .u32 i2, .int .i64 (20 : Int), .int .i64 (1 : Int)] σ46 fun v50 σ49 =>
   xInt .i64 v50 fun i51 =>
   callT Tryd.prog Lb n 47 [.int .u32 i2, .int .i64 (21 : Int), .int .i64 (10 : Int)] σ49 fun v53 σ52 =>
   xInt .i64 v53 fun i54 =>
   callT Tryd.prog Lb n 48 [.int .i64 (IntKind.wrap .i64 ((IntKind.wrap .i64 ((IntKind.wrap .i64 ((IntKind.wrap .i64 (i45 * (524288 : Int))) + (IntKind.wrap .i64 (i48 * (2048 : Int))))) + (IntKind.wrap .i64 (i51 * (1024 : Int))))) + i54)), .int .i64 (20 : Int)] σ52 fun v56 σ55 =>
   xInt .i64 v56 fun i57 =>
   some (.ret (.agg [.int .i64 i1, .int .i64 i30, .int .i64 (0 : Int), .int .i64 (0 : Int), .int .i64 (IntKind.wrap .i64 (i57 * (2 : Int)))]), σ55)) (cond (s18 == [73]) (callT Tryd.prog Lb n 47 [.int .u32 i2, .int .i64 (20 : Int), .int .i64 (12 : Int)] σ34 fun v59 σ58 =>
    xInt .i64 v59 fun i60 =>
    callT Tryd.prog Lb n 48 [.int .i64 i60, .int .i64 (12 : Int)] σ58 fun v62 σ61 =>
    xInt .i64 v62 fun i63 =>
    some (.ret (.agg [.int .i64 i1, .int .i64 i30, .int .i64 i33, .int .i64 (0 : Int), .int .i64 i63]), σ61)) (cond (s18 == [66]) (callT Tryd.prog Lb n 47 [.int .u32 i2, .int .i64 (31 : Int), .int .i64 (1 : Int)] σ34 fun v65 σ64 =>
     xInt .i64 v65 fun i66 =>
     callT Tryd.prog Lb n 47 [.int .u32 i2, .int .i64 (7 : Int), .int .i64 (1 : Int)] σ64 fun v68 σ67 =>
     xInt .i64 v68 fun i69 =>
     callT Tryd.prog Lb n 47 [.int .u32 i2, .int .i64 (25 : Int), .int .i64 (6 : Int)] σ67 fun v71 σ70 =>
     xInt .i64 v71 fun i72 =>
     callT Tryd.prog Lb n 47 [.int .u32 i2, .int .i64 (8 : Int), .int .i64 (4 : Int)] σ70 fun v74 σ73 =>
     xInt .i64 v74 fun i75 =>
     callT Tryd.prog Lb n 48 [.int .i64 (IntKind.wrap .i64 ((IntKind.wrap .i64 ((IntKind.wrap .i64 ((IntKind.wrap .i64 (i66 * (2048 : Int))) + (IntKind.wrap .i64 (i69 * (1024 : Int))))) + (IntKind.wrap .i64 (i72 * (16 : Int))))) + i75)), .int .i64 (12 : Int)] σ73 fun v77 σ76 =>
     xInt .i64 v77 fun i78 =>
     some (.ret (.agg [.int .i64 i1, .int .i64 (0 : Int), .int .i64 i33, .int .i64 i36, .int .i64 (IntKind.wrap .i64 (i78 * (2 : Int)))]), σ76)) (cond (s18 == [83]) (callT Tryd.prog Lb n 47 [.int .u32 i2, .int .i64 (25 : Int), .int .i64 (7 : Int)] σ34 fun v80 σ79 =>
      xInt .i64 v80 fun i81 =>
      callT Tryd.prog Lb n 47 [.int .u32 i2, .int .i64 (7 : Int), .int .i64 (5 : Int)] σ79 fun v83 σ82 =>
      xInt .i64 v83 fun i84 =>
      callT Tryd.prog Lb n 48 [.int .i64 (IntKind.wrap .i64 ((IntKind.wrap .i64 (i81 * (32 : Int))) + i84)), .int .i64 (12 : Int)] σ82 fun v86 σ85 =>
      xInt .i64 v86 fun i87 =>
      some (.ret (.agg [.int .i64 i1, .int .i64 (0 : Int), .int .i64 i33, .int .i64 i36, .int .i64 i87]), σ85)) (cond (s18 == [72]) (callT Tryd.prog Lb n 47 [.int .u32 i2, .int .i64 (20 : Int), .int .i64 (6 : Int)] σ34 fun v89 σ88 =>
       xInt .i64 v89 fun i90 =>
       some (.ret (.agg [.int .i64 i1, .int .i64 i30, .int .i64 i33, .int .i64 (0 : Int), .int .i64 i90]), σ88)) (cond (s18 == [86]) (callT Tryd.prog Lb n 47 [.int .u32 i2, .int .i64 (20 : Int), .int .i64 (5 : Int)] σ34 fun v92 σ91 =>
        xInt .i64 v92 fun i93 =>
        some (.ret (.agg [.int .i64 i1, .int .i64 i30, .int .i64 i33, .int .i64 (0 : Int), .int .i64 i93]), σ91)) (cond (s18 == [82]) (some (.ret (.agg [.int .i64 i1, .int .i64 i30, .int .i64 i33, .int .i64 i36, .int .i64 (0 : Int)]), σ34)) (cond (s18 == [65]) (cond (i1 == (66 : Int)) (f31_j1 L i1 i2 i30 i33 (0 : Int) (0 : Int) (0 : Int) (0 : Int) (0 : Int) (0 : Int) σ34) (cond (i1 == (77 : Int)) (f31_j1 L i1 i2 i30 i33 (0 : Int) (0 : Int) (0 : Int) (0 : Int) (0 : Int) (0 : Int) σ34) (f31_j1 L i1 i2 i30 i33 i36 (0 : Int) (0 : Int) (0 : Int) (0 : Int) (0 : Int) σ34))) (some (.ret (.agg [.int .i64 i1, .int .i64 (0 : Int), .int .i64 (0 : Int), .int .i64 (0 : Int), .int .i64 (0 : Int)]), σ34))))))))))
theorem f31_g (L : Leaf) (n : Nat) (i1 i2 : Int) (σ : St) : goT Tryd.prog Lb 31 n L [[1, 1, 1, 1, 1, 0, 1, 0, 1, 1, 1, 1, 1, 1, 1, 1, 1, 1, 1, 1, 1, 1, 1, 1, 1, 0, 1]] [] [] ⟨tm 135 [(0, .v (.int .i64 i1)), (1, .v (.int .u32 i2))] 0, []⟩ σ = f31_t L n i1 i2 σ := by kernel_rfl
theorem f31_e {n : Nat} {i1 i2 : Int} {σ : St} : Le (f31_t (pt Tryd.prog Lb 31 n) n i1 i2 σ) (callP Tryd.prog Lb (n + 1) 31 [.int .i64 i1, .int .u32 i2] σ) :=
  goT_call (f31_g _ n i1 i2 σ) rfl (by kernel_rfl) (by kernel_rfl)
noncomputable def f31_j1_t (_ : Leaf) (n : Nat) (i1 i2 i3 i4 i5 _ _ _ _ _ : Int) (σ : St) : Out :=
 callT Tryd.prog Lb n 47 [.int .u32 i2, .int .i64 (25 : Int), .int .i64 (2 : Int)] σ fun v12 σ11 =>
 xInt .i64 v12 fun i13 =>
 some (.ret (.agg [.int .i64 i1, .int .i64 i3, .int .i64 i4, .int .i64 i5, .int .i64 i13]), σ11)
theorem f31_j1_g (L : Leaf) (n : Nat) (i1 i2 i3 i4 i5 i6 i7 i8 i9 i10 : Int) (σ : St) : goT Tryd.prog Lb 31 n L [] [1, 1, 1, 1, 1, 0, 1, 0, 1, 1, 1, 1, 1, 1, 1, 1, 1, 1, 1, 1, 1, 1, 1, 1, 1, 0, 1] [] ⟨tm 135 [(0, .v (.int .i64 i1)), (1, .v (.int .u32 i2)), (4, .lp 4 0), (6, .v (.int .i64 i3)), (7, .v (.int .i64 i4)), (8, .v (.int .i64 i5))] 0, [(4, [.int .i64 i6, .int .i64 i7, .int .i64 i8, .int .i64 i9, .int .i64 i10])]⟩ σ = f31_j1_t L n i1 i2 i3 i4 i5 i6 i7 i8 i9 i10 σ := by kernel_rfl
theorem f31_j1_e {n : Nat} {i1 i2 i3 i4 i5 i6 i7 i8 i9 i10 : Int} {σ : St} : Le (f31_j1_t (pt Tryd.prog Lb 31 n) n i1 i2 i3 i4 i5 i6 i7 i8 i9 i10 σ) (f31_j1 (pt Tryd.prog Lb 31 n) i1 i2 i3 i4 i5 i6 i7 i8 i9 i10 σ) := by
  unfold f31_j1; exact goT_pt (f31_j1_g _ n i1 i2 i3 i4 i5 i6 i7 i8 i9 i10 σ)
/-! ### binnacle/inst.imm$1(from, many, ) -/
noncomputable def f45_t (_ : Leaf) (_ : Nat) (i1 i2 : Int) (b3 o4 : Nat) (σ : St) : Out :=
 ldK Tryd.prog 26 σ b3 o4 fun x5 =>
 xInt .u32 x5 fun i6 =>
 shK i1 <|
 shK i2 <|
 some (.ret (.int .u32 (IntKind.wrap .u32 (((BitVec.ofInt 32 (Int.fdiv i6 (2 ^ (min (i1).toNat (IntKind.bits .u32)))) &&& BitVec.ofInt 32 (IntKind.wrap .u32 ((IntKind.wrap .u32 ((1 : Int) * 2 ^ (min (i2).toNat (IntKind.bits .u32)))) - (1 : Int)))).toNat : Nat) : Int))), σ)
theorem f45_g (L : Leaf) (n : Nat) (i1 i2 : Int) (b3 o4 : Nat) (σ : St) : goT Tryd.prog Lb 45 n L [] [] [] ⟨tm 13 [(0, .v (.int .i64 i1)), (1, .v (.int .i64 i2)), (2, .v (.ptr (some (b3, o4))))] 0, []⟩ σ = f45_t L n i1 i2 b3 o4 σ := by kernel_rfl
theorem f45_e {n : Nat} {i1 i2 : Int} {b3 o4 : Nat} {σ : St} : Le (f45_t (pt Tryd.prog Lb 45 n) n i1 i2 b3 o4 σ) (callP Tryd.prog Lb (n + 1) 45 [.int .i64 i1, .int .i64 i2, .ptr (some (b3, o4))] σ) :=
  goT_call (f45_g _ n i1 i2 b3 o4 σ) rfl (by kernel_rfl) (by kernel_rfl)
/-! ### binnacle/inst.number(parts) -/
noncomputable def f46_l1 (L : Leaf) (m0 : Nat) (a1 : Option (Nat × Nat)) (n2 : Nat) (c3 : Option Nat) (z4 : Nat) (i5 i6 i7 i8 : Int) (σ : St) : Out :=
  L [1, 1, 1, 0, 1, 0] [m0] ⟨tm 41 [(0, .v (.slice a1 n2 c3 z4)), (2, .v (.int .i64 i5)), (3, .v (.int .i64 i6)), (4, .v (.int .i64 i7)), (5, .v (.int .i64 i8))] 0, []⟩ σ
noncomputable def f46_j2 (L : Leaf) (i1 i2 i3 : Int) (σ : St) : Out :=
  L [1, 1, 1, 1] [] ⟨tm 41 [(2, .v (.int .i64 i1)), (3, .v (.int .i64 i2)), (4, .v (.int .i64 i3))] 0, []⟩ σ
noncomputable def f46_t (L : Leaf) (n : Nat) (a1 : Option (Nat × Nat)) (n2 : Nat) (c3 : Option Nat) (z4 : Nat) (σ : St) : Out :=
 f46_l1 L n a1 n2 c3 z4 (0 : Int) (0 : Int) (0 : Int) (0 : Int) σ
theorem f46_g (L : Leaf) (n : Nat) (a1 : Option (Nat × Nat)) (n2 : Nat) (c3 : Option Nat) (z4 : Nat) (σ : St) : goT Tryd.prog Lb 46 n L [] [] [] ⟨tm 41 [(0, .v (.slice a1 n2 c3 z4))] 0, []⟩ σ = f46_t L n a1 n2 c3 z4 σ := by kernel_rfl
theorem f46_e {n : Nat} {a1 : Option (Nat × Nat)} {n2 : Nat} {c3 : Option Nat} {z4 : Nat} {σ : St} : Le (f46_t (pt Tryd.prog Lb 46 n) n a1 n2 c3 z4 σ) (callP Tryd.prog Lb (n + 1) 46 [.slice a1 n2 c3 z4] σ) :=
  goT_call (f46_g _ n a1 n2 c3 z4 σ) rfl (by kernel_rfl) (by kernel_rfl)
noncomputable def f46_l1_t (L : Leaf) (_ m0 : Nat) (a1 : Option (Nat × Nat)) (n2 : Nat) (c3 : Option Nat) (z4 : Nat) (i5 i6 i7 i8 : Int) (σ : St) : Out :=
 cond (decide ((IntKind.wrap .i64 (i8 + (1 : Int))) < (n2 : Int))) (idxK (IntKind.wrap .i64 (i8 + (1 : Int))) n2 <|
  derefK a1 fun b9 o10 =>
  szK z4 1 <|
  ldK Tryd.prog 26 σ b9 (o10 + (((IntKind.wrap .i64 (i8 + (1 : Int)))).toNat * 1)) fun x11 =>
  xInt .u32 x11 fun i12 =>
  shK i12 <|
  idxK i8 n2 <|
  derefK a1 fun b13 o14 =>
  szK z4 1 <|
  ldK Tryd.prog 26 σ b13 (o14 + ((i8).toNat * 1)) fun x15 =>
  xInt .u32 x15 fun i16 =>
  idxK (IntKind.wrap .i64 (i8 + (1 : Int))) n2 <|
  derefK a1 fun b17 o18 =>
  szK z4 1 <|
  ldK Tryd.prog 26 σ b17 (o18 + (((IntKind.wrap .i64 (i8 + (1 : Int)))).toNat * 1)) fun x19 =>
  xInt .u32 x19 fun i20 =>
  f46_l1 L m0 a1 n2 c3 z4 i5 (IntKind.wrap .i64 (((BitVec.ofInt 64 (IntKind.wrap .i64 (i6 * 2 ^ (min (i12).toNat (IntKind.bits .i64)))) ||| BitVec.ofInt 64 (IntKind.wrap .i64 i16)).toNat : Nat) : Int)) (IntKind.wrap .i64 (i7 + (IntKind.wrap .i64 i20))) (IntKind.wrap .i64 (i8 + (2 : Int))) σ) (f46_j2 L i5 i6 i7 σ)
theorem f46_l1_g (L : Leaf) (n : Nat) (m0 : Nat) (a1 : Option (Nat × Nat)) (n2 : Nat) (c3 : Option Nat) (z4 : Nat) (i5 i6 i7 i8 : Int) (σ : St) : goT Tryd.prog Lb 46 n L [[1, 1, 1, 1]] [1, 1, 1, 0, 1, 0] [m0 + 1] ⟨tm 41 [(0, .v (.slice a1 n2 c3 z4)), (2, .v (.int .i64 i5)), (3, .v (.int .i64 i6)), (4, .v (.int .i64 i7)), (5, .v (.int .i64 i8))] 0, []⟩ σ = f46_l1_t L n m0 a1 n2 c3 z4 i5 i6 i7 i8 σ := by kernel_rfl
theorem f46_l1_e {n : Nat} {m0 : Nat} {a1 : Option (Nat × Nat)} {n2 : Nat} {c3 : Option Nat} {z4 : Nat} {i5 i6 i7 i8 : Int} {σ : St} : Le (f46_l1_t (pt Tryd.prog Lb 46 n) n m0 a1 n2 c3 z4 i5 i6 i7 i8 σ) (f46_l1 (pt Tryd.prog Lb 46 n) (m0 + 1) a1 n2 c3 z4 i5 i6 i7 i8 σ) := by
  unfold f46_l1; exact goT_pt (f46_l1_g _ n m0 a1 n2 c3 z4 i5 i6 i7 i8 σ)
noncomputable def f46_j2_t (_ : Leaf) (_ : Nat) (_ i2 i3 : Int) (σ : St) : Out :=
 shK (IntKind.wrap .i64 ((64 : Int) - i3)) <|
 shK (IntKind.wrap .i64 ((64 : Int) - i3)) <|
 some (.ret (.int .i64 (Int.fdiv (IntKind.wrap .i64 (i2 * 2 ^ (min ((IntKind.wrap .i64 ((64 : Int) - i3))).toNat (IntKind.bits .i64)))) (2 ^ (min ((IntKind.wrap .i64 ((64 : Int) - i3))).toNat (IntKind.bits .i64))))), σ)
theorem f46_j2_g (L : Leaf) (n : Nat) (i1 i2 i3 : Int) (σ : St) : goT Tryd.prog Lb 46 n L [] [1, 1, 1, 1] [] ⟨tm 41 [(2, .v (.int .i64 i1)), (3, .v (.int .i64 i2)), (4, .v (.int .i64 i3))] 0, []⟩ σ = f46_j2_t L n i1 i2 i3 σ := by kernel_rfl
theorem f46_j2_e {n : Nat} {i1 i2 i3 : Int} {σ : St} : Le (f46_j2_t (pt Tryd.prog Lb 46 n) n i1 i2 i3 σ) (f46_j2 (pt Tryd.prog Lb 46 n) i1 i2 i3 σ) := by
  unfold f46_j2; exact goT_pt (f46_j2_g _ n i1 i2 i3 σ)
/-! ### binnacle/binnacleref02.at(w, from, many) -/
noncomputable def f47_l1 (L : Leaf) (m0 : Nat) (i1 i2 i3 i4 i5 : Int) (σ : St) : Out :=
  L [1, 1, 0, 1, 0] [m0] ⟨tm 27 [(0, .v (.int .u32 i1)), (1, .v (.int .i64 i2)), (6, .v (.int .i64 i3)), (7, .v (.int .i64 i4)), (8, .v (.int .i64 i5))] 0, []⟩ σ
noncomputable def f47_j2 (L : Leaf) (i1 i2 : Int) (σ : St) : Out :=
  L [1, 1, 1] [] ⟨tm 27 [(6, .v (.int .i64 i1)), (7, .v (.int .i64 i2))] 0, []⟩ σ
noncomputable def f47_t (L : Leaf) (n : Nat) (i1 i2 i3 : Int) (σ : St) : Out :=
 f47_l1 L n i1 i2 (0 : Int) (0 : Int) (IntKind.wrap .i64 (i3 - (1 : Int))) σ
theorem f47_g (L : Leaf) (n : Nat) (i1 i2 i3 : Int) (σ : St) : goT Tryd.prog Lb 47 n L [] [] [] ⟨tm 27 [(0, .v (.int .u32 i1)), (1, .v (.int .i64 i2)), (2, .v (.int .i64 i3))] 0, []⟩ σ = f47_t L n i1 i2 i3 σ := by kernel_rfl
theorem f47_e {n : Nat} {i1 i2 i3 : Int} {σ : St} : Le (f47_t (pt Tryd.prog Lb 47 n) n i1 i2 i3 σ) (callP Tryd.prog Lb (n + 1) 47 [.int .u32 i1, .int .i64 i2, .int .i64 i3] σ) :=
  goT_call (f47_g _ n i1 i2 i3 σ) rfl (by kernel_rfl) (by kernel_rfl)
noncomputable def f47_l1_t (L : Leaf) (_ m0 : Nat) (i1 i2 i3 i4 i5 : Int) (σ : St) : Out :=
 cond (decide (i5 ≥ (0 : Int))) (shK (IntKind.wrap .u64 (IntKind.wrap .i64 (i2 + i5))) <|
  f47_l1 L m0 i1 i2 i3 (IntKind.wrap .i64 ((IntKind.wrap .i64 (i4 * (2 : Int))) + (IntKind.wrap .i64 (IntKind.wrap .u32 (((BitVec.ofInt 32 (Int.fdiv i1 (2 ^ (min ((IntKind.wrap .u64 (IntKind.wrap .i64 (i2 + i5)))).toNat (IntKind.bits .u32)))) &&& BitVec.ofInt 32 (1 : Int)).toNat : Nat) : Int))))) (IntKind.wrap .i64 (i5 - (1 : Int))) σ) (f47_j2 L i3 i4 σ)
theorem f47_l1_g (L : Leaf) (n : Nat) (m0 : Nat) (i1 i2 i3 i4 i5 : Int) (σ : St) : goT Tryd.prog Lb 47 n L [[1, 1, 1]] [1, 1, 0, 1, 0] [m0 + 1] ⟨tm 27 [(0, .v (.int .u32 i1)), (1, .v (.int .i64 i2)), (6, .v (.int .i64 i3)), (7, .v (.int .i64 i4)), (8, .v (.int .i64 i5))] 0, []⟩ σ = f47_l1_t L n m0 i1 i2 i3 i4 i5 σ := by kernel_rfl
theorem f47_l1_e {n : Nat} {m0 : Nat} {i1 i2 i3 i4 i5 : Int} {σ : St} : Le (f47_l1_t (pt Tryd.prog Lb 47 n) n m0 i1 i2 i3 i4 i5 σ) (f47_l1 (pt Tryd.prog Lb 47 n) (m0 + 1) i1 i2 i3 i4 i5 σ) := by
  unfold f47_l1; exact goT_pt (f47_l1_g _ n m0 i1 i2 i3 i4 i5 σ)
noncomputable def f47_j2_t (_ : Leaf) (_ : Nat) (_ i2 : Int) (σ : St) : Out :=
 some (.ret (.int .i64 i2), σ)
theorem f47_j2_g (L : Leaf) (n : Nat) (i1 i2 : Int) (σ : St) : goT Tryd.prog Lb 47 n L [] [1, 1, 1] [] ⟨tm 27 [(6, .v (.int .i64 i1)), (7, .v (.int .i64 i2))] 0, []⟩ σ = f47_j2_t L n i1 i2 σ := by kernel_rfl
theorem f47_j2_e {n : Nat} {i1 i2 : Int} {σ : St} : Le (f47_j2_t (pt Tryd.prog Lb 47 n) n i1 i2 σ) (f47_j2 (pt Tryd.prog Lb 47 n) i1 i2 σ) := by
  unfold f47_j2; exact goT_pt (f47_j2_g _ n i1 i2 σ)
/-! ### binnacle/binnacleref02.signed(v, bits) -/
noncomputable def f48_t (_ : Leaf) (_ : Nat) (i1 i2 : Int) (σ : St) : Out :=
 shK (IntKind.wrap .u64 (IntKind.wrap .i64 (i2 - (1 : Int)))) <|
 cond (decide (i1 ≥ (IntKind.wrap .i64 ((1 : Int) * 2 ^ (min ((IntKind.wrap .u64 (IntKind.wrap .i64 (i2 - (1 : Int))))).toNat (IntKind.bits .i64)))))) (some (.ret (.int .i64 (IntKind.wrap .i64 (i1 - (IntKind.wrap .i64 ((2 : Int) * (IntKind.wrap .i64 ((1 : Int) * 2 ^ (min ((IntKind.wrap .u64 (IntKind.wrap .i64 (i2 - (1 : Int))))).toNat (IntKind.bits .i64))))))))), σ)) (some (.ret (.int .i64 i1), σ))
theorem f48_g (L : Leaf) (n : Nat) (i1 i2 : Int) (σ : St) : goT Tryd.prog Lb 48 n L [] [] [] ⟨tm 18 [(0, .v (.int .i64 i1)), (1, .v (.int .i64 i2))] 0, []⟩ σ = f48_t L n i1 i2 σ := by kernel_rfl
theorem f48_e {n : Nat} {i1 i2 : Int} {σ : St} : Le (f48_t (pt Tryd.prog Lb 48 n) n i1 i2 σ) (callP Tryd.prog Lb (n + 1) 48 [.int .i64 i1, .int .i64 i2] σ) :=
  goT_call (f48_g _ n i1 i2 σ) rfl (by kernel_rfl) (by kernel_rfl)
end Go.Proofs

/- The functions, as trees of named steps. -/
import Derived.Test.YtidammkjfdonaaaDoorAmT
import Derived.Test.YtidammkjfdonaaaDoorLb
import Derived.Test.YtidammkjfdonaaaDoorChecked
namespace Go.Proofs
open Go.AM
set_option maxHeartbeats 4000000
/-! ### binnacle/inst.Parse(s) -/
noncomputable def f19_l1 (L : Leaf) (m0 : Nat) (s1 : List UInt8) (i2 : Int) (s3 : List UInt8) (a4 : Option (Nat × Nat)) (n5 : Nat) (c6 : Option Nat) (z7 : Nat) (a8 : Option (Nat × Nat)) (n9 : Nat) (c10 : Option Nat) (z11 : Nat) (i12 i13 i14 i15 i16 i17 i18 : Int) (σ : St) : Out :=
  L [1, 1, 1, 0, 1, 0] [m0] ⟨tm 94 [(0, .v (.str s1)), (2, .lp 2 0), (3, .v (.int .i64 i2)), (4, .v (.str s3)), (7, .v (.slice a4 n5 c6 z7)), (28, .v (.slice a8 n9 c10 z11)), (29, .v (.int .i64 i12)), (30, .v (.int .i64 i13))] 0, [(2, [.int .i64 i14, .int .i64 i15, .int .i64 i16, .int .i64 i17, .int .i64 i18])]⟩ σ
noncomputable def f19_j2 (L : Leaf) (s1 : List UInt8) (i2 : Int) (s3 : List UInt8) (a4 : Option (Nat × Nat)) (n5 : Nat) (c6 : Option Nat) (z7 : Nat) (i8 i9 i10 i11 i12 : Int) (σ : St) : Out :=
  L [1, 1, 1, 1] [] ⟨tm 94 [(0, .v (.str s1)), (2, .lp 2 0), (3, .v (.int .i64 i2)), (4, .v (.str s3)), (7, .v (.slice a4 n5 c6 z7))] 0, [(2, [.int .i64 i8, .int .i64 i9, .int .i64 i10, .int .i64 i11, .int .i64 i12])]⟩ σ
noncomputable def f19_l3 (L : Leaf) (m0 : Nat) (s1 : List UInt8) (i2 : Int) (s3 : List UInt8) (a4 : Option (Nat × Nat)) (n5 : Nat) (c6 : Option Nat) (z7 : Nat) (i8 i9 i10 i11 i12 i13 : Int) (σ : St) : Out :=
  L [1, 1, 1, 1, 0, 1, 0] [m0] ⟨tm 94 [(0, .v (.str s1)), (2, .lp 2 0), (3, .v (.int .i64 i2)), (4, .v (.str s3)), (7, .v (.slice a4 n5 c6 z7)), (12, .v (.int .i64 i8))] 0, [(2, [.int .i64 i9, .int .i64 i10, .int .i64 i11, .int .i64 i12, .int .i64 i13])]⟩ σ
noncomputable def f19_j4 (L : Leaf) (m0 : Nat) (s1 : List UInt8) (i2 : Int) (s3 : List UInt8) (a4 : Option (Nat × Nat)) (n5 : Nat) (c6 : Option Nat) (z7 : Nat) (i8 i9 i10 i11 i12 i13 : Int) (σ : St) : Out :=
  L [1, 1, 1, 1, 0, 1, 0, 0, 1, 1] [m0] ⟨tm 94 [(0, .v (.str s1)), (2, .lp 2 0), (3, .v (.int .i64 i2)), (4, .v (.str s3)), (7, .v (.slice a4 n5 c6 z7)), (12, .v (.int .i64 i8))] 0, [(2, [.int .i64 i9, .int .i64 i10, .int .i64 i11, .int .i64 i12, .int .i64 i13])]⟩ σ
noncomputable def f19_l5 (L : Leaf) (m0 m1 : Nat) (s1 : List UInt8) (i2 : Int) (s3 : List UInt8) (a4 : Option (Nat × Nat)) (n5 : Nat) (c6 : Option Nat) (z7 : Nat) (i8 : Int) (s9 s10 s11 s12 s13 : List UInt8) (i14 i15 i16 i17 i18 i19 : Int) (σ : St) : Out :=
  L [1, 1, 1, 1, 0, 1, 0, 0, 1, 0, 0, 1, 1, 1, 0] [m0, m1] ⟨tm 94 [(0, .v (.str s1)), (2, .lp 2 0), (3, .v (.int .i64 i2)), (4, .v (.str s3)), (7, .v (.slice a4 n5 c6 z7)), (12, .v (.int .i64 i8)), (13, .v (.str s9)), (58, .v (.agg [.str s10, .str s11, .str s12, .str s13])), (59, .v (.int .i64 i14))] 0, [(2, [.int .i64 i15, .int .i64 i16, .int .i64 i17, .int .i64 i18, .int .i64 i19])]⟩ σ
noncomputable def f19_j6 (L : Leaf) (i1 i2 i3 i4 i5 i6 : Int) (σ : St) : Out :=
  L [1, 1, 1, 1, 1] [] ⟨tm 94 [(2, .lp 2 0), (3, .v (.int .i64 i1))] 0, [(2, [.int .i64 i2, .int .i64 i3, .int .i64 i4, .int .i64 i5, .int .i64 i6])]⟩ σ
noncomputable def f19_j7 (L : Leaf) (m0 m1 : Nat) (s1 : List UInt8) (i2 : Int) (s3 : List UInt8) (a4 : Option (Nat × Nat)) (n5 : Nat) (c6 : Option Nat) (z7 : Nat) (i8 : Int) (s9 : List UInt8) (b10 o11 : Nat) (s12 s13 s14 s15 : List UInt8) (i16 i17 i18 i19 i20 i21 : Int) (σ : St) : Out :=
  L [1, 1, 1, 1, 0, 1, 0, 0, 1, 0, 0, 1, 1, 1, 0, 0, 1, 1, 0, 0, 1, 1, 1, 1, 1, 1] [m0, m1] ⟨tm 94 [(0, .v (.str s1)), (2, .lp 2 0), (3, .v (.int .i64 i2)), (4, .v (.str s3)), (7, .v (.slice a4 n5 c6 z7)), (12, .v (.int .i64 i8)), (13, .v (.str s9)), (17, .v (.ptr (some (b10, o11)))), (58, .v (.agg [.str s12, .str s13, .str s14, .str s15])), (59, .v (.int .i64 i16))] 0, [(2, [.int .i64 i17, .int .i64 i18, .int .i64 i19, .int .i64 i20, .int .i64 i21])]⟩ σ
noncomputable def f19_t (L : Leaf) (n : Nat) (s1 : List UInt8) (σ : St) : Out :=
 callT Tryd.prog Lb n 36 [.str s1, .str [32]] σ fun v3 σ2 =>
 xTup v3 fun cs4 =>
 unC cs4 fun x5 r6 =>
 xStr x5 fun s7 =>
 unC r6 fun x8 r9 =>
 xStr x8 fun s10 =>
 unC r9 fun x11 r12 =>
 xBool x11 fun _ =>
 nlC r12 <|
 callT Tryd.prog Lb n 37 [.str s10, .func (.func 38) [] []] σ2 fun v15 σ14 =>
 xSl v15 fun a16 n17 c18 z19 =>
 f19_l1 L n s1 (0 : Int) s7 none 0 (some 0) 0 a16 n17 c18 z19 (n17 : Int) (0 : Int) (0 : Int) (0 : Int) (0 : Int) (0 : Int) (0 : Int) σ14
theorem f19_g (L : Leaf) (n : Nat) (s1 : List UInt8) (σ : St) : goT Tryd.prog Lb 19 n L [] [] [] ⟨tm 94 [(0, .v (.str s1))] 0, []⟩ σ = f19_t L n s1 σ := by kernel_rfl
theorem f19_e {n : Nat} {s1 : List UInt8} {σ : St} : Le (f19_t (pt Tryd.prog Lb 19 n) n s1 σ) (callP Tryd.prog Lb (n + 1) 19 [.str s1] σ) :=
  goT_call (f19_g _ n s1 σ) rfl (by kernel_rfl) (by kernel_rfl)
noncomputable def f19_l1_t (L : Leaf) (n m0 : Nat) (s1 : List UInt8) (i2 : Int) (s3 : List UInt8) (a4 : Option (Nat × Nat)) (n5 : Nat) (c6 : Option Nat) (z7 : Nat) (a8 : Option (Nat × Nat)) (n9 : Nat) (c10 : Option Nat) (z11 : Nat) (i12 i13 i14 i15 i16 i17 i18 : Int) (σ : St) : Out :=
 cond (decide (i13 < i12)) (idxK i13 n9 <|
  derefK a8 fun b19 o20 =>
  szK z11 1 <|
  ldK Tryd.prog 9 σ b19 (o20 + ((i13).toNat * 1)) fun x21 =>
  xStr x21 fun s22 =>
  callT Tryd.prog Lb n 39 [.str s22] σ fun v24 σ23 =>
  xTup v24 fun cs25 =>
  unC cs25 fun x26 r27 =>
  xInt .i64 x26 fun i28 =>
  unC r27 fun x29 r30 =>
  xBool x29 fun b31 =>
  nlC r30 <|
  cond b31 (appK σ23 2 1 8 a4 n5 z7 1 [.int .i64 i28] fun a32 n33 c34 σ35 =>
   f19_l1 L m0 s1 i2 s3 a32 n33 c34 1 a8 n9 c10 z11 i12 (IntKind.wrap .i64 (i13 + (1 : Int))) i14 i15 i16 i17 i18 σ35) (f19_l1 L m0 s1 i2 s3 a4 n5 c6 z7 a8 n9 c10 z11 i12 (IntKind.wrap .i64 (i13 + (1 : Int))) i14 i15 i16 i17 i18 σ23)) (f19_j2 L s1 i2 s3 a4 n5 c6 z7 i14 i15 i16 i17 i18 σ)
theorem f19_l1_g (L : Leaf) (n : Nat) (m0 : Nat) (s1 : List UInt8) (i2 : Int) (s3 : List UInt8) (a4 : Option (Nat × Nat)) (n5 : Nat) (c6 : Option Nat) (z7 : Nat) (a8 : Option (Nat × Nat)) (n9 : Nat) (c10 : Option Nat) (z11 : Nat) (i12 i13 i14 i15 i16 i17 i18 : Int) (σ : St) : goT Tryd.prog Lb 19 n L [[1, 1, 1, 1]] [1, 1, 1, 0, 1, 0] [m0 + 1] ⟨tm 94 [(0, .v (.str s1)), (2, .lp 2 0), (3, .v (.int .i64 i2)), (4, .v (.str s3)), (7, .v (.slice a4 n5 c6 z7)), (28, .v (.slice a8 n9 c10 z11)), (29, .v (.int .i64 i12)), (30, .v (.int .i64 i13))] 0, [(2, [.int .i64 i14, .int .i64 i15, .int .i64 i16, .int .i64 i17, .int .i64 i18])]⟩ σ = f19_l1_t L n m0 s1 i2 s3 a4 n5 c6 z7 a8 n9 c10 z11 i12 i13 i14 i15 i16 i17 i18 σ := by kernel_rfl
theorem f19_l1_e {n : Nat} {m0 : Nat} {s1 : List UInt8} {i2 : Int} {s3 : List UInt8} {a4 : Option (Nat × Nat)} {n5 : Nat} {c6 : Option Nat} {z7 : Nat} {a8 : Option (Nat × Nat)} {n9 : Nat} {c10 : Option Nat} {z11 : Nat} {i12 i13 i14 i15 i16 i17 i18 : Int} {σ : St} : Le (f19_l1_t (pt Tryd.prog Lb 19 n) n m0 s1 i2 s3 a4 n5 c6 z7 a8 n9 c10 z11 i12 i13 i14 i15 i16 i17 i18 σ) (f19_l1 (pt Tryd.prog Lb 19 n) (m0 + 1) s1 i2 s3 a4 n5 c6 z7 a8 n9 c10 z11 i12 i13 i14 i15 i16 i17 i18 σ) := by
  unfold f19_l1; exact goT_pt (f19_l1_g _ n m0 s1 i2 s3 a4 n5 c6 z7 a8 n9 c10 z11 i12 i13 i14 i15 i16 i17 i18 σ)
noncomputable def f19_j2_t (L : Leaf) (n : Nat) (s1 : List UInt8) (i2 : Int) (s3 : List UInt8) (a4 : Option (Nat × Nat)) (n5 : Nat) (c6 : Option Nat) (z7 : Nat) (i8 i9 i10 i11 i12 : Int) (σ : St) : Out :=
 f19_l3 L n s1 i2 s3 a4 n5 c6 z7 (1 : Int) i8 i9 i10 i11 i12 σ
theorem f19_j2_g (L : Leaf) (n : Nat) (s1 : List UInt8) (i2 : Int) (s3 : List UInt8) (a4 : Option (Nat × Nat)) (n5 : Nat) (c6 : Option Nat) (z7 : Nat) (i8 i9 i10 i11 i12 : Int) (σ : St) : goT Tryd.prog Lb 19 n L [] [1, 1, 1, 1] [] ⟨tm 94 [(0, .v (.str s1)), (2, .lp 2 0), (3, .v (.int .i64 i2)), (4, .v (.str s3)), (7, .v (.slice a4 n5 c6 z7))] 0, [(2, [.int .i64 i8, .int .i64 i9, .int .i64 i10, .int .i64 i11, .int .i64 i12])]⟩ σ = f19_j2_t L n s1 i2 s3 a4 n5 c6 z7 i8 i9 i10 i11 i12 σ := by kernel_rfl
theorem f19_j2_e {n : Nat} {s1 : List UInt8} {i2 : Int} {s3 : List UInt8} {a4 : Option (Nat × Nat)} {n5 : Nat} {c6 : Option Nat} {z7 : Nat} {i8 i9 i10 i11 i12 : Int} {σ : St} : Le (f19_j2_t (pt Tryd.prog Lb 19 n) n s1 i2 s3 a4 n5 c6 z7 i8 i9 i10 i11 i12 σ) (f19_j2 (pt Tryd.prog Lb 19 n) s1 i2 s3 a4 n5 c6 z7 i8 i9 i10 i11 i12 σ) := by
  unfold f19_j2; exact goT_pt (f19_j2_g _ n s1 i2 s3 a4 n5 c6 z7 i8 i9 i10 i11 i12 σ)
noncomputable def f19_l3_t (L : Leaf) (n m0 : Nat) (s1 : List UInt8) (i2 : Int) (s3 : List UInt8) (a4 : Option (Nat × Nat)) (n5 : Nat) (c6 : Option Nat) (z7 : Nat) (i8 i9 i10 i11 i12 i13 : Int) (σ : St) : Out :=
 cond (decide (i8 ≤ (87 : Int))) (callT Tryd.prog Lb n 21 [.int .i64 i8] σ fun v15 σ14 =>
  xStr v15 fun s16 =>
  callT Tryd.prog Lb n 40 [.str s3, .str s16] σ14 fun v18 σ17 =>
  xTup v18 fun cs19 =>
  unC cs19 fun x20 r21 =>
  xStr x20 fun s22 =>
  unC r21 fun x23 r24 =>
  xBool x23 fun b25 =>
  nlC r24 <|
  cond (!b25) (f19_j4 L m0 s1 i2 s3 a4 n5 c6 z7 i8 i9 i10 i11 i12 i13 σ17) (f19_l5 L m0 n s1 i2 s3 a4 n5 c6 z7 i8 s22 [] [46, 114, 108] [46, 97, 113] [46, 97, 113, 114, 108] (0 : Int) i9 i10 i11 i12 i13 σ17)) (f19_j6 L i2 i9 i10 i11 i12 i13 σ)
theorem f19_l3_g (L : Leaf) (n : Nat) (m0 : Nat) (s1 : List UInt8) (i2 : Int) (s3 : List UInt8) (a4 : Option (Nat × Nat)) (n5 : Nat) (c6 : Option Nat) (z7 : Nat) (i8 i9 i10 i11 i12 i13 : Int) (σ : St) : goT Tryd.prog Lb 19 n L [[1, 1, 1, 1, 0, 1, 0, 0, 1, 1], [1, 1, 1, 1, 1]] [1, 1, 1, 1, 0, 1, 0] [m0 + 1] ⟨tm 94 [(0, .v (.str s1)), (2, .lp 2 0), (3, .v (.int .i64 i2)), (4, .v (.str s3)), (7, .v (.slice a4 n5 c6 z7)), (12, .v (.int .i64 i8))] 0, [(2, [.int .i64 i9, .int .i64 i10, .int .i64 i11, .int .i64 i12, .int .i64 i13])]⟩ σ = f19_l3_t L n m0 s1 i2 s3 a4 n5 c6 z7 i8 i9 i10 i11 i12 i13 σ := by kernel_rfl
theorem f19_l3_e {n : Nat} {m0 : Nat} {s1 : List UInt8} {i2 : Int} {s3 : List UInt8} {a4 : Option (Nat × Nat)} {n5 : Nat} {c6 : Option Nat} {z7 : Nat} {i8 i9 i10 i11 i12 i13 : Int} {σ : St} : Le (f19_l3_t (pt Tryd.prog Lb 19 n) n m0 s1 i2 s3 a4 n5 c6 z7 i8 i9 i10 i11 i12 i13 σ) (f19_l3 (pt Tryd.prog Lb 19 n) (m0 + 1) s1 i2 s3 a4 n5 c6 z7 i8 i9 i10 i11 i12 i13 σ) := by
  unfold f19_l3; exact goT_pt (f19_l3_g _ n m0 s1 i2 s3 a4 n5 c6 z7 i8 i9 i10 i11 i12 i13 σ)
noncomputable def f19_j4_t (L : Leaf) (_ m0 : Nat) (s1 : List UInt8) (i2 : Int) (s3 : List UInt8) (a4 : Option (Nat × Nat)) (n5 : Nat) (c6 : Option Nat) (z7 : Nat) (i8 i9 i10 i11 i12 i13 : Int) (σ : St) : Out :=
 f19_l3 L m0 s1 i2 s3 a4 n5 c6 z7 (IntKind.wrap .i64 (i8 + (1 : Int))) i9 i10 i11 i12 i13 σ
theorem f19_j4_g (L : Leaf) (n : Nat) (m0 : Nat) (s1 : List UInt8) (i2 : Int) (s3 : List UInt8) (a4 : Option (Nat × Nat)) (n5 : Nat) (c6 : Option Nat) (z7 : Nat) (i8 i9 i10 i11 i12 i13 : Int) (σ : St) : goT Tryd.prog Lb 19 n L [] [1, 1, 1, 1, 0, 1, 0, 0, 1, 1] [m0] ⟨tm 94 [(0, .v (.str s1)), (2, .lp 2 0), (3, .v (.int .i64 i2)), (4, .v (.str s3)), (7, .v (.slice a4 n5 c6 z7)), (12, .v (.int .i64 i8))] 0, [(2, [.int .i64 i9, .int .i64 i10, .int .i64 i11, .int .i64 i12, .int .i64 i13])]⟩ σ = f19_j4_t L n m0 s1 i2 s3 a4 n5 c6 z7 i8 i9 i10 i11 i12 i13 σ := by kernel_rfl
theorem f19_j4_e {n : Nat} {m0 : Nat} {s1 : List UInt8} {i2 : Int} {s3 : List UInt8} {a4 : Option (Nat × Nat)} {n5 : Nat} {c6 : Option Nat} {z7 : Nat} {i8 i9 i10 i11 i12 i13 : Int} {σ : St} : Le (f19_j4_t (pt Tryd.prog Lb 19 n) n m0 s1 i2 s3 a4 n5 c6 z7 i8 i9 i10 i11 i12 i13 σ) (f19_j4 (pt Tryd.prog Lb 19 n) m0 s1 i2 s3 a4 n5 c6 z7 i8 i9 i10 i11 i12 i13 σ) := by
  unfold f19_j4; exact goT_pt (f19_j4_g _ n m0 s1 i2 s3 a4 n5 c6 z7 i8 i9 i10 i11 i12 i13 σ)
noncomputable def f19_l5_t (L : Leaf) (n m0 m1 : Nat) (s1 : List UInt8) (i2 : Int) (s3 : List UInt8) (a4 : Option (Nat × Nat)) (n5 : Nat) (c6 : Option Nat) (z7 : Nat) (i8 : Int) (s9 s10 s11 s12 s13 : List UInt8) (i14 i15 i16 i17 i18 i19 : Int) (σ : St) : Out :=
 cond (decide (i14 < (4 : Int))) (idxK i14 4 <|
  partK Tryd.prog 9 [.str s10, .str s11, .str s12, .str s13] ((i14).toNat * 1) fun x20 =>
  xStr x20 fun s21 =>
  cond (!(s9 == s21)) (f19_l5 L m0 m1 s1 i2 s3 a4 n5 c6 z7 i8 s9 s10 s11 s12 s13 (IntKind.wrap .i64 (i14 + (1 : Int))) i15 i16 i17 i18 i19 σ) (stK (σ ++ [AObj.cells [.int .i64 (0 : Int), .int .i64 (0 : Int), .int .i64 (0 : Int), .int .i64 (0 : Int), .int .i64 (0 : Int)] (.rw none)] : St) σ.length 0 [.int .i64 i8, .int .i64 (0 : Int), .int .i64 (0 : Int), .int .i64 (0 : Int), .int .i64 (0 : Int)] fun σ22 =>
   callT Tryd.prog Lb n 23 [] σ22 fun v24 σ23 =>
   xAgg v24 fun cs25 =>
   idxK i8 88 <|
   partK Tryd.prog 57 cs25 ((i8).toNat * 4) fun x26 =>
   xAgg x26 fun cs27 =>
   unC cs27 fun x28 r29 =>
   xInt .u32 x28 fun i30 =>
   unC r29 fun x31 r32 =>
   xInt .u32 x31 fun _ =>
   unC r32 fun x34 r35 =>
   xInt .u32 x34 fun _ =>
   unC r35 fun x37 r38 =>
   xInt .u32 x37 fun _ =>
   nlC r38 <|
   callT Tryd.prog Lb n 41 [.ptr (some (σ.length, 0)), .int .u32 i30, .slice a4 n5 c6 z7] σ23 fun _ σ40 =>
   cond (i30 == (9 : Int)) (stK σ40 σ.length 4 [.int .i64 i14] fun σ42 =>
    f19_j7 L m0 m1 s1 i2 s3 a4 n5 c6 z7 i8 s9 σ.length 0 s10 s11 s12 s13 i14 i15 i16 i17 i18 i19 σ42) (f19_j7 L m0 m1 s1 i2 s3 a4 n5 c6 z7 i8 s9 σ.length 0 s10 s11 s12 s13 i14 i15 i16 i17 i18 i19 σ40))) (f19_j4 L m0 s1 i2 s3 a4 n5 c6 z7 i8 i15 i16 i17 i18 i19 σ)
theorem f19_l5_g (L : Leaf) (n : Nat) (m0 m1 : Nat) (s1 : List UInt8) (i2 : Int) (s3 : List UInt8) (a4 : Option (Nat × Nat)) (n5 : Nat) (c6 : Option Nat) (z7 : Nat) (i8 : Int) (s9 s10 s11 s12 s13 : List UInt8) (i14 i15 i16 i17 i18 i19 : Int) (σ : St) : goT Tryd.prog Lb 19 n L [[1, 1, 1, 1, 0, 1, 0, 0, 1, 0, 0, 1, 1, 1, 0, 0, 1, 1, 0, 0, 1, 1, 1, 1, 1, 1], [1, 1, 1, 1, 0, 1, 0, 0, 1, 1]] [1, 1, 1, 1, 0, 1, 0, 0, 1, 0, 0, 1, 1, 1, 0] [m0, m1 + 1] ⟨tm 94 [(0, .v (.str s1)), (2, .lp 2 0), (3, .v (.int .i64 i2)), (4, .v (.str s3)), (7, .v (.slice a4 n5 c6 z7)), (12, .v (.int .i64 i8)), (13, .v (.str s9)), (58, .v (.agg [.str s10, .str s11, .str s12, .str s13])), (59, .v (.int .i64 i14))] 0, [(2, [.int .i64 i15, .int .i64 i16, .int .i64 i17, .int .i64 i18, .int .i64 i19])]⟩ σ = f19_l5_t L n m0 m1 s1 i2 s3 a4 n5 c6 z7 i8 s9 s10 s11 s12 s13 i14 i15 i16 i17 i18 i19 σ := by kernel_rfl
theorem f19_l5_e {n : Nat} {m0 m1 : Nat} {s1 : List UInt8} {i2 : Int} {s3 : List UInt8} {a4 : Option (Nat × Nat)} {n5 : Nat} {c6 : Option Nat} {z7 : Nat} {i8 : Int} {s9 s10 s11 s12 s13 : List UInt8} {i14 i15 i16 i17 i18 i19 : Int} {σ : St} : Le (f19_l5_t (pt Tryd.prog Lb 19 n) n m0 m1 s1 i2 s3 a4 n5 c6 z7 i8 s9 s10 s11 s12 s13 i14 i15 i16 i17 i18 i19 σ) (f19_l5 (pt Tryd.prog Lb 19 n) m0 (m1 + 1) s1 i2 s3 a4 n5 c6 z7 i8 s9 s10 s11 s12 s13 i14 i15 i16 i17 i18 i19 σ) := by
  unfold f19_l5; exact goT_pt (f19_l5_g _ n m0 m1 s1 i2 s3 a4 n5 c6 z7 i8 s9 s10 s11 s12 s13 i14 i15 i16 i17 i18 i19 σ)
noncomputable def f19_j6_t (_ : Leaf) (_ : Nat) (_ _ _ _ _ _ : Int) (σ : St) : Out :=
 some (.ret (.tuple [.agg [.int .i64 (0 : Int), .int .i64 (0 : Int), .int .i64 (0 : Int), .int .i64 (0 : Int), .int .i64 (0 : Int)], .int .i64 (2 : Int)]), σ)
theorem f19_j6_g (L : Leaf) (n : Nat) (i1 i2 i3 i4 i5 i6 : Int) (σ : St) : goT Tryd.prog Lb 19 n L [] [1, 1, 1, 1, 1] [] ⟨tm 94 [(2, .lp 2 0), (3, .v (.int .i64 i1))] 0, [(2, [.int .i64 i2, .int .i64 i3, .int .i64 i4, .int .i64 i5, .int .i64 i6])]⟩ σ = f19_j6_t L n i1 i2 i3 i4 i5 i6 σ := by kernel_rfl
theorem f19_j6_e {n : Nat} {i1 i2 i3 i4 i5 i6 : Int} {σ : St} : Le (f19_j6_t (pt Tryd.prog Lb 19 n) n i1 i2 i3 i4 i5 i6 σ) (f19_j6 (pt Tryd.prog Lb 19 n) i1 i2 i3 i4 i5 i6 σ) := by
  unfold f19_j6; exact goT_pt (f19_j6_g _ n i1 i2 i3 i4 i5 i6 σ)
noncomputable def f19_j7_t (L : Leaf) (n m0 m1 : Nat) (s1 : List UInt8) (i2 : Int) (s3 : List UInt8) (a4 : Option (Nat × Nat)) (n5 : Nat) (c6 : Option Nat) (z7 : Nat) (i8 : Int) (s9 : List UInt8) (b10 o11 : Nat) (s12 s13 s14 s15 : List UInt8) (i16 i17 i18 i19 i20 i21 : Int) (σ : St) : Out :=
 ldK Tryd.prog 23 σ b10 o11 fun x22 =>
 xAgg x22 fun cs23 =>
 unC cs23 fun x24 r25 =>
 xInt .i64 x24 fun i26 =>
 unC r25 fun x27 r28 =>
 xInt .i64 x27 fun i29 =>
 unC r28 fun x30 r31 =>
 xInt .i64 x30 fun i32 =>
 unC r31 fun x33 r34 =>
 xInt .i64 x33 fun i35 =>
 unC r34 fun x36 r37 =>
 xInt .i64 x36 fun i38 =>
 nlC r37 <|
 callT Tryd.prog Lb n 17 [.agg [.int .i64 i26, .int .i64 i29, .int .i64 i32, .int .i64 i35, .int .i64 i38]] σ fun v40 σ39 =>
 xTup v40 fun cs41 =>
 unC cs41 fun x42 r43 =>
 xStr x42 fun s44 =>
 unC r43 fun x45 r46 =>
 xInt .i64 x45 fun i47 =>
 nlC r46 <|
 cond (i47 == (0 : Int)) (cond (s44 == s1) (ldK Tryd.prog 23 σ39 b10 o11 fun x48 =>
   xAgg x48 fun cs49 =>
   unC cs49 fun x50 r51 =>
   xInt .i64 x50 fun i52 =>
   unC r51 fun x53 r54 =>
   xInt .i64 x53 fun i55 =>
   unC r54 fun x56 r57 =>
   xInt .i64 x56 fun i58 =>
   unC r57 fun x59 r60 =>
   xInt .i64 x59 fun i61 =>
   unC r60 fun x62 r63 =>
   xInt .i64 x62 fun i64 =>
   nlC r63 <|
   some (.ret (.tuple [.agg [.int .i64 i52, .int .i64 i55, .int .i64 i58, .int .i64 i61, .int .i64 i64], .int .i64 (0 : Int)]), σ39)) (f19_l5 L m0 m1 s1 i2 s3 a4 n5 c6 z7 i8 s9 s12 s13 s14 s15 (IntKind.wrap .i64 (i16 + (1 : Int))) i17 i18 i19 i20 i21 σ39)) (f19_l5 L m0 m1 s1 i2 s3 a4 n5 c6 z7 i8 s9 s12 s13 s14 s15 (IntKind.wrap .i64 (i16 + (1 : Int))) i17 i18 i19 i20 i21 σ39)
theorem f19_j7_g (L : Leaf) (n : Nat) (m0 m1 : Nat) (s1 : List UInt8) (i2 : Int) (s3 : List UInt8) (a4 : Option (Nat × Nat)) (n5 : Nat) (c6 : Option Nat) (z7 : Nat) (i8 : Int) (s9 : List UInt8) (b10 o11 : Nat) (s12 s13 s14 s15 : List UInt8) (i16 i17 i18 i19 i20 i21 : Int) (σ : St) : goT Tryd.prog Lb 19 n L [] [1, 1, 1, 1, 0, 1, 0, 0, 1, 0, 0, 1, 1, 1, 0, 0, 1, 1, 0, 0, 1, 1, 1, 1, 1, 1] [m0, m1] ⟨tm 94 [(0, .v (.str s1)), (2, .lp 2 0), (3, .v (.int .i64 i2)), (4, .v (.str s3)), (7, .v (.slice a4 n5 c6 z7)), (12, .v (.int .i64 i8)), (13, .v (.str s9)), (17, .v (.ptr (some (b10, o11)))), (58, .v (.agg [.str s12, .str s13, .str s14, .str s15])), (59, .v (.int .i64 i16))] 0, [(2, [.int .i64 i17, .int .i64 i18, .int .i64 i19, .int .i64 i20, .int .i64 i21])]⟩ σ = f19_j7_t L n m0 m1 s1 i2 s3 a4 n5 c6 z7 i8 s9 b10 o11 s12 s13 s14 s15 i16 i17 i18 i19 i20 i21 σ := by kernel_rfl
theorem f19_j7_e {n : Nat} {m0 m1 : Nat} {s1 : List UInt8} {i2 : Int} {s3 : List UInt8} {a4 : Option (Nat × Nat)} {n5 : Nat} {c6 : Option Nat} {z7 : Nat} {i8 : Int} {s9 : List UInt8} {b10 o11 : Nat} {s12 s13 s14 s15 : List UInt8} {i16 i17 i18 i19 i20 i21 : Int} {σ : St} : Le (f19_j7_t (pt Tryd.prog Lb 19 n) n m0 m1 s1 i2 s3 a4 n5 c6 z7 i8 s9 b10 o11 s12 s13 s14 s15 i16 i17 i18 i19 i20 i21 σ) (f19_j7 (pt Tryd.prog Lb 19 n) m0 m1 s1 i2 s3 a4 n5 c6 z7 i8 s9 b10 o11 s12 s13 s14 s15 i16 i17 i18 i19 i20 i21 σ) := by
  unfold f19_j7; exact goT_pt (f19_j7_g _ n m0 m1 s1 i2 s3 a4 n5 c6 z7 i8 s9 b10 o11 s12 s13 s14 s15 i16 i17 i18 i19 i20 i21 σ)
/-! ### binnacle/binnacleref02.Parse(s) -/
noncomputable def f20_l1 (L : Leaf) (m0 : Nat) (s1 : List UInt8) (i2 : Int) (a3 : Option (Nat × Nat)) (n4 : Nat) (c5 : Option Nat) (z6 : Nat) (i7 i8 i9 i10 i11 i12 i13 i14 i15 : Int) (σ : St) : Out :=
  L [1, 1, 1, 1, 0, 1, 0] [m0] ⟨tm 142 [(0, .v (.str s1)), (2, .lp 2 0), (3, .v (.int .i64 i2)), (4, .v (.slice a3 n4 c5 z6)), (5, .ls 27 3), (6, .v (.int .i64 i7))] 0, [(2, [.int .i64 i8, .int .i64 i9, .int .i64 i10, .int .i64 i11, .int .i64 i12]), (27, [.int .i64 i13, .int .i64 i14, .int .i64 i15])]⟩ σ
noncomputable def f20_l2 (L : Leaf) (m0 : Nat) (s1 : List UInt8) (i2 : Int) (a3 : Option (Nat × Nat)) (n4 : Nat) (c5 : Option Nat) (z6 : Nat) (i7 i8 i9 i10 i11 i12 : Int) (cs13 : List AV) (σ : St) : Out :=
  L [1, 1, 1, 1, 0, 1, 0] [m0] ⟨tm 142 [(0, .v (.str s1)), (2, .lp 2 0), (3, .v (.int .i64 i2)), (4, .v (.slice a3 n4 c5 z6)), (5, .ls 27 3), (6, .v (.int .i64 i7))] 0, [(2, [.int .i64 i8, .int .i64 i9, .int .i64 i10, .int .i64 i11, .int .i64 i12]), (27, cs13)]⟩ σ
noncomputable def f20_j3 (L : Leaf) (s1 : List UInt8) (i2 i3 i4 i5 i6 i7 i8 i9 i10 : Int) (σ : St) : Out :=
  L [1, 1, 1, 1, 1] [] ⟨tm 142 [(0, .v (.str s1)), (2, .lp 2 0), (3, .v (.int .i64 i2)), (5, .ls 27 3)] 0, [(2, [.int .i64 i3, .int .i64 i4, .int .i64 i5, .int .i64 i6, .int .i64 i7]), (27, [.int .i64 i8, .int .i64 i9, .int .i64 i10])]⟩ σ
noncomputable def f20_j4 (L : Leaf) (s1 : List UInt8) (i2 i3 i4 i5 i6 i7 : Int) (cs8 : List AV) (σ : St) : Out :=
  L [1, 1, 1, 1, 1] [] ⟨tm 142 [(0, .v (.str s1)), (2, .lp 2 0), (3, .v (.int .i64 i2)), (5, .ls 27 3)] 0, [(2, [.int .i64 i3, .int .i64 i4, .int .i64 i5, .int .i64 i6, .int .i64 i7]), (27, cs8)]⟩ σ
noncomputable def f20_l5 (L : Leaf) (m0 : Nat) (s1 : List UInt8) (i2 i3 i4 i5 i6 i7 i8 i9 i10 i11 i12 i13 i14 : Int) (σ : St) : Out :=
  L [1, 1, 1, 1, 1, 1, 1, 1, 0, 1, 0] [m0] ⟨tm 142 [(0, .v (.str s1)), (2, .lp 2 0), (3, .v (.int .i64 i2)), (5, .ls 27 3), (7, .v (.int .i64 i3)), (8, .v (.int .i64 i4)), (9, .v (.int .i64 i5)), (10, .v (.int .i64 i6))] 0, [(2, [.int .i64 i7, .int .i64 i8, .int .i64 i9, .int .i64 i10, .int .i64 i11]), (27, [.int .i64 i12, .int .i64 i13, .int .i64 i14])]⟩ σ
noncomputable def f20_l6 (L : Leaf) (m0 : Nat) (s1 : List UInt8) (i2 i3 i4 i5 i6 i7 i8 i9 i10 i11 : Int) (cs12 : List AV) (σ : St) : Out :=
  L [1, 1, 1, 1, 1, 1, 1, 1, 0, 1, 0] [m0] ⟨tm 142 [(0, .v (.str s1)), (2, .lp 2 0), (3, .v (.int .i64 i2)), (5, .ls 27 3), (7, .v (.int .i64 i3)), (8, .v (.int .i64 i4)), (9, .v (.int .i64 i5)), (10, .v (.int .i64 i6))] 0, [(2, [.int .i64 i7, .int .i64 i8, .int .i64 i9, .int .i64 i10, .int .i64 i11]), (27, cs12)]⟩ σ
noncomputable def f20_l7 (L : Leaf) (m0 m1 : Nat) (s1 : List UInt8) (i2 i3 i4 i5 i6 : Int) (a7 : Option (Nat × Nat)) (n8 : Nat) (c9 : Option Nat) (z10 : Nat) (i11 i12 i13 i14 i15 i16 i17 i18 i19 : Int) (σ : St) : Out :=
  L [1, 1, 1, 1, 1, 1, 1, 1, 0, 1, 0, 0, 1, 0, 0, 1, 0, 1, 0] [m0, m1] ⟨tm 142 [(0, .v (.str s1)), (2, .lp 2 0), (3, .v (.int .i64 i2)), (5, .ls 27 3), (7, .v (.int .i64 i3)), (8, .v (.int .i64 i4)), (9, .v (.int .i64 i5)), (10, .v (.int .i64 i6)), (11, .v (.slice a7 n8 c9 z10)), (12, .v (.int .i64 i11))] 0, [(2, [.int .i64 i12, .int .i64 i13, .int .i64 i14, .int .i64 i15, .int .i64 i16]), (27, [.int .i64 i17, .int .i64 i18, .int .i64 i19])]⟩ σ
noncomputable def f20_j8 (L : Leaf) (i1 i2 i3 i4 i5 i6 : Int) (σ : St) : Out :=
  L [1, 1, 1, 1, 1, 1, 1, 1, 1] [] ⟨tm 142 [(2, .lp 2 0), (3, .v (.int .i64 i1))] 0, [(2, [.int .i64 i2, .int .i64 i3, .int .i64 i4, .int .i64 i5, .int .i64 i6])]⟩ σ
noncomputable def f20_l9 (L : Leaf) (m0 m1 : Nat) (s1 : List UInt8) (i2 i3 i4 i5 i6 : Int) (a7 : Option (Nat × Nat)) (n8 : Nat) (c9 : Option Nat) (z10 : Nat) (i11 i12 i13 i14 i15 i16 : Int) (cs17 : List AV) (σ : St) : Out :=
  L [1, 1, 1, 1, 1, 1, 1, 1, 0, 1, 0, 0, 1, 0, 0, 1, 0, 1, 0] [m0, m1] ⟨tm 142 [(0, .v (.str s1)), (2, .lp 2 0), (3, .v (.int .i64 i2)), (5, .ls 27 3), (7, .v (.int .i64 i3)), (8, .v (.int .i64 i4)), (9, .v (.int .i64 i5)), (10, .v (.int .i64 i6)), (11, .v (.slice a7 n8 c9 z10)), (12, .v (.int .i64 i11))] 0, [(2, [.int .i64 i12, .int .i64 i13, .int .i64 i14, .int .i64 i15, .int .i64 i16]), (27, cs17)]⟩ σ
noncomputable def f20_j10 (L : Leaf) (m0 : Nat) (s1 : List UInt8) (i2 i3 i4 i5 i6 : Int) (a7 : Option (Nat × Nat)) (n8 : Nat) (c9 : Option Nat) (z10 : Nat) (i11 i12 i13 i14 i15 i16 i17 i18 : Int) (σ : St) : Out :=
  L [1, 1, 1, 1, 1, 1, 1, 1, 0, 1, 0, 0, 1, 0, 0, 1, 1] [m0] ⟨tm 142 [(0, .v (.str s1)), (2, .lp 2 0), (3, .v (.int .i64 i2)), (5, .ls 27 3), (7, .v (.int .i64 i3)), (8, .v (.int .i64 i4)), (9, .v (.int .i64 i5)), (10, .v (.int .i64 i6)), (11, .v (.slice a7 n8 c9 z10))] 0, [(2, [.int .i64 i11, .int .i64 i12, .int .i64 i13, .int .i64 i14, .int .i64 i15]), (27, [.int .i64 i16, .int .i64 i17, .int .i64 i18])]⟩ σ
noncomputable def f20_j11 (L : Leaf) (m0 : Nat) (s1 : List UInt8) (i2 i3 i4 i5 i6 : Int) (a7 : Option (Nat × Nat)) (n8 : Nat) (c9 : Option Nat) (z10 : Nat) (i11 i12 i13 i14 i15 : Int) (cs16 : List AV) (σ : St) : Out :=
  L [1, 1, 1, 1, 1, 1, 1, 1, 0, 1, 0, 0, 1, 0, 0, 1, 1] [m0] ⟨tm 142 [(0, .v (.str s1)), (2, .lp 2 0), (3, .v (.int .i64 i2)), (5, .ls 27 3), (7, .v (.int .i64 i3)), (8, .v (.int .i64 i4)), (9, .v (.int .i64 i5)), (10, .v (.int .i64 i6)), (11, .v (.slice a7 n8 c9 z10))] 0, [(2, [.int .i64 i11, .int .i64 i12, .int .i64 i13, .int .i64 i14, .int .i64 i15]), (27, cs16)]⟩ σ
noncomputable def f20_l12 (L : Leaf) (m0 m1 : Nat) (s1 : List UInt8) (i2 i3 i4 i5 i6 : Int) (a7 : Option (Nat × Nat)) (n8 : Nat) (c9 : Option Nat) (z10 : Nat) (i11 i12 i13 i14 i15 i16 i17 i18 i19 : Int) (σ : St) : Out :=
  L [1, 1, 1, 1, 1, 1, 1, 1, 0, 1, 0, 0, 1, 0, 0, 1, 1, 1, 0] [m0, m1] ⟨tm 142 [(0, .v (.str s1)), (2, .lp 2 0), (3, .v (.int .i64 i2)), (5, .ls 27 3), (7, .v (.int .i64 i3)), (8, .v (.int .i64 i4)), (9, .v (.int .i64 i5)), (10, .v (.int .i64 i6)), (11, .v (.slice a7 n8 c9 z10)), (13, .v (.int .i64 i11))] 0, [(2, [.int .i64 i12, .int .i64 i13, .int .i64 i14, .int .i64 i15, .int .i64 i16]), (27, [.int .i64 i17, .int .i64 i18, .int .i64 i19])]⟩ σ
noncomputable def f20_l13 (L : Leaf) (m0 m1 : Nat) (s1 : List UInt8) (i2 i3 i4 i5 i6 : Int) (a7 : Option (Nat × Nat)) (n8 : Nat) (c9 : Option Nat) (z10 : Nat) (i11 i12 i13 i14 i15 i16 : Int) (cs17 : List AV) (σ : St) : Out :=
  L [1, 1, 1, 1, 1, 1, 1, 1, 0, 1, 0, 0, 1, 0, 0, 1, 1, 1, 0] [m0, m1] ⟨tm 142 [(0, .v (.str s1)), (2, .lp 2 0), (3, .v (.int .i64 i2)), (5, .ls 27 3), (7, .v (.int .i64 i3)), (8, .v (.int .i64 i4)), (9, .v (.int .i64 i5)), (10, .v (.int .i64 i6)), (11, .v (.slice a7 n8 c9 z10)), (13, .v (.int .i64 i11))] 0, [(2, [.int .i64 i12, .int .i64 i13, .int .i64 i14, .int .i64 i15, .int .i64 i16]), (27, cs17)]⟩ σ
noncomputable def f20_j14 (L : Leaf) (m0 : Nat) (s1 : List UInt8) (i2 i3 i4 i5 i6 i7 i8 i9 i10 i11 i12 i13 i14 : Int) (σ : St) : Out :=
  L [1, 1, 1, 1, 1, 1, 1, 1, 0, 1, 0, 0, 1, 1] [m0] ⟨tm 142 [(0, .v (.str s1)), (2, .lp 2 0), (3, .v (.int .i64 i2)), (5, .ls 27 3), (7, .v (.int .i64 i3)), (8, .v (.int .i64 i4)), (9, .v (.int .i64 i5)), (10, .v (.int .i64 i6))] 0, [(2, [.int .i64 i7, .int .i64 i8, .int .i64 i9, .int .i64 i10, .int .i64 i11]), (27, [.int .i64 i12, .int .i64 i13, .int .i64 i14])]⟩ σ
noncomputable def f20_j15 (L : Leaf) (m0 : Nat) (s1 : List UInt8) (i2 i3 i4 i5 i6 i7 i8 i9 i10 i11 : Int) (cs12 : List AV) (σ : St) : Out :=
  L [1, 1, 1, 1, 1, 1, 1, 1, 0, 1, 0, 0, 1, 1] [m0] ⟨tm 142 [(0, .v (.str s1)), (2, .lp 2 0), (3, .v (.int .i64 i2)), (5, .ls 27 3), (7, .v (.int .i64 i3)), (8, .v (.int .i64 i4)), (9, .v (.int .i64 i5)), (10, .v (.int .i64 i6))] 0, [(2, [.int .i64 i7, .int .i64 i8, .int .i64 i9, .int .i64 i10, .int .i64 i11]), (27, cs12)]⟩ σ
noncomputable def f20_t (L : Leaf) (n : Nat) (s1 : List UInt8) (σ : St) : Out :=
 callT Tryd.prog Lb n 42 [.str s1] σ fun v3 σ2 =>
 xSl v3 fun a4 n5 c6 z7 =>
 cond ((n5 : Int) == (0 : Int)) (some (.ret (.tuple [.agg [.int .i64 (0 : Int), .int .i64 (0 : Int), .int .i64 (0 : Int), .int .i64 (0 : Int), .int .i64 (0 : Int)], .int .i64 (2 : Int)]), σ2)) (cond (decide ((n5 : Int) > (4 : Int))) (some (.ret (.tuple [.agg [.int .i64 (0 : Int), .int .i64 (0 : Int), .int .i64 (0 : Int), .int .i64 (0 : Int), .int .i64 (0 : Int)], .int .i64 (2 : Int)]), σ2)) (f20_l1 L n s1 (0 : Int) a4 n5 c6 z7 (1 : Int) (0 : Int) (0 : Int) (0 : Int) (0 : Int) (0 : Int) (0 : Int) (0 : Int) (0 : Int) σ2))
theorem f20_g (L : Leaf) (n : Nat) (s1 : List UInt8) (σ : St) : goT Tryd.prog Lb 20 n L [] [] [] ⟨tm 142 [(0, .v (.str s1))] 0, []⟩ σ = f20_t L n s1 σ := by kernel_rfl
theorem f20_e {n : Nat} {s1 : List UInt8} {σ : St} : Le (f20_t (pt Tryd.prog Lb 20 n) n s1 σ) (callP Tryd.prog Lb (n + 1) 20 [.str s1] σ) :=
  goT_call (f20_g _ n s1 σ) rfl (by kernel_rfl) (by kernel_rfl)
noncomputable def f20_l1_t (L : Leaf) (n m0 : Nat) (s1 : List UInt8) (i2 : Int) (a3 : Option (Nat × Nat)) (n4 : Nat) (c5 : Option Nat) (z6 : Nat) (i7 i8 i9 i10 i11 i12 i13 i14 i15 : Int) (σ : St) : Out :=
 cond (decide (i7 < (n4 : Int))) (idxK i7 n4 <|
  derefK a3 fun b16 o17 =>
  szK z6 1 <|
  ldK Tryd.prog 9 σ b16 (o17 + ((i7).toNat * 1)) fun x18 =>
  xStr x18 fun s19 =>
  callT Tryd.prog Lb n 43 [.str s19] σ fun v21 σ20 =>
  xInt .i64 v21 fun i22 =>
  idxK (IntKind.wrap .i64 (i7 - (1 : Int))) 3 <|
  lstK [.int .i64 i13, .int .i64 i14, .int .i64 i15] (((IntKind.wrap .i64 (i7 - (1 : Int)))).toNat * 1) [.int .i64 i22] fun cs23 =>
  f20_l2 L m0 s1 i2 a3 n4 c5 z6 (IntKind.wrap .i64 (i7 + (1 : Int))) i8 i9 i10 i11 i12 cs23 σ20) (f20_j3 L s1 i2 i8 i9 i10 i11 i12 i13 i14 i15 σ)
theorem f20_l1_g (L : Leaf) (n : Nat) (m0 : Nat) (s1 : List UInt8) (i2 : Int) (a3 : Option (Nat × Nat)) (n4 : Nat) (c5 : Option Nat) (z6 : Nat) (i7 i8 i9 i10 i11 i12 i13 i14 i15 : Int) (σ : St) : goT Tryd.prog Lb 20 n L [[1, 1, 1, 1, 1]] [1, 1, 1, 1, 0, 1, 0] [m0 + 1] ⟨tm 142 [(0, .v (.str s1)), (2, .lp 2 0), (3, .v (.int .i64 i2)), (4, .v (.slice a3 n4 c5 z6)), (5, .ls 27 3), (6, .v (.int .i64 i7))] 0, [(2, [.int .i64 i8, .int .i64 i9, .int .i64 i10, .int .i64 i11, .int .i64 i12]), (27, [.int .i64 i13, .int .i64 i14, .int .i64 i15])]⟩ σ = f20_l1_t L n m0 s1 i2 a3 n4 c5 z6 i7 i8 i9 i10 i11 i12 i13 i14 i15 σ := by kernel_rfl
theorem f20_l1_e {n : Nat} {m0 : Nat} {s1 : List UInt8} {i2 : Int} {a3 : Option (Nat × Nat)} {n4 : Nat} {c5 : Option Nat} {z6 : Nat} {i7 i8 i9 i10 i11 i12 i13 i14 i15 : Int} {σ : St} : Le (f20_l1_t (pt Tryd.prog Lb 20 n) n m0 s1 i2 a3 n4 c5 z6 i7 i8 i9 i10 i11 i12 i13 i14 i15 σ) (f20_l1 (pt Tryd.prog Lb 20 n) (m0 + 1) s1 i2 a3 n4 c5 z6 i7 i8 i9 i10 i11 i12 i13 i14 i15 σ) := by
  unfold f20_l1; exact goT_pt (f20_l1_g _ n m0 s1 i2 a3 n4 c5 z6 i7 i8 i9 i10 i11 i12 i13 i14 i15 σ)
noncomputable def f20_l2_t (L : Leaf) (n m0 : Nat) (s1 : List UInt8) (i2 : Int) (a3 : Option (Nat × Nat)) (n4 : Nat) (c5 : Option Nat) (z6 : Nat) (i7 i8 i9 i10 i11 i12 : Int) (cs13 : List AV) (σ : St) : Out :=
 cond (decide (i7 < (n4 : Int))) (idxK i7 n4 <|
  derefK a3 fun b14 o15 =>
  szK z6 1 <|
  ldK Tryd.prog 9 σ b14 (o15 + ((i7).toNat * 1)) fun x16 =>
  xStr x16 fun s17 =>
  callT Tryd.prog Lb n 43 [.str s17] σ fun v19 σ18 =>
  xInt .i64 v19 fun i20 =>
  idxK (IntKind.wrap .i64 (i7 - (1 : Int))) 3 <|
  lstK cs13 (((IntKind.wrap .i64 (i7 - (1 : Int)))).toNat * 1) [.int .i64 i20] fun cs21 =>
  f20_l2 L m0 s1 i2 a3 n4 c5 z6 (IntKind.wrap .i64 (i7 + (1 : Int))) i8 i9 i10 i11 i12 cs21 σ18) (f20_j4 L s1 i2 i8 i9 i10 i11 i12 cs13 σ)
theorem f20_l2_g (L : Leaf) (n : Nat) (m0 : Nat) (s1 : List UInt8) (i2 : Int) (a3 : Option (Nat × Nat)) (n4 : Nat) (c5 : Option Nat) (z6 : Nat) (i7 i8 i9 i10 i11 i12 : Int) (cs13 : List AV) (σ : St) : goT Tryd.prog Lb 20 n L [[1, 1, 1, 1, 1]] [1, 1, 1, 1, 0, 1, 0] [m0 + 1] ⟨tm 142 [(0, .v (.str s1)), (2, .lp 2 0), (3, .v (.int .i64 i2)), (4, .v (.slice a3 n4 c5 z6)), (5, .ls 27 3), (6, .v (.int .i64 i7))] 0, [(2, [.int .i64 i8, .int .i64 i9, .int .i64 i10, .int .i64 i11, .int .i64 i12]), (27, cs13)]⟩ σ = f20_l2_t L n m0 s1 i2 a3 n4 c5 z6 i7 i8 i9 i10 i11 i12 cs13 σ := by kernel_rfl
theorem f20_l2_e {n : Nat} {m0 : Nat} {s1 : List UInt8} {i2 : Int} {a3 : Option (Nat × Nat)} {n4 : Nat} {c5 : Option Nat} {z6 : Nat} {i7 i8 i9 i10 i11 i12 : Int} {cs13 : List AV} {σ : St} : Le (f20_l2_t (pt Tryd.prog Lb 20 n) n m0 s1 i2 a3 n4 c5 z6 i7 i8 i9 i10 i11 i12 cs13 σ) (f20_l2 (pt Tryd.prog Lb 20 n) (m0 + 1) s1 i2 a3 n4 c5 z6 i7 i8 i9 i10 i11 i12 cs13 σ) := by
  unfold f20_l2; exact goT_pt (f20_l2_g _ n m0 s1 i2 a3 n4 c5 z6 i7 i8 i9 i10 i11 i12 cs13 σ)
noncomputable def f20_j3_t (L : Leaf) (n : Nat) (s1 : List UInt8) (i2 i3 i4 i5 i6 i7 i8 i9 i10 : Int) (σ : St) : Out :=
 f20_l5 L n s1 i2 i8 i9 i10 (1 : Int) i3 i4 i5 i6 i7 i8 i9 i10 σ
theorem f20_j3_g (L : Leaf) (n : Nat) (s1 : List UInt8) (i2 i3 i4 i5 i6 i7 i8 i9 i10 : Int) (σ : St) : goT Tryd.prog Lb 20 n L [] [1, 1, 1, 1, 1] [] ⟨tm 142 [(0, .v (.str s1)), (2, .lp 2 0), (3, .v (.int .i64 i2)), (5, .ls 27 3)] 0, [(2, [.int .i64 i3, .int .i64 i4, .int .i64 i5, .int .i64 i6, .int .i64 i7]), (27, [.int .i64 i8, .int .i64 i9, .int .i64 i10])]⟩ σ = f20_j3_t L n s1 i2 i3 i4 i5 i6 i7 i8 i9 i10 σ := by kernel_rfl
theorem f20_j3_e {n : Nat} {s1 : List UInt8} {i2 i3 i4 i5 i6 i7 i8 i9 i10 : Int} {σ : St} : Le (f20_j3_t (pt Tryd.prog Lb 20 n) n s1 i2 i3 i4 i5 i6 i7 i8 i9 i10 σ) (f20_j3 (pt Tryd.prog Lb 20 n) s1 i2 i3 i4 i5 i6 i7 i8 i9 i10 σ) := by
  unfold f20_j3; exact goT_pt (f20_j3_g _ n s1 i2 i3 i4 i5 i6 i7 i8 i9 i10 σ)
noncomputable def f20_j4_t (L : Leaf) (n : Nat) (s1 : List UInt8) (i2 i3 i4 i5 i6 i7 : Int) (cs8 : List AV) (σ : St) : Out :=
 partK Tryd.prog 2 cs8 0 fun x9 =>
 xInt .i64 x9 fun i10 =>
 partK Tryd.prog 2 cs8 1 fun x11 =>
 xInt .i64 x11 fun i12 =>
 partK Tryd.prog 2 cs8 2 fun x13 =>
 xInt .i64 x13 fun i14 =>
 f20_l6 L n s1 i2 i10 i12 i14 (1 : Int) i3 i4 i5 i6 i7 cs8 σ
theorem f20_j4_g (L : Leaf) (n : Nat) (s1 : List UInt8) (i2 i3 i4 i5 i6 i7 : Int) (cs8 : List AV) (σ : St) : goT Tryd.prog Lb 20 n L [] [1, 1, 1, 1, 1] [] ⟨tm 142 [(0, .v (.str s1)), (2, .lp 2 0), (3, .v (.int .i64 i2)), (5, .ls 27 3)] 0, [(2, [.int .i64 i3, .int .i64 i4, .int .i64 i5, .int .i64 i6, .int .i64 i7]), (27, cs8)]⟩ σ = f20_j4_t L n s1 i2 i3 i4 i5 i6 i7 cs8 σ := by kernel_rfl
theorem f20_j4_e {n : Nat} {s1 : List UInt8} {i2 i3 i4 i5 i6 i7 : Int} {cs8 : List AV} {σ : St} : Le (f20_j4_t (pt Tryd.prog Lb 20 n) n s1 i2 i3 i4 i5 i6 i7 cs8 σ) (f20_j4 (pt Tryd.prog Lb 20 n) s1 i2 i3 i4 i5 i6 i7 cs8 σ) := by
  unfold f20_j4; exact goT_pt (f20_j4_g _ n s1 i2 i3 i4 i5 i6 i7 cs8 σ)
noncomputable def f20_l5_t (L : Leaf) (n m0 : Nat) (s1 : List UInt8) (i2 i3 i4 i5 i6 i7 i8 i9 i10 i11 i12 i13 i14 : Int) (σ : St) : Out :=
 cond (decide (i6 ≤ (87 : Int))) (f20_l7 L m0 n s1 i2 i3 i4 i5 i6 (some (σ.length, 0)) 7 (some 7) 5 (0 : Int) i7 i8 i9 i10 i11 i12 i13 i14 (σ ++ [AObj.cells [.int .i64 i6, .int .i64 (0 : Int), .int .i64 (0 : Int), .int .i64 (0 : Int), .int .i64 (0 : Int), .int .i64 i6, .int .i64 i3, .int .i64 (0 : Int), .int .i64 (0 : Int), .int .i64 i13, .int .i64 i6, .int .i64 i3, .int .i64 i4, .int .i64 (0 : Int), .int .i64 i14, .int .i64 i6, .int .i64 i3, .int .i64 i5, .int .i64 (0 : Int), .int .i64 i13, .int .i64 i6, .int .i64 (0 : Int), .int .i64 i3, .int .i64 i4, .int .i64 i14, .int .i64 i6, .int .i64 (0 : Int), .int .i64 i5, .int .i64 i3, .int .i64 i13, .int .i64 i6, .int .i64 i3, .int .i64 i4, .int .i64 i5, .int .i64 (0 : Int)] (.rw (some 23))] : St)) (f20_j8 L i2 i7 i8 i9 i10 i11 σ)
theorem f20_l5_g (L : Leaf) (n : Nat) (m0 : Nat) (s1 : List UInt8) (i2 i3 i4 i5 i6 i7 i8 i9 i10 i11 i12 i13 i14 : Int) (σ : St) : goT Tryd.prog Lb 20 n L [[1, 1, 1, 1, 1, 1, 1, 1, 1]] [1, 1, 1, 1, 1, 1, 1, 1, 0, 1, 0] [m0 + 1] ⟨tm 142 [(0, .v (.str s1)), (2, .lp 2 0), (3, .v (.int .i64 i2)), (5, .ls 27 3), (7, .v (.int .i64 i3)), (8, .v (.int .i64 i4)), (9, .v (.int .i64 i5)), (10, .v (.int .i64 i6))] 0, [(2, [.int .i64 i7, .int .i64 i8, .int .i64 i9, .int .i64 i10, .int .i64 i11]), (27, [.int .i64 i12, .int .i64 i13, .int .i64 i14])]⟩ σ = f20_l5_t L n m0 s1 i2 i3 i4 i5 i6 i7 i8 i9 i10 i11 i12 i13 i14 σ := by kernel_rfl
theorem f20_l5_e {n : Nat} {m0 : Nat} {s1 : List UInt8} {i2 i3 i4 i5 i6 i7 i8 i9 i10 i11 i12 i13 i14 : Int} {σ : St} : Le (f20_l5_t (pt Tryd.prog Lb 20 n) n m0 s1 i2 i3 i4 i5 i6 i7 i8 i9 i10 i11 i12 i13 i14 σ) (f20_l5 (pt Tryd.prog Lb 20 n) (m0 + 1) s1 i2 i3 i4 i5 i6 i7 i8 i9 i10 i11 i12 i13 i14 σ) := by
  unfold f20_l5; exact goT_pt (f20_l5_g _ n m0 s1 i2 i3 i4 i5 i6 i7 i8 i9 i10 i11 i12 i13 i14 σ)
noncomputable def f20_l6_t (L : Leaf) (n m0 : Nat) (s1 : List UInt8) (i2 i3 i4 i5 i6 i7 i8 i9 i10 i11 : Int) (cs12 : List AV) (σ : St) : Out :=
 cond (decide (i6 ≤ (87 : Int))) (partK Tryd.prog 2 cs12 1 fun x13 =>
  xInt .i64 x13 fun i14 =>
  partK Tryd.prog 2 cs12 2 fun x15 =>
  xInt .i64 x15 fun i16 =>
  partK Tryd.prog 2 cs12 1 fun x17 =>
  xInt .i64 x17 fun i18 =>
  partK Tryd.prog 2 cs12 2 fun x19 =>
  xInt .i64 x19 fun i20 =>
  partK Tryd.prog 2 cs12 1 fun x21 =>
  xInt .i64 x21 fun i22 =>
  f20_l9 L m0 n s1 i2 i3 i4 i5 i6 (some (σ.length, 0)) 7 (some 7) 5 (0 : Int) i7 i8 i9 i10 i11 cs12 (σ ++ [AObj.cells [.int .i64 i6, .int .i64 (0 : Int), .int .i64 (0 : Int), .int .i64 (0 : Int), .int .i64 (0 : Int), .int .i64 i6, .int .i64 i3, .int .i64 (0 : Int), .int .i64 (0 : Int), .int .i64 i14, .int .i64 i6, .int .i64 i3, .int .i64 i4, .int .i64 (0 : Int), .int .i64 i16, .int .i64 i6, .int .i64 i3, .int .i64 i5, .int .i64 (0 : Int), .int .i64 i18, .int .i64 i6, .int .i64 (0 : Int), .int .i64 i3, .int .i64 i4, .int .i64 i20, .int .i64 i6, .int .i64 (0 : Int), .int .i64 i5, .int .i64 i3, .int .i64 i22, .int .i64 i6, .int .i64 i3, .int .i64 i4, .int .i64 i5, .int .i64 (0 : Int)] (.rw (some 23))] : St)) (f20_j8 L i2 i7 i8 i9 i10 i11 σ)
theorem f20_l6_g (L : Leaf) (n : Nat) (m0 : Nat) (s1 : List UInt8) (i2 i3 i4 i5 i6 i7 i8 i9 i10 i11 : Int) (cs12 : List AV) (σ : St) : goT Tryd.prog Lb 20 n L [[1, 1, 1, 1, 1, 1, 1, 1, 1]] [1, 1, 1, 1, 1, 1, 1, 1, 0, 1, 0] [m0 + 1] ⟨tm 142 [(0, .v (.str s1)), (2, .lp 2 0), (3, .v (.int .i64 i2)), (5, .ls 27 3), (7, .v (.int .i64 i3)), (8, .v (.int .i64 i4)), (9, .v (.int .i64 i5)), (10, .v (.int .i64 i6))] 0, [(2, [.int .i64 i7, .int .i64 i8, .int .i64 i9, .int .i64 i10, .int .i64 i11]), (27, cs12)]⟩ σ = f20_l6_t L n m0 s1 i2 i3 i4 i5 i6 i7 i8 i9 i10 i11 cs12 σ := by kernel_rfl
theorem f20_l6_e {n : Nat} {m0 : Nat} {s1 : List UInt8} {i2 i3 i4 i5 i6 i7 i8 i9 i10 i11 : Int} {cs12 : List AV} {σ : St} : Le (f20_l6_t (pt Tryd.prog Lb 20 n) n m0 s1 i2 i3 i4 i5 i6 i7 i8 i9 i10 i11 cs12 σ) (f20_l6 (pt Tryd.prog Lb 20 n) (m0 + 1) s1 i2 i3 i4 i5 i6 i7 i8 i9 i10 i11 cs12 σ) := by
  unfold f20_l6; exact goT_pt (f20_l6_g _ n m0 s1 i2 i3 i4 i5 i6 i7 i8 i9 i10 i11 cs12 σ)
noncomputable def f20_l7_t (L : Leaf) (_ m0 m1 : Nat) (s1 : List UInt8) (i2 i3 i4 i5 i6 : Int) (a7 : Option (Nat × Nat)) (n8 : Nat) (c9 : Option Nat) (z10 : Nat) (i11 i12 i13 i14 i15 i16 i17 i18 i19 : Int) (σ : St) : Out :=
 cond (decide (i11 < (4 : Int))) (appK σ 23 5 40 a7 n8 z10 2 [.int .i64 i6, .int .i64 i3, .int .i64 i5, .int .i64 i4, .int .i64 i11, .int .i64 i6, .int .i64 i3, .int .i64 i4, .int .i64 (0 : Int), .int .i64 i11] fun a20 n21 c22 σ23 =>
  f20_l7 L m0 m1 s1 i2 i3 i4 i5 i6 a20 n21 c22 5 (IntKind.wrap .i64 (i11 + (1 : Int))) i12 i13 i14 i15 i16 i17 i18 i19 σ23) (f20_j10 L m0 s1 i2 i3 i4 i5 i6 a7 n8 c9 z10 i12 i13 i14 i15 i16 i17 i18 i19 σ)
theorem f20_l7_g (L : Leaf) (n : Nat) (m0 m1 : Nat) (s1 : List UInt8) (i2 i3 i4 i5 i6 : Int) (a7 : Option (Nat × Nat)) (n8 : Nat) (c9 : Option Nat) (z10 : Nat) (i11 i12 i13 i14 i15 i16 i17 i18 i19 : Int) (σ : St) : goT Tryd.prog Lb 20 n L [[1, 1, 1, 1, 1, 1, 1, 1, 0, 1, 0, 0, 1, 0, 0, 1, 1]] [1, 1, 1, 1, 1, 1, 1, 1, 0, 1, 0, 0, 1, 0, 0, 1, 0, 1, 0] [m0, m1 + 1] ⟨tm 142 [(0, .v (.str s1)), (2, .lp 2 0), (3, .v (.int .i64 i2)), (5, .ls 27 3), (7, .v (.int .i64 i3)), (8, .v (.int .i64 i4)), (9, .v (.int .i64 i5)), (10, .v (.int .i64 i6)), (11, .v (.slice a7 n8 c9 z10)), (12, .v (.int .i64 i11))] 0, [(2, [.int .i64 i12, .int .i64 i13, .int .i64 i14, .int .i64 i15, .int .i64 i16]), (27, [.int .i64 i17, .int .i64 i18, .int .i64 i19])]⟩ σ = f20_l7_t L n m0 m1 s1 i2 i3 i4 i5 i6 a7 n8 c9 z10 i11 i12 i13 i14 i15 i16 i17 i18 i19 σ := by kernel_rfl
theorem f20_l7_e {n : Nat} {m0 m1 : Nat} {s1 : List UInt8} {i2 i3 i4 i5 i6 : Int} {a7 : Option (Nat × Nat)} {n8 : Nat} {c9 : Option Nat} {z10 : Nat} {i11 i12 i13 i14 i15 i16 i17 i18 i19 : Int} {σ : St} : Le (f20_l7_t (pt Tryd.prog Lb 20 n) n m0 m1 s1 i2 i3 i4 i5 i6 a7 n8 c9 z10 i11 i12 i13 i14 i15 i16 i17 i18 i19 σ) (f20_l7 (pt Tryd.prog Lb 20 n) m0 (m1 + 1) s1 i2 i3 i4 i5 i6 a7 n8 c9 z10 i11 i12 i13 i14 i15 i16 i17 i18 i19 σ) := by
  unfold f20_l7; exact goT_pt (f20_l7_g _ n m0 m1 s1 i2 i3 i4 i5 i6 a7 n8 c9 z10 i11 i12 i13 i14 i15 i16 i17 i18 i19 σ)
noncomputable def f20_j8_t (_ : Leaf) (_ : Nat) (_ _ _ _ _ _ : Int) (σ : St) : Out :=
 some (.ret (.tuple [.agg [.int .i64 (0 : Int), .int .i64 (0 : Int), .int .i64 (0 : Int), .int .i64 (0 : Int), .int .i64 (0 : Int)], .int .i64 (2 : Int)]), σ)
theorem f20_j8_g (L : Leaf) (n : Nat) (i1 i2 i3 i4 i5 i6 : Int) (σ : St) : goT Tryd.prog Lb 20 n L [] [1, 1, 1, 1, 1, 1, 1, 1, 1] [] ⟨tm 142 [(2, .lp 2 0), (3, .v (.int .i64 i1))] 0, [(2, [.int .i64 i2, .int .i64 i3, .int .i64 i4, .int .i64 i5, .int .i64 i6])]⟩ σ = f20_j8_t L n i1 i2 i3 i4 i5 i6 σ := by kernel_rfl
theorem f20_j8_e {n : Nat} {i1 i2 i3 i4 i5 i6 : Int} {σ : St} : Le (f20_j8_t (pt Tryd.prog Lb 20 n) n i1 i2 i3 i4 i5 i6 σ) (f20_j8 (pt Tryd.prog Lb 20 n) i1 i2 i3 i4 i5 i6 σ) := by
  unfold f20_j8; exact goT_pt (f20_j8_g _ n i1 i2 i3 i4 i5 i6 σ)
noncomputable def f20_l9_t (L : Leaf) (_ m0 m1 : Nat) (s1 : List UInt8) (i2 i3 i4 i5 i6 : Int) (a7 : Option (Nat × Nat)) (n8 : Nat) (c9 : Option Nat) (z10 : Nat) (i11 i12 i13 i14 i15 i16 : Int) (cs17 : List AV) (σ : St) : Out :=
 cond (decide (i11 < (4 : Int))) (appK σ 23 5 40 a7 n8 z10 2 [.int .i64 i6, .int .i64 i3, .int .i64 i5, .int .i64 i4, .int .i64 i11, .int .i64 i6, .int .i64 i3, .int .i64 i4, .int .i64 (0 : Int), .int .i64 i11] fun a18 n19 c20 σ21 =>
  f20_l9 L m0 m1 s1 i2 i3 i4 i5 i6 a18 n19 c20 5 (IntKind.wrap .i64 (i11 + (1 : Int))) i12 i13 i14 i15 i16 cs17 σ21) (f20_j11 L m0 s1 i2 i3 i4 i5 i6 a7 n8 c9 z10 i12 i13 i14 i15 i16 cs17 σ)
theorem f20_l9_g (L : Leaf) (n : Nat) (m0 m1 : Nat) (s1 : List UInt8) (i2 i3 i4 i5 i6 : Int) (a7 : Option (Nat × Nat)) (n8 : Nat) (c9 : Option Nat) (z10 : Nat) (i11 i12 i13 i14 i15 i16 : Int) (cs17 : List AV) (σ : St) : goT Tryd.prog Lb 20 n L [[1, 1, 1, 1, 1, 1, 1, 1, 0, 1, 0, 0, 1, 0, 0, 1, 1]] [1, 1, 1, 1, 1, 1, 1, 1, 0, 1, 0, 0, 1, 0, 0, 1, 0, 1, 0] [m0, m1 + 1] ⟨tm 142 [(0, .v (.str s1)), (2, .lp 2 0), (3, .v (.int .i64 i2)), (5, .ls 27 3), (7, .v (.int .i64 i3)), (8, .v (.int .i64 i4)), (9, .v (.int .i64 i5)), (10, .v (.int .i64 i6)), (11, .v (.slice a7 n8 c9 z10)), (12, .v (.int .i64 i11))] 0, [(2, [.int .i64 i12, .int .i64 i13, .int .i64 i14, .int .i64 i15, .int .i64 i16]), (27, cs17)]⟩ σ = f20_l9_t L n m0 m1 s1 i2 i3 i4 i5 i6 a7 n8 c9 z10 i11 i12 i13 i14 i15 i16 cs17 σ := by kernel_rfl
theorem f20_l9_e {n : Nat} {m0 m1 : Nat} {s1 : List UInt8} {i2 i3 i4 i5 i6 : Int} {a7 : Option (Nat × Nat)} {n8 : Nat} {c9 : Option Nat} {z10 : Nat} {i11 i12 i13 i14 i15 i16 : Int} {cs17 : List AV} {σ : St} : Le (f20_l9_t (pt Tryd.prog Lb 20 n) n m0 m1 s1 i2 i3 i4 i5 i6 a7 n8 c9 z10 i11 i12 i13 i14 i15 i16 cs17 σ) (f20_l9 (pt Tryd.prog Lb 20 n) m0 (m1 + 1) s1 i2 i3 i4 i5 i6 a7 n8 c9 z10 i11 i12 i13 i14 i15 i16 cs17 σ) := by
  unfold f20_l9; exact goT_pt (f20_l9_g _ n m0 m1 s1 i2 i3 i4 i5 i6 a7 n8 c9 z10 i11 i12 i13 i14 i15 i16 cs17 σ)
noncomputable def f20_j10_t (L : Leaf) (n m0 : Nat) (s1 : List UInt8) (i2 i3 i4 i5 i6 : Int) (a7 : Option (Nat × Nat)) (n8 : Nat) (c9 : Option Nat) (z10 : Nat) (i11 i12 i13 i14 i15 i16 i17 i18 : Int) (σ : St) : Out :=
 f20_l12 L m0 n s1 i2 i3 i4 i5 i6 a7 n8 c9 z10 (0 : Int) i11 i12 i13 i14 i15 i16 i17 i18 σ
theorem f20_j10_g (L : Leaf) (n : Nat) (m0 : Nat) (s1 : List UInt8) (i2 i3 i4 i5 i6 : Int) (a7 : Option (Nat × Nat)) (n8 : Nat) (c9 : Option Nat) (z10 : Nat) (i11 i12 i13 i14 i15 i16 i17 i18 : Int) (σ : St) : goT Tryd.prog Lb 20 n L [] [1, 1, 1, 1, 1, 1, 1, 1, 0, 1, 0, 0, 1, 0, 0, 1, 1] [m0] ⟨tm 142 [(0, .v (.str s1)), (2, .lp 2 0), (3, .v (.int .i64 i2)), (5, .ls 27 3), (7, .v (.int .i64 i3)), (8, .v (.int .i64 i4)), (9, .v (.int .i64 i5)), (10, .v (.int .i64 i6)), (11, .v (.slice a7 n8 c9 z10))] 0, [(2, [.int .i64 i11, .int .i64 i12, .int .i64 i13, .int .i64 i14, .int .i64 i15]), (27, [.int .i64 i16, .int .i64 i17, .int .i64 i18])]⟩ σ = f20_j10_t L n m0 s1 i2 i3 i4 i5 i6 a7 n8 c9 z10 i11 i12 i13 i14 i15 i16 i17 i18 σ := by kernel_rfl
theorem f20_j10_e {n : Nat} {m0 : Nat} {s1 : List UInt8} {i2 i3 i4 i5 i6 : Int} {a7 : Option (Nat × Nat)} {n8 : Nat} {c9 : Option Nat} {z10 : Nat} {i11 i12 i13 i14 i15 i16 i17 i18 : Int} {σ : St} : Le (f20_j10_t (pt Tryd.prog Lb 20 n) n m0 s1 i2 i3 i4 i5 i6 a7 n8 c9 z10 i11 i12 i13 i14 i15 i16 i17 i18 σ) (f20_j10 (pt Tryd.prog Lb 20 n) m0 s1 i2 i3 i4 i5 i6 a7 n8 c9 z10 i11 i12 i13 i14 i15 i16 i17 i18 σ) := by
  unfold f20_j10; exact goT_pt (f20_j10_g _ n m0 s1 i2 i3 i4 i5 i6 a7 n8 c9 z10 i11 i12 i13 i14 i15 i16 i17 i18 σ)
noncomputable def f20_j11_t (L : Leaf) (n m0 : Nat) (s1 : List UInt8) (i2 i3 i4 i5 i6 : Int) (a7 : Option (Nat × Nat)) (n8 : Nat) (c9 : Option Nat) (z10 : Nat) (i11 i12 i13 i14 i15 : Int) (cs16 : List AV) (σ : St) : Out :=
 f20_l13 L m0 n s1 i2 i3 i4 i5 i6 a7 n8 c9 z10 (0 : Int) i11 i12 i13 i14 i15 cs16 σ
theorem f20_j11_g (L : Leaf) (n : Nat) (m0 : Nat) (s1 : List UInt8) (i2 i3 i4 i5 i6 : Int) (a7 : Option (Nat × Nat)) (n8 : Nat) (c9 : Option Nat) (z10 : Nat) (i11 i12 i13 i14 i15 : Int) (cs16 : List AV) (σ : St) : goT Tryd.prog Lb 20 n L [] [1, 1, 1, 1, 1, 1, 1, 1, 0, 1, 0, 0, 1, 0, 0, 1, 1] [m0] ⟨tm 142 [(0, .v (.str s1)), (2, .lp 2 0), (3, .v (.int .i64 i2)), (5, .ls 27 3), (7, .v (.int .i64 i3)), (8, .v (.int .i64 i4)), (9, .v (.int .i64 i5)), (10, .v (.int .i64 i6)), (11, .v (.slice a7 n8 c9 z10))] 0, [(2, [.int .i64 i11, .int .i64 i12, .int .i64 i13, .int .i64 i14, .int .i64 i15]), (27, cs16)]⟩ σ = f20_j11_t L n m0 s1 i2 i3 i4 i5 i6 a7 n8 c9 z10 i11 i12 i13 i14 i15 cs16 σ := by kernel_rfl
theorem f20_j11_e {n : Nat} {m0 : Nat} {s1 : List UInt8} {i2 i3 i4 i5 i6 : Int} {a7 : Option (Nat × Nat)} {n8 : Nat} {c9 : Option Nat} {z10 : Nat} {i11 i12 i13 i14 i15 : Int} {cs16 : List AV} {σ : St} : Le (f20_j11_t (pt Tryd.prog Lb 20 n) n m0 s1 i2 i3 i4 i5 i6 a7 n8 c9 z10 i11 i12 i13 i14 i15 cs16 σ) (f20_j11 (pt Tryd.prog Lb 20 n) m0 s1 i2 i3 i4 i5 i6 a7 n8 c9 z10 i11 i12 i13 i14 i15 cs16 σ) := by
  unfold f20_j11; exact goT_pt (f20_j11_g _ n m0 s1 i2 i3 i4 i5 i6 a7 n8 c9 z10 i11 i12 i13 i14 i15 cs16 σ)
noncomputable def f20_l12_t (L : Leaf) (n m0 m1 : Nat) (s1 : List UInt8) (i2 i3 i4 i5 i6 : Int) (a7 : Option (Nat × Nat)) (n8 : Nat) (c9 : Option Nat) (z10 : Nat) (i11 i12 i13 i14 i15 i16 i17 i18 i19 : Int) (σ : St) : Out :=
 cond (decide (i11 < (n8 : Int))) (idxK i11 n8 <|
  derefK a7 fun b20 o21 =>
  szK z10 5 <|
  ldK Tryd.prog 23 σ b20 (o21 + ((i11).toNat * 5)) fun x22 =>
  xAgg x22 fun cs23 =>
  unC cs23 fun x24 r25 =>
  xInt .i64 x24 fun i26 =>
  unC r25 fun x27 r28 =>
  xInt .i64 x27 fun i29 =>
  unC r28 fun x30 r31 =>
  xInt .i64 x30 fun i32 =>
  unC r31 fun x33 r34 =>
  xInt .i64 x33 fun i35 =>
  unC r34 fun x36 r37 =>
  xInt .i64 x36 fun i38 =>
  nlC r37 <|
  callT Tryd.prog Lb n 18 [.agg [.int .i64 i26, .int .i64 i29, .int .i64 i32, .int .i64 i35, .int .i64 i38]] σ fun v40 σ39 =>
  xTup v40 fun cs41 =>
  unC cs41 fun x42 r43 =>
  xStr x42 fun s44 =>
  unC r43 fun x45 r46 =>
  xInt .i64 x45 fun i47 =>
  nlC r46 <|
  cond (i47 == (0 : Int)) (cond (s44 == s1) (idxK i11 n8 <|
    derefK a7 fun b48 o49 =>
    szK z10 5 <|
    ldK Tryd.prog 23 σ39 b48 (o49 + ((i11).toNat * 5)) fun x50 =>
    xAgg x50 fun cs51 =>
    unC cs51 fun x52 r53 =>
    xInt .i64 x52 fun i54 =>
    unC r53 fun x55 r56 =>
    xInt .i64 x55 fun i57 =>
    unC r56 fun x58 r59 =>
    xInt .i64 x58 fun i60 =>
    unC r59 fun x61 r62 =>
    xInt .i64 x61 fun i63 =>
    unC r62 fun x64 r65 =>
    xInt .i64 x64 fun i66 =>
    nlC r65 <|
    some (.ret (.tuple [.agg [.int .i64 i54, .int .i64 i57, .int .i64 i60, .int .i64 i63, .int .i64 i66], .int .i64 (0 : Int)]), σ39)) (f20_l12 L m0 m1 s1 i2 i3 i4 i5 i6 a7 n8 c9 z10 (IntKind.wrap .i64 (i11 + (1 : Int))) i12 i13 i14 i15 i16 i17 i18 i19 σ39)) (f20_l12 L m0 m1 s1 i2 i3 i4 i5 i6 a7 n8 c9 z10 (IntKind.wrap .i64 (i11 + (1 : Int))) i12 i13 i14 i15 i16 i17 i18 i19 σ39)) (f20_j14 L m0 s1 i2 i3 i4 i5 i6 i12 i13 i14 i15 i16 i17 i18 i19 σ)
theorem f20_l12_g (L : Leaf) (n : Nat) (m0 m1 : Nat) (s1 : List UInt8) (i2 i3 i4 i5 i6 : Int) (a7 : Option (Nat × Nat)) (n8 : Nat) (c9 : Option Nat) (z10 : Nat) (i11 i12 i13 i14 i15 i16 i17 i18 i19 : Int) (σ : St) : goT Tryd.prog Lb 20 n L [[1, 1, 1, 1, 1, 1, 1, 1, 0, 1, 0, 0, 1, 1]] [1, 1, 1, 1, 1, 1, 1, 1, 0, 1, 0, 0, 1, 0, 0, 1, 1, 1, 0] [m0, m1 + 1] ⟨tm 142 [(0, .v (.str s1)), (2, .lp 2 0), (3, .v (.int .i64 i2)), (5, .ls 27 3), (7, .v (.int .i64 i3)), (8, .v (.int .i64 i4)), (9, .v (.int .i64 i5)), (10, .v (.int .i64 i6)), (11, .v (.slice a7 n8 c9 z10)), (13, .v (.int .i64 i11))] 0, [(2, [.int .i64 i12, .int .i64 i13, .int .i64 i14, .int .i64 i15, .int .i64 i16]), (27, [.int .i64 i17, .int .i64 i18, .int .i64 i19])]⟩ σ = f20_l12_t L n m0 m1 s1 i2 i3 i4 i5 i6 a7 n8 c9 z10 i11 i12 i13 i14 i15 i16 i17 i18 i19 σ := by kernel_rfl
theorem f20_l12_e {n : Nat} {m0 m1 : Nat} {s1 : List UInt8} {i2 i3 i4 i5 i6 : Int} {a7 : Option (Nat × Nat)} {n8 : Nat} {c9 : Option Nat} {z10 : Nat} {i11 i12 i13 i14 i15 i16 i17 i18 i19 : Int} {σ : St} : Le (f20_l12_t (pt Tryd.prog Lb 20 n) n m0 m1 s1 i2 i3 i4 i5 i6 a7 n8 c9 z10 i11 i12 i13 i14 i15 i16 i17 i18 i19 σ) (f20_l12 (pt Tryd.prog Lb 20 n) m0 (m1 + 1) s1 i2 i3 i4 i5 i6 a7 n8 c9 z10 i11 i12 i13 i14 i15 i16 i17 i18 i19 σ) := by
  unfold f20_l12; exact goT_pt (f20_l12_g _ n m0 m1 s1 i2 i3 i4 i5 i6 a7 n8 c9 z10 i11 i12 i13 i14 i15 i16 i17 i18 i19 σ)
noncomputable def f20_l13_t (L : Leaf) (n m0 m1 : Nat) (s1 : List UInt8) (i2 i3 i4 i5 i6 : Int) (a7 : Option (Nat × Nat)) (n8 : Nat) (c9 : Option Nat) (z10 : Nat) (i11 i12 i13 i14 i15 i16 : Int) (cs17 : List AV) (σ : St) : Out :=
 cond (decide (i11 < (n8 : Int))) (idxK i11 n8 <|
  derefK a7 fun b18 o19 =>
  szK z10 5 <|
  ldK Tryd.prog 23 σ b18 (o19 + ((i11).toNat * 5)) fun x20 =>
  xAgg x20 fun cs21 =>
  unC cs21 fun x22 r23 =>
  xInt .i64 x22 fun i24 =>
  unC r23 fun x25 r26 =>
  xInt .i64 x25 fun i27 =>
  unC r26 fun x28 r29 =>
  xInt .i64 x28 fun i30 =>
  unC r29 fun x31 r32 =>
  xInt .i64 x31 fun i33 =>
  unC r32 fun x34 r35 =>
  xInt .i64 x34 fun i36 =>
  nlC r35 <|
  callT Tryd.prog Lb n 18 [.agg [.int .i64 i24, .int .i64 i27, .int .i64 i30, .int .i64 i33, .int .i64 i36]] σ fun v38 σ37 =>
  xTup v38 fun cs39 =>
  unC cs39 fun x40 r41 =>
  xStr x40 fun s42 =>
  unC r41 fun x43 r44 =>
  xInt .i64 x43 fun i45 =>
  nlC r44 <|
  cond (i45 == (0 : Int)) (cond (s42 == s1) (idxK i11 n8 <|
    derefK a7 fun b46 o47 =>
    szK z10 5 <|
    ldK Tryd.prog 23 σ37 b46 (o47 + ((i11).toNat * 5)) fun x48 =>
    xAgg x48 fun cs49 =>
    unC cs49 fun x50 r51 =>
    xInt .i64 x50 fun i52 =>
    unC r51 fun x53 r54 =>
    xInt .i64 x53 fun i55 =>
    unC r54 fun x56 r57 =>
    xInt .i64 x56 fun i58 =>
    unC r57 fun x59 r60 =>
    xInt .i64 x59 fun i61 =>
    unC r60 fun x62 r63 =>
    xInt .i64 x62 fun i64 =>
    nlC r63 <|
    some (.ret (.tuple [.agg [.int .i64 i52, .int .i64 i55, .int .i64 i58, .int .i64 i61, .int .i64 i64], .int .i64 (0 : Int)]), σ37)) (f20_l13 L m0 m1 s1 i2 i3 i4 i5 i6 a7 n8 c9 z10 (IntKind.wrap .i64 (i11 + (1 : Int))) i12 i13 i14 i15 i16 cs17 σ37)) (f20_l13 L m0 m1 s1 i2 i3 i4 i5 i6 a7 n8 c9 z10 (IntKind.wrap .i64 (i11 + (1 : Int))) i12 i13 i14 i15 i16 cs17 σ37)) (f20_j15 L m0 s1 i2 i3 i4 i5 i6 i12 i13 i14 i15 i16 cs17 σ)
theorem f20_l13_g (L : Leaf) (n : Nat) (m0 m1 : Nat) (s1 : List UInt8) (i2 i3 i4 i5 i6 : Int) (a7 : Option (Nat × Nat)) (n8 : Nat) (c9 : Option Nat) (z10 : Nat) (i11 i12 i13 i14 i15 i16 : Int) (cs17 : List AV) (σ : St) : goT Tryd.prog Lb 20 n L [[1, 1, 1, 1, 1, 1, 1, 1, 0, 1, 0, 0, 1, 1]] [1, 1, 1, 1, 1, 1, 1, 1, 0, 1, 0, 0, 1, 0, 0, 1, 1, 1, 0] [m0, m1 + 1] ⟨tm 142 [(0, .v (.str s1)), (2, .lp 2 0), (3, .v (.int .i64 i2)), (5, .ls 27 3), (7, .v (.int .i64 i3)), (8, .v (.int .i64 i4)), (9, .v (.int .i64 i5)), (10, .v (.int .i64 i6)), (11, .v (.slice a7 n8 c9 z10)), (13, .v (.int .i64 i11))] 0, [(2, [.int .i64 i12, .int .i64 i13, .int .i64 i14, .int .i64 i15, .int .i64 i16]), (27, cs17)]⟩ σ = f20_l13_t L n m0 m1 s1 i2 i3 i4 i5 i6 a7 n8 c9 z10 i11 i12 i13 i14 i15 i16 cs17 σ := by kernel_rfl
theorem f20_l13_e {n : Nat} {m0 m1 : Nat} {s1 : List UInt8} {i2 i3 i4 i5 i6 : Int} {a7 : Option (Nat × Nat)} {n8 : Nat} {c9 : Option Nat} {z10 : Nat} {i11 i12 i13 i14 i15 i16 : Int} {cs17 : List AV} {σ : St} : Le (f20_l13_t (pt Tryd.prog Lb 20 n) n m0 m1 s1 i2 i3 i4 i5 i6 a7 n8 c9 z10 i11 i12 i13 i14 i15 i16 cs17 σ) (f20_l13 (pt Tryd.prog Lb 20 n) m0 (m1 + 1) s1 i2 i3 i4 i5 i6 a7 n8 c9 z10 i11 i12 i13 i14 i15 i16 cs17 σ) := by
  unfold f20_l13; exact goT_pt (f20_l13_g _ n m0 m1 s1 i2 i3 i4 i5 i6 a7 n8 c9 z10 i11 i12 i13 i14 i15 i16 cs17 σ)
noncomputable def f20_j14_t (L : Leaf) (_ m0 : Nat) (s1 : List UInt8) (i2 i3 i4 i5 i6 i7 i8 i9 i10 i11 i12 i13 i14 : Int) (σ : St) : Out :=
 f20_l5 L m0 s1 i2 i3 i4 i5 (IntKind.wrap .i64 (i6 + (1 : Int))) i7 i8 i9 i10 i11 i12 i13 i14 σ
theorem f20_j14_g (L : Leaf) (n : Nat) (m0 : Nat) (s1 : List UInt8) (i2 i3 i4 i5 i6 i7 i8 i9 i10 i11 i12 i13 i14 : Int) (σ : St) : goT Tryd.prog Lb 20 n L [] [1, 1, 1, 1, 1, 1, 1, 1, 0, 1, 0, 0, 1, 1] [m0] ⟨tm 142 [(0, .v (.str s1)), (2, .lp 2 0), (3, .v (.int .i64 i2)), (5, .ls 27 3), (7, .v (.int .i64 i3)), (8, .v (.int .i64 i4)), (9, .v (.int .i64 i5)), (10, .v (.int .i64 i6))] 0, [(2, [.int .i64 i7, .int .i64 i8, .int .i64 i9, .int .i64 i10, .int .i64 i11]), (27, [.int .i64 i12, .int .i64 i13, .int .i64 i14])]⟩ σ = f20_j14_t L n m0 s1 i2 i3 i4 i5 i6 i7 i8 i9 i10 i11 i12 i13 i14 σ := by kernel_rfl
theorem f20_j14_e {n : Nat} {m0 : Nat} {s1 : List UInt8} {i2 i3 i4 i5 i6 i7 i8 i9 i10 i11 i12 i13 i14 : Int} {σ : St} : Le (f20_j14_t (pt Tryd.prog Lb 20 n) n m0 s1 i2 i3 i4 i5 i6 i7 i8 i9 i10 i11 i12 i13 i14 σ) (f20_j14 (pt Tryd.prog Lb 20 n) m0 s1 i2 i3 i4 i5 i6 i7 i8 i9 i10 i11 i12 i13 i14 σ) := by
  unfold f20_j14; exact goT_pt (f20_j14_g _ n m0 s1 i2 i3 i4 i5 i6 i7 i8 i9 i10 i11 i12 i13 i14 σ)
noncomputable def f20_j15_t (L : Leaf) (_ m0 : Nat) (s1 : List UInt8) (i2 i3 i4 i5 i6 i7 i8 i9 i10 i11 : Int) (cs12 : List AV) (σ : St) : Out :=
 f20_l6 L m0 s1 i2 i3 i4 i5 (IntKind.wrap .i64 (i6 + (1 : Int))) i7 i8 i9 i10 i11 cs12 σ
theorem f20_j15_g (L : Leaf) (n : Nat) (m0 : Nat) (s1 : List UInt8) (i2 i3 i4 i5 i6 i7 i8 i9 i10 i11 : Int) (cs12 : List AV) (σ : St) : goT Tryd.prog Lb 20 n L [] [1, 1, 1, 1, 1, 1, 1, 1, 0, 1, 0, 0, 1, 1] [m0] ⟨tm 142 [(0, .v (.str s1)), (2, .lp 2 0), (3, .v (.int .i64 i2)), (5, .ls 27 3), (7, .v (.int .i64 i3)), (8, .v (.int .i64 i4)), (9, .v (.int .i64 i5)), (10, .v (.int .i64 i6))] 0, [(2, [.int .i64 i7, .int .i64 i8, .int .i64 i9, .int .i64 i10, .int .i64 i11]), (27, cs12)]⟩ σ = f20_j15_t L n m0 s1 i2 i3 i4 i5 i6 i7 i8 i9 i10 i11 cs12 σ := by kernel_rfl
theorem f20_j15_e {n : Nat} {m0 : Nat} {s1 : List UInt8} {i2 i3 i4 i5 i6 i7 i8 i9 i10 i11 : Int} {cs12 : List AV} {σ : St} : Le (f20_j15_t (pt Tryd.prog Lb 20 n) n m0 s1 i2 i3 i4 i5 i6 i7 i8 i9 i10 i11 cs12 σ) (f20_j15 (pt Tryd.prog Lb 20 n) m0 s1 i2 i3 i4 i5 i6 i7 i8 i9 i10 i11 cs12 σ) := by
  unfold f20_j15; exact goT_pt (f20_j15_g _ n m0 s1 i2 i3 i4 i5 i6 i7 i8 i9 i10 i11 cs12 σ)
/-! ### binnacle/inst.value(s) -/
noncomputable def f39_j1 (L : Leaf) (s1 : List UInt8) (i2 : Int) (σ : St) : Out :=
  L [1, 1] [] ⟨tm 24 [(0, .v (.str s1)), (2, .v (.int .i64 i2)), (3, .v (.bool false))] 0, []⟩ σ
noncomputable def f39_t (L : Leaf) (_ : Nat) (s1 : List UInt8) (σ : St) : Out :=
 cond (decide ((s1.length : Int) > (0 : Int))) (byteK s1 (0 : Int) fun u2 =>
  cond ((u2.toNat : Int) == (120 : Int)) (cutK s1 (1 : Int) (s1.length : Int) fun s3 =>
   f39_j1 L s3 (0 : Int) σ) (f39_j1 L s1 (0 : Int) σ)) (f39_j1 L s1 (0 : Int) σ)
theorem f39_g (L : Leaf) (n : Nat) (s1 : List UInt8) (σ : St) : goT Tryd.prog Lb 39 n L [[1, 1]] [] [] ⟨tm 24 [(0, .v (.str s1))] 0, []⟩ σ = f39_t L n s1 σ := by kernel_rfl
theorem f39_e {n : Nat} {s1 : List UInt8} {σ : St} : Le (f39_t (pt Tryd.prog Lb 39 n) n s1 σ) (callP Tryd.prog Lb (n + 1) 39 [.str s1] σ) :=
  goT_call (f39_g _ n s1 σ) rfl (by kernel_rfl) (by kernel_rfl)
noncomputable def f39_j1_t (_ : Leaf) (n : Nat) (s1 : List UInt8) (_ : Int) (σ : St) : Out :=
 callT Tryd.prog Lb n 55 [.str s1, .int .i64 (10 : Int), .int .i64 (64 : Int)] σ fun v4 σ3 =>
 xTup v4 fun cs5 =>
 unC cs5 fun x6 r7 =>
 xInt .i64 x6 fun i8 =>
 unC r7 fun x9 r10 =>
 nlC r10 <|
 eqK Tryd.prog 101 x9 .nilIface fun b11 =>
 some (.ret (.tuple [.int .i64 i8, .bool b11]), σ3)
theorem f39_j1_g (L : Leaf) (n : Nat) (s1 : List UInt8) (i2 : Int) (σ : St) : goT Tryd.prog Lb 39 n L [] [1, 1] [] ⟨tm 24 [(0, .v (.str s1)), (2, .v (.int .i64 i2)), (3, .v (.bool false))] 0, []⟩ σ = f39_j1_t L n s1 i2 σ := by kernel_rfl
theorem f39_j1_e {n : Nat} {s1 : List UInt8} {i2 : Int} {σ : St} : Le (f39_j1_t (pt Tryd.prog Lb 39 n) n s1 i2 σ) (f39_j1 (pt Tryd.prog Lb 39 n) s1 i2 σ) := by
  unfold f39_j1; exact goT_pt (f39_j1_g _ n s1 i2 σ)
/-! ### binnacle/binnacleref02.parts(s) -/
noncomputable def f42_l1 (L : Leaf) (m0 : Nat) (s1 : List UInt8) (a2 : Option (Nat × Nat)) (n3 : Nat) (c4 : Option Nat) (z5 : Nat) (a6 : Option (Nat × Nat)) (n7 : Nat) (c8 : Option Nat) (z9 : Nat) (i10 i11 : Int) (σ : St) : Out :=
  L [1, 1, 1, 0, 1, 0] [m0] ⟨tm 67 [(0, .v (.str s1)), (2, .v (.slice a2 n3 c4 z5)), (3, .v (.slice a6 n7 c8 z9)), (4, .v (.int .i64 i10)), (5, .v (.int .i64 i11))] 0, []⟩ σ
noncomputable def f42_j2 (L : Leaf) (m0 : Nat) (s1 : List UInt8) (a2 : Option (Nat × Nat)) (n3 : Nat) (c4 : Option Nat) (z5 : Nat) (a6 : Option (Nat × Nat)) (n7 : Nat) (c8 : Option Nat) (z9 : Nat) (i10 i11 : Int) (σ : St) : Out :=
  L [1, 1, 1, 0, 1, 0, 0, 1, 1] [m0] ⟨tm 67 [(0, .v (.str s1)), (2, .v (.slice a2 n3 c4 z5)), (3, .v (.slice a6 n7 c8 z9)), (4, .v (.int .i64 i10)), (5, .v (.int .i64 i11))] 0, []⟩ σ
noncomputable def f42_j3 (L : Leaf) (m0 : Nat) (s1 : List UInt8) (a2 : Option (Nat × Nat)) (n3 : Nat) (c4 : Option Nat) (z5 : Nat) (a6 : Option (Nat × Nat)) (n7 : Nat) (c8 : Option Nat) (z9 : Nat) (i10 i11 : Int) (σ : St) : Out :=
  L [1, 1, 1, 0, 1, 0, 0, 1, 0, 0, 1, 1] [m0] ⟨tm 67 [(0, .v (.str s1)), (2, .v (.slice a2 n3 c4 z5)), (3, .v (.slice a6 n7 c8 z9)), (4, .v (.int .i64 i10)), (5, .v (.int .i64 i11))] 0, []⟩ σ
noncomputable def f42_j4 (L : Leaf) (a1 : Option (Nat × Nat)) (n2 : Nat) (c3 : Option Nat) (z4 : Nat) (a5 : Option (Nat × Nat)) (n6 : Nat) (c7 : Option Nat) (z8 : Nat) (σ : St) : Out :=
  L [1, 1, 1, 1] [] ⟨tm 67 [(2, .v (.slice a1 n2 c3 z4)), (3, .v (.slice a5 n6 c7 z8))] 0, []⟩ σ
noncomputable def f42_t (L : Leaf) (n : Nat) (s1 : List UInt8) (σ : St) : Out :=
 f42_l1 L n s1 none 0 (some 0) 0 none 0 (some 0) 0 (0 : Int) (0 : Int) σ
theorem f42_g (L : Leaf) (n : Nat) (s1 : List UInt8) (σ : St) : goT Tryd.prog Lb 42 n L [] [] [] ⟨tm 67 [(0, .v (.str s1))] 0, []⟩ σ = f42_t L n s1 σ := by kernel_rfl
theorem f42_e {n : Nat} {s1 : List UInt8} {σ : St} : Le (f42_t (pt Tryd.prog Lb 42 n) n s1 σ) (callP Tryd.prog Lb (n + 1) 42 [.str s1] σ) :=
  goT_call (f42_g _ n s1 σ) rfl (by kernel_rfl) (by kernel_rfl)
noncomputable def f42_l1_t (L : Leaf) (_ m0 : Nat) (s1 : List UInt8) (a2 : Option (Nat × Nat)) (n3 : Nat) (c4 : Option Nat) (z5 : Nat) (a6 : Option (Nat × Nat)) (n7 : Nat) (c8 : Option Nat) (z9 : Nat) (i10 i11 : Int) (σ : St) : Out :=
 cond (decide (i11 ≤ (s1.length : Int))) (cond (decide (i11 < (s1.length : Int))) (byteK s1 i11 fun u12 =>
   cond (decide ((u12.toNat : Int) ≥ (97 : Int))) (byteK s1 i11 fun u13 =>
    cond (decide ((u13.toNat : Int) ≤ (122 : Int))) (f42_j2 L m0 s1 a2 n3 c4 z5 a6 n7 c8 z9 i10 i11 σ) (byteK s1 i11 fun u14 =>
     cond (decide ((u14.toNat : Int) ≥ (48 : Int))) (byteK s1 i11 fun u15 =>
      cond (decide ((u15.toNat : Int) ≤ (57 : Int))) (f42_j2 L m0 s1 a2 n3 c4 z5 a6 n7 c8 z9 i10 i11 σ) (byteK s1 i11 fun u16 =>
       cond ((u16.toNat : Int) == (46 : Int)) (f42_j2 L m0 s1 a2 n3 c4 z5 a6 n7 c8 z9 i10 i11 σ) (byteK s1 i11 fun u17 =>
        cond ((u17.toNat : Int) == (45 : Int)) (f42_j2 L m0 s1 a2 n3 c4 z5 a6 n7 c8 z9 i10 i11 σ) (f42_j3 L m0 s1 a2 n3 c4 z5 a6 n7 c8 z9 i10 i11 σ)))) (byteK s1 i11 fun u18 =>
      cond ((u18.toNat : Int) == (46 : Int)) (f42_j2 L m0 s1 a2 n3 c4 z5 a6 n7 c8 z9 i10 i11 σ) (byteK s1 i11 fun u19 =>
       cond ((u19.toNat : Int) == (45 : Int)) (f42_j2 L m0 s1 a2 n3 c4 z5 a6 n7 c8 z9 i10 i11 σ) (f42_j3 L m0 s1 a2 n3 c4 z5 a6 n7 c8 z9 i10 i11 σ))))) (byteK s1 i11 fun u20 =>
    cond (decide ((u20.toNat : Int) ≥ (48 : Int))) (byteK s1 i11 fun u21 =>
     cond (decide ((u21.toNat : Int) ≤ (57 : Int))) (f42_j2 L m0 s1 a2 n3 c4 z5 a6 n7 c8 z9 i10 i11 σ) (byteK s1 i11 fun u22 =>
      cond ((u22.toNat : Int) == (46 : Int)) (f42_j2 L m0 s1 a2 n3 c4 z5 a6 n7 c8 z9 i10 i11 σ) (byteK s1 i11 fun u23 =>
       cond ((u23.toNat : Int) == (45 : Int)) (f42_j2 L m0 s1 a2 n3 c4 z5 a6 n7 c8 z9 i10 i11 σ) (f42_j3 L m0 s1 a2 n3 c4 z5 a6 n7 c8 z9 i10 i11 σ)))) (byteK s1 i11 fun u24 =>
     cond ((u24.toNat : Int) == (46 : Int)) (f42_j2 L m0 s1 a2 n3 c4 z5 a6 n7 c8 z9 i10 i11 σ) (byteK s1 i11 fun u25 =>
      cond ((u25.toNat : Int) == (45 : Int)) (f42_j2 L m0 s1 a2 n3 c4 z5 a6 n7 c8 z9 i10 i11 σ) (f42_j3 L m0 s1 a2 n3 c4 z5 a6 n7 c8 z9 i10 i11 σ))))) (f42_j3 L m0 s1 a2 n3 c4 z5 a6 n7 c8 z9 i10 i11 σ)) (f42_j4 L a2 n3 c4 z5 a6 n7 c8 z9 σ)
theorem f42_l1_g (L : Leaf) (n : Nat) (m0 : Nat) (s1 : List UInt8) (a2 : Option (Nat × Nat)) (n3 : Nat) (c4 : Option Nat) (z5 : Nat) (a6 : Option (Nat × Nat)) (n7 : Nat) (c8 : Option Nat) (z9 : Nat) (i10 i11 : Int) (σ : St) : goT Tryd.prog Lb 42 n L [[1, 1, 1, 0, 1, 0, 0, 1, 0, 0, 1, 1], [1, 1, 1, 0, 1, 0, 0, 1, 1], [1, 1, 1, 1]] [1, 1, 1, 0, 1, 0] [m0 + 1] ⟨tm 67 [(0, .v (.str s1)), (2, .v (.slice a2 n3 c4 z5)), (3, .v (.slice a6 n7 c8 z9)), (4, .v (.int .i64 i10)), (5, .v (.int .i64 i11))] 0, []⟩ σ = f42_l1_t L n m0 s1 a2 n3 c4 z5 a6 n7 c8 z9 i10 i11 σ := by kernel_rfl
theorem f42_l1_e {n : Nat} {m0 : Nat} {s1 : List UInt8} {a2 : Option (Nat × Nat)} {n3 : Nat} {c4 : Option Nat} {z5 : Nat} {a6 : Option (Nat × Nat)} {n7 : Nat} {c8 : Option Nat} {z9 : Nat} {i10 i11 : Int} {σ : St} : Le (f42_l1_t (pt Tryd.prog Lb 42 n) n m0 s1 a2 n3 c4 z5 a6 n7 c8 z9 i10 i11 σ) (f42_l1 (pt Tryd.prog Lb 42 n) (m0 + 1) s1 a2 n3 c4 z5 a6 n7 c8 z9 i10 i11 σ) := by
  unfold f42_l1; exact goT_pt (f42_l1_g _ n m0 s1 a2 n3 c4 z5 a6 n7 c8 z9 i10 i11 σ)
noncomputable def f42_j2_t (L : Leaf) (_ m0 : Nat) (s1 : List UInt8) (a2 : Option (Nat × Nat)) (n3 : Nat) (c4 : Option Nat) (z5 : Nat) (a6 : Option (Nat × Nat)) (n7 : Nat) (c8 : Option Nat) (z9 : Nat) (i10 i11 : Int) (σ : St) : Out :=
 f42_l1 L m0 s1 a2 n3 c4 z5 a6 n7 c8 z9 i10 (IntKind.wrap .i64 (i11 + (1 : Int))) σ
theorem f42_j2_g (L : Leaf) (n : Nat) (m0 : Nat) (s1 : List UInt8) (a2 : Option (Nat × Nat)) (n3 : Nat) (c4 : Option Nat) (z5 : Nat) (a6 : Option (Nat × Nat)) (n7 : Nat) (c8 : Option Nat) (z9 : Nat) (i10 i11 : Int) (σ : St) : goT Tryd.prog Lb 42 n L [] [1, 1, 1, 0, 1, 0, 0, 1, 1] [m0] ⟨tm 67 [(0, .v (.str s1)), (2, .v (.slice a2 n3 c4 z5)), (3, .v (.slice a6 n7 c8 z9)), (4, .v (.int .i64 i10)), (5, .v (.int .i64 i11))] 0, []⟩ σ = f42_j2_t L n m0 s1 a2 n3 c4 z5 a6 n7 c8 z9 i10 i11 σ := by kernel_rfl
theorem f42_j2_e {n : Nat} {m0 : Nat} {s1 : List UInt8} {a2 : Option (Nat × Nat)} {n3 : Nat} {c4 : Option Nat} {z5 : Nat} {a6 : Option (Nat × Nat)} {n7 : Nat} {c8 : Option Nat} {z9 : Nat} {i10 i11 : Int} {σ : St} : Le (f42_j2_t (pt Tryd.prog Lb 42 n) n m0 s1 a2 n3 c4 z5 a6 n7 c8 z9 i10 i11 σ) (f42_j2 (pt Tryd.prog Lb 42 n) m0 s1 a2 n3 c4 z5 a6 n7 c8 z9 i10 i11 σ) := by
  unfold f42_j2; exact goT_pt (f42_j2_g _ n m0 s1 a2 n3 c4 z5 a6 n7 c8 z9 i10 i11 σ)
noncomputable def f42_j3_t (L : Leaf) (_ m0 : Nat) (s1 : List UInt8) (a2 : Option (Nat × Nat)) (n3 : Nat) (c4 : Option Nat) (z5 : Nat) (a6 : Option (Nat × Nat)) (n7 : Nat) (c8 : Option Nat) (z9 : Nat) (i10 i11 : Int) (σ : St) : Out :=
 cond (decide (i11 > i10)) (cutK s1 i10 i11 fun s12 =>
  appK σ 9 1 16 a6 n7 z9 1 [.str s12] fun a13 n14 c15 σ16 =>
  f42_j2 L m0 s1 a2 n3 c4 z5 a13 n14 c15 1 (IntKind.wrap .i64 (i11 + (1 : Int))) i11 σ16) (f42_j2 L m0 s1 a2 n3 c4 z5 a6 n7 c8 z9 (IntKind.wrap .i64 (i11 + (1 : Int))) i11 σ)
theorem f42_j3_g (L : Leaf) (n : Nat) (m0 : Nat) (s1 : List UInt8) (a2 : Option (Nat × Nat)) (n3 : Nat) (c4 : Option Nat) (z5 : Nat) (a6 : Option (Nat × Nat)) (n7 : Nat) (c8 : Option Nat) (z9 : Nat) (i10 i11 : Int) (σ : St) : goT Tryd.prog Lb 42 n L [[1, 1, 1, 0, 1, 0, 0, 1, 1]] [1, 1, 1, 0, 1, 0, 0, 1, 0, 0, 1, 1] [m0] ⟨tm 67 [(0, .v (.str s1)), (2, .v (.slice a2 n3 c4 z5)), (3, .v (.slice a6 n7 c8 z9)), (4, .v (.int .i64 i10)), (5, .v (.int .i64 i11))] 0, []⟩ σ = f42_j3_t L n m0 s1 a2 n3 c4 z5 a6 n7 c8 z9 i10 i11 σ := by kernel_rfl
theorem f42_j3_e {n : Nat} {m0 : Nat} {s1 : List UInt8} {a2 : Option (Nat × Nat)} {n3 : Nat} {c4 : Option Nat} {z5 : Nat} {a6 : Option (Nat × Nat)} {n7 : Nat} {c8 : Option Nat} {z9 : Nat} {i10 i11 : Int} {σ : St} : Le (f42_j3_t (pt Tryd.prog Lb 42 n) n m0 s1 a2 n3 c4 z5 a6 n7 c8 z9 i10 i11 σ) (f42_j3 (pt Tryd.prog Lb 42 n) m0 s1 a2 n3 c4 z5 a6 n7 c8 z9 i10 i11 σ) := by
  unfold f42_j3; exact goT_pt (f42_j3_g _ n m0 s1 a2 n3 c4 z5 a6 n7 c8 z9 i10 i11 σ)
noncomputable def f42_j4_t (_ : Leaf) (_ : Nat) (_ : Option (Nat × Nat)) (_ : Nat) (_ : Option Nat) (_ : Nat) (a5 : Option (Nat × Nat)) (n6 : Nat) (c7 : Option Nat) (z8 : Nat) (σ : St) : Out :=
 some (.ret (.slice a5 n6 c7 z8), σ)
theorem f42_j4_g (L : Leaf) (n : Nat) (a1 : Option (Nat × Nat)) (n2 : Nat) (c3 : Option Nat) (z4 : Nat) (a5 : Option (Nat × Nat)) (n6 : Nat) (c7 : Option Nat) (z8 : Nat) (σ : St) : goT Tryd.prog Lb 42 n L [] [1, 1, 1, 1] [] ⟨tm 67 [(2, .v (.slice a1 n2 c3 z4)), (3, .v (.slice a5 n6 c7 z8))] 0, []⟩ σ = f42_j4_t L n a1 n2 c3 z4 a5 n6 c7 z8 σ := by kernel_rfl
theorem f42_j4_e {n : Nat} {a1 : Option (Nat × Nat)} {n2 : Nat} {c3 : Option Nat} {z4 : Nat} {a5 : Option (Nat × Nat)} {n6 : Nat} {c7 : Option Nat} {z8 : Nat} {σ : St} : Le (f42_j4_t (pt Tryd.prog Lb 42 n) n a1 n2 c3 z4 a5 n6 c7 z8 σ) (f42_j4 (pt Tryd.prog Lb 42 n) a1 n2 c3 z4 a5 n6 c7 z8 σ) := by
  unfold f42_j4; exact goT_pt (f42_j4_g _ n a1 n2 c3 z4 a5 n6 c7 z8 σ)
/-! ### binnacle/binnacleref02.numeral(t) -/
noncomputable def f43_j1 (L : Leaf) (s1 : List UInt8) (i2 : Int) (σ : St) : Out :=
  L [1, 1] [] ⟨tm 63 [(0, .v (.str s1)), (2, .v (.int .i64 i2))] 0, []⟩ σ
noncomputable def f43_j2 (L : Leaf) (s1 : List UInt8) (i2 : Int) (b3 : Bool) (σ : St) : Out :=
  L [1, 1, 1, 1] [] ⟨tm 63 [(0, .v (.str s1)), (2, .v (.int .i64 i2)), (3, .v (.bool b3))] 0, []⟩ σ
noncomputable def f43_j3 (L : Leaf) (s1 : List UInt8) (i2 : Int) (σ : St) : Out :=
  L [1, 1, 1, 1] [] ⟨tm 63 [(0, .v (.str s1)), (2, .v (.int .i64 i2)), (3, .v (.bool false))] 0, []⟩ σ
noncomputable def f43_l4 (L : Leaf) (m0 : Nat) (s1 : List UInt8) (i2 : Int) (b3 : Bool) (i4 i5 : Int) (σ : St) : Out :=
  L [1, 1, 1, 1, 1, 1, 0, 1, 0] [m0] ⟨tm 63 [(0, .v (.str s1)), (2, .v (.int .i64 i2)), (3, .v (.bool b3)), (4, .v (.int .i64 i4)), (5, .v (.int .i64 i5))] 0, []⟩ σ
noncomputable def f43_l5 (L : Leaf) (m0 : Nat) (s1 : List UInt8) (i2 i3 i4 : Int) (σ : St) : Out :=
  L [1, 1, 1, 1, 1, 1, 0, 1, 0] [m0] ⟨tm 63 [(0, .v (.str s1)), (2, .v (.int .i64 i2)), (3, .v (.bool false)), (4, .v (.int .i64 i3)), (5, .v (.int .i64 i4))] 0, []⟩ σ
noncomputable def f43_j6 (L : Leaf) (i1 : Int) (b2 : Bool) (i3 : Int) (σ : St) : Out :=
  L [1, 1, 1, 1, 1, 1, 1] [] ⟨tm 63 [(2, .v (.int .i64 i1)), (3, .v (.bool b2)), (4, .v (.int .i64 i3))] 0, []⟩ σ
noncomputable def f43_j7 (L : Leaf) (i1 i2 : Int) (σ : St) : Out :=
  L [1, 1, 1, 1, 1, 1, 1] [] ⟨tm 63 [(2, .v (.int .i64 i1)), (3, .v (.bool false)), (4, .v (.int .i64 i2))] 0, []⟩ σ
noncomputable def f43_t (L : Leaf) (_ : Nat) (s1 : List UInt8) (σ : St) : Out :=
 cond (decide ((s1.length : Int) > (0 : Int))) (byteK s1 (0 : Int) fun u2 =>
  cond ((u2.toNat : Int) == (120 : Int)) (cutK s1 (1 : Int) (s1.length : Int) fun s3 =>
   f43_j1 L s3 (0 : Int) σ) (f43_j1 L s1 (0 : Int) σ)) (f43_j1 L s1 (0 : Int) σ)
theorem f43_g (L : Leaf) (n : Nat) (s1 : List UInt8) (σ : St) : goT Tryd.prog Lb 43 n L [[1, 1]] [] [] ⟨tm 63 [(0, .v (.str s1))] 0, []⟩ σ = f43_t L n s1 σ := by kernel_rfl
theorem f43_e {n : Nat} {s1 : List UInt8} {σ : St} : Le (f43_t (pt Tryd.prog Lb 43 n) n s1 σ) (callP Tryd.prog Lb (n + 1) 43 [.str s1] σ) :=
  goT_call (f43_g _ n s1 σ) rfl (by kernel_rfl) (by kernel_rfl)
noncomputable def f43_j1_t (L : Leaf) (_ : Nat) (s1 : List UInt8) (i2 : Int) (σ : St) : Out :=
 cond (decide ((s1.length : Int) > (0 : Int))) (byteK s1 (0 : Int) fun u3 =>
  cond ((u3.toNat : Int) == (45 : Int)) (cutK s1 (1 : Int) (s1.length : Int) fun s4 =>
   f43_j2 L s4 i2 ((u3.toNat : Int) == (45 : Int)) σ) (f43_j2 L s1 i2 ((u3.toNat : Int) == (45 : Int)) σ)) (f43_j3 L s1 i2 σ)
theorem f43_j1_g (L : Leaf) (n : Nat) (s1 : List UInt8) (i2 : Int) (σ : St) : goT Tryd.prog Lb 43 n L [[1, 1, 1, 1]] [1, 1] [] ⟨tm 63 [(0, .v (.str s1)), (2, .v (.int .i64 i2))] 0, []⟩ σ = f43_j1_t L n s1 i2 σ := by kernel_rfl
theorem f43_j1_e {n : Nat} {s1 : List UInt8} {i2 : Int} {σ : St} : Le (f43_j1_t (pt Tryd.prog Lb 43 n) n s1 i2 σ) (f43_j1 (pt Tryd.prog Lb 43 n) s1 i2 σ) := by
  unfold f43_j1; exact goT_pt (f43_j1_g _ n s1 i2 σ)
noncomputable def f43_j2_t (L : Leaf) (n : Nat) (s1 : List UInt8) (i2 : Int) (b3 : Bool) (σ : St) : Out :=
 cond ((s1.length : Int) == (0 : Int)) (some (.ret (.int .i64 (-99 : Int)), σ)) (cond (decide ((s1.length : Int) > (12 : Int))) (some (.ret (.int .i64 (-99 : Int)), σ)) (f43_l4 L n s1 i2 b3 (0 : Int) (0 : Int) σ))
theorem f43_j2_g (L : Leaf) (n : Nat) (s1 : List UInt8) (i2 : Int) (b3 : Bool) (σ : St) : goT Tryd.prog Lb 43 n L [] [1, 1, 1, 1] [] ⟨tm 63 [(0, .v (.str s1)), (2, .v (.int .i64 i2)), (3, .v (.bool b3))] 0, []⟩ σ = f43_j2_t L n s1 i2 b3 σ := by kernel_rfl
theorem f43_j2_e {n : Nat} {s1 : List UInt8} {i2 : Int} {b3 : Bool} {σ : St} : Le (f43_j2_t (pt Tryd.prog Lb 43 n) n s1 i2 b3 σ) (f43_j2 (pt Tryd.prog Lb 43 n) s1 i2 b3 σ) := by
  unfold f43_j2; exact goT_pt (f43_j2_g _ n s1 i2 b3 σ)
noncomputable def f43_j3_t (L : Leaf) (n : Nat) (s1 : List UInt8) (i2 : Int) (σ : St) : Out :=
 cond ((s1.length : Int) == (0 : Int)) (some (.ret (.int .i64 (-99 : Int)), σ)) (cond (decide ((s1.length : Int) > (12 : Int))) (some (.ret (.int .i64 (-99 : Int)), σ)) (f43_l5 L n s1 i2 (0 : Int) (0 : Int) σ))
theorem f43_j3_g (L : Leaf) (n : Nat) (s1 : List UInt8) (i2 : Int) (σ : St) : goT Tryd.prog Lb 43 n L [] [1, 1, 1, 1] [] ⟨tm 63 [(0, .v (.str s1)), (2, .v (.int .i64 i2)), (3, .v (.bool false))] 0, []⟩ σ = f43_j3_t L n s1 i2 σ := by kernel_rfl
theorem f43_j3_e {n : Nat} {s1 : List UInt8} {i2 : Int} {σ : St} : Le (f43_j3_t (pt Tryd.prog Lb 43 n) n s1 i2 σ) (f43_j3 (pt Tryd.prog Lb 43 n) s1 i2 σ) := by
  unfold f43_j3; exact goT_pt (f43_j3_g _ n s1 i2 σ)
noncomputable def f43_l4_t (L : Leaf) (_ m0 : Nat) (s1 : List UInt8) (i2 : Int) (b3 : Bool) (i4 i5 : Int) (σ : St) : Out :=
 cond (decide (i5 < (s1.length : Int))) (byteK s1 i5 fun u6 =>
  cond (decide ((u6.toNat : Int) < (48 : Int))) (some (.ret (.int .i64 (-99 : Int)), σ)) (byteK s1 i5 fun u7 =>
   cond (decide ((u7.toNat : Int) > (57 : Int))) (some (.ret (.int .i64 (-99 : Int)), σ)) (byteK s1 i5 fun u8 =>
    f43_l4 L m0 s1 i2 b3 (IntKind.wrap .i64 ((IntKind.wrap .i64 (i4 * (10 : Int))) + (IntKind.wrap .i64 (IntKind.wrap .u8 ((u8.toNat : Int) - (48 : Int)))))) (IntKind.wrap .i64 (i5 + (1 : Int))) σ))) (f43_j6 L i2 b3 i4 σ)
theorem f43_l4_g (L : Leaf) (n : Nat) (m0 : Nat) (s1 : List UInt8) (i2 : Int) (b3 : Bool) (i4 i5 : Int) (σ : St) : goT Tryd.prog Lb 43 n L [[1, 1, 1, 1, 1, 1, 1]] [1, 1, 1, 1, 1, 1, 0, 1, 0] [m0 + 1] ⟨tm 63 [(0, .v (.str s1)), (2, .v (.int .i64 i2)), (3, .v (.bool b3)), (4, .v (.int .i64 i4)), (5, .v (.int .i64 i5))] 0, []⟩ σ = f43_l4_t L n m0 s1 i2 b3 i4 i5 σ := by kernel_rfl
theorem f43_l4_e {n : Nat} {m0 : Nat} {s1 : List UInt8} {i2 : Int} {b3 : Bool} {i4 i5 : Int} {σ : St} : Le (f43_l4_t (pt Tryd.prog Lb 43 n) n m0 s1 i2 b3 i4 i5 σ) (f43_l4 (pt Tryd.prog Lb 43 n) (m0 + 1) s1 i2 b3 i4 i5 σ) := by
  unfold f43_l4; exact goT_pt (f43_l4_g _ n m0 s1 i2 b3 i4 i5 σ)
noncomputable def f43_l5_t (L : Leaf) (_ m0 : Nat) (s1 : List UInt8) (i2 i3 i4 : Int) (σ : St) : Out :=
 cond (decide (i4 < (s1.length : Int))) (byteK s1 i4 fun u5 =>
  cond (decide ((u5.toNat : Int) < (48 : Int))) (some (.ret (.int .i64 (-99 : Int)), σ)) (byteK s1 i4 fun u6 =>
   cond (decide ((u6.toNat : Int) > (57 : Int))) (some (.ret (.int .i64 (-99 : Int)), σ)) (byteK s1 i4 fun u7 =>
    f43_l5 L m0 s1 i2 (IntKind.wrap .i64 ((IntKind.wrap .i64 (i3 * (10 : Int))) + (IntKind.wrap .i64 (IntKind.wrap .u8 ((u7.toNat : Int) - (48 : Int)))))) (IntKind.wrap .i64 (i4 + (1 : Int))) σ))) (f43_j7 L i2 i3 σ)
theorem f43_l5_g (L : Leaf) (n : Nat) (m0 : Nat) (s1 : List UInt8) (i2 i3 i4 : Int) (σ : St) : goT Tryd.prog Lb 43 n L [[1, 1, 1, 1, 1, 1, 1]] [1, 1, 1, 1, 1, 1, 0, 1, 0] [m0 + 1] ⟨tm 63 [(0, .v (.str s1)), (2, .v (.int .i64 i2)), (3, .v (.bool false)), (4, .v (.int .i64 i3)), (5, .v (.int .i64 i4))] 0, []⟩ σ = f43_l5_t L n m0 s1 i2 i3 i4 σ := by kernel_rfl
theorem f43_l5_e {n : Nat} {m0 : Nat} {s1 : List UInt8} {i2 i3 i4 : Int} {σ : St} : Le (f43_l5_t (pt Tryd.prog Lb 43 n) n m0 s1 i2 i3 i4 σ) (f43_l5 (pt Tryd.prog Lb 43 n) (m0 + 1) s1 i2 i3 i4 σ) := by
  unfold f43_l5; exact goT_pt (f43_l5_g _ n m0 s1 i2 i3 i4 σ)
noncomputable def f43_j6_t (_ : Leaf) (_ : Nat) (_ : Int) (b2 : Bool) (i3 : Int) (σ : St) : Out :=
 cond b2 (some (.ret (.int .i64 (IntKind.wrap .i64 (0 - i3))), σ)) (some (.ret (.int .i64 i3), σ))
theorem f43_j6_g (L : Leaf) (n : Nat) (i1 : Int) (b2 : Bool) (i3 : Int) (σ : St) : goT Tryd.prog Lb 43 n L [] [1, 1, 1, 1, 1, 1, 1] [] ⟨tm 63 [(2, .v (.int .i64 i1)), (3, .v (.bool b2)), (4, .v (.int .i64 i3))] 0, []⟩ σ = f43_j6_t L n i1 b2 i3 σ := by kernel_rfl
theorem f43_j6_e {n : Nat} {i1 : Int} {b2 : Bool} {i3 : Int} {σ : St} : Le (f43_j6_t (pt Tryd.prog Lb 43 n) n i1 b2 i3 σ) (f43_j6 (pt Tryd.prog Lb 43 n) i1 b2 i3 σ) := by
  unfold f43_j6; exact goT_pt (f43_j6_g _ n i1 b2 i3 σ)
noncomputable def f43_j7_t (_ : Leaf) (_ : Nat) (_ i2 : Int) (σ : St) : Out :=
 some (.ret (.int .i64 i2), σ)
theorem f43_j7_g (L : Leaf) (n : Nat) (i1 i2 : Int) (σ : St) : goT Tryd.prog Lb 43 n L [] [1, 1, 1, 1, 1, 1, 1] [] ⟨tm 63 [(2, .v (.int .i64 i1)), (3, .v (.bool false)), (4, .v (.int .i64 i2))] 0, []⟩ σ = f43_j7_t L n i1 i2 σ := by kernel_rfl
theorem f43_j7_e {n : Nat} {i1 i2 : Int} {σ : St} : Le (f43_j7_t (pt Tryd.prog Lb 43 n) n i1 i2 σ) (f43_j7 (pt Tryd.prog Lb 43 n) i1 i2 σ) := by
  unfold f43_j7; exact goT_pt (f43_j7_g _ n i1 i2 σ)
/-! ### binnacle/inst.guess$1(to, ) -/
noncomputable def f57_l1 (L : Leaf) (m0 : Nat) (b1 o2 : Nat) (a3 : Option (Nat × Nat)) (n4 : Nat) (c5 : Option Nat) (z6 : Nat) (i7 i8 : Int) (σ : St) : Out :=
  L [1, 0] [m0] ⟨tm 25 [(1, .v (.ptr (some (b1, o2)))), (5, .v (.slice a3 n4 c5 z6)), (6, .v (.int .i64 i7)), (7, .v (.int .i64 i8))] 0, []⟩ σ
noncomputable def f57_t (L : Leaf) (n : Nat) (a1 : Option (Nat × Nat)) (n2 : Nat) (c3 : Option Nat) (z4 b5 o6 : Nat) (σ : St) : Out :=
 f57_l1 L n b5 o6 a1 n2 c3 z4 (n2 : Int) (0 : Int) σ
theorem f57_g (L : Leaf) (n : Nat) (a1 : Option (Nat × Nat)) (n2 : Nat) (c3 : Option Nat) (z4 b5 o6 : Nat) (σ : St) : goT Tryd.prog Lb 57 n L [] [] [] ⟨tm 25 [(0, .v (.slice a1 n2 c3 z4)), (1, .v (.ptr (some (b5, o6))))] 0, []⟩ σ = f57_t L n a1 n2 c3 z4 b5 o6 σ := by kernel_rfl
theorem f57_e {n : Nat} {a1 : Option (Nat × Nat)} {n2 : Nat} {c3 : Option Nat} {z4 b5 o6 : Nat} {σ : St} : Le (f57_t (pt Tryd.prog Lb 57 n) n a1 n2 c3 z4 b5 o6 σ) (callP Tryd.prog Lb (n + 1) 57 [.slice a1 n2 c3 z4, .ptr (some (b5, o6))] σ) :=
  goT_call (f57_g _ n a1 n2 c3 z4 b5 o6 σ) rfl (by kernel_rfl) (by kernel_rfl)
noncomputable def f57_l1_t (L : Leaf) (_ m0 b1 o2 : Nat) (a3 : Option (Nat × Nat)) (n4 : Nat) (c5 : Option Nat) (z6 : Nat) (i7 i8 : Int) (σ : St) : Out :=
 cond (decide (i8 < i7)) (idxK i8 n4 <|
  derefK a3 fun b9 o10 =>
  szK z6 1 <|
  ldK Tryd.prog 112 σ b9 (o10 + ((i8).toNat * 1)) fun x11 =>
  xPtr x11 fun a12 =>
  ldK Tryd.prog 77 σ b1 o2 fun x13 =>
  xSl x13 fun _ n15 _ _ =>
  cond (decide (i8 < (n15 : Int))) (ldK Tryd.prog 77 σ b1 o2 fun x18 =>
   xSl x18 fun a19 n20 _ z22 =>
   idxK i8 n20 <|
   derefK a19 fun b23 o24 =>
   szK z22 1 <|
   ldK Tryd.prog 2 σ b23 (o24 + ((i8).toNat * 1)) fun x25 =>
   xInt .i64 x25 fun i26 =>
   derefK a12 fun b27 o28 =>
   stK σ b27 o28 [.int .i64 (if (99 : Int) < (if (-1 : Int) > i26 then (-1 : Int) else i26) then (99 : Int) else (if (-1 : Int) > i26 then (-1 : Int) else i26))] fun σ29 =>
   f57_l1 L m0 b1 o2 a3 n4 c5 z6 i7 (IntKind.wrap .i64 (i8 + (1 : Int))) σ29) (f57_l1 L m0 b1 o2 a3 n4 c5 z6 i7 (IntKind.wrap .i64 (i8 + (1 : Int))) σ)) (some (.ret (.tuple []), σ))
theorem f57_l1_g (L : Leaf) (n : Nat) (m0 : Nat) (b1 o2 : Nat) (a3 : Option (Nat × Nat)) (n4 : Nat) (c5 : Option Nat) (z6 : Nat) (i7 i8 : Int) (σ : St) : goT Tryd.prog Lb 57 n L [] [1, 0] [m0 + 1] ⟨tm 25 [(1, .v (.ptr (some (b1, o2)))), (5, .v (.slice a3 n4 c5 z6)), (6, .v (.int .i64 i7)), (7, .v (.int .i64 i8))] 0, []⟩ σ = f57_l1_t L n m0 b1 o2 a3 n4 c5 z6 i7 i8 σ := by kernel_rfl
theorem f57_l1_e {n : Nat} {m0 : Nat} {b1 o2 : Nat} {a3 : Option (Nat × Nat)} {n4 : Nat} {c5 : Option Nat} {z6 : Nat} {i7 i8 : Int} {σ : St} : Le (f57_l1_t (pt Tryd.prog Lb 57 n) n m0 b1 o2 a3 n4 c5 z6 i7 i8 σ) (f57_l1 (pt Tryd.prog Lb 57 n) (m0 + 1) b1 o2 a3 n4 c5 z6 i7 i8 σ) := by
  unfold f57_l1; exact goT_pt (f57_l1_g _ n m0 b1 o2 a3 n4 c5 z6 i7 i8 σ)
/-! ### binnacle/inst.guess$2(, ) -/
noncomputable def f58_t (_ : Leaf) (_ b1 o2 b3 o4 : Nat) (σ : St) : Out :=
 ldK Tryd.prog 77 σ b1 o2 fun x5 =>
 xSl x5 fun _ n7 _ _ =>
 cond (decide ((n7 : Int) > (0 : Int))) (ldK Tryd.prog 85 σ b3 o4 fun x10 =>
  xPtr x10 fun a11 =>
  ldK Tryd.prog 77 σ b1 o2 fun x12 =>
  xSl x12 fun a13 n14 _ z16 =>
  ldK Tryd.prog 77 σ b1 o2 fun x17 =>
  xSl x17 fun _ n19 _ _ =>
  idxK (IntKind.wrap .i64 ((n19 : Int) - (1 : Int))) n14 <|
  derefK a13 fun b22 o23 =>
  szK z16 1 <|
  ldK Tryd.prog 2 σ b22 (o23 + (((IntKind.wrap .i64 ((n19 : Int) - (1 : Int)))).toNat * 1)) fun x24 =>
  xInt .i64 x24 fun i25 =>
  derefK a11 fun b26 o27 =>
  stK σ b26 (o27 + 4) [.int .i64 i25] fun σ28 =>
  some (.ret (.tuple []), σ28)) (some (.ret (.tuple []), σ))
theorem f58_g (L : Leaf) (n : Nat) (b1 o2 b3 o4 : Nat) (σ : St) : goT Tryd.prog Lb 58 n L [] [] [] ⟨tm 14 [(0, .v (.ptr (some (b1, o2)))), (1, .v (.ptr (some (b3, o4))))] 0, []⟩ σ = f58_t L n b1 o2 b3 o4 σ := by kernel_rfl
theorem f58_e {n : Nat} {b1 o2 b3 o4 : Nat} {σ : St} : Le (f58_t (pt Tryd.prog Lb 58 n) n b1 o2 b3 o4 σ) (callP Tryd.prog Lb (n + 1) 58 [.ptr (some (b1, o2)), .ptr (some (b3, o4))] σ) :=
  goT_call (f58_g _ n b1 o2 b3 o4 σ) rfl (by kernel_rfl) (by kernel_rfl)
end Go.Proofs

/- The functions, as trees of named steps. -/
import Derived.Test.YtidammkjfdonaaaDoorAmT
import Derived.Test.YtidammkjfdonaaaDoorLb
import Derived.Test.YtidammkjfdonaaaDoorChecked
namespace Go.Proofs
open Go.AM
set_option maxHeartbeats 4000000
/-! ### binnacle/binnaclelaw02.InstWords(x) -/
noncomputable def f3_t (_ : Leaf) (n : Nat) (i1 i2 i3 i4 i5 : Int) (σ : St) : Out :=
 callT Tryd.prog Lb n 10 [] σ fun v7 σ6 =>
 xBool v7 fun b8 =>
 callT Tryd.prog Lb n 11 [.agg [.int .i64 i1, .int .i64 i2, .int .i64 i3, .int .i64 i4, .int .i64 i5]] σ6 fun v10 σ9 =>
 xBool v10 fun b11 =>
 callT Tryd.prog Lb n 12 [.agg [.int .i64 i1, .int .i64 i2, .int .i64 i3, .int .i64 i4, .int .i64 i5]] σ9 fun v13 σ12 =>
 xBool v13 fun b14 =>
 callT Tryd.prog Lb n 13 [.agg [.int .i64 i1, .int .i64 i2, .int .i64 i3, .int .i64 i4, .int .i64 i5]] σ12 fun v16 σ15 =>
 xTup v16 fun cs17 =>
 unC cs17 fun x18 r19 =>
 xInt .u32 x18 fun i20 =>
 unC r19 fun x21 r22 =>
 xInt .i64 x21 fun i23 =>
 nlC r22 <|
 callT Tryd.prog Lb n 14 [.agg [.int .i64 i1, .int .i64 i2, .int .i64 i3, .int .i64 i4, .int .i64 i5]] σ15 fun v25 σ24 =>
 xTup v25 fun cs26 =>
 unC cs26 fun x27 r28 =>
 xInt .u32 x27 fun i29 =>
 unC r28 fun x30 r31 =>
 xInt .i64 x30 fun i32 =>
 nlC r31 <|
 cond b8 (cond (b11 == b14) (cond (i20 == i29) (some (.ret (.bool (i23 == i32)), σ24)) (some (.ret (.bool false), σ24))) (some (.ret (.bool false), σ24))) (some (.ret (.bool false), σ24))
theorem f3_g (L : Leaf) (n : Nat) (i1 i2 i3 i4 i5 : Int) (σ : St) : goT Tryd.prog Lb 3 n L [] [] [] ⟨tm 41 [(0, .v (.agg [.int .i64 i1, .int .i64 i2, .int .i64 i3, .int .i64 i4, .int .i64 i5]))] 0, []⟩ σ = f3_t L n i1 i2 i3 i4 i5 σ := by kernel_rfl
theorem f3_e {n : Nat} {i1 i2 i3 i4 i5 : Int} {σ : St} : Le (f3_t (pt Tryd.prog Lb 3 n) n i1 i2 i3 i4 i5 σ) (callP Tryd.prog Lb (n + 1) 3 [.agg [.int .i64 i1, .int .i64 i2, .int .i64 i3, .int .i64 i4, .int .i64 i5]] σ) :=
  goT_call (f3_g _ n i1 i2 i3 i4 i5 σ) rfl (by kernel_rfl) (by kernel_rfl)
/-! ### binnacle/binnaclelaw02.InstReads(w) -/
noncomputable def f4_t (_ : Leaf) (n : Nat) (i1 : Int) (σ : St) : Out :=
 callT Tryd.prog Lb n 10 [] σ fun v3 σ2 =>
 xBool v3 fun b4 =>
 callT Tryd.prog Lb n 15 [.int .u32 i1] σ2 fun v6 σ5 =>
 xTup v6 fun cs7 =>
 unC cs7 fun x8 r9 =>
 xAgg x8 fun cs10 =>
 unC cs10 fun x11 r12 =>
 xInt .i64 x11 fun i13 =>
 unC r12 fun x14 r15 =>
 xInt .i64 x14 fun i16 =>
 unC r15 fun x17 r18 =>
 xInt .i64 x17 fun i19 =>
 unC r18 fun x20 r21 =>
 xInt .i64 x20 fun i22 =>
 unC r21 fun x23 r24 =>
 xInt .i64 x23 fun i25 =>
 nlC r24 <|
 unC r9 fun x26 r27 =>
 xInt .i64 x26 fun i28 =>
 nlC r27 <|
 callT Tryd.prog Lb n 16 [.int .u32 i1] σ5 fun v30 σ29 =>
 xTup v30 fun cs31 =>
 unC cs31 fun x32 r33 =>
 xAgg x32 fun cs34 =>
 unC cs34 fun x35 r36 =>
 xInt .i64 x35 fun i37 =>
 unC r36 fun x38 r39 =>
 xInt .i64 x38 fun i40 =>
 unC r39 fun x41 r42 =>
 xInt .i64 x41 fun i43 =>
 unC r42 fun x44 r45 =>
 xInt .i64 x44 fun i46 =>
 unC r45 fun x47 r48 =>
 xInt .i64 x47 fun i49 =>
 nlC r48 <|
 unC r33 fun x50 r51 =>
 xInt .i64 x50 fun i52 =>
 nlC r51 <|
 cond b4 (cond ((i13 == i37) && ((i16 == i40) && ((i19 == i43) && ((i22 == i46) && ((i25 == i49) && true))))) (some (.ret (.bool (i28 == i52)), σ29)) (some (.ret (.bool false), σ29))) (some (.ret (.bool false), σ29))
theorem f4_g (L : Leaf) (n : Nat) (i1 : Int) (σ : St) : goT Tryd.prog Lb 4 n L [] [] [] ⟨tm 30 [(0, .v (.int .u32 i1))] 0, []⟩ σ = f4_t L n i1 σ := by kernel_rfl
theorem f4_e {n : Nat} {i1 : Int} {σ : St} : Le (f4_t (pt Tryd.prog Lb 4 n) n i1 σ) (callP Tryd.prog Lb (n + 1) 4 [.int .u32 i1] σ) :=
  goT_call (f4_g _ n i1 σ) rfl (by kernel_rfl) (by kernel_rfl)
/-! ### binnacle/binnaclelaw02.InstTexts(x, s) -/
noncomputable def f5_t (_ : Leaf) (n : Nat) (i1 i2 i3 i4 i5 : Int) (s6 : List UInt8) (σ : St) : Out :=
 callT Tryd.prog Lb n 10 [] σ fun v8 σ7 =>
 xBool v8 fun b9 =>
 callT Tryd.prog Lb n 17 [.agg [.int .i64 i1, .int .i64 i2, .int .i64 i3, .int .i64 i4, .int .i64 i5]] σ7 fun v11 σ10 =>
 xTup v11 fun cs12 =>
 unC cs12 fun x13 r14 =>
 xStr x13 fun s15 =>
 unC r14 fun x16 r17 =>
 xInt .i64 x16 fun i18 =>
 nlC r17 <|
 callT Tryd.prog Lb n 18 [.agg [.int .i64 i1, .int .i64 i2, .int .i64 i3, .int .i64 i4, .int .i64 i5]] σ10 fun v20 σ19 =>
 xTup v20 fun cs21 =>
 unC cs21 fun x22 r23 =>
 xStr x22 fun s24 =>
 unC r23 fun x25 r26 =>
 xInt .i64 x25 fun i27 =>
 nlC r26 <|
 callT Tryd.prog Lb n 19 [.str s6] σ19 fun v29 σ28 =>
 xTup v29 fun cs30 =>
 unC cs30 fun x31 r32 =>
 xAgg x31 fun cs33 =>
 unC cs33 fun x34 r35 =>
 xInt .i64 x34 fun i36 =>
 unC r35 fun x37 r38 =>
 xInt .i64 x37 fun i39 =>
 unC r38 fun x40 r41 =>
 xInt .i64 x40 fun i42 =>
 unC r41 fun x43 r44 =>
 xInt .i64 x43 fun i45 =>
 unC r44 fun x46 r47 =>
 xInt .i64 x46 fun i48 =>
 nlC r47 <|
 unC r32 fun x49 r50 =>
 xInt .i64 x49 fun i51 =>
 nlC r50 <|
 callT Tryd.prog Lb n 20 [.str s6] σ28 fun v53 σ52 =>
 xTup v53 fun cs54 =>
 unC cs54 fun x55 r56 =>
 xAgg x55 fun cs57 =>
 unC cs57 fun x58 r59 =>
 xInt .i64 x58 fun i60 =>
 unC r59 fun x61 r62 =>
 xInt .i64 x61 fun i63 =>
 unC r62 fun x64 r65 =>
 xInt .i64 x64 fun i66 =>
 unC r65 fun x67 r68 =>
 xInt .i64 x67 fun i69 =>
 unC r68 fun x70 r71 =>
 xInt .i64 x70 fun i72 =>
 nlC r71 <|
 unC r56 fun x73 r74 =>
 xInt .i64 x73 fun i75 =>
 nlC r74 <|
 cond b9 (cond (s15 == s24) (cond (i18 == i27) (cond ((i36 == i60) && ((i39 == i63) && ((i42 == i66) && ((i45 == i69) && ((i48 == i72) && true))))) (some (.ret (.bool (i51 == i75)), σ52)) (some (.ret (.bool false), σ52))) (some (.ret (.bool false), σ52))) (some (.ret (.bool false), σ52))) (some (.ret (.bool false), σ52))
theorem f5_g (L : Leaf) (n : Nat) (i1 i2 i3 i4 i5 : Int) (s6 : List UInt8) (σ : St) : goT Tryd.prog Lb 5 n L [] [] [] ⟨tm 56 [(0, .v (.agg [.int .i64 i1, .int .i64 i2, .int .i64 i3, .int .i64 i4, .int .i64 i5])), (1, .v (.str s6))] 0, []⟩ σ = f5_t L n i1 i2 i3 i4 i5 s6 σ := by kernel_rfl
theorem f5_e {n : Nat} {i1 i2 i3 i4 i5 : Int} {s6 : List UInt8} {σ : St} : Le (f5_t (pt Tryd.prog Lb 5 n) n i1 i2 i3 i4 i5 s6 σ) (callP Tryd.prog Lb (n + 1) 5 [.agg [.int .i64 i1, .int .i64 i2, .int .i64 i3, .int .i64 i4, .int .i64 i5], .str s6] σ) :=
  goT_call (f5_g _ n i1 i2 i3 i4 i5 s6 σ) rfl (by kernel_rfl) (by kernel_rfl)
/-! ### binnacle/binnaclelaw02.InstBack(x, w, s) -/
noncomputable def f6_j1 (L : Leaf) (i1 : Int) (s2 : List UInt8) (b3 : Bool) (σ : St) : Out :=
  L [1, 1, 1, 1, 1, 1] [] ⟨tm 105 [(1, .v (.int .u32 i1)), (2, .v (.str s2)), (6, .v (.bool false)), (7, .v (.bool b3))] 0, []⟩ σ
noncomputable def f6_j2 (L : Leaf) (s1 : List UInt8) (b2 : Bool) (σ : St) : Out :=
  L [1, 1, 1, 1, 1, 1, 1, 1] [] ⟨tm 105 [(2, .v (.str s1)), (6, .v (.bool false)), (7, .v (.bool b2))] 0, []⟩ σ
noncomputable def f6_t (L : Leaf) (n : Nat) (i1 i2 i3 i4 i5 i6 : Int) (s7 : List UInt8) (σ : St) : Out :=
 callT Tryd.prog Lb n 10 [] σ fun v9 σ8 =>
 xBool v9 fun b10 =>
 callT Tryd.prog Lb n 13 [.agg [.int .i64 i1, .int .i64 i2, .int .i64 i3, .int .i64 i4, .int .i64 i5]] σ8 fun v12 σ11 =>
 xTup v12 fun cs13 =>
 unC cs13 fun x14 r15 =>
 xInt .u32 x14 fun i16 =>
 unC r15 fun x17 r18 =>
 xInt .i64 x17 fun i19 =>
 nlC r18 <|
 callT Tryd.prog Lb n 17 [.agg [.int .i64 i1, .int .i64 i2, .int .i64 i3, .int .i64 i4, .int .i64 i5]] σ11 fun v21 σ20 =>
 xTup v21 fun cs22 =>
 unC cs22 fun x23 r24 =>
 xStr x23 fun s25 =>
 unC r24 fun x26 r27 =>
 xInt .i64 x26 fun i28 =>
 nlC r27 <|
 cond (i19 != i28) (some (.ret (.bool false), σ20)) (cond (i19 == (0 : Int)) (callT Tryd.prog Lb n 15 [.int .u32 i16] σ20 fun v30 σ29 =>
   xTup v30 fun cs31 =>
   unC cs31 fun x32 r33 =>
   xAgg x32 fun cs34 =>
   unC cs34 fun x35 r36 =>
   xInt .i64 x35 fun i37 =>
   unC r36 fun x38 r39 =>
   xInt .i64 x38 fun i40 =>
   unC r39 fun x41 r42 =>
   xInt .i64 x41 fun i43 =>
   unC r42 fun x44 r45 =>
   xInt .i64 x44 fun i46 =>
   unC r45 fun x47 r48 =>
   xInt .i64 x47 fun i49 =>
   nlC r48 <|
   unC r33 fun x50 r51 =>
   xInt .i64 x50 fun i52 =>
   nlC r51 <|
   callT Tryd.prog Lb n 19 [.str s25] σ29 fun v54 σ53 =>
   xTup v54 fun cs55 =>
   unC cs55 fun x56 r57 =>
   xAgg x56 fun cs58 =>
   unC cs58 fun x59 r60 =>
   xInt .i64 x59 fun i61 =>
   unC r60 fun x62 r63 =>
   xInt .i64 x62 fun i64 =>
   unC r63 fun x65 r66 =>
   xInt .i64 x65 fun i67 =>
   unC r66 fun x68 r69 =>
   xInt .i64 x68 fun i70 =>
   unC r69 fun x71 r72 =>
   xInt .i64 x71 fun i73 =>
   nlC r72 <|
   unC r57 fun x74 r75 =>
   xInt .i64 x74 fun i76 =>
   nlC r75 <|
   cond (i52 != (0 : Int)) (some (.ret (.bool false), σ53)) (cond (i76 != (0 : Int)) (some (.ret (.bool false), σ53)) (cond (!((i37 == i1) && ((i40 == i2) && ((i43 == i3) && ((i46 == i4) && ((i49 == i5) && true)))))) (some (.ret (.bool false), σ53)) (cond (!((i61 == i1) && ((i64 == i2) && ((i67 == i3) && ((i70 == i4) && ((i73 == i5) && true)))))) (some (.ret (.bool false), σ53)) (f6_j1 L i6 s7 b10 σ53))))) (f6_j1 L i6 s7 b10 σ20))
theorem f6_g (L : Leaf) (n : Nat) (i1 i2 i3 i4 i5 i6 : Int) (s7 : List UInt8) (σ : St) : goT Tryd.prog Lb 6 n L [[1, 1, 1, 1, 1, 1]] [] [] ⟨tm 105 [(0, .v (.agg [.int .i64 i1, .int .i64 i2, .int .i64 i3, .int .i64 i4, .int .i64 i5])), (1, .v (.int .u32 i6)), (2, .v (.str s7))] 0, []⟩ σ = f6_t L n i1 i2 i3 i4 i5 i6 s7 σ := by kernel_rfl
theorem f6_e {n : Nat} {i1 i2 i3 i4 i5 i6 : Int} {s7 : List UInt8} {σ : St} : Le (f6_t (pt Tryd.prog Lb 6 n) n i1 i2 i3 i4 i5 i6 s7 σ) (callP Tryd.prog Lb (n + 1) 6 [.agg [.int .i64 i1, .int .i64 i2, .int .i64 i3, .int .i64 i4, .int .i64 i5], .int .u32 i6, .str s7] σ) :=
  goT_call (f6_g _ n i1 i2 i3 i4 i5 i6 s7 σ) rfl (by kernel_rfl) (by kernel_rfl)
noncomputable def f6_j1_t (L : Leaf) (n : Nat) (i1 : Int) (s2 : List UInt8) (b3 : Bool) (σ : St) : Out :=
 callT Tryd.prog Lb n 15 [.int .u32 i1] σ fun v5 σ4 =>
 xTup v5 fun cs6 =>
 unC cs6 fun x7 r8 =>
 xAgg x7 fun cs9 =>
 unC cs9 fun x10 r11 =>
 xInt .i64 x10 fun i12 =>
 unC r11 fun x13 r14 =>
 xInt .i64 x13 fun i15 =>
 unC r14 fun x16 r17 =>
 xInt .i64 x16 fun i18 =>
 unC r17 fun x19 r20 =>
 xInt .i64 x19 fun i21 =>
 unC r20 fun x22 r23 =>
 xInt .i64 x22 fun i24 =>
 nlC r23 <|
 unC r8 fun x25 r26 =>
 xInt .i64 x25 fun i27 =>
 nlC r26 <|
 cond (i27 == (0 : Int)) (callT Tryd.prog Lb n 13 [.agg [.int .i64 i12, .int .i64 i15, .int .i64 i18, .int .i64 i21, .int .i64 i24]] σ4 fun v29 σ28 =>
  xTup v29 fun cs30 =>
  unC cs30 fun x31 r32 =>
  xInt .u32 x31 fun i33 =>
  unC r32 fun x34 r35 =>
  xInt .i64 x34 fun i36 =>
  nlC r35 <|
  cond (i36 != (0 : Int)) (some (.ret (.bool false), σ28)) (cond (i33 != i1) (some (.ret (.bool false), σ28)) (f6_j2 L s2 b3 σ28))) (f6_j2 L s2 b3 σ4)
theorem f6_j1_g (L : Leaf) (n : Nat) (i1 : Int) (s2 : List UInt8) (b3 : Bool) (σ : St) : goT Tryd.prog Lb 6 n L [[1, 1, 1, 1, 1, 1, 1, 1]] [1, 1, 1, 1, 1, 1] [] ⟨tm 105 [(1, .v (.int .u32 i1)), (2, .v (.str s2)), (6, .v (.bool false)), (7, .v (.bool b3))] 0, []⟩ σ = f6_j1_t L n i1 s2 b3 σ := by kernel_rfl
theorem f6_j1_e {n : Nat} {i1 : Int} {s2 : List UInt8} {b3 : Bool} {σ : St} : Le (f6_j1_t (pt Tryd.prog Lb 6 n) n i1 s2 b3 σ) (f6_j1 (pt Tryd.prog Lb 6 n) i1 s2 b3 σ) := by
  unfold f6_j1; exact goT_pt (f6_j1_g _ n i1 s2 b3 σ)
noncomputable def f6_j2_t (_ : Leaf) (n : Nat) (s1 : List UInt8) (b2 : Bool) (σ : St) : Out :=
 callT Tryd.prog Lb n 19 [.str s1] σ fun v4 σ3 =>
 xTup v4 fun cs5 =>
 unC cs5 fun x6 r7 =>
 xAgg x6 fun cs8 =>
 unC cs8 fun x9 r10 =>
 xInt .i64 x9 fun i11 =>
 unC r10 fun x12 r13 =>
 xInt .i64 x12 fun i14 =>
 unC r13 fun x15 r16 =>
 xInt .i64 x15 fun i17 =>
 unC r16 fun x18 r19 =>
 xInt .i64 x18 fun i20 =>
 unC r19 fun x21 r22 =>
 xInt .i64 x21 fun i23 =>
 nlC r22 <|
 unC r7 fun x24 r25 =>
 xInt .i64 x24 fun i26 =>
 nlC r25 <|
 cond (i26 == (0 : Int)) (callT Tryd.prog Lb n 17 [.agg [.int .i64 i11, .int .i64 i14, .int .i64 i17, .int .i64 i20, .int .i64 i23]] σ3 fun v28 σ27 =>
  xTup v28 fun cs29 =>
  unC cs29 fun x30 r31 =>
  xStr x30 fun s32 =>
  unC r31 fun x33 r34 =>
  xInt .i64 x33 fun i35 =>
  nlC r34 <|
  cond (i35 != (0 : Int)) (some (.ret (.bool false), σ27)) (cond (!(s32 == s1)) (some (.ret (.bool false), σ27)) (some (.ret (.bool b2), σ27)))) (some (.ret (.bool b2), σ3))
theorem f6_j2_g (L : Leaf) (n : Nat) (s1 : List UInt8) (b2 : Bool) (σ : St) : goT Tryd.prog Lb 6 n L [] [1, 1, 1, 1, 1, 1, 1, 1] [] ⟨tm 105 [(2, .v (.str s1)), (6, .v (.bool false)), (7, .v (.bool b2))] 0, []⟩ σ = f6_j2_t L n s1 b2 σ := by kernel_rfl
theorem f6_j2_e {n : Nat} {s1 : List UInt8} {b2 : Bool} {σ : St} : Le (f6_j2_t (pt Tryd.prog Lb 6 n) n s1 b2 σ) (f6_j2 (pt Tryd.prog Lb 6 n) s1 b2 σ) := by
  unfold f6_j2; exact goT_pt (f6_j2_g _ n s1 b2 σ)
/-! ### binnacle/binnaclelaw02.InstNames(a, b) -/
noncomputable def f7_j1 (L : Leaf) (i1 i2 : Int) (b3 : Bool) (s4 s5 : List UInt8) (σ : St) : Out :=
  L [1, 1, 1, 1, 1, 1] [] ⟨tm 51 [(0, .v (.int .i64 i1)), (1, .v (.int .i64 i2)), (4, .v (.bool false)), (5, .v (.bool b3)), (6, .v (.str s4)), (7, .v (.str s5))] 0, []⟩ σ
noncomputable def f7_t (L : Leaf) (n : Nat) (i1 i2 : Int) (σ : St) : Out :=
 callT Tryd.prog Lb n 10 [] σ fun v4 σ3 =>
 xBool v4 fun b5 =>
 callT Tryd.prog Lb n 21 [.int .i64 i1] σ3 fun v7 σ6 =>
 xStr v7 fun s8 =>
 callT Tryd.prog Lb n 21 [.int .i64 i2] σ6 fun v10 σ9 =>
 xStr v10 fun s11 =>
 cond (decide (i1 ≥ (1 : Int))) (cond (!((decide (i1 ≤ (87 : Int))) == (!(s8 == [])))) (some (.ret (.bool false), σ9)) (cond (decide (i1 ≤ (87 : Int))) (callT Tryd.prog Lb n 22 [] σ9 fun v13 σ12 =>
    xSl v13 fun a14 n15 _ z17 =>
    idxK i1 n15 <|
    derefK a14 fun b18 o19 =>
    szK z17 5 <|
    ldK Tryd.prog 9 σ12 b18 ((o19 + ((i1).toNat * 5)) + 0) fun x20 =>
    xStr x20 fun s21 =>
    cond (!(s8 == s21)) (some (.ret (.bool false), σ12)) (f7_j1 L i1 i2 b5 s8 s11 σ12)) (f7_j1 L i1 i2 b5 s8 s11 σ9))) (cond (!(false == (!(s8 == [])))) (some (.ret (.bool false), σ9)) (f7_j1 L i1 i2 b5 s8 s11 σ9))
theorem f7_g (L : Leaf) (n : Nat) (i1 i2 : Int) (σ : St) : goT Tryd.prog Lb 7 n L [[1, 1, 1, 1, 1, 1]] [] [] ⟨tm 51 [(0, .v (.int .i64 i1)), (1, .v (.int .i64 i2))] 0, []⟩ σ = f7_t L n i1 i2 σ := by kernel_rfl
theorem f7_e {n : Nat} {i1 i2 : Int} {σ : St} : Le (f7_t (pt Tryd.prog Lb 7 n) n i1 i2 σ) (callP Tryd.prog Lb (n + 1) 7 [.int .i64 i1, .int .i64 i2] σ) :=
  goT_call (f7_g _ n i1 i2 σ) rfl (by kernel_rfl) (by kernel_rfl)
noncomputable def f7_j1_t (_ : Leaf) (_ : Nat) (i1 i2 : Int) (b3 : Bool) (s4 s5 : List UInt8) (σ : St) : Out :=
 cond b3 (cond (!(s4 == s5)) (some (.ret (.bool true), σ)) (cond (s4 == []) (some (.ret (.bool true), σ)) (some (.ret (.bool (i1 == i2)), σ)))) (some (.ret (.bool false), σ))
theorem f7_j1_g (L : Leaf) (n : Nat) (i1 i2 : Int) (b3 : Bool) (s4 s5 : List UInt8) (σ : St) : goT Tryd.prog Lb 7 n L [] [1, 1, 1, 1, 1, 1] [] ⟨tm 51 [(0, .v (.int .i64 i1)), (1, .v (.int .i64 i2)), (4, .v (.bool false)), (5, .v (.bool b3)), (6, .v (.str s4)), (7, .v (.str s5))] 0, []⟩ σ = f7_j1_t L n i1 i2 b3 s4 s5 σ := by kernel_rfl
theorem f7_j1_e {n : Nat} {i1 i2 : Int} {b3 : Bool} {s4 s5 : List UInt8} {σ : St} : Le (f7_j1_t (pt Tryd.prog Lb 7 n) n i1 i2 b3 s4 s5 σ) (f7_j1 (pt Tryd.prog Lb 7 n) i1 i2 b3 s4 s5 σ) := by
  unfold f7_j1; exact goT_pt (f7_j1_g _ n i1 i2 b3 s4 s5 σ)
/-! ### binnacle/binnaclelaw02.InstApart(x, y) -/
noncomputable def f8_t (_ : Leaf) (n : Nat) (i1 i2 i3 i4 i5 i6 i7 i8 i9 i10 : Int) (σ : St) : Out :=
 callT Tryd.prog Lb n 10 [] σ fun v12 σ11 =>
 xBool v12 fun b13 =>
 callT Tryd.prog Lb n 13 [.agg [.int .i64 i1, .int .i64 i2, .int .i64 i3, .int .i64 i4, .int .i64 i5]] σ11 fun v15 σ14 =>
 xTup v15 fun cs16 =>
 unC cs16 fun x17 r18 =>
 xInt .u32 x17 fun i19 =>
 unC r18 fun x20 r21 =>
 xInt .i64 x20 fun i22 =>
 nlC r21 <|
 callT Tryd.prog Lb n 13 [.agg [.int .i64 i6, .int .i64 i7, .int .i64 i8, .int .i64 i9, .int .i64 i10]] σ14 fun v24 σ23 =>
 xTup v24 fun cs25 =>
 unC cs25 fun x26 r27 =>
 xInt .u32 x26 fun i28 =>
 unC r27 fun x29 r30 =>
 xInt .i64 x29 fun i31 =>
 nlC r30 <|
 callT Tryd.prog Lb n 17 [.agg [.int .i64 i1, .int .i64 i2, .int .i64 i3, .int .i64 i4, .int .i64 i5]] σ23 fun v33 σ32 =>
 xTup v33 fun cs34 =>
 unC cs34 fun x35 r36 =>
 xStr x35 fun s37 =>
 unC r36 fun x38 r39 =>
 xInt .i64 x38 fun i40 =>
 nlC r39 <|
 callT Tryd.prog Lb n 17 [.agg [.int .i64 i6, .int .i64 i7, .int .i64 i8, .int .i64 i9, .int .i64 i10]] σ32 fun v42 σ41 =>
 xTup v42 fun cs43 =>
 unC cs43 fun x44 r45 =>
 xStr x44 fun s46 =>
 unC r45 fun x47 r48 =>
 xInt .i64 x47 fun i49 =>
 nlC r48 <|
 cond (i22 != (0 : Int)) (cond b13 (cond (i22 == i40) (some (.ret (.bool (i31 == i49)), σ41)) (some (.ret (.bool false), σ41))) (some (.ret (.bool false), σ41))) (cond (i31 != (0 : Int)) (cond b13 (cond (i22 == i40) (some (.ret (.bool (i31 == i49)), σ41)) (some (.ret (.bool false), σ41))) (some (.ret (.bool false), σ41))) (cond ((i1 == i6) && ((i2 == i7) && ((i3 == i8) && ((i4 == i9) && ((i5 == i10) && true))))) (cond b13 (cond (i22 == i40) (some (.ret (.bool (i31 == i49)), σ41)) (some (.ret (.bool false), σ41))) (some (.ret (.bool false), σ41))) (cond b13 (cond (i40 == (0 : Int)) (cond (i49 == (0 : Int)) (cond (i19 != i28) (some (.ret (.bool (!(s37 == s46))), σ41)) (some (.ret (.bool false), σ41))) (some (.ret (.bool false), σ41))) (some (.ret (.bool false), σ41))) (some (.ret (.bool false), σ41)))))
theorem f8_g (L : Leaf) (n : Nat) (i1 i2 i3 i4 i5 i6 i7 i8 i9 i10 : Int) (σ : St) : goT Tryd.prog Lb 8 n L [] [] [] ⟨tm 76 [(0, .v (.agg [.int .i64 i1, .int .i64 i2, .int .i64 i3, .int .i64 i4, .int .i64 i5])), (1, .v (.agg [.int .i64 i6, .int .i64 i7, .int .i64 i8, .int .i64 i9, .int .i64 i10]))] 0, []⟩ σ = f8_t L n i1 i2 i3 i4 i5 i6 i7 i8 i9 i10 σ := by kernel_rfl
theorem f8_e {n : Nat} {i1 i2 i3 i4 i5 i6 i7 i8 i9 i10 : Int} {σ : St} : Le (f8_t (pt Tryd.prog Lb 8 n) n i1 i2 i3 i4 i5 i6 i7 i8 i9 i10 σ) (callP Tryd.prog Lb (n + 1) 8 [.agg [.int .i64 i1, .int .i64 i2, .int .i64 i3, .int .i64 i4, .int .i64 i5], .agg [.int .i64 i6, .int .i64 i7, .int .i64 i8, .int .i64 i9, .int .i64 i10]] σ) :=
  goT_call (f8_g _ n i1 i2 i3 i4 i5 i6 i7 i8 i9 i10 σ) rfl (by kernel_rfl) (by kernel_rfl)
/-! ### binnacle/binnaclelaw02.InstRegisters(with) -/
noncomputable def f9_j1 (L : Leaf) (i1 i2 : Int) (b3 : Bool) (i4 i5 i6 i7 i8 i9 i10 : Int) (σ : St) : Out :=
  L [1, 1, 1, 1, 1, 1, 1, 1, 1, 1, 1, 1, 1, 1, 1, 1] [] ⟨tm 84 [(2, .v (.bool false)), (3, .lp 3 0), (5, .v (.int .i64 i1)), (6, .v (.int .i64 i2)), (7, .v (.bool b3)), (13, .v (.int .u32 i4)), (14, .v (.int .u32 i5))] 0, [(3, [.int .i64 i6, .int .i64 i7, .int .i64 i8, .int .i64 i9, .int .i64 i10])]⟩ σ
noncomputable def f9_t (L : Leaf) (n : Nat) (i1 i2 i3 i4 i5 i6 i7 i8 : Int) (σ : St) : Out :=
 callT Tryd.prog Lb n 10 [] σ fun v10 σ9 =>
 xBool v10 fun b11 =>
 callT Tryd.prog Lb n 13 [.agg [.int .i64 i1, .int .i64 i2, .int .i64 i3, .int .i64 i4, .int .i64 i5]] σ9 fun v13 σ12 =>
 xTup v13 fun cs14 =>
 unC cs14 fun x15 r16 =>
 xInt .u32 x15 fun i17 =>
 unC r16 fun x18 r19 =>
 xInt .i64 x18 fun i20 =>
 nlC r19 <|
 callT Tryd.prog Lb n 13 [.agg [.int .i64 i1, .int .i64 i6, .int .i64 i7, .int .i64 i8, .int .i64 i5]] σ12 fun v22 σ21 =>
 xTup v22 fun cs23 =>
 unC cs23 fun x24 r25 =>
 xInt .u32 x24 fun i26 =>
 unC r25 fun x27 r28 =>
 xInt .i64 x27 fun i29 =>
 nlC r28 <|
 cond (i20 != (0 : Int)) (some (.ret (.bool b11), σ21)) (cond (i29 != (0 : Int)) (some (.ret (.bool b11), σ21)) (cond (i2 != i6) (f9_j1 L i7 i8 b11 (IntKind.wrap .u32 (((BitVec.ofInt 32 i17 ^^^ BitVec.ofInt 32 i26).toNat : Nat) : Int)) (IntKind.wrap .u32 (((BitVec.ofInt 32 (0 : Int) ||| BitVec.ofInt 32 (IntKind.wrap .u32 ((IntKind.wrap .u32 (IntKind.wrap .i64 (((BitVec.ofInt 64 i2 ^^^ BitVec.ofInt 64 i6).toNat : Nat) : Int))) * 2 ^ 7))).toNat : Nat) : Int)) i1 i2 i3 i4 i5 σ21) (f9_j1 L i7 i8 b11 (IntKind.wrap .u32 (((BitVec.ofInt 32 i17 ^^^ BitVec.ofInt 32 i26).toNat : Nat) : Int)) (0 : Int) i1 i2 i3 i4 i5 σ21)))
theorem f9_g (L : Leaf) (n : Nat) (i1 i2 i3 i4 i5 i6 i7 i8 : Int) (σ : St) : goT Tryd.prog Lb 9 n L [[1, 1, 1, 1, 1, 1, 1, 1, 1, 1, 1, 1, 1, 1, 1, 1]] [] [] ⟨tm 84 [(0, .v (.agg [.int .i64 i1, .int .i64 i2, .int .i64 i3, .int .i64 i4, .int .i64 i5, .int .i64 i6, .int .i64 i7, .int .i64 i8]))] 0, []⟩ σ = f9_t L n i1 i2 i3 i4 i5 i6 i7 i8 σ := by kernel_rfl
theorem f9_e {n : Nat} {i1 i2 i3 i4 i5 i6 i7 i8 : Int} {σ : St} : Le (f9_t (pt Tryd.prog Lb 9 n) n i1 i2 i3 i4 i5 i6 i7 i8 σ) (callP Tryd.prog Lb (n + 1) 9 [.agg [.int .i64 i1, .int .i64 i2, .int .i64 i3, .int .i64 i4, .int .i64 i5, .int .i64 i6, .int .i64 i7, .int .i64 i8]] σ) :=
  goT_call (f9_g _ n i1 i2 i3 i4 i5 i6 i7 i8 σ) rfl (by kernel_rfl) (by kernel_rfl)
noncomputable def f9_j1_t (_ : Leaf) (_ : Nat) (i1 i2 : Int) (b3 : Bool) (i4 i5 _ _ i8 i9 _ : Int) (σ : St) : Out :=
 cond b3 (some (.ret (.bool (i4 == (IntKind.wrap .u32 (((BitVec.ofInt 32 (IntKind.wrap .u32 (((BitVec.ofInt 32 i5 ||| BitVec.ofInt 32 (IntKind.wrap .u32 ((IntKind.wrap .u32 (IntKind.wrap .i64 (((BitVec.ofInt 64 i8 ^^^ BitVec.ofInt 64 i1).toNat : Nat) : Int))) * 2 ^ 15))).toNat : Nat) : Int)) ||| BitVec.ofInt 32 (IntKind.wrap .u32 ((IntKind.wrap .u32 (IntKind.wrap .i64 (((BitVec.ofInt 64 i9 ^^^ BitVec.ofInt 64 i2).toNat : Nat) : Int))) * 2 ^ 20))).toNat : Nat) : Int)))), σ)) (some (.ret (.bool false), σ))
theorem f9_j1_g (L : Leaf) (n : Nat) (i1 i2 : Int) (b3 : Bool) (i4 i5 i6 i7 i8 i9 i10 : Int) (σ : St) : goT Tryd.prog Lb 9 n L [] [1, 1, 1, 1, 1, 1, 1, 1, 1, 1, 1, 1, 1, 1, 1, 1] [] ⟨tm 84 [(2, .v (.bool false)), (3, .lp 3 0), (5, .v (.int .i64 i1)), (6, .v (.int .i64 i2)), (7, .v (.bool b3)), (13, .v (.int .u32 i4)), (14, .v (.int .u32 i5))] 0, [(3, [.int .i64 i6, .int .i64 i7, .int .i64 i8, .int .i64 i9, .int .i64 i10])]⟩ σ = f9_j1_t L n i1 i2 b3 i4 i5 i6 i7 i8 i9 i10 σ := by kernel_rfl
theorem f9_j1_e {n : Nat} {i1 i2 : Int} {b3 : Bool} {i4 i5 i6 i7 i8 i9 i10 : Int} {σ : St} : Le (f9_j1_t (pt Tryd.prog Lb 9 n) n i1 i2 b3 i4 i5 i6 i7 i8 i9 i10 σ) (f9_j1 (pt Tryd.prog Lb 9 n) i1 i2 b3 i4 i5 i6 i7 i8 i9 i10 σ) := by
  unfold f9_j1; exact goT_pt (f9_j1_g _ n i1 i2 b3 i4 i5 i6 i7 i8 i9 i10 σ)
/-! ### binnacle/binnaclelaw02.shown() -/
noncomputable def f10_t (_ : Leaf) (n : Nat) (σ : St) : Out :=
 callT Tryd.prog Lb n 13 [.agg [.int .i64 (22 : Int), .int .i64 (1 : Int), .int .i64 (2 : Int), .int .i64 (0 : Int), .int .i64 (-5 : Int)]] σ fun v2 σ1 =>
 xTup v2 fun cs3 =>
 unC cs3 fun x4 r5 =>
 xInt .u32 x4 fun i6 =>
 unC r5 fun x7 r8 =>
 xInt .i64 x7 fun i9 =>
 nlC r8 <|
 callT Tryd.prog Lb n 15 [.int .u32 (4263546595 : Int)] σ1 fun v11 σ10 =>
 xTup v11 fun cs12 =>
 unC cs12 fun x13 r14 =>
 xAgg x13 fun cs15 =>
 unC cs15 fun x16 r17 =>
 xInt .i64 x16 fun i18 =>
 unC r17 fun x19 r20 =>
 xInt .i64 x19 fun i21 =>
 unC r20 fun x22 r23 =>
 xInt .i64 x22 fun i24 =>
 unC r23 fun x25 r26 =>
 xInt .i64 x25 fun i27 =>
 unC r26 fun x28 r29 =>
 xInt .i64 x28 fun i30 =>
 nlC r29 <|
 unC r14 fun x31 r32 =>
 xInt .i64 x31 fun i33 =>
 nlC r32 <|
 callT Tryd.prog Lb n 17 [.agg [.int .i64 (69 : Int), .int .i64 (5 : Int), .int .i64 (6 : Int), .int .i64 (7 : Int), .int .i64 (3 : Int)]] σ10 fun v35 σ34 =>
 xTup v35 fun cs36 =>
 unC cs36 fun x37 r38 =>
 xStr x37 fun s39 =>
 unC r38 fun x40 r41 =>
 xInt .i64 x40 fun i42 =>
 nlC r41 <|
 callT Tryd.prog Lb n 19 [.str [115, 100, 32, 120, 49, 44, 32, 49, 54, 40, 120, 50, 41]] σ34 fun v44 σ43 =>
 xTup v44 fun cs45 =>
 unC cs45 fun x46 r47 =>
 xAgg x46 fun cs48 =>
 unC cs48 fun x49 r50 =>
 xInt .i64 x49 fun i51 =>
 unC r50 fun x52 r53 =>
 xInt .i64 x52 fun i54 =>
 unC r53 fun x55 r56 =>
 xInt .i64 x55 fun i57 =>
 unC r56 fun x58 r59 =>
 xInt .i64 x58 fun i60 =>
 unC r59 fun x61 r62 =>
 xInt .i64 x61 fun i63 =>
 nlC r62 <|
 unC r47 fun x64 r65 =>
 xInt .i64 x64 fun i66 =>
 nlC r65 <|
 cond (i9 == (0 : Int)) (cond (i6 == (4289790099 : Int)) (cond (i33 == (0 : Int)) (cond ((i18 == (5 : Int)) && ((i21 == (0 : Int)) && ((i24 == (1 : Int)) && ((i27 == (2 : Int)) && ((i30 == (-4 : Int)) && true))))) (cond (i42 == (0 : Int)) (cond (s39 == [97, 109, 111, 97, 100, 100, 46, 119, 46, 97, 113, 114, 108, 32, 120, 53, 44, 32, 120, 55, 44, 32, 40, 120, 54, 41]) (cond (i66 == (0 : Int)) (some (.ret (.bool ((i51 == (21 : Int)) && ((i54 == (0 : Int)) && ((i57 == (2 : Int)) && ((i60 == (1 : Int)) && ((i63 == (16 : Int)) && true)))))), σ43)) (some (.ret (.bool false), σ43))) (some (.ret (.bool false), σ43))) (some (.ret (.bool false), σ43))) (some (.ret (.bool false), σ43))) (some (.ret (.bool false), σ43))) (some (.ret (.bool false), σ43))) (some (.ret (.bool false), σ43))
theorem f10_g (L : Leaf) (n : Nat)  (σ : St) : goT Tryd.prog Lb 10 n L [] [] [] ⟨tm 59 [] 0, []⟩ σ = f10_t L n  σ := by kernel_rfl
theorem f10_e {n : Nat}  {σ : St} : Le (f10_t (pt Tryd.prog Lb 10 n) n  σ) (callP Tryd.prog Lb (n + 1) 10 [] σ) :=
  goT_call (f10_g _ n  σ) rfl (by kernel_rfl) (by kernel_rfl)
end Go.Proofs

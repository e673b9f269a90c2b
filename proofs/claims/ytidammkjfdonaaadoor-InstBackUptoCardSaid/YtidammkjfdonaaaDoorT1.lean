/- The functions, as trees of named steps. -/
import Derived.Test.YtidammkjfdonaaaDoorAmT
import Derived.Test.YtidammkjfdonaaaDoorLb
import Derived.Test.YtidammkjfdonaaaDoorChecked
namespace Go.Proofs
open Go.AM
set_option maxHeartbeats 4000000
/-! ### binnacle/inst.May(x) -/
noncomputable def f11_l1 (L : Leaf) (m0 : Nat) (i1 i2 i3 i4 i5 i6 i7 i8 i9 i10 : Int) (b11 b12 b13 b14 : Bool) (σ : St) : Out :=
  L [1, 1, 1, 1, 0, 1, 0] [m0] ⟨tm 62 [(1, .lp 1 0), (2, .v (.bool false)), (3, .v (.int .u32 i1)), (4, .lp 4 0), (30, .v (.agg [.int .i64 i2, .int .i64 i3, .int .i64 i4])), (31, .v (.int .i64 i5))] 0, [(1, [.int .i64 i6, .int .i64 i7, .int .i64 i8, .int .i64 i9, .int .i64 i10]), (4, [.bool b11, .bool b12, .bool b13, .bool b14])]⟩ σ
noncomputable def f11_j2 (L : Leaf) (i1 i2 i3 i4 i5 i6 : Int) (b7 b8 b9 b10 : Bool) (σ : St) : Out :=
  L [1, 1, 1, 1, 1] [] ⟨tm 62 [(1, .lp 1 0), (2, .v (.bool false)), (3, .v (.int .u32 i1)), (4, .lp 4 0)] 0, [(1, [.int .i64 i2, .int .i64 i3, .int .i64 i4, .int .i64 i5, .int .i64 i6]), (4, [.bool b7, .bool b8, .bool b9, .bool b10])]⟩ σ
noncomputable def f11_t (L : Leaf) (n : Nat) (i1 i2 i3 i4 i5 : Int) (σ : St) : Out :=
 cond (decide (i1 < (1 : Int))) (some (.ret (.bool false), σ)) (cond (decide (i1 > (87 : Int))) (some (.ret (.bool false), σ)) (callTD Tryd.prog Lb n 23 [] σ fun v7 σ6 =>
   xAgg v7 fun cs8 =>
   idxK i1 88 <|
   partK Tryd.prog 57 cs8 ((i1).toNat * 4) fun x9 =>
   xAgg x9 fun cs10 =>
   unC cs10 fun x11 r12 =>
   xInt .u32 x11 fun i13 =>
   unC r12 fun x14 r15 =>
   xInt .u32 x14 fun _ =>
   unC r15 fun x17 r18 =>
   xInt .u32 x17 fun _ =>
   unC r18 fun x20 r21 =>
   xInt .u32 x20 fun _ =>
   nlC r21 <|
   callT Tryd.prog Lb n 24 [.int .u32 i13, .int .i64 i1] σ6 fun v24 σ23 =>
   xAgg v24 fun cs25 =>
   unC cs25 fun x26 r27 =>
   xBool x26 fun b28 =>
   unC r27 fun x29 r30 =>
   xBool x29 fun b31 =>
   unC r30 fun x32 r33 =>
   xBool x32 fun b34 =>
   unC r33 fun x35 r36 =>
   xBool x35 fun b37 =>
   nlC r36 <|
   f11_l1 L n i13 i2 i3 i4 (0 : Int) i1 i2 i3 i4 i5 b28 b31 b34 b37 σ23))
theorem f11_g (L : Leaf) (n : Nat) (i1 i2 i3 i4 i5 : Int) (σ : St) : goT Tryd.prog Lb 11 n L [] [] [] ⟨tm 62 [(0, .v (.agg [.int .i64 i1, .int .i64 i2, .int .i64 i3, .int .i64 i4, .int .i64 i5]))] 0, []⟩ σ = f11_t L n i1 i2 i3 i4 i5 σ := by kernel_rfl
theorem f11_e {n : Nat} {i1 i2 i3 i4 i5 : Int} {σ : St} : Le (f11_t (pt Tryd.prog Lb 11 n) n i1 i2 i3 i4 i5 σ) (callP Tryd.prog Lb (n + 1) 11 [.agg [.int .i64 i1, .int .i64 i2, .int .i64 i3, .int .i64 i4, .int .i64 i5]] σ) :=
  goT_call (f11_g _ n i1 i2 i3 i4 i5 σ) rfl (by kernel_rfl) (by kernel_rfl)
noncomputable def f11_l1_t (L : Leaf) (_ m0 : Nat) (i1 i2 i3 i4 i5 i6 i7 i8 i9 i10 : Int) (b11 b12 b13 b14 : Bool) (σ : St) : Out :=
 cond (decide (i5 < (3 : Int))) (idxK i5 3 <|
  partK Tryd.prog 3 [.int .i64 i2, .int .i64 i3, .int .i64 i4] ((i5).toNat * 1) fun x15 =>
  xInt .i64 x15 fun i16 =>
  cond (decide (i16 < (0 : Int))) (some (.ret (.bool false), σ)) (cond (decide (i16 > (31 : Int))) (some (.ret (.bool false), σ)) (idxK i5 4 <|
    partK Tryd.prog 4 [.bool b11, .bool b12, .bool b13, .bool b14] (0 + ((i5).toNat * 1)) fun x17 =>
    xBool x17 fun b18 =>
    cond (!b18) (cond (i16 != (0 : Int)) (some (.ret (.bool false), σ)) (f11_l1 L m0 i1 i2 i3 i4 (IntKind.wrap .i64 (i5 + (1 : Int))) i6 i7 i8 i9 i10 b11 b12 b13 b14 σ)) (f11_l1 L m0 i1 i2 i3 i4 (IntKind.wrap .i64 (i5 + (1 : Int))) i6 i7 i8 i9 i10 b11 b12 b13 b14 σ)))) (f11_j2 L i1 i6 i7 i8 i9 i10 b11 b12 b13 b14 σ)
theorem f11_l1_g (L : Leaf) (n : Nat) (m0 : Nat) (i1 i2 i3 i4 i5 i6 i7 i8 i9 i10 : Int) (b11 b12 b13 b14 : Bool) (σ : St) : goT Tryd.prog Lb 11 n L [[1, 1, 1, 1, 1]] [1, 1, 1, 1, 0, 1, 0] [m0 + 1] ⟨tm 62 [(1, .lp 1 0), (2, .v (.bool false)), (3, .v (.int .u32 i1)), (4, .lp 4 0), (30, .v (.agg [.int .i64 i2, .int .i64 i3, .int .i64 i4])), (31, .v (.int .i64 i5))] 0, [(1, [.int .i64 i6, .int .i64 i7, .int .i64 i8, .int .i64 i9, .int .i64 i10]), (4, [.bool b11, .bool b12, .bool b13, .bool b14])]⟩ σ = f11_l1_t L n m0 i1 i2 i3 i4 i5 i6 i7 i8 i9 i10 b11 b12 b13 b14 σ := by kernel_rfl
theorem f11_l1_e {n : Nat} {m0 : Nat} {i1 i2 i3 i4 i5 i6 i7 i8 i9 i10 : Int} {b11 b12 b13 b14 : Bool} {σ : St} : Le (f11_l1_t (pt Tryd.prog Lb 11 n) n m0 i1 i2 i3 i4 i5 i6 i7 i8 i9 i10 b11 b12 b13 b14 σ) (f11_l1 (pt Tryd.prog Lb 11 n) (m0 + 1) i1 i2 i3 i4 i5 i6 i7 i8 i9 i10 b11 b12 b13 b14 σ) := by
  unfold f11_l1; exact goT_pt (f11_l1_g _ n m0 i1 i2 i3 i4 i5 i6 i7 i8 i9 i10 b11 b12 b13 b14 σ)
noncomputable def f11_j2_t (_ : Leaf) (n : Nat) (i1 _ _ _ _ i6 : Int) (_ _ _ b10 : Bool) (σ : St) : Out :=
 cond (!b10) (some (.ret (.bool (i6 == (0 : Int))), σ)) (callT Tryd.prog Lb n 25 [.int .u32 i1, .int .i64 i6] σ fun v12 σ11 =>
  xBool v12 fun b13 =>
  some (.ret (.bool b13), σ11))
theorem f11_j2_g (L : Leaf) (n : Nat) (i1 i2 i3 i4 i5 i6 : Int) (b7 b8 b9 b10 : Bool) (σ : St) : goT Tryd.prog Lb 11 n L [] [1, 1, 1, 1, 1] [] ⟨tm 62 [(1, .lp 1 0), (2, .v (.bool false)), (3, .v (.int .u32 i1)), (4, .lp 4 0)] 0, [(1, [.int .i64 i2, .int .i64 i3, .int .i64 i4, .int .i64 i5, .int .i64 i6]), (4, [.bool b7, .bool b8, .bool b9, .bool b10])]⟩ σ = f11_j2_t L n i1 i2 i3 i4 i5 i6 b7 b8 b9 b10 σ := by kernel_rfl
theorem f11_j2_e {n : Nat} {i1 i2 i3 i4 i5 i6 : Int} {b7 b8 b9 b10 : Bool} {σ : St} : Le (f11_j2_t (pt Tryd.prog Lb 11 n) n i1 i2 i3 i4 i5 i6 b7 b8 b9 b10 σ) (f11_j2 (pt Tryd.prog Lb 11 n) i1 i2 i3 i4 i5 i6 b7 b8 b9 b10 σ) := by
  unfold f11_j2; exact goT_pt (f11_j2_g _ n i1 i2 i3 i4 i5 i6 b7 b8 b9 b10 σ)
/-! ### binnacle/binnacleref02.May(x) -/
noncomputable def f12_t (_ : Leaf) (n : Nat) (i1 i2 i3 i4 i5 : Int) (σ : St) : Out :=
 cond (decide (i1 < (1 : Int))) (some (.ret (.bool false), σ)) (cond (decide (i1 > (87 : Int))) (some (.ret (.bool false), σ)) (callT Tryd.prog Lb n 26 [.int .i64 i2] σ fun v7 σ6 =>
   xBool v7 fun b8 =>
   callT Tryd.prog Lb n 26 [.int .i64 i3] σ6 fun v10 σ9 =>
   xBool v10 fun b11 =>
   callT Tryd.prog Lb n 26 [.int .i64 i4] σ9 fun v13 σ12 =>
   xBool v13 fun b14 =>
   cond (!b8) (some (.ret (.bool false), σ12)) (cond (!b11) (some (.ret (.bool false), σ12)) (cond (!b14) (some (.ret (.bool false), σ12)) (callTD Tryd.prog Lb n 22 [] σ12 fun v16 σ15 =>
      xSl v16 fun a17 n18 _ z20 =>
      idxK i1 n18 <|
      derefK a17 fun b21 o22 =>
      szK z20 5 <|
      ldK Tryd.prog 47 σ15 b21 (o22 + ((i1).toNat * 5)) fun x23 =>
      xAgg x23 fun cs24 =>
      unC cs24 fun x25 r26 =>
      xStr x25 fun _ =>
      unC r26 fun x28 r29 =>
      xStr x28 fun s30 =>
      unC r29 fun x31 r32 =>
      xInt .u32 x31 fun _ =>
      unC r32 fun x34 r35 =>
      xInt .u32 x34 fun _ =>
      unC r35 fun x37 r38 =>
      xInt .u32 x37 fun _ =>
      nlC r38 <|
      cond (s30 == [85]) (cond (i3 == (0 : Int)) (cond (i4 == (0 : Int)) (callT Tryd.prog Lb n 27 [.int .i64 i5, .int .i64 (-2147483648 : Int), .int .i64 (2147479552 : Int), .int .i64 (4096 : Int)] σ15 fun v41 σ40 =>
         xBool v41 fun b42 =>
         some (.ret (.bool b42), σ40)) (some (.ret (.bool false), σ15))) (some (.ret (.bool false), σ15))) (cond (s30 == [74]) (cond (i3 == (0 : Int)) (cond (i4 == (0 : Int)) (callT Tryd.prog Lb n 27 [.int .i64 i5, .int .i64 (-1048576 : Int), .int .i64 (1048574 : Int), .int .i64 (2 : Int)] σ15 fun v44 σ43 =>
          xBool v44 fun b45 =>
          some (.ret (.bool b45), σ43)) (some (.ret (.bool false), σ15))) (some (.ret (.bool false), σ15))) (cond (s30 == [73]) (cond (i4 == (0 : Int)) (callT Tryd.prog Lb n 27 [.int .i64 i5, .int .i64 (-2048 : Int), .int .i64 (2047 : Int), .int .i64 (1 : Int)] σ15 fun v47 σ46 =>
          xBool v47 fun b48 =>
          some (.ret (.bool b48), σ46)) (some (.ret (.bool false), σ15))) (cond (s30 == [66]) (cond (i2 == (0 : Int)) (callT Tryd.prog Lb n 27 [.int .i64 i5, .int .i64 (-4096 : Int), .int .i64 (4094 : Int), .int .i64 (2 : Int)] σ15 fun v50 σ49 =>
           xBool v50 fun b51 =>
           some (.ret (.bool b51), σ49)) (some (.ret (.bool false), σ15))) (cond (s30 == [83]) (cond (i2 == (0 : Int)) (callT Tryd.prog Lb n 27 [.int .i64 i5, .int .i64 (-2048 : Int), .int .i64 (2047 : Int), .int .i64 (1 : Int)] σ15 fun v53 σ52 =>
            xBool v53 fun b54 =>
            some (.ret (.bool b54), σ52)) (some (.ret (.bool false), σ15))) (cond (s30 == [72]) (cond (i4 == (0 : Int)) (callT Tryd.prog Lb n 27 [.int .i64 i5, .int .i64 (0 : Int), .int .i64 (63 : Int), .int .i64 (1 : Int)] σ15 fun v56 σ55 =>
            xBool v56 fun b57 =>
            some (.ret (.bool b57), σ55)) (some (.ret (.bool false), σ15))) (cond (s30 == [86]) (cond (i4 == (0 : Int)) (callT Tryd.prog Lb n 27 [.int .i64 i5, .int .i64 (0 : Int), .int .i64 (31 : Int), .int .i64 (1 : Int)] σ15 fun v59 σ58 =>
            xBool v59 fun b60 =>
            some (.ret (.bool b60), σ58)) (some (.ret (.bool false), σ15))) (cond (s30 == [82]) (some (.ret (.bool (i5 == (0 : Int))), σ15)) (cond (s30 == [65]) (cond (i1 == (66 : Int)) (callT Tryd.prog Lb n 27 [.int .i64 i5, .int .i64 (0 : Int), .int .i64 (3 : Int), .int .i64 (1 : Int)] σ15 fun v62 σ61 =>
            xBool v62 fun b63 =>
            cond b63 (some (.ret (.bool (i4 == (0 : Int))), σ61)) (some (.ret (.bool false), σ61))) (callT Tryd.prog Lb n 27 [.int .i64 i5, .int .i64 (0 : Int), .int .i64 (3 : Int), .int .i64 (1 : Int)] σ15 fun v65 σ64 =>
            xBool v65 fun b66 =>
            cond b66 (cond (!(i1 == (77 : Int))) (some (.ret (.bool true), σ64)) (some (.ret (.bool (i4 == (0 : Int))), σ64))) (some (.ret (.bool false), σ64)))) (cond (i2 == (0 : Int)) (cond (i3 == (0 : Int)) (cond (i4 == (0 : Int)) (some (.ret (.bool (i5 == (0 : Int))), σ15)) (some (.ret (.bool false), σ15))) (some (.ret (.bool false), σ15))) (some (.ret (.bool false), σ15))))))))))))))))
theorem f12_g (L : Leaf) (n : Nat) (i1 i2 i3 i4 i5 : Int) (σ : St) : goT Tryd.prog Lb 12 n L [] [] [] ⟨tm 160 [(0, .v (.agg [.int .i64 i1, .int .i64 i2, .int .i64 i3, .int .i64 i4, .int .i64 i5]))] 0, []⟩ σ = f12_t L n i1 i2 i3 i4 i5 σ := by kernel_rfl
theorem f12_e {n : Nat} {i1 i2 i3 i4 i5 : Int} {σ : St} : Le (f12_t (pt Tryd.prog Lb 12 n) n i1 i2 i3 i4 i5 σ) (callP Tryd.prog Lb (n + 1) 12 [.agg [.int .i64 i1, .int .i64 i2, .int .i64 i3, .int .i64 i4, .int .i64 i5]] σ) :=
  goT_call (f12_g _ n i1 i2 i3 i4 i5 σ) rfl (by kernel_rfl) (by kernel_rfl)
/-! ### binnacle/inst.Encode(x) -/
noncomputable def f13_j1 (L : Leaf) (i1 i2 i3 : Int) (σ : St) : Out :=
  L [1, 1, 1, 1, 1, 1, 1] [] ⟨tm 177 [(2, .v (.int .u32 i1)), (3, .v (.int .i64 i2)), (10, .v (.int .u32 i3))] 0, []⟩ σ
noncomputable def f13_j2 (L : Leaf) (i1 i2 i3 i4 i5 i6 i7 i8 i9 i10 i11 i12 i13 : Int) (σ : St) : Out :=
  L [1, 1, 1, 1, 1, 1, 0, 1, 0, 1, 1, 1, 1, 1, 1, 1, 1, 1, 1, 1] [] ⟨tm 177 [(2, .v (.int .u32 i1)), (3, .v (.int .i64 i2)), (4, .lp 4 0), (5, .v (.int .u32 i3)), (6, .v (.int .u32 i4)), (7, .v (.int .u32 i5)), (8, .v (.int .u32 i6)), (9, .v (.int .i64 i7)), (10, .v (.int .u32 i8)), (38, .v (.int .u32 i9)), (124, .v (.bool true))] 0, [(4, [.int .u32 i10, .int .u32 i11, .int .u32 i12, .int .u32 i13])]⟩ σ
noncomputable def f13_j3 (L : Leaf) (i1 i2 i3 i4 i5 i6 i7 i8 i9 : Int) (b10 : Bool) (i11 i12 i13 i14 : Int) (σ : St) : Out :=
  L [1, 1, 1, 1, 1, 1, 0, 1, 0, 1, 1, 1, 1, 1, 1, 1, 1, 1, 1, 1] [] ⟨tm 177 [(2, .v (.int .u32 i1)), (3, .v (.int .i64 i2)), (4, .lp 4 0), (5, .v (.int .u32 i3)), (6, .v (.int .u32 i4)), (7, .v (.int .u32 i5)), (8, .v (.int .u32 i6)), (9, .v (.int .i64 i7)), (10, .v (.int .u32 i8)), (38, .v (.int .u32 i9)), (124, .v (.bool b10))] 0, [(4, [.int .u32 i11, .int .u32 i12, .int .u32 i13, .int .u32 i14])]⟩ σ
noncomputable def f13_t (L : Leaf) (n : Nat) (i1 i2 i3 i4 i5 : Int) (σ : St) : Out :=
 callT Tryd.prog Lb n 11 [.agg [.int .i64 i1, .int .i64 i2, .int .i64 i3, .int .i64 i4, .int .i64 i5]] σ fun v7 σ6 =>
 xBool v7 fun b8 =>
 cond (!b8) (some (.ret (.tuple [.int .u32 (0 : Int), .int .i64 (2 : Int)]), σ6)) (callTD Tryd.prog Lb n 23 [] σ6 fun v10 σ9 =>
  xAgg v10 fun cs11 =>
  idxK i1 88 <|
  partK Tryd.prog 57 cs11 ((i1).toNat * 4) fun x12 =>
  xAgg x12 fun cs13 =>
  unC cs13 fun x14 r15 =>
  xInt .u32 x14 fun i16 =>
  unC r15 fun x17 r18 =>
  xInt .u32 x17 fun i19 =>
  unC r18 fun x20 r21 =>
  xInt .u32 x20 fun i22 =>
  unC r21 fun x23 r24 =>
  xInt .u32 x23 fun i25 =>
  nlC r24 <|
  cond (i16 == (1 : Int)) (callT Tryd.prog Lb n 28 [.int .i64 i5, .int .i64 (12 : Int), .int .i64 (20 : Int)] σ9 fun v27 σ26 =>
   xInt .u32 v27 fun i28 =>
   f13_j1 L (0 : Int) (0 : Int) (IntKind.wrap .u32 (((BitVec.ofInt 32 i19 ||| BitVec.ofInt 32 (IntKind.wrap .u32 (((BitVec.ofInt 32 (IntKind.wrap .u32 ((IntKind.wrap .u32 i2) * 2 ^ 7)) ||| BitVec.ofInt 32 (IntKind.wrap .u32 (i28 * 2 ^ 12))).toNat : Nat) : Int))).toNat : Nat) : Int)) σ26) (cond (i16 == (2 : Int)) (callT Tryd.prog Lb n 28 [.int .i64 i5, .int .i64 (20 : Int), .int .i64 (1 : Int)] σ9 fun v30 σ29 =>
    xInt .u32 v30 fun i31 =>
    callT Tryd.prog Lb n 28 [.int .i64 i5, .int .i64 (1 : Int), .int .i64 (10 : Int)] σ29 fun v33 σ32 =>
    xInt .u32 v33 fun i34 =>
    callT Tryd.prog Lb n 28 [.int .i64 i5, .int .i64 (11 : Int), .int .i64 (1 : Int)] σ32 fun v36 σ35 =>
    xInt .u32 v36 fun i37 =>
    callT Tryd.prog Lb n 28 [.int .i64 i5, .int .i64 (12 : Int), .int .i64 (8 : Int)] σ35 fun v39 σ38 =>
    xInt .u32 v39 fun i40 =>
    f13_j1 L (0 : Int) (0 : Int) (IntKind.wrap .u32 (((BitVec.ofInt 32 i19 ||| BitVec.ofInt 32 (IntKind.wrap .u32 (((BitVec.ofInt 32 (IntKind.wrap .u32 (((BitVec.ofInt 32 (IntKind.wrap .u32 (((BitVec.ofInt 32 (IntKind.wrap .u32 (((BitVec.ofInt 32 (IntKind.wrap .u32 ((IntKind.wrap .u32 i2) * 2 ^ 7)) ||| BitVec.ofInt 32 (IntKind.wrap .u32 (i31 * 2 ^ 31))).toNat : Nat) : Int)) ||| BitVec.ofInt 32 (IntKind.wrap .u32 (i34 * 2 ^ 21))).toNat : Nat) : Int)) ||| BitVec.ofInt 32 (IntKind.wrap .u32 (i37 * 2 ^ 20))).toNat : Nat) : Int)) ||| BitVec.ofInt 32 (IntKind.wrap .u32 (i40 * 2 ^ 12))).toNat : Nat) : Int))).toNat : Nat) : Int)) σ38) (cond (i16 == (3 : Int)) (callT Tryd.prog Lb n 28 [.int .i64 i5, .int .i64 (0 : Int), .int .i64 (12 : Int)] σ9 fun v42 σ41 =>
     xInt .u32 v42 fun i43 =>
     f13_j1 L (0 : Int) (0 : Int) (IntKind.wrap .u32 (((BitVec.ofInt 32 i19 ||| BitVec.ofInt 32 (IntKind.wrap .u32 (((BitVec.ofInt 32 (IntKind.wrap .u32 (((BitVec.ofInt 32 (IntKind.wrap .u32 (((BitVec.ofInt 32 (IntKind.wrap .u32 ((IntKind.wrap .u32 i2) * 2 ^ 7)) ||| BitVec.ofInt 32 (IntKind.wrap .u32 (i22 * 2 ^ 12))).toNat : Nat) : Int)) ||| BitVec.ofInt 32 (IntKind.wrap .u32 ((IntKind.wrap .u32 i3) * 2 ^ 15))).toNat : Nat) : Int)) ||| BitVec.ofInt 32 (IntKind.wrap .u32 (i43 * 2 ^ 20))).toNat : Nat) : Int))).toNat : Nat) : Int)) σ41) (cond (i16 == (4 : Int)) (callT Tryd.prog Lb n 28 [.int .i64 i5, .int .i64 (12 : Int), .int .i64 (1 : Int)] σ9 fun v45 σ44 =>
      xInt .u32 v45 fun i46 =>
      callT Tryd.prog Lb n 28 [.int .i64 i5, .int .i64 (5 : Int), .int .i64 (6 : Int)] σ44 fun v48 σ47 =>
      xInt .u32 v48 fun i49 =>
      callT Tryd.prog Lb n 28 [.int .i64 i5, .int .i64 (1 : Int), .int .i64 (4 : Int)] σ47 fun v51 σ50 =>
      xInt .u32 v51 fun i52 =>
      callT Tryd.prog Lb n 28 [.int .i64 i5, .int .i64 (11 : Int), .int .i64 (1 : Int)] σ50 fun v54 σ53 =>
      xInt .u32 v54 fun i55 =>
      f13_j1 L (0 : Int) (0 : Int) (IntKind.wrap .u32 (((BitVec.ofInt 32 i19 ||| BitVec.ofInt 32 (IntKind.wrap .u32 (((BitVec.ofInt 32 (IntKind.wrap .u32 (((BitVec.ofInt 32 (IntKind.wrap .u32 (((BitVec.ofInt 32 (IntKind.wrap .u32 (((BitVec.ofInt 32 (IntKind.wrap .u32 (((BitVec.ofInt 32 (IntKind.wrap .u32 (((BitVec.ofInt 32 (IntKind.wrap .u32 (i22 * 2 ^ 12)) ||| BitVec.ofInt 32 (IntKind.wrap .u32 ((IntKind.wrap .u32 i3) * 2 ^ 15))).toNat : Nat) : Int)) ||| BitVec.ofInt 32 (IntKind.wrap .u32 ((IntKind.wrap .u32 i4) * 2 ^ 20))).toNat : Nat) : Int)) ||| BitVec.ofInt 32 (IntKind.wrap .u32 (i46 * 2 ^ 31))).toNat : Nat) : Int)) ||| BitVec.ofInt 32 (IntKind.wrap .u32 (i49 * 2 ^ 25))).toNat : Nat) : Int)) ||| BitVec.ofInt 32 (IntKind.wrap .u32 (i52 * 2 ^ 8))).toNat : Nat) : Int)) ||| BitVec.ofInt 32 (IntKind.wrap .u32 (i55 * 2 ^ 7))).toNat : Nat) : Int))).toNat : Nat) : Int)) σ53) (cond (i16 == (5 : Int)) (callT Tryd.prog Lb n 28 [.int .i64 i5, .int .i64 (5 : Int), .int .i64 (7 : Int)] σ9 fun v57 σ56 =>
       xInt .u32 v57 fun i58 =>
       callT Tryd.prog Lb n 28 [.int .i64 i5, .int .i64 (0 : Int), .int .i64 (5 : Int)] σ56 fun v60 σ59 =>
       xInt .u32 v60 fun i61 =>
       f13_j1 L (0 : Int) (0 : Int) (IntKind.wrap .u32 (((BitVec.ofInt 32 i19 ||| BitVec.ofInt 32 (IntKind.wrap .u32 (((BitVec.ofInt 32 (IntKind.wrap .u32 (((BitVec.ofInt 32 (IntKind.wrap .u32 (((BitVec.ofInt 32 (IntKind.wrap .u32 (((BitVec.ofInt 32 (IntKind.wrap .u32 (i22 * 2 ^ 12)) ||| BitVec.ofInt 32 (IntKind.wrap .u32 ((IntKind.wrap .u32 i3) * 2 ^ 15))).toNat : Nat) : Int)) ||| BitVec.ofInt 32 (IntKind.wrap .u32 ((IntKind.wrap .u32 i4) * 2 ^ 20))).toNat : Nat) : Int)) ||| BitVec.ofInt 32 (IntKind.wrap .u32 (i58 * 2 ^ 25))).toNat : Nat) : Int)) ||| BitVec.ofInt 32 (IntKind.wrap .u32 (i61 * 2 ^ 7))).toNat : Nat) : Int))).toNat : Nat) : Int)) σ59) (cond (i16 == (6 : Int)) (f13_j2 L (0 : Int) (0 : Int) (IntKind.wrap .u32 ((IntKind.wrap .u32 i2) * 2 ^ 7)) (IntKind.wrap .u32 ((IntKind.wrap .u32 i3) * 2 ^ 15)) (IntKind.wrap .u32 ((IntKind.wrap .u32 i4) * 2 ^ 20)) (IntKind.wrap .u32 (i22 * 2 ^ 12)) i5 i19 i16 i16 i19 i22 i25 σ9) (f13_j3 L (0 : Int) (0 : Int) (IntKind.wrap .u32 ((IntKind.wrap .u32 i2) * 2 ^ 7)) (IntKind.wrap .u32 ((IntKind.wrap .u32 i3) * 2 ^ 15)) (IntKind.wrap .u32 ((IntKind.wrap .u32 i4) * 2 ^ 20)) (IntKind.wrap .u32 (i22 * 2 ^ 12)) i5 i19 i16 (i16 == (7 : Int)) i16 i19 i22 i25 σ9)))))))
theorem f13_g (L : Leaf) (n : Nat) (i1 i2 i3 i4 i5 : Int) (σ : St) : goT Tryd.prog Lb 13 n L [[1, 1, 1, 1, 1, 1, 0, 1, 0, 1, 1, 1, 1, 1, 1, 1, 1, 1, 1, 1], [1, 1, 1, 1, 1, 1, 1]] [] [] ⟨tm 177 [(0, .v (.agg [.int .i64 i1, .int .i64 i2, .int .i64 i3, .int .i64 i4, .int .i64 i5]))] 0, []⟩ σ = f13_t L n i1 i2 i3 i4 i5 σ := by kernel_rfl
theorem f13_e {n : Nat} {i1 i2 i3 i4 i5 : Int} {σ : St} : Le (f13_t (pt Tryd.prog Lb 13 n) n i1 i2 i3 i4 i5 σ) (callP Tryd.prog Lb (n + 1) 13 [.agg [.int .i64 i1, .int .i64 i2, .int .i64 i3, .int .i64 i4, .int .i64 i5]] σ) :=
  goT_call (f13_g _ n i1 i2 i3 i4 i5 σ) rfl (by kernel_rfl) (by kernel_rfl)
noncomputable def f13_j1_t (_ : Leaf) (_ : Nat) (_ _ i3 : Int) (σ : St) : Out :=
 some (.ret (.tuple [.int .u32 i3, .int .i64 (0 : Int)]), σ)
theorem f13_j1_g (L : Leaf) (n : Nat) (i1 i2 i3 : Int) (σ : St) : goT Tryd.prog Lb 13 n L [] [1, 1, 1, 1, 1, 1, 1] [] ⟨tm 177 [(2, .v (.int .u32 i1)), (3, .v (.int .i64 i2)), (10, .v (.int .u32 i3))] 0, []⟩ σ = f13_j1_t L n i1 i2 i3 σ := by kernel_rfl
theorem f13_j1_e {n : Nat} {i1 i2 i3 : Int} {σ : St} : Le (f13_j1_t (pt Tryd.prog Lb 13 n) n i1 i2 i3 σ) (f13_j1 (pt Tryd.prog Lb 13 n) i1 i2 i3 σ) := by
  unfold f13_j1; exact goT_pt (f13_j1_g _ n i1 i2 i3 σ)
noncomputable def f13_j2_t (L : Leaf) (n : Nat) (i1 i2 i3 i4 _ i6 i7 i8 _ _ _ _ i13 : Int) (σ : St) : Out :=
 callTD Tryd.prog Lb n 28 [.int .i64 i7, .int .i64 (0 : Int), .int .i64 (6 : Int)] σ fun v15 σ14 =>
 xInt .u32 v15 fun i16 =>
 f13_j1 L i1 i2 (IntKind.wrap .u32 (((BitVec.ofInt 32 i8 ||| BitVec.ofInt 32 (IntKind.wrap .u32 (((BitVec.ofInt 32 (IntKind.wrap .u32 (((BitVec.ofInt 32 (IntKind.wrap .u32 (((BitVec.ofInt 32 (IntKind.wrap .u32 (((BitVec.ofInt 32 i3 ||| BitVec.ofInt 32 i6).toNat : Nat) : Int)) ||| BitVec.ofInt 32 i4).toNat : Nat) : Int)) ||| BitVec.ofInt 32 (IntKind.wrap .u32 (i16 * 2 ^ 20))).toNat : Nat) : Int)) ||| BitVec.ofInt 32 (IntKind.wrap .u32 (i13 * 2 ^ 25))).toNat : Nat) : Int))).toNat : Nat) : Int)) σ14
theorem f13_j2_g (L : Leaf) (n : Nat) (i1 i2 i3 i4 i5 i6 i7 i8 i9 i10 i11 i12 i13 : Int) (σ : St) : goT Tryd.prog Lb 13 n L [[1, 1, 1, 1, 1, 1, 1]] [1, 1, 1, 1, 1, 1, 0, 1, 0, 1, 1, 1, 1, 1, 1, 1, 1, 1, 1, 1] [] ⟨tm 177 [(2, .v (.int .u32 i1)), (3, .v (.int .i64 i2)), (4, .lp 4 0), (5, .v (.int .u32 i3)), (6, .v (.int .u32 i4)), (7, .v (.int .u32 i5)), (8, .v (.int .u32 i6)), (9, .v (.int .i64 i7)), (10, .v (.int .u32 i8)), (38, .v (.int .u32 i9)), (124, .v (.bool true))] 0, [(4, [.int .u32 i10, .int .u32 i11, .int .u32 i12, .int .u32 i13])]⟩ σ = f13_j2_t L n i1 i2 i3 i4 i5 i6 i7 i8 i9 i10 i11 i12 i13 σ := by kernel_rfl
theorem f13_j2_e {n : Nat} {i1 i2 i3 i4 i5 i6 i7 i8 i9 i10 i11 i12 i13 : Int} {σ : St} : Le (f13_j2_t (pt Tryd.prog Lb 13 n) n i1 i2 i3 i4 i5 i6 i7 i8 i9 i10 i11 i12 i13 σ) (f13_j2 (pt Tryd.prog Lb 13 n) i1 i2 i3 i4 i5 i6 i7 i8 i9 i10 i11 i12 i13 σ) := by
  unfold f13_j2; exact goT_pt (f13_j2_g _ n i1 i2 i3 i4 i5 i6 i7 i8 i9 i10 i11 i12 i13 σ)
noncomputable def f13_j3_t (L : Leaf) (n : Nat) (i1 i2 i3 i4 i5 i6 i7 i8 i9 : Int) (b10 : Bool) (_ _ _ i14 : Int) (σ : St) : Out :=
 cond b10 (callTD Tryd.prog Lb n 28 [.int .i64 i7, .int .i64 (0 : Int), .int .i64 (6 : Int)] σ fun v16 σ15 =>
  xInt .u32 v16 fun i17 =>
  f13_j1 L i1 i2 (IntKind.wrap .u32 (((BitVec.ofInt 32 i8 ||| BitVec.ofInt 32 (IntKind.wrap .u32 (((BitVec.ofInt 32 (IntKind.wrap .u32 (((BitVec.ofInt 32 (IntKind.wrap .u32 (((BitVec.ofInt 32 (IntKind.wrap .u32 (((BitVec.ofInt 32 i3 ||| BitVec.ofInt 32 i6).toNat : Nat) : Int)) ||| BitVec.ofInt 32 i4).toNat : Nat) : Int)) ||| BitVec.ofInt 32 (IntKind.wrap .u32 (i17 * 2 ^ 20))).toNat : Nat) : Int)) ||| BitVec.ofInt 32 (IntKind.wrap .u32 (i14 * 2 ^ 25))).toNat : Nat) : Int))).toNat : Nat) : Int)) σ15) (cond (i9 == (8 : Int)) (f13_j1 L i1 i2 (IntKind.wrap .u32 (((BitVec.ofInt 32 i8 ||| BitVec.ofInt 32 (IntKind.wrap .u32 (((BitVec.ofInt 32 (IntKind.wrap .u32 (((BitVec.ofInt 32 (IntKind.wrap .u32 (((BitVec.ofInt 32 (IntKind.wrap .u32 (((BitVec.ofInt 32 i3 ||| BitVec.ofInt 32 i6).toNat : Nat) : Int)) ||| BitVec.ofInt 32 i4).toNat : Nat) : Int)) ||| BitVec.ofInt 32 i5).toNat : Nat) : Int)) ||| BitVec.ofInt 32 (IntKind.wrap .u32 (i14 * 2 ^ 25))).toNat : Nat) : Int))).toNat : Nat) : Int)) σ) (cond (i9 == (9 : Int)) (callTD Tryd.prog Lb n 28 [.int .i64 i7, .int .i64 (0 : Int), .int .i64 (2 : Int)] σ fun v19 σ18 =>
    xInt .u32 v19 fun i20 =>
    f13_j1 L i1 i2 (IntKind.wrap .u32 (((BitVec.ofInt 32 i8 ||| BitVec.ofInt 32 (IntKind.wrap .u32 (((BitVec.ofInt 32 (IntKind.wrap .u32 (((BitVec.ofInt 32 (IntKind.wrap .u32 (((BitVec.ofInt 32 (IntKind.wrap .u32 (((BitVec.ofInt 32 (IntKind.wrap .u32 (((BitVec.ofInt 32 i3 ||| BitVec.ofInt 32 i6).toNat : Nat) : Int)) ||| BitVec.ofInt 32 i4).toNat : Nat) : Int)) ||| BitVec.ofInt 32 i5).toNat : Nat) : Int)) ||| BitVec.ofInt 32 (IntKind.wrap .u32 (i20 * 2 ^ 25))).toNat : Nat) : Int)) ||| BitVec.ofInt 32 (IntKind.wrap .u32 (i14 * 2 ^ 27))).toNat : Nat) : Int))).toNat : Nat) : Int)) σ18) (f13_j1 L i1 i2 i8 σ)))
theorem f13_j3_g (L : Leaf) (n : Nat) (i1 i2 i3 i4 i5 i6 i7 i8 i9 : Int) (b10 : Bool) (i11 i12 i13 i14 : Int) (σ : St) : goT Tryd.prog Lb 13 n L [[1, 1, 1, 1, 1, 1, 1]] [1, 1, 1, 1, 1, 1, 0, 1, 0, 1, 1, 1, 1, 1, 1, 1, 1, 1, 1, 1] [] ⟨tm 177 [(2, .v (.int .u32 i1)), (3, .v (.int .i64 i2)), (4, .lp 4 0), (5, .v (.int .u32 i3)), (6, .v (.int .u32 i4)), (7, .v (.int .u32 i5)), (8, .v (.int .u32 i6)), (9, .v (.int .i64 i7)), (10, .v (.int .u32 i8)), (38, .v (.int .u32 i9)), (124, .v (.bool b10))] 0, [(4, [.int .u32 i11, .int .u32 i12, .int .u32 i13, .int .u32 i14])]⟩ σ = f13_j3_t L n i1 i2 i3 i4 i5 i6 i7 i8 i9 b10 i11 i12 i13 i14 σ := by kernel_rfl
theorem f13_j3_e {n : Nat} {i1 i2 i3 i4 i5 i6 i7 i8 i9 : Int} {b10 : Bool} {i11 i12 i13 i14 : Int} {σ : St} : Le (f13_j3_t (pt Tryd.prog Lb 13 n) n i1 i2 i3 i4 i5 i6 i7 i8 i9 b10 i11 i12 i13 i14 σ) (f13_j3 (pt Tryd.prog Lb 13 n) i1 i2 i3 i4 i5 i6 i7 i8 i9 b10 i11 i12 i13 i14 σ) := by
  unfold f13_j3; exact goT_pt (f13_j3_g _ n i1 i2 i3 i4 i5 i6 i7 i8 i9 b10 i11 i12 i13 i14 σ)
/-! ### binnacle/binnacleref02.Encode(x) -/
noncomputable def f14_t (_ : Leaf) (n : Nat) (i1 i2 i3 i4 i5 : Int) (σ : St) : Out :=
 callT Tryd.prog Lb n 12 [.agg [.int .i64 i1, .int .i64 i2, .int .i64 i3, .int .i64 i4, .int .i64 i5]] σ fun v7 σ6 =>
 xBool v7 fun b8 =>
 cond (!b8) (some (.ret (.tuple [.int .u32 (0 : Int), .int .i64 (2 : Int)]), σ6)) (callTD Tryd.prog Lb n 22 [] σ6 fun v10 σ9 =>
  xSl v10 fun a11 n12 _ z14 =>
  idxK i1 n12 <|
  derefK a11 fun b15 o16 =>
  szK z14 5 <|
  ldK Tryd.prog 47 σ9 b15 (o16 + ((i1).toNat * 5)) fun x17 =>
  xAgg x17 fun cs18 =>
  unC cs18 fun x19 r20 =>
  xStr x19 fun _ =>
  unC r20 fun x22 r23 =>
  xStr x22 fun s24 =>
  unC r23 fun x25 r26 =>
  xInt .u32 x25 fun i27 =>
  unC r26 fun x28 r29 =>
  xInt .u32 x28 fun i30 =>
  unC r29 fun x31 r32 =>
  xInt .u32 x31 fun i33 =>
  nlC r32 <|
  callT Tryd.prog Lb n 29 [.int .i64 i2, .int .i64 (0 : Int), .int .i64 (5 : Int), .int .i64 (7 : Int)] σ9 fun v35 σ34 =>
  xInt .u32 v35 fun i36 =>
  callT Tryd.prog Lb n 29 [.int .i64 (IntKind.wrap .i64 i30), .int .i64 (0 : Int), .int .i64 (3 : Int), .int .i64 (12 : Int)] σ34 fun v38 σ37 =>
  xInt .u32 v38 fun i39 =>
  callT Tryd.prog Lb n 29 [.int .i64 i3, .int .i64 (0 : Int), .int .i64 (5 : Int), .int .i64 (15 : Int)] σ37 fun v41 σ40 =>
  xInt .u32 v41 fun i42 =>
  callT Tryd.prog Lb n 29 [.int .i64 i4, .int .i64 (0 : Int), .int .i64 (5 : Int), .int .i64 (20 : Int)] σ40 fun v44 σ43 =>
  xInt .u32 v44 fun i45 =>
  callT Tryd.prog Lb n 29 [.int .i64 (IntKind.wrap .i64 i33), .int .i64 (0 : Int), .int .i64 (7 : Int), .int .i64 (25 : Int)] σ43 fun v47 σ46 =>
  xInt .u32 v47 fun i48 =>
  cond (s24 == [85]) (callTD Tryd.prog Lb n 29 [.int .i64 i5, .int .i64 (12 : Int), .int .i64 (20 : Int), .int .i64 (12 : Int)] σ46 fun v50 σ49 =>
   xInt .u32 v50 fun i51 =>
   some (.ret (.tuple [.int .u32 (IntKind.wrap .u32 ((IntKind.wrap .u32 (i27 + i36)) + i51)), .int .i64 (0 : Int)]), σ49)) (cond (s24 == [74]) (callTD Tryd.prog Lb n 29 [.int .i64 i5, .int .i64 (20 : Int), .int .i64 (1 : Int), .int .i64 (31 : Int)] σ46 fun v53 σ52 =>
    xInt .u32 v53 fun i54 =>
    callTD Tryd.prog Lb n 29 [.int .i64 i5, .int .i64 (1 : Int), .int .i64 (10 : Int), .int .i64 (21 : Int)] σ52 fun v56 σ55 =>
    xInt .u32 v56 fun i57 =>
    callTD Tryd.prog Lb n 29 [.int .i64 i5, .int .i64 (11 : Int), .int .i64 (1 : Int), .int .i64 (20 : Int)] σ55 fun v59 σ58 =>
    xInt .u32 v59 fun i60 =>
    callTD Tryd.prog Lb n 29 [.int .i64 i5, .int .i64 (12 : Int), .int .i64 (8 : Int), .int .i64 (12 : Int)] σ58 fun v62 σ61 =>
    xInt .u32 v62 fun i63 =>
    some (.ret (.tuple [.int .u32 (IntKind.wrap .u32 ((IntKind.wrap .u32 ((IntKind.wrap .u32 ((IntKind.wrap .u32 ((IntKind.wrap .u32 (i27 + i36)) + i54)) + i57)) + i60)) + i63)), .int .i64 (0 : Int)]), σ61)) (cond (s24 == [73]) (callTD Tryd.prog Lb n 29 [.int .i64 i5, .int .i64 (0 : Int), .int .i64 (12 : Int), .int .i64 (20 : Int)] σ46 fun v65 σ64 =>
     xInt .u32 v65 fun i66 =>
     some (.ret (.tuple [.int .u32 (IntKind.wrap .u32 ((IntKind.wrap .u32 ((IntKind.wrap .u32 ((IntKind.wrap .u32 (i27 + i36)) + i39)) + i42)) + i66)), .int .i64 (0 : Int)]), σ64)) (cond (s24 == [66]) (callTD Tryd.prog Lb n 29 [.int .i64 i5, .int .i64 (12 : Int), .int .i64 (1 : Int), .int .i64 (31 : Int)] σ46 fun v68 σ67 =>
      xInt .u32 v68 fun i69 =>
      callTD Tryd.prog Lb n 29 [.int .i64 i5, .int .i64 (5 : Int), .int .i64 (6 : Int), .int .i64 (25 : Int)] σ67 fun v71 σ70 =>
      xInt .u32 v71 fun i72 =>
      callTD Tryd.prog Lb n 29 [.int .i64 i5, .int .i64 (1 : Int), .int .i64 (4 : Int), .int .i64 (8 : Int)] σ70 fun v74 σ73 =>
      xInt .u32 v74 fun i75 =>
      callTD Tryd.prog Lb n 29 [.int .i64 i5, .int .i64 (11 : Int), .int .i64 (1 : Int), .int .i64 (7 : Int)] σ73 fun v77 σ76 =>
      xInt .u32 v77 fun i78 =>
      some (.ret (.tuple [.int .u32 (IntKind.wrap .u32 ((IntKind.wrap .u32 ((IntKind.wrap .u32 ((IntKind.wrap .u32 ((IntKind.wrap .u32 ((IntKind.wrap .u32 ((IntKind.wrap .u32 (i27 + i39)) + i42)) + i45)) + i69)) + i72)) + i75)) + i78)), .int .i64 (0 : Int)]), σ76)) (cond (s24 == [83]) (callTD Tryd.prog Lb n 29 [.int .i64 i5, .int .i64 (5 : Int), .int .i64 (7 : Int), .int .i64 (25 : Int)] σ46 fun v80 σ79 =>
       xInt .u32 v80 fun i81 =>
       callTD Tryd.prog Lb n 29 [.int .i64 i5, .int .i64 (0 : Int), .int .i64 (5 : Int), .int .i64 (7 : Int)] σ79 fun v83 σ82 =>
       xInt .u32 v83 fun i84 =>
       some (.ret (.tuple [.int .u32 (IntKind.wrap .u32 ((IntKind.wrap .u32 ((IntKind.wrap .u32 ((IntKind.wrap .u32 ((IntKind.wrap .u32 (i27 + i39)) + i42)) + i45)) + i81)) + i84)), .int .i64 (0 : Int)]), σ82)) (cond (s24 == [72]) (callTD Tryd.prog Lb n 29 [.int .i64 i5, .int .i64 (0 : Int), .int .i64 (6 : Int), .int .i64 (20 : Int)] σ46 fun v86 σ85 =>
        xInt .u32 v86 fun i87 =>
        some (.ret (.tuple [.int .u32 (IntKind.wrap .u32 ((IntKind.wrap .u32 ((IntKind.wrap .u32 ((IntKind.wrap .u32 ((IntKind.wrap .u32 (i27 + i36)) + i39)) + i42)) + i87)) + i48)), .int .i64 (0 : Int)]), σ85)) (cond (s24 == [86]) (callTD Tryd.prog Lb n 29 [.int .i64 i5, .int .i64 (0 : Int), .int .i64 (5 : Int), .int .i64 (20 : Int)] σ46 fun v89 σ88 =>
         xInt .u32 v89 fun i90 =>
         some (.ret (.tuple [.int .u32 (IntKind.wrap .u32 ((IntKind.wrap .u32 ((IntKind.wrap .u32 ((IntKind.wrap .u32 ((IntKind.wrap .u32 (i27 + i36)) + i39)) + i42)) + i90)) + i48)), .int .i64 (0 : Int)]), σ88)) (cond (s24 == [82]) (some (.ret (.tuple [.int .u32 (IntKind.wrap .u32 ((IntKind.wrap .u32 ((IntKind.wrap .u32 ((IntKind.wrap .u32 ((IntKind.wrap .u32 (i27 + i36)) + i39)) + i42)) + i45)) + i48)), .int .i64 (0 : Int)]), σ46)) (cond (s24 == [65]) (callTD Tryd.prog Lb n 29 [.int .i64 i5, .int .i64 (0 : Int), .int .i64 (2 : Int), .int .i64 (25 : Int)] σ46 fun v92 σ91 =>
           xInt .u32 v92 fun i93 =>
           callTD Tryd.prog Lb n 29 [.int .i64 (IntKind.wrap .i64 i33), .int .i64 (0 : Int), .int .i64 (5 : Int), .int .i64 (27 : Int)] σ91 fun v95 σ94 =>
           xInt .u32 v95 fun i96 =>
           some (.ret (.tuple [.int .u32 (IntKind.wrap .u32 ((IntKind.wrap .u32 ((IntKind.wrap .u32 ((IntKind.wrap .u32 ((IntKind.wrap .u32 ((IntKind.wrap .u32 (i27 + i36)) + i39)) + i42)) + i45)) + i93)) + i96)), .int .i64 (0 : Int)]), σ94)) (some (.ret (.tuple [.int .u32 i27, .int .i64 (0 : Int)]), σ46)))))))))))
theorem f14_g (L : Leaf) (n : Nat) (i1 i2 i3 i4 i5 : Int) (σ : St) : goT Tryd.prog Lb 14 n L [] [] [] ⟨tm 186 [(0, .v (.agg [.int .i64 i1, .int .i64 i2, .int .i64 i3, .int .i64 i4, .int .i64 i5]))] 0, []⟩ σ = f14_t L n i1 i2 i3 i4 i5 σ := by kernel_rfl
theorem f14_e {n : Nat} {i1 i2 i3 i4 i5 : Int} {σ : St} : Le (f14_t (pt Tryd.prog Lb 14 n) n i1 i2 i3 i4 i5 σ) (callP Tryd.prog Lb (n + 1) 14 [.agg [.int .i64 i1, .int .i64 i2, .int .i64 i3, .int .i64 i4, .int .i64 i5]] σ) :=
  goT_call (f14_g _ n i1 i2 i3 i4 i5 σ) rfl (by kernel_rfl) (by kernel_rfl)
/-! ### binnacle/inst.Name(op) -/
noncomputable def f21_t (_ : Leaf) (n : Nat) (i1 : Int) (σ : St) : Out :=
 cond (decide (i1 < (1 : Int))) (some (.ret (.str []), σ)) (cond (decide (i1 > (87 : Int))) (some (.ret (.str []), σ)) (callT Tryd.prog Lb n 44 [] σ fun v3 σ2 =>
   xSl v3 fun a4 n5 _ z7 =>
   idxK (IntKind.wrap .i64 (i1 - (1 : Int))) n5 <|
   derefK a4 fun b8 o9 =>
   szK z7 1 <|
   ldK Tryd.prog 9 σ2 b8 (o9 + (((IntKind.wrap .i64 (i1 - (1 : Int)))).toNat * 1)) fun x10 =>
   xStr x10 fun s11 =>
   some (.ret (.str s11), σ2)))
theorem f21_g (L : Leaf) (n : Nat) (i1 : Int) (σ : St) : goT Tryd.prog Lb 21 n L [] [] [] ⟨tm 14 [(0, .v (.int .i64 i1))] 0, []⟩ σ = f21_t L n i1 σ := by kernel_rfl
theorem f21_e {n : Nat} {i1 : Int} {σ : St} : Le (f21_t (pt Tryd.prog Lb 21 n) n i1 σ) (callP Tryd.prog Lb (n + 1) 21 [.int .i64 i1] σ) :=
  goT_call (f21_g _ n i1 σ) rfl (by kernel_rfl) (by kernel_rfl)
/-! ### binnacle/binnacleref02.Rows() -/
noncomputable def f22_t (_ : Leaf) (_ : Nat) (σ : St) : Out :=
 some (.ret (.slice (some (σ.length, 0)) 88 (some 88) 5), (σ ++ [AObj.cells [.str [], .str [], .int .u32 (0 : Int), .int .u32 (0 : Int), .int .u32 (0 : Int), .str [108, 117, 105], .str [85], .int .u32 (55 : Int), .int .u32 (0 : Int), .int .u32 (0 : Int), .str [97, 117, 105, 112, 99], .str [85], .int .u32 (23 : Int), .int .u32 (0 : Int), .int .u32 (0 : Int), .str [106, 97, 108], .str [74], .int .u32 (111 : Int), .int .u32 (0 : Int), .int .u32 (0 : Int), .str [106, 97, 108, 114], .str [73], .int .u32 (103 : Int), .int .u32 (0 : Int), .int .u32 (0 : Int), .str [98, 101, 113], .str [66], .int .u32 (99 : Int), .int .u32 (0 : Int), .int .u32 (0 : Int), .str [98, 110, 101], .str [66], .int .u32 (99 : Int), .int .u32 (1 : Int), .int .u32 (0 : Int), .str [98, 108, 116], .str [66], .int .u32 (99 : Int), .int .u32 (4 : Int), .int .u32 (0 : Int), .str [98, 103, 101], .str [66], .int .u32 (99 : Int), .int .u32 (5 : Int), .int .u32 (0 : Int), .str [98, 108, 116, 117], .str [66], .int .u32 (99 : Int), .int .u32 (6 : Int), .int .u32 (0 : Int), .str [98, 103, 101, 117], .str [66], .int .u32 (99 : Int), .int .u32 (7 : Int), .int .u32 (0 : Int), .str [108, 98], .str [73], .int .u32 (3 : Int), .int .u32 (0 : Int), .int .u32 (0 : Int), .str [108, 104], .str [73], .int .u32 (3 : Int), .int .u32 (1 : Int), .int .u32 (0 : Int), .str [108, 119], .str [73], .int .u32 (3 : Int), .int .u32 (2 : Int), .int .u32 (0 : Int), .str [108, 100], .str [73], .int .u32 (3 : Int), .int .u32 (3 : Int), .int .u32 (0 : Int), .str [108, 98, 117], .str [73], .int .u32 (3 : Int), .int .u32 (4 : Int), .int .u32 (0 : Int), .str [108, 104, 117], .str [73], .int .u32 (3 : Int), .int .u32 (5 : Int), .int .u32 (0 : Int), .str [108, 119, 117], .str [73], .int .u32 (3 : Int), .int .u32 (6 : Int), .int .u32 (0 : Int), .str [115, 98], .str [83], .int .u32 (35 : Int), .int .u32 (0 : Int), .int .u32 (0 : Int), .str [115, 104], .str [83], .int .u32 (35 : Int), .int .u32 (1 : Int), .int .u32 (0 : Int), .str [115, 119], .str [83], .int .u32 (35 : Int), .int .u32 (2 : Int), .int .u32 (0 : Int), .str [115, 100], .str [83], .int .u32 (35 : Int), .int .u32 (3 : Int), .int .u32 (0 : Int), .str [97, 100, 100, 105], .str [73], .int .u32 (19 : Int), .int .u32 (0 : Int), .int .u32 (0 : Int), .str [115, 108, 116, 105], .str [73], .int .u32 (19 : Int), .int .u32 (2 : Int), .int .u32 (0 : Int), .str [115, 108, 116, 105, 117], .str [73], .int .u32 (19 : Int), .int .u32 (3 : Int), .int .u32 (0 : Int), .str [120, 111, 114, 105], .str [73], .int .u32 (19 : Int), .int .u32 (4 : Int), .int .u32 (0 : Int), .str [111, 114, 105], .str [73], .int .u32 (19 : Int), .int .u32 (6 : Int), .int .u32 (0 : Int), .str [97, 110, 100, 105], .str [73], .int .u32 (19 : Int), .int .u32 (7 : Int), .int .u32 (0 : Int), .str [115, 108, 108, 105], .str [72], .int .u32 (19 : Int), .int .u32 (1 : Int), .int .u32 (0 : Int), .str [115, 114, 108, 105], .str [72], .int .u32 (19 : Int), .int .u32 (5 : Int), .int .u32 (0 : Int), .str [115, 114, 97, 105], .str [72], .int .u32 (19 : Int), .int .u32 (5 : Int), .int .u32 (32 : Int), .str [97, 100, 100, 105, 119], .str [73], .int .u32 (27 : Int), .int .u32 (0 : Int), .int .u32 (0 : Int), .str [115, 108, 108, 105, 119], .str [86], .int .u32 (27 : Int), .int .u32 (1 : Int), .int .u32 (0 : Int), .str [115, 114, 108, 105, 119], .str [86], .int .u32 (27 : Int), .int .u32 (5 : Int), .int .u32 (0 : Int), .str [115, 114, 97, 105, 119], .str [86], .int .u32 (27 : Int), .int .u32 (5 : Int), .int .u32 (32 : Int), .str [97, 100, 100], .str [82], .int .u32 (51 : Int), .int .u32 (0 : Int), .int .u32 (0 : Int), .str [115, 117, 98], .str [82], .int .u32 (51 : Int), .int .u32 (0 : Int), .int .u32 (32 : Int), .str [115, 108, 108], .str [82], .int .u32 (51 : Int), .int .u32 (1 : Int), .int .u32 (0 : Int), .str [115, 108, 116], .str [82], .int .u32 (51 : Int), .int .u32 (2 : Int), .int .u32 (0 : Int), .str [115, 108, 116, 117], .str [82], .int .u32 (51 : Int), .int .u32 (3 : Int), .int .u32 (0 : Int), .str [120, 111, 114], .str [82], .int .u32 (51 : Int), .int .u32 (4 : Int), .int .u32 (0 : Int), .str [115, 114, 108], .str [82], .int .u32 (51 : Int), .int .u32 (5 : Int), .int .u32 (0 : Int), .str [115, 114, 97], .str [82], .int .u32 (51 : Int), .int .u32 (5 : Int), .int .u32 (32 : Int), .str [111, 114], .str [82], .int .u32 (51 : Int), .int .u32 (6 : Int), .int .u32 (0 : Int), .str [97, 110, 100], .str [82], .int .u32 (51 : Int), .int .u32 (7 : Int), .int .u32 (0 : Int), .str [97, 100, 100, 119], .str [82], .int .u32 (59 : Int), .int .u32 (0 : Int), .int .u32 (0 : Int), .str [115, 117, 98, 119], .str [82], .int .u32 (59 : Int), .int .u32 (0 : Int), .int .u32 (32 : Int), .str [115, 108, 108, 119], .str [82], .int .u32 (59 : Int), .int .u32 (1 : Int), .int .u32 (0 : Int), .str [115, 114, 108, 119], .str [82], .int .u32 (59 : Int), .int .u32 (5 : Int), .int .u32 (0 : Int), .str [115, 114, 97, 119], .str [82], .int .u32 (59 : Int), .int .u32 (5 : Int), .int .u32 (32 : Int), .str [109, 117, 108], .str [82], .int .u32 (51 : Int), .int .u32 (0 : Int), .int .u32 (1 : Int), .str [109, 117, 108, 104], .str [82], .int .u32 (51 : Int), .int .u32 (1 : Int), .int .u32 (1 : Int), .str [109, 117, 108, 104, 115, 117], .str [82], .int .u32 (51 : Int), .int .u32 (2 : Int), .int .u32 (1 : Int), .str [109, 117, 108, 104, 117], .str [82], .int .u32 (51 : Int), .int .u32 (3 : Int), .int .u32 (1 : Int), .str [100, 105, 118], .str [82], .int .u32 (51 : Int), .int .u32 (4 : Int), .int .u32 (1 : Int), .str [100, 105, 118, 117], .str [82], .int .u32 (51 : Int), .int .u32 (5 : Int), .int .u32 (1 : Int), .str [114, 101, 109], .str [82], .int .u32 (51 : Int), .int .u32 (6 : Int), .int .u32 (1 : Int), .str [114, 101, 109, 117], .str [82], .int .u32 (51 : Int), .int .u32 (7 : Int), .int .u32 (1 : Int), .str [109, 117, 108, 119], .str [82], .int .u32 (59 : Int), .int .u32 (0 : Int), .int .u32 (1 : Int), .str [100, 105, 118, 119], .str [82], .int .u32 (59 : Int), .int .u32 (4 : Int), .int .u32 (1 : Int), .str [100, 105, 118, 117, 119], .str [82], .int .u32 (59 : Int), .int .u32 (5 : Int), .int .u32 (1 : Int), .str [114, 101, 109, 119], .str [82], .int .u32 (59 : Int), .int .u32 (6 : Int), .int .u32 (1 : Int), .str [114, 101, 109, 117, 119], .str [82], .int .u32 (59 : Int), .int .u32 (7 : Int), .int .u32 (1 : Int), .str [102, 101, 110, 99, 101], .str [78], .int .u32 (15 : Int), .int .u32 (0 : Int), .int .u32 (0 : Int), .str [101, 99, 97, 108, 108], .str [78], .int .u32 (115 : Int), .int .u32 (0 : Int), .int .u32 (0 : Int), .str [101, 98, 114, 101, 97, 107], .str [78], .int .u32 (1048691 : Int), .int .u32 (0 : Int), .int .u32 (0 : Int), .str [108, 114, 46, 119], .str [65], .int .u32 (47 : Int), .int .u32 (2 : Int), .int .u32 (2 : Int), .str [115, 99, 46, 119], .str [65], .int .u32 (47 : Int), .int .u32 (2 : Int), .int .u32 (3 : Int), .str [97, 109, 111, 115, 119, 97, 112, 46, 119], .str [65], .int .u32 (47 : Int), .int .u32 (2 : Int), .int .u32 (1 : Int), .str [97, 109, 111, 97, 100, 100, 46, 119], .str [65], .int .u32 (47 : Int), .int .u32 (2 : Int), .int .u32 (0 : Int), .str [97, 109, 111, 120, 111, 114, 46, 119], .str [65], .int .u32 (47 : Int), .int .u32 (2 : Int), .int .u32 (4 : Int), .str [97, 109, 111, 97, 110, 100, 46, 119], .str [65], .int .u32 (47 : Int), .int .u32 (2 : Int), .int .u32 (12 : Int), .str [97, 109, 111, 111, 114, 46, 119], .str [65], .int .u32 (47 : Int), .int .u32 (2 : Int), .int .u32 (8 : Int), .str [97, 109, 111, 109, 105, 110, 46, 119], .str [65], .int .u32 (47 : Int), .int .u32 (2 : Int), .int .u32 (16 : Int), .str [97, 109, 111, 109, 97, 120, 46, 119], .str [65], .int .u32 (47 : Int), .int .u32 (2 : Int), .int .u32 (20 : Int), .str [97, 109, 111, 109, 105, 110, 117, 46, 119], .str [65], .int .u32 (47 : Int), .int .u32 (2 : Int), .int .u32 (24 : Int), .str [97, 109, 111, 109, 97, 120, 117, 46, 119], .str [65], .int .u32 (47 : Int), .int .u32 (2 : Int), .int .u32 (28 : Int), .str [108, 114, 46, 100], .str [65], .int .u32 (47 : Int), .int .u32 (3 : Int), .int .u32 (2 : Int), .str [115, 99, 46, 100], .str [65], .int .u32 (47 : Int), .int .u32 (3 : Int), .int .u32 (3 : Int), .str [97, 109, 111, 115, 119, 97, 112, 46, 100], .str [65], .int .u32 (47 : Int), .int .u32 (3 : Int), .int .u32 (1 : Int), .str [97, 109, 111, 97, 100, 100, 46, 100], .str [65], .int .u32 (47 : Int), .int .u32 (3 : Int), .int .u32 (0 : Int), .str [97, 109, 111, 120, 111, 114, 46, 100], .str [65], .int .u32 (47 : Int), .int .u32 (3 : Int), .int .u32 (4 : Int), .str [97, 109, 111, 97, 110, 100, 46, 100], .str [65], .int .u32 (47 : Int), .int .u32 (3 : Int), .int .u32 (12 : Int), .str [97, 109, 111, 111, 114, 46, 100], .str [65], .int .u32 (47 : Int), .int .u32 (3 : Int), .int .u32 (8 : Int), .str [97, 109, 111, 109, 105, 110, 46, 100], .str [65], .int .u32 (47 : Int), .int .u32 (3 : Int), .int .u32 (16 : Int), .str [97, 109, 111, 109, 97, 120, 46, 100], .str [65], .int .u32 (47 : Int), .int .u32 (3 : Int), .int .u32 (20 : Int), .str [97, 109, 111, 109, 105, 110, 117, 46, 100], .str [65], .int .u32 (47 : Int), .int .u32 (3 : Int), .int .u32 (24 : Int), .str [97, 109, 111, 109, 97, 120, 117, 46, 100], .str [65], .int .u32 (47 : Int), .int .u32 (3 : Int), .int .u32 (28 : Int)] (.rw (some 47))] : St))
theorem f22_g (L : Leaf) (n : Nat)  (σ : St) : goT Tryd.prog Lb 22 n L [] [] [] ⟨tm 90 [] 0, []⟩ σ = f22_t L n  σ := by kernel_rfl
theorem f22_e {n : Nat}  {σ : St} : Le (f22_t (pt Tryd.prog Lb 22 n) n  σ) (callP Tryd.prog Lb (n + 1) 22 [] σ) :=
  goT_call (f22_g _ n  σ) rfl (by kernel_rfl) (by kernel_rfl)
/-! ### binnacle/inst.rows() -/
noncomputable def f23_t (_ : Leaf) (_ : Nat) (σ : St) : Out :=
 some (.ret (.agg [.int .u32 (0 : Int), .int .u32 (0 : Int), .int .u32 (0 : Int), .int .u32 (0 : Int), .int .u32 (1 : Int), .int .u32 (55 : Int), .int .u32 (0 : Int), .int .u32 (0 : Int), .int .u32 (1 : Int), .int .u32 (23 : Int), .int .u32 (0 : Int), .int .u32 (0 : Int), .int .u32 (2 : Int), .int .u32 (111 : Int), .int .u32 (0 : Int), .int .u32 (0 : Int), .int .u32 (3 : Int), .int .u32 (103 : Int), .int .u32 (0 : Int), .int .u32 (0 : Int), .int .u32 (4 : Int), .int .u32 (99 : Int), .int .u32 (0 : Int), .int .u32 (0 : Int), .int .u32 (4 : Int), .int .u32 (99 : Int), .int .u32 (1 : Int), .int .u32 (0 : Int), .int .u32 (4 : Int), .int .u32 (99 : Int), .int .u32 (4 : Int), .int .u32 (0 : Int), .int .u32 (4 : Int), .int .u32 (99 : Int), .int .u32 (5 : Int), .int .u32 (0 : Int), .int .u32 (4 : Int), .int .u32 (99 : Int), .int .u32 (6 : Int), .int .u32 (0 : Int), .int .u32 (4 : Int), .int .u32 (99 : Int), .int .u32 (7 : Int), .int .u32 (0 : Int), .int .u32 (3 : Int), .int .u32 (3 : Int), .int .u32 (0 : Int), .int .u32 (0 : Int), .int .u32 (3 : Int), .int .u32 (3 : Int), .int .u32 (1 : Int), .int .u32 (0 : Int), .int .u32 (3 : Int), .int .u32 (3 : Int), .int .u32 (2 : Int), .int .u32 (0 : Int), .int .u32 (3 : Int), .int .u32 (3 : Int), .int .u32 (3 : Int), .int .u32 (0 : Int), .int .u32 (3 : Int), .int .u32 (3 : Int), .int .u32 (4 : Int), .int .u32 (0 : Int), .int .u32 (3 : Int), .int .u32 (3 : Int), .int .u32 (5 : Int), .int .u32 (0 : Int), .int .u32 (3 : Int), .int .u32 (3 : Int), .int .u32 (6 : Int), .int .u32 (0 : Int), .int .u32 (5 : Int), .int .u32 (35 : Int), .int .u32 (0 : Int), .int .u32 (0 : Int), .int .u32 (5 : Int), .int .u32 (35 : Int), .int .u32 (1 : Int), .int .u32 (0 : Int), .int .u32 (5 : Int), .int .u32 (35 : Int), .int .u32 (2 : Int), .int .u32 (0 : Int), .int .u32 (5 : Int), .int .u32 (35 : Int), .int .u32 (3 : Int), .int .u32 (0 : Int), .int .u32 (3 : Int), .int .u32 (19 : Int), .int .u32 (0 : Int), .int .u32 (0 : Int), .int .u32 (3 : Int), .int .u32 (19 : Int), .int .u32 (2 : Int), .int .u32 (0 : Int), .int .u32 (3 : Int), .int .u32 (19 : Int), .int .u32 (3 : Int), .int .u32 (0 : Int), .int .u32 (3 : Int), .int .u32 (19 : Int), .int .u32 (4 : Int), .int .u32 (0 : Int), .int .u32 (3 : Int), .int .u32 (19 : Int), .int .u32 (6 : Int), .int .u32 (0 : Int), .int .u32 (3 : Int), .int .u32 (19 : Int), .int .u32 (7 : Int), .int .u32 (0 : Int), .int .u32 (6 : Int), .int .u32 (19 : Int), .int .u32 (1 : Int), .int .u32 (0 : Int), .int .u32 (6 : Int), .int .u32 (19 : Int), .int .u32 (5 : Int), .int .u32 (0 : Int), .int .u32 (6 : Int), .int .u32 (19 : Int), .int .u32 (5 : Int), .int .u32 (32 : Int), .int .u32 (3 : Int), .int .u32 (27 : Int), .int .u32 (0 : Int), .int .u32 (0 : Int), .int .u32 (7 : Int), .int .u32 (27 : Int), .int .u32 (1 : Int), .int .u32 (0 : Int), .int .u32 (7 : Int), .int .u32 (27 : Int), .int .u32 (5 : Int), .int .u32 (0 : Int), .int .u32 (7 : Int), .int .u32 (27 : Int), .int .u32 (5 : Int), .int .u32 (32 : Int), .int .u32 (8 : Int), .int .u32 (51 : Int), .int .u32 (0 : Int), .int .u32 (0 : Int), .int .u32 (8 : Int), .int .u32 (51 : Int), .int .u32 (0 : Int), .int .u32 (32 : Int), .int .u32 (8 : Int), .int .u32 (51 : Int), .int .u32 (1 : Int), .int .u32 (0 : Int), .int .u32 (8 : Int), .int .u32 (51 : Int), .int .u32 (2 : Int), .int .u32 (0 : Int), .int .u32 (8 : Int), .int .u32 (51 : Int), .int .u32 (3 : Int), .int .u32 (0 : Int), .int .u32 (8 : Int), .int .u32 (51 : Int), .int .u32 (4 : Int), .int .u32 (0 : Int), .int .u32 (8 : Int), .int .u32 (51 : Int), .int .u32 (5 : Int), .int .u32 (0 : Int), .int .u32 (8 : Int), .int .u32 (51 : Int), .int .u32 (5 : Int), .int .u32 (32 : Int), .int .u32 (8 : Int), .int .u32 (51 : Int), .int .u32 (6 : Int), .int .u32 (0 : Int), .int .u32 (8 : Int), .int .u32 (51 : Int), .int .u32 (7 : Int), .int .u32 (0 : Int), .int .u32 (8 : Int), .int .u32 (59 : Int), .int .u32 (0 : Int), .int .u32 (0 : Int), .int .u32 (8 : Int), .int .u32 (59 : Int), .int .u32 (0 : Int), .int .u32 (32 : Int), .int .u32 (8 : Int), .int .u32 (59 : Int), .int .u32 (1 : Int), .int .u32 (0 : Int), .int .u32 (8 : Int), .int .u32 (59 : Int), .int .u32 (5 : Int), .int .u32 (0 : Int), .int .u32 (8 : Int), .int .u32 (59 : Int), .int .u32 (5 : Int), .int .u32 (32 : Int), .int .u32 (8 : Int), .int .u32 (51 : Int), .int .u32 (0 : Int), .int .u32 (1 : Int), .int .u32 (8 : Int), .int .u32 (51 : Int), .int .u32 (1 : Int), .int .u32 (1 : Int), .int .u32 (8 : Int), .int .u32 (51 : Int), .int .u32 (2 : Int), .int .u32 (1 : Int), .int .u32 (8 : Int), .int .u32 (51 : Int), .int .u32 (3 : Int), .int .u32 (1 : Int), .int .u32 (8 : Int), .int .u32 (51 : Int), .int .u32 (4 : Int), .int .u32 (1 : Int), .int .u32 (8 : Int), .int .u32 (51 : Int), .int .u32 (5 : Int), .int .u32 (1 : Int), .int .u32 (8 : Int), .int .u32 (51 : Int), .int .u32 (6 : Int), .int .u32 (1 : Int), .int .u32 (8 : Int), .int .u32 (51 : Int), .int .u32 (7 : Int), .int .u32 (1 : Int), .int .u32 (8 : Int), .int .u32 (59 : Int), .int .u32 (0 : Int), .int .u32 (1 : Int), .int .u32 (8 : Int), .int .u32 (59 : Int), .int .u32 (4 : Int), .int .u32 (1 : Int), .int .u32 (8 : Int), .int .u32 (59 : Int), .int .u32 (5 : Int), .int .u32 (1 : Int), .int .u32 (8 : Int), .int .u32 (59 : Int), .int .u32 (6 : Int), .int .u32 (1 : Int), .int .u32 (8 : Int), .int .u32 (59 : Int), .int .u32 (7 : Int), .int .u32 (1 : Int), .int .u32 (10 : Int), .int .u32 (15 : Int), .int .u32 (0 : Int), .int .u32 (0 : Int), .int .u32 (10 : Int), .int .u32 (115 : Int), .int .u32 (0 : Int), .int .u32 (0 : Int), .int .u32 (10 : Int), .int .u32 (1048691 : Int), .int .u32 (0 : Int), .int .u32 (0 : Int), .int .u32 (9 : Int), .int .u32 (47 : Int), .int .u32 (2 : Int), .int .u32 (2 : Int), .int .u32 (9 : Int), .int .u32 (47 : Int), .int .u32 (2 : Int), .int .u32 (3 : Int), .int .u32 (9 : Int), .int .u32 (47 : Int), .int .u32 (2 : Int), .int .u32 (1 : Int), .int .u32 (9 : Int), .int .u32 (47 : Int), .int .u32 (2 : Int), .int .u32 (0 : Int), .int .u32 (9 : Int), .int .u32 (47 : Int), .int .u32 (2 : Int), .int .u32 (4 : Int), .int .u32 (9 : Int), .int .u32 (47 : Int), .int .u32 (2 : Int), .int .u32 (12 : Int), .int .u32 (9 : Int), .int .u32 (47 : Int), .int .u32 (2 : Int), .int .u32 (8 : Int), .int .u32 (9 : Int), .int .u32 (47 : Int), .int .u32 (2 : Int), .int .u32 (16 : Int), .int .u32 (9 : Int), .int .u32 (47 : Int), .int .u32 (2 : Int), .int .u32 (20 : Int), .int .u32 (9 : Int), .int .u32 (47 : Int), .int .u32 (2 : Int), .int .u32 (24 : Int), .int .u32 (9 : Int), .int .u32 (47 : Int), .int .u32 (2 : Int), .int .u32 (28 : Int), .int .u32 (9 : Int), .int .u32 (47 : Int), .int .u32 (3 : Int), .int .u32 (2 : Int), .int .u32 (9 : Int), .int .u32 (47 : Int), .int .u32 (3 : Int), .int .u32 (3 : Int), .int .u32 (9 : Int), .int .u32 (47 : Int), .int .u32 (3 : Int), .int .u32 (1 : Int), .int .u32 (9 : Int), .int .u32 (47 : Int), .int .u32 (3 : Int), .int .u32 (0 : Int), .int .u32 (9 : Int), .int .u32 (47 : Int), .int .u32 (3 : Int), .int .u32 (4 : Int), .int .u32 (9 : Int), .int .u32 (47 : Int), .int .u32 (3 : Int), .int .u32 (12 : Int), .int .u32 (9 : Int), .int .u32 (47 : Int), .int .u32 (3 : Int), .int .u32 (8 : Int), .int .u32 (9 : Int), .int .u32 (47 : Int), .int .u32 (3 : Int), .int .u32 (16 : Int), .int .u32 (9 : Int), .int .u32 (47 : Int), .int .u32 (3 : Int), .int .u32 (20 : Int), .int .u32 (9 : Int), .int .u32 (47 : Int), .int .u32 (3 : Int), .int .u32 (24 : Int), .int .u32 (9 : Int), .int .u32 (47 : Int), .int .u32 (3 : Int), .int .u32 (28 : Int)]), σ)
theorem f23_g (L : Leaf) (n : Nat)  (σ : St) : goT Tryd.prog Lb 23 n L [] [] [] ⟨tm 90 [] 0, []⟩ σ = f23_t L n  σ := by kernel_rfl
theorem f23_e {n : Nat}  {σ : St} : Le (f23_t (pt Tryd.prog Lb 23 n) n  σ) (callP Tryd.prog Lb (n + 1) 23 [] σ) :=
  goT_call (f23_g _ n  σ) rfl (by kernel_rfl) (by kernel_rfl)
/-! ### binnacle/inst.fields(form, op) -/
noncomputable def f24_j1 (L : Leaf) (i1 i2 : Int) (σ : St) : Out :=
  L [1, 0, 1, 0, 1] [] ⟨tm 32 [(1, .v (.int .i64 i1)), (4, .lp 4 0), (5, .v (.int .u32 i2)), (6, .v (.bool true))] 0, [(4, [.bool false, .bool false, .bool false, .bool false])]⟩ σ
noncomputable def f24_j2 (L : Leaf) (i1 i2 : Int) (b3 : Bool) (σ : St) : Out :=
  L [1, 0, 1, 0, 1] [] ⟨tm 32 [(1, .v (.int .i64 i1)), (4, .lp 4 0), (5, .v (.int .u32 i2)), (6, .v (.bool b3))] 0, [(4, [.bool false, .bool false, .bool false, .bool false])]⟩ σ
noncomputable def f24_j3 (L : Leaf) (i1 i2 : Int) (σ : St) : Out :=
  L [1, 0, 1, 0, 1, 1, 1] [] ⟨tm 32 [(1, .v (.int .i64 i1)), (4, .lp 4 0), (5, .v (.int .u32 i2)), (10, .v (.bool true))] 0, [(4, [.bool false, .bool false, .bool false, .bool false])]⟩ σ
noncomputable def f24_j4 (L : Leaf) (i1 i2 : Int) (b3 : Bool) (σ : St) : Out :=
  L [1, 0, 1, 0, 1, 1, 1] [] ⟨tm 32 [(1, .v (.int .i64 i1)), (4, .lp 4 0), (5, .v (.int .u32 i2)), (10, .v (.bool b3))] 0, [(4, [.bool false, .bool false, .bool false, .bool false])]⟩ σ
noncomputable def f24_j5 (L : Leaf) (i1 i2 : Int) (σ : St) : Out :=
  L [1, 0, 1, 0, 1, 1, 1, 1, 1] [] ⟨tm 32 [(1, .v (.int .i64 i1)), (4, .lp 4 0), (5, .v (.int .u32 i2)), (15, .v (.bool true))] 0, [(4, [.bool false, .bool false, .bool false, .bool false])]⟩ σ
noncomputable def f24_j6 (L : Leaf) (i1 i2 : Int) (b3 : Bool) (σ : St) : Out :=
  L [1, 0, 1, 0, 1, 1, 1, 1, 1] [] ⟨tm 32 [(1, .v (.int .i64 i1)), (4, .lp 4 0), (5, .v (.int .u32 i2)), (15, .v (.bool b3))] 0, [(4, [.bool false, .bool false, .bool false, .bool false])]⟩ σ
noncomputable def f24_t (L : Leaf) (_ : Nat) (i1 i2 : Int) (σ : St) : Out :=
 cond (i1 == (1 : Int)) (f24_j1 L i2 i1 σ) (f24_j2 L i2 i1 (i1 == (2 : Int)) σ)
theorem f24_g (L : Leaf) (n : Nat) (i1 i2 : Int) (σ : St) : goT Tryd.prog Lb 24 n L [[1, 0, 1, 0, 1]] [] [] ⟨tm 32 [(0, .v (.int .u32 i1)), (1, .v (.int .i64 i2))] 0, []⟩ σ = f24_t L n i1 i2 σ := by kernel_rfl
theorem f24_e {n : Nat} {i1 i2 : Int} {σ : St} : Le (f24_t (pt Tryd.prog Lb 24 n) n i1 i2 σ) (callP Tryd.prog Lb (n + 1) 24 [.int .u32 i1, .int .i64 i2] σ) :=
  goT_call (f24_g _ n i1 i2 σ) rfl (by kernel_rfl) (by kernel_rfl)
noncomputable def f24_j1_t (_ : Leaf) (_ : Nat) (_ _ : Int) (σ : St) : Out :=
 some (.ret (.agg [.bool true, .bool false, .bool false, .bool true]), σ)
theorem f24_j1_g (L : Leaf) (n : Nat) (i1 i2 : Int) (σ : St) : goT Tryd.prog Lb 24 n L [] [1, 0, 1, 0, 1] [] ⟨tm 32 [(1, .v (.int .i64 i1)), (4, .lp 4 0), (5, .v (.int .u32 i2)), (6, .v (.bool true))] 0, [(4, [.bool false, .bool false, .bool false, .bool false])]⟩ σ = f24_j1_t L n i1 i2 σ := by kernel_rfl
theorem f24_j1_e {n : Nat} {i1 i2 : Int} {σ : St} : Le (f24_j1_t (pt Tryd.prog Lb 24 n) n i1 i2 σ) (f24_j1 (pt Tryd.prog Lb 24 n) i1 i2 σ) := by
  unfold f24_j1; exact goT_pt (f24_j1_g _ n i1 i2 σ)
noncomputable def f24_j2_t (L : Leaf) (_ : Nat) (i1 i2 : Int) (b3 : Bool) (σ : St) : Out :=
 cond b3 (some (.ret (.agg [.bool true, .bool false, .bool false, .bool true]), σ)) (cond (i2 == (3 : Int)) (f24_j3 L i1 i2 σ) (cond (i2 == (6 : Int)) (f24_j3 L i1 i2 σ) (f24_j4 L i1 i2 (i2 == (7 : Int)) σ)))
theorem f24_j2_g (L : Leaf) (n : Nat) (i1 i2 : Int) (b3 : Bool) (σ : St) : goT Tryd.prog Lb 24 n L [[1, 0, 1, 0, 1, 1, 1]] [1, 0, 1, 0, 1] [] ⟨tm 32 [(1, .v (.int .i64 i1)), (4, .lp 4 0), (5, .v (.int .u32 i2)), (6, .v (.bool b3))] 0, [(4, [.bool false, .bool false, .bool false, .bool false])]⟩ σ = f24_j2_t L n i1 i2 b3 σ := by kernel_rfl
theorem f24_j2_e {n : Nat} {i1 i2 : Int} {b3 : Bool} {σ : St} : Le (f24_j2_t (pt Tryd.prog Lb 24 n) n i1 i2 b3 σ) (f24_j2 (pt Tryd.prog Lb 24 n) i1 i2 b3 σ) := by
  unfold f24_j2; exact goT_pt (f24_j2_g _ n i1 i2 b3 σ)
noncomputable def f24_j3_t (_ : Leaf) (_ : Nat) (_ _ : Int) (σ : St) : Out :=
 some (.ret (.agg [.bool true, .bool true, .bool false, .bool true]), σ)
theorem f24_j3_g (L : Leaf) (n : Nat) (i1 i2 : Int) (σ : St) : goT Tryd.prog Lb 24 n L [] [1, 0, 1, 0, 1, 1, 1] [] ⟨tm 32 [(1, .v (.int .i64 i1)), (4, .lp 4 0), (5, .v (.int .u32 i2)), (10, .v (.bool true))] 0, [(4, [.bool false, .bool false, .bool false, .bool false])]⟩ σ = f24_j3_t L n i1 i2 σ := by kernel_rfl
theorem f24_j3_e {n : Nat} {i1 i2 : Int} {σ : St} : Le (f24_j3_t (pt Tryd.prog Lb 24 n) n i1 i2 σ) (f24_j3 (pt Tryd.prog Lb 24 n) i1 i2 σ) := by
  unfold f24_j3; exact goT_pt (f24_j3_g _ n i1 i2 σ)
noncomputable def f24_j4_t (L : Leaf) (_ : Nat) (i1 i2 : Int) (b3 : Bool) (σ : St) : Out :=
 cond b3 (some (.ret (.agg [.bool true, .bool true, .bool false, .bool true]), σ)) (cond (i2 == (4 : Int)) (f24_j5 L i1 i2 σ) (f24_j6 L i1 i2 (i2 == (5 : Int)) σ))
theorem f24_j4_g (L : Leaf) (n : Nat) (i1 i2 : Int) (b3 : Bool) (σ : St) : goT Tryd.prog Lb 24 n L [[1, 0, 1, 0, 1, 1, 1, 1, 1]] [1, 0, 1, 0, 1, 1, 1] [] ⟨tm 32 [(1, .v (.int .i64 i1)), (4, .lp 4 0), (5, .v (.int .u32 i2)), (10, .v (.bool b3))] 0, [(4, [.bool false, .bool false, .bool false, .bool false])]⟩ σ = f24_j4_t L n i1 i2 b3 σ := by kernel_rfl
theorem f24_j4_e {n : Nat} {i1 i2 : Int} {b3 : Bool} {σ : St} : Le (f24_j4_t (pt Tryd.prog Lb 24 n) n i1 i2 b3 σ) (f24_j4 (pt Tryd.prog Lb 24 n) i1 i2 b3 σ) := by
  unfold f24_j4; exact goT_pt (f24_j4_g _ n i1 i2 b3 σ)
noncomputable def f24_j5_t (_ : Leaf) (_ : Nat) (_ _ : Int) (σ : St) : Out :=
 some (.ret (.agg [.bool false, .bool true, .bool true, .bool true]), σ)
theorem f24_j5_g (L : Leaf) (n : Nat) (i1 i2 : Int) (σ : St) : goT Tryd.prog Lb 24 n L [] [1, 0, 1, 0, 1, 1, 1, 1, 1] [] ⟨tm 32 [(1, .v (.int .i64 i1)), (4, .lp 4 0), (5, .v (.int .u32 i2)), (15, .v (.bool true))] 0, [(4, [.bool false, .bool false, .bool false, .bool false])]⟩ σ = f24_j5_t L n i1 i2 σ := by kernel_rfl
theorem f24_j5_e {n : Nat} {i1 i2 : Int} {σ : St} : Le (f24_j5_t (pt Tryd.prog Lb 24 n) n i1 i2 σ) (f24_j5 (pt Tryd.prog Lb 24 n) i1 i2 σ) := by
  unfold f24_j5; exact goT_pt (f24_j5_g _ n i1 i2 σ)
noncomputable def f24_j6_t (_ : Leaf) (_ : Nat) (i1 i2 : Int) (b3 : Bool) (σ : St) : Out :=
 cond b3 (some (.ret (.agg [.bool false, .bool true, .bool true, .bool true]), σ)) (cond (i2 == (8 : Int)) (some (.ret (.agg [.bool true, .bool true, .bool true, .bool false]), σ)) (cond (i2 == (9 : Int)) (cond (i1 != (66 : Int)) (some (.ret (.agg [.bool true, .bool true, .bool (i1 != (77 : Int)), .bool true]), σ)) (some (.ret (.agg [.bool true, .bool true, .bool false, .bool true]), σ))) (some (.ret (.agg [.bool false, .bool false, .bool false, .bool false]), σ))))
theorem f24_j6_g (L : Leaf) (n : Nat) (i1 i2 : Int) (b3 : Bool) (σ : St) : goT Tryd.prog Lb 24 n L [] [1, 0, 1, 0, 1, 1, 1, 1, 1] [] ⟨tm 32 [(1, .v (.int .i64 i1)), (4, .lp 4 0), (5, .v (.int .u32 i2)), (15, .v (.bool b3))] 0, [(4, [.bool false, .bool false, .bool false, .bool false])]⟩ σ = f24_j6_t L n i1 i2 b3 σ := by kernel_rfl
theorem f24_j6_e {n : Nat} {i1 i2 : Int} {b3 : Bool} {σ : St} : Le (f24_j6_t (pt Tryd.prog Lb 24 n) n i1 i2 b3 σ) (f24_j6 (pt Tryd.prog Lb 24 n) i1 i2 b3 σ) := by
  unfold f24_j6; exact goT_pt (f24_j6_g _ n i1 i2 b3 σ)
/-! ### binnacle/inst.spans(form, v) -/
noncomputable def f25_t (_ : Leaf) (_ : Nat) (i1 i2 : Int) (σ : St) : Out :=
 cond (i1 == (1 : Int)) (cond (decide (i2 ≥ (-2147483648 : Int))) (cond (decide (i2 < (2147483648 : Int))) (some (.ret (.bool ((Int.tmod i2 (4096 : Int)) == (0 : Int))), σ)) (some (.ret (.bool false), σ))) (some (.ret (.bool false), σ))) (cond (i1 == (2 : Int)) (cond (decide (i2 ≥ (-1048576 : Int))) (cond (decide (i2 < (1048576 : Int))) (some (.ret (.bool ((Int.tmod i2 (2 : Int)) == (0 : Int))), σ)) (some (.ret (.bool false), σ))) (some (.ret (.bool false), σ))) (cond (i1 == (4 : Int)) (cond (decide (i2 ≥ (-4096 : Int))) (cond (decide (i2 < (4096 : Int))) (some (.ret (.bool ((Int.tmod i2 (2 : Int)) == (0 : Int))), σ)) (some (.ret (.bool false), σ))) (some (.ret (.bool false), σ))) (cond (i1 == (6 : Int)) (cond (decide (i2 ≥ (0 : Int))) (some (.ret (.bool (decide (i2 < (64 : Int)))), σ)) (some (.ret (.bool false), σ))) (cond (i1 == (7 : Int)) (cond (decide (i2 ≥ (0 : Int))) (some (.ret (.bool (decide (i2 < (32 : Int)))), σ)) (some (.ret (.bool false), σ))) (cond (i1 == (9 : Int)) (cond (decide (i2 ≥ (0 : Int))) (some (.ret (.bool (decide (i2 < (4 : Int)))), σ)) (some (.ret (.bool false), σ))) (cond (decide (i2 ≥ (-2048 : Int))) (some (.ret (.bool (decide (i2 < (2048 : Int)))), σ)) (some (.ret (.bool false), σ))))))))
theorem f25_g (L : Leaf) (n : Nat) (i1 i2 : Int) (σ : St) : goT Tryd.prog Lb 25 n L [] [] [] ⟨tm 75 [(0, .v (.int .u32 i1)), (1, .v (.int .i64 i2))] 0, []⟩ σ = f25_t L n i1 i2 σ := by kernel_rfl
theorem f25_e {n : Nat} {i1 i2 : Int} {σ : St} : Le (f25_t (pt Tryd.prog Lb 25 n) n i1 i2 σ) (callP Tryd.prog Lb (n + 1) 25 [.int .u32 i1, .int .i64 i2] σ) :=
  goT_call (f25_g _ n i1 i2 σ) rfl (by kernel_rfl) (by kernel_rfl)
/-! ### binnacle/binnacleref02.reg(n) -/
noncomputable def f26_t (_ : Leaf) (_ : Nat) (i1 : Int) (σ : St) : Out :=
 cond (decide (i1 ≥ (0 : Int))) (some (.ret (.bool (decide (i1 ≤ (31 : Int)))), σ)) (some (.ret (.bool false), σ))
theorem f26_g (L : Leaf) (n : Nat) (i1 : Int) (σ : St) : goT Tryd.prog Lb 26 n L [] [] [] ⟨tm 9 [(0, .v (.int .i64 i1))] 0, []⟩ σ = f26_t L n i1 σ := by kernel_rfl
theorem f26_e {n : Nat} {i1 : Int} {σ : St} : Le (f26_t (pt Tryd.prog Lb 26 n) n i1 σ) (callP Tryd.prog Lb (n + 1) 26 [.int .i64 i1] σ) :=
  goT_call (f26_g _ n i1 σ) rfl (by kernel_rfl) (by kernel_rfl)
/-! ### binnacle/binnacleref02.within(v, least, most, of) -/
noncomputable def f27_t (_ : Leaf) (_ : Nat) (i1 i2 i3 i4 : Int) (σ : St) : Out :=
 cond (decide (i1 ≥ i2)) (cond (decide (i1 ≤ i3)) (divK i4 <|
   some (.ret (.bool ((Int.tmod i1 i4) == (0 : Int))), σ)) (some (.ret (.bool false), σ))) (some (.ret (.bool false), σ))
theorem f27_g (L : Leaf) (n : Nat) (i1 i2 i3 i4 : Int) (σ : St) : goT Tryd.prog Lb 27 n L [] [] [] ⟨tm 23 [(0, .v (.int .i64 i1)), (1, .v (.int .i64 i2)), (2, .v (.int .i64 i3)), (3, .v (.int .i64 i4))] 0, []⟩ σ = f27_t L n i1 i2 i3 i4 σ := by kernel_rfl
theorem f27_e {n : Nat} {i1 i2 i3 i4 : Int} {σ : St} : Le (f27_t (pt Tryd.prog Lb 27 n) n i1 i2 i3 i4 σ) (callP Tryd.prog Lb (n + 1) 27 [.int .i64 i1, .int .i64 i2, .int .i64 i3, .int .i64 i4] σ) :=
  goT_call (f27_g _ n i1 i2 i3 i4 σ) rfl (by kernel_rfl) (by kernel_rfl)
/-! ### binnacle/inst.bits(v, from, many) -/
noncomputable def f28_t (_ : Leaf) (_ : Nat) (i1 i2 i3 : Int) (σ : St) : Out :=
 shK i2 <|
 shK i3 <|
 some (.ret (.int .u32 (IntKind.wrap .u32 (((BitVec.ofInt 32 (IntKind.wrap .u32 (Int.fdiv i1 (2 ^ (min (i2).toNat (IntKind.bits .i64))))) &&& BitVec.ofInt 32 (IntKind.wrap .u32 ((IntKind.wrap .u32 ((1 : Int) * 2 ^ (min (i3).toNat (IntKind.bits .u32)))) - (1 : Int)))).toNat : Nat) : Int))), σ)
theorem f28_g (L : Leaf) (n : Nat) (i1 i2 i3 : Int) (σ : St) : goT Tryd.prog Lb 28 n L [] [] [] ⟨tm 15 [(0, .v (.int .i64 i1)), (1, .v (.int .i64 i2)), (2, .v (.int .i64 i3))] 0, []⟩ σ = f28_t L n i1 i2 i3 σ := by kernel_rfl
theorem f28_e {n : Nat} {i1 i2 i3 : Int} {σ : St} : Le (f28_t (pt Tryd.prog Lb 28 n) n i1 i2 i3 σ) (callP Tryd.prog Lb (n + 1) 28 [.int .i64 i1, .int .i64 i2, .int .i64 i3] σ) :=
  goT_call (f28_g _ n i1 i2 i3 σ) rfl (by kernel_rfl) (by kernel_rfl)
/-! ### binnacle/binnacleref02.field(v, from, many, to) -/
noncomputable def f29_l1 (L : Leaf) (m0 : Nat) (i1 i2 i3 i4 i5 i6 : Int) (σ : St) : Out :=
  L [1, 1, 0, 1, 0] [m0] ⟨tm 40 [(1, .v (.int .i64 i1)), (2, .v (.int .i64 i2)), (3, .v (.int .i64 i3)), (8, .v (.int .u32 i4)), (9, .v (.int .u64 i5)), (10, .v (.int .i64 i6))] 0, []⟩ σ
noncomputable def f29_j2 (L : Leaf) (i1 i2 i3 i4 : Int) (σ : St) : Out :=
  L [1, 1, 1] [] ⟨tm 40 [(2, .v (.int .i64 i1)), (3, .v (.int .i64 i2)), (8, .v (.int .u32 i3)), (9, .v (.int .u64 i4))] 0, []⟩ σ
noncomputable def f29_l3 (L : Leaf) (m0 : Nat) (i1 i2 i3 i4 i5 i6 : Int) (σ : St) : Out :=
  L [1, 1, 1, 1, 0, 1, 0] [m0] ⟨tm 40 [(2, .v (.int .i64 i1)), (3, .v (.int .i64 i2)), (8, .v (.int .u32 i3)), (9, .v (.int .u64 i4)), (11, .v (.int .u32 i5)), (12, .v (.int .i64 i6))] 0, []⟩ σ
noncomputable def f29_j4 (L : Leaf) (i1 i2 : Int) (σ : St) : Out :=
  L [1, 1, 1, 1, 1] [] ⟨tm 40 [(8, .v (.int .u32 i1)), (11, .v (.int .u32 i2))] 0, []⟩ σ
noncomputable def f29_t (L : Leaf) (n : Nat) (i1 i2 i3 i4 : Int) (σ : St) : Out :=
 f29_l1 L n i2 i3 i4 (0 : Int) (IntKind.wrap .u64 i1) (0 : Int) σ
theorem f29_g (L : Leaf) (n : Nat) (i1 i2 i3 i4 : Int) (σ : St) : goT Tryd.prog Lb 29 n L [] [] [] ⟨tm 40 [(0, .v (.int .i64 i1)), (1, .v (.int .i64 i2)), (2, .v (.int .i64 i3)), (3, .v (.int .i64 i4))] 0, []⟩ σ = f29_t L n i1 i2 i3 i4 σ := by kernel_rfl
theorem f29_e {n : Nat} {i1 i2 i3 i4 : Int} {σ : St} : Le (f29_t (pt Tryd.prog Lb 29 n) n i1 i2 i3 i4 σ) (callP Tryd.prog Lb (n + 1) 29 [.int .i64 i1, .int .i64 i2, .int .i64 i3, .int .i64 i4] σ) :=
  goT_call (f29_g _ n i1 i2 i3 i4 σ) rfl (by kernel_rfl) (by kernel_rfl)
noncomputable def f29_l1_t (L : Leaf) (_ m0 : Nat) (i1 i2 i3 i4 i5 i6 : Int) (σ : St) : Out :=
 cond (decide (i6 < i1)) (f29_l1 L m0 i1 i2 i3 i4 (IntKind.wrap .u64 (Int.tdiv i5 (2 : Int))) (IntKind.wrap .i64 (i6 + (1 : Int))) σ) (f29_j2 L i2 i3 i4 i5 σ)
theorem f29_l1_g (L : Leaf) (n : Nat) (m0 : Nat) (i1 i2 i3 i4 i5 i6 : Int) (σ : St) : goT Tryd.prog Lb 29 n L [[1, 1, 1]] [1, 1, 0, 1, 0] [m0 + 1] ⟨tm 40 [(1, .v (.int .i64 i1)), (2, .v (.int .i64 i2)), (3, .v (.int .i64 i3)), (8, .v (.int .u32 i4)), (9, .v (.int .u64 i5)), (10, .v (.int .i64 i6))] 0, []⟩ σ = f29_l1_t L n m0 i1 i2 i3 i4 i5 i6 σ := by kernel_rfl
theorem f29_l1_e {n : Nat} {m0 : Nat} {i1 i2 i3 i4 i5 i6 : Int} {σ : St} : Le (f29_l1_t (pt Tryd.prog Lb 29 n) n m0 i1 i2 i3 i4 i5 i6 σ) (f29_l1 (pt Tryd.prog Lb 29 n) (m0 + 1) i1 i2 i3 i4 i5 i6 σ) := by
  unfold f29_l1; exact goT_pt (f29_l1_g _ n m0 i1 i2 i3 i4 i5 i6 σ)
noncomputable def f29_j2_t (L : Leaf) (n : Nat) (i1 i2 i3 i4 : Int) (σ : St) : Out :=
 f29_l3 L n i1 i2 i3 i4 (0 : Int) (0 : Int) σ
theorem f29_j2_g (L : Leaf) (n : Nat) (i1 i2 i3 i4 : Int) (σ : St) : goT Tryd.prog Lb 29 n L [] [1, 1, 1] [] ⟨tm 40 [(2, .v (.int .i64 i1)), (3, .v (.int .i64 i2)), (8, .v (.int .u32 i3)), (9, .v (.int .u64 i4))] 0, []⟩ σ = f29_j2_t L n i1 i2 i3 i4 σ := by kernel_rfl
theorem f29_j2_e {n : Nat} {i1 i2 i3 i4 : Int} {σ : St} : Le (f29_j2_t (pt Tryd.prog Lb 29 n) n i1 i2 i3 i4 σ) (f29_j2 (pt Tryd.prog Lb 29 n) i1 i2 i3 i4 σ) := by
  unfold f29_j2; exact goT_pt (f29_j2_g _ n i1 i2 i3 i4 σ)
noncomputable def f29_l3_t (L : Leaf) (_ m0 : Nat) (i1 i2 i3 i4 i5 i6 : Int) (σ : St) : Out :=
 cond (decide (i6 < i1)) (cond ((Int.tmod i4 (2 : Int)) == (1 : Int)) (shK (IntKind.wrap .u64 (IntKind.wrap .i64 (i2 + i6))) <|
   f29_l3 L m0 i1 i2 i3 (IntKind.wrap .u64 (Int.tdiv i4 (2 : Int))) (IntKind.wrap .u32 (((BitVec.ofInt 32 i5 ||| BitVec.ofInt 32 (IntKind.wrap .u32 ((1 : Int) * 2 ^ (min ((IntKind.wrap .u64 (IntKind.wrap .i64 (i2 + i6)))).toNat (IntKind.bits .u32))))).toNat : Nat) : Int)) (IntKind.wrap .i64 (i6 + (1 : Int))) σ) (f29_l3 L m0 i1 i2 i3 (IntKind.wrap .u64 (Int.tdiv i4 (2 : Int))) i5 (IntKind.wrap .i64 (i6 + (1 : Int))) σ)) (f29_j4 L i3 i5 σ)
theorem f29_l3_g (L : Leaf) (n : Nat) (m0 : Nat) (i1 i2 i3 i4 i5 i6 : Int) (σ : St) : goT Tryd.prog Lb 29 n L [[1, 1, 1, 1, 1]] [1, 1, 1, 1, 0, 1, 0] [m0 + 1] ⟨tm 40 [(2, .v (.int .i64 i1)), (3, .v (.int .i64 i2)), (8, .v (.int .u32 i3)), (9, .v (.int .u64 i4)), (11, .v (.int .u32 i5)), (12, .v (.int .i64 i6))] 0, []⟩ σ = f29_l3_t L n m0 i1 i2 i3 i4 i5 i6 σ := by kernel_rfl
theorem f29_l3_e {n : Nat} {m0 : Nat} {i1 i2 i3 i4 i5 i6 : Int} {σ : St} : Le (f29_l3_t (pt Tryd.prog Lb 29 n) n m0 i1 i2 i3 i4 i5 i6 σ) (f29_l3 (pt Tryd.prog Lb 29 n) (m0 + 1) i1 i2 i3 i4 i5 i6 σ) := by
  unfold f29_l3; exact goT_pt (f29_l3_g _ n m0 i1 i2 i3 i4 i5 i6 σ)
noncomputable def f29_j4_t (_ : Leaf) (_ : Nat) (_ i2 : Int) (σ : St) : Out :=
 some (.ret (.int .u32 i2), σ)
theorem f29_j4_g (L : Leaf) (n : Nat) (i1 i2 : Int) (σ : St) : goT Tryd.prog Lb 29 n L [] [1, 1, 1, 1, 1] [] ⟨tm 40 [(8, .v (.int .u32 i1)), (11, .v (.int .u32 i2))] 0, []⟩ σ = f29_j4_t L n i1 i2 σ := by kernel_rfl
theorem f29_j4_e {n : Nat} {i1 i2 : Int} {σ : St} : Le (f29_j4_t (pt Tryd.prog Lb 29 n) n i1 i2 σ) (f29_j4 (pt Tryd.prog Lb 29 n) i1 i2 σ) := by
  unfold f29_j4; exact goT_pt (f29_j4_g _ n i1 i2 σ)
end Go.Proofs

/- The functions, as trees of named steps. -/
import Derived.Test.YtlbieeajocjpeaaGreatDoorAmT
import Derived.Test.YtlbieeajocjpeaaGreatDoorLb
import Derived.Test.YtlbieeajocjpeaaGreatDoorChecked
namespace Go.Proofs
open Go.AM
set_option maxHeartbeats 4000000
/-! ### binnacle/binnaclelaw17.FrontPlaces(s) -/
noncomputable def f4_l1 (L : Leaf) (m0 : Nat) (s1 : List UInt8) (b2 : Bool) (a3 : Option (Nat × Nat)) (n4 : Nat) (c5 : Option Nat) (z6 : Nat) (a7 : Option (Nat × Nat)) (n8 : Nat) (c9 : Option Nat) (z10 : Nat) (i11 : Int) (σ : St) : Out :=
  L [1, 1, 1, 1, 1, 0, 1, 0] [m0] ⟨tm 170 [(0, .v (.str s1)), (2, .v (.bool false)), (3, .v (.bool b2)), (4, .v (.slice a3 n4 c5 z6)), (7, .v (.slice a7 n8 c9 z10)), (8, .v (.int .i64 i11))] 0, [], []⟩ σ
noncomputable def f4_l2 (L : Leaf) (m0 m1 : Nat) (s1 : List UInt8) (b2 : Bool) (a3 : Option (Nat × Nat)) (n4 : Nat) (c5 : Option Nat) (z6 : Nat) (a7 : Option (Nat × Nat)) (n8 : Nat) (c9 : Option Nat) (z10 : Nat) (i11 i12 i13 : Int) (σ : St) : Out :=
  L [1, 1, 1, 1, 1, 0, 1, 0, 0, 1, 0, 0, 1, 0, 1, 0] [m0, m1] ⟨tm 170 [(0, .v (.str s1)), (2, .v (.bool false)), (3, .v (.bool b2)), (4, .v (.slice a3 n4 c5 z6)), (7, .v (.slice a7 n8 c9 z10)), (8, .v (.int .i64 i11)), (9, .v (.int .i64 i12)), (10, .v (.int .i64 i13))] 0, [], []⟩ σ
noncomputable def f4_j3 (L : Leaf) (b1 : Bool) (a2 : Option (Nat × Nat)) (n3 : Nat) (c4 : Option Nat) (z5 : Nat) (a6 : Option (Nat × Nat)) (n7 : Nat) (c8 : Option Nat) (z9 : Nat) (σ : St) : Out :=
  L [1, 1, 1, 1, 1, 1] [] ⟨tm 170 [(2, .v (.bool false)), (3, .v (.bool b1)), (4, .v (.slice a2 n3 c4 z5)), (7, .v (.slice a6 n7 c8 z9))] 0, [], []⟩ σ
noncomputable def f4_j4 (L : Leaf) (m0 m1 : Nat) (s1 : List UInt8) (b2 : Bool) (a3 : Option (Nat × Nat)) (n4 : Nat) (c5 : Option Nat) (z6 : Nat) (a7 : Option (Nat × Nat)) (n8 : Nat) (c9 : Option Nat) (z10 : Nat) (i11 i12 i13 : Int) (σ : St) : Out :=
  L [1, 1, 1, 1, 1, 0, 1, 0, 0, 1, 0, 0, 1, 0, 1, 0, 0, 1, 0, 0, 0, 1] [m0, m1] ⟨tm 170 [(0, .v (.str s1)), (2, .v (.bool false)), (3, .v (.bool b2)), (4, .v (.slice a3 n4 c5 z6)), (7, .v (.slice a7 n8 c9 z10)), (8, .v (.int .i64 i11)), (9, .v (.int .i64 i12)), (10, .v (.int .i64 i13)), (105, .v (.bool true))] 0, [], []⟩ σ
noncomputable def f4_j5 (L : Leaf) (m0 m1 : Nat) (s1 : List UInt8) (b2 : Bool) (a3 : Option (Nat × Nat)) (n4 : Nat) (c5 : Option Nat) (z6 : Nat) (a7 : Option (Nat × Nat)) (n8 : Nat) (c9 : Option Nat) (z10 : Nat) (i11 i12 i13 : Int) (b14 : Bool) (σ : St) : Out :=
  L [1, 1, 1, 1, 1, 0, 1, 0, 0, 1, 0, 0, 1, 0, 1, 0, 0, 1, 0, 0, 0, 1] [m0, m1] ⟨tm 170 [(0, .v (.str s1)), (2, .v (.bool false)), (3, .v (.bool b2)), (4, .v (.slice a3 n4 c5 z6)), (7, .v (.slice a7 n8 c9 z10)), (8, .v (.int .i64 i11)), (9, .v (.int .i64 i12)), (10, .v (.int .i64 i13)), (105, .v (.bool b14))] 0, [], []⟩ σ
noncomputable def f4_j6 (L : Leaf) (m0 m1 : Nat) (s1 : List UInt8) (b2 : Bool) (a3 : Option (Nat × Nat)) (n4 : Nat) (c5 : Option Nat) (z6 : Nat) (a7 : Option (Nat × Nat)) (n8 : Nat) (c9 : Option Nat) (z10 : Nat) (i11 i12 i13 : Int) (σ : St) : Out :=
  L [1, 1, 1, 1, 1, 0, 1, 0, 0, 1, 0, 0, 1, 0, 1, 0, 0, 1, 0, 0, 0, 1] [m0, m1] ⟨tm 170 [(0, .v (.str s1)), (2, .v (.bool false)), (3, .v (.bool b2)), (4, .v (.slice a3 n4 c5 z6)), (7, .v (.slice a7 n8 c9 z10)), (8, .v (.int .i64 i11)), (9, .v (.int .i64 i12)), (10, .v (.int .i64 i13)), (105, .v (.bool false))] 0, [], []⟩ σ
noncomputable def f4_j7 (L : Leaf) (m0 : Nat) (s1 : List UInt8) (b2 : Bool) (a3 : Option (Nat × Nat)) (n4 : Nat) (c5 : Option Nat) (z6 : Nat) (a7 : Option (Nat × Nat)) (n8 : Nat) (c9 : Option Nat) (z10 : Nat) (i11 i12 : Int) (σ : St) : Out :=
  L [1, 1, 1, 1, 1, 0, 1, 0, 0, 1, 0, 0, 1, 1] [m0] ⟨tm 170 [(0, .v (.str s1)), (2, .v (.bool false)), (3, .v (.bool b2)), (4, .v (.slice a3 n4 c5 z6)), (7, .v (.slice a7 n8 c9 z10)), (8, .v (.int .i64 i11)), (9, .v (.int .i64 i12))] 0, [], []⟩ σ
noncomputable def f4_j8 (L : Leaf) (m0 : Nat) (s1 : List UInt8) (b2 : Bool) (a3 : Option (Nat × Nat)) (n4 : Nat) (c5 : Option Nat) (z6 : Nat) (a7 : Option (Nat × Nat)) (n8 : Nat) (c9 : Option Nat) (z10 : Nat) (i11 : Int) (σ : St) : Out :=
  L [1, 1, 1, 1, 1, 0, 1, 0, 0, 1, 1] [m0] ⟨tm 170 [(0, .v (.str s1)), (2, .v (.bool false)), (3, .v (.bool b2)), (4, .v (.slice a3 n4 c5 z6)), (7, .v (.slice a7 n8 c9 z10)), (8, .v (.int .i64 i11))] 0, [], []⟩ σ
noncomputable def f4_t (L : Leaf) (n : Nat) (s1 : List UInt8) (σ : St) : Out :=
 callT Tryz.prog Lb n 6 [] σ fun v3 σ2 =>
 xBool v3 fun b4 =>
 callT Tryz.prog Lb n 7 [.str s1] σ2 fun v6 σ5 =>
 xTup v6 fun cs7 =>
 unC cs7 fun x8 r9 =>
 xSl x8 fun a10 n11 c12 z13 =>
 unC r9 fun x14 r15 =>
 xInt .i64 x14 fun i16 =>
 unC r15 fun x17 r18 =>
 xInt .i64 x17 fun i19 =>
 nlC r18 <|
 cond (i16 != (0 : Int)) (cond b4 (cond (decide (i19 ≥ (0 : Int))) (cond (decide (i19 ≤ (s1.length : Int))) (some (.ret (.bool true), σ5)) (some (.ret (.bool (i19 == (0 : Int))), σ5))) (some (.ret (.bool false), σ5))) (some (.ret (.bool false), σ5))) (makeK Tryz.prog 3 1 (n11 : Int) (n11 : Int) σ5 fun σ20 =>
  f4_l1 L n s1 b4 a10 n11 c12 z13 (some (σ5.length, 0)) (((n11 : Int)).toNat) (some ((n11 : Int)).toNat) 1 (0 : Int) σ20)
theorem f4_g (L : Leaf) (n : Nat) (s1 : List UInt8) (σ : St) : goT Tryz.prog Lb 4 n L [] [] [] ⟨tm 170 [(0, .v (.str s1))] 0, [], []⟩ σ = f4_t L n s1 σ := by kernel_rfl
theorem f4_e {n : Nat} {s1 : List UInt8} {σ : St} : Le (f4_t (pt Tryz.prog Lb 4 n) n s1 σ) (callP Tryz.prog Lb (n + 1) 4 [.str s1] σ) :=
  goT_call (f4_g _ n s1 σ) rfl (by kernel_rfl) (by kernel_rfl)
noncomputable def f4_l1_t (L : Leaf) (n m0 : Nat) (s1 : List UInt8) (b2 : Bool) (a3 : Option (Nat × Nat)) (n4 : Nat) (c5 : Option Nat) (z6 : Nat) (a7 : Option (Nat × Nat)) (n8 : Nat) (c9 : Option Nat) (z10 : Nat) (i11 : Int) (σ : St) : Out :=
 cond (decide (i11 < (n4 : Int))) (idxK i11 n4 <|
  derefK a3 fun b12 o13 =>
  szK z6 6 <|
  ldK Tryz.prog 32 σ b12 ((o13 + ((i11).toNat * 6)) + 5) fun x14 =>
  xSl x14 fun _ n16 _ _ =>
  f4_l2 L m0 n s1 b2 a3 n4 c5 z6 a7 n8 c9 z10 i11 i11 (IntKind.wrap .i64 ((n16 : Int) - (1 : Int))) σ) (f4_j3 L b2 a3 n4 c5 z6 a7 n8 c9 z10 σ)
theorem f4_l1_g (L : Leaf) (n : Nat) (m0 : Nat) (s1 : List UInt8) (b2 : Bool) (a3 : Option (Nat × Nat)) (n4 : Nat) (c5 : Option Nat) (z6 : Nat) (a7 : Option (Nat × Nat)) (n8 : Nat) (c9 : Option Nat) (z10 : Nat) (i11 : Int) (σ : St) : goT Tryz.prog Lb 4 n L [[1, 1, 1, 1, 1, 1]] [1, 1, 1, 1, 1, 0, 1, 0] [m0 + 1] ⟨tm 170 [(0, .v (.str s1)), (2, .v (.bool false)), (3, .v (.bool b2)), (4, .v (.slice a3 n4 c5 z6)), (7, .v (.slice a7 n8 c9 z10)), (8, .v (.int .i64 i11))] 0, [], []⟩ σ = f4_l1_t L n m0 s1 b2 a3 n4 c5 z6 a7 n8 c9 z10 i11 σ := by kernel_rfl
theorem f4_l1_e {n : Nat} {m0 : Nat} {s1 : List UInt8} {b2 : Bool} {a3 : Option (Nat × Nat)} {n4 : Nat} {c5 : Option Nat} {z6 : Nat} {a7 : Option (Nat × Nat)} {n8 : Nat} {c9 : Option Nat} {z10 : Nat} {i11 : Int} {σ : St} : Le (f4_l1_t (pt Tryz.prog Lb 4 n) n m0 s1 b2 a3 n4 c5 z6 a7 n8 c9 z10 i11 σ) (f4_l1 (pt Tryz.prog Lb 4 n) (m0 + 1) s1 b2 a3 n4 c5 z6 a7 n8 c9 z10 i11 σ) := by
  unfold f4_l1; exact goT_pt (f4_l1_g _ n m0 s1 b2 a3 n4 c5 z6 a7 n8 c9 z10 i11 σ)
noncomputable def f4_l2_t (L : Leaf) (_ m0 m1 : Nat) (s1 : List UInt8) (b2 : Bool) (a3 : Option (Nat × Nat)) (n4 : Nat) (c5 : Option Nat) (z6 : Nat) (a7 : Option (Nat × Nat)) (n8 : Nat) (c9 : Option Nat) (z10 : Nat) (i11 i12 i13 : Int) (σ : St) : Out :=
 cond (decide (i13 ≥ (0 : Int))) (idxK i11 n4 <|
  derefK a3 fun b14 o15 =>
  szK z6 6 <|
  ldK Tryz.prog 32 σ b14 ((o15 + ((i11).toNat * 6)) + 5) fun x16 =>
  xSl x16 fun a17 n18 _ z20 =>
  idxK i13 n18 <|
  derefK a17 fun b21 o22 =>
  szK z20 1 <|
  ldK Tryz.prog 3 σ b21 (o22 + ((i13).toNat * 1)) fun x23 =>
  xInt .i64 x23 fun i24 =>
  cond (decide (i24 < (0 : Int))) (f4_j4 L m0 m1 s1 b2 a3 n4 c5 z6 a7 n8 c9 z10 i11 i12 i13 σ) (idxK i11 n4 <|
   derefK a3 fun b25 o26 =>
   szK z6 6 <|
   ldK Tryz.prog 32 σ b25 ((o26 + ((i11).toNat * 6)) + 5) fun x27 =>
   xSl x27 fun a28 n29 _ z31 =>
   idxK i13 n29 <|
   derefK a28 fun b32 o33 =>
   szK z31 1 <|
   ldK Tryz.prog 3 σ b32 (o33 + ((i13).toNat * 1)) fun x34 =>
   xInt .i64 x34 fun i35 =>
   cond (i35 != (IntKind.wrap .i64 (i12 - (1 : Int)))) (f4_j4 L m0 m1 s1 b2 a3 n4 c5 z6 a7 n8 c9 z10 i11 i12 i13 σ) (idxK i11 n4 <|
    derefK a3 fun b36 o37 =>
    szK z6 6 <|
    ldK Tryz.prog 32 σ b36 ((o37 + ((i11).toNat * 6)) + 5) fun x38 =>
    xSl x38 fun a39 n40 _ z42 =>
    idxK i13 n40 <|
    derefK a39 fun b43 o44 =>
    szK z42 1 <|
    ldK Tryz.prog 3 σ b43 (o44 + ((i13).toNat * 1)) fun x45 =>
    xInt .i64 x45 fun i46 =>
    idxK i46 n4 <|
    derefK a3 fun b47 o48 =>
    szK z6 6 <|
    ldK Tryz.prog 3 σ b47 ((o48 + ((i46).toNat * 6)) + 1) fun x49 =>
    xInt .i64 x49 fun i50 =>
    idxK i11 n4 <|
    derefK a3 fun b51 o52 =>
    szK z6 6 <|
    ldK Tryz.prog 3 σ b51 ((o52 + ((i11).toNat * 6)) + 1) fun x53 =>
    xInt .i64 x53 fun i54 =>
    cond (decide (i50 < i54)) (idxK i11 n4 <|
     derefK a3 fun b55 o56 =>
     szK z6 6 <|
     ldK Tryz.prog 3 σ b55 ((o56 + ((i11).toNat * 6)) + 0) fun x57 =>
     xInt .i64 x57 fun i58 =>
     f4_j5 L m0 m1 s1 b2 a3 n4 c5 z6 a7 n8 c9 z10 i11 i12 i13 (i58 != (23 : Int)) σ) (f4_j6 L m0 m1 s1 b2 a3 n4 c5 z6 a7 n8 c9 z10 i11 i12 i13 σ)))) (f4_j7 L m0 s1 b2 a3 n4 c5 z6 a7 n8 c9 z10 i11 i12 σ)
theorem f4_l2_g (L : Leaf) (n : Nat) (m0 m1 : Nat) (s1 : List UInt8) (b2 : Bool) (a3 : Option (Nat × Nat)) (n4 : Nat) (c5 : Option Nat) (z6 : Nat) (a7 : Option (Nat × Nat)) (n8 : Nat) (c9 : Option Nat) (z10 : Nat) (i11 i12 i13 : Int) (σ : St) : goT Tryz.prog Lb 4 n L [[1, 1, 1, 1, 1, 0, 1, 0, 0, 1, 0, 0, 1, 0, 1, 0, 0, 1, 0, 0, 0, 1], [1, 1, 1, 1, 1, 0, 1, 0, 0, 1, 0, 0, 1, 1]] [1, 1, 1, 1, 1, 0, 1, 0, 0, 1, 0, 0, 1, 0, 1, 0] [m0, m1 + 1] ⟨tm 170 [(0, .v (.str s1)), (2, .v (.bool false)), (3, .v (.bool b2)), (4, .v (.slice a3 n4 c5 z6)), (7, .v (.slice a7 n8 c9 z10)), (8, .v (.int .i64 i11)), (9, .v (.int .i64 i12)), (10, .v (.int .i64 i13))] 0, [], []⟩ σ = f4_l2_t L n m0 m1 s1 b2 a3 n4 c5 z6 a7 n8 c9 z10 i11 i12 i13 σ := by kernel_rfl
theorem f4_l2_e {n : Nat} {m0 m1 : Nat} {s1 : List UInt8} {b2 : Bool} {a3 : Option (Nat × Nat)} {n4 : Nat} {c5 : Option Nat} {z6 : Nat} {a7 : Option (Nat × Nat)} {n8 : Nat} {c9 : Option Nat} {z10 : Nat} {i11 i12 i13 : Int} {σ : St} : Le (f4_l2_t (pt Tryz.prog Lb 4 n) n m0 m1 s1 b2 a3 n4 c5 z6 a7 n8 c9 z10 i11 i12 i13 σ) (f4_l2 (pt Tryz.prog Lb 4 n) m0 (m1 + 1) s1 b2 a3 n4 c5 z6 a7 n8 c9 z10 i11 i12 i13 σ) := by
  unfold f4_l2; exact goT_pt (f4_l2_g _ n m0 m1 s1 b2 a3 n4 c5 z6 a7 n8 c9 z10 i11 i12 i13 σ)
noncomputable def f4_j3_t (_ : Leaf) (_ : Nat) (b1 : Bool) (a2 : Option (Nat × Nat)) (n3 : Nat) (_ : Option Nat) (z5 : Nat) (a6 : Option (Nat × Nat)) (n7 : Nat) (_ : Option Nat) (z9 : Nat) (σ : St) : Out :=
 cond b1 (cond (decide ((n3 : Int) > (0 : Int))) (idxK (IntKind.wrap .i64 ((n3 : Int) - (1 : Int))) n7 <|
   derefK a6 fun b10 o11 =>
   szK z9 1 <|
   ldK Tryz.prog 3 σ b10 (o11 + (((IntKind.wrap .i64 ((n3 : Int) - (1 : Int)))).toNat * 1)) fun x12 =>
   xInt .i64 x12 fun i13 =>
   cond (i13 == (0 : Int)) (idxK (IntKind.wrap .i64 ((n3 : Int) - (1 : Int))) n3 <|
    derefK a2 fun b14 o15 =>
    szK z5 6 <|
    ldK Tryz.prog 3 σ b14 ((o15 + (((IntKind.wrap .i64 ((n3 : Int) - (1 : Int)))).toNat * 6)) + 0) fun x16 =>
    xInt .i64 x16 fun i17 =>
    some (.ret (.bool (i17 == (23 : Int))), σ)) (some (.ret (.bool false), σ))) (some (.ret (.bool false), σ))) (some (.ret (.bool false), σ))
theorem f4_j3_g (L : Leaf) (n : Nat) (b1 : Bool) (a2 : Option (Nat × Nat)) (n3 : Nat) (c4 : Option Nat) (z5 : Nat) (a6 : Option (Nat × Nat)) (n7 : Nat) (c8 : Option Nat) (z9 : Nat) (σ : St) : goT Tryz.prog Lb 4 n L [] [1, 1, 1, 1, 1, 1] [] ⟨tm 170 [(2, .v (.bool false)), (3, .v (.bool b1)), (4, .v (.slice a2 n3 c4 z5)), (7, .v (.slice a6 n7 c8 z9))] 0, [], []⟩ σ = f4_j3_t L n b1 a2 n3 c4 z5 a6 n7 c8 z9 σ := by kernel_rfl
theorem f4_j3_e {n : Nat} {b1 : Bool} {a2 : Option (Nat × Nat)} {n3 : Nat} {c4 : Option Nat} {z5 : Nat} {a6 : Option (Nat × Nat)} {n7 : Nat} {c8 : Option Nat} {z9 : Nat} {σ : St} : Le (f4_j3_t (pt Tryz.prog Lb 4 n) n b1 a2 n3 c4 z5 a6 n7 c8 z9 σ) (f4_j3 (pt Tryz.prog Lb 4 n) b1 a2 n3 c4 z5 a6 n7 c8 z9 σ) := by
  unfold f4_j3; exact goT_pt (f4_j3_g _ n b1 a2 n3 c4 z5 a6 n7 c8 z9 σ)
noncomputable def f4_j4_t (_ : Leaf) (_ _ _ : Nat) (_ : List UInt8) (_ : Bool) (_ : Option (Nat × Nat)) (_ : Nat) (_ : Option Nat) (_ : Nat) (_ : Option (Nat × Nat)) (_ : Nat) (_ : Option Nat) (_ : Nat) (_ _ _ : Int) (σ : St) : Out :=
 some (.ret (.bool false), σ)
theorem f4_j4_g (L : Leaf) (n : Nat) (m0 m1 : Nat) (s1 : List UInt8) (b2 : Bool) (a3 : Option (Nat × Nat)) (n4 : Nat) (c5 : Option Nat) (z6 : Nat) (a7 : Option (Nat × Nat)) (n8 : Nat) (c9 : Option Nat) (z10 : Nat) (i11 i12 i13 : Int) (σ : St) : goT Tryz.prog Lb 4 n L [] [1, 1, 1, 1, 1, 0, 1, 0, 0, 1, 0, 0, 1, 0, 1, 0, 0, 1, 0, 0, 0, 1] [m0, m1] ⟨tm 170 [(0, .v (.str s1)), (2, .v (.bool false)), (3, .v (.bool b2)), (4, .v (.slice a3 n4 c5 z6)), (7, .v (.slice a7 n8 c9 z10)), (8, .v (.int .i64 i11)), (9, .v (.int .i64 i12)), (10, .v (.int .i64 i13)), (105, .v (.bool true))] 0, [], []⟩ σ = f4_j4_t L n m0 m1 s1 b2 a3 n4 c5 z6 a7 n8 c9 z10 i11 i12 i13 σ := by kernel_rfl
theorem f4_j4_e {n : Nat} {m0 m1 : Nat} {s1 : List UInt8} {b2 : Bool} {a3 : Option (Nat × Nat)} {n4 : Nat} {c5 : Option Nat} {z6 : Nat} {a7 : Option (Nat × Nat)} {n8 : Nat} {c9 : Option Nat} {z10 : Nat} {i11 i12 i13 : Int} {σ : St} : Le (f4_j4_t (pt Tryz.prog Lb 4 n) n m0 m1 s1 b2 a3 n4 c5 z6 a7 n8 c9 z10 i11 i12 i13 σ) (f4_j4 (pt Tryz.prog Lb 4 n) m0 m1 s1 b2 a3 n4 c5 z6 a7 n8 c9 z10 i11 i12 i13 σ) := by
  unfold f4_j4; exact goT_pt (f4_j4_g _ n m0 m1 s1 b2 a3 n4 c5 z6 a7 n8 c9 z10 i11 i12 i13 σ)
noncomputable def f4_j5_t (L : Leaf) (_ m0 m1 : Nat) (s1 : List UInt8) (b2 : Bool) (a3 : Option (Nat × Nat)) (n4 : Nat) (c5 : Option Nat) (z6 : Nat) (a7 : Option (Nat × Nat)) (n8 : Nat) (c9 : Option Nat) (z10 : Nat) (i11 _ i13 : Int) (b14 : Bool) (σ : St) : Out :=
 cond b14 (some (.ret (.bool false), σ)) (idxK i11 n4 <|
  derefK a3 fun b15 o16 =>
  szK z6 6 <|
  ldK Tryz.prog 32 σ b15 ((o16 + ((i11).toNat * 6)) + 5) fun x17 =>
  xSl x17 fun a18 n19 _ z21 =>
  idxK i13 n19 <|
  derefK a18 fun b22 o23 =>
  szK z21 1 <|
  ldK Tryz.prog 3 σ b22 (o23 + ((i13).toNat * 1)) fun x24 =>
  xInt .i64 x24 fun i25 =>
  idxK i25 n8 <|
  derefK a7 fun b26 o27 =>
  szK z10 1 <|
  ldK Tryz.prog 3 σ b26 (o27 + ((i25).toNat * 1)) fun x28 =>
  xInt .i64 x28 fun i29 =>
  f4_l2 L m0 m1 s1 b2 a3 n4 c5 z6 a7 n8 c9 z10 i11 i29 (IntKind.wrap .i64 (i13 - (1 : Int))) σ)
theorem f4_j5_g (L : Leaf) (n : Nat) (m0 m1 : Nat) (s1 : List UInt8) (b2 : Bool) (a3 : Option (Nat × Nat)) (n4 : Nat) (c5 : Option Nat) (z6 : Nat) (a7 : Option (Nat × Nat)) (n8 : Nat) (c9 : Option Nat) (z10 : Nat) (i11 i12 i13 : Int) (b14 : Bool) (σ : St) : goT Tryz.prog Lb 4 n L [] [1, 1, 1, 1, 1, 0, 1, 0, 0, 1, 0, 0, 1, 0, 1, 0, 0, 1, 0, 0, 0, 1] [m0, m1] ⟨tm 170 [(0, .v (.str s1)), (2, .v (.bool false)), (3, .v (.bool b2)), (4, .v (.slice a3 n4 c5 z6)), (7, .v (.slice a7 n8 c9 z10)), (8, .v (.int .i64 i11)), (9, .v (.int .i64 i12)), (10, .v (.int .i64 i13)), (105, .v (.bool b14))] 0, [], []⟩ σ = f4_j5_t L n m0 m1 s1 b2 a3 n4 c5 z6 a7 n8 c9 z10 i11 i12 i13 b14 σ := by kernel_rfl
theorem f4_j5_e {n : Nat} {m0 m1 : Nat} {s1 : List UInt8} {b2 : Bool} {a3 : Option (Nat × Nat)} {n4 : Nat} {c5 : Option Nat} {z6 : Nat} {a7 : Option (Nat × Nat)} {n8 : Nat} {c9 : Option Nat} {z10 : Nat} {i11 i12 i13 : Int} {b14 : Bool} {σ : St} : Le (f4_j5_t (pt Tryz.prog Lb 4 n) n m0 m1 s1 b2 a3 n4 c5 z6 a7 n8 c9 z10 i11 i12 i13 b14 σ) (f4_j5 (pt Tryz.prog Lb 4 n) m0 m1 s1 b2 a3 n4 c5 z6 a7 n8 c9 z10 i11 i12 i13 b14 σ) := by
  unfold f4_j5; exact goT_pt (f4_j5_g _ n m0 m1 s1 b2 a3 n4 c5 z6 a7 n8 c9 z10 i11 i12 i13 b14 σ)
noncomputable def f4_j6_t (L : Leaf) (_ m0 m1 : Nat) (s1 : List UInt8) (b2 : Bool) (a3 : Option (Nat × Nat)) (n4 : Nat) (c5 : Option Nat) (z6 : Nat) (a7 : Option (Nat × Nat)) (n8 : Nat) (c9 : Option Nat) (z10 : Nat) (i11 _ i13 : Int) (σ : St) : Out :=
 idxK i11 n4 <|
 derefK a3 fun b14 o15 =>
 szK z6 6 <|
 ldK Tryz.prog 32 σ b14 ((o15 + ((i11).toNat * 6)) + 5) fun x16 =>
 xSl x16 fun a17 n18 _ z20 =>
 idxK i13 n18 <|
 derefK a17 fun b21 o22 =>
 szK z20 1 <|
 ldK Tryz.prog 3 σ b21 (o22 + ((i13).toNat * 1)) fun x23 =>
 xInt .i64 x23 fun i24 =>
 idxK i24 n8 <|
 derefK a7 fun b25 o26 =>
 szK z10 1 <|
 ldK Tryz.prog 3 σ b25 (o26 + ((i24).toNat * 1)) fun x27 =>
 xInt .i64 x27 fun i28 =>
 f4_l2 L m0 m1 s1 b2 a3 n4 c5 z6 a7 n8 c9 z10 i11 i28 (IntKind.wrap .i64 (i13 - (1 : Int))) σ
theorem f4_j6_g (L : Leaf) (n : Nat) (m0 m1 : Nat) (s1 : List UInt8) (b2 : Bool) (a3 : Option (Nat × Nat)) (n4 : Nat) (c5 : Option Nat) (z6 : Nat) (a7 : Option (Nat × Nat)) (n8 : Nat) (c9 : Option Nat) (z10 : Nat) (i11 i12 i13 : Int) (σ : St) : goT Tryz.prog Lb 4 n L [] [1, 1, 1, 1, 1, 0, 1, 0, 0, 1, 0, 0, 1, 0, 1, 0, 0, 1, 0, 0, 0, 1] [m0, m1] ⟨tm 170 [(0, .v (.str s1)), (2, .v (.bool false)), (3, .v (.bool b2)), (4, .v (.slice a3 n4 c5 z6)), (7, .v (.slice a7 n8 c9 z10)), (8, .v (.int .i64 i11)), (9, .v (.int .i64 i12)), (10, .v (.int .i64 i13)), (105, .v (.bool false))] 0, [], []⟩ σ = f4_j6_t L n m0 m1 s1 b2 a3 n4 c5 z6 a7 n8 c9 z10 i11 i12 i13 σ := by kernel_rfl
theorem f4_j6_e {n : Nat} {m0 m1 : Nat} {s1 : List UInt8} {b2 : Bool} {a3 : Option (Nat × Nat)} {n4 : Nat} {c5 : Option Nat} {z6 : Nat} {a7 : Option (Nat × Nat)} {n8 : Nat} {c9 : Option Nat} {z10 : Nat} {i11 i12 i13 : Int} {σ : St} : Le (f4_j6_t (pt Tryz.prog Lb 4 n) n m0 m1 s1 b2 a3 n4 c5 z6 a7 n8 c9 z10 i11 i12 i13 σ) (f4_j6 (pt Tryz.prog Lb 4 n) m0 m1 s1 b2 a3 n4 c5 z6 a7 n8 c9 z10 i11 i12 i13 σ) := by
  unfold f4_j6; exact goT_pt (f4_j6_g _ n m0 m1 s1 b2 a3 n4 c5 z6 a7 n8 c9 z10 i11 i12 i13 σ)
noncomputable def f4_j7_t (L : Leaf) (_ m0 : Nat) (s1 : List UInt8) (b2 : Bool) (a3 : Option (Nat × Nat)) (n4 : Nat) (c5 : Option Nat) (z6 : Nat) (a7 : Option (Nat × Nat)) (n8 : Nat) (c9 : Option Nat) (z10 : Nat) (i11 i12 : Int) (σ : St) : Out :=
 idxK i11 n8 <|
 derefK a7 fun b13 o14 =>
 szK z10 1 <|
 stK σ b13 (o14 + ((i11).toNat * 1)) [.int .i64 i12] fun σ15 =>
 idxK i11 n4 <|
 derefK a3 fun b16 o17 =>
 szK z6 6 <|
 ldK Tryz.prog 3 σ15 b16 ((o17 + ((i11).toNat * 6)) + 1) fun x18 =>
 xInt .i64 x18 fun i19 =>
 cond (decide (i19 < (0 : Int))) (some (.ret (.bool false), σ15)) (idxK i11 n4 <|
  derefK a3 fun b20 o21 =>
  szK z6 6 <|
  ldK Tryz.prog 3 σ15 b20 ((o21 + ((i11).toNat * 6)) + 1) fun x22 =>
  xInt .i64 x22 fun i23 =>
  cond (decide (i23 ≥ (s1.length : Int))) (idxK i11 n4 <|
   derefK a3 fun b24 o25 =>
   szK z6 6 <|
   ldK Tryz.prog 3 σ15 b24 ((o25 + ((i11).toNat * 6)) + 0) fun x26 =>
   xInt .i64 x26 fun i27 =>
   cond (i27 != (23 : Int)) (some (.ret (.bool false), σ15)) (f4_j8 L m0 s1 b2 a3 n4 c5 z6 a7 n8 c9 z10 i11 σ15)) (f4_j8 L m0 s1 b2 a3 n4 c5 z6 a7 n8 c9 z10 i11 σ15))
theorem f4_j7_g (L : Leaf) (n : Nat) (m0 : Nat) (s1 : List UInt8) (b2 : Bool) (a3 : Option (Nat × Nat)) (n4 : Nat) (c5 : Option Nat) (z6 : Nat) (a7 : Option (Nat × Nat)) (n8 : Nat) (c9 : Option Nat) (z10 : Nat) (i11 i12 : Int) (σ : St) : goT Tryz.prog Lb 4 n L [[1, 1, 1, 1, 1, 0, 1, 0, 0, 1, 1]] [1, 1, 1, 1, 1, 0, 1, 0, 0, 1, 0, 0, 1, 1] [m0] ⟨tm 170 [(0, .v (.str s1)), (2, .v (.bool false)), (3, .v (.bool b2)), (4, .v (.slice a3 n4 c5 z6)), (7, .v (.slice a7 n8 c9 z10)), (8, .v (.int .i64 i11)), (9, .v (.int .i64 i12))] 0, [], []⟩ σ = f4_j7_t L n m0 s1 b2 a3 n4 c5 z6 a7 n8 c9 z10 i11 i12 σ := by kernel_rfl
theorem f4_j7_e {n : Nat} {m0 : Nat} {s1 : List UInt8} {b2 : Bool} {a3 : Option (Nat × Nat)} {n4 : Nat} {c5 : Option Nat} {z6 : Nat} {a7 : Option (Nat × Nat)} {n8 : Nat} {c9 : Option Nat} {z10 : Nat} {i11 i12 : Int} {σ : St} : Le (f4_j7_t (pt Tryz.prog Lb 4 n) n m0 s1 b2 a3 n4 c5 z6 a7 n8 c9 z10 i11 i12 σ) (f4_j7 (pt Tryz.prog Lb 4 n) m0 s1 b2 a3 n4 c5 z6 a7 n8 c9 z10 i11 i12 σ) := by
  unfold f4_j7; exact goT_pt (f4_j7_g _ n m0 s1 b2 a3 n4 c5 z6 a7 n8 c9 z10 i11 i12 σ)
noncomputable def f4_j8_t (L : Leaf) (_ m0 : Nat) (s1 : List UInt8) (b2 : Bool) (a3 : Option (Nat × Nat)) (n4 : Nat) (c5 : Option Nat) (z6 : Nat) (a7 : Option (Nat × Nat)) (n8 : Nat) (c9 : Option Nat) (z10 : Nat) (i11 : Int) (σ : St) : Out :=
 f4_l1 L m0 s1 b2 a3 n4 c5 z6 a7 n8 c9 z10 (IntKind.wrap .i64 (i11 + (1 : Int))) σ
theorem f4_j8_g (L : Leaf) (n : Nat) (m0 : Nat) (s1 : List UInt8) (b2 : Bool) (a3 : Option (Nat × Nat)) (n4 : Nat) (c5 : Option Nat) (z6 : Nat) (a7 : Option (Nat × Nat)) (n8 : Nat) (c9 : Option Nat) (z10 : Nat) (i11 : Int) (σ : St) : goT Tryz.prog Lb 4 n L [] [1, 1, 1, 1, 1, 0, 1, 0, 0, 1, 1] [m0] ⟨tm 170 [(0, .v (.str s1)), (2, .v (.bool false)), (3, .v (.bool b2)), (4, .v (.slice a3 n4 c5 z6)), (7, .v (.slice a7 n8 c9 z10)), (8, .v (.int .i64 i11))] 0, [], []⟩ σ = f4_j8_t L n m0 s1 b2 a3 n4 c5 z6 a7 n8 c9 z10 i11 σ := by kernel_rfl
theorem f4_j8_e {n : Nat} {m0 : Nat} {s1 : List UInt8} {b2 : Bool} {a3 : Option (Nat × Nat)} {n4 : Nat} {c5 : Option Nat} {z6 : Nat} {a7 : Option (Nat × Nat)} {n8 : Nat} {c9 : Option Nat} {z10 : Nat} {i11 : Int} {σ : St} : Le (f4_j8_t (pt Tryz.prog Lb 4 n) n m0 s1 b2 a3 n4 c5 z6 a7 n8 c9 z10 i11 σ) (f4_j8 (pt Tryz.prog Lb 4 n) m0 s1 b2 a3 n4 c5 z6 a7 n8 c9 z10 i11 σ) := by
  unfold f4_j8; exact goT_pt (f4_j8_g _ n m0 s1 b2 a3 n4 c5 z6 a7 n8 c9 z10 i11 σ)
/-! ### binnacle/binnaclelaw17.shown() -/
noncomputable def f6_t (_ : Leaf) (n : Nat) (σ : St) : Out :=
 callT Tryz.prog Lb n 7 [.str [105, 110, 116, 32, 102, 40, 105, 110, 116, 32, 97, 41, 123, 114, 101, 116, 117, 114, 110, 32, 97, 43, 49, 42, 50, 59, 125]] σ fun v2 σ1 =>
 xTup v2 fun cs3 =>
 unC cs3 fun x4 r5 =>
 xSl x4 fun a6 n7 c8 z9 =>
 unC r5 fun x10 r11 =>
 xInt .i64 x10 fun i12 =>
 unC r11 fun x13 r14 =>
 xInt .i64 x13 fun i15 =>
 nlC r14 <|
 callT Tryz.prog Lb n 8 [.slice a6 n7 c8 z9] σ1 fun v17 σ16 =>
 xTup v17 fun cs18 =>
 unC cs18 fun x19 r20 =>
 xStr x19 fun s21 =>
 unC r20 fun x22 r23 =>
 xInt .i64 x22 fun i24 =>
 nlC r23 <|
 callT Tryz.prog Lb n 7 [.str [105, 110, 116, 32, 102, 40, 41, 123, 49, 61, 50, 59, 125]] σ16 fun v26 σ25 =>
 xTup v26 fun cs27 =>
 unC cs27 fun x28 r29 =>
 xSl x28 fun _ _ _ _ =>
 unC r29 fun x34 r35 =>
 xInt .i64 x34 fun i36 =>
 unC r35 fun x37 r38 =>
 xInt .i64 x37 fun i39 =>
 nlC r38 <|
 callT Tryz.prog Lb n 7 [.str [105, 110, 116, 32, 53]] σ25 fun v41 σ40 =>
 xTup v41 fun cs42 =>
 unC cs42 fun x43 r44 =>
 xSl x43 fun _ _ _ _ =>
 unC r44 fun x49 r50 =>
 xInt .i64 x49 fun i51 =>
 unC r50 fun x52 r53 =>
 xInt .i64 x52 fun i54 =>
 nlC r53 <|
 cond (i12 == (0 : Int)) (cond (i15 == (0 : Int)) (cond ((n7 : Int) == (10 : Int)) (cond (i24 == (0 : Int)) (cond (s21 == [105, 110, 116, 32, 102, 32, 40, 32, 105, 110, 116, 32, 97, 32, 41, 32, 123, 10, 114, 101, 116, 117, 114, 110, 32, 97, 32, 43, 32, 49, 32, 42, 32, 50, 32, 59, 10, 125, 10]) (cond (i36 == (13 : Int)) (cond (i39 == (9 : Int)) (cond (i51 == (13 : Int)) (some (.ret (.bool (i54 == (4 : Int))), σ40)) (some (.ret (.bool false), σ40))) (some (.ret (.bool false), σ40))) (some (.ret (.bool false), σ40))) (some (.ret (.bool false), σ40))) (some (.ret (.bool false), σ40))) (some (.ret (.bool false), σ40))) (some (.ret (.bool false), σ40))) (some (.ret (.bool false), σ40))
theorem f6_g (L : Leaf) (n : Nat)  (σ : St) : goT Tryz.prog Lb 6 n L [] [] [] ⟨tm 67 [] 0, [], []⟩ σ = f6_t L n  σ := by kernel_rfl
theorem f6_e {n : Nat}  {σ : St} : Le (f6_t (pt Tryz.prog Lb 6 n) n  σ) (callP Tryz.prog Lb (n + 1) 6 [] σ) :=
  goT_call (f6_g _ n  σ) rfl (by kernel_rfl) (by kernel_rfl)
end Go.Proofs

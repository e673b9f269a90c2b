/- The functions, as trees of named steps. -/
import Derived.Test.YtgaodjcjgafccaaAmT
import Derived.Test.YtgaodjcjgafccaaChecked
namespace Go.Proofs
open Go.AM
/-! ### binnacle/binnaclelaw14.TableOnce(l) -/
noncomputable def f3_l1 (L : Leaf) (m0 : Nat) (a1 : Option (Nat × Nat)) (n2 : Nat) (c3 : Option Nat) (z4 : Nat) (b5 : Bool) (i6 i7 i8 : Int) (cs9 : List AV) (σ : St) : Out :=
  L [1, 1, 1, 1, 1, 0, 1, 0] [m0] ⟨tm 119 [(0, .v (.slice a1 n2 c3 z4)), (2, .v (.bool false)), (3, .v (.bool b5)), (4, .lp 4 0), (5, .v (.int .i64 i6)), (6, .v (.int .i64 i7)), (7, .v (.int .i64 i8))] 0, [(4, cs9)]⟩ σ
noncomputable def f3_j2 (L : Leaf) (m0 : Nat) (a1 : Option (Nat × Nat)) (n2 : Nat) (c3 : Option Nat) (z4 : Nat) (b5 : Bool) (i6 i7 i8 : Int) (cs9 : List AV) (σ : St) : Out :=
  L [1, 1, 1, 1, 1, 0, 1, 0, 0, 1, 0, 0, 1, 1, 1] [m0] ⟨tm 119 [(0, .v (.slice a1 n2 c3 z4)), (2, .v (.bool false)), (3, .v (.bool b5)), (4, .lp 4 0), (5, .v (.int .i64 i6)), (6, .v (.int .i64 i7)), (7, .v (.int .i64 i8))] 0, [(4, cs9)]⟩ σ
noncomputable def f3_j3 (L : Leaf) (b1 : Bool) (σ : St) : Out :=
  L [1, 1, 1, 1, 1, 1] [] ⟨tm 119 [(2, .v (.bool false)), (3, .v (.bool b1))] 0, []⟩ σ
noncomputable def f3_l4 (L : Leaf) (m0 m1 : Nat) (a1 : Option (Nat × Nat)) (n2 : Nat) (c3 : Option Nat) (z4 : Nat) (b5 : Bool) (i6 i7 i8 i9 i10 : Int) (cs11 : List AV) (σ : St) : Out :=
  L [1, 1, 1, 1, 1, 0, 1, 0, 0, 1, 0, 0, 1, 1, 1, 1, 0, 1, 0] [m0, m1] ⟨tm 119 [(0, .v (.slice a1 n2 c3 z4)), (2, .v (.bool false)), (3, .v (.bool b5)), (4, .lp 4 0), (5, .v (.int .i64 i6)), (6, .v (.int .i64 i7)), (7, .v (.int .i64 i8)), (10, .v (.int .i64 i9)), (11, .v (.int .i64 i10))] 0, [(4, cs11)]⟩ σ
noncomputable def f3_j5 (L : Leaf) (m0 m1 : Nat) (a1 : Option (Nat × Nat)) (n2 : Nat) (c3 : Option Nat) (z4 : Nat) (b5 : Bool) (i6 i7 i8 i9 i10 : Int) (cs11 : List AV) (σ : St) : Out :=
  L [1, 1, 1, 1, 1, 0, 1, 0, 0, 1, 0, 0, 1, 1, 1, 1, 0, 1, 0, 0, 1, 0, 0, 1] [m0, m1] ⟨tm 119 [(0, .v (.slice a1 n2 c3 z4)), (2, .v (.bool false)), (3, .v (.bool b5)), (4, .lp 4 0), (5, .v (.int .i64 i6)), (6, .v (.int .i64 i7)), (7, .v (.int .i64 i8)), (10, .v (.int .i64 i9)), (11, .v (.int .i64 i10))] 0, [(4, cs11)]⟩ σ
noncomputable def f3_j6 (L : Leaf) (m0 : Nat) (a1 : Option (Nat × Nat)) (n2 : Nat) (c3 : Option Nat) (z4 : Nat) (b5 : Bool) (i6 i7 i8 i9 : Int) (cs10 : List AV) (σ : St) : Out :=
  L [1, 1, 1, 1, 1, 0, 1, 0, 0, 1, 0, 0, 1, 1, 1, 1, 1] [m0] ⟨tm 119 [(0, .v (.slice a1 n2 c3 z4)), (2, .v (.bool false)), (3, .v (.bool b5)), (4, .lp 4 0), (5, .v (.int .i64 i6)), (6, .v (.int .i64 i7)), (7, .v (.int .i64 i8)), (10, .v (.int .i64 i9))] 0, [(4, cs10)]⟩ σ
noncomputable def f3_j7 (L : Leaf) (m0 : Nat) (a1 : Option (Nat × Nat)) (n2 : Nat) (c3 : Option Nat) (z4 : Nat) (b5 : Bool) (i6 i7 i8 : Int) (cs9 : List AV) (σ : St) : Out :=
  L [1, 1, 1, 1, 1, 0, 1, 0, 0, 1, 1] [m0] ⟨tm 119 [(0, .v (.slice a1 n2 c3 z4)), (2, .v (.bool false)), (3, .v (.bool b5)), (4, .lp 4 0), (5, .v (.int .i64 i6)), (6, .v (.int .i64 i7)), (7, .v (.int .i64 i8))] 0, [(4, cs9)]⟩ σ
noncomputable def f3_t (L : Leaf) (n : Nat) (a1 : Option (Nat × Nat)) (n2 : Nat) (c3 : Option Nat) (z4 : Nat) (σ : St) : Out :=
 callT Try.prog n 8 [] σ fun v6 σ5 =>
 xBool v6 fun b7 =>
 callT Try.prog n 9 [] σ5 fun v9 σ8 =>
 xAgg v9 fun cs10 =>
 wellK Try.prog 27 cs10 <|
 lstK [.int .i64 (0 : Int), .int .i64 (0 : Int), .int .i64 (0 : Int), .bool false, .int .i64 (0 : Int), .int .i64 (0 : Int), .int .i64 (0 : Int), .bool false, .int .i64 (0 : Int), .int .i64 (0 : Int), .int .i64 (0 : Int), .bool false, .int .i64 (0 : Int), .int .i64 (0 : Int), .int .i64 (0 : Int), .bool false, .int .i64 (0 : Int), .int .i64 (0 : Int), .int .i64 (0 : Int), .bool false, .int .i64 (0 : Int), .int .i64 (0 : Int), .int .i64 (0 : Int), .bool false, .int .i64 (0 : Int), .int .i64 (0 : Int), .int .i64 (0 : Int), .bool false, .int .i64 (0 : Int), .int .i64 (0 : Int), .int .i64 (0 : Int), .bool false] 0 cs10 fun cs11 =>
 f3_l1 L n a1 n2 c3 z4 b7 (0 : Int) (0 : Int) (0 : Int) cs11 σ8
theorem f3_g (L : Leaf) (n : Nat) (a1 : Option (Nat × Nat)) (n2 : Nat) (c3 : Option Nat) (z4 : Nat) (σ : St) : goT Try.prog 3 n L [] [] [] ⟨tm 119 [(0, .v (.slice a1 n2 c3 z4))] 0, []⟩ σ = f3_t L n a1 n2 c3 z4 σ := by kernel_rfl
theorem f3_e {n : Nat} {a1 : Option (Nat × Nat)} {n2 : Nat} {c3 : Option Nat} {z4 : Nat} {σ : St} : Le (f3_t (pt Try.prog 3 n) n a1 n2 c3 z4 σ) (callP Try.prog (n + 1) 3 [.slice a1 n2 c3 z4] σ) :=
  goT_call (f3_g _ n a1 n2 c3 z4 σ) (by kernel_rfl) (by kernel_rfl)
noncomputable def f3_l1_t (L : Leaf) (n m0 : Nat) (a1 : Option (Nat × Nat)) (n2 : Nat) (c3 : Option Nat) (z4 : Nat) (b5 : Bool) (i6 i7 i8 : Int) (cs9 : List AV) (σ : St) : Out :=
 cond (decide (i8 < (n2 : Int))) (idxK i8 n2 <|
  derefK a1 fun b10 o11 =>
  szK z4 3 <|
  ldK Try.prog 30 σ b10 (o11 + ((i8).toNat * 3)) fun x12 =>
  xAgg x12 fun cs13 =>
  unC cs13 fun x14 r15 =>
  xInt .i64 x14 fun i16 =>
  unC r15 fun x17 r18 =>
  xInt .i64 x17 fun i19 =>
  unC r18 fun x20 r21 =>
  xInt .i64 x20 fun i22 =>
  nlC r21 <|
  cond (i16 == (1 : Int)) (partK Try.prog 27 cs9 0 fun x23 =>
   xAgg x23 fun cs24 =>
   callT Try.prog n 10 [.agg cs24, .int .i64 i19] σ fun v26 σ25 =>
   xTup v26 fun cs27 =>
   unC cs27 fun x28 r29 =>
   xAgg x28 fun cs30 =>
   unC r29 fun x31 r32 =>
   xInt .i64 x31 fun _ =>
   unC r32 fun x34 r35 =>
   xInt .i64 x34 fun _ =>
   nlC r35 <|
   wellK Try.prog 27 cs30 <|
   lstK cs9 0 cs30 fun cs37 =>
   f3_j2 L m0 a1 n2 c3 z4 b5 i6 i7 i8 cs37 σ25) (cond (i16 == (2 : Int)) (partK Try.prog 27 cs9 0 fun x38 =>
    xAgg x38 fun cs39 =>
    callT Try.prog n 11 [.agg cs39, .int .i64 i19, .int .i64 i22] σ fun v41 σ40 =>
    xTup v41 fun cs42 =>
    unC cs42 fun x43 r44 =>
    xAgg x43 fun cs45 =>
    unC r44 fun x46 r47 =>
    xInt .i64 x46 fun i48 =>
    nlC r47 <|
    wellK Try.prog 27 cs45 <|
    lstK cs9 0 cs45 fun cs49 =>
    cond (i48 == (0 : Int)) (f3_j2 L m0 a1 n2 c3 z4 b5 (IntKind.wrap .i64 (i6 + (1 : Int))) i7 i8 cs49 σ40) (f3_j2 L m0 a1 n2 c3 z4 b5 i6 i7 i8 cs49 σ40)) (cond (i16 == (3 : Int)) (partK Try.prog 27 cs9 0 fun x50 =>
     xAgg x50 fun cs51 =>
     callT Try.prog n 12 [.agg cs51, .int .i64 i19] σ fun v53 σ52 =>
     xTup v53 fun cs54 =>
     unC cs54 fun x55 r56 =>
     xAgg x55 fun cs57 =>
     unC r56 fun x58 r59 =>
     xInt .i64 x58 fun _ =>
     unC r59 fun x61 r62 =>
     xInt .i64 x61 fun _ =>
     unC r62 fun x64 r65 =>
     xInt .i64 x64 fun i66 =>
     nlC r65 <|
     wellK Try.prog 27 cs57 <|
     lstK cs9 0 cs57 fun cs67 =>
     cond (i66 == (0 : Int)) (f3_j2 L m0 a1 n2 c3 z4 b5 i6 (IntKind.wrap .i64 (i7 + (1 : Int))) i8 cs67 σ52) (f3_j2 L m0 a1 n2 c3 z4 b5 i6 i7 i8 cs67 σ52)) (f3_j2 L m0 a1 n2 c3 z4 b5 i6 i7 i8 cs9 σ)))) (f3_j3 L b5 σ)
theorem f3_l1_g (L : Leaf) (n : Nat) (m0 : Nat) (a1 : Option (Nat × Nat)) (n2 : Nat) (c3 : Option Nat) (z4 : Nat) (b5 : Bool) (i6 i7 i8 : Int) (cs9 : List AV) (σ : St) : goT Try.prog 3 n L [[1, 1, 1, 1, 1, 0, 1, 0, 0, 1, 0, 0, 1, 1, 1], [1, 1, 1, 1, 1, 1]] [1, 1, 1, 1, 1, 0, 1, 0] [m0 + 1] ⟨tm 119 [(0, .v (.slice a1 n2 c3 z4)), (2, .v (.bool false)), (3, .v (.bool b5)), (4, .lp 4 0), (5, .v (.int .i64 i6)), (6, .v (.int .i64 i7)), (7, .v (.int .i64 i8))] 0, [(4, cs9)]⟩ σ = f3_l1_t L n m0 a1 n2 c3 z4 b5 i6 i7 i8 cs9 σ := by kernel_rfl
theorem f3_l1_e {n : Nat} {m0 : Nat} {a1 : Option (Nat × Nat)} {n2 : Nat} {c3 : Option Nat} {z4 : Nat} {b5 : Bool} {i6 i7 i8 : Int} {cs9 : List AV} {σ : St} : Le (f3_l1_t (pt Try.prog 3 n) n m0 a1 n2 c3 z4 b5 i6 i7 i8 cs9 σ) (f3_l1 (pt Try.prog 3 n) (m0 + 1) a1 n2 c3 z4 b5 i6 i7 i8 cs9 σ) :=
  goT_pt (f3_l1_g _ n m0 a1 n2 c3 z4 b5 i6 i7 i8 cs9 σ)
noncomputable def f3_j2_t (L : Leaf) (n m0 : Nat) (a1 : Option (Nat × Nat)) (n2 : Nat) (c3 : Option Nat) (z4 : Nat) (b5 : Bool) (i6 i7 i8 : Int) (cs9 : List AV) (σ : St) : Out :=
 f3_l4 L m0 n a1 n2 c3 z4 b5 i6 i7 i8 (0 : Int) (0 : Int) cs9 σ
theorem f3_j2_g (L : Leaf) (n : Nat) (m0 : Nat) (a1 : Option (Nat × Nat)) (n2 : Nat) (c3 : Option Nat) (z4 : Nat) (b5 : Bool) (i6 i7 i8 : Int) (cs9 : List AV) (σ : St) : goT Try.prog 3 n L [] [1, 1, 1, 1, 1, 0, 1, 0, 0, 1, 0, 0, 1, 1, 1] [m0] ⟨tm 119 [(0, .v (.slice a1 n2 c3 z4)), (2, .v (.bool false)), (3, .v (.bool b5)), (4, .lp 4 0), (5, .v (.int .i64 i6)), (6, .v (.int .i64 i7)), (7, .v (.int .i64 i8))] 0, [(4, cs9)]⟩ σ = f3_j2_t L n m0 a1 n2 c3 z4 b5 i6 i7 i8 cs9 σ := by kernel_rfl
theorem f3_j2_e {n : Nat} {m0 : Nat} {a1 : Option (Nat × Nat)} {n2 : Nat} {c3 : Option Nat} {z4 : Nat} {b5 : Bool} {i6 i7 i8 : Int} {cs9 : List AV} {σ : St} : Le (f3_j2_t (pt Try.prog 3 n) n m0 a1 n2 c3 z4 b5 i6 i7 i8 cs9 σ) (f3_j2 (pt Try.prog 3 n) m0 a1 n2 c3 z4 b5 i6 i7 i8 cs9 σ) :=
  goT_pt (f3_j2_g _ n m0 a1 n2 c3 z4 b5 i6 i7 i8 cs9 σ)
noncomputable def f3_j3_t (_ : Leaf) (_ : Nat) (b1 : Bool) (σ : St) : Out :=
 some (.ret (.bool b1), σ)
theorem f3_j3_g (L : Leaf) (n : Nat) (b1 : Bool) (σ : St) : goT Try.prog 3 n L [] [1, 1, 1, 1, 1, 1] [] ⟨tm 119 [(2, .v (.bool false)), (3, .v (.bool b1))] 0, []⟩ σ = f3_j3_t L n b1 σ := by kernel_rfl
theorem f3_j3_e {n : Nat} {b1 : Bool} {σ : St} : Le (f3_j3_t (pt Try.prog 3 n) n b1 σ) (f3_j3 (pt Try.prog 3 n) b1 σ) :=
  goT_pt (f3_j3_g _ n b1 σ)
noncomputable def f3_l4_t (L : Leaf) (_ m0 m1 : Nat) (a1 : Option (Nat × Nat)) (n2 : Nat) (c3 : Option Nat) (z4 : Nat) (b5 : Bool) (i6 i7 i8 i9 i10 : Int) (cs11 : List AV) (σ : St) : Out :=
 cond (decide (i10 < (8 : Int))) (idxK i10 8 <|
  partK Try.prog 3 cs11 ((0 + ((i10).toNat * 4)) + 0) fun x12 =>
  xInt .i64 x12 fun i13 =>
  cond (i13 == (2 : Int)) (f3_j5 L m0 m1 a1 n2 c3 z4 b5 i6 i7 i8 (IntKind.wrap .i64 (i9 + (1 : Int))) i10 cs11 σ) (f3_j5 L m0 m1 a1 n2 c3 z4 b5 i6 i7 i8 i9 i10 cs11 σ)) (f3_j6 L m0 a1 n2 c3 z4 b5 i6 i7 i8 i9 cs11 σ)
theorem f3_l4_g (L : Leaf) (n : Nat) (m0 m1 : Nat) (a1 : Option (Nat × Nat)) (n2 : Nat) (c3 : Option Nat) (z4 : Nat) (b5 : Bool) (i6 i7 i8 i9 i10 : Int) (cs11 : List AV) (σ : St) : goT Try.prog 3 n L [[1, 1, 1, 1, 1, 0, 1, 0, 0, 1, 0, 0, 1, 1, 1, 1, 0, 1, 0, 0, 1, 0, 0, 1], [1, 1, 1, 1, 1, 0, 1, 0, 0, 1, 0, 0, 1, 1, 1, 1, 1]] [1, 1, 1, 1, 1, 0, 1, 0, 0, 1, 0, 0, 1, 1, 1, 1, 0, 1, 0] [m0, m1 + 1] ⟨tm 119 [(0, .v (.slice a1 n2 c3 z4)), (2, .v (.bool false)), (3, .v (.bool b5)), (4, .lp 4 0), (5, .v (.int .i64 i6)), (6, .v (.int .i64 i7)), (7, .v (.int .i64 i8)), (10, .v (.int .i64 i9)), (11, .v (.int .i64 i10))] 0, [(4, cs11)]⟩ σ = f3_l4_t L n m0 m1 a1 n2 c3 z4 b5 i6 i7 i8 i9 i10 cs11 σ := by kernel_rfl
theorem f3_l4_e {n : Nat} {m0 m1 : Nat} {a1 : Option (Nat × Nat)} {n2 : Nat} {c3 : Option Nat} {z4 : Nat} {b5 : Bool} {i6 i7 i8 i9 i10 : Int} {cs11 : List AV} {σ : St} : Le (f3_l4_t (pt Try.prog 3 n) n m0 m1 a1 n2 c3 z4 b5 i6 i7 i8 i9 i10 cs11 σ) (f3_l4 (pt Try.prog 3 n) m0 (m1 + 1) a1 n2 c3 z4 b5 i6 i7 i8 i9 i10 cs11 σ) :=
  goT_pt (f3_l4_g _ n m0 m1 a1 n2 c3 z4 b5 i6 i7 i8 i9 i10 cs11 σ)
noncomputable def f3_j5_t (L : Leaf) (_ m0 m1 : Nat) (a1 : Option (Nat × Nat)) (n2 : Nat) (c3 : Option Nat) (z4 : Nat) (b5 : Bool) (i6 i7 i8 i9 i10 : Int) (cs11 : List AV) (σ : St) : Out :=
 idxK i10 8 <|
 partK Try.prog 3 cs11 ((0 + ((i10).toNat * 4)) + 0) fun x12 =>
 xInt .i64 x12 fun i13 =>
 cond (i13 != (0 : Int)) (idxK i10 8 <|
  partK Try.prog 3 cs11 ((0 + ((i10).toNat * 4)) + 1) fun x14 =>
  xInt .i64 x14 fun i15 =>
  cond (decide (i15 < (0 : Int))) (some (.ret (.bool false), σ)) (idxK i10 8 <|
   partK Try.prog 3 cs11 ((0 + ((i10).toNat * 4)) + 1) fun x16 =>
   xInt .i64 x16 fun i17 =>
   cond (decide (i17 > (7 : Int))) (some (.ret (.bool false), σ)) (idxK i10 8 <|
    partK Try.prog 3 cs11 ((0 + ((i10).toNat * 4)) + 1) fun x18 =>
    xInt .i64 x18 fun i19 =>
    cond (i19 != (0 : Int)) (idxK i10 8 <|
     partK Try.prog 3 cs11 ((0 + ((i10).toNat * 4)) + 1) fun x20 =>
     xInt .i64 x20 fun i21 =>
     idxK i21 8 <|
     partK Try.prog 3 cs11 ((0 + ((i21).toNat * 4)) + 0) fun x22 =>
     xInt .i64 x22 fun i23 =>
     cond (i23 != (1 : Int)) (some (.ret (.bool false), σ)) (f3_l4 L m0 m1 a1 n2 c3 z4 b5 i6 i7 i8 i9 (IntKind.wrap .i64 (i10 + (1 : Int))) cs11 σ)) (f3_l4 L m0 m1 a1 n2 c3 z4 b5 i6 i7 i8 i9 (IntKind.wrap .i64 (i10 + (1 : Int))) cs11 σ)))) (f3_l4 L m0 m1 a1 n2 c3 z4 b5 i6 i7 i8 i9 (IntKind.wrap .i64 (i10 + (1 : Int))) cs11 σ)
theorem f3_j5_g (L : Leaf) (n : Nat) (m0 m1 : Nat) (a1 : Option (Nat × Nat)) (n2 : Nat) (c3 : Option Nat) (z4 : Nat) (b5 : Bool) (i6 i7 i8 i9 i10 : Int) (cs11 : List AV) (σ : St) : goT Try.prog 3 n L [] [1, 1, 1, 1, 1, 0, 1, 0, 0, 1, 0, 0, 1, 1, 1, 1, 0, 1, 0, 0, 1, 0, 0, 1] [m0, m1] ⟨tm 119 [(0, .v (.slice a1 n2 c3 z4)), (2, .v (.bool false)), (3, .v (.bool b5)), (4, .lp 4 0), (5, .v (.int .i64 i6)), (6, .v (.int .i64 i7)), (7, .v (.int .i64 i8)), (10, .v (.int .i64 i9)), (11, .v (.int .i64 i10))] 0, [(4, cs11)]⟩ σ = f3_j5_t L n m0 m1 a1 n2 c3 z4 b5 i6 i7 i8 i9 i10 cs11 σ := by kernel_rfl
theorem f3_j5_e {n : Nat} {m0 m1 : Nat} {a1 : Option (Nat × Nat)} {n2 : Nat} {c3 : Option Nat} {z4 : Nat} {b5 : Bool} {i6 i7 i8 i9 i10 : Int} {cs11 : List AV} {σ : St} : Le (f3_j5_t (pt Try.prog 3 n) n m0 m1 a1 n2 c3 z4 b5 i6 i7 i8 i9 i10 cs11 σ) (f3_j5 (pt Try.prog 3 n) m0 m1 a1 n2 c3 z4 b5 i6 i7 i8 i9 i10 cs11 σ) :=
  goT_pt (f3_j5_g _ n m0 m1 a1 n2 c3 z4 b5 i6 i7 i8 i9 i10 cs11 σ)
noncomputable def f3_j6_t (L : Leaf) (_ m0 : Nat) (a1 : Option (Nat × Nat)) (n2 : Nat) (c3 : Option Nat) (z4 : Nat) (b5 : Bool) (i6 i7 i8 i9 : Int) (cs10 : List AV) (σ : St) : Out :=
 cond ((IntKind.wrap .i64 (i7 + i9)) != i6) (some (.ret (.bool false), σ)) (f3_j7 L m0 a1 n2 c3 z4 b5 i6 i7 i8 cs10 σ)
theorem f3_j6_g (L : Leaf) (n : Nat) (m0 : Nat) (a1 : Option (Nat × Nat)) (n2 : Nat) (c3 : Option Nat) (z4 : Nat) (b5 : Bool) (i6 i7 i8 i9 : Int) (cs10 : List AV) (σ : St) : goT Try.prog 3 n L [[1, 1, 1, 1, 1, 0, 1, 0, 0, 1, 1]] [1, 1, 1, 1, 1, 0, 1, 0, 0, 1, 0, 0, 1, 1, 1, 1, 1] [m0] ⟨tm 119 [(0, .v (.slice a1 n2 c3 z4)), (2, .v (.bool false)), (3, .v (.bool b5)), (4, .lp 4 0), (5, .v (.int .i64 i6)), (6, .v (.int .i64 i7)), (7, .v (.int .i64 i8)), (10, .v (.int .i64 i9))] 0, [(4, cs10)]⟩ σ = f3_j6_t L n m0 a1 n2 c3 z4 b5 i6 i7 i8 i9 cs10 σ := by kernel_rfl
theorem f3_j6_e {n : Nat} {m0 : Nat} {a1 : Option (Nat × Nat)} {n2 : Nat} {c3 : Option Nat} {z4 : Nat} {b5 : Bool} {i6 i7 i8 i9 : Int} {cs10 : List AV} {σ : St} : Le (f3_j6_t (pt Try.prog 3 n) n m0 a1 n2 c3 z4 b5 i6 i7 i8 i9 cs10 σ) (f3_j6 (pt Try.prog 3 n) m0 a1 n2 c3 z4 b5 i6 i7 i8 i9 cs10 σ) :=
  goT_pt (f3_j6_g _ n m0 a1 n2 c3 z4 b5 i6 i7 i8 i9 cs10 σ)
noncomputable def f3_j7_t (L : Leaf) (_ m0 : Nat) (a1 : Option (Nat × Nat)) (n2 : Nat) (c3 : Option Nat) (z4 : Nat) (b5 : Bool) (i6 i7 i8 : Int) (cs9 : List AV) (σ : St) : Out :=
 f3_l1 L m0 a1 n2 c3 z4 b5 i6 i7 (IntKind.wrap .i64 (i8 + (1 : Int))) cs9 σ
theorem f3_j7_g (L : Leaf) (n : Nat) (m0 : Nat) (a1 : Option (Nat × Nat)) (n2 : Nat) (c3 : Option Nat) (z4 : Nat) (b5 : Bool) (i6 i7 i8 : Int) (cs9 : List AV) (σ : St) : goT Try.prog 3 n L [] [1, 1, 1, 1, 1, 0, 1, 0, 0, 1, 1] [m0] ⟨tm 119 [(0, .v (.slice a1 n2 c3 z4)), (2, .v (.bool false)), (3, .v (.bool b5)), (4, .lp 4 0), (5, .v (.int .i64 i6)), (6, .v (.int .i64 i7)), (7, .v (.int .i64 i8))] 0, [(4, cs9)]⟩ σ = f3_j7_t L n m0 a1 n2 c3 z4 b5 i6 i7 i8 cs9 σ := by kernel_rfl
theorem f3_j7_e {n : Nat} {m0 : Nat} {a1 : Option (Nat × Nat)} {n2 : Nat} {c3 : Option Nat} {z4 : Nat} {b5 : Bool} {i6 i7 i8 : Int} {cs9 : List AV} {σ : St} : Le (f3_j7_t (pt Try.prog 3 n) n m0 a1 n2 c3 z4 b5 i6 i7 i8 cs9 σ) (f3_j7 (pt Try.prog 3 n) m0 a1 n2 c3 z4 b5 i6 i7 i8 cs9 σ) :=
  goT_pt (f3_j7_g _ n m0 a1 n2 c3 z4 b5 i6 i7 i8 cs9 σ)
/-! ### binnacle/binnaclelaw14.TablePlays(with) -/
noncomputable def f6_j1 (L : Leaf) (b1 : Bool) (a2 : Option (Nat × Nat)) (n3 : Nat) (c4 : Option Nat) (z5 : Nat) (b6 : Bool) (cs7 cs8 : List AV) (σ : St) : Out :=
  L [1, 1, 1, 1, 1, 1, 1] [] ⟨tm 204 [(2, .v (.bool false)), (3, .lp 3 0), (4, .v (.bool b1)), (5, .lp 5 0), (6, .v (.slice a2 n3 c4 z5)), (7, .v (.bool b6))] 0, [(3, cs7), (5, cs8)]⟩ σ
noncomputable def f6_j2 (L : Leaf) (a1 : Option (Nat × Nat)) (n2 : Nat) (c3 : Option Nat) (z4 : Nat) (b5 : Bool) (cs6 cs7 : List AV) (σ : St) : Out :=
  L [1, 1, 1, 1, 1, 1, 1, 1] [] ⟨tm 204 [(2, .v (.bool false)), (3, .lp 3 0), (5, .lp 5 0), (6, .v (.slice a1 n2 c3 z4)), (7, .v (.bool b5))] 0, [(3, cs6), (5, cs7)]⟩ σ
noncomputable def f6_l3 (L : Leaf) (m0 : Nat) (a1 : Option (Nat × Nat)) (n2 : Nat) (c3 : Option Nat) (z4 : Nat) (b5 : Bool) (i6 : Int) (cs7 cs8 cs9 : List AV) (σ : St) : Out :=
  L [1, 1, 1, 1, 1, 1, 1, 1, 1, 0, 1, 0] [m0] ⟨tm 204 [(2, .v (.bool false)), (3, .lp 3 0), (5, .lp 5 0), (6, .v (.slice a1 n2 c3 z4)), (7, .v (.bool b5)), (8, .lp 8 0), (9, .v (.int .i64 i6))] 0, [(3, cs7), (5, cs8), (8, cs9)]⟩ σ
noncomputable def f6_j4 (L : Leaf) (m0 : Nat) (a1 : Option (Nat × Nat)) (n2 : Nat) (c3 : Option Nat) (z4 : Nat) (b5 : Bool) (i6 : Int) (cs7 cs8 cs9 : List AV) (i10 i11 i12 : Int) (σ : St) : Out :=
  L [1, 1, 1, 1, 1, 1, 1, 1, 1, 0, 1, 0, 0, 1, 0, 0, 1, 1] [m0] ⟨tm 204 [(2, .v (.bool false)), (3, .lp 3 0), (5, .lp 5 0), (6, .v (.slice a1 n2 c3 z4)), (7, .v (.bool b5)), (8, .lp 8 0), (9, .v (.int .i64 i6)), (10, .lp 10 0)] 0, [(3, cs7), (5, cs8), (8, cs9), (10, [.int .i64 i10, .int .i64 i11, .int .i64 i12])]⟩ σ
noncomputable def f6_j5 (L : Leaf) (b1 : Bool) (σ : St) : Out :=
  L [1, 1, 1, 1, 1, 1, 1, 1, 1, 1] [] ⟨tm 204 [(2, .v (.bool false)), (7, .v (.bool b1))] 0, []⟩ σ
noncomputable def f6_t (L : Leaf) (n : Nat) (cs1 : List AV) (σ : St) : Out :=
 onesK cs1 <|
 partK Try.prog 27 cs1 0 fun x2 =>
 xAgg x2 fun cs3 =>
 wellK Try.prog 27 cs3 <|
 lstK [.int .i64 (0 : Int), .int .i64 (0 : Int), .int .i64 (0 : Int), .bool false, .int .i64 (0 : Int), .int .i64 (0 : Int), .int .i64 (0 : Int), .bool false, .int .i64 (0 : Int), .int .i64 (0 : Int), .int .i64 (0 : Int), .bool false, .int .i64 (0 : Int), .int .i64 (0 : Int), .int .i64 (0 : Int), .bool false, .int .i64 (0 : Int), .int .i64 (0 : Int), .int .i64 (0 : Int), .bool false, .int .i64 (0 : Int), .int .i64 (0 : Int), .int .i64 (0 : Int), .bool false, .int .i64 (0 : Int), .int .i64 (0 : Int), .int .i64 (0 : Int), .bool false, .int .i64 (0 : Int), .int .i64 (0 : Int), .int .i64 (0 : Int), .bool false] 0 cs3 fun cs4 =>
 partK Try.prog 4 cs1 32 fun x5 =>
 xBool x5 fun b6 =>
 partK Try.prog 40 cs1 33 fun x7 =>
 xAgg x7 fun cs8 =>
 wellK Try.prog 40 cs8 <|
 lstK [.bool false, .bool false, .bool false, .bool false, .bool false, .bool false, .bool false, .bool false] 0 cs8 fun cs9 =>
 partK Try.prog 22 cs1 41 fun x10 =>
 xSl x10 fun a11 n12 c13 z14 =>
 callT Try.prog n 8 [] σ fun v16 σ15 =>
 xBool v16 fun b17 =>
 cond b6 (callT Try.prog n 9 [] σ15 fun v19 σ18 =>
  xAgg v19 fun cs20 =>
  wellK Try.prog 27 cs20 <|
  lstK cs4 0 cs20 fun cs21 =>
  f6_j1 L b6 a11 n12 c13 z14 b17 cs21 cs9 σ18) (f6_j1 L b6 a11 n12 c13 z14 b17 cs4 cs9 σ15)
theorem f6_g (L : Leaf) (n : Nat) (cs1 : List AV) (σ : St) : goT Try.prog 6 n L [[1, 1, 1, 1, 1, 1, 1]] [] [] ⟨tm 204 [(0, .v (.agg cs1))] 0, []⟩ σ = f6_t L n cs1 σ := by kernel_rfl
theorem f6_e {n : Nat} {cs1 : List AV} {σ : St} : Le (f6_t (pt Try.prog 6 n) n cs1 σ) (callP Try.prog (n + 1) 6 [.agg cs1] σ) :=
  goT_call (f6_g _ n cs1 σ) (by kernel_rfl) (by kernel_rfl)
noncomputable def f6_j1_t (L : Leaf) (n : Nat) (b1 : Bool) (a2 : Option (Nat × Nat)) (n3 : Nat) (c4 : Option Nat) (z5 : Nat) (b6 : Bool) (cs7 cs8 : List AV) (σ : St) : Out :=
 cond b1 (partK Try.prog 27 cs7 0 fun x9 =>
  xAgg x9 fun cs10 =>
  callTD Try.prog n 14 [] σ fun v12 σ11 =>
  xAgg v12 fun cs13 =>
  eqK Try.prog 27 (.agg cs10) (.agg cs13) fun b14 =>
  cond (!b14) (some (.ret (.bool false), σ11)) (f6_j2 L a2 n3 c4 z5 b6 cs7 cs8 σ11)) (f6_j2 L a2 n3 c4 z5 b6 cs7 cs8 σ)
theorem f6_j1_g (L : Leaf) (n : Nat) (b1 : Bool) (a2 : Option (Nat × Nat)) (n3 : Nat) (c4 : Option Nat) (z5 : Nat) (b6 : Bool) (cs7 cs8 : List AV) (σ : St) : goT Try.prog 6 n L [[1, 1, 1, 1, 1, 1, 1, 1]] [1, 1, 1, 1, 1, 1, 1] [] ⟨tm 204 [(2, .v (.bool false)), (3, .lp 3 0), (4, .v (.bool b1)), (5, .lp 5 0), (6, .v (.slice a2 n3 c4 z5)), (7, .v (.bool b6))] 0, [(3, cs7), (5, cs8)]⟩ σ = f6_j1_t L n b1 a2 n3 c4 z5 b6 cs7 cs8 σ := by kernel_rfl
theorem f6_j1_e {n : Nat} {b1 : Bool} {a2 : Option (Nat × Nat)} {n3 : Nat} {c4 : Option Nat} {z5 : Nat} {b6 : Bool} {cs7 cs8 : List AV} {σ : St} : Le (f6_j1_t (pt Try.prog 6 n) n b1 a2 n3 c4 z5 b6 cs7 cs8 σ) (f6_j1 (pt Try.prog 6 n) b1 a2 n3 c4 z5 b6 cs7 cs8 σ) :=
  goT_pt (f6_j1_g _ n b1 a2 n3 c4 z5 b6 cs7 cs8 σ)
noncomputable def f6_j2_t (L : Leaf) (n : Nat) (a1 : Option (Nat × Nat)) (n2 : Nat) (c3 : Option Nat) (z4 : Nat) (b5 : Bool) (cs6 cs7 : List AV) (σ : St) : Out :=
 partK Try.prog 27 cs6 0 fun x8 =>
 xAgg x8 fun cs9 =>
 wellK Try.prog 27 cs9 <|
 lstK [.int .i64 (0 : Int), .int .i64 (0 : Int), .int .i64 (0 : Int), .bool false, .int .i64 (0 : Int), .int .i64 (0 : Int), .int .i64 (0 : Int), .bool false, .int .i64 (0 : Int), .int .i64 (0 : Int), .int .i64 (0 : Int), .bool false, .int .i64 (0 : Int), .int .i64 (0 : Int), .int .i64 (0 : Int), .bool false, .int .i64 (0 : Int), .int .i64 (0 : Int), .int .i64 (0 : Int), .bool false, .int .i64 (0 : Int), .int .i64 (0 : Int), .int .i64 (0 : Int), .bool false, .int .i64 (0 : Int), .int .i64 (0 : Int), .int .i64 (0 : Int), .bool false, .int .i64 (0 : Int), .int .i64 (0 : Int), .int .i64 (0 : Int), .bool false] 0 cs9 fun cs10 =>
 f6_l3 L n a1 n2 c3 z4 b5 (0 : Int) cs6 cs7 cs10 σ
theorem f6_j2_g (L : Leaf) (n : Nat) (a1 : Option (Nat × Nat)) (n2 : Nat) (c3 : Option Nat) (z4 : Nat) (b5 : Bool) (cs6 cs7 : List AV) (σ : St) : goT Try.prog 6 n L [] [1, 1, 1, 1, 1, 1, 1, 1] [] ⟨tm 204 [(2, .v (.bool false)), (3, .lp 3 0), (5, .lp 5 0), (6, .v (.slice a1 n2 c3 z4)), (7, .v (.bool b5))] 0, [(3, cs6), (5, cs7)]⟩ σ = f6_j2_t L n a1 n2 c3 z4 b5 cs6 cs7 σ := by kernel_rfl
theorem f6_j2_e {n : Nat} {a1 : Option (Nat × Nat)} {n2 : Nat} {c3 : Option Nat} {z4 : Nat} {b5 : Bool} {cs6 cs7 : List AV} {σ : St} : Le (f6_j2_t (pt Try.prog 6 n) n a1 n2 c3 z4 b5 cs6 cs7 σ) (f6_j2 (pt Try.prog 6 n) a1 n2 c3 z4 b5 cs6 cs7 σ) :=
  goT_pt (f6_j2_g _ n a1 n2 c3 z4 b5 cs6 cs7 σ)
noncomputable def f6_l3_t (L : Leaf) (n m0 : Nat) (a1 : Option (Nat × Nat)) (n2 : Nat) (c3 : Option Nat) (z4 : Nat) (b5 : Bool) (i6 : Int) (cs7 cs8 cs9 : List AV) (σ : St) : Out :=
 cond (decide (i6 < (n2 : Int))) (idxK i6 n2 <|
  derefK a1 fun b10 o11 =>
  szK z4 3 <|
  ldK Try.prog 30 σ b10 (o11 + ((i6).toNat * 3)) fun x12 =>
  xAgg x12 fun cs13 =>
  unC cs13 fun x14 r15 =>
  xInt .i64 x14 fun i16 =>
  unC r15 fun x17 r18 =>
  xInt .i64 x17 fun i19 =>
  unC r18 fun x20 r21 =>
  xInt .i64 x20 fun i22 =>
  nlC r21 <|
  cond (i16 == (1 : Int)) (partK Try.prog 27 cs7 0 fun x23 =>
   xAgg x23 fun cs24 =>
   callT Try.prog n 10 [.agg cs24, .int .i64 i19] σ fun v26 σ25 =>
   xTup v26 fun cs27 =>
   unC cs27 fun x28 r29 =>
   xAgg x28 fun cs30 =>
   unC r29 fun x31 r32 =>
   xInt .i64 x31 fun i33 =>
   unC r32 fun x34 r35 =>
   xInt .i64 x34 fun i36 =>
   nlC r35 <|
   wellK Try.prog 27 cs30 <|
   lstK [.int .i64 (0 : Int), .int .i64 (0 : Int), .int .i64 (0 : Int), .bool false, .int .i64 (0 : Int), .int .i64 (0 : Int), .int .i64 (0 : Int), .bool false, .int .i64 (0 : Int), .int .i64 (0 : Int), .int .i64 (0 : Int), .bool false, .int .i64 (0 : Int), .int .i64 (0 : Int), .int .i64 (0 : Int), .bool false, .int .i64 (0 : Int), .int .i64 (0 : Int), .int .i64 (0 : Int), .bool false, .int .i64 (0 : Int), .int .i64 (0 : Int), .int .i64 (0 : Int), .bool false, .int .i64 (0 : Int), .int .i64 (0 : Int), .int .i64 (0 : Int), .bool false, .int .i64 (0 : Int), .int .i64 (0 : Int), .int .i64 (0 : Int), .bool false] 0 cs30 fun cs37 =>
   partK Try.prog 27 cs9 0 fun x38 =>
   xAgg x38 fun cs39 =>
   callT Try.prog n 15 [.agg cs39, .int .i64 i19] σ25 fun v41 σ40 =>
   xTup v41 fun cs42 =>
   unC cs42 fun x43 r44 =>
   xAgg x43 fun cs45 =>
   unC r44 fun x46 r47 =>
   xInt .i64 x46 fun i48 =>
   unC r47 fun x49 r50 =>
   xInt .i64 x49 fun i51 =>
   nlC r50 <|
   wellK Try.prog 27 cs45 <|
   lstK [.int .i64 (0 : Int), .int .i64 (0 : Int), .int .i64 (0 : Int), .bool false, .int .i64 (0 : Int), .int .i64 (0 : Int), .int .i64 (0 : Int), .bool false, .int .i64 (0 : Int), .int .i64 (0 : Int), .int .i64 (0 : Int), .bool false, .int .i64 (0 : Int), .int .i64 (0 : Int), .int .i64 (0 : Int), .bool false, .int .i64 (0 : Int), .int .i64 (0 : Int), .int .i64 (0 : Int), .bool false, .int .i64 (0 : Int), .int .i64 (0 : Int), .int .i64 (0 : Int), .bool false, .int .i64 (0 : Int), .int .i64 (0 : Int), .int .i64 (0 : Int), .bool false, .int .i64 (0 : Int), .int .i64 (0 : Int), .int .i64 (0 : Int), .bool false] 0 cs45 fun cs52 =>
   partK Try.prog 27 cs37 0 fun x53 =>
   xAgg x53 fun cs54 =>
   partK Try.prog 27 cs52 0 fun x55 =>
   xAgg x55 fun cs56 =>
   eqK Try.prog 27 (.agg cs54) (.agg cs56) fun b57 =>
   cond (!b57) (some (.ret (.bool false), σ40)) (cond (i33 != i48) (some (.ret (.bool false), σ40)) (cond (i36 != i51) (some (.ret (.bool false), σ40)) (partK Try.prog 27 cs37 0 fun x58 =>
      xAgg x58 fun cs59 =>
      wellK Try.prog 27 cs59 <|
      lstK cs7 0 cs59 fun cs60 =>
      partK Try.prog 27 cs52 0 fun x61 =>
      xAgg x61 fun cs62 =>
      wellK Try.prog 27 cs62 <|
      lstK cs9 0 cs62 fun cs63 =>
      f6_j4 L m0 a1 n2 c3 z4 b5 i6 cs60 cs8 cs63 i16 i19 i22 σ40)))) (cond (i16 == (2 : Int)) (partK Try.prog 27 cs7 0 fun x64 =>
    xAgg x64 fun cs65 =>
    callT Try.prog n 11 [.agg cs65, .int .i64 i19, .int .i64 i22] σ fun v67 σ66 =>
    xTup v67 fun cs68 =>
    unC cs68 fun x69 r70 =>
    xAgg x69 fun cs71 =>
    unC r70 fun x72 r73 =>
    xInt .i64 x72 fun i74 =>
    nlC r73 <|
    wellK Try.prog 27 cs71 <|
    lstK [.int .i64 (0 : Int), .int .i64 (0 : Int), .int .i64 (0 : Int), .bool false, .int .i64 (0 : Int), .int .i64 (0 : Int), .int .i64 (0 : Int), .bool false, .int .i64 (0 : Int), .int .i64 (0 : Int), .int .i64 (0 : Int), .bool false, .int .i64 (0 : Int), .int .i64 (0 : Int), .int .i64 (0 : Int), .bool false, .int .i64 (0 : Int), .int .i64 (0 : Int), .int .i64 (0 : Int), .bool false, .int .i64 (0 : Int), .int .i64 (0 : Int), .int .i64 (0 : Int), .bool false, .int .i64 (0 : Int), .int .i64 (0 : Int), .int .i64 (0 : Int), .bool false, .int .i64 (0 : Int), .int .i64 (0 : Int), .int .i64 (0 : Int), .bool false] 0 cs71 fun cs75 =>
    partK Try.prog 27 cs9 0 fun x76 =>
    xAgg x76 fun cs77 =>
    callT Try.prog n 16 [.agg cs77, .int .i64 i19, .int .i64 i22] σ66 fun v79 σ78 =>
    xTup v79 fun cs80 =>
    unC cs80 fun x81 r82 =>
    xAgg x81 fun cs83 =>
    unC r82 fun x84 r85 =>
    xInt .i64 x84 fun i86 =>
    nlC r85 <|
    wellK Try.prog 27 cs83 <|
    lstK [.int .i64 (0 : Int), .int .i64 (0 : Int), .int .i64 (0 : Int), .bool false, .int .i64 (0 : Int), .int .i64 (0 : Int), .int .i64 (0 : Int), .bool false, .int .i64 (0 : Int), .int .i64 (0 : Int), .int .i64 (0 : Int), .bool false, .int .i64 (0 : Int), .int .i64 (0 : Int), .int .i64 (0 : Int), .bool false, .int .i64 (0 : Int), .int .i64 (0 : Int), .int .i64 (0 : Int), .bool false, .int .i64 (0 : Int), .int .i64 (0 : Int), .int .i64 (0 : Int), .bool false, .int .i64 (0 : Int), .int .i64 (0 : Int), .int .i64 (0 : Int), .bool false, .int .i64 (0 : Int), .int .i64 (0 : Int), .int .i64 (0 : Int), .bool false] 0 cs83 fun cs87 =>
    partK Try.prog 27 cs75 0 fun x88 =>
    xAgg x88 fun cs89 =>
    partK Try.prog 27 cs87 0 fun x90 =>
    xAgg x90 fun cs91 =>
    eqK Try.prog 27 (.agg cs89) (.agg cs91) fun b92 =>
    cond (!b92) (some (.ret (.bool false), σ78)) (cond (i74 != i86) (some (.ret (.bool false), σ78)) (partK Try.prog 27 cs75 0 fun x93 =>
      xAgg x93 fun cs94 =>
      wellK Try.prog 27 cs94 <|
      lstK cs7 0 cs94 fun cs95 =>
      partK Try.prog 27 cs87 0 fun x96 =>
      xAgg x96 fun cs97 =>
      wellK Try.prog 27 cs97 <|
      lstK cs9 0 cs97 fun cs98 =>
      f6_j4 L m0 a1 n2 c3 z4 b5 i6 cs95 cs8 cs98 i16 i19 i22 σ78))) (cond (i16 == (3 : Int)) (partK Try.prog 27 cs7 0 fun x99 =>
     xAgg x99 fun cs100 =>
     callT Try.prog n 12 [.agg cs100, .int .i64 i19] σ fun v102 σ101 =>
     xTup v102 fun cs103 =>
     unC cs103 fun x104 r105 =>
     xAgg x104 fun cs106 =>
     unC r105 fun x107 r108 =>
     xInt .i64 x107 fun i109 =>
     unC r108 fun x110 r111 =>
     xInt .i64 x110 fun i112 =>
     unC r111 fun x113 r114 =>
     xInt .i64 x113 fun i115 =>
     nlC r114 <|
     wellK Try.prog 27 cs106 <|
     lstK [.int .i64 (0 : Int), .int .i64 (0 : Int), .int .i64 (0 : Int), .bool false, .int .i64 (0 : Int), .int .i64 (0 : Int), .int .i64 (0 : Int), .bool false, .int .i64 (0 : Int), .int .i64 (0 : Int), .int .i64 (0 : Int), .bool false, .int .i64 (0 : Int), .int .i64 (0 : Int), .int .i64 (0 : Int), .bool false, .int .i64 (0 : Int), .int .i64 (0 : Int), .int .i64 (0 : Int), .bool false, .int .i64 (0 : Int), .int .i64 (0 : Int), .int .i64 (0 : Int), .bool false, .int .i64 (0 : Int), .int .i64 (0 : Int), .int .i64 (0 : Int), .bool false, .int .i64 (0 : Int), .int .i64 (0 : Int), .int .i64 (0 : Int), .bool false] 0 cs106 fun cs116 =>
     partK Try.prog 27 cs9 0 fun x117 =>
     xAgg x117 fun cs118 =>
     callT Try.prog n 17 [.agg cs118, .int .i64 i19] σ101 fun v120 σ119 =>
     xTup v120 fun cs121 =>
     unC cs121 fun x122 r123 =>
     xAgg x122 fun cs124 =>
     unC r123 fun x125 r126 =>
     xInt .i64 x125 fun i127 =>
     unC r126 fun x128 r129 =>
     xInt .i64 x128 fun i130 =>
     unC r129 fun x131 r132 =>
     xInt .i64 x131 fun i133 =>
     nlC r132 <|
     wellK Try.prog 27 cs124 <|
     lstK [.int .i64 (0 : Int), .int .i64 (0 : Int), .int .i64 (0 : Int), .bool false, .int .i64 (0 : Int), .int .i64 (0 : Int), .int .i64 (0 : Int), .bool false, .int .i64 (0 : Int), .int .i64 (0 : Int), .int .i64 (0 : Int), .bool false, .int .i64 (0 : Int), .int .i64 (0 : Int), .int .i64 (0 : Int), .bool false, .int .i64 (0 : Int), .int .i64 (0 : Int), .int .i64 (0 : Int), .bool false, .int .i64 (0 : Int), .int .i64 (0 : Int), .int .i64 (0 : Int), .bool false, .int .i64 (0 : Int), .int .i64 (0 : Int), .int .i64 (0 : Int), .bool false, .int .i64 (0 : Int), .int .i64 (0 : Int), .int .i64 (0 : Int), .bool false] 0 cs124 fun cs134 =>
     partK Try.prog 27 cs116 0 fun x135 =>
     xAgg x135 fun cs136 =>
     partK Try.prog 27 cs134 0 fun x137 =>
     xAgg x137 fun cs138 =>
     eqK Try.prog 27 (.agg cs136) (.agg cs138) fun b139 =>
     cond (!b139) (some (.ret (.bool false), σ119)) (cond (i109 != i127) (some (.ret (.bool false), σ119)) (cond (i112 != i130) (some (.ret (.bool false), σ119)) (cond (i115 != i133) (some (.ret (.bool false), σ119)) (partK Try.prog 27 cs116 0 fun x140 =>
         xAgg x140 fun cs141 =>
         wellK Try.prog 27 cs141 <|
         lstK cs7 0 cs141 fun cs142 =>
         partK Try.prog 27 cs134 0 fun x143 =>
         xAgg x143 fun cs144 =>
         wellK Try.prog 27 cs144 <|
         lstK cs9 0 cs144 fun cs145 =>
         f6_j4 L m0 a1 n2 c3 z4 b5 i6 cs142 cs8 cs145 i16 i19 i22 σ119))))) (cond (i16 == (4 : Int)) (partK Try.prog 27 cs7 0 fun x146 =>
      xAgg x146 fun cs147 =>
      callT Try.prog n 18 [.agg cs147, .int .i64 i19] σ fun v149 σ148 =>
      xTup v149 fun cs150 =>
      unC cs150 fun x151 r152 =>
      xAgg x151 fun cs153 =>
      unC r152 fun x154 r155 =>
      xInt .i64 x154 fun i156 =>
      nlC r155 <|
      wellK Try.prog 27 cs153 <|
      lstK [.int .i64 (0 : Int), .int .i64 (0 : Int), .int .i64 (0 : Int), .bool false, .int .i64 (0 : Int), .int .i64 (0 : Int), .int .i64 (0 : Int), .bool false, .int .i64 (0 : Int), .int .i64 (0 : Int), .int .i64 (0 : Int), .bool false, .int .i64 (0 : Int), .int .i64 (0 : Int), .int .i64 (0 : Int), .bool false, .int .i64 (0 : Int), .int .i64 (0 : Int), .int .i64 (0 : Int), .bool false, .int .i64 (0 : Int), .int .i64 (0 : Int), .int .i64 (0 : Int), .bool false, .int .i64 (0 : Int), .int .i64 (0 : Int), .int .i64 (0 : Int), .bool false, .int .i64 (0 : Int), .int .i64 (0 : Int), .int .i64 (0 : Int), .bool false] 0 cs153 fun cs157 =>
      partK Try.prog 27 cs9 0 fun x158 =>
      xAgg x158 fun cs159 =>
      callT Try.prog n 19 [.agg cs159, .int .i64 i19] σ148 fun v161 σ160 =>
      xTup v161 fun cs162 =>
      unC cs162 fun x163 r164 =>
      xAgg x163 fun cs165 =>
      unC r164 fun x166 r167 =>
      xInt .i64 x166 fun i168 =>
      nlC r167 <|
      wellK Try.prog 27 cs165 <|
      lstK [.int .i64 (0 : Int), .int .i64 (0 : Int), .int .i64 (0 : Int), .bool false, .int .i64 (0 : Int), .int .i64 (0 : Int), .int .i64 (0 : Int), .bool false, .int .i64 (0 : Int), .int .i64 (0 : Int), .int .i64 (0 : Int), .bool false, .int .i64 (0 : Int), .int .i64 (0 : Int), .int .i64 (0 : Int), .bool false, .int .i64 (0 : Int), .int .i64 (0 : Int), .int .i64 (0 : Int), .bool false, .int .i64 (0 : Int), .int .i64 (0 : Int), .int .i64 (0 : Int), .bool false, .int .i64 (0 : Int), .int .i64 (0 : Int), .int .i64 (0 : Int), .bool false, .int .i64 (0 : Int), .int .i64 (0 : Int), .int .i64 (0 : Int), .bool false] 0 cs165 fun cs169 =>
      partK Try.prog 27 cs157 0 fun x170 =>
      xAgg x170 fun cs171 =>
      partK Try.prog 27 cs169 0 fun x172 =>
      xAgg x172 fun cs173 =>
      eqK Try.prog 27 (.agg cs171) (.agg cs173) fun b174 =>
      cond (!b174) (some (.ret (.bool false), σ160)) (cond (i156 != i168) (some (.ret (.bool false), σ160)) (partK Try.prog 27 cs157 0 fun x175 =>
        xAgg x175 fun cs176 =>
        wellK Try.prog 27 cs176 <|
        lstK cs7 0 cs176 fun cs177 =>
        partK Try.prog 27 cs169 0 fun x178 =>
        xAgg x178 fun cs179 =>
        wellK Try.prog 27 cs179 <|
        lstK cs9 0 cs179 fun cs180 =>
        f6_j4 L m0 a1 n2 c3 z4 b5 i6 cs177 cs8 cs180 i16 i19 i22 σ160))) (f6_j4 L m0 a1 n2 c3 z4 b5 i6 cs7 cs8 cs9 i16 i19 i22 σ))))) (f6_j5 L b5 σ)
theorem f6_l3_g (L : Leaf) (n : Nat) (m0 : Nat) (a1 : Option (Nat × Nat)) (n2 : Nat) (c3 : Option Nat) (z4 : Nat) (b5 : Bool) (i6 : Int) (cs7 cs8 cs9 : List AV) (σ : St) : goT Try.prog 6 n L [[1, 1, 1, 1, 1, 1, 1, 1, 1, 0, 1, 0, 0, 1, 0, 0, 1, 1], [1, 1, 1, 1, 1, 1, 1, 1, 1, 1]] [1, 1, 1, 1, 1, 1, 1, 1, 1, 0, 1, 0] [m0 + 1] ⟨tm 204 [(2, .v (.bool false)), (3, .lp 3 0), (5, .lp 5 0), (6, .v (.slice a1 n2 c3 z4)), (7, .v (.bool b5)), (8, .lp 8 0), (9, .v (.int .i64 i6))] 0, [(3, cs7), (5, cs8), (8, cs9)]⟩ σ = f6_l3_t L n m0 a1 n2 c3 z4 b5 i6 cs7 cs8 cs9 σ := by kernel_rfl
theorem f6_l3_e {n : Nat} {m0 : Nat} {a1 : Option (Nat × Nat)} {n2 : Nat} {c3 : Option Nat} {z4 : Nat} {b5 : Bool} {i6 : Int} {cs7 cs8 cs9 : List AV} {σ : St} : Le (f6_l3_t (pt Try.prog 6 n) n m0 a1 n2 c3 z4 b5 i6 cs7 cs8 cs9 σ) (f6_l3 (pt Try.prog 6 n) (m0 + 1) a1 n2 c3 z4 b5 i6 cs7 cs8 cs9 σ) :=
  goT_pt (f6_l3_g _ n m0 a1 n2 c3 z4 b5 i6 cs7 cs8 cs9 σ)
noncomputable def f6_j4_t (L : Leaf) (n m0 : Nat) (a1 : Option (Nat × Nat)) (n2 : Nat) (c3 : Option Nat) (z4 : Nat) (b5 : Bool) (i6 : Int) (cs7 cs8 cs9 : List AV) (_ _ i12 : Int) (σ : St) : Out :=
 partK Try.prog 27 cs7 0 fun x13 =>
 xAgg x13 fun cs14 =>
 partK Try.prog 40 cs8 0 fun x15 =>
 xAgg x15 fun cs16 =>
 callTD Try.prog n 13 [.agg cs14, .int .i64 i12, .agg cs16] σ fun v18 σ17 =>
 xInt .i64 v18 fun i19 =>
 partK Try.prog 27 cs9 0 fun x20 =>
 xAgg x20 fun cs21 =>
 partK Try.prog 40 cs8 0 fun x22 =>
 xAgg x22 fun cs23 =>
 callTD Try.prog n 20 [.agg cs21, .int .i64 i12, .agg cs23] σ17 fun v25 σ24 =>
 xInt .i64 v25 fun i26 =>
 cond (i19 != i26) (some (.ret (.bool false), σ24)) (f6_l3 L m0 a1 n2 c3 z4 b5 (IntKind.wrap .i64 (i6 + (1 : Int))) cs7 cs8 cs9 σ24)
theorem f6_j4_g (L : Leaf) (n : Nat) (m0 : Nat) (a1 : Option (Nat × Nat)) (n2 : Nat) (c3 : Option Nat) (z4 : Nat) (b5 : Bool) (i6 : Int) (cs7 cs8 cs9 : List AV) (i10 i11 i12 : Int) (σ : St) : goT Try.prog 6 n L [] [1, 1, 1, 1, 1, 1, 1, 1, 1, 0, 1, 0, 0, 1, 0, 0, 1, 1] [m0] ⟨tm 204 [(2, .v (.bool false)), (3, .lp 3 0), (5, .lp 5 0), (6, .v (.slice a1 n2 c3 z4)), (7, .v (.bool b5)), (8, .lp 8 0), (9, .v (.int .i64 i6)), (10, .lp 10 0)] 0, [(3, cs7), (5, cs8), (8, cs9), (10, [.int .i64 i10, .int .i64 i11, .int .i64 i12])]⟩ σ = f6_j4_t L n m0 a1 n2 c3 z4 b5 i6 cs7 cs8 cs9 i10 i11 i12 σ := by kernel_rfl
theorem f6_j4_e {n : Nat} {m0 : Nat} {a1 : Option (Nat × Nat)} {n2 : Nat} {c3 : Option Nat} {z4 : Nat} {b5 : Bool} {i6 : Int} {cs7 cs8 cs9 : List AV} {i10 i11 i12 : Int} {σ : St} : Le (f6_j4_t (pt Try.prog 6 n) n m0 a1 n2 c3 z4 b5 i6 cs7 cs8 cs9 i10 i11 i12 σ) (f6_j4 (pt Try.prog 6 n) m0 a1 n2 c3 z4 b5 i6 cs7 cs8 cs9 i10 i11 i12 σ) :=
  goT_pt (f6_j4_g _ n m0 a1 n2 c3 z4 b5 i6 cs7 cs8 cs9 i10 i11 i12 σ)
noncomputable def f6_j5_t (_ : Leaf) (_ : Nat) (b1 : Bool) (σ : St) : Out :=
 some (.ret (.bool b1), σ)
theorem f6_j5_g (L : Leaf) (n : Nat) (b1 : Bool) (σ : St) : goT Try.prog 6 n L [] [1, 1, 1, 1, 1, 1, 1, 1, 1, 1] [] ⟨tm 204 [(2, .v (.bool false)), (7, .v (.bool b1))] 0, []⟩ σ = f6_j5_t L n b1 σ := by kernel_rfl
theorem f6_j5_e {n : Nat} {b1 : Bool} {σ : St} : Le (f6_j5_t (pt Try.prog 6 n) n b1 σ) (f6_j5 (pt Try.prog 6 n) b1 σ) :=
  goT_pt (f6_j5_g _ n b1 σ)
end Go.Proofs

/- The functions, as trees of named steps. -/
import Derived.Test.YtgaodjcjgafccaaAmT
import Derived.Test.YtgaodjcjgafccaaChecked
namespace Go.Proofs
open Go.AM
/-! ### binnacle/binnaclelaw14.TableFair(with) -/
noncomputable def f4_l1 (L : Leaf) (m0 : Nat) (i1 : Int) (b2 : Bool) (i3 i4 : Int) (cs5 cs6 : List AV) (σ : St) : Out :=
  L [1, 1, 1, 1, 1, 1, 1, 1, 0, 1, 0] [m0] ⟨tm 53 [(2, .v (.bool false)), (3, .lp 3 0), (4, .lp 4 0), (6, .v (.int .i64 i1)), (7, .v (.bool b2)), (8, .v (.int .i64 i3)), (9, .v (.int .i64 i4))] 0, [(3, cs5), (4, cs6)]⟩ σ
noncomputable def f4_j2 (L : Leaf)  (σ : St) : Out :=
  L [1, 1, 1, 1, 1, 1, 1, 1, 1] [] ⟨tm 53 [(2, .v (.bool false))] 0, []⟩ σ
noncomputable def f4_t (L : Leaf) (n : Nat) (cs1 : List AV) (σ : St) : Out :=
 onesK cs1 <|
 partK Try.prog 27 cs1 0 fun x2 =>
 xAgg x2 fun cs3 =>
 wellK Try.prog 27 cs3 <|
 lstK [.int .i64 (0 : Int), .int .i64 (0 : Int), .int .i64 (0 : Int), .bool false, .int .i64 (0 : Int), .int .i64 (0 : Int), .int .i64 (0 : Int), .bool false, .int .i64 (0 : Int), .int .i64 (0 : Int), .int .i64 (0 : Int), .bool false, .int .i64 (0 : Int), .int .i64 (0 : Int), .int .i64 (0 : Int), .bool false, .int .i64 (0 : Int), .int .i64 (0 : Int), .int .i64 (0 : Int), .bool false, .int .i64 (0 : Int), .int .i64 (0 : Int), .int .i64 (0 : Int), .bool false, .int .i64 (0 : Int), .int .i64 (0 : Int), .int .i64 (0 : Int), .bool false, .int .i64 (0 : Int), .int .i64 (0 : Int), .int .i64 (0 : Int), .bool false] 0 cs3 fun cs4 =>
 partK Try.prog 40 cs1 32 fun x5 =>
 xAgg x5 fun cs6 =>
 wellK Try.prog 40 cs6 <|
 lstK [.bool false, .bool false, .bool false, .bool false, .bool false, .bool false, .bool false, .bool false] 0 cs6 fun cs7 =>
 partK Try.prog 3 cs1 40 fun x8 =>
 xInt .i64 x8 fun i9 =>
 partK Try.prog 3 cs1 41 fun x10 =>
 xInt .i64 x10 fun i11 =>
 callT Try.prog n 8 [] σ fun v13 σ12 =>
 xBool v13 fun b14 =>
 cond (decide (i11 < (0 : Int))) (some (.ret (.bool b14), σ12)) (cond (decide (i11 > (7 : Int))) (some (.ret (.bool b14), σ12)) (idxK i11 8 <|
   partK Try.prog 3 cs4 ((0 + ((i11).toNat * 4)) + 0) fun x15 =>
   xInt .i64 x15 fun i16 =>
   cond (i16 != (1 : Int)) (some (.ret (.bool b14), σ12)) (idxK i11 8 <|
    partK Try.prog 4 cs7 (0 + ((i11).toNat * 1)) fun x17 =>
    xBool x17 fun b18 =>
    cond b18 (some (.ret (.bool b14), σ12)) (f4_l1 L n i11 b14 i9 (0 : Int) cs4 cs7 σ12))))
theorem f4_g (L : Leaf) (n : Nat) (cs1 : List AV) (σ : St) : goT Try.prog 4 n L [] [] [] ⟨tm 53 [(0, .v (.agg cs1))] 0, []⟩ σ = f4_t L n cs1 σ := by kernel_rfl
theorem f4_e {n : Nat} {cs1 : List AV} {σ : St} : Le (f4_t (pt Try.prog 4 n) n cs1 σ) (callP Try.prog (n + 1) 4 [.agg cs1] σ) :=
  goT_call (f4_g _ n cs1 σ) (by kernel_rfl) (by kernel_rfl)
noncomputable def f4_l1_t (L : Leaf) (n m0 : Nat) (i1 : Int) (b2 : Bool) (i3 i4 : Int) (cs5 cs6 : List AV) (σ : St) : Out :=
 cond (decide (i4 < (8 : Int))) (partK Try.prog 27 cs5 0 fun x7 =>
  xAgg x7 fun cs8 =>
  partK Try.prog 40 cs6 0 fun x9 =>
  xAgg x9 fun cs10 =>
  callT Try.prog n 13 [.agg cs8, .int .i64 i3, .agg cs10] σ fun v12 σ11 =>
  xInt .i64 v12 fun i13 =>
  cond (i13 == i1) (some (.ret (.bool b2), σ11)) (cond (decide (i13 < (0 : Int))) (some (.ret (.bool false), σ11)) (f4_l1 L m0 i1 b2 i13 (IntKind.wrap .i64 (i4 + (1 : Int))) cs5 cs6 σ11))) (f4_j2 L  σ)
theorem f4_l1_g (L : Leaf) (n : Nat) (m0 : Nat) (i1 : Int) (b2 : Bool) (i3 i4 : Int) (cs5 cs6 : List AV) (σ : St) : goT Try.prog 4 n L [[1, 1, 1, 1, 1, 1, 1, 1, 1]] [1, 1, 1, 1, 1, 1, 1, 1, 0, 1, 0] [m0 + 1] ⟨tm 53 [(2, .v (.bool false)), (3, .lp 3 0), (4, .lp 4 0), (6, .v (.int .i64 i1)), (7, .v (.bool b2)), (8, .v (.int .i64 i3)), (9, .v (.int .i64 i4))] 0, [(3, cs5), (4, cs6)]⟩ σ = f4_l1_t L n m0 i1 b2 i3 i4 cs5 cs6 σ := by kernel_rfl
theorem f4_l1_e {n : Nat} {m0 : Nat} {i1 : Int} {b2 : Bool} {i3 i4 : Int} {cs5 cs6 : List AV} {σ : St} : Le (f4_l1_t (pt Try.prog 4 n) n m0 i1 b2 i3 i4 cs5 cs6 σ) (f4_l1 (pt Try.prog 4 n) (m0 + 1) i1 b2 i3 i4 cs5 cs6 σ) :=
  goT_pt (f4_l1_g _ n m0 i1 b2 i3 i4 cs5 cs6 σ)
noncomputable def f4_j2_t (_ : Leaf) (_ : Nat) (σ : St) : Out :=
 some (.ret (.bool false), σ)
theorem f4_j2_g (L : Leaf) (n : Nat)  (σ : St) : goT Try.prog 4 n L [] [1, 1, 1, 1, 1, 1, 1, 1, 1] [] ⟨tm 53 [(2, .v (.bool false))] 0, []⟩ σ = f4_j2_t L n  σ := by kernel_rfl
theorem f4_j2_e {n : Nat}  {σ : St} : Le (f4_j2_t (pt Try.prog 4 n) n  σ) (f4_j2 (pt Try.prog 4 n)  σ) :=
  goT_pt (f4_j2_g _ n  σ)
/-! ### binnacle/binnaclelaw14.TableForks(t, pid) -/
noncomputable def f5_l1 (L : Leaf) (m0 : Nat) (b1 : Bool) (i2 i3 : Int) (cs4 cs5 : List AV) (σ : St) : Out :=
  L [1, 1, 1, 1, 1, 0, 1, 0] [m0] ⟨tm 94 [(2, .lp 2 0), (4, .v (.bool false)), (5, .v (.bool b1)), (6, .lp 6 0), (7, .v (.int .i64 i2)), (9, .v (.int .i64 i3))] 0, [(2, cs4), (6, cs5)]⟩ σ
noncomputable def f5_j2 (L : Leaf) (m0 : Nat) (b1 : Bool) (i2 i3 : Int) (cs4 cs5 : List AV) (σ : St) : Out :=
  L [1, 1, 1, 1, 1, 0, 1, 0, 0, 1, 1] [m0] ⟨tm 94 [(2, .lp 2 0), (4, .v (.bool false)), (5, .v (.bool b1)), (6, .lp 6 0), (7, .v (.int .i64 i2)), (9, .v (.int .i64 i3))] 0, [(2, cs4), (6, cs5)]⟩ σ
noncomputable def f5_j3 (L : Leaf) (b1 : Bool) (σ : St) : Out :=
  L [1, 1, 1, 1, 1, 1] [] ⟨tm 94 [(4, .v (.bool false)), (5, .v (.bool b1))] 0, []⟩ σ
noncomputable def f5_t (L : Leaf) (n : Nat) (cs1 : List AV) (i2 : Int) (σ : St) : Out :=
 onesK cs1 <|
 callT Try.prog n 8 [] σ fun v4 σ3 =>
 xBool v4 fun b5 =>
 partK Try.prog 27 cs1 0 fun x6 =>
 xAgg x6 fun cs7 =>
 callT Try.prog n 10 [.agg cs7, .int .i64 i2] σ3 fun v9 σ8 =>
 xTup v9 fun cs10 =>
 unC cs10 fun x11 r12 =>
 xAgg x11 fun cs13 =>
 unC r12 fun x14 r15 =>
 xInt .i64 x14 fun i16 =>
 unC r15 fun x17 r18 =>
 xInt .i64 x17 fun i19 =>
 nlC r18 <|
 wellK Try.prog 27 cs13 <|
 lstK [.int .i64 (0 : Int), .int .i64 (0 : Int), .int .i64 (0 : Int), .bool false, .int .i64 (0 : Int), .int .i64 (0 : Int), .int .i64 (0 : Int), .bool false, .int .i64 (0 : Int), .int .i64 (0 : Int), .int .i64 (0 : Int), .bool false, .int .i64 (0 : Int), .int .i64 (0 : Int), .int .i64 (0 : Int), .bool false, .int .i64 (0 : Int), .int .i64 (0 : Int), .int .i64 (0 : Int), .bool false, .int .i64 (0 : Int), .int .i64 (0 : Int), .int .i64 (0 : Int), .bool false, .int .i64 (0 : Int), .int .i64 (0 : Int), .int .i64 (0 : Int), .bool false, .int .i64 (0 : Int), .int .i64 (0 : Int), .int .i64 (0 : Int), .bool false] 0 cs13 fun cs20 =>
 cond (i19 != (0 : Int)) (cond b5 (partK Try.prog 27 cs20 0 fun x21 =>
   xAgg x21 fun cs22 =>
   partK Try.prog 27 cs1 0 fun x23 =>
   xAgg x23 fun cs24 =>
   eqK Try.prog 27 (.agg cs22) (.agg cs24) fun b25 =>
   some (.ret (.bool b25), σ8)) (some (.ret (.bool false), σ8))) (cond (decide (i16 < (1 : Int))) (some (.ret (.bool false), σ8)) (cond (decide (i16 > (7 : Int))) (some (.ret (.bool false), σ8)) (idxK i16 8 <|
    partK Try.prog 3 cs1 ((0 + ((i16).toNat * 4)) + 0) fun x26 =>
    xInt .i64 x26 fun i27 =>
    cond (i27 == (1 : Int)) (some (.ret (.bool false), σ8)) (idxK i16 8 <|
     partK Try.prog 3 cs1 ((0 + ((i16).toNat * 4)) + 0) fun x28 =>
     xInt .i64 x28 fun i29 =>
     cond (i29 == (2 : Int)) (some (.ret (.bool false), σ8)) (idxK i16 8 <|
      partK Try.prog 25 cs20 (0 + ((i16).toNat * 4)) fun x30 =>
      xAgg x30 fun cs31 =>
      unC cs31 fun x32 r33 =>
      xInt .i64 x32 fun i34 =>
      unC r33 fun x35 r36 =>
      xInt .i64 x35 fun i37 =>
      unC r36 fun x38 r39 =>
      xInt .i64 x38 fun i40 =>
      unC r39 fun x41 r42 =>
      xBool x41 fun b43 =>
      nlC r42 <|
      cond (!((i34 == (1 : Int)) && ((i37 == i2) && ((i40 == (0 : Int)) && ((b43 == false) && true))))) (some (.ret (.bool false), σ8)) (f5_l1 L n b5 i16 (0 : Int) cs1 cs20 σ8))))))
theorem f5_g (L : Leaf) (n : Nat) (cs1 : List AV) (i2 : Int) (σ : St) : goT Try.prog 5 n L [] [] [] ⟨tm 94 [(0, .v (.agg cs1)), (1, .v (.int .i64 i2))] 0, []⟩ σ = f5_t L n cs1 i2 σ := by kernel_rfl
theorem f5_e {n : Nat} {cs1 : List AV} {i2 : Int} {σ : St} : Le (f5_t (pt Try.prog 5 n) n cs1 i2 σ) (callP Try.prog (n + 1) 5 [.agg cs1, .int .i64 i2] σ) :=
  goT_call (f5_g _ n cs1 i2 σ) (by kernel_rfl) (by kernel_rfl)
noncomputable def f5_l1_t (L : Leaf) (_ m0 : Nat) (b1 : Bool) (i2 i3 : Int) (cs4 cs5 : List AV) (σ : St) : Out :=
 cond (decide (i3 < (8 : Int))) (cond (i3 != i2) (idxK i3 8 <|
   partK Try.prog 25 cs5 (0 + ((i3).toNat * 4)) fun x6 =>
   xAgg x6 fun cs7 =>
   unC cs7 fun x8 r9 =>
   xInt .i64 x8 fun i10 =>
   unC r9 fun x11 r12 =>
   xInt .i64 x11 fun i13 =>
   unC r12 fun x14 r15 =>
   xInt .i64 x14 fun i16 =>
   unC r15 fun x17 r18 =>
   xBool x17 fun b19 =>
   nlC r18 <|
   idxK i3 8 <|
   partK Try.prog 25 cs4 (0 + ((i3).toNat * 4)) fun x20 =>
   xAgg x20 fun cs21 =>
   unC cs21 fun x22 r23 =>
   xInt .i64 x22 fun i24 =>
   unC r23 fun x25 r26 =>
   xInt .i64 x25 fun i27 =>
   unC r26 fun x28 r29 =>
   xInt .i64 x28 fun i30 =>
   unC r29 fun x31 r32 =>
   xBool x31 fun b33 =>
   nlC r32 <|
   cond (!((i10 == i24) && ((i13 == i27) && ((i16 == i30) && ((b19 == b33) && true))))) (some (.ret (.bool false), σ)) (cond (decide (i3 > (0 : Int))) (cond (decide (i3 < i2)) (idxK i3 8 <|
      partK Try.prog 3 cs4 ((0 + ((i3).toNat * 4)) + 0) fun x34 =>
      xInt .i64 x34 fun i35 =>
      cond (i35 != (1 : Int)) (idxK i3 8 <|
       partK Try.prog 3 cs4 ((0 + ((i3).toNat * 4)) + 0) fun x36 =>
       xInt .i64 x36 fun i37 =>
       cond (i37 != (2 : Int)) (some (.ret (.bool false), σ)) (f5_j2 L m0 b1 i2 i3 cs4 cs5 σ)) (f5_j2 L m0 b1 i2 i3 cs4 cs5 σ)) (f5_j2 L m0 b1 i2 i3 cs4 cs5 σ)) (f5_j2 L m0 b1 i2 i3 cs4 cs5 σ))) (cond (decide (i3 > (0 : Int))) (cond (decide (i3 < i2)) (idxK i3 8 <|
     partK Try.prog 3 cs4 ((0 + ((i3).toNat * 4)) + 0) fun x38 =>
     xInt .i64 x38 fun i39 =>
     cond (i39 != (1 : Int)) (idxK i3 8 <|
      partK Try.prog 3 cs4 ((0 + ((i3).toNat * 4)) + 0) fun x40 =>
      xInt .i64 x40 fun i41 =>
      cond (i41 != (2 : Int)) (some (.ret (.bool false), σ)) (f5_j2 L m0 b1 i2 i3 cs4 cs5 σ)) (f5_j2 L m0 b1 i2 i3 cs4 cs5 σ)) (f5_j2 L m0 b1 i2 i3 cs4 cs5 σ)) (f5_j2 L m0 b1 i2 i3 cs4 cs5 σ))) (f5_j3 L b1 σ)
theorem f5_l1_g (L : Leaf) (n : Nat) (m0 : Nat) (b1 : Bool) (i2 i3 : Int) (cs4 cs5 : List AV) (σ : St) : goT Try.prog 5 n L [[1, 1, 1, 1, 1, 0, 1, 0, 0, 1, 1], [1, 1, 1, 1, 1, 1]] [1, 1, 1, 1, 1, 0, 1, 0] [m0 + 1] ⟨tm 94 [(2, .lp 2 0), (4, .v (.bool false)), (5, .v (.bool b1)), (6, .lp 6 0), (7, .v (.int .i64 i2)), (9, .v (.int .i64 i3))] 0, [(2, cs4), (6, cs5)]⟩ σ = f5_l1_t L n m0 b1 i2 i3 cs4 cs5 σ := by kernel_rfl
theorem f5_l1_e {n : Nat} {m0 : Nat} {b1 : Bool} {i2 i3 : Int} {cs4 cs5 : List AV} {σ : St} : Le (f5_l1_t (pt Try.prog 5 n) n m0 b1 i2 i3 cs4 cs5 σ) (f5_l1 (pt Try.prog 5 n) (m0 + 1) b1 i2 i3 cs4 cs5 σ) :=
  goT_pt (f5_l1_g _ n m0 b1 i2 i3 cs4 cs5 σ)
noncomputable def f5_j2_t (L : Leaf) (_ m0 : Nat) (b1 : Bool) (i2 i3 : Int) (cs4 cs5 : List AV) (σ : St) : Out :=
 f5_l1 L m0 b1 i2 (IntKind.wrap .i64 (i3 + (1 : Int))) cs4 cs5 σ
theorem f5_j2_g (L : Leaf) (n : Nat) (m0 : Nat) (b1 : Bool) (i2 i3 : Int) (cs4 cs5 : List AV) (σ : St) : goT Try.prog 5 n L [] [1, 1, 1, 1, 1, 0, 1, 0, 0, 1, 1] [m0] ⟨tm 94 [(2, .lp 2 0), (4, .v (.bool false)), (5, .v (.bool b1)), (6, .lp 6 0), (7, .v (.int .i64 i2)), (9, .v (.int .i64 i3))] 0, [(2, cs4), (6, cs5)]⟩ σ = f5_j2_t L n m0 b1 i2 i3 cs4 cs5 σ := by kernel_rfl
theorem f5_j2_e {n : Nat} {m0 : Nat} {b1 : Bool} {i2 i3 : Int} {cs4 cs5 : List AV} {σ : St} : Le (f5_j2_t (pt Try.prog 5 n) n m0 b1 i2 i3 cs4 cs5 σ) (f5_j2 (pt Try.prog 5 n) m0 b1 i2 i3 cs4 cs5 σ) :=
  goT_pt (f5_j2_g _ n m0 b1 i2 i3 cs4 cs5 σ)
noncomputable def f5_j3_t (_ : Leaf) (_ : Nat) (b1 : Bool) (σ : St) : Out :=
 some (.ret (.bool b1), σ)
theorem f5_j3_g (L : Leaf) (n : Nat) (b1 : Bool) (σ : St) : goT Try.prog 5 n L [] [1, 1, 1, 1, 1, 1] [] ⟨tm 94 [(4, .v (.bool false)), (5, .v (.bool b1))] 0, []⟩ σ = f5_j3_t L n b1 σ := by kernel_rfl
theorem f5_j3_e {n : Nat} {b1 : Bool} {σ : St} : Le (f5_j3_t (pt Try.prog 5 n) n b1 σ) (f5_j3 (pt Try.prog 5 n) b1 σ) :=
  goT_pt (f5_j3_g _ n b1 σ)
/-! ### binnacle/binnaclelaw14.TableWaits(t, pid, other) -/
noncomputable def f7_j1 (L : Leaf) (i1 : Int) (b2 : Bool) (i3 : Int) (cs4 cs5 : List AV) (σ : St) : Out :=
  L [1, 1, 1, 1] [] ⟨tm 141 [(2, .v (.int .i64 i1)), (3, .lp 3 0), (6, .v (.bool false)), (7, .v (.bool b2)), (8, .lp 8 0), (11, .v (.int .i64 i3))] 0, [(3, cs4), (8, cs5)]⟩ σ
noncomputable def f7_j2 (L : Leaf) (i1 : Int) (b2 : Bool) (i3 i4 : Int) (cs5 cs6 cs7 : List AV) (σ : St) : Out :=
  L [1, 1, 1, 1, 1, 1] [] ⟨tm 141 [(2, .v (.int .i64 i1)), (3, .lp 3 0), (6, .v (.bool false)), (7, .v (.bool b2)), (8, .lp 8 0), (11, .v (.int .i64 i3)), (12, .lp 12 0), (13, .v (.int .i64 i4))] 0, [(3, cs5), (8, cs6), (12, cs7)]⟩ σ
noncomputable def f7_t (L : Leaf) (n : Nat) (cs1 : List AV) (i2 i3 : Int) (σ : St) : Out :=
 onesK cs1 <|
 callT Try.prog n 8 [] σ fun v5 σ4 =>
 xBool v5 fun b6 =>
 partK Try.prog 27 cs1 0 fun x7 =>
 xAgg x7 fun cs8 =>
 callT Try.prog n 12 [.agg cs8, .int .i64 i2] σ4 fun v10 σ9 =>
 xTup v10 fun cs11 =>
 unC cs11 fun x12 r13 =>
 xAgg x12 fun cs14 =>
 unC r13 fun x15 r16 =>
 xInt .i64 x15 fun i17 =>
 unC r16 fun x18 r19 =>
 xInt .i64 x18 fun i20 =>
 unC r19 fun x21 r22 =>
 xInt .i64 x21 fun i23 =>
 nlC r22 <|
 wellK Try.prog 27 cs14 <|
 lstK [.int .i64 (0 : Int), .int .i64 (0 : Int), .int .i64 (0 : Int), .bool false, .int .i64 (0 : Int), .int .i64 (0 : Int), .int .i64 (0 : Int), .bool false, .int .i64 (0 : Int), .int .i64 (0 : Int), .int .i64 (0 : Int), .bool false, .int .i64 (0 : Int), .int .i64 (0 : Int), .int .i64 (0 : Int), .bool false, .int .i64 (0 : Int), .int .i64 (0 : Int), .int .i64 (0 : Int), .bool false, .int .i64 (0 : Int), .int .i64 (0 : Int), .int .i64 (0 : Int), .bool false, .int .i64 (0 : Int), .int .i64 (0 : Int), .int .i64 (0 : Int), .bool false, .int .i64 (0 : Int), .int .i64 (0 : Int), .int .i64 (0 : Int), .bool false] 0 cs14 fun cs24 =>
 cond (i23 == (0 : Int)) (cond (decide (i17 < (0 : Int))) (some (.ret (.bool false), σ9)) (cond (decide (i17 > (7 : Int))) (some (.ret (.bool false), σ9)) (cond (i17 == i2) (some (.ret (.bool false), σ9)) (idxK i17 8 <|
     partK Try.prog 3 cs1 ((0 + ((i17).toNat * 4)) + 0) fun x25 =>
     xInt .i64 x25 fun i26 =>
     cond (i26 != (2 : Int)) (some (.ret (.bool false), σ9)) (idxK i17 8 <|
      partK Try.prog 3 cs1 ((0 + ((i17).toNat * 4)) + 1) fun x27 =>
      xInt .i64 x27 fun i28 =>
      cond (i28 != i2) (some (.ret (.bool false), σ9)) (idxK i17 8 <|
       partK Try.prog 3 cs1 ((0 + ((i17).toNat * 4)) + 2) fun x29 =>
       xInt .i64 x29 fun i30 =>
       cond (i30 != i20) (some (.ret (.bool false), σ9)) (idxK i17 8 <|
        partK Try.prog 25 cs24 (0 + ((i17).toNat * 4)) fun x31 =>
        xAgg x31 fun cs32 =>
        unC cs32 fun x33 r34 =>
        xInt .i64 x33 fun i35 =>
        unC r34 fun x36 r37 =>
        xInt .i64 x36 fun i38 =>
        unC r37 fun x39 r40 =>
        xInt .i64 x39 fun i41 =>
        unC r40 fun x42 r43 =>
        xBool x42 fun b44 =>
        nlC r43 <|
        cond (!((i35 == (0 : Int)) && ((i38 == (0 : Int)) && ((i41 == (0 : Int)) && ((b44 == false) && true))))) (some (.ret (.bool false), σ9)) (f7_j1 L i3 b6 i23 cs1 cs24 σ9)))))))) (f7_j1 L i3 b6 i23 cs1 cs24 σ9)
theorem f7_g (L : Leaf) (n : Nat) (cs1 : List AV) (i2 i3 : Int) (σ : St) : goT Try.prog 7 n L [[1, 1, 1, 1]] [] [] ⟨tm 141 [(0, .v (.agg cs1)), (1, .v (.int .i64 i2)), (2, .v (.int .i64 i3))] 0, []⟩ σ = f7_t L n cs1 i2 i3 σ := by kernel_rfl
theorem f7_e {n : Nat} {cs1 : List AV} {i2 i3 : Int} {σ : St} : Le (f7_t (pt Try.prog 7 n) n cs1 i2 i3 σ) (callP Try.prog (n + 1) 7 [.agg cs1, .int .i64 i2, .int .i64 i3] σ) :=
  goT_call (f7_g _ n cs1 i2 i3 σ) (by kernel_rfl) (by kernel_rfl)
noncomputable def f7_j1_t (L : Leaf) (n : Nat) (i1 : Int) (b2 : Bool) (i3 : Int) (cs4 cs5 : List AV) (σ : St) : Out :=
 partK Try.prog 27 cs4 0 fun x6 =>
 xAgg x6 fun cs7 =>
 callT Try.prog n 18 [.agg cs7, .int .i64 i1] σ fun v9 σ8 =>
 xTup v9 fun cs10 =>
 unC cs10 fun x11 r12 =>
 xAgg x11 fun cs13 =>
 unC r12 fun x14 r15 =>
 xInt .i64 x14 fun i16 =>
 nlC r15 <|
 wellK Try.prog 27 cs13 <|
 lstK [.int .i64 (0 : Int), .int .i64 (0 : Int), .int .i64 (0 : Int), .bool false, .int .i64 (0 : Int), .int .i64 (0 : Int), .int .i64 (0 : Int), .bool false, .int .i64 (0 : Int), .int .i64 (0 : Int), .int .i64 (0 : Int), .bool false, .int .i64 (0 : Int), .int .i64 (0 : Int), .int .i64 (0 : Int), .bool false, .int .i64 (0 : Int), .int .i64 (0 : Int), .int .i64 (0 : Int), .bool false, .int .i64 (0 : Int), .int .i64 (0 : Int), .int .i64 (0 : Int), .bool false, .int .i64 (0 : Int), .int .i64 (0 : Int), .int .i64 (0 : Int), .bool false, .int .i64 (0 : Int), .int .i64 (0 : Int), .int .i64 (0 : Int), .bool false] 0 cs13 fun cs17 =>
 cond (i16 == (0 : Int)) (idxK i1 8 <|
  partK Try.prog 3 cs17 ((0 + ((i1).toNat * 4)) + 0) fun x18 =>
  xInt .i64 x18 fun i19 =>
  cond (i19 != (1 : Int)) (some (.ret (.bool false), σ8)) (idxK i1 8 <|
   partK Try.prog 4 cs17 ((0 + ((i1).toNat * 4)) + 3) fun x20 =>
   xBool x20 fun b21 =>
   cond (!b21) (some (.ret (.bool false), σ8)) (f7_j2 L i1 b2 i3 i16 cs4 cs5 cs17 σ8))) (f7_j2 L i1 b2 i3 i16 cs4 cs5 cs17 σ8)
theorem f7_j1_g (L : Leaf) (n : Nat) (i1 : Int) (b2 : Bool) (i3 : Int) (cs4 cs5 : List AV) (σ : St) : goT Try.prog 7 n L [[1, 1, 1, 1, 1, 1]] [1, 1, 1, 1] [] ⟨tm 141 [(2, .v (.int .i64 i1)), (3, .lp 3 0), (6, .v (.bool false)), (7, .v (.bool b2)), (8, .lp 8 0), (11, .v (.int .i64 i3))] 0, [(3, cs4), (8, cs5)]⟩ σ = f7_j1_t L n i1 b2 i3 cs4 cs5 σ := by kernel_rfl
theorem f7_j1_e {n : Nat} {i1 : Int} {b2 : Bool} {i3 : Int} {cs4 cs5 : List AV} {σ : St} : Le (f7_j1_t (pt Try.prog 7 n) n i1 b2 i3 cs4 cs5 σ) (f7_j1 (pt Try.prog 7 n) i1 b2 i3 cs4 cs5 σ) :=
  goT_pt (f7_j1_g _ n i1 b2 i3 cs4 cs5 σ)
noncomputable def f7_j2_t (_ : Leaf) (n : Nat) (i1 : Int) (b2 : Bool) (i3 i4 : Int) (cs5 cs6 cs7 : List AV) (σ : St) : Out :=
 partK Try.prog 27 cs7 0 fun x8 =>
 xAgg x8 fun cs9 =>
 callT Try.prog n 11 [.agg cs9, .int .i64 i1, .int .i64 (3 : Int)] σ fun v11 σ10 =>
 xTup v11 fun cs12 =>
 unC cs12 fun x13 r14 =>
 xAgg x13 fun cs15 =>
 unC r14 fun x16 r17 =>
 xInt .i64 x16 fun i18 =>
 nlC r17 <|
 wellK Try.prog 27 cs15 <|
 lstK [.int .i64 (0 : Int), .int .i64 (0 : Int), .int .i64 (0 : Int), .bool false, .int .i64 (0 : Int), .int .i64 (0 : Int), .int .i64 (0 : Int), .bool false, .int .i64 (0 : Int), .int .i64 (0 : Int), .int .i64 (0 : Int), .bool false, .int .i64 (0 : Int), .int .i64 (0 : Int), .int .i64 (0 : Int), .bool false, .int .i64 (0 : Int), .int .i64 (0 : Int), .int .i64 (0 : Int), .bool false, .int .i64 (0 : Int), .int .i64 (0 : Int), .int .i64 (0 : Int), .bool false, .int .i64 (0 : Int), .int .i64 (0 : Int), .int .i64 (0 : Int), .bool false, .int .i64 (0 : Int), .int .i64 (0 : Int), .int .i64 (0 : Int), .bool false] 0 cs15 fun cs19 =>
 cond (i4 != (0 : Int)) (cond b2 (partK Try.prog 27 cs7 0 fun x20 =>
   xAgg x20 fun cs21 =>
   partK Try.prog 27 cs5 0 fun x22 =>
   xAgg x22 fun cs23 =>
   eqK Try.prog 27 (.agg cs21) (.agg cs23) fun b24 =>
   some (.ret (.bool b24), σ10)) (some (.ret (.bool false), σ10))) (cond b2 (cond (i3 == (0 : Int)) (cond (i18 == (0 : Int)) (idxK i1 8 <|
     partK Try.prog 3 cs19 ((0 + ((i1).toNat * 4)) + 0) fun x25 =>
     xInt .i64 x25 fun i26 =>
     cond (i26 == (2 : Int)) (idxK i1 8 <|
      partK Try.prog 3 cs19 ((0 + ((i1).toNat * 4)) + 2) fun x27 =>
      xInt .i64 x27 fun i28 =>
      cond (i28 == (3 : Int)) (idxK i1 8 <|
       partK Try.prog 4 cs19 ((0 + ((i1).toNat * 4)) + 3) fun x29 =>
       xBool x29 fun b30 =>
       some (.ret (.bool (!b30)), σ10)) (some (.ret (.bool false), σ10))) (some (.ret (.bool false), σ10))) (some (.ret (.bool false), σ10))) (partK Try.prog 27 cs6 0 fun x31 =>
    xAgg x31 fun cs32 =>
    partK Try.prog 27 cs5 0 fun x33 =>
    xAgg x33 fun cs34 =>
    eqK Try.prog 27 (.agg cs32) (.agg cs34) fun b35 =>
    cond b35 (cond (i18 == (0 : Int)) (idxK i1 8 <|
      partK Try.prog 3 cs19 ((0 + ((i1).toNat * 4)) + 0) fun x36 =>
      xInt .i64 x36 fun i37 =>
      cond (i37 == (2 : Int)) (idxK i1 8 <|
       partK Try.prog 3 cs19 ((0 + ((i1).toNat * 4)) + 2) fun x38 =>
       xInt .i64 x38 fun i39 =>
       cond (i39 == (3 : Int)) (idxK i1 8 <|
        partK Try.prog 4 cs19 ((0 + ((i1).toNat * 4)) + 3) fun x40 =>
        xBool x40 fun b41 =>
        some (.ret (.bool (!b41)), σ10)) (some (.ret (.bool false), σ10))) (some (.ret (.bool false), σ10))) (some (.ret (.bool false), σ10))) (some (.ret (.bool false), σ10)))) (some (.ret (.bool false), σ10)))
theorem f7_j2_g (L : Leaf) (n : Nat) (i1 : Int) (b2 : Bool) (i3 i4 : Int) (cs5 cs6 cs7 : List AV) (σ : St) : goT Try.prog 7 n L [] [1, 1, 1, 1, 1, 1] [] ⟨tm 141 [(2, .v (.int .i64 i1)), (3, .lp 3 0), (6, .v (.bool false)), (7, .v (.bool b2)), (8, .lp 8 0), (11, .v (.int .i64 i3)), (12, .lp 12 0), (13, .v (.int .i64 i4))] 0, [(3, cs5), (8, cs6), (12, cs7)]⟩ σ = f7_j2_t L n i1 b2 i3 i4 cs5 cs6 cs7 σ := by kernel_rfl
theorem f7_j2_e {n : Nat} {i1 : Int} {b2 : Bool} {i3 i4 : Int} {cs5 cs6 cs7 : List AV} {σ : St} : Le (f7_j2_t (pt Try.prog 7 n) n i1 b2 i3 i4 cs5 cs6 cs7 σ) (f7_j2 (pt Try.prog 7 n) i1 b2 i3 i4 cs5 cs6 cs7 σ) :=
  goT_pt (f7_j2_g _ n i1 b2 i3 i4 cs5 cs6 cs7 σ)
end Go.Proofs

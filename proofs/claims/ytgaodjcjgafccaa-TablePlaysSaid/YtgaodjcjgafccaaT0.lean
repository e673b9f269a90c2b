/- The functions, as trees of named steps. -/
import Derived.Test.YtgaodjcjgafccaaAmT
import Derived.Test.YtgaodjcjgafccaaChecked
namespace Go.Proofs
open Go.AM
/-! ### binnacle/binnaclelaw14.shown() -/
noncomputable def f8_t (_ : Leaf) (n : Nat) (σ : St) : Out :=
 callT Try.prog n 9 [] σ fun v2 σ1 =>
 xAgg v2 fun cs3 =>
 wellK Try.prog 27 cs3 <|
 lstK [.int .i64 (0 : Int), .int .i64 (0 : Int), .int .i64 (0 : Int), .bool false, .int .i64 (0 : Int), .int .i64 (0 : Int), .int .i64 (0 : Int), .bool false, .int .i64 (0 : Int), .int .i64 (0 : Int), .int .i64 (0 : Int), .bool false, .int .i64 (0 : Int), .int .i64 (0 : Int), .int .i64 (0 : Int), .bool false, .int .i64 (0 : Int), .int .i64 (0 : Int), .int .i64 (0 : Int), .bool false, .int .i64 (0 : Int), .int .i64 (0 : Int), .int .i64 (0 : Int), .bool false, .int .i64 (0 : Int), .int .i64 (0 : Int), .int .i64 (0 : Int), .bool false, .int .i64 (0 : Int), .int .i64 (0 : Int), .int .i64 (0 : Int), .bool false] 0 cs3 fun cs4 =>
 partK Try.prog 27 cs4 0 fun x5 =>
 xAgg x5 fun cs6 =>
 callT Try.prog n 10 [.agg cs6, .int .i64 (0 : Int)] σ1 fun v8 σ7 =>
 xTup v8 fun cs9 =>
 unC cs9 fun x10 r11 =>
 xAgg x10 fun cs12 =>
 unC r11 fun x13 r14 =>
 xInt .i64 x13 fun i15 =>
 unC r14 fun x16 r17 =>
 xInt .i64 x16 fun i18 =>
 nlC r17 <|
 wellK Try.prog 27 cs12 <|
 lstK cs4 0 cs12 fun cs19 =>
 partK Try.prog 27 cs19 0 fun x20 =>
 xAgg x20 fun cs21 =>
 callT Try.prog n 10 [.agg cs21, .int .i64 (1 : Int)] σ7 fun v23 σ22 =>
 xTup v23 fun cs24 =>
 unC cs24 fun x25 r26 =>
 xAgg x25 fun cs27 =>
 unC r26 fun x28 r29 =>
 xInt .i64 x28 fun i30 =>
 unC r29 fun x31 r32 =>
 xInt .i64 x31 fun i33 =>
 nlC r32 <|
 wellK Try.prog 27 cs27 <|
 lstK cs19 0 cs27 fun cs34 =>
 partK Try.prog 27 cs34 0 fun x35 =>
 xAgg x35 fun cs36 =>
 callT Try.prog n 12 [.agg cs36, .int .i64 (0 : Int)] σ22 fun v38 σ37 =>
 xTup v38 fun cs39 =>
 unC cs39 fun x40 r41 =>
 xAgg x40 fun cs42 =>
 unC r41 fun x43 r44 =>
 xInt .i64 x43 fun _ =>
 unC r44 fun x46 r47 =>
 xInt .i64 x46 fun _ =>
 unC r47 fun x49 r50 =>
 xInt .i64 x49 fun i51 =>
 nlC r50 <|
 wellK Try.prog 27 cs42 <|
 lstK [.int .i64 (0 : Int), .int .i64 (0 : Int), .int .i64 (0 : Int), .bool false, .int .i64 (0 : Int), .int .i64 (0 : Int), .int .i64 (0 : Int), .bool false, .int .i64 (0 : Int), .int .i64 (0 : Int), .int .i64 (0 : Int), .bool false, .int .i64 (0 : Int), .int .i64 (0 : Int), .int .i64 (0 : Int), .bool false, .int .i64 (0 : Int), .int .i64 (0 : Int), .int .i64 (0 : Int), .bool false, .int .i64 (0 : Int), .int .i64 (0 : Int), .int .i64 (0 : Int), .bool false, .int .i64 (0 : Int), .int .i64 (0 : Int), .int .i64 (0 : Int), .bool false, .int .i64 (0 : Int), .int .i64 (0 : Int), .int .i64 (0 : Int), .bool false] 0 cs42 fun _ =>
 partK Try.prog 27 cs34 0 fun x53 =>
 xAgg x53 fun cs54 =>
 callT Try.prog n 11 [.agg cs54, .int .i64 (1 : Int), .int .i64 (5 : Int)] σ37 fun v56 σ55 =>
 xTup v56 fun cs57 =>
 unC cs57 fun x58 r59 =>
 xAgg x58 fun cs60 =>
 unC r59 fun x61 r62 =>
 xInt .i64 x61 fun i63 =>
 nlC r62 <|
 wellK Try.prog 27 cs60 <|
 lstK cs34 0 cs60 fun cs64 =>
 partK Try.prog 27 cs64 0 fun x65 =>
 xAgg x65 fun cs66 =>
 callT Try.prog n 12 [.agg cs66, .int .i64 (0 : Int)] σ55 fun v68 σ67 =>
 xTup v68 fun cs69 =>
 unC cs69 fun x70 r71 =>
 xAgg x70 fun cs72 =>
 unC r71 fun x73 r74 =>
 xInt .i64 x73 fun i75 =>
 unC r74 fun x76 r77 =>
 xInt .i64 x76 fun i78 =>
 unC r77 fun x79 r80 =>
 xInt .i64 x79 fun i81 =>
 nlC r80 <|
 wellK Try.prog 27 cs72 <|
 lstK cs64 0 cs72 fun cs82 =>
 partK Try.prog 27 cs82 0 fun x83 =>
 xAgg x83 fun cs84 =>
 callT Try.prog n 13 [.agg cs84, .int .i64 (0 : Int), .agg [.bool false, .bool false, .bool false, .bool false, .bool false, .bool false, .bool false, .bool false]] σ67 fun v86 σ85 =>
 xInt .i64 v86 fun i87 =>
 cond (i15 == (1 : Int)) (cond (i18 == (0 : Int)) (cond (i30 == (2 : Int)) (cond (i33 == (0 : Int)) (cond (i51 == (12 : Int)) (cond (i63 == (0 : Int)) (partK Try.prog 3 cs82 9 fun x88 =>
       xInt .i64 x88 fun i89 =>
       cond (i89 == (0 : Int)) (cond (i75 == (1 : Int)) (cond (i78 == (5 : Int)) (cond (i81 == (0 : Int)) (some (.ret (.bool (i87 == (2 : Int))), σ85)) (some (.ret (.bool false), σ85))) (some (.ret (.bool false), σ85))) (some (.ret (.bool false), σ85))) (some (.ret (.bool false), σ85))) (some (.ret (.bool false), σ85))) (some (.ret (.bool false), σ85))) (some (.ret (.bool false), σ85))) (some (.ret (.bool false), σ85))) (some (.ret (.bool false), σ85))) (some (.ret (.bool false), σ85))
theorem f8_g (L : Leaf) (n : Nat)  (σ : St) : goT Try.prog 8 n L [] [] [] ⟨tm 94 [] 0, []⟩ σ = f8_t L n  σ := by kernel_rfl
theorem f8_e {n : Nat}  {σ : St} : Le (f8_t (pt Try.prog 8 n) n  σ) (callP Try.prog (n + 1) 8 [] σ) :=
  goT_call (f8_g _ n  σ) (by kernel_rfl) (by kernel_rfl)
/-! ### binnacle/table.First() -/
noncomputable def f9_t (_ : Leaf) (_ : Nat) (σ : St) : Out :=
 some (.ret (.agg [.int .i64 (1 : Int), .int .i64 (0 : Int), .int .i64 (0 : Int), .bool false, .int .i64 (0 : Int), .int .i64 (0 : Int), .int .i64 (0 : Int), .bool false, .int .i64 (0 : Int), .int .i64 (0 : Int), .int .i64 (0 : Int), .bool false, .int .i64 (0 : Int), .int .i64 (0 : Int), .int .i64 (0 : Int), .bool false, .int .i64 (0 : Int), .int .i64 (0 : Int), .int .i64 (0 : Int), .bool false, .int .i64 (0 : Int), .int .i64 (0 : Int), .int .i64 (0 : Int), .bool false, .int .i64 (0 : Int), .int .i64 (0 : Int), .int .i64 (0 : Int), .bool false, .int .i64 (0 : Int), .int .i64 (0 : Int), .int .i64 (0 : Int), .bool false]), σ)
theorem f9_g (L : Leaf) (n : Nat)  (σ : St) : goT Try.prog 9 n L [] [] [] ⟨tm 5 [] 0, []⟩ σ = f9_t L n  σ := by kernel_rfl
theorem f9_e {n : Nat}  {σ : St} : Le (f9_t (pt Try.prog 9 n) n  σ) (callP Try.prog (n + 1) 9 [] σ) :=
  goT_call (f9_g _ n  σ) (by kernel_rfl) (by kernel_rfl)
/-! ### binnacle/table.Fork(t, pid) -/
noncomputable def f10_l1 (L : Leaf) (m0 : Nat) (i1 i2 i3 i4 : Int) (cs5 cs6 : List AV) (σ : St) : Out :=
  L [1, 1, 0, 1, 0] [m0] ⟨tm 32 [(1, .v (.int .i64 i1)), (2, .lp 2 0), (4, .lp 4 0), (5, .v (.int .i64 i2)), (6, .v (.int .i64 i3)), (13, .v (.int .i64 i4))] 0, [(2, cs5), (4, cs6)]⟩ σ
noncomputable def f10_j2 (L : Leaf) (i1 i2 : Int) (cs3 cs4 : List AV) (σ : St) : Out :=
  L [1, 1, 1] [] ⟨tm 32 [(2, .lp 2 0), (4, .lp 4 0), (5, .v (.int .i64 i1)), (6, .v (.int .i64 i2))] 0, [(2, cs3), (4, cs4)]⟩ σ
noncomputable def f10_t (L : Leaf) (n : Nat) (cs1 : List AV) (i2 : Int) (σ : St) : Out :=
 onesK cs1 <|
 partK Try.prog 27 cs1 0 fun x3 =>
 xAgg x3 fun cs4 =>
 callT Try.prog n 21 [.agg cs4, .int .i64 i2] σ fun v6 σ5 =>
 xBool v6 fun b7 =>
 cond (!b7) (partK Try.prog 27 cs1 0 fun x8 =>
  xAgg x8 fun cs9 =>
  wellK Try.prog 27 cs9 <|
  lstK [.int .i64 (0 : Int), .int .i64 (0 : Int), .int .i64 (0 : Int), .bool false, .int .i64 (0 : Int), .int .i64 (0 : Int), .int .i64 (0 : Int), .bool false, .int .i64 (0 : Int), .int .i64 (0 : Int), .int .i64 (0 : Int), .bool false, .int .i64 (0 : Int), .int .i64 (0 : Int), .int .i64 (0 : Int), .bool false, .int .i64 (0 : Int), .int .i64 (0 : Int), .int .i64 (0 : Int), .bool false, .int .i64 (0 : Int), .int .i64 (0 : Int), .int .i64 (0 : Int), .bool false, .int .i64 (0 : Int), .int .i64 (0 : Int), .int .i64 (0 : Int), .bool false, .int .i64 (0 : Int), .int .i64 (0 : Int), .int .i64 (0 : Int), .bool false] 0 cs9 fun cs10 =>
  partK Try.prog 27 cs10 0 fun x11 =>
  some (.ret (.tuple [x11, .int .i64 (0 : Int), .int .i64 (5 : Int)]), σ5)) (f10_l1 L n i2 (0 : Int) (0 : Int) (0 : Int) cs1 [.int .i64 (0 : Int), .int .i64 (0 : Int), .int .i64 (0 : Int), .bool false, .int .i64 (0 : Int), .int .i64 (0 : Int), .int .i64 (0 : Int), .bool false, .int .i64 (0 : Int), .int .i64 (0 : Int), .int .i64 (0 : Int), .bool false, .int .i64 (0 : Int), .int .i64 (0 : Int), .int .i64 (0 : Int), .bool false, .int .i64 (0 : Int), .int .i64 (0 : Int), .int .i64 (0 : Int), .bool false, .int .i64 (0 : Int), .int .i64 (0 : Int), .int .i64 (0 : Int), .bool false, .int .i64 (0 : Int), .int .i64 (0 : Int), .int .i64 (0 : Int), .bool false, .int .i64 (0 : Int), .int .i64 (0 : Int), .int .i64 (0 : Int), .bool false] σ5)
theorem f10_g (L : Leaf) (n : Nat) (cs1 : List AV) (i2 : Int) (σ : St) : goT Try.prog 10 n L [] [] [] ⟨tm 32 [(0, .v (.agg cs1)), (1, .v (.int .i64 i2))] 0, []⟩ σ = f10_t L n cs1 i2 σ := by kernel_rfl
theorem f10_e {n : Nat} {cs1 : List AV} {i2 : Int} {σ : St} : Le (f10_t (pt Try.prog 10 n) n cs1 i2 σ) (callP Try.prog (n + 1) 10 [.agg cs1, .int .i64 i2] σ) :=
  goT_call (f10_g _ n cs1 i2 σ) (by kernel_rfl) (by kernel_rfl)
noncomputable def f10_l1_t (L : Leaf) (n m0 : Nat) (i1 i2 i3 i4 : Int) (cs5 cs6 : List AV) (σ : St) : Out :=
 cond (decide (i4 < (8 : Int))) (cond (decide (i4 > (0 : Int))) (idxK i4 8 <|
   partK Try.prog 25 cs5 (0 + ((i4).toNat * 4)) fun x7 =>
   xAgg x7 fun cs8 =>
   unC cs8 fun x9 r10 =>
   xInt .i64 x9 fun i11 =>
   unC r10 fun x12 r13 =>
   xInt .i64 x12 fun i14 =>
   unC r13 fun x15 r16 =>
   xInt .i64 x15 fun i17 =>
   unC r16 fun x18 r19 =>
   xBool x18 fun b20 =>
   nlC r19 <|
   callT Try.prog n 22 [.agg [.int .i64 i11, .int .i64 i14, .int .i64 i17, .bool b20]] σ fun v22 σ21 =>
   xBool v22 fun b23 =>
   cond b23 (idxK i4 8 <|
    lstK cs5 (0 + ((i4).toNat * 4)) [.int .i64 (1 : Int), .int .i64 i1, .int .i64 (0 : Int), .bool false] fun cs24 =>
    partK Try.prog 27 cs24 0 fun x25 =>
    xAgg x25 fun cs26 =>
    wellK Try.prog 27 cs26 <|
    lstK cs6 0 cs26 fun cs27 =>
    partK Try.prog 27 cs27 0 fun x28 =>
    some (.ret (.tuple [x28, .int .i64 i4, .int .i64 (0 : Int)]), σ21)) (f10_l1 L m0 i1 i2 i3 (IntKind.wrap .i64 (i4 + (1 : Int))) cs5 cs6 σ21)) (f10_l1 L m0 i1 i2 i3 (IntKind.wrap .i64 (i4 + (1 : Int))) cs5 cs6 σ)) (f10_j2 L i2 i3 cs5 cs6 σ)
theorem f10_l1_g (L : Leaf) (n : Nat) (m0 : Nat) (i1 i2 i3 i4 : Int) (cs5 cs6 : List AV) (σ : St) : goT Try.prog 10 n L [[1, 1, 1]] [1, 1, 0, 1, 0] [m0 + 1] ⟨tm 32 [(1, .v (.int .i64 i1)), (2, .lp 2 0), (4, .lp 4 0), (5, .v (.int .i64 i2)), (6, .v (.int .i64 i3)), (13, .v (.int .i64 i4))] 0, [(2, cs5), (4, cs6)]⟩ σ = f10_l1_t L n m0 i1 i2 i3 i4 cs5 cs6 σ := by kernel_rfl
theorem f10_l1_e {n : Nat} {m0 : Nat} {i1 i2 i3 i4 : Int} {cs5 cs6 : List AV} {σ : St} : Le (f10_l1_t (pt Try.prog 10 n) n m0 i1 i2 i3 i4 cs5 cs6 σ) (f10_l1 (pt Try.prog 10 n) (m0 + 1) i1 i2 i3 i4 cs5 cs6 σ) :=
  goT_pt (f10_l1_g _ n m0 i1 i2 i3 i4 cs5 cs6 σ)
noncomputable def f10_j2_t (_ : Leaf) (_ : Nat) (_ _ : Int) (cs3 cs4 : List AV) (σ : St) : Out :=
 partK Try.prog 27 cs3 0 fun x5 =>
 xAgg x5 fun cs6 =>
 wellK Try.prog 27 cs6 <|
 lstK cs4 0 cs6 fun cs7 =>
 partK Try.prog 27 cs7 0 fun x8 =>
 some (.ret (.tuple [x8, .int .i64 (0 : Int), .int .i64 (4 : Int)]), σ)
theorem f10_j2_g (L : Leaf) (n : Nat) (i1 i2 : Int) (cs3 cs4 : List AV) (σ : St) : goT Try.prog 10 n L [] [1, 1, 1] [] ⟨tm 32 [(2, .lp 2 0), (4, .lp 4 0), (5, .v (.int .i64 i1)), (6, .v (.int .i64 i2))] 0, [(2, cs3), (4, cs4)]⟩ σ = f10_j2_t L n i1 i2 cs3 cs4 σ := by kernel_rfl
theorem f10_j2_e {n : Nat} {i1 i2 : Int} {cs3 cs4 : List AV} {σ : St} : Le (f10_j2_t (pt Try.prog 10 n) n i1 i2 cs3 cs4 σ) (f10_j2 (pt Try.prog 10 n) i1 i2 cs3 cs4 σ) :=
  goT_pt (f10_j2_g _ n i1 i2 cs3 cs4 σ)
/-! ### binnacle/table.Exit(t, pid, status) -/
noncomputable def f11_l1 (L : Leaf) (m0 : Nat) (i1 i2 i3 : Int) (cs4 cs5 : List AV) (σ : St) : Out :=
  L [1, 1, 1, 0, 1, 0] [m0] ⟨tm 36 [(1, .v (.int .i64 i1)), (3, .lp 3 0), (6, .lp 6 0), (7, .v (.int .i64 i2)), (24, .v (.int .i64 i3))] 0, [(3, cs4), (6, cs5)]⟩ σ
noncomputable def f11_j2 (L : Leaf) (i1 : Int) (cs2 cs3 : List AV) (σ : St) : Out :=
  L [1, 1, 1, 1] [] ⟨tm 36 [(3, .lp 3 0), (6, .lp 6 0), (7, .v (.int .i64 i1))] 0, [(3, cs2), (6, cs3)]⟩ σ
noncomputable def f11_t (L : Leaf) (n : Nat) (cs1 : List AV) (i2 i3 : Int) (σ : St) : Out :=
 onesK cs1 <|
 partK Try.prog 27 cs1 0 fun x4 =>
 xAgg x4 fun cs5 =>
 callT Try.prog n 21 [.agg cs5, .int .i64 i2] σ fun v7 σ6 =>
 xBool v7 fun b8 =>
 cond (!b8) (partK Try.prog 27 cs1 0 fun x9 =>
  xAgg x9 fun cs10 =>
  wellK Try.prog 27 cs10 <|
  lstK [.int .i64 (0 : Int), .int .i64 (0 : Int), .int .i64 (0 : Int), .bool false, .int .i64 (0 : Int), .int .i64 (0 : Int), .int .i64 (0 : Int), .bool false, .int .i64 (0 : Int), .int .i64 (0 : Int), .int .i64 (0 : Int), .bool false, .int .i64 (0 : Int), .int .i64 (0 : Int), .int .i64 (0 : Int), .bool false, .int .i64 (0 : Int), .int .i64 (0 : Int), .int .i64 (0 : Int), .bool false, .int .i64 (0 : Int), .int .i64 (0 : Int), .int .i64 (0 : Int), .bool false, .int .i64 (0 : Int), .int .i64 (0 : Int), .int .i64 (0 : Int), .bool false, .int .i64 (0 : Int), .int .i64 (0 : Int), .int .i64 (0 : Int), .bool false] 0 cs10 fun cs11 =>
  partK Try.prog 27 cs11 0 fun x12 =>
  some (.ret (.tuple [x12, .int .i64 (5 : Int)]), σ6)) (idxK i2 8 <|
  lstK cs1 ((0 + ((i2).toNat * 4)) + 0) [.int .i64 (2 : Int)] fun cs13 =>
  idxK i2 8 <|
  lstK cs13 ((0 + ((i2).toNat * 4)) + 2) [.int .i64 i3] fun cs14 =>
  idxK i2 8 <|
  lstK cs14 ((0 + ((i2).toNat * 4)) + 3) [.bool false] fun cs15 =>
  f11_l1 L n i2 (0 : Int) (0 : Int) cs15 [.int .i64 (0 : Int), .int .i64 (0 : Int), .int .i64 (0 : Int), .bool false, .int .i64 (0 : Int), .int .i64 (0 : Int), .int .i64 (0 : Int), .bool false, .int .i64 (0 : Int), .int .i64 (0 : Int), .int .i64 (0 : Int), .bool false, .int .i64 (0 : Int), .int .i64 (0 : Int), .int .i64 (0 : Int), .bool false, .int .i64 (0 : Int), .int .i64 (0 : Int), .int .i64 (0 : Int), .bool false, .int .i64 (0 : Int), .int .i64 (0 : Int), .int .i64 (0 : Int), .bool false, .int .i64 (0 : Int), .int .i64 (0 : Int), .int .i64 (0 : Int), .bool false, .int .i64 (0 : Int), .int .i64 (0 : Int), .int .i64 (0 : Int), .bool false] σ6)
theorem f11_g (L : Leaf) (n : Nat) (cs1 : List AV) (i2 i3 : Int) (σ : St) : goT Try.prog 11 n L [] [] [] ⟨tm 36 [(0, .v (.agg cs1)), (1, .v (.int .i64 i2)), (2, .v (.int .i64 i3))] 0, []⟩ σ = f11_t L n cs1 i2 i3 σ := by kernel_rfl
theorem f11_e {n : Nat} {cs1 : List AV} {i2 i3 : Int} {σ : St} : Le (f11_t (pt Try.prog 11 n) n cs1 i2 i3 σ) (callP Try.prog (n + 1) 11 [.agg cs1, .int .i64 i2, .int .i64 i3] σ) :=
  goT_call (f11_g _ n cs1 i2 i3 σ) (by kernel_rfl) (by kernel_rfl)
noncomputable def f11_l1_t (L : Leaf) (n m0 : Nat) (i1 i2 i3 : Int) (cs4 cs5 : List AV) (σ : St) : Out :=
 cond (decide (i3 < (8 : Int))) (partK Try.prog 27 cs4 0 fun x6 =>
  xAgg x6 fun cs7 =>
  callT Try.prog n 23 [.agg cs7, .int .i64 i3, .int .i64 i1] σ fun v9 σ8 =>
  xBool v9 fun b10 =>
  cond b10 (idxK i3 8 <|
   lstK cs4 ((0 + ((i3).toNat * 4)) + 1) [.int .i64 (0 : Int)] fun cs11 =>
   f11_l1 L m0 i1 i2 (IntKind.wrap .i64 (i3 + (1 : Int))) cs11 cs5 σ8) (f11_l1 L m0 i1 i2 (IntKind.wrap .i64 (i3 + (1 : Int))) cs4 cs5 σ8)) (f11_j2 L i2 cs4 cs5 σ)
theorem f11_l1_g (L : Leaf) (n : Nat) (m0 : Nat) (i1 i2 i3 : Int) (cs4 cs5 : List AV) (σ : St) : goT Try.prog 11 n L [[1, 1, 1, 1]] [1, 1, 1, 0, 1, 0] [m0 + 1] ⟨tm 36 [(1, .v (.int .i64 i1)), (3, .lp 3 0), (6, .lp 6 0), (7, .v (.int .i64 i2)), (24, .v (.int .i64 i3))] 0, [(3, cs4), (6, cs5)]⟩ σ = f11_l1_t L n m0 i1 i2 i3 cs4 cs5 σ := by kernel_rfl
theorem f11_l1_e {n : Nat} {m0 : Nat} {i1 i2 i3 : Int} {cs4 cs5 : List AV} {σ : St} : Le (f11_l1_t (pt Try.prog 11 n) n m0 i1 i2 i3 cs4 cs5 σ) (f11_l1 (pt Try.prog 11 n) (m0 + 1) i1 i2 i3 cs4 cs5 σ) :=
  goT_pt (f11_l1_g _ n m0 i1 i2 i3 cs4 cs5 σ)
noncomputable def f11_j2_t (_ : Leaf) (_ : Nat) (_ : Int) (cs2 cs3 : List AV) (σ : St) : Out :=
 partK Try.prog 27 cs2 0 fun x4 =>
 xAgg x4 fun cs5 =>
 wellK Try.prog 27 cs5 <|
 lstK cs3 0 cs5 fun cs6 =>
 partK Try.prog 27 cs6 0 fun x7 =>
 some (.ret (.tuple [x7, .int .i64 (0 : Int)]), σ)
theorem f11_j2_g (L : Leaf) (n : Nat) (i1 : Int) (cs2 cs3 : List AV) (σ : St) : goT Try.prog 11 n L [] [1, 1, 1, 1] [] ⟨tm 36 [(3, .lp 3 0), (6, .lp 6 0), (7, .v (.int .i64 i1))] 0, [(3, cs2), (6, cs3)]⟩ σ = f11_j2_t L n i1 cs2 cs3 σ := by kernel_rfl
theorem f11_j2_e {n : Nat} {i1 : Int} {cs2 cs3 : List AV} {σ : St} : Le (f11_j2_t (pt Try.prog 11 n) n i1 cs2 cs3 σ) (f11_j2 (pt Try.prog 11 n) i1 cs2 cs3 σ) :=
  goT_pt (f11_j2_g _ n i1 cs2 cs3 σ)
/-! ### binnacle/table.Wait(t, pid) -/
noncomputable def f12_l1 (L : Leaf) (m0 : Nat) (i1 i2 i3 i4 i5 i6 : Int) (cs7 cs8 : List AV) (σ : St) : Out :=
  L [1, 1, 1, 0, 1, 0] [m0] ⟨tm 42 [(1, .v (.int .i64 i1)), (2, .lp 2 0), (4, .lp 4 0), (5, .v (.int .i64 i2)), (6, .v (.int .i64 i3)), (7, .v (.int .i64 i4)), (8, .v (.int .i64 i5)), (16, .v (.int .i64 i6))] 0, [(2, cs7), (4, cs8)]⟩ σ
noncomputable def f12_j2 (L : Leaf) (i1 i2 i3 i4 : Int) (cs5 cs6 : List AV) (σ : St) : Out :=
  L [1, 1, 1, 1] [] ⟨tm 42 [(2, .lp 2 0), (4, .lp 4 0), (5, .v (.int .i64 i1)), (6, .v (.int .i64 i2)), (7, .v (.int .i64 i3)), (8, .v (.int .i64 i4))] 0, [(2, cs5), (4, cs6)]⟩ σ
noncomputable def f12_t (L : Leaf) (n : Nat) (cs1 : List AV) (i2 : Int) (σ : St) : Out :=
 onesK cs1 <|
 partK Try.prog 27 cs1 0 fun x3 =>
 xAgg x3 fun cs4 =>
 callT Try.prog n 21 [.agg cs4, .int .i64 i2] σ fun v6 σ5 =>
 xBool v6 fun b7 =>
 cond (!b7) (partK Try.prog 27 cs1 0 fun x8 =>
  xAgg x8 fun cs9 =>
  wellK Try.prog 27 cs9 <|
  lstK [.int .i64 (0 : Int), .int .i64 (0 : Int), .int .i64 (0 : Int), .bool false, .int .i64 (0 : Int), .int .i64 (0 : Int), .int .i64 (0 : Int), .bool false, .int .i64 (0 : Int), .int .i64 (0 : Int), .int .i64 (0 : Int), .bool false, .int .i64 (0 : Int), .int .i64 (0 : Int), .int .i64 (0 : Int), .bool false, .int .i64 (0 : Int), .int .i64 (0 : Int), .int .i64 (0 : Int), .bool false, .int .i64 (0 : Int), .int .i64 (0 : Int), .int .i64 (0 : Int), .bool false, .int .i64 (0 : Int), .int .i64 (0 : Int), .int .i64 (0 : Int), .bool false, .int .i64 (0 : Int), .int .i64 (0 : Int), .int .i64 (0 : Int), .bool false] 0 cs9 fun cs10 =>
  partK Try.prog 27 cs10 0 fun x11 =>
  some (.ret (.tuple [x11, .int .i64 (0 : Int), .int .i64 (0 : Int), .int .i64 (5 : Int)]), σ5)) (f12_l1 L n i2 (0 : Int) (0 : Int) (0 : Int) (19 : Int) (0 : Int) cs1 [.int .i64 (0 : Int), .int .i64 (0 : Int), .int .i64 (0 : Int), .bool false, .int .i64 (0 : Int), .int .i64 (0 : Int), .int .i64 (0 : Int), .bool false, .int .i64 (0 : Int), .int .i64 (0 : Int), .int .i64 (0 : Int), .bool false, .int .i64 (0 : Int), .int .i64 (0 : Int), .int .i64 (0 : Int), .bool false, .int .i64 (0 : Int), .int .i64 (0 : Int), .int .i64 (0 : Int), .bool false, .int .i64 (0 : Int), .int .i64 (0 : Int), .int .i64 (0 : Int), .bool false, .int .i64 (0 : Int), .int .i64 (0 : Int), .int .i64 (0 : Int), .bool false, .int .i64 (0 : Int), .int .i64 (0 : Int), .int .i64 (0 : Int), .bool false] σ5)
theorem f12_g (L : Leaf) (n : Nat) (cs1 : List AV) (i2 : Int) (σ : St) : goT Try.prog 12 n L [] [] [] ⟨tm 42 [(0, .v (.agg cs1)), (1, .v (.int .i64 i2))] 0, []⟩ σ = f12_t L n cs1 i2 σ := by kernel_rfl
theorem f12_e {n : Nat} {cs1 : List AV} {i2 : Int} {σ : St} : Le (f12_t (pt Try.prog 12 n) n cs1 i2 σ) (callP Try.prog (n + 1) 12 [.agg cs1, .int .i64 i2] σ) :=
  goT_call (f12_g _ n cs1 i2 σ) (by kernel_rfl) (by kernel_rfl)
noncomputable def f12_l1_t (L : Leaf) (n m0 : Nat) (i1 i2 i3 i4 i5 i6 : Int) (cs7 cs8 : List AV) (σ : St) : Out :=
 cond (decide (i6 < (8 : Int))) (partK Try.prog 27 cs7 0 fun x9 =>
  xAgg x9 fun cs10 =>
  callT Try.prog n 23 [.agg cs10, .int .i64 i6, .int .i64 i1] σ fun v12 σ11 =>
  xBool v12 fun b13 =>
  cond (!b13) (f12_l1 L m0 i1 i2 i3 i4 i5 (IntKind.wrap .i64 (i6 + (1 : Int))) cs7 cs8 σ11) (idxK i6 8 <|
   partK Try.prog 3 cs7 ((0 + ((i6).toNat * 4)) + 0) fun x14 =>
   xInt .i64 x14 fun i15 =>
   cond (i15 == (2 : Int)) (idxK i6 8 <|
    partK Try.prog 3 cs7 ((0 + ((i6).toNat * 4)) + 2) fun x16 =>
    xInt .i64 x16 fun i17 =>
    idxK i6 8 <|
    lstK cs7 (0 + ((i6).toNat * 4)) [.int .i64 (0 : Int), .int .i64 (0 : Int), .int .i64 (0 : Int), .bool false] fun cs18 =>
    partK Try.prog 27 cs18 0 fun x19 =>
    xAgg x19 fun cs20 =>
    wellK Try.prog 27 cs20 <|
    lstK cs8 0 cs20 fun cs21 =>
    partK Try.prog 27 cs21 0 fun x22 =>
    some (.ret (.tuple [x22, .int .i64 i6, .int .i64 i17, .int .i64 (0 : Int)]), σ11)) (f12_l1 L m0 i1 i2 i3 i4 (12 : Int) (IntKind.wrap .i64 (i6 + (1 : Int))) cs7 cs8 σ11))) (f12_j2 L i2 i3 i4 i5 cs7 cs8 σ)
theorem f12_l1_g (L : Leaf) (n : Nat) (m0 : Nat) (i1 i2 i3 i4 i5 i6 : Int) (cs7 cs8 : List AV) (σ : St) : goT Try.prog 12 n L [[1, 1, 1, 1]] [1, 1, 1, 0, 1, 0] [m0 + 1] ⟨tm 42 [(1, .v (.int .i64 i1)), (2, .lp 2 0), (4, .lp 4 0), (5, .v (.int .i64 i2)), (6, .v (.int .i64 i3)), (7, .v (.int .i64 i4)), (8, .v (.int .i64 i5)), (16, .v (.int .i64 i6))] 0, [(2, cs7), (4, cs8)]⟩ σ = f12_l1_t L n m0 i1 i2 i3 i4 i5 i6 cs7 cs8 σ := by kernel_rfl
theorem f12_l1_e {n : Nat} {m0 : Nat} {i1 i2 i3 i4 i5 i6 : Int} {cs7 cs8 : List AV} {σ : St} : Le (f12_l1_t (pt Try.prog 12 n) n m0 i1 i2 i3 i4 i5 i6 cs7 cs8 σ) (f12_l1 (pt Try.prog 12 n) (m0 + 1) i1 i2 i3 i4 i5 i6 cs7 cs8 σ) :=
  goT_pt (f12_l1_g _ n m0 i1 i2 i3 i4 i5 i6 cs7 cs8 σ)
noncomputable def f12_j2_t (_ : Leaf) (_ : Nat) (_ _ _ i4 : Int) (cs5 cs6 : List AV) (σ : St) : Out :=
 partK Try.prog 27 cs5 0 fun x7 =>
 xAgg x7 fun cs8 =>
 wellK Try.prog 27 cs8 <|
 lstK cs6 0 cs8 fun cs9 =>
 partK Try.prog 27 cs9 0 fun x10 =>
 some (.ret (.tuple [x10, .int .i64 (0 : Int), .int .i64 (0 : Int), .int .i64 i4]), σ)
theorem f12_j2_g (L : Leaf) (n : Nat) (i1 i2 i3 i4 : Int) (cs5 cs6 : List AV) (σ : St) : goT Try.prog 12 n L [] [1, 1, 1, 1] [] ⟨tm 42 [(2, .lp 2 0), (4, .lp 4 0), (5, .v (.int .i64 i1)), (6, .v (.int .i64 i2)), (7, .v (.int .i64 i3)), (8, .v (.int .i64 i4))] 0, [(2, cs5), (4, cs6)]⟩ σ = f12_j2_t L n i1 i2 i3 i4 cs5 cs6 σ := by kernel_rfl
theorem f12_j2_e {n : Nat} {i1 i2 i3 i4 : Int} {cs5 cs6 : List AV} {σ : St} : Le (f12_j2_t (pt Try.prog 12 n) n i1 i2 i3 i4 cs5 cs6 σ) (f12_j2 (pt Try.prog 12 n) i1 i2 i3 i4 cs5 cs6 σ) :=
  goT_pt (f12_j2_g _ n i1 i2 i3 i4 cs5 cs6 σ)
/-! ### binnacle/table.Next(t, after, busy) -/
noncomputable def f13_l1 (L : Leaf) (m0 : Nat) (i1 i2 i3 : Int) (cs4 cs5 : List AV) (σ : St) : Out :=
  L [1, 1, 0, 1, 0] [m0] ⟨tm 32 [(1, .v (.int .i64 i1)), (3, .lp 3 0), (5, .lp 5 0), (6, .v (.int .i64 i2)), (13, .v (.int .i64 i3))] 0, [(3, cs4), (5, cs5)]⟩ σ
noncomputable def f13_j2 (L : Leaf) (i1 : Int) (σ : St) : Out :=
  L [1, 1, 1] [] ⟨tm 32 [(6, .v (.int .i64 i1))] 0, []⟩ σ
noncomputable def f13_t (L : Leaf) (n : Nat) (cs1 : List AV) (i2 : Int) (cs3 : List AV) (σ : St) : Out :=
 onesK cs1 <|
 onesK cs3 <|
 f13_l1 L n (Int.tmod (IntKind.wrap .i64 ((Int.tmod i2 (8 : Int)) + (8 : Int))) (8 : Int)) (0 : Int) (0 : Int) cs1 cs3 σ
theorem f13_g (L : Leaf) (n : Nat) (cs1 : List AV) (i2 : Int) (cs3 : List AV) (σ : St) : goT Try.prog 13 n L [] [] [] ⟨tm 32 [(0, .v (.agg cs1)), (1, .v (.int .i64 i2)), (2, .v (.agg cs3))] 0, []⟩ σ = f13_t L n cs1 i2 cs3 σ := by kernel_rfl
theorem f13_e {n : Nat} {cs1 : List AV} {i2 : Int} {cs3 : List AV} {σ : St} : Le (f13_t (pt Try.prog 13 n) n cs1 i2 cs3 σ) (callP Try.prog (n + 1) 13 [.agg cs1, .int .i64 i2, .agg cs3] σ) :=
  goT_call (f13_g _ n cs1 i2 cs3 σ) (by kernel_rfl) (by kernel_rfl)
noncomputable def f13_l1_t (L : Leaf) (n m0 : Nat) (i1 i2 i3 : Int) (cs4 cs5 : List AV) (σ : St) : Out :=
 cond (decide (i3 < (8 : Int))) (partK Try.prog 27 cs4 0 fun x6 =>
  xAgg x6 fun cs7 =>
  callT Try.prog n 21 [.agg cs7, .int .i64 (Int.tmod (IntKind.wrap .i64 ((IntKind.wrap .i64 (i1 + (1 : Int))) + i3)) (8 : Int))] σ fun v9 σ8 =>
  xBool v9 fun b10 =>
  cond b10 (idxK (Int.tmod (IntKind.wrap .i64 ((IntKind.wrap .i64 (i1 + (1 : Int))) + i3)) (8 : Int)) 8 <|
   partK Try.prog 4 cs5 (0 + (((Int.tmod (IntKind.wrap .i64 ((IntKind.wrap .i64 (i1 + (1 : Int))) + i3)) (8 : Int))).toNat * 1)) fun x11 =>
   xBool x11 fun b12 =>
   cond (!b12) (some (.ret (.int .i64 (Int.tmod (IntKind.wrap .i64 ((IntKind.wrap .i64 (i1 + (1 : Int))) + i3)) (8 : Int))), σ8)) (f13_l1 L m0 i1 i2 (IntKind.wrap .i64 (i3 + (1 : Int))) cs4 cs5 σ8)) (f13_l1 L m0 i1 i2 (IntKind.wrap .i64 (i3 + (1 : Int))) cs4 cs5 σ8)) (f13_j2 L i2 σ)
theorem f13_l1_g (L : Leaf) (n : Nat) (m0 : Nat) (i1 i2 i3 : Int) (cs4 cs5 : List AV) (σ : St) : goT Try.prog 13 n L [[1, 1, 1]] [1, 1, 0, 1, 0] [m0 + 1] ⟨tm 32 [(1, .v (.int .i64 i1)), (3, .lp 3 0), (5, .lp 5 0), (6, .v (.int .i64 i2)), (13, .v (.int .i64 i3))] 0, [(3, cs4), (5, cs5)]⟩ σ = f13_l1_t L n m0 i1 i2 i3 cs4 cs5 σ := by kernel_rfl
theorem f13_l1_e {n : Nat} {m0 : Nat} {i1 i2 i3 : Int} {cs4 cs5 : List AV} {σ : St} : Le (f13_l1_t (pt Try.prog 13 n) n m0 i1 i2 i3 cs4 cs5 σ) (f13_l1 (pt Try.prog 13 n) (m0 + 1) i1 i2 i3 cs4 cs5 σ) :=
  goT_pt (f13_l1_g _ n m0 i1 i2 i3 cs4 cs5 σ)
noncomputable def f13_j2_t (_ : Leaf) (_ : Nat) (_ : Int) (σ : St) : Out :=
 some (.ret (.int .i64 (-1 : Int)), σ)
theorem f13_j2_g (L : Leaf) (n : Nat) (i1 : Int) (σ : St) : goT Try.prog 13 n L [] [1, 1, 1] [] ⟨tm 32 [(6, .v (.int .i64 i1))] 0, []⟩ σ = f13_j2_t L n i1 σ := by kernel_rfl
theorem f13_j2_e {n : Nat} {i1 : Int} {σ : St} : Le (f13_j2_t (pt Try.prog 13 n) n i1 σ) (f13_j2 (pt Try.prog 13 n) i1 σ) :=
  goT_pt (f13_j2_g _ n i1 σ)
/-! ### binnacle/table.Kill(t, pid) -/
noncomputable def f18_t (_ : Leaf) (n : Nat) (cs1 : List AV) (i2 : Int) (σ : St) : Out :=
 onesK cs1 <|
 partK Try.prog 27 cs1 0 fun x3 =>
 xAgg x3 fun cs4 =>
 callT Try.prog n 21 [.agg cs4, .int .i64 i2] σ fun v6 σ5 =>
 xBool v6 fun b7 =>
 cond (!b7) (partK Try.prog 27 cs1 0 fun x8 =>
  xAgg x8 fun cs9 =>
  wellK Try.prog 27 cs9 <|
  lstK [.int .i64 (0 : Int), .int .i64 (0 : Int), .int .i64 (0 : Int), .bool false, .int .i64 (0 : Int), .int .i64 (0 : Int), .int .i64 (0 : Int), .bool false, .int .i64 (0 : Int), .int .i64 (0 : Int), .int .i64 (0 : Int), .bool false, .int .i64 (0 : Int), .int .i64 (0 : Int), .int .i64 (0 : Int), .bool false, .int .i64 (0 : Int), .int .i64 (0 : Int), .int .i64 (0 : Int), .bool false, .int .i64 (0 : Int), .int .i64 (0 : Int), .int .i64 (0 : Int), .bool false, .int .i64 (0 : Int), .int .i64 (0 : Int), .int .i64 (0 : Int), .bool false, .int .i64 (0 : Int), .int .i64 (0 : Int), .int .i64 (0 : Int), .bool false] 0 cs9 fun cs10 =>
  partK Try.prog 27 cs10 0 fun x11 =>
  some (.ret (.tuple [x11, .int .i64 (5 : Int)]), σ5)) (idxK i2 8 <|
  lstK cs1 ((0 + ((i2).toNat * 4)) + 3) [.bool true] fun cs12 =>
  partK Try.prog 27 cs12 0 fun x13 =>
  xAgg x13 fun cs14 =>
  wellK Try.prog 27 cs14 <|
  lstK [.int .i64 (0 : Int), .int .i64 (0 : Int), .int .i64 (0 : Int), .bool false, .int .i64 (0 : Int), .int .i64 (0 : Int), .int .i64 (0 : Int), .bool false, .int .i64 (0 : Int), .int .i64 (0 : Int), .int .i64 (0 : Int), .bool false, .int .i64 (0 : Int), .int .i64 (0 : Int), .int .i64 (0 : Int), .bool false, .int .i64 (0 : Int), .int .i64 (0 : Int), .int .i64 (0 : Int), .bool false, .int .i64 (0 : Int), .int .i64 (0 : Int), .int .i64 (0 : Int), .bool false, .int .i64 (0 : Int), .int .i64 (0 : Int), .int .i64 (0 : Int), .bool false, .int .i64 (0 : Int), .int .i64 (0 : Int), .int .i64 (0 : Int), .bool false] 0 cs14 fun cs15 =>
  partK Try.prog 27 cs15 0 fun x16 =>
  some (.ret (.tuple [x16, .int .i64 (0 : Int)]), σ5))
theorem f18_g (L : Leaf) (n : Nat) (cs1 : List AV) (i2 : Int) (σ : St) : goT Try.prog 18 n L [] [] [] ⟨tm 15 [(0, .v (.agg cs1)), (1, .v (.int .i64 i2))] 0, []⟩ σ = f18_t L n cs1 i2 σ := by kernel_rfl
theorem f18_e {n : Nat} {cs1 : List AV} {i2 : Int} {σ : St} : Le (f18_t (pt Try.prog 18 n) n cs1 i2 σ) (callP Try.prog (n + 1) 18 [.agg cs1, .int .i64 i2] σ) :=
  goT_call (f18_g _ n cs1 i2 σ) (by kernel_rfl) (by kernel_rfl)
/-! ### binnacle/table.lives(t, pid) -/
noncomputable def f21_t (_ : Leaf) (_ : Nat) (cs1 : List AV) (i2 : Int) (σ : St) : Out :=
 onesK cs1 <|
 cond (decide (i2 ≥ (0 : Int))) (cond (decide (i2 < (8 : Int))) (idxK i2 8 <|
   partK Try.prog 3 cs1 ((0 + ((i2).toNat * 4)) + 0) fun x3 =>
   xInt .i64 x3 fun i4 =>
   some (.ret (.bool (i4 == (1 : Int))), σ)) (some (.ret (.bool false), σ))) (some (.ret (.bool false), σ))
theorem f21_g (L : Leaf) (n : Nat) (cs1 : List AV) (i2 : Int) (σ : St) : goT Try.prog 21 n L [] [] [] ⟨tm 18 [(0, .v (.agg cs1)), (1, .v (.int .i64 i2))] 0, []⟩ σ = f21_t L n cs1 i2 σ := by kernel_rfl
theorem f21_e {n : Nat} {cs1 : List AV} {i2 : Int} {σ : St} : Le (f21_t (pt Try.prog 21 n) n cs1 i2 σ) (callP Try.prog (n + 1) 21 [.agg cs1, .int .i64 i2] σ) :=
  goT_call (f21_g _ n cs1 i2 σ) (by kernel_rfl) (by kernel_rfl)
/-! ### binnacle/table.free(x) -/
noncomputable def f22_t (_ : Leaf) (_ : Nat) (i1 _ _ : Int) (_ : Bool) (σ : St) : Out :=
 cond (i1 != (1 : Int)) (some (.ret (.bool (i1 != (2 : Int))), σ)) (some (.ret (.bool false), σ))
theorem f22_g (L : Leaf) (n : Nat) (i1 i2 i3 : Int) (b4 : Bool) (σ : St) : goT Try.prog 22 n L [] [] [] ⟨tm 11 [(0, .v (.agg [.int .i64 i1, .int .i64 i2, .int .i64 i3, .bool b4]))] 0, []⟩ σ = f22_t L n i1 i2 i3 b4 σ := by kernel_rfl
theorem f22_e {n : Nat} {i1 i2 i3 : Int} {b4 : Bool} {σ : St} : Le (f22_t (pt Try.prog 22 n) n i1 i2 i3 b4 σ) (callP Try.prog (n + 1) 22 [.agg [.int .i64 i1, .int .i64 i2, .int .i64 i3, .bool b4]] σ) :=
  goT_call (f22_g _ n i1 i2 i3 b4 σ) (by kernel_rfl) (by kernel_rfl)
/-! ### binnacle/table.child(t, i, pid) -/
noncomputable def f23_t (_ : Leaf) (n : Nat) (cs1 : List AV) (i2 i3 : Int) (σ : St) : Out :=
 onesK cs1 <|
 cond (i2 != i3) (idxK i2 8 <|
  partK Try.prog 25 cs1 (0 + ((i2).toNat * 4)) fun x4 =>
  xAgg x4 fun cs5 =>
  unC cs5 fun x6 r7 =>
  xInt .i64 x6 fun i8 =>
  unC r7 fun x9 r10 =>
  xInt .i64 x9 fun i11 =>
  unC r10 fun x12 r13 =>
  xInt .i64 x12 fun i14 =>
  unC r13 fun x15 r16 =>
  xBool x15 fun b17 =>
  nlC r16 <|
  callT Try.prog n 22 [.agg [.int .i64 i8, .int .i64 i11, .int .i64 i14, .bool b17]] σ fun v19 σ18 =>
  xBool v19 fun b20 =>
  cond (!b20) (idxK i2 8 <|
   partK Try.prog 3 cs1 ((0 + ((i2).toNat * 4)) + 1) fun x21 =>
   xInt .i64 x21 fun i22 =>
   some (.ret (.bool (i22 == i3)), σ18)) (some (.ret (.bool false), σ18))) (some (.ret (.bool false), σ))
theorem f23_g (L : Leaf) (n : Nat) (cs1 : List AV) (i2 i3 : Int) (σ : St) : goT Try.prog 23 n L [] [] [] ⟨tm 25 [(0, .v (.agg cs1)), (1, .v (.int .i64 i2)), (2, .v (.int .i64 i3))] 0, []⟩ σ = f23_t L n cs1 i2 i3 σ := by kernel_rfl
theorem f23_e {n : Nat} {cs1 : List AV} {i2 i3 : Int} {σ : St} : Le (f23_t (pt Try.prog 23 n) n cs1 i2 i3 σ) (callP Try.prog (n + 1) 23 [.agg cs1, .int .i64 i2, .int .i64 i3] σ) :=
  goT_call (f23_g _ n cs1 i2 i3 σ) (by kernel_rfl) (by kernel_rfl)
end Go.Proofs

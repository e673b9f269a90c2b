/- The functions, as trees of named steps. -/
import Derived.Test.YtgaodjcjgafccaaAmT
import Derived.Test.YtgaodjcjgafccaaChecked
namespace Go.Proofs
open Go.AM
/-! ### binnacle/binnacleref14.First() -/
noncomputable def f14_t (_ : Leaf) (_ : Nat) (σ : St) : Out :=
 some (.ret (.agg [.int .i64 (1 : Int), .int .i64 (0 : Int), .int .i64 (0 : Int), .bool false, .int .i64 (0 : Int), .int .i64 (0 : Int), .int .i64 (0 : Int), .bool false, .int .i64 (0 : Int), .int .i64 (0 : Int), .int .i64 (0 : Int), .bool false, .int .i64 (0 : Int), .int .i64 (0 : Int), .int .i64 (0 : Int), .bool false, .int .i64 (0 : Int), .int .i64 (0 : Int), .int .i64 (0 : Int), .bool false, .int .i64 (0 : Int), .int .i64 (0 : Int), .int .i64 (0 : Int), .bool false, .int .i64 (0 : Int), .int .i64 (0 : Int), .int .i64 (0 : Int), .bool false, .int .i64 (0 : Int), .int .i64 (0 : Int), .int .i64 (0 : Int), .bool false]), σ)
theorem f14_g (L : Leaf) (n : Nat)  (σ : St) : goT Try.prog 14 n L [] [] [] ⟨tm 6 [] 0, []⟩ σ = f14_t L n  σ := by kernel_rfl
theorem f14_e {n : Nat}  {σ : St} : Le (f14_t (pt Try.prog 14 n) n  σ) (callP Try.prog (n + 1) 14 [] σ) :=
  goT_call (f14_g _ n  σ) (by kernel_rfl) (by kernel_rfl)
/-! ### binnacle/binnacleref14.Fork(t, pid) -/
noncomputable def f15_l1 (L : Leaf) (m0 : Nat) (i1 i2 i3 i4 : Int) (cs5 cs6 : List AV) (σ : St) : Out :=
  L [1, 1, 1, 1, 0, 0] [m0] ⟨tm 33 [(1, .v (.int .i64 i1)), (2, .lp 2 0), (4, .lp 4 0), (5, .v (.int .i64 i2)), (6, .v (.int .i64 i3)), (8, .v (.int .i64 i4))] 0, [(2, cs5), (4, cs6)]⟩ σ
noncomputable def f15_j2 (L : Leaf) (i1 i2 i3 i4 : Int) (cs5 cs6 : List AV) (σ : St) : Out :=
  L [1, 1, 1, 1, 1] [] ⟨tm 33 [(1, .v (.int .i64 i1)), (2, .lp 2 0), (4, .lp 4 0), (5, .v (.int .i64 i2)), (6, .v (.int .i64 i3)), (8, .v (.int .i64 i4))] 0, [(2, cs5), (4, cs6)]⟩ σ
noncomputable def f15_t (L : Leaf) (n : Nat) (cs1 : List AV) (i2 : Int) (σ : St) : Out :=
 onesK cs1 <|
 partK Try.prog 27 cs1 0 fun x3 =>
 xAgg x3 fun cs4 =>
 callT Try.prog n 24 [.agg cs4, .int .i64 i2] σ fun v6 σ5 =>
 xBool v6 fun b7 =>
 cond (!b7) (partK Try.prog 27 cs1 0 fun x8 =>
  xAgg x8 fun cs9 =>
  wellK Try.prog 27 cs9 <|
  lstK [.int .i64 (0 : Int), .int .i64 (0 : Int), .int .i64 (0 : Int), .bool false, .int .i64 (0 : Int), .int .i64 (0 : Int), .int .i64 (0 : Int), .bool false, .int .i64 (0 : Int), .int .i64 (0 : Int), .int .i64 (0 : Int), .bool false, .int .i64 (0 : Int), .int .i64 (0 : Int), .int .i64 (0 : Int), .bool false, .int .i64 (0 : Int), .int .i64 (0 : Int), .int .i64 (0 : Int), .bool false, .int .i64 (0 : Int), .int .i64 (0 : Int), .int .i64 (0 : Int), .bool false, .int .i64 (0 : Int), .int .i64 (0 : Int), .int .i64 (0 : Int), .bool false, .int .i64 (0 : Int), .int .i64 (0 : Int), .int .i64 (0 : Int), .bool false] 0 cs9 fun cs10 =>
  partK Try.prog 27 cs10 0 fun x11 =>
  some (.ret (.tuple [x11, .int .i64 (0 : Int), .int .i64 (5 : Int)]), σ5)) (f15_l1 L n i2 (0 : Int) (0 : Int) (1 : Int) cs1 [.int .i64 (0 : Int), .int .i64 (0 : Int), .int .i64 (0 : Int), .bool false, .int .i64 (0 : Int), .int .i64 (0 : Int), .int .i64 (0 : Int), .bool false, .int .i64 (0 : Int), .int .i64 (0 : Int), .int .i64 (0 : Int), .bool false, .int .i64 (0 : Int), .int .i64 (0 : Int), .int .i64 (0 : Int), .bool false, .int .i64 (0 : Int), .int .i64 (0 : Int), .int .i64 (0 : Int), .bool false, .int .i64 (0 : Int), .int .i64 (0 : Int), .int .i64 (0 : Int), .bool false, .int .i64 (0 : Int), .int .i64 (0 : Int), .int .i64 (0 : Int), .bool false, .int .i64 (0 : Int), .int .i64 (0 : Int), .int .i64 (0 : Int), .bool false] σ5)
theorem f15_g (L : Leaf) (n : Nat) (cs1 : List AV) (i2 : Int) (σ : St) : goT Try.prog 15 n L [] [] [] ⟨tm 33 [(0, .v (.agg cs1)), (1, .v (.int .i64 i2))] 0, []⟩ σ = f15_t L n cs1 i2 σ := by kernel_rfl
theorem f15_e {n : Nat} {cs1 : List AV} {i2 : Int} {σ : St} : Le (f15_t (pt Try.prog 15 n) n cs1 i2 σ) (callP Try.prog (n + 1) 15 [.agg cs1, .int .i64 i2] σ) :=
  goT_call (f15_g _ n cs1 i2 σ) (by kernel_rfl) (by kernel_rfl)
noncomputable def f15_l1_t (L : Leaf) (n m0 : Nat) (i1 i2 i3 i4 : Int) (cs5 cs6 : List AV) (σ : St) : Out :=
 cond (decide (i4 < (8 : Int))) (partK Try.prog 27 cs5 0 fun x7 =>
  xAgg x7 fun cs8 =>
  callT Try.prog n 25 [.agg cs8, .int .i64 i4] σ fun v10 σ9 =>
  xBool v10 fun b11 =>
  cond b11 (f15_l1 L m0 i1 i2 i3 (IntKind.wrap .i64 (i4 + (1 : Int))) cs5 cs6 σ9) (f15_j2 L i1 i2 i3 i4 cs5 cs6 σ9)) (f15_j2 L i1 i2 i3 i4 cs5 cs6 σ)
theorem f15_l1_g (L : Leaf) (n : Nat) (m0 : Nat) (i1 i2 i3 i4 : Int) (cs5 cs6 : List AV) (σ : St) : goT Try.prog 15 n L [[1, 1, 1, 1, 1]] [1, 1, 1, 1, 0, 0] [m0 + 1] ⟨tm 33 [(1, .v (.int .i64 i1)), (2, .lp 2 0), (4, .lp 4 0), (5, .v (.int .i64 i2)), (6, .v (.int .i64 i3)), (8, .v (.int .i64 i4))] 0, [(2, cs5), (4, cs6)]⟩ σ = f15_l1_t L n m0 i1 i2 i3 i4 cs5 cs6 σ := by kernel_rfl
theorem f15_l1_e {n : Nat} {m0 : Nat} {i1 i2 i3 i4 : Int} {cs5 cs6 : List AV} {σ : St} : Le (f15_l1_t (pt Try.prog 15 n) n m0 i1 i2 i3 i4 cs5 cs6 σ) (f15_l1 (pt Try.prog 15 n) (m0 + 1) i1 i2 i3 i4 cs5 cs6 σ) :=
  goT_pt (f15_l1_g _ n m0 i1 i2 i3 i4 cs5 cs6 σ)
noncomputable def f15_j2_t (_ : Leaf) (_ : Nat) (i1 _ _ i4 : Int) (cs5 cs6 : List AV) (σ : St) : Out :=
 cond (i4 == (8 : Int)) (partK Try.prog 27 cs5 0 fun x7 =>
  xAgg x7 fun cs8 =>
  wellK Try.prog 27 cs8 <|
  lstK cs6 0 cs8 fun cs9 =>
  partK Try.prog 27 cs9 0 fun x10 =>
  some (.ret (.tuple [x10, .int .i64 (0 : Int), .int .i64 (4 : Int)]), σ)) (idxK i4 8 <|
  lstK cs5 (0 + ((i4).toNat * 4)) [.int .i64 (1 : Int), .int .i64 i1, .int .i64 (0 : Int), .bool false] fun cs11 =>
  partK Try.prog 27 cs11 0 fun x12 =>
  xAgg x12 fun cs13 =>
  wellK Try.prog 27 cs13 <|
  lstK cs6 0 cs13 fun cs14 =>
  partK Try.prog 27 cs14 0 fun x15 =>
  some (.ret (.tuple [x15, .int .i64 i4, .int .i64 (0 : Int)]), σ))
theorem f15_j2_g (L : Leaf) (n : Nat) (i1 i2 i3 i4 : Int) (cs5 cs6 : List AV) (σ : St) : goT Try.prog 15 n L [] [1, 1, 1, 1, 1] [] ⟨tm 33 [(1, .v (.int .i64 i1)), (2, .lp 2 0), (4, .lp 4 0), (5, .v (.int .i64 i2)), (6, .v (.int .i64 i3)), (8, .v (.int .i64 i4))] 0, [(2, cs5), (4, cs6)]⟩ σ = f15_j2_t L n i1 i2 i3 i4 cs5 cs6 σ := by kernel_rfl
theorem f15_j2_e {n : Nat} {i1 i2 i3 i4 : Int} {cs5 cs6 : List AV} {σ : St} : Le (f15_j2_t (pt Try.prog 15 n) n i1 i2 i3 i4 cs5 cs6 σ) (f15_j2 (pt Try.prog 15 n) i1 i2 i3 i4 cs5 cs6 σ) :=
  goT_pt (f15_j2_g _ n i1 i2 i3 i4 cs5 cs6 σ)
/-! ### binnacle/binnacleref14.Exit(t, pid, status) -/
noncomputable def f16_l1 (L : Leaf) (m0 : Nat) (i1 i2 i3 : Int) (cs4 cs5 : List AV) (σ : St) : Out :=
  L [1, 1, 1, 1, 1, 1, 0, 1, 0] [m0] ⟨tm 52 [(1, .v (.int .i64 i1)), (3, .lp 3 0), (6, .lp 6 0), (7, .v (.int .i64 i2)), (9, .v (.int .i64 i3))] 0, [(3, cs4), (6, cs5)]⟩ σ
noncomputable def f16_j2 (L : Leaf) (i1 : Int) (cs2 cs3 : List AV) (σ : St) : Out :=
  L [1, 1, 1, 1, 1, 1, 1] [] ⟨tm 52 [(3, .lp 3 0), (6, .lp 6 0), (7, .v (.int .i64 i1))] 0, [(3, cs2), (6, cs3)]⟩ σ
noncomputable def f16_t (L : Leaf) (n : Nat) (cs1 : List AV) (i2 i3 : Int) (σ : St) : Out :=
 onesK cs1 <|
 partK Try.prog 27 cs1 0 fun x4 =>
 xAgg x4 fun cs5 =>
 callT Try.prog n 24 [.agg cs5, .int .i64 i2] σ fun v7 σ6 =>
 xBool v7 fun b8 =>
 cond (!b8) (partK Try.prog 27 cs1 0 fun x9 =>
  xAgg x9 fun cs10 =>
  wellK Try.prog 27 cs10 <|
  lstK [.int .i64 (0 : Int), .int .i64 (0 : Int), .int .i64 (0 : Int), .bool false, .int .i64 (0 : Int), .int .i64 (0 : Int), .int .i64 (0 : Int), .bool false, .int .i64 (0 : Int), .int .i64 (0 : Int), .int .i64 (0 : Int), .bool false, .int .i64 (0 : Int), .int .i64 (0 : Int), .int .i64 (0 : Int), .bool false, .int .i64 (0 : Int), .int .i64 (0 : Int), .int .i64 (0 : Int), .bool false, .int .i64 (0 : Int), .int .i64 (0 : Int), .int .i64 (0 : Int), .bool false, .int .i64 (0 : Int), .int .i64 (0 : Int), .int .i64 (0 : Int), .bool false, .int .i64 (0 : Int), .int .i64 (0 : Int), .int .i64 (0 : Int), .bool false] 0 cs10 fun cs11 =>
  partK Try.prog 27 cs11 0 fun x12 =>
  some (.ret (.tuple [x12, .int .i64 (5 : Int)]), σ6)) (idxK i2 8 <|
  lstK cs1 ((0 + ((i2).toNat * 4)) + 0) [.int .i64 (2 : Int)] fun cs13 =>
  idxK i2 8 <|
  lstK cs13 ((0 + ((i2).toNat * 4)) + 2) [.int .i64 i3] fun cs14 =>
  idxK i2 8 <|
  lstK cs14 ((0 + ((i2).toNat * 4)) + 3) [.bool false] fun cs15 =>
  f16_l1 L n i2 (0 : Int) (0 : Int) cs15 [.int .i64 (0 : Int), .int .i64 (0 : Int), .int .i64 (0 : Int), .bool false, .int .i64 (0 : Int), .int .i64 (0 : Int), .int .i64 (0 : Int), .bool false, .int .i64 (0 : Int), .int .i64 (0 : Int), .int .i64 (0 : Int), .bool false, .int .i64 (0 : Int), .int .i64 (0 : Int), .int .i64 (0 : Int), .bool false, .int .i64 (0 : Int), .int .i64 (0 : Int), .int .i64 (0 : Int), .bool false, .int .i64 (0 : Int), .int .i64 (0 : Int), .int .i64 (0 : Int), .bool false, .int .i64 (0 : Int), .int .i64 (0 : Int), .int .i64 (0 : Int), .bool false, .int .i64 (0 : Int), .int .i64 (0 : Int), .int .i64 (0 : Int), .bool false] σ6)
theorem f16_g (L : Leaf) (n : Nat) (cs1 : List AV) (i2 i3 : Int) (σ : St) : goT Try.prog 16 n L [] [] [] ⟨tm 52 [(0, .v (.agg cs1)), (1, .v (.int .i64 i2)), (2, .v (.int .i64 i3))] 0, []⟩ σ = f16_t L n cs1 i2 i3 σ := by kernel_rfl
theorem f16_e {n : Nat} {cs1 : List AV} {i2 i3 : Int} {σ : St} : Le (f16_t (pt Try.prog 16 n) n cs1 i2 i3 σ) (callP Try.prog (n + 1) 16 [.agg cs1, .int .i64 i2, .int .i64 i3] σ) :=
  goT_call (f16_g _ n cs1 i2 i3 σ) (by kernel_rfl) (by kernel_rfl)
noncomputable def f16_l1_t (L : Leaf) (n m0 : Nat) (i1 i2 i3 : Int) (cs4 cs5 : List AV) (σ : St) : Out :=
 cond (decide (i3 < (8 : Int))) (partK Try.prog 27 cs4 0 fun x6 =>
  xAgg x6 fun cs7 =>
  callT Try.prog n 25 [.agg cs7, .int .i64 i3] σ fun v9 σ8 =>
  xBool v9 fun b10 =>
  cond b10 (cond (i3 != i1) (idxK i3 8 <|
    partK Try.prog 3 cs4 ((0 + ((i3).toNat * 4)) + 1) fun x11 =>
    xInt .i64 x11 fun i12 =>
    cond (i12 == i1) (idxK i3 8 <|
     lstK cs4 ((0 + ((i3).toNat * 4)) + 1) [.int .i64 (0 : Int)] fun cs13 =>
     f16_l1 L m0 i1 i2 (IntKind.wrap .i64 (i3 + (1 : Int))) cs13 cs5 σ8) (f16_l1 L m0 i1 i2 (IntKind.wrap .i64 (i3 + (1 : Int))) cs4 cs5 σ8)) (f16_l1 L m0 i1 i2 (IntKind.wrap .i64 (i3 + (1 : Int))) cs4 cs5 σ8)) (f16_l1 L m0 i1 i2 (IntKind.wrap .i64 (i3 + (1 : Int))) cs4 cs5 σ8)) (f16_j2 L i2 cs4 cs5 σ)
theorem f16_l1_g (L : Leaf) (n : Nat) (m0 : Nat) (i1 i2 i3 : Int) (cs4 cs5 : List AV) (σ : St) : goT Try.prog 16 n L [[1, 1, 1, 1, 1, 1, 1]] [1, 1, 1, 1, 1, 1, 0, 1, 0] [m0 + 1] ⟨tm 52 [(1, .v (.int .i64 i1)), (3, .lp 3 0), (6, .lp 6 0), (7, .v (.int .i64 i2)), (9, .v (.int .i64 i3))] 0, [(3, cs4), (6, cs5)]⟩ σ = f16_l1_t L n m0 i1 i2 i3 cs4 cs5 σ := by kernel_rfl
theorem f16_l1_e {n : Nat} {m0 : Nat} {i1 i2 i3 : Int} {cs4 cs5 : List AV} {σ : St} : Le (f16_l1_t (pt Try.prog 16 n) n m0 i1 i2 i3 cs4 cs5 σ) (f16_l1 (pt Try.prog 16 n) (m0 + 1) i1 i2 i3 cs4 cs5 σ) :=
  goT_pt (f16_l1_g _ n m0 i1 i2 i3 cs4 cs5 σ)
noncomputable def f16_j2_t (_ : Leaf) (_ : Nat) (_ : Int) (cs2 cs3 : List AV) (σ : St) : Out :=
 partK Try.prog 27 cs2 0 fun x4 =>
 xAgg x4 fun cs5 =>
 wellK Try.prog 27 cs5 <|
 lstK cs3 0 cs5 fun cs6 =>
 partK Try.prog 27 cs6 0 fun x7 =>
 some (.ret (.tuple [x7, .int .i64 (0 : Int)]), σ)
theorem f16_j2_g (L : Leaf) (n : Nat) (i1 : Int) (cs2 cs3 : List AV) (σ : St) : goT Try.prog 16 n L [] [1, 1, 1, 1, 1, 1, 1] [] ⟨tm 52 [(3, .lp 3 0), (6, .lp 6 0), (7, .v (.int .i64 i1))] 0, [(3, cs2), (6, cs3)]⟩ σ = f16_j2_t L n i1 cs2 cs3 σ := by kernel_rfl
theorem f16_j2_e {n : Nat} {i1 : Int} {cs2 cs3 : List AV} {σ : St} : Le (f16_j2_t (pt Try.prog 16 n) n i1 cs2 cs3 σ) (f16_j2 (pt Try.prog 16 n) i1 cs2 cs3 σ) :=
  goT_pt (f16_j2_g _ n i1 cs2 cs3 σ)
/-! ### binnacle/binnacleref14.Wait(t, pid) -/
noncomputable def f17_l1 (L : Leaf) (m0 : Nat) (i1 i2 i3 i4 i5 i6 : Int) (cs7 cs8 : List AV) (σ : St) : Out :=
  L [1, 1, 1, 1, 0, 1, 0] [m0] ⟨tm 62 [(1, .v (.int .i64 i1)), (2, .lp 2 0), (4, .lp 4 0), (5, .v (.int .i64 i2)), (6, .v (.int .i64 i3)), (7, .v (.int .i64 i4)), (9, .v (.int .i64 i5)), (10, .v (.int .i64 i6))] 0, [(2, cs7), (4, cs8)]⟩ σ
noncomputable def f17_j2 (L : Leaf) (i1 i2 i3 i4 : Int) (cs5 cs6 : List AV) (σ : St) : Out :=
  L [1, 1, 1, 1, 1] [] ⟨tm 62 [(2, .lp 2 0), (4, .lp 4 0), (5, .v (.int .i64 i1)), (6, .v (.int .i64 i2)), (7, .v (.int .i64 i3)), (9, .v (.int .i64 i4))] 0, [(2, cs5), (4, cs6)]⟩ σ
noncomputable def f17_t (L : Leaf) (n : Nat) (cs1 : List AV) (i2 : Int) (σ : St) : Out :=
 onesK cs1 <|
 partK Try.prog 27 cs1 0 fun x3 =>
 xAgg x3 fun cs4 =>
 callT Try.prog n 24 [.agg cs4, .int .i64 i2] σ fun v6 σ5 =>
 xBool v6 fun b7 =>
 cond (!b7) (partK Try.prog 27 cs1 0 fun x8 =>
  xAgg x8 fun cs9 =>
  wellK Try.prog 27 cs9 <|
  lstK [.int .i64 (0 : Int), .int .i64 (0 : Int), .int .i64 (0 : Int), .bool false, .int .i64 (0 : Int), .int .i64 (0 : Int), .int .i64 (0 : Int), .bool false, .int .i64 (0 : Int), .int .i64 (0 : Int), .int .i64 (0 : Int), .bool false, .int .i64 (0 : Int), .int .i64 (0 : Int), .int .i64 (0 : Int), .bool false, .int .i64 (0 : Int), .int .i64 (0 : Int), .int .i64 (0 : Int), .bool false, .int .i64 (0 : Int), .int .i64 (0 : Int), .int .i64 (0 : Int), .bool false, .int .i64 (0 : Int), .int .i64 (0 : Int), .int .i64 (0 : Int), .bool false, .int .i64 (0 : Int), .int .i64 (0 : Int), .int .i64 (0 : Int), .bool false] 0 cs9 fun cs10 =>
  partK Try.prog 27 cs10 0 fun x11 =>
  some (.ret (.tuple [x11, .int .i64 (0 : Int), .int .i64 (0 : Int), .int .i64 (5 : Int)]), σ5)) (f17_l1 L n i2 (0 : Int) (0 : Int) (0 : Int) (0 : Int) (0 : Int) cs1 [.int .i64 (0 : Int), .int .i64 (0 : Int), .int .i64 (0 : Int), .bool false, .int .i64 (0 : Int), .int .i64 (0 : Int), .int .i64 (0 : Int), .bool false, .int .i64 (0 : Int), .int .i64 (0 : Int), .int .i64 (0 : Int), .bool false, .int .i64 (0 : Int), .int .i64 (0 : Int), .int .i64 (0 : Int), .bool false, .int .i64 (0 : Int), .int .i64 (0 : Int), .int .i64 (0 : Int), .bool false, .int .i64 (0 : Int), .int .i64 (0 : Int), .int .i64 (0 : Int), .bool false, .int .i64 (0 : Int), .int .i64 (0 : Int), .int .i64 (0 : Int), .bool false, .int .i64 (0 : Int), .int .i64 (0 : Int), .int .i64 (0 : Int), .bool false] σ5)
theorem f17_g (L : Leaf) (n : Nat) (cs1 : List AV) (i2 : Int) (σ : St) : goT Try.prog 17 n L [] [] [] ⟨tm 62 [(0, .v (.agg cs1)), (1, .v (.int .i64 i2))] 0, []⟩ σ = f17_t L n cs1 i2 σ := by kernel_rfl
theorem f17_e {n : Nat} {cs1 : List AV} {i2 : Int} {σ : St} : Le (f17_t (pt Try.prog 17 n) n cs1 i2 σ) (callP Try.prog (n + 1) 17 [.agg cs1, .int .i64 i2] σ) :=
  goT_call (f17_g _ n cs1 i2 σ) (by kernel_rfl) (by kernel_rfl)
noncomputable def f17_l1_t (L : Leaf) (n m0 : Nat) (i1 i2 i3 i4 i5 i6 : Int) (cs7 cs8 : List AV) (σ : St) : Out :=
 cond (decide (i6 < (8 : Int))) (partK Try.prog 27 cs7 0 fun x9 =>
  xAgg x9 fun cs10 =>
  callT Try.prog n 25 [.agg cs10, .int .i64 i6] σ fun v12 σ11 =>
  xBool v12 fun b13 =>
  cond (!b13) (f17_l1 L m0 i1 i2 i3 i4 i5 (IntKind.wrap .i64 (i6 + (1 : Int))) cs7 cs8 σ11) (cond (i6 == i1) (f17_l1 L m0 i1 i2 i3 i4 i5 (IntKind.wrap .i64 (i6 + (1 : Int))) cs7 cs8 σ11) (idxK i6 8 <|
    partK Try.prog 3 cs7 ((0 + ((i6).toNat * 4)) + 1) fun x14 =>
    xInt .i64 x14 fun i15 =>
    cond (i15 != i1) (f17_l1 L m0 i1 i2 i3 i4 i5 (IntKind.wrap .i64 (i6 + (1 : Int))) cs7 cs8 σ11) (idxK i6 8 <|
     partK Try.prog 3 cs7 ((0 + ((i6).toNat * 4)) + 0) fun x16 =>
     xInt .i64 x16 fun i17 =>
     cond (i17 == (2 : Int)) (idxK i6 8 <|
      partK Try.prog 3 cs7 ((0 + ((i6).toNat * 4)) + 2) fun x18 =>
      xInt .i64 x18 fun i19 =>
      idxK i6 8 <|
      lstK cs7 (0 + ((i6).toNat * 4)) [.int .i64 (0 : Int), .int .i64 (0 : Int), .int .i64 (0 : Int), .bool false] fun cs20 =>
      partK Try.prog 27 cs20 0 fun x21 =>
      xAgg x21 fun cs22 =>
      wellK Try.prog 27 cs22 <|
      lstK cs8 0 cs22 fun cs23 =>
      partK Try.prog 27 cs23 0 fun x24 =>
      some (.ret (.tuple [x24, .int .i64 i6, .int .i64 i19, .int .i64 (0 : Int)]), σ11)) (f17_l1 L m0 i1 i2 i3 i4 (IntKind.wrap .i64 (i5 + (1 : Int))) (IntKind.wrap .i64 (i6 + (1 : Int))) cs7 cs8 σ11))))) (f17_j2 L i2 i3 i4 i5 cs7 cs8 σ)
theorem f17_l1_g (L : Leaf) (n : Nat) (m0 : Nat) (i1 i2 i3 i4 i5 i6 : Int) (cs7 cs8 : List AV) (σ : St) : goT Try.prog 17 n L [[1, 1, 1, 1, 1]] [1, 1, 1, 1, 0, 1, 0] [m0 + 1] ⟨tm 62 [(1, .v (.int .i64 i1)), (2, .lp 2 0), (4, .lp 4 0), (5, .v (.int .i64 i2)), (6, .v (.int .i64 i3)), (7, .v (.int .i64 i4)), (9, .v (.int .i64 i5)), (10, .v (.int .i64 i6))] 0, [(2, cs7), (4, cs8)]⟩ σ = f17_l1_t L n m0 i1 i2 i3 i4 i5 i6 cs7 cs8 σ := by kernel_rfl
theorem f17_l1_e {n : Nat} {m0 : Nat} {i1 i2 i3 i4 i5 i6 : Int} {cs7 cs8 : List AV} {σ : St} : Le (f17_l1_t (pt Try.prog 17 n) n m0 i1 i2 i3 i4 i5 i6 cs7 cs8 σ) (f17_l1 (pt Try.prog 17 n) (m0 + 1) i1 i2 i3 i4 i5 i6 cs7 cs8 σ) :=
  goT_pt (f17_l1_g _ n m0 i1 i2 i3 i4 i5 i6 cs7 cs8 σ)
noncomputable def f17_j2_t (_ : Leaf) (_ : Nat) (_ _ _ i4 : Int) (cs5 cs6 : List AV) (σ : St) : Out :=
 cond (decide (i4 > (0 : Int))) (partK Try.prog 27 cs5 0 fun x7 =>
  xAgg x7 fun cs8 =>
  wellK Try.prog 27 cs8 <|
  lstK cs6 0 cs8 fun cs9 =>
  partK Try.prog 27 cs9 0 fun x10 =>
  some (.ret (.tuple [x10, .int .i64 (0 : Int), .int .i64 (0 : Int), .int .i64 (12 : Int)]), σ)) (partK Try.prog 27 cs5 0 fun x11 =>
  xAgg x11 fun cs12 =>
  wellK Try.prog 27 cs12 <|
  lstK cs6 0 cs12 fun cs13 =>
  partK Try.prog 27 cs13 0 fun x14 =>
  some (.ret (.tuple [x14, .int .i64 (0 : Int), .int .i64 (0 : Int), .int .i64 (19 : Int)]), σ))
theorem f17_j2_g (L : Leaf) (n : Nat) (i1 i2 i3 i4 : Int) (cs5 cs6 : List AV) (σ : St) : goT Try.prog 17 n L [] [1, 1, 1, 1, 1] [] ⟨tm 62 [(2, .lp 2 0), (4, .lp 4 0), (5, .v (.int .i64 i1)), (6, .v (.int .i64 i2)), (7, .v (.int .i64 i3)), (9, .v (.int .i64 i4))] 0, [(2, cs5), (4, cs6)]⟩ σ = f17_j2_t L n i1 i2 i3 i4 cs5 cs6 σ := by kernel_rfl
theorem f17_j2_e {n : Nat} {i1 i2 i3 i4 : Int} {cs5 cs6 : List AV} {σ : St} : Le (f17_j2_t (pt Try.prog 17 n) n i1 i2 i3 i4 cs5 cs6 σ) (f17_j2 (pt Try.prog 17 n) i1 i2 i3 i4 cs5 cs6 σ) :=
  goT_pt (f17_j2_g _ n i1 i2 i3 i4 cs5 cs6 σ)
/-! ### binnacle/binnacleref14.Kill(t, pid) -/
noncomputable def f19_t (_ : Leaf) (n : Nat) (cs1 : List AV) (i2 : Int) (σ : St) : Out :=
 onesK cs1 <|
 partK Try.prog 27 cs1 0 fun x3 =>
 xAgg x3 fun cs4 =>
 callT Try.prog n 24 [.agg cs4, .int .i64 i2] σ fun v6 σ5 =>
 xBool v6 fun b7 =>
 cond (!b7) (partK Try.prog 27 cs1 0 fun x8 =>
  xAgg x8 fun cs9 =>
  wellK Try.prog 27 cs9 <|
  lstK [.int .i64 (0 : Int), .int .i64 (0 : Int), .int .i64 (0 : Int), .bool false, .int .i64 (0 : Int), .int .i64 (0 : Int), .int .i64 (0 : Int), .bool false, .int .i64 (0 : Int), .int .i64 (0 : Int), .int .i64 (0 : Int), .bool false, .int .i64 (0 : Int), .int .i64 (0 : Int), .int .i64 (0 : Int), .bool false, .int .i64 (0 : Int), .int .i64 (0 : Int), .int .i64 (0 : Int), .bool false, .int .i64 (0 : Int), .int .i64 (0 : Int), .int .i64 (0 : Int), .bool false, .int .i64 (0 : Int), .int .i64 (0 : Int), .int .i64 (0 : Int), .bool false, .int .i64 (0 : Int), .int .i64 (0 : Int), .int .i64 (0 : Int), .bool false] 0 cs9 fun cs10 =>
  partK Try.prog 27 cs10 0 fun x11 =>
  some (.ret (.tuple [x11, .int .i64 (5 : Int)]), σ5)) (idxK i2 8 <|
  lstK cs1 ((0 + ((i2).toNat * 4)) + 3) [.bool true] fun cs12 =>
  partK Try.prog 27 cs12 0 fun x13 =>
  xAgg x13 fun cs14 =>
  wellK Try.prog 27 cs14 <|
  lstK [.int .i64 (0 : Int), .int .i64 (0 : Int), .int .i64 (0 : Int), .bool false, .int .i64 (0 : Int), .int .i64 (0 : Int), .int .i64 (0 : Int), .bool false, .int .i64 (0 : Int), .int .i64 (0 : Int), .int .i64 (0 : Int), .bool false, .int .i64 (0 : Int), .int .i64 (0 : Int), .int .i64 (0 : Int), .bool false, .int .i64 (0 : Int), .int .i64 (0 : Int), .int .i64 (0 : Int), .bool false, .int .i64 (0 : Int), .int .i64 (0 : Int), .int .i64 (0 : Int), .bool false, .int .i64 (0 : Int), .int .i64 (0 : Int), .int .i64 (0 : Int), .bool false, .int .i64 (0 : Int), .int .i64 (0 : Int), .int .i64 (0 : Int), .bool false] 0 cs14 fun cs15 =>
  partK Try.prog 27 cs15 0 fun x16 =>
  some (.ret (.tuple [x16, .int .i64 (0 : Int)]), σ5))
theorem f19_g (L : Leaf) (n : Nat) (cs1 : List AV) (i2 : Int) (σ : St) : goT Try.prog 19 n L [] [] [] ⟨tm 17 [(0, .v (.agg cs1)), (1, .v (.int .i64 i2))] 0, []⟩ σ = f19_t L n cs1 i2 σ := by kernel_rfl
theorem f19_e {n : Nat} {cs1 : List AV} {i2 : Int} {σ : St} : Le (f19_t (pt Try.prog 19 n) n cs1 i2 σ) (callP Try.prog (n + 1) 19 [.agg cs1, .int .i64 i2] σ) :=
  goT_call (f19_g _ n cs1 i2 σ) (by kernel_rfl) (by kernel_rfl)
/-! ### binnacle/binnacleref14.Next(t, after, busy) -/
noncomputable def f20_j1 (L : Leaf) (i1 i2 : Int) (cs3 cs4 : List AV) (σ : St) : Out :=
  L [1, 1, 1] [] ⟨tm 36 [(3, .lp 3 0), (5, .lp 5 0), (6, .v (.int .i64 i1)), (7, .v (.int .i64 i2))] 0, [(3, cs3), (5, cs4)]⟩ σ
noncomputable def f20_l2 (L : Leaf) (m0 : Nat) (i1 i2 i3 : Int) (cs4 cs5 : List AV) (σ : St) : Out :=
  L [1, 1, 1, 0, 1, 0] [m0] ⟨tm 36 [(3, .lp 3 0), (5, .lp 5 0), (6, .v (.int .i64 i1)), (7, .v (.int .i64 i2)), (8, .v (.int .i64 i3))] 0, [(3, cs4), (5, cs5)]⟩ σ
noncomputable def f20_j3 (L : Leaf) (i1 : Int) (σ : St) : Out :=
  L [1, 1, 1, 1] [] ⟨tm 36 [(6, .v (.int .i64 i1))] 0, []⟩ σ
noncomputable def f20_t (L : Leaf) (_ : Nat) (cs1 : List AV) (i2 : Int) (cs3 : List AV) (σ : St) : Out :=
 onesK cs1 <|
 onesK cs3 <|
 cond (decide ((Int.tmod i2 (8 : Int)) < (0 : Int))) (f20_j1 L (0 : Int) (IntKind.wrap .i64 ((Int.tmod i2 (8 : Int)) + (8 : Int))) cs1 cs3 σ) (f20_j1 L (0 : Int) (Int.tmod i2 (8 : Int)) cs1 cs3 σ)
theorem f20_g (L : Leaf) (n : Nat) (cs1 : List AV) (i2 : Int) (cs3 : List AV) (σ : St) : goT Try.prog 20 n L [[1, 1, 1]] [] [] ⟨tm 36 [(0, .v (.agg cs1)), (1, .v (.int .i64 i2)), (2, .v (.agg cs3))] 0, []⟩ σ = f20_t L n cs1 i2 cs3 σ := by kernel_rfl
theorem f20_e {n : Nat} {cs1 : List AV} {i2 : Int} {cs3 : List AV} {σ : St} : Le (f20_t (pt Try.prog 20 n) n cs1 i2 cs3 σ) (callP Try.prog (n + 1) 20 [.agg cs1, .int .i64 i2, .agg cs3] σ) :=
  goT_call (f20_g _ n cs1 i2 cs3 σ) (by kernel_rfl) (by kernel_rfl)
noncomputable def f20_j1_t (L : Leaf) (n : Nat) (i1 i2 : Int) (cs3 cs4 : List AV) (σ : St) : Out :=
 f20_l2 L n i1 i2 (1 : Int) cs3 cs4 σ
theorem f20_j1_g (L : Leaf) (n : Nat) (i1 i2 : Int) (cs3 cs4 : List AV) (σ : St) : goT Try.prog 20 n L [] [1, 1, 1] [] ⟨tm 36 [(3, .lp 3 0), (5, .lp 5 0), (6, .v (.int .i64 i1)), (7, .v (.int .i64 i2))] 0, [(3, cs3), (5, cs4)]⟩ σ = f20_j1_t L n i1 i2 cs3 cs4 σ := by kernel_rfl
theorem f20_j1_e {n : Nat} {i1 i2 : Int} {cs3 cs4 : List AV} {σ : St} : Le (f20_j1_t (pt Try.prog 20 n) n i1 i2 cs3 cs4 σ) (f20_j1 (pt Try.prog 20 n) i1 i2 cs3 cs4 σ) :=
  goT_pt (f20_j1_g _ n i1 i2 cs3 cs4 σ)
noncomputable def f20_l2_t (L : Leaf) (n m0 : Nat) (i1 i2 i3 : Int) (cs4 cs5 : List AV) (σ : St) : Out :=
 cond (decide (i3 ≤ (8 : Int))) (partK Try.prog 27 cs4 0 fun x6 =>
  xAgg x6 fun cs7 =>
  callT Try.prog n 24 [.agg cs7, .int .i64 (Int.tmod (IntKind.wrap .i64 (i2 + i3)) (8 : Int))] σ fun v9 σ8 =>
  xBool v9 fun b10 =>
  cond b10 (idxK (Int.tmod (IntKind.wrap .i64 (i2 + i3)) (8 : Int)) 8 <|
   partK Try.prog 4 cs5 (0 + (((Int.tmod (IntKind.wrap .i64 (i2 + i3)) (8 : Int))).toNat * 1)) fun x11 =>
   xBool x11 fun b12 =>
   cond (!b12) (some (.ret (.int .i64 (Int.tmod (IntKind.wrap .i64 (i2 + i3)) (8 : Int))), σ8)) (f20_l2 L m0 i1 i2 (IntKind.wrap .i64 (i3 + (1 : Int))) cs4 cs5 σ8)) (f20_l2 L m0 i1 i2 (IntKind.wrap .i64 (i3 + (1 : Int))) cs4 cs5 σ8)) (f20_j3 L i1 σ)
theorem f20_l2_g (L : Leaf) (n : Nat) (m0 : Nat) (i1 i2 i3 : Int) (cs4 cs5 : List AV) (σ : St) : goT Try.prog 20 n L [[1, 1, 1, 1]] [1, 1, 1, 0, 1, 0] [m0 + 1] ⟨tm 36 [(3, .lp 3 0), (5, .lp 5 0), (6, .v (.int .i64 i1)), (7, .v (.int .i64 i2)), (8, .v (.int .i64 i3))] 0, [(3, cs4), (5, cs5)]⟩ σ = f20_l2_t L n m0 i1 i2 i3 cs4 cs5 σ := by kernel_rfl
theorem f20_l2_e {n : Nat} {m0 : Nat} {i1 i2 i3 : Int} {cs4 cs5 : List AV} {σ : St} : Le (f20_l2_t (pt Try.prog 20 n) n m0 i1 i2 i3 cs4 cs5 σ) (f20_l2 (pt Try.prog 20 n) (m0 + 1) i1 i2 i3 cs4 cs5 σ) :=
  goT_pt (f20_l2_g _ n m0 i1 i2 i3 cs4 cs5 σ)
noncomputable def f20_j3_t (_ : Leaf) (_ : Nat) (_ : Int) (σ : St) : Out :=
 some (.ret (.int .i64 (-1 : Int)), σ)
theorem f20_j3_g (L : Leaf) (n : Nat) (i1 : Int) (σ : St) : goT Try.prog 20 n L [] [1, 1, 1, 1] [] ⟨tm 36 [(6, .v (.int .i64 i1))] 0, []⟩ σ = f20_j3_t L n i1 σ := by kernel_rfl
theorem f20_j3_e {n : Nat} {i1 : Int} {σ : St} : Le (f20_j3_t (pt Try.prog 20 n) n i1 σ) (f20_j3 (pt Try.prog 20 n) i1 σ) :=
  goT_pt (f20_j3_g _ n i1 σ)
/-! ### binnacle/binnacleref14.Lives(t, pid) -/
noncomputable def f24_t (_ : Leaf) (_ : Nat) (cs1 : List AV) (i2 : Int) (σ : St) : Out :=
 onesK cs1 <|
 cond (decide (i2 ≥ (0 : Int))) (cond (decide (i2 ≤ (7 : Int))) (idxK i2 8 <|
   partK Try.prog 3 cs1 ((0 + ((i2).toNat * 4)) + 0) fun x3 =>
   xInt .i64 x3 fun i4 =>
   some (.ret (.bool (i4 == (1 : Int))), σ)) (some (.ret (.bool false), σ))) (some (.ret (.bool false), σ))
theorem f24_g (L : Leaf) (n : Nat) (cs1 : List AV) (i2 : Int) (σ : St) : goT Try.prog 24 n L [] [] [] ⟨tm 18 [(0, .v (.agg cs1)), (1, .v (.int .i64 i2))] 0, []⟩ σ = f24_t L n cs1 i2 σ := by kernel_rfl
theorem f24_e {n : Nat} {cs1 : List AV} {i2 : Int} {σ : St} : Le (f24_t (pt Try.prog 24 n) n cs1 i2 σ) (callP Try.prog (n + 1) 24 [.agg cs1, .int .i64 i2] σ) :=
  goT_call (f24_g _ n cs1 i2 σ) (by kernel_rfl) (by kernel_rfl)
/-! ### binnacle/binnacleref14.there(t, pid) -/
noncomputable def f25_t (_ : Leaf) (_ : Nat) (cs1 : List AV) (i2 : Int) (σ : St) : Out :=
 onesK cs1 <|
 idxK i2 8 <|
 partK Try.prog 3 cs1 ((0 + ((i2).toNat * 4)) + 0) fun x3 =>
 xInt .i64 x3 fun i4 =>
 cond (i4 == (1 : Int)) (some (.ret (.bool true), σ)) (idxK i2 8 <|
  partK Try.prog 3 cs1 ((0 + ((i2).toNat * 4)) + 0) fun x5 =>
  xInt .i64 x5 fun i6 =>
  some (.ret (.bool (i6 == (2 : Int))), σ))
theorem f25_g (L : Leaf) (n : Nat) (cs1 : List AV) (i2 : Int) (σ : St) : goT Try.prog 25 n L [] [] [] ⟨tm 17 [(0, .v (.agg cs1)), (1, .v (.int .i64 i2))] 0, []⟩ σ = f25_t L n cs1 i2 σ := by kernel_rfl
theorem f25_e {n : Nat} {cs1 : List AV} {i2 : Int} {σ : St} : Le (f25_t (pt Try.prog 25 n) n cs1 i2 σ) (callP Try.prog (n + 1) 25 [.agg cs1, .int .i64 i2] σ) :=
  goT_call (f25_g _ n cs1 i2 σ) (by kernel_rfl) (by kernel_rfl)
end Go.Proofs

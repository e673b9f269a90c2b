/- The functions, as trees of named steps. -/
import Derived.Test.YtidammkjfdonaaaDoorAmT
import Derived.Test.YtidammkjfdonaaaDoorLb
import Derived.Test.YtidammkjfdonaaaDoorChecked
namespace Go.Proofs
open Go.AM
set_option maxHeartbeats 4000000
/-! ### binnacle/inst.Text(x) -/
noncomputable def f17_t (_ : Leaf) (n : Nat) (i1 i2 i3 i4 i5 : Int) (σ : St) : Out :=
 callT Tryd.prog Lb n 11 [.agg [.int .i64 i1, .int .i64 i2, .int .i64 i3, .int .i64 i4, .int .i64 i5]] σ fun v7 σ6 =>
 xBool v7 fun b8 =>
 cond (!b8) (some (.ret (.tuple [.str [], .int .i64 (2 : Int)]), σ6)) (callTD Tryd.prog Lb n 23 [] σ6 fun v10 σ9 =>
  xAgg v10 fun cs11 =>
  idxK i1 88 <|
  partK Tryd.prog 57 cs11 ((i1).toNat * 4) fun x12 =>
  xAgg x12 fun cs13 =>
  unC cs13 fun x14 r15 =>
  xInt .u32 x14 fun i16 =>
  unC r15 fun x17 r18 =>
  xInt .u32 x17 fun _ =>
  unC r18 fun x20 r21 =>
  xInt .u32 x20 fun _ =>
  unC r21 fun x23 r24 =>
  xInt .u32 x23 fun _ =>
  nlC r24 <|
  callT Tryd.prog Lb n 21 [.int .i64 i1] σ9 fun v27 σ26 =>
  xStr v27 fun s28 =>
  cond (i16 == (10 : Int)) (some (.ret (.tuple [.str s28, .int .i64 (0 : Int)]), σ26)) (cond (i16 == (9 : Int)) (idxK i5 4 <|
    partK Tryd.prog 9 [.str [], .str [46, 114, 108], .str [46, 97, 113], .str [46, 97, 113, 114, 108]] ((i5).toNat * 1) fun x29 =>
    xStr x29 fun s30 =>
    catK s28 s30 fun s31 =>
    catK s31 [32] fun s32 =>
    callT Tryd.prog Lb n 33 [.int .u32 i16, .agg [.int .i64 i1, .int .i64 i2, .int .i64 i3, .int .i64 i4, .int .i64 i5]] σ26 fun v34 σ33 =>
    xSl v34 fun a35 n36 c37 z38 =>
    callT Tryd.prog Lb n 32 [.slice a35 n36 c37 z38, .str [44, 32]] σ33 fun v40 σ39 =>
    xStr v40 fun s41 =>
    catK s32 s41 fun s42 =>
    some (.ret (.tuple [.str s42, .int .i64 (0 : Int)]), σ39)) (catK s28 [32] fun s43 =>
    callT Tryd.prog Lb n 33 [.int .u32 i16, .agg [.int .i64 i1, .int .i64 i2, .int .i64 i3, .int .i64 i4, .int .i64 i5]] σ26 fun v45 σ44 =>
    xSl v45 fun a46 n47 c48 z49 =>
    callT Tryd.prog Lb n 32 [.slice a46 n47 c48 z49, .str [44, 32]] σ44 fun v51 σ50 =>
    xStr v51 fun s52 =>
    catK s43 s52 fun s53 =>
    some (.ret (.tuple [.str s53, .int .i64 (0 : Int)]), σ50))))
theorem f17_g (L : Leaf) (n : Nat) (i1 i2 i3 i4 i5 : Int) (σ : St) : goT Tryd.prog Lb 17 n L [] [] [] ⟨tm 35 [(0, .v (.agg [.int .i64 i1, .int .i64 i2, .int .i64 i3, .int .i64 i4, .int .i64 i5]))] 0, []⟩ σ = f17_t L n i1 i2 i3 i4 i5 σ := by kernel_rfl
theorem f17_e {n : Nat} {i1 i2 i3 i4 i5 : Int} {σ : St} : Le (f17_t (pt Tryd.prog Lb 17 n) n i1 i2 i3 i4 i5 σ) (callP Tryd.prog Lb (n + 1) 17 [.agg [.int .i64 i1, .int .i64 i2, .int .i64 i3, .int .i64 i4, .int .i64 i5]] σ) :=
  goT_call (f17_g _ n i1 i2 i3 i4 i5 σ) rfl (by kernel_rfl) (by kernel_rfl)
/-! ### binnacle/binnacleref02.Text(x) -/
noncomputable def f18_j1 (L : Leaf) (s1 : List UInt8) (i2 : Int) (s3 s4 s5 : List UInt8) (i6 i7 i8 i9 i10 : Int) (s11 s12 : List UInt8) (i13 i14 i15 : Int) (σ : St) : Out :=
  L [1, 1, 1, 1, 1, 1, 0, 1, 0, 1] [] ⟨tm 170 [(1, .lp 1 0), (2, .v (.str s1)), (3, .v (.int .i64 i2)), (5, .lp 5 0), (6, .v (.str s3)), (7, .v (.str s4)), (24, .v (.str s5)), (25, .v (.bool true))] 0, [(1, [.int .i64 i6, .int .i64 i7, .int .i64 i8, .int .i64 i9, .int .i64 i10]), (5, [.str s11, .str s12, .int .u32 i13, .int .u32 i14, .int .u32 i15])]⟩ σ
noncomputable def f18_j2 (L : Leaf) (s1 : List UInt8) (i2 : Int) (s3 s4 s5 : List UInt8) (b6 : Bool) (i7 i8 i9 i10 i11 : Int) (s12 s13 : List UInt8) (i14 i15 i16 : Int) (σ : St) : Out :=
  L [1, 1, 1, 1, 1, 1, 0, 1, 0, 1] [] ⟨tm 170 [(1, .lp 1 0), (2, .v (.str s1)), (3, .v (.int .i64 i2)), (5, .lp 5 0), (6, .v (.str s3)), (7, .v (.str s4)), (24, .v (.str s5)), (25, .v (.bool b6))] 0, [(1, [.int .i64 i7, .int .i64 i8, .int .i64 i9, .int .i64 i10, .int .i64 i11]), (5, [.str s12, .str s13, .int .u32 i14, .int .u32 i15, .int .u32 i16])]⟩ σ
noncomputable def f18_t (L : Leaf) (n : Nat) (i1 i2 i3 i4 i5 : Int) (σ : St) : Out :=
 callT Tryd.prog Lb n 12 [.agg [.int .i64 i1, .int .i64 i2, .int .i64 i3, .int .i64 i4, .int .i64 i5]] σ fun v7 σ6 =>
 xBool v7 fun b8 =>
 cond (!b8) (some (.ret (.tuple [.str [], .int .i64 (2 : Int)]), σ6)) (callTD Tryd.prog Lb n 22 [] σ6 fun v10 σ9 =>
  xSl v10 fun a11 n12 _ z14 =>
  idxK i1 n12 <|
  derefK a11 fun b15 o16 =>
  szK z14 5 <|
  ldK Tryd.prog 47 σ9 b15 (o16 + ((i1).toNat * 5)) fun x17 =>
  xAgg x17 fun cs18 =>
  unC cs18 fun x19 r20 =>
  xStr x19 fun s21 =>
  unC r20 fun x22 r23 =>
  xStr x22 fun s24 =>
  unC r23 fun x25 r26 =>
  xInt .u32 x25 fun i27 =>
  unC r26 fun x28 r29 =>
  xInt .u32 x28 fun i30 =>
  unC r29 fun x31 r32 =>
  xInt .u32 x31 fun i33 =>
  nlC r32 <|
  callT Tryd.prog Lb n 34 [.int .i64 i5] σ9 fun v35 σ34 =>
  xStr v35 fun s36 =>
  cond (s24 == [85]) (f18_j1 L [] (0 : Int) s36 s21 s24 i1 i2 i3 i4 i5 s21 s24 i27 i30 i33 σ34) (f18_j2 L [] (0 : Int) s36 s21 s24 (s24 == [74]) i1 i2 i3 i4 i5 s21 s24 i27 i30 i33 σ34))
theorem f18_g (L : Leaf) (n : Nat) (i1 i2 i3 i4 i5 : Int) (σ : St) : goT Tryd.prog Lb 18 n L [[1, 1, 1, 1, 1, 1, 0, 1, 0, 1]] [] [] ⟨tm 170 [(0, .v (.agg [.int .i64 i1, .int .i64 i2, .int .i64 i3, .int .i64 i4, .int .i64 i5]))] 0, []⟩ σ = f18_t L n i1 i2 i3 i4 i5 σ := by kernel_rfl
theorem f18_e {n : Nat} {i1 i2 i3 i4 i5 : Int} {σ : St} : Le (f18_t (pt Tryd.prog Lb 18 n) n i1 i2 i3 i4 i5 σ) (callP Tryd.prog Lb (n + 1) 18 [.agg [.int .i64 i1, .int .i64 i2, .int .i64 i3, .int .i64 i4, .int .i64 i5]] σ) :=
  goT_call (f18_g _ n i1 i2 i3 i4 i5 σ) rfl (by kernel_rfl) (by kernel_rfl)
noncomputable def f18_j1_t (_ : Leaf) (n : Nat) (_ : List UInt8) (_ : Int) (s3 s4 _ : List UInt8) (_ i7 _ _ _ : Int) (_ _ : List UInt8) (_ _ _ : Int) (σ : St) : Out :=
 catK s4 [32] fun s16 =>
 callT Tryd.prog Lb n 35 [.int .i64 i7] σ fun v18 σ17 =>
 xStr v18 fun s19 =>
 catK s16 s19 fun s20 =>
 catK s20 [44, 32] fun s21 =>
 catK s21 s3 fun s22 =>
 some (.ret (.tuple [.str s22, .int .i64 (0 : Int)]), σ17)
theorem f18_j1_g (L : Leaf) (n : Nat) (s1 : List UInt8) (i2 : Int) (s3 s4 s5 : List UInt8) (i6 i7 i8 i9 i10 : Int) (s11 s12 : List UInt8) (i13 i14 i15 : Int) (σ : St) : goT Tryd.prog Lb 18 n L [] [1, 1, 1, 1, 1, 1, 0, 1, 0, 1] [] ⟨tm 170 [(1, .lp 1 0), (2, .v (.str s1)), (3, .v (.int .i64 i2)), (5, .lp 5 0), (6, .v (.str s3)), (7, .v (.str s4)), (24, .v (.str s5)), (25, .v (.bool true))] 0, [(1, [.int .i64 i6, .int .i64 i7, .int .i64 i8, .int .i64 i9, .int .i64 i10]), (5, [.str s11, .str s12, .int .u32 i13, .int .u32 i14, .int .u32 i15])]⟩ σ = f18_j1_t L n s1 i2 s3 s4 s5 i6 i7 i8 i9 i10 s11 s12 i13 i14 i15 σ := by kernel_rfl
theorem f18_j1_e {n : Nat} {s1 : List UInt8} {i2 : Int} {s3 s4 s5 : List UInt8} {i6 i7 i8 i9 i10 : Int} {s11 s12 : List UInt8} {i13 i14 i15 : Int} {σ : St} : Le (f18_j1_t (pt Tryd.prog Lb 18 n) n s1 i2 s3 s4 s5 i6 i7 i8 i9 i10 s11 s12 i13 i14 i15 σ) (f18_j1 (pt Tryd.prog Lb 18 n) s1 i2 s3 s4 s5 i6 i7 i8 i9 i10 s11 s12 i13 i14 i15 σ) := by
  unfold f18_j1; exact goT_pt (f18_j1_g _ n s1 i2 s3 s4 s5 i6 i7 i8 i9 i10 s11 s12 i13 i14 i15 σ)
noncomputable def f18_j2_t (_ : Leaf) (n : Nat) (_ : List UInt8) (_ : Int) (s3 s4 s5 : List UInt8) (b6 : Bool) (i7 i8 i9 i10 i11 : Int) (_ _ : List UInt8) (i14 _ _ : Int) (σ : St) : Out :=
 cond b6 (catK s4 [32] fun s17 =>
  callT Tryd.prog Lb n 35 [.int .i64 i8] σ fun v19 σ18 =>
  xStr v19 fun s20 =>
  catK s17 s20 fun s21 =>
  catK s21 [44, 32] fun s22 =>
  catK s22 s3 fun s23 =>
  some (.ret (.tuple [.str s23, .int .i64 (0 : Int)]), σ18)) (cond (s5 == [66]) (catK s4 [32] fun s24 =>
   callTD Tryd.prog Lb n 35 [.int .i64 i9] σ fun v26 σ25 =>
   xStr v26 fun s27 =>
   catK s24 s27 fun s28 =>
   catK s28 [44, 32] fun s29 =>
   callTD Tryd.prog Lb n 35 [.int .i64 i10] σ25 fun v31 σ30 =>
   xStr v31 fun s32 =>
   catK s29 s32 fun s33 =>
   catK s33 [44, 32] fun s34 =>
   catK s34 s3 fun s35 =>
   some (.ret (.tuple [.str s35, .int .i64 (0 : Int)]), σ30)) (cond (s5 == [83]) (catK s4 [32] fun s36 =>
    callTD Tryd.prog Lb n 35 [.int .i64 i10] σ fun v38 σ37 =>
    xStr v38 fun s39 =>
    catK s36 s39 fun s40 =>
    catK s40 [44, 32] fun s41 =>
    catK s41 s3 fun s42 =>
    catK s42 [40] fun s43 =>
    callTD Tryd.prog Lb n 35 [.int .i64 i9] σ37 fun v45 σ44 =>
    xStr v45 fun s46 =>
    catK s43 s46 fun s47 =>
    catK s47 [41] fun s48 =>
    some (.ret (.tuple [.str s48, .int .i64 (0 : Int)]), σ44)) (cond (s5 == [82]) (catK s4 [32] fun s49 =>
     callTD Tryd.prog Lb n 35 [.int .i64 i8] σ fun v51 σ50 =>
     xStr v51 fun s52 =>
     catK s49 s52 fun s53 =>
     catK s53 [44, 32] fun s54 =>
     callTD Tryd.prog Lb n 35 [.int .i64 i9] σ50 fun v56 σ55 =>
     xStr v56 fun s57 =>
     catK s54 s57 fun s58 =>
     catK s58 [44, 32] fun s59 =>
     callTD Tryd.prog Lb n 35 [.int .i64 i10] σ55 fun v61 σ60 =>
     xStr v61 fun s62 =>
     catK s59 s62 fun s63 =>
     some (.ret (.tuple [.str s63, .int .i64 (0 : Int)]), σ60)) (cond (s5 == [65]) (idxK i11 4 <|
      partK Tryd.prog 9 [.str [], .str [46, 114, 108], .str [46, 97, 113], .str [46, 97, 113, 114, 108]] ((i11).toNat * 1) fun x64 =>
      xStr x64 fun s65 =>
      catK s4 s65 fun s66 =>
      catK s66 [32] fun s67 =>
      callTD Tryd.prog Lb n 35 [.int .i64 i8] σ fun v69 σ68 =>
      xStr v69 fun s70 =>
      catK s67 s70 fun s71 =>
      catK s71 [44, 32] fun s72 =>
      cond (i7 == (66 : Int)) (catK s72 [40] fun s73 =>
       callT Tryd.prog Lb n 35 [.int .i64 i9] σ68 fun v75 σ74 =>
       xStr v75 fun s76 =>
       catK s73 s76 fun s77 =>
       catK s77 [41] fun s78 =>
       some (.ret (.tuple [.str s78, .int .i64 (0 : Int)]), σ74)) (cond (i7 == (77 : Int)) (catK s72 [40] fun s79 =>
        callT Tryd.prog Lb n 35 [.int .i64 i9] σ68 fun v81 σ80 =>
        xStr v81 fun s82 =>
        catK s79 s82 fun s83 =>
        catK s83 [41] fun s84 =>
        some (.ret (.tuple [.str s84, .int .i64 (0 : Int)]), σ80)) (callTD Tryd.prog Lb n 35 [.int .i64 i10] σ68 fun v86 σ85 =>
        xStr v86 fun s87 =>
        catK s72 s87 fun s88 =>
        catK s88 [44, 32, 40] fun s89 =>
        callTD Tryd.prog Lb n 35 [.int .i64 i9] σ85 fun v91 σ90 =>
        xStr v91 fun s92 =>
        catK s89 s92 fun s93 =>
        catK s93 [41] fun s94 =>
        some (.ret (.tuple [.str s94, .int .i64 (0 : Int)]), σ90)))) (cond (s5 == [78]) (some (.ret (.tuple [.str s4, .int .i64 (0 : Int)]), σ)) (cond (i14 == (3 : Int)) (catK s4 [32] fun s95 =>
        callTD Tryd.prog Lb n 35 [.int .i64 i8] σ fun v97 σ96 =>
        xStr v97 fun s98 =>
        catK s95 s98 fun s99 =>
        catK s99 [44, 32] fun s100 =>
        catK s100 s3 fun s101 =>
        catK s101 [40] fun s102 =>
        callTD Tryd.prog Lb n 35 [.int .i64 i9] σ96 fun v104 σ103 =>
        xStr v104 fun s105 =>
        catK s102 s105 fun s106 =>
        catK s106 [41] fun s107 =>
        some (.ret (.tuple [.str s107, .int .i64 (0 : Int)]), σ103)) (cond (i7 == (4 : Int)) (catK s4 [32] fun s108 =>
         callTD Tryd.prog Lb n 35 [.int .i64 i8] σ fun v110 σ109 =>
         xStr v110 fun s111 =>
         catK s108 s111 fun s112 =>
         catK s112 [44, 32] fun s113 =>
         catK s113 s3 fun s114 =>
         catK s114 [40] fun s115 =>
         callTD Tryd.prog Lb n 35 [.int .i64 i9] σ109 fun v117 σ116 =>
         xStr v117 fun s118 =>
         catK s115 s118 fun s119 =>
         catK s119 [41] fun s120 =>
         some (.ret (.tuple [.str s120, .int .i64 (0 : Int)]), σ116)) (catK s4 [32] fun s121 =>
         callTD Tryd.prog Lb n 35 [.int .i64 i8] σ fun v123 σ122 =>
         xStr v123 fun s124 =>
         catK s121 s124 fun s125 =>
         catK s125 [44, 32] fun s126 =>
         callTD Tryd.prog Lb n 35 [.int .i64 i9] σ122 fun v128 σ127 =>
         xStr v128 fun s129 =>
         catK s126 s129 fun s130 =>
         catK s130 [44, 32] fun s131 =>
         catK s131 s3 fun s132 =>
         some (.ret (.tuple [.str s132, .int .i64 (0 : Int)]), σ127)))))))))
theorem f18_j2_g (L : Leaf) (n : Nat) (s1 : List UInt8) (i2 : Int) (s3 s4 s5 : List UInt8) (b6 : Bool) (i7 i8 i9 i10 i11 : Int) (s12 s13 : List UInt8) (i14 i15 i16 : Int) (σ : St) : goT Tryd.prog Lb 18 n L [] [1, 1, 1, 1, 1, 1, 0, 1, 0, 1] [] ⟨tm 170 [(1, .lp 1 0), (2, .v (.str s1)), (3, .v (.int .i64 i2)), (5, .lp 5 0), (6, .v (.str s3)), (7, .v (.str s4)), (24, .v (.str s5)), (25, .v (.bool b6))] 0, [(1, [.int .i64 i7, .int .i64 i8, .int .i64 i9, .int .i64 i10, .int .i64 i11]), (5, [.str s12, .str s13, .int .u32 i14, .int .u32 i15, .int .u32 i16])]⟩ σ = f18_j2_t L n s1 i2 s3 s4 s5 b6 i7 i8 i9 i10 i11 s12 s13 i14 i15 i16 σ := by kernel_rfl
theorem f18_j2_e {n : Nat} {s1 : List UInt8} {i2 : Int} {s3 s4 s5 : List UInt8} {b6 : Bool} {i7 i8 i9 i10 i11 : Int} {s12 s13 : List UInt8} {i14 i15 i16 : Int} {σ : St} : Le (f18_j2_t (pt Tryd.prog Lb 18 n) n s1 i2 s3 s4 s5 b6 i7 i8 i9 i10 i11 s12 s13 i14 i15 i16 σ) (f18_j2 (pt Tryd.prog Lb 18 n) s1 i2 s3 s4 s5 b6 i7 i8 i9 i10 i11 s12 s13 i14 i15 i16 σ) := by
  unfold f18_j2; exact goT_pt (f18_j2_g _ n s1 i2 s3 s4 s5 b6 i7 i8 i9 i10 i11 s12 s13 i14 i15 i16 σ)
/-! ### binnacle/inst.parts(form, x) -/
noncomputable def f33_j1 (L : Leaf) (i1 : Int) (a2 : Option (Nat × Nat)) (n3 : Nat) (c4 : Option Nat) (z5 : Nat) (s6 : List UInt8) (i7 i8 i9 i10 i11 i12 : Int) (σ : St) : Out :=
  L [1, 1, 0, 1, 0, 1] [] ⟨tm 120 [(0, .v (.int .u32 i1)), (3, .lp 3 0), (4, .v (.slice a2 n3 c4 z5)), (5, .v (.str s6)), (9, .v (.int .u32 i7)), (10, .v (.bool true))] 0, [(3, [.int .i64 i8, .int .i64 i9, .int .i64 i10, .int .i64 i11, .int .i64 i12])]⟩ σ
noncomputable def f33_j2 (L : Leaf) (i1 : Int) (a2 : Option (Nat × Nat)) (n3 : Nat) (c4 : Option Nat) (z5 : Nat) (s6 : List UInt8) (i7 : Int) (b8 : Bool) (i9 i10 i11 i12 i13 : Int) (σ : St) : Out :=
  L [1, 1, 0, 1, 0, 1] [] ⟨tm 120 [(0, .v (.int .u32 i1)), (3, .lp 3 0), (4, .v (.slice a2 n3 c4 z5)), (5, .v (.str s6)), (9, .v (.int .u32 i7)), (10, .v (.bool b8))] 0, [(3, [.int .i64 i9, .int .i64 i10, .int .i64 i11, .int .i64 i12, .int .i64 i13])]⟩ σ
noncomputable def f33_j3 (L : Leaf) (a1 : Option (Nat × Nat)) (n2 : Nat) (c3 : Option Nat) (z4 : Nat) (s5 : List UInt8) (i6 i7 i8 i9 i10 : Int) (σ : St) : Out :=
  L [1, 1, 1, 1] [] ⟨tm 120 [(3, .lp 3 0), (4, .v (.slice a1 n2 c3 z4)), (5, .v (.str s5))] 0, [(3, [.int .i64 i6, .int .i64 i7, .int .i64 i8, .int .i64 i9, .int .i64 i10])]⟩ σ
noncomputable def f33_t (L : Leaf) (n : Nat) (i1 i2 i3 i4 i5 i6 : Int) (σ : St) : Out :=
 callT Tryd.prog Lb n 52 [.int .i64 i6, .int .i64 (10 : Int)] σ fun v8 σ7 =>
 xStr v8 fun s9 =>
 cond (i1 == (1 : Int)) (f33_j1 L i1 none 0 (some 0) 0 s9 i1 i2 i3 i4 i5 i6 σ7) (f33_j2 L i1 none 0 (some 0) 0 s9 i1 (i1 == (2 : Int)) i2 i3 i4 i5 i6 σ7)
theorem f33_g (L : Leaf) (n : Nat) (i1 i2 i3 i4 i5 i6 : Int) (σ : St) : goT Tryd.prog Lb 33 n L [[1, 1, 0, 1, 0, 1]] [] [] ⟨tm 120 [(0, .v (.int .u32 i1)), (1, .v (.agg [.int .i64 i2, .int .i64 i3, .int .i64 i4, .int .i64 i5, .int .i64 i6]))] 0, []⟩ σ = f33_t L n i1 i2 i3 i4 i5 i6 σ := by kernel_rfl
theorem f33_e {n : Nat} {i1 i2 i3 i4 i5 i6 : Int} {σ : St} : Le (f33_t (pt Tryd.prog Lb 33 n) n i1 i2 i3 i4 i5 i6 σ) (callP Tryd.prog Lb (n + 1) 33 [.int .u32 i1, .agg [.int .i64 i2, .int .i64 i3, .int .i64 i4, .int .i64 i5, .int .i64 i6]] σ) :=
  goT_call (f33_g _ n i1 i2 i3 i4 i5 i6 σ) rfl (by kernel_rfl) (by kernel_rfl)
noncomputable def f33_j1_t (_ : Leaf) (n : Nat) (_ : Int) (_ : Option (Nat × Nat)) (_ : Nat) (_ : Option Nat) (_ : Nat) (s6 : List UInt8) (_ _ i9 _ _ _ : Int) (σ : St) : Out :=
 callT Tryd.prog Lb n 53 [.int .i64 i9] σ fun v14 σ13 =>
 xStr v14 fun s15 =>
 some (.ret (.slice (some (σ13.length, 0)) 2 (some 2) 1), (σ13 ++ [AObj.cells [.str s15, .str s6] (.rw (some 9))] : St))
theorem f33_j1_g (L : Leaf) (n : Nat) (i1 : Int) (a2 : Option (Nat × Nat)) (n3 : Nat) (c4 : Option Nat) (z5 : Nat) (s6 : List UInt8) (i7 i8 i9 i10 i11 i12 : Int) (σ : St) : goT Tryd.prog Lb 33 n L [] [1, 1, 0, 1, 0, 1] [] ⟨tm 120 [(0, .v (.int .u32 i1)), (3, .lp 3 0), (4, .v (.slice a2 n3 c4 z5)), (5, .v (.str s6)), (9, .v (.int .u32 i7)), (10, .v (.bool true))] 0, [(3, [.int .i64 i8, .int .i64 i9, .int .i64 i10, .int .i64 i11, .int .i64 i12])]⟩ σ = f33_j1_t L n i1 a2 n3 c4 z5 s6 i7 i8 i9 i10 i11 i12 σ := by kernel_rfl
theorem f33_j1_e {n : Nat} {i1 : Int} {a2 : Option (Nat × Nat)} {n3 : Nat} {c4 : Option Nat} {z5 : Nat} {s6 : List UInt8} {i7 i8 i9 i10 i11 i12 : Int} {σ : St} : Le (f33_j1_t (pt Tryd.prog Lb 33 n) n i1 a2 n3 c4 z5 s6 i7 i8 i9 i10 i11 i12 σ) (f33_j1 (pt Tryd.prog Lb 33 n) i1 a2 n3 c4 z5 s6 i7 i8 i9 i10 i11 i12 σ) := by
  unfold f33_j1; exact goT_pt (f33_j1_g _ n i1 a2 n3 c4 z5 s6 i7 i8 i9 i10 i11 i12 σ)
noncomputable def f33_j2_t (L : Leaf) (n : Nat) (i1 : Int) (a2 : Option (Nat × Nat)) (n3 : Nat) (c4 : Option Nat) (z5 : Nat) (s6 : List UInt8) (i7 : Int) (b8 : Bool) (i9 i10 i11 i12 i13 : Int) (σ : St) : Out :=
 cond b8 (callT Tryd.prog Lb n 53 [.int .i64 i10] σ fun v15 σ14 =>
  xStr v15 fun s16 =>
  some (.ret (.slice (some (σ14.length, 0)) 2 (some 2) 1), (σ14 ++ [AObj.cells [.str s16, .str s6] (.rw (some 9))] : St))) (cond (i7 == (4 : Int)) (callTD Tryd.prog Lb n 53 [.int .i64 i11] σ fun v18 σ17 =>
   xStr v18 fun s19 =>
   callTD Tryd.prog Lb n 53 [.int .i64 i12] σ17 fun v21 σ20 =>
   xStr v21 fun s22 =>
   some (.ret (.slice (some (σ20.length, 0)) 3 (some 3) 1), (σ20 ++ [AObj.cells [.str s19, .str s22, .str s6] (.rw (some 9))] : St))) (cond (i7 == (5 : Int)) (callTD Tryd.prog Lb n 53 [.int .i64 i12] σ fun v24 σ23 =>
    xStr v24 fun s25 =>
    catK s6 [40] fun s26 =>
    callTD Tryd.prog Lb n 53 [.int .i64 i11] σ23 fun v28 σ27 =>
    xStr v28 fun s29 =>
    catK s26 s29 fun s30 =>
    catK s30 [41] fun s31 =>
    some (.ret (.slice (some (σ27.length, 0)) 2 (some 2) 1), (σ27 ++ [AObj.cells [.str s25, .str s31] (.rw (some 9))] : St))) (cond (i7 == (8 : Int)) (callTD Tryd.prog Lb n 53 [.int .i64 i10] σ fun v33 σ32 =>
     xStr v33 fun s34 =>
     callTD Tryd.prog Lb n 53 [.int .i64 i11] σ32 fun v36 σ35 =>
     xStr v36 fun s37 =>
     callTD Tryd.prog Lb n 53 [.int .i64 i12] σ35 fun v39 σ38 =>
     xStr v39 fun s40 =>
     some (.ret (.slice (some (σ38.length, 0)) 3 (some 3) 1), (σ38 ++ [AObj.cells [.str s34, .str s37, .str s40] (.rw (some 9))] : St))) (cond (i7 == (9 : Int)) (cond (i9 == (66 : Int)) (callTD Tryd.prog Lb n 53 [.int .i64 i10] σ fun v42 σ41 =>
       xStr v42 fun s43 =>
       callTD Tryd.prog Lb n 53 [.int .i64 i11] σ41 fun v45 σ44 =>
       xStr v45 fun s46 =>
       catK [40] s46 fun s47 =>
       catK s47 [41] fun s48 =>
       some (.ret (.slice (some (σ44.length, 0)) 2 (some 2) 1), (σ44 ++ [AObj.cells [.str s43, .str s48] (.rw (some 9))] : St))) (cond (i9 == (77 : Int)) (callTD Tryd.prog Lb n 53 [.int .i64 i10] σ fun v50 σ49 =>
        xStr v50 fun s51 =>
        callTD Tryd.prog Lb n 53 [.int .i64 i11] σ49 fun v53 σ52 =>
        xStr v53 fun s54 =>
        catK [40] s54 fun s55 =>
        catK s55 [41] fun s56 =>
        some (.ret (.slice (some (σ52.length, 0)) 2 (some 2) 1), (σ52 ++ [AObj.cells [.str s51, .str s56] (.rw (some 9))] : St))) (callTD Tryd.prog Lb n 53 [.int .i64 i10] σ fun v58 σ57 =>
        xStr v58 fun s59 =>
        callTD Tryd.prog Lb n 53 [.int .i64 i12] σ57 fun v61 σ60 =>
        xStr v61 fun s62 =>
        callTD Tryd.prog Lb n 53 [.int .i64 i11] σ60 fun v64 σ63 =>
        xStr v64 fun s65 =>
        catK [40] s65 fun s66 =>
        catK s66 [41] fun s67 =>
        some (.ret (.slice (some (σ63.length, 0)) 3 (some 3) 1), (σ63 ++ [AObj.cells [.str s59, .str s62, .str s67] (.rw (some 9))] : St))))) (cond (i1 == (3 : Int)) (cond (i9 == (4 : Int)) (callTD Tryd.prog Lb n 53 [.int .i64 i10] σ fun v69 σ68 =>
        xStr v69 fun s70 =>
        catK s6 [40] fun s71 =>
        callTD Tryd.prog Lb n 53 [.int .i64 i11] σ68 fun v73 σ72 =>
        xStr v73 fun s74 =>
        catK s71 s74 fun s75 =>
        catK s75 [41] fun s76 =>
        some (.ret (.slice (some (σ72.length, 0)) 2 (some 2) 1), (σ72 ++ [AObj.cells [.str s70, .str s76] (.rw (some 9))] : St))) (cond (decide (i9 ≥ (11 : Int))) (cond (decide (i9 ≤ (17 : Int))) (callTD Tryd.prog Lb n 53 [.int .i64 i10] σ fun v78 σ77 =>
          xStr v78 fun s79 =>
          catK s6 [40] fun s80 =>
          callTD Tryd.prog Lb n 53 [.int .i64 i11] σ77 fun v82 σ81 =>
          xStr v82 fun s83 =>
          catK s80 s83 fun s84 =>
          catK s84 [41] fun s85 =>
          some (.ret (.slice (some (σ81.length, 0)) 2 (some 2) 1), (σ81 ++ [AObj.cells [.str s79, .str s85] (.rw (some 9))] : St))) (f33_j3 L a2 n3 c4 z5 s6 i9 i10 i11 i12 i13 σ)) (f33_j3 L a2 n3 c4 z5 s6 i9 i10 i11 i12 i13 σ))) (f33_j3 L a2 n3 c4 z5 s6 i9 i10 i11 i12 i13 σ))))))
theorem f33_j2_g (L : Leaf) (n : Nat) (i1 : Int) (a2 : Option (Nat × Nat)) (n3 : Nat) (c4 : Option Nat) (z5 : Nat) (s6 : List UInt8) (i7 : Int) (b8 : Bool) (i9 i10 i11 i12 i13 : Int) (σ : St) : goT Tryd.prog Lb 33 n L [[1, 1, 1, 1]] [1, 1, 0, 1, 0, 1] [] ⟨tm 120 [(0, .v (.int .u32 i1)), (3, .lp 3 0), (4, .v (.slice a2 n3 c4 z5)), (5, .v (.str s6)), (9, .v (.int .u32 i7)), (10, .v (.bool b8))] 0, [(3, [.int .i64 i9, .int .i64 i10, .int .i64 i11, .int .i64 i12, .int .i64 i13])]⟩ σ = f33_j2_t L n i1 a2 n3 c4 z5 s6 i7 b8 i9 i10 i11 i12 i13 σ := by kernel_rfl
theorem f33_j2_e {n : Nat} {i1 : Int} {a2 : Option (Nat × Nat)} {n3 : Nat} {c4 : Option Nat} {z5 : Nat} {s6 : List UInt8} {i7 : Int} {b8 : Bool} {i9 i10 i11 i12 i13 : Int} {σ : St} : Le (f33_j2_t (pt Tryd.prog Lb 33 n) n i1 a2 n3 c4 z5 s6 i7 b8 i9 i10 i11 i12 i13 σ) (f33_j2 (pt Tryd.prog Lb 33 n) i1 a2 n3 c4 z5 s6 i7 b8 i9 i10 i11 i12 i13 σ) := by
  unfold f33_j2; exact goT_pt (f33_j2_g _ n i1 a2 n3 c4 z5 s6 i7 b8 i9 i10 i11 i12 i13 σ)
noncomputable def f33_j3_t (_ : Leaf) (n : Nat) (_ : Option (Nat × Nat)) (_ : Nat) (_ : Option Nat) (_ : Nat) (s5 : List UInt8) (_ i7 i8 _ _ : Int) (σ : St) : Out :=
 callTD Tryd.prog Lb n 53 [.int .i64 i7] σ fun v12 σ11 =>
 xStr v12 fun s13 =>
 callTD Tryd.prog Lb n 53 [.int .i64 i8] σ11 fun v15 σ14 =>
 xStr v15 fun s16 =>
 some (.ret (.slice (some (σ14.length, 0)) 3 (some 3) 1), (σ14 ++ [AObj.cells [.str s13, .str s16, .str s5] (.rw (some 9))] : St))
theorem f33_j3_g (L : Leaf) (n : Nat) (a1 : Option (Nat × Nat)) (n2 : Nat) (c3 : Option Nat) (z4 : Nat) (s5 : List UInt8) (i6 i7 i8 i9 i10 : Int) (σ : St) : goT Tryd.prog Lb 33 n L [] [1, 1, 1, 1] [] ⟨tm 120 [(3, .lp 3 0), (4, .v (.slice a1 n2 c3 z4)), (5, .v (.str s5))] 0, [(3, [.int .i64 i6, .int .i64 i7, .int .i64 i8, .int .i64 i9, .int .i64 i10])]⟩ σ = f33_j3_t L n a1 n2 c3 z4 s5 i6 i7 i8 i9 i10 σ := by kernel_rfl
theorem f33_j3_e {n : Nat} {a1 : Option (Nat × Nat)} {n2 : Nat} {c3 : Option Nat} {z4 : Nat} {s5 : List UInt8} {i6 i7 i8 i9 i10 : Int} {σ : St} : Le (f33_j3_t (pt Tryd.prog Lb 33 n) n a1 n2 c3 z4 s5 i6 i7 i8 i9 i10 σ) (f33_j3 (pt Tryd.prog Lb 33 n) a1 n2 c3 z4 s5 i6 i7 i8 i9 i10 σ) := by
  unfold f33_j3; exact goT_pt (f33_j3_g _ n a1 n2 c3 z4 s5 i6 i7 i8 i9 i10 σ)
/-! ### binnacle/binnacleref02.Decimal(n) -/
noncomputable def f34_l1 (L : Leaf) (m0 : Nat) (i1 : Int) (s2 s3 : List UInt8) (b4 : Bool) (σ : St) : Out :=
  L [1, 1, 1, 0, 0] [m0] ⟨tm 29 [(0, .v (.int .i64 i1)), (2, .v (.str s2)), (3, .v (.str s3)), (4, .v (.bool b4))] 0, []⟩ σ
noncomputable def f34_j2 (L : Leaf) (m0 : Nat) (i1 : Int) (s2 s3 : List UInt8) (b4 : Bool) (i5 : Int) (σ : St) : Out :=
  L [1, 1, 1, 0, 0, 0, 0, 1, 1] [m0] ⟨tm 29 [(0, .v (.int .i64 i1)), (2, .v (.str s2)), (3, .v (.str s3)), (4, .v (.bool b4)), (5, .v (.int .i64 i5))] 0, []⟩ σ
noncomputable def f34_j3 (L : Leaf) (s1 s2 : List UInt8) (b3 : Bool) (σ : St) : Out :=
  L [1, 1, 1, 1] [] ⟨tm 29 [(2, .v (.str s1)), (3, .v (.str s2)), (4, .v (.bool b3))] 0, []⟩ σ
noncomputable def f34_t (L : Leaf) (n : Nat) (i1 : Int) (σ : St) : Out :=
 f34_l1 L n i1 [] [] (decide (i1 < (0 : Int))) σ
theorem f34_g (L : Leaf) (n : Nat) (i1 : Int) (σ : St) : goT Tryd.prog Lb 34 n L [] [] [] ⟨tm 29 [(0, .v (.int .i64 i1))] 0, []⟩ σ = f34_t L n i1 σ := by kernel_rfl
theorem f34_e {n : Nat} {i1 : Int} {σ : St} : Le (f34_t (pt Tryd.prog Lb 34 n) n i1 σ) (callP Tryd.prog Lb (n + 1) 34 [.int .i64 i1] σ) :=
  goT_call (f34_g _ n i1 σ) rfl (by kernel_rfl) (by kernel_rfl)
noncomputable def f34_l1_t (L : Leaf) (_ m0 : Nat) (i1 : Int) (s2 s3 : List UInt8) (b4 : Bool) (σ : St) : Out :=
 cond (decide ((Int.tmod i1 (10 : Int)) < (0 : Int))) (f34_j2 L m0 i1 s2 s3 b4 (IntKind.wrap .i64 (0 - (Int.tmod i1 (10 : Int)))) σ) (f34_j2 L m0 i1 s2 s3 b4 (Int.tmod i1 (10 : Int)) σ)
theorem f34_l1_g (L : Leaf) (n : Nat) (m0 : Nat) (i1 : Int) (s2 s3 : List UInt8) (b4 : Bool) (σ : St) : goT Tryd.prog Lb 34 n L [[1, 1, 1, 0, 0, 0, 0, 1, 1]] [1, 1, 1, 0, 0] [m0 + 1] ⟨tm 29 [(0, .v (.int .i64 i1)), (2, .v (.str s2)), (3, .v (.str s3)), (4, .v (.bool b4))] 0, []⟩ σ = f34_l1_t L n m0 i1 s2 s3 b4 σ := by kernel_rfl
theorem f34_l1_e {n : Nat} {m0 : Nat} {i1 : Int} {s2 s3 : List UInt8} {b4 : Bool} {σ : St} : Le (f34_l1_t (pt Tryd.prog Lb 34 n) n m0 i1 s2 s3 b4 σ) (f34_l1 (pt Tryd.prog Lb 34 n) (m0 + 1) i1 s2 s3 b4 σ) := by
  unfold f34_l1; exact goT_pt (f34_l1_g _ n m0 i1 s2 s3 b4 σ)
noncomputable def f34_j2_t (L : Leaf) (_ m0 : Nat) (i1 : Int) (s2 s3 : List UInt8) (b4 : Bool) (i5 : Int) (σ : St) : Out :=
 bytsK (σ ++ [AObj.cells [.int .u8 (IntKind.wrap .u8 (IntKind.wrap .i64 ((48 : Int) + i5)))] (.rw (some 5))] : St) (some (σ.length, 0)) 1 1 fun s6 =>
 catK s6 s3 fun s7 =>
 cond ((IntKind.wrap .i64 (Int.tdiv i1 (10 : Int))) == (0 : Int)) (f34_j3 L s2 s7 b4 (σ ++ [AObj.cells [.int .u8 (IntKind.wrap .u8 (IntKind.wrap .i64 ((48 : Int) + i5)))] (.rw (some 5))] : St)) (f34_l1 L m0 (IntKind.wrap .i64 (Int.tdiv i1 (10 : Int))) s2 s7 b4 (σ ++ [AObj.cells [.int .u8 (IntKind.wrap .u8 (IntKind.wrap .i64 ((48 : Int) + i5)))] (.rw (some 5))] : St))
theorem f34_j2_g (L : Leaf) (n : Nat) (m0 : Nat) (i1 : Int) (s2 s3 : List UInt8) (b4 : Bool) (i5 : Int) (σ : St) : goT Tryd.prog Lb 34 n L [[1, 1, 1, 1]] [1, 1, 1, 0, 0, 0, 0, 1, 1] [m0] ⟨tm 29 [(0, .v (.int .i64 i1)), (2, .v (.str s2)), (3, .v (.str s3)), (4, .v (.bool b4)), (5, .v (.int .i64 i5))] 0, []⟩ σ = f34_j2_t L n m0 i1 s2 s3 b4 i5 σ := by kernel_rfl
theorem f34_j2_e {n : Nat} {m0 : Nat} {i1 : Int} {s2 s3 : List UInt8} {b4 : Bool} {i5 : Int} {σ : St} : Le (f34_j2_t (pt Tryd.prog Lb 34 n) n m0 i1 s2 s3 b4 i5 σ) (f34_j2 (pt Tryd.prog Lb 34 n) m0 i1 s2 s3 b4 i5 σ) := by
  unfold f34_j2; exact goT_pt (f34_j2_g _ n m0 i1 s2 s3 b4 i5 σ)
noncomputable def f34_j3_t (_ : Leaf) (_ : Nat) (_ s2 : List UInt8) (b3 : Bool) (σ : St) : Out :=
 cond b3 (catK [45] s2 fun s4 =>
  some (.ret (.str s4), σ)) (some (.ret (.str s2), σ))
theorem f34_j3_g (L : Leaf) (n : Nat) (s1 s2 : List UInt8) (b3 : Bool) (σ : St) : goT Tryd.prog Lb 34 n L [] [1, 1, 1, 1] [] ⟨tm 29 [(2, .v (.str s1)), (3, .v (.str s2)), (4, .v (.bool b3))] 0, []⟩ σ = f34_j3_t L n s1 s2 b3 σ := by kernel_rfl
theorem f34_j3_e {n : Nat} {s1 s2 : List UInt8} {b3 : Bool} {σ : St} : Le (f34_j3_t (pt Tryd.prog Lb 34 n) n s1 s2 b3 σ) (f34_j3 (pt Tryd.prog Lb 34 n) s1 s2 b3 σ) := by
  unfold f34_j3; exact goT_pt (f34_j3_g _ n s1 s2 b3 σ)
/-! ### binnacle/binnacleref02.r(n) -/
noncomputable def f35_t (_ : Leaf) (n : Nat) (i1 : Int) (σ : St) : Out :=
 callT Tryd.prog Lb n 34 [.int .i64 i1] σ fun v3 σ2 =>
 xStr v3 fun s4 =>
 catK [120] s4 fun s5 =>
 some (.ret (.str s5), σ2)
theorem f35_g (L : Leaf) (n : Nat) (i1 : Int) (σ : St) : goT Tryd.prog Lb 35 n L [] [] [] ⟨tm 6 [(0, .v (.int .i64 i1))] 0, []⟩ σ = f35_t L n i1 σ := by kernel_rfl
theorem f35_e {n : Nat} {i1 : Int} {σ : St} : Le (f35_t (pt Tryd.prog Lb 35 n) n i1 σ) (callP Tryd.prog Lb (n + 1) 35 [.int .i64 i1] σ) :=
  goT_call (f35_g _ n i1 σ) rfl (by kernel_rfl) (by kernel_rfl)
/-! ### binnacle/inst.reg(n) -/
noncomputable def f53_t (_ : Leaf) (n : Nat) (i1 : Int) (σ : St) : Out :=
 callT Tryd.prog Lb n 63 [.int .i64 i1] σ fun v3 σ2 =>
 xStr v3 fun s4 =>
 catK [120] s4 fun s5 =>
 some (.ret (.str s5), σ2)
theorem f53_g (L : Leaf) (n : Nat) (i1 : Int) (σ : St) : goT Tryd.prog Lb 53 n L [] [] [] ⟨tm 6 [(0, .v (.int .i64 i1))] 0, []⟩ σ = f53_t L n i1 σ := by kernel_rfl
theorem f53_e {n : Nat} {i1 : Int} {σ : St} : Le (f53_t (pt Tryd.prog Lb 53 n) n i1 σ) (callP Tryd.prog Lb (n + 1) 53 [.int .i64 i1] σ) :=
  goT_call (f53_g _ n i1 σ) rfl (by kernel_rfl) (by kernel_rfl)
/-! ### binnacle/inst.names() -/
noncomputable def f44_t (_ : Leaf) (n : Nat) (σ : St) : Out :=
 callT Tryd.prog Lb n 59 [.str [108, 117, 105, 32, 97, 117, 105, 112, 99, 32, 106, 97, 108, 32, 106, 97, 108, 114, 32, 98, 101, 113, 32, 98, 110, 101, 32, 98, 108, 116, 32, 98, 103, 101, 32, 98, 108, 116, 117, 32, 98, 103, 101, 117, 32, 108, 98, 32, 108, 104, 32, 108, 119, 32, 108, 100, 32, 108, 98, 117, 32, 108, 104, 117, 32, 108, 119, 117, 32, 115, 98, 32, 115, 104, 32, 115, 119, 32, 115, 100, 32, 97, 100, 100, 105, 32, 115, 108, 116, 105, 32, 115, 108, 116, 105, 117, 32, 120, 111, 114, 105, 32, 111, 114, 105, 32, 97, 110, 100, 105, 32, 115, 108, 108, 105, 32, 115, 114, 108, 105, 32, 115, 114, 97, 105, 32, 97, 100, 100, 105, 119, 32, 115, 108, 108, 105, 119, 32, 115, 114, 108, 105, 119, 32, 115, 114, 97, 105, 119, 32, 97, 100, 100, 32, 115, 117, 98, 32, 115, 108, 108, 32, 115, 108, 116, 32, 115, 108, 116, 117, 32, 120, 111, 114, 32, 115, 114, 108, 32, 115, 114, 97, 32, 111, 114, 32, 97, 110, 100, 32, 97, 100, 100, 119, 32, 115, 117, 98, 119, 32, 115, 108, 108, 119, 32, 115, 114, 108, 119, 32, 115, 114, 97, 119, 32, 109, 117, 108, 32, 109, 117, 108, 104, 32, 109, 117, 108, 104, 115, 117, 32, 109, 117, 108, 104, 117, 32, 100, 105, 118, 32, 100, 105, 118, 117, 32, 114, 101, 109, 32, 114, 101, 109, 117, 32, 109, 117, 108, 119, 32, 100, 105, 118, 119, 32, 100, 105, 118, 117, 119, 32, 114, 101, 109, 119, 32, 114, 101, 109, 117, 119, 32, 102, 101, 110, 99, 101, 32, 101, 99, 97, 108, 108, 32, 101, 98, 114, 101, 97, 107, 32, 108, 114, 46, 119, 32, 115, 99, 46, 119, 32, 97, 109, 111, 115, 119, 97, 112, 46, 119, 32, 97, 109, 111, 97, 100, 100, 46, 119, 32, 97, 109, 111, 120, 111, 114, 46, 119, 32, 97, 109, 111, 97, 110, 100, 46, 119, 32, 97, 109, 111, 111, 114, 46, 119, 32, 97, 109, 111, 109, 105, 110, 46, 119, 32, 97, 109, 111, 109, 97, 120, 46, 119, 32, 97, 109, 111, 109, 105, 110, 117, 46, 119, 32, 97, 109, 111, 109, 97, 120, 117, 46, 119, 32, 108, 114, 46, 100, 32, 115, 99, 46, 100, 32, 97, 109, 111, 115, 119, 97, 112, 46, 100, 32, 97, 109, 111, 97, 100, 100, 46, 100, 32, 97, 109, 111, 120, 111, 114, 46, 100, 32, 97, 109, 111, 97, 110, 100, 46, 100, 32, 97, 109, 111, 111, 114, 46, 100, 32, 97, 109, 111, 109, 105, 110, 46, 100, 32, 97, 109, 111, 109, 97, 120, 46, 100, 32, 97, 109, 111, 109, 105, 110, 117, 46, 100, 32, 97, 109, 111, 109, 97, 120, 117, 46, 100]] σ fun v2 σ1 =>
 xSl v2 fun a3 n4 c5 z6 =>
 some (.ret (.slice a3 n4 c5 z6), σ1)
theorem f44_g (L : Leaf) (n : Nat)  (σ : St) : goT Tryd.prog Lb 44 n L [] [] [] ⟨tm 2 [] 0, []⟩ σ = f44_t L n  σ := by kernel_rfl
theorem f44_e {n : Nat}  {σ : St} : Le (f44_t (pt Tryd.prog Lb 44 n) n  σ) (callP Tryd.prog Lb (n + 1) 44 [] σ) :=
  goT_call (f44_g _ n  σ) rfl (by kernel_rfl) (by kernel_rfl)
end Go.Proofs

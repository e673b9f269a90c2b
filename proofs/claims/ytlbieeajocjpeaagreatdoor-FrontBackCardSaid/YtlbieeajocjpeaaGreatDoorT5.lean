/- The functions, as trees of named steps. -/
import Derived.Test.YtlbieeajocjpeaaGreatDoorAmT
import Derived.Test.YtlbieeajocjpeaaGreatDoorBuilder
import Derived.Test.YtlbieeajocjpeaaGreatDoorChecked
namespace Go.Proofs
open Go.AM
set_option maxHeartbeats 4000000
variable {L:Leaf} {n n2 z4 m0 b7 o8 n10 z12 n6 z8 m1 n13 z15 n24 z26 n12 z14 n23 z25 b2 o3 b4 o5 n7 z9 b10 o11 b12 o13 n17 z19 n26 z28 n18 z20 n27 z29 n19 z21 n28 z30 n11 z13 n8 z10 n3 z5 n4 z6 b1 o2 b6 o7:Nat} {a1 a9 a5 a12 a23 a11 a22 a6 a16 a25 a17 a26 a18 a27 a10 a7 a2 a3:Ad} {c3 c11 c7 c14 c25 c13 c24 c8 c18 c27 c19 c28 c20 c29 c12 m5 c9 c4 c5:On} {σ:St} {s5 s20 s19 s13 s22 s14 s23 s15 s24 s7 s6 s9:By} {i6 i13 i14 i9 i10 i11 i16 i17 i18 i19 i21 i22 i15 i20 i2 i12 i23 i24 i25 i26 i5 i8 i7 i3 i4 i1:Int} {b11 b8 b3:Bool} {x6 x2:AV}
set_option maxRecDepth 100000
noncomputable def f8_l1 (L:Leaf) (m0:Nat) (a1:Ad) (n2:Nat) (c3:On) (z4:Nat) (s5:By) (i6:Int) (b7 o8:Nat) (a9:Ad) (n10:Nat) (c11:On) (z12:Nat) (i13 i14:Int) (σ:St):Out:=
 L [1,1,1,0,1,0] [m0] ⟨tm 57 [(0,.v (.slice a1 n2 c3 z4)),(2,.v (.str s5)),(3,.v (.int .i64 i6)),(4,.v (.ptr (some (b7,o8)))),(23,.v (.slice a9 n10 c11 z12)),(24,.v (.int .i64 i13)),(25,.v (.int .i64 i14))] 0,[],[]⟩ σ
noncomputable def f8_j2 (L:Leaf) (a1:Ad) (n2:Nat) (c3:On) (z4:Nat) (s5:By) (i6:Int) (b7 o8:Nat) (σ:St):Out:=
 L [1,1,1,1] [] ⟨tm 57 [(0,.v (.slice a1 n2 c3 z4)),(2,.v (.str s5)),(3,.v (.int .i64 i6)),(4,.v (.ptr (some (b7,o8))))] 0,[],[]⟩ σ
noncomputable def f8_t (L:Leaf) (n:Nat) (a1:Ad) (n2:Nat) (c3:On) (z4:Nat) (σ:St):Out:=
 callT Tryz.prog Lb n 15 [.slice a1 n2 c3 z4] σ fun v6 σ5=>
 xBool v6 fun b7=>
 cond (!b7) (some (.ret (.tuple [.str [],.int .i64 (6:Int)]),σ5)) (idxK (IntKind.wrap .i64 ((n2:Int) - (1:Int))) n2 <|
 derefK a1 fun b8 o9=>
 szK z4 6 <|
 ldK Tryz.prog 32 (σ5 ++ [AObj.cells [.slice a1 n2 c3 z4,.ptr none,.slice none 0 (some 0) 0] (.rw (.box 57))]:St) b8 ((o9 + (((IntKind.wrap .i64 ((n2:Int) - (1:Int)))).toNat * 6)) + 5) fun x10=>
 xSl x10 fun a11 n12 c13 z14=>
 f8_l1 L n a1 n2 c3 z4 [] (0:Int) σ5.length 0 a11 n12 c13 z14 (n12:Int) (0:Int) (σ5 ++ [AObj.cells [.slice a1 n2 c3 z4,.ptr none,.slice none 0 (some 0) 0] (.rw (.box 57))]:St))
theorem f8_g:goT Tryz.prog Lb 8 n L [] [] [] ⟨tm 57 [(0,.v (.slice a1 n2 c3 z4))] 0,[],[]⟩ σ = f8_t L n a1 n2 c3 z4 σ:=by kernel_rfl
theorem f8_e:Le (f8_t (pt Tryz.prog Lb 8 n) n a1 n2 c3 z4 σ) (callP Tryz.prog Lb (n + 1) 8 [.slice a1 n2 c3 z4] σ):=
 goT_call f8_g rfl (by kernel_rfl) (by kernel_rfl)
noncomputable def f8_l1_t (L:Leaf) (n m0:Nat) (a1:Ad) (n2:Nat) (c3:On) (z4:Nat) (s5:By) (i6:Int) (b7 o8:Nat) (a9:Ad) (n10:Nat) (c11:On) (z12:Nat) (i13 i14:Int) (σ:St):Out:=
 cond (decide (i14 < i13)) (idxK i14 n10 <|
 derefK a9 fun b15 o16=>
 szK z12 1 <|
 ldK Tryz.prog 3 σ b15 (o16 + ((i14).toNat * 1)) fun x17=>
 xInt .i64 x17 fun i18=>
 callT Tryz.prog Lb n 16 [.ptr (some (b7,o8)),.int .i64 i18] σ fun _ σ19=>
 f8_l1 L m0 a1 n2 c3 z4 s5 i6 b7 o8 a9 n10 c11 z12 i13 (IntKind.wrap .i64 (i14 + (1:Int))) σ19) (f8_j2 L a1 n2 c3 z4 s5 i6 b7 o8 σ)
theorem f8_l1_g:f8_l1 (goT Tryz.prog Lb 8 n L [[1,1,1,1]]) (m0 + 1) a1 n2 c3 z4 s5 i6 b7 o8 a9 n10 c11 z12 i13 i14 σ = f8_l1_t L n m0 a1 n2 c3 z4 s5 i6 b7 o8 a9 n10 c11 z12 i13 i14 σ:=by kernel_rfl
theorem f8_l1_e:Le (f8_l1_t (pt Tryz.prog Lb 8 n) n m0 a1 n2 c3 z4 s5 i6 b7 o8 a9 n10 c11 z12 i13 i14 σ) (f8_l1 (pt Tryz.prog Lb 8 n) (m0 + 1) a1 n2 c3 z4 s5 i6 b7 o8 a9 n10 c11 z12 i13 i14 σ):=by
 unfold f8_l1;exact goT_pt f8_l1_g
noncomputable def f8_j2_t (_:Leaf) (n:Nat) (a1:Ad) (n2:Nat) (c3:On) (z4:Nat) (_:By) (_:Int) (b7 o8:Nat) (σ:St):Out:=
 callT Tryz.prog Lb n 17 [.ptr (some (b7,(o8 + 1)))] σ fun v10 σ9=>
 xStr v10 fun s11=>
 callT Tryz.prog Lb n 18 [.ptr (some (σ9.length,0))] (σ9 ++ [AObj.cells [.str s11,.int .i64 (0:Int),.int .i64 (0:Int),.int .i64 (0:Int),.str [],.int .i64 (0:Int),.slice none 0 (some 0) 0,.int .i64 (0:Int)] (.rw (.box 46))]:St) fun v13 σ12=>
 xTup v13 fun cs14=>
 unC cs14 fun x15 r16=>
 xSl x15 fun a17 n18 c19 z20=>
 unC r16 fun x21 r22=>
 xBool x21 fun b23=>
 nlC r22 <|
 cond (!b23) (some (.ret (.tuple [.str [],.int .i64 (6:Int)]),σ12)) (callT Tryz.prog Lb n 19 [.slice a1 n2 c3 z4,.slice a17 n18 c19 z20] σ12 fun v25 σ24=>
 xBool v25 fun b26=>
 cond (!b26) (some (.ret (.tuple [.str [],.int .i64 (6:Int)]),σ24)) (cond (decide ((s11.length:Int) > (8192:Int))) (some (.ret (.tuple [.str [],.int .i64 (15:Int)]),σ24)) (some (.ret (.tuple [.str s11,.int .i64 (0:Int)]),σ24))))
theorem f8_j2_g:f8_j2 (goT Tryz.prog Lb 8 n L []) a1 n2 c3 z4 s5 i6 b7 o8 σ = f8_j2_t L n a1 n2 c3 z4 s5 i6 b7 o8 σ:=by kernel_rfl
theorem f8_j2_e:Le (f8_j2_t (pt Tryz.prog Lb 8 n) n a1 n2 c3 z4 s5 i6 b7 o8 σ) (f8_j2 (pt Tryz.prog Lb 8 n) a1 n2 c3 z4 s5 i6 b7 o8 σ):=by
 unfold f8_j2;exact goT_pt f8_j2_g
noncomputable def f15_l1 (L:Leaf) (m0:Nat) (a1:Ad) (n2:Nat) (c3:On) (z4:Nat) (a5:Ad) (n6:Nat) (c7:On) (z8:Nat) (a9:Ad) (n10:Nat) (c11:On) (z12:Nat) (i13 i14:Int) (σ:St):Out:=
 L [1,1,1,0,1,0] [m0] ⟨tm 78 [(0,.v (.slice a1 n2 c3 z4)),(2,.v (.bool false)),(3,.v (.slice a5 n6 c7 z8)),(30,.v (.slice a9 n10 c11 z12)),(31,.v (.int .i64 i13)),(32,.v (.int .i64 i14))] 0,[],[]⟩ σ
noncomputable def f15_l2 (L:Leaf) (m0 m1:Nat) (a1:Ad) (n2:Nat) (c3:On) (z4:Nat) (a5:Ad) (n6:Nat) (c7:On) (z8:Nat) (i9 i10 i11:Int) (a12:Ad) (n13:Nat) (c14:On) (z15:Nat) (i16 i17 i18 i19:Int) (s20:By) (i21 i22:Int) (a23:Ad) (n24:Nat) (c25:On) (z26:Nat) (σ:St):Out:=
 L [1,1,1,0,1,0,0,1,1,0,0,1,1,0,1,0] [m0,m1] ⟨tm 78 [(0,.v (.slice a1 n2 c3 z4)),(2,.v (.bool false)),(3,.v (.slice a5 n6 c7 z8)),(4,.v (.int .i64 i9)),(5,.lp 5 0),(6,.v (.int .i64 i10)),(7,.v (.int .i64 i11)),(30,.v (.slice a12 n13 c14 z15)),(31,.v (.int .i64 i16)),(32,.v (.int .i64 i17))] 0,[(5,[.int .i64 i18,.int .i64 i19,.str s20,.int .i64 i21,.int .i64 i22,.slice a23 n24 c25 z26])],[]⟩ σ
noncomputable def f15_j3 (L:Leaf) (a1:Ad) (n2:Nat) (c3:On) (z4:Nat) (a5:Ad) (n6:Nat) (c7:On) (z8:Nat) (σ:St):Out:=
 L [1,1,1,1] [] ⟨tm 78 [(0,.v (.slice a1 n2 c3 z4)),(2,.v (.bool false)),(3,.v (.slice a5 n6 c7 z8))] 0,[],[]⟩ σ
noncomputable def f15_j4 (L:Leaf) (m0:Nat) (a1:Ad) (n2:Nat) (c3:On) (z4:Nat) (a5:Ad) (n6:Nat) (c7:On) (z8:Nat) (i9 i10:Int) (a11:Ad) (n12:Nat) (c13:On) (z14:Nat) (i15 i16 i17 i18:Int) (s19:By) (i20 i21:Int) (a22:Ad) (n23:Nat) (c24:On) (z25:Nat) (σ:St):Out:=
 L [1,1,1,0,1,0,0,1,1,0,0,1,1,1] [m0] ⟨tm 78 [(0,.v (.slice a1 n2 c3 z4)),(2,.v (.bool false)),(3,.v (.slice a5 n6 c7 z8)),(4,.v (.int .i64 i9)),(5,.lp 5 0),(6,.v (.int .i64 i10)),(30,.v (.slice a11 n12 c13 z14)),(31,.v (.int .i64 i15)),(32,.v (.int .i64 i16))] 0,[(5,[.int .i64 i17,.int .i64 i18,.str s19,.int .i64 i20,.int .i64 i21,.slice a22 n23 c24 z25])],[]⟩ σ
noncomputable def f15_j5 (L:Leaf) (m0:Nat) (a1:Ad) (n2:Nat) (c3:On) (z4:Nat) (a5:Ad) (n6:Nat) (c7:On) (z8:Nat) (a9:Ad) (n10:Nat) (c11:On) (z12:Nat) (i13 i14:Int) (σ:St):Out:=
 L [1,1,1,0,1,0,0,1,1,1] [m0] ⟨tm 78 [(0,.v (.slice a1 n2 c3 z4)),(2,.v (.bool false)),(3,.v (.slice a5 n6 c7 z8)),(30,.v (.slice a9 n10 c11 z12)),(31,.v (.int .i64 i13)),(32,.v (.int .i64 i14))] 0,[],[]⟩ σ
noncomputable def f15_t (L:Leaf) (n:Nat) (a1:Ad) (n2:Nat) (c3:On) (z4:Nat) (σ:St):Out:=
 cond ((n2:Int) == (0:Int)) (some (.ret (.bool false),σ)) (cond (decide ((n2:Int) > (4096:Int))) (some (.ret (.bool false),σ)) (idxK (IntKind.wrap .i64 ((n2:Int) - (1:Int))) n2 <|
 derefK a1 fun b5 o6=>
 szK z4 6 <|
 ldK Tryz.prog 3 σ b5 ((o6 + (((IntKind.wrap .i64 ((n2:Int) - (1:Int)))).toNat * 6)) + 0) fun x7=>
 xInt .i64 x7 fun i8=>
 cond (i8 != (23:Int)) (some (.ret (.bool false),σ)) (makeK Tryz.prog 3 1 (n2:Int) (n2:Int) σ fun σ9=>
 f15_l1 L n a1 n2 c3 z4 (some (σ.length,0)) (((n2:Int)).toNat) (some ((n2:Int)).toNat) 1 a1 n2 c3 z4 (n2:Int) (0:Int) σ9)))
theorem f15_g:goT Tryz.prog Lb 15 n L [] [] [] ⟨tm 78 [(0,.v (.slice a1 n2 c3 z4))] 0,[],[]⟩ σ = f15_t L n a1 n2 c3 z4 σ:=by kernel_rfl
theorem f15_e:Le (f15_t (pt Tryz.prog Lb 15 n) n a1 n2 c3 z4 σ) (callP Tryz.prog Lb (n + 1) 15 [.slice a1 n2 c3 z4] σ):=
 goT_call f15_g rfl (by kernel_rfl) (by kernel_rfl)
noncomputable def f15_l1_t (L:Leaf) (n m0:Nat) (a1:Ad) (n2:Nat) (c3:On) (z4:Nat) (a5:Ad) (n6:Nat) (c7:On) (z8:Nat) (a9:Ad) (n10:Nat) (c11:On) (z12:Nat) (i13 i14:Int) (σ:St):Out:=
 cond (decide (i14 < i13)) (idxK i14 n10 <|
 derefK a9 fun b15 o16=>
 szK z12 6 <|
 ldK Tryz.prog 34 σ b15 (o16 + ((i14).toNat * 6)) fun x17=>
 xAgg x17 fun cs18=>
 unC cs18 fun x19 r20=>
 xInt .i64 x19 fun i21=>
 unC r20 fun x22 r23=>
 xInt .i64 x22 fun i24=>
 unC r23 fun x25 r26=>
 xStr x25 fun s27=>
 unC r26 fun x28 r29=>
 xInt .i64 x28 fun i30=>
 unC r29 fun x31 r32=>
 xInt .i64 x31 fun i33=>
 unC r32 fun x34 r35=>
 xSl x34 fun a36 n37 c38 z39=>
 nlC r35 <|
 f15_l2 L m0 n a1 n2 c3 z4 a5 n6 c7 z8 i14 i14 (IntKind.wrap .i64 ((n37:Int) - (1:Int))) a9 n10 c11 z12 i13 i14 i21 i24 s27 i30 i33 a36 n37 c38 z39 σ) (f15_j3 L a1 n2 c3 z4 a5 n6 c7 z8 σ)
theorem f15_l1_g:f15_l1 (goT Tryz.prog Lb 15 n L [[1,1,1,1]]) (m0 + 1) a1 n2 c3 z4 a5 n6 c7 z8 a9 n10 c11 z12 i13 i14 σ = f15_l1_t L n m0 a1 n2 c3 z4 a5 n6 c7 z8 a9 n10 c11 z12 i13 i14 σ:=by kernel_rfl
theorem f15_l1_e:Le (f15_l1_t (pt Tryz.prog Lb 15 n) n m0 a1 n2 c3 z4 a5 n6 c7 z8 a9 n10 c11 z12 i13 i14 σ) (f15_l1 (pt Tryz.prog Lb 15 n) (m0 + 1) a1 n2 c3 z4 a5 n6 c7 z8 a9 n10 c11 z12 i13 i14 σ):=by
 unfold f15_l1;exact goT_pt f15_l1_g
noncomputable def f15_l2_t (L:Leaf) (_ m0 m1:Nat) (a1:Ad) (n2:Nat) (c3:On) (z4:Nat) (a5:Ad) (n6:Nat) (c7:On) (z8:Nat) (i9 i10 i11:Int) (a12:Ad) (n13:Nat) (c14:On) (z15:Nat) (i16 i17 i18 i19:Int) (s20:By) (i21 i22:Int) (a23:Ad) (n24:Nat) (c25:On) (z26:Nat) (σ:St):Out:=
 cond (decide (i11 ≥ (0:Int))) (idxK i11 n24 <|
 derefK a23 fun b27 o28=>
 szK z26 1 <|
 ldK Tryz.prog 3 σ b27 (o28 + ((i11).toNat * 1)) fun x29=>
 xInt .i64 x29 fun i30=>
 cond (i30 != (IntKind.wrap .i64 (i10 - (1:Int)))) (some (.ret (.bool false),σ)) (cond (i10 == (0:Int)) (some (.ret (.bool false),σ)) (idxK (IntKind.wrap .i64 (i10 - (1:Int))) n6 <|
 derefK a5 fun b31 o32=>
 szK z8 1 <|
 ldK Tryz.prog 3 σ b31 (o32 + (((IntKind.wrap .i64 (i10 - (1:Int)))).toNat * 1)) fun x33=>
 xInt .i64 x33 fun i34=>
 f15_l2 L m0 m1 a1 n2 c3 z4 a5 n6 c7 z8 i9 i34 (IntKind.wrap .i64 (i11 - (1:Int))) a12 n13 c14 z15 i16 i17 i18 i19 s20 i21 i22 a23 n24 c25 z26 σ))) (f15_j4 L m0 a1 n2 c3 z4 a5 n6 c7 z8 i9 i10 a12 n13 c14 z15 i16 i17 i18 i19 s20 i21 i22 a23 n24 c25 z26 σ)
theorem f15_l2_g:f15_l2 (goT Tryz.prog Lb 15 n L [[1,1,1,0,1,0,0,1,1,0,0,1,1,1]]) m0 (m1 + 1) a1 n2 c3 z4 a5 n6 c7 z8 i9 i10 i11 a12 n13 c14 z15 i16 i17 i18 i19 s20 i21 i22 a23 n24 c25 z26 σ = f15_l2_t L n m0 m1 a1 n2 c3 z4 a5 n6 c7 z8 i9 i10 i11 a12 n13 c14 z15 i16 i17 i18 i19 s20 i21 i22 a23 n24 c25 z26 σ:=by kernel_rfl
theorem f15_l2_e:Le (f15_l2_t (pt Tryz.prog Lb 15 n) n m0 m1 a1 n2 c3 z4 a5 n6 c7 z8 i9 i10 i11 a12 n13 c14 z15 i16 i17 i18 i19 s20 i21 i22 a23 n24 c25 z26 σ) (f15_l2 (pt Tryz.prog Lb 15 n) m0 (m1 + 1) a1 n2 c3 z4 a5 n6 c7 z8 i9 i10 i11 a12 n13 c14 z15 i16 i17 i18 i19 s20 i21 i22 a23 n24 c25 z26 σ):=by
 unfold f15_l2;exact goT_pt f15_l2_g
noncomputable def f15_j3_t (_:Leaf) (_:Nat) (_:Ad) (n2:Nat) (_:On) (_:Nat) (a5:Ad) (n6:Nat) (_:On) (z8:Nat) (σ:St):Out:=
 idxK (IntKind.wrap .i64 ((n2:Int) - (1:Int))) n6 <|
 derefK a5 fun b9 o10=>
 szK z8 1 <|
 ldK Tryz.prog 3 σ b9 (o10 + (((IntKind.wrap .i64 ((n2:Int) - (1:Int)))).toNat * 1)) fun x11=>
 xInt .i64 x11 fun i12=>
 some (.ret (.bool (i12 == (0:Int))),σ)
theorem f15_j3_g:f15_j3 (goT Tryz.prog Lb 15 n L []) a1 n2 c3 z4 a5 n6 c7 z8 σ = f15_j3_t L n a1 n2 c3 z4 a5 n6 c7 z8 σ:=by kernel_rfl
theorem f15_j3_e:Le (f15_j3_t (pt Tryz.prog Lb 15 n) n a1 n2 c3 z4 a5 n6 c7 z8 σ) (f15_j3 (pt Tryz.prog Lb 15 n) a1 n2 c3 z4 a5 n6 c7 z8 σ):=by
 unfold f15_j3;exact goT_pt f15_j3_g
noncomputable def f15_j4_t (L:Leaf) (n m0:Nat) (a1:Ad) (n2:Nat) (c3:On) (z4:Nat) (a5:Ad) (n6:Nat) (c7:On) (z8:Nat) (i9 i10:Int) (a11:Ad) (n12:Nat) (c13:On) (z14:Nat) (i15 i16 i17 i18:Int) (s19:By) (i20 i21:Int) (a22:Ad) (n23:Nat) (c24:On) (z25:Nat) (σ:St):Out:=
 idxK i9 n6 <|
 derefK a5 fun b26 o27=>
 szK z8 1 <|
 stK σ b26 (o27 + ((i9).toNat * 1)) [.int .i64 i10] fun σ28=>
 callT Tryz.prog Lb n 37 [.slice a1 n2 c3 z4,.agg [.int .i64 i17,.int .i64 i18,.str s19,.int .i64 i20,.int .i64 i21,.slice a22 n23 c24 z25]] σ28 fun v30 σ29=>
 xBool v30 fun b31=>
 cond (!b31) (some (.ret (.bool false),σ29)) (f15_j5 L m0 a1 n2 c3 z4 a5 n6 c7 z8 a11 n12 c13 z14 i15 i16 σ29)
theorem f15_j4_g:f15_j4 (goT Tryz.prog Lb 15 n L [[1,1,1,0,1,0,0,1,1,1]]) m0 a1 n2 c3 z4 a5 n6 c7 z8 i9 i10 a11 n12 c13 z14 i15 i16 i17 i18 s19 i20 i21 a22 n23 c24 z25 σ = f15_j4_t L n m0 a1 n2 c3 z4 a5 n6 c7 z8 i9 i10 a11 n12 c13 z14 i15 i16 i17 i18 s19 i20 i21 a22 n23 c24 z25 σ:=by kernel_rfl
theorem f15_j4_e:Le (f15_j4_t (pt Tryz.prog Lb 15 n) n m0 a1 n2 c3 z4 a5 n6 c7 z8 i9 i10 a11 n12 c13 z14 i15 i16 i17 i18 s19 i20 i21 a22 n23 c24 z25 σ) (f15_j4 (pt Tryz.prog Lb 15 n) m0 a1 n2 c3 z4 a5 n6 c7 z8 i9 i10 a11 n12 c13 z14 i15 i16 i17 i18 s19 i20 i21 a22 n23 c24 z25 σ):=by
 unfold f15_j4;exact goT_pt f15_j4_g
noncomputable def f15_j5_t (L:Leaf) (_ m0:Nat) (a1:Ad) (n2:Nat) (c3:On) (z4:Nat) (a5:Ad) (n6:Nat) (c7:On) (z8:Nat) (a9:Ad) (n10:Nat) (c11:On) (z12:Nat) (i13 i14:Int) (σ:St):Out:=
 f15_l1 L m0 a1 n2 c3 z4 a5 n6 c7 z8 a9 n10 c11 z12 i13 (IntKind.wrap .i64 (i14 + (1:Int))) σ
theorem f15_j5_g:f15_j5 (goT Tryz.prog Lb 15 n L []) m0 a1 n2 c3 z4 a5 n6 c7 z8 a9 n10 c11 z12 i13 i14 σ = f15_j5_t L n m0 a1 n2 c3 z4 a5 n6 c7 z8 a9 n10 c11 z12 i13 i14 σ:=by kernel_rfl
theorem f15_j5_e:Le (f15_j5_t (pt Tryz.prog Lb 15 n) n m0 a1 n2 c3 z4 a5 n6 c7 z8 a9 n10 c11 z12 i13 i14 σ) (f15_j5 (pt Tryz.prog Lb 15 n) m0 a1 n2 c3 z4 a5 n6 c7 z8 a9 n10 c11 z12 i13 i14 σ):=by
 unfold f15_j5;exact goT_pt f15_j5_g
noncomputable def f16_t (_:Leaf) (n:Nat) (a1:Ad) (i2:Int) (σ:St):Out:=
 derefK a1 fun b3 o4=>
 ldK Tryz.prog 24 σ b3 (o4 + 0) fun x5=>
 xSl x5 fun a6 n7 _ z9=>
 idxK i2 n7 <|
 derefK a6 fun b10 o11=>
 szK z9 6 <|
 ldK Tryz.prog 34 σ b10 (o11 + ((i2).toNat * 6)) fun x12=>
 xAgg x12 fun cs13=>
 unC cs13 fun x14 r15=>
 xInt .i64 x14 fun i16=>
 unC r15 fun x17 r18=>
 xInt .i64 x17 fun _=>
 unC r18 fun x20 r21=>
 xStr x20 fun s22=>
 unC r21 fun x23 r24=>
 xInt .i64 x23 fun i25=>
 unC r24 fun x26 r27=>
 xInt .i64 x26 fun i28=>
 unC r27 fun x29 r30=>
 xSl x29 fun a31 n32 c33 z34=>
 nlC r30 <|
 cond (i16 == (20:Int)) (callT Tryz.prog Lb n 38 [.ptr a1,.slice (some (σ.length,0)) 3 (some 3) 1] (σ ++ [AObj.cells [.str [105,110,116],.str s22,.str [59]] (.rw (.row 9))]:St) fun _ σ35=>
 some (.ret (.tuple []),σ35)) (cond (i16 == (21:Int)) (insK true (σ ++ [AObj.map []]:St) (σ.length) (.str [99,104,97,114]) fun σ37=>
 insK false σ37 (σ.length) (.str [105,110,116]) fun σ38=>
 lkK Tryz.prog 4 9 σ38 (some σ.length) (.bool (i28 == (2:Int))) fun x39 _=>
 xStr x39 fun s41=>
 apK [(σ.length,1),(σ.length,1)] <|
 callQ Tryz.prog Lb n 39 [.int .i64 i25,.int .i64 (10:Int)] σ38 fun v43=>
 xStr v43 fun s44=>
 keepsK [(σ,(σ ++ [AObj.map []]:St),1)] <|
 callTD Tryz.prog Lb n 38 [.ptr a1,.slice (some (σ38.length,0)) 6 (some 6) 1] (σ38 ++ [AObj.cells [.str s41,.str s22,.str [91],.str s44,.str [93],.str [59]] (.rw (.row 9))]:St) fun _ σ45=>
 some (.ret (.tuple []),σ45)) (cond (i16 == (22:Int)) (callT Tryz.prog Lb n 38 [.ptr a1,.slice (some (σ.length,0)) 3 (some 3) 1] (σ ++ [AObj.cells [.str [105,110,116],.str s22,.str [40]] (.rw (.row 9))]:St) fun _ σ47=>
 resliceK a31 n32 c33 z34 1 (0:Int) i28 fun a49 n50 c51=>
 callT Tryz.prog Lb n 40 [.ptr a1,.slice a49 n50 c51 z34,.func (.func 41) [.ptr a1] []] σ47 fun _ σ52=>
 callT Tryz.prog Lb n 38 [.ptr a1,.slice (some (σ52.length,0)) 1 (some 1) 1] (σ52 ++ [AObj.cells [.str [41]] (.rw (.row 9))]:St) fun _ σ54=>
 idxK i28 n32 <|
 derefK a31 fun b56 o57=>
 szK z34 1 <|
 ldK Tryz.prog 3 σ54 b56 (o57 + ((i28).toNat * 1)) fun x58=>
 xInt .i64 x58 fun i59=>
 callT Tryz.prog Lb n 42 [.ptr a1,.int .i64 i59] σ54 fun _ σ60=>
 some (.ret (.tuple []),σ60)) (some (.ret (.tuple []),σ))))
theorem f16_g:goT Tryz.prog Lb 16 n L [] [] [] ⟨tm 64 [(0,.v (.ptr a1)),(1,.v (.int .i64 i2))] 0,[],[]⟩ σ = f16_t L n a1 i2 σ:=by kernel_rfl
theorem f16_e:Le (f16_t (pt Tryz.prog Lb 16 n) n a1 i2 σ) (callP Tryz.prog Lb (n + 1) 16 [.ptr a1,.int .i64 i2] σ):=
 goT_call f16_g rfl (by kernel_rfl) (by kernel_rfl)
noncomputable def f18_l1 (L:Leaf) (m0:Nat) (a1:Ad) (b2 o3 b4 o5:Nat) (a6:Ad) (n7:Nat) (c8:On) (z9 b10 o11 b12 o13:Nat) (σ:St):Out:=
 L [1,1,1,1,0,0] [m0] ⟨tm 30 [(0,.v (.ptr a1)),(2,.v (.ptr (some (b2,o3)))),(3,.v (.ptr (some (b4,o5)))),(4,.v (.slice a6 n7 c8 z9))] 0,[],[(43,[.ptr (some (b10,o11)),.ptr (some (b12,o13))])]⟩ σ
noncomputable def f18_j2 (L:Leaf) (a1:Ad) (b2 o3 b4 o5:Nat) (a6:Ad) (n7:Nat) (c8:On) (z9 b10 o11 b12 o13:Nat) (σ:St):Out:=
 L [1,1,1,1,1] [] ⟨tm 30 [(0,.v (.ptr a1)),(2,.v (.ptr (some (b2,o3)))),(3,.v (.ptr (some (b4,o5)))),(4,.v (.slice a6 n7 c8 z9))] 0,[],[(43,[.ptr (some (b10,o11)),.ptr (some (b12,o13))])]⟩ σ
noncomputable def f18_t (L:Leaf) (n:Nat) (a1:Ad) (σ:St):Out:=
 callE Tryz.prog Lb n 12 [.ptr a1] ((σ ++ [AObj.cells [.slice none 0 (some 0) 0] (.rw (.box 24))]:St) ++ [AObj.cells [.bool false] (.rw (.box 4))]:St) (fun v3 σ2=>
 xAgg v3 fun cs11=>
 unC cs11 fun x12 r13=>
 xInt .i64 x12 fun i14=>
 unC r13 fun x15 r16=>
 xInt .i64 x15 fun i17=>
 unC r16 fun x18 r19=>
 xStr x18 fun s20=>
 unC r19 fun x21 r22=>
 xInt .i64 x21 fun i23=>
 nlC r22 <|
 derefK a1 fun b24 o25=>
 stK σ2 b24 (o25 + 2) [.int .i64 i14,.int .i64 i17,.str s20,.int .i64 i23] fun σ26=>
 f18_l1 L n a1 σ.length 0 ((σ ++ [AObj.cells [.slice none 0 (some 0) 0] (.rw (.box 24))]:St).length) 0 none 0 (some 0) 0 σ.length 0 ((σ ++ [AObj.cells [.slice none 0 (some 0) 0] (.rw (.box 24))]:St).length) 0 σ26) (fun v4 σ5=>
 dfT Tryz.prog Lb n 43 [.ptr (some (σ.length,0)),.ptr (some ((σ ++ [AObj.cells [.slice none 0 (some 0) 0] (.rw (.box 24))]:St).length,0))] (some v4) σ5 fun u6 σ7=>
 lvK u6 (fun v8=>some (.pan v8,σ7)) (ldK Tryz.prog 24 σ7 σ.length 0 fun x9=>
 ldK Tryz.prog 4 σ7 (σ ++ [AObj.cells [.slice none 0 (some 0) 0] (.rw (.box 24))]:St).length 0 fun x10=>
 some (.ret (.tuple [x9,x10]),σ7)))
theorem f18_g:goT Tryz.prog Lb 18 n L [] [] [] ⟨tm 30 [(0,.v (.ptr a1))] 0,[],[]⟩ σ = f18_t L n a1 σ:=by kernel_rfl
theorem f18_e:Le (f18_t (pt Tryz.prog Lb 18 n) n a1 σ) (callP Tryz.prog Lb (n + 1) 18 [.ptr a1] σ):=
 goT_call f18_g rfl (by kernel_rfl) (by kernel_rfl)
noncomputable def f18_l1_t (L:Leaf) (n m0:Nat) (a1:Ad) (b2 o3 b4 o5:Nat) (a6:Ad) (n7:Nat) (c8:On) (z9 b10 o11 b12 o13:Nat) (σ:St):Out:=
 derefK a1 fun b14 o15=>
 ldK Tryz.prog 3 σ b14 ((o15 + 2) + 0) fun x16=>
 xInt .i64 x16 fun i17=>
 cond (i17 != (0:Int)) (callE Tryz.prog Lb n 13 [.ptr a1] σ (fun v19 σ18=>
 xInt .i64 v19 fun i27=>
 appK σ18 3 1 8 a6 n7 z9 1 [.int .i64 i27] fun a28 n29 c30 σ31=>
 f18_l1 L m0 a1 b2 o3 b4 o5 a28 n29 c30 1 b10 o11 b12 o13 σ31) (fun v20 σ21=>
 dfT Tryz.prog Lb n 43 [.ptr (some (b10,o11)),.ptr (some (b12,o13))] (some v20) σ21 fun u22 σ23=>
 lvK u22 (fun v24=>some (.pan v24,σ23)) (ldK Tryz.prog 24 σ23 b2 o3 fun x25=>
 ldK Tryz.prog 4 σ23 b4 o5 fun x26=>
 some (.ret (.tuple [x25,x26]),σ23)))) (f18_j2 L a1 b2 o3 b4 o5 a6 n7 c8 z9 b10 o11 b12 o13 σ)
theorem f18_l1_g:f18_l1 (goT Tryz.prog Lb 18 n L [[1,1,1,1,1]]) (m0 + 1) a1 b2 o3 b4 o5 a6 n7 c8 z9 b10 o11 b12 o13 σ = f18_l1_t L n m0 a1 b2 o3 b4 o5 a6 n7 c8 z9 b10 o11 b12 o13 σ:=by kernel_rfl
theorem f18_l1_e:Le (f18_l1_t (pt Tryz.prog Lb 18 n) n m0 a1 b2 o3 b4 o5 a6 n7 c8 z9 b10 o11 b12 o13 σ) (f18_l1 (pt Tryz.prog Lb 18 n) (m0 + 1) a1 b2 o3 b4 o5 a6 n7 c8 z9 b10 o11 b12 o13 σ):=by
 unfold f18_l1;exact goT_pt f18_l1_g
noncomputable def f18_j2_t (_:Leaf) (n:Nat) (a1:Ad) (b2 o3 b4 o5:Nat) (a6:Ad) (n7:Nat) (c8:On) (z9 b10 o11 b12 o13:Nat) (σ:St):Out:=
 callE Tryz.prog Lb n 14 [.ptr a1,.agg [.int .i64 (23:Int),.int .i64 (0:Int),.str [],.int .i64 (0:Int),.int .i64 (0:Int),.slice a6 n7 c8 z9]] σ (fun v15 σ14=>
 xInt .i64 v15 fun _=>
 derefK a1 fun b24 o25=>
 ldK Tryz.prog 24 σ14 b24 (o25 + 6) fun x26=>
 xSl x26 fun a27 n28 c29 z30=>
 stK σ14 b2 o3 [.slice a27 n28 c29 z30] fun σ31=>
 stK σ31 b4 o5 [.bool true] fun σ32=>
 dfT Tryz.prog Lb n 43 [.ptr (some (b10,o11)),.ptr (some (b12,o13))] none σ32 fun u33 σ34=>
 lvK u33 (fun v35=>some (.pan v35,σ34)) (ldK Tryz.prog 24 σ34 b2 o3 fun x36=>
 ldK Tryz.prog 4 σ34 b4 o5 fun x37=>
 some (.ret (.tuple [x36,x37]),σ34))) (fun v16 σ17=>
 dfT Tryz.prog Lb n 43 [.ptr (some (b10,o11)),.ptr (some (b12,o13))] (some v16) σ17 fun u18 σ19=>
 lvK u18 (fun v20=>some (.pan v20,σ19)) (ldK Tryz.prog 24 σ19 b2 o3 fun x21=>
 ldK Tryz.prog 4 σ19 b4 o5 fun x22=>
 some (.ret (.tuple [x21,x22]),σ19)))
theorem f18_j2_g:f18_j2 (goT Tryz.prog Lb 18 n L []) a1 b2 o3 b4 o5 a6 n7 c8 z9 b10 o11 b12 o13 σ = f18_j2_t L n a1 b2 o3 b4 o5 a6 n7 c8 z9 b10 o11 b12 o13 σ:=by kernel_rfl
theorem f18_j2_e:Le (f18_j2_t (pt Tryz.prog Lb 18 n) n a1 b2 o3 b4 o5 a6 n7 c8 z9 b10 o11 b12 o13 σ) (f18_j2 (pt Tryz.prog Lb 18 n) a1 b2 o3 b4 o5 a6 n7 c8 z9 b10 o11 b12 o13 σ):=by
 unfold f18_j2;exact goT_pt f18_j2_g
noncomputable def f19_l1 (L:Leaf) (m0:Nat) (a1:Ad) (n2:Nat) (c3:On) (z4:Nat) (a5:Ad) (n6:Nat) (c7:On) (z8:Nat) (i9 i10:Int) (σ:St):Out:=
 L [1,1,0,1,0] [m0] ⟨tm 81 [(0,.v (.slice a1 n2 c3 z4)),(1,.v (.slice a5 n6 c7 z8)),(4,.v (.bool false)),(15,.v (.int .i64 i9)),(16,.v (.int .i64 i10))] 0,[],[]⟩ σ
noncomputable def f19_j2 (L:Leaf) (m0:Nat) (a1:Ad) (n2:Nat) (c3:On) (z4:Nat) (a5:Ad) (n6:Nat) (c7:On) (z8:Nat) (i9 i10 i11 i12:Int) (s13:By) (i14 i15:Int) (a16:Ad) (n17:Nat) (c18:On) (z19:Nat) (i20 i21:Int) (s22:By) (i23 i24:Int) (a25:Ad) (n26:Nat) (c27:On) (z28:Nat) (σ:St):Out:=
 L [1,1,0,1,0,0,1,1,0,0,1,1,0,1] [m0] ⟨tm 81 [(0,.v (.slice a1 n2 c3 z4)),(1,.v (.slice a5 n6 c7 z8)),(4,.v (.bool false)),(6,.lp 6 0),(7,.lp 7 0),(15,.v (.int .i64 i9)),(16,.v (.int .i64 i10)),(61,.v (.bool true))] 0,[(6,[.int .i64 i11,.int .i64 i12,.str s13,.int .i64 i14,.int .i64 i15,.slice a16 n17 c18 z19]),(7,[.int .i64 i20,.int .i64 i21,.str s22,.int .i64 i23,.int .i64 i24,.slice a25 n26 c27 z28])],[]⟩ σ
noncomputable def f19_j3 (L:Leaf) (m0:Nat) (a1:Ad) (n2:Nat) (c3:On) (z4:Nat) (a5:Ad) (n6:Nat) (c7:On) (z8:Nat) (i9 i10:Int) (b11:Bool) (i12 i13:Int) (s14:By) (i15 i16:Int) (a17:Ad) (n18:Nat) (c19:On) (z20:Nat) (i21 i22:Int) (s23:By) (i24 i25:Int) (a26:Ad) (n27:Nat) (c28:On) (z29:Nat) (σ:St):Out:=
 L [1,1,0,1,0,0,1,1,0,0,1,1,0,1] [m0] ⟨tm 81 [(0,.v (.slice a1 n2 c3 z4)),(1,.v (.slice a5 n6 c7 z8)),(4,.v (.bool false)),(6,.lp 6 0),(7,.lp 7 0),(15,.v (.int .i64 i9)),(16,.v (.int .i64 i10)),(61,.v (.bool b11))] 0,[(6,[.int .i64 i12,.int .i64 i13,.str s14,.int .i64 i15,.int .i64 i16,.slice a17 n18 c19 z20]),(7,[.int .i64 i21,.int .i64 i22,.str s23,.int .i64 i24,.int .i64 i25,.slice a26 n27 c28 z29])],[]⟩ σ
noncomputable def f19_j4 (L:Leaf)  (σ:St):Out:=
 L [1,1,1] [] ⟨tm 81 [(4,.v (.bool false))] 0,[],[]⟩ σ
noncomputable def f19_l5 (L:Leaf) (m0 m1:Nat) (a1:Ad) (n2:Nat) (c3:On) (z4:Nat) (a5:Ad) (n6:Nat) (c7:On) (z8:Nat) (i9 i10 i11 i12 i13 i14:Int) (s15:By) (i16 i17:Int) (a18:Ad) (n19:Nat) (c20:On) (z21:Nat) (i22 i23:Int) (s24:By) (i25 i26:Int) (a27:Ad) (n28:Nat) (c29:On) (z30:Nat) (σ:St):Out:=
 L [1,1,0,1,0,0,1,1,0,0,1,1,1,1,0] [m0,m1] ⟨tm 81 [(0,.v (.slice a1 n2 c3 z4)),(1,.v (.slice a5 n6 c7 z8)),(4,.v (.bool false)),(6,.lp 6 0),(7,.lp 7 0),(15,.v (.int .i64 i9)),(16,.v (.int .i64 i10)),(64,.v (.int .i64 i11)),(65,.v (.int .i64 i12))] 0,[(6,[.int .i64 i13,.int .i64 i14,.str s15,.int .i64 i16,.int .i64 i17,.slice a18 n19 c20 z21]),(7,[.int .i64 i22,.int .i64 i23,.str s24,.int .i64 i25,.int .i64 i26,.slice a27 n28 c29 z30])],[]⟩ σ
noncomputable def f19_j6 (L:Leaf) (m0:Nat) (a1:Ad) (n2:Nat) (c3:On) (z4:Nat) (a5:Ad) (n6:Nat) (c7:On) (z8:Nat) (i9 i10:Int) (σ:St):Out:=
 L [1,1,0,1,0,0,1,1,1] [m0] ⟨tm 81 [(0,.v (.slice a1 n2 c3 z4)),(1,.v (.slice a5 n6 c7 z8)),(4,.v (.bool false)),(15,.v (.int .i64 i9)),(16,.v (.int .i64 i10))] 0,[],[]⟩ σ
noncomputable def f19_t (L:Leaf) (n:Nat) (a1:Ad) (n2:Nat) (c3:On) (z4:Nat) (a5:Ad) (n6:Nat) (c7:On) (z8:Nat) (σ:St):Out:=
 cond ((n2:Int) != (n6:Int)) (some (.ret (.bool false),σ)) (f19_l1 L n a1 n2 c3 z4 a5 n6 c7 z8 (n2:Int) (0:Int) σ)
theorem f19_g:goT Tryz.prog Lb 19 n L [] [] [] ⟨tm 81 [(0,.v (.slice a1 n2 c3 z4)),(1,.v (.slice a5 n6 c7 z8))] 0,[],[]⟩ σ = f19_t L n a1 n2 c3 z4 a5 n6 c7 z8 σ:=by kernel_rfl
theorem f19_e:Le (f19_t (pt Tryz.prog Lb 19 n) n a1 n2 c3 z4 a5 n6 c7 z8 σ) (callP Tryz.prog Lb (n + 1) 19 [.slice a1 n2 c3 z4,.slice a5 n6 c7 z8] σ):=
 goT_call f19_g rfl (by kernel_rfl) (by kernel_rfl)
noncomputable def f19_l1_t (L:Leaf) (_ m0:Nat) (a1:Ad) (n2:Nat) (c3:On) (z4:Nat) (a5:Ad) (n6:Nat) (c7:On) (z8:Nat) (i9 i10:Int) (σ:St):Out:=
 cond (decide (i10 < i9)) (idxK i10 n2 <|
 derefK a1 fun b11 o12=>
 szK z4 6 <|
 ldK Tryz.prog 34 σ b11 (o12 + ((i10).toNat * 6)) fun x13=>
 xAgg x13 fun cs14=>
 unC cs14 fun x15 r16=>
 xInt .i64 x15 fun i17=>
 unC r16 fun x18 r19=>
 xInt .i64 x18 fun i20=>
 unC r19 fun x21 r22=>
 xStr x21 fun s23=>
 unC r22 fun x24 r25=>
 xInt .i64 x24 fun i26=>
 unC r25 fun x27 r28=>
 xInt .i64 x27 fun i29=>
 unC r28 fun x30 r31=>
 xSl x30 fun a32 n33 c34 z35=>
 nlC r31 <|
 idxK i10 n6 <|
 derefK a5 fun b36 o37=>
 szK z8 6 <|
 ldK Tryz.prog 34 σ b36 (o37 + ((i10).toNat * 6)) fun x38=>
 xAgg x38 fun cs39=>
 unC cs39 fun x40 r41=>
 xInt .i64 x40 fun i42=>
 unC r41 fun x43 r44=>
 xInt .i64 x43 fun i45=>
 unC r44 fun x46 r47=>
 xStr x46 fun s48=>
 unC r47 fun x49 r50=>
 xInt .i64 x49 fun i51=>
 unC r50 fun x52 r53=>
 xInt .i64 x52 fun i54=>
 unC r53 fun x55 r56=>
 xSl x55 fun a57 n58 c59 z60=>
 nlC r56 <|
 cond (i17 != i42) (f19_j2 L m0 a1 n2 c3 z4 a5 n6 c7 z8 i9 i10 i17 i20 s23 i26 i29 a32 n33 c34 z35 i42 i45 s48 i51 i54 a57 n58 c59 z60 σ) (cond (!(s23 == s48)) (f19_j2 L m0 a1 n2 c3 z4 a5 n6 c7 z8 i9 i10 i17 i20 s23 i26 i29 a32 n33 c34 z35 i42 i45 s48 i51 i54 a57 n58 c59 z60 σ) (cond (i26 != i51) (f19_j2 L m0 a1 n2 c3 z4 a5 n6 c7 z8 i9 i10 i17 i20 s23 i26 i29 a32 n33 c34 z35 i42 i45 s48 i51 i54 a57 n58 c59 z60 σ) (cond (i29 != i54) (f19_j2 L m0 a1 n2 c3 z4 a5 n6 c7 z8 i9 i10 i17 i20 s23 i26 i29 a32 n33 c34 z35 i42 i45 s48 i51 i54 a57 n58 c59 z60 σ) (f19_j3 L m0 a1 n2 c3 z4 a5 n6 c7 z8 i9 i10 ((n33:Int) != (n58:Int)) i17 i20 s23 i26 i29 a32 n33 c34 z35 i42 i45 s48 i51 i54 a57 n58 c59 z60 σ))))) (f19_j4 L  σ)
theorem f19_l1_g:f19_l1 (goT Tryz.prog Lb 19 n L [[1,1,0,1,0,0,1,1,0,0,1,1,0,1],[1,1,1]]) (m0 + 1) a1 n2 c3 z4 a5 n6 c7 z8 i9 i10 σ = f19_l1_t L n m0 a1 n2 c3 z4 a5 n6 c7 z8 i9 i10 σ:=by kernel_rfl
theorem f19_l1_e:Le (f19_l1_t (pt Tryz.prog Lb 19 n) n m0 a1 n2 c3 z4 a5 n6 c7 z8 i9 i10 σ) (f19_l1 (pt Tryz.prog Lb 19 n) (m0 + 1) a1 n2 c3 z4 a5 n6 c7 z8 i9 i10 σ):=by
 unfold f19_l1;exact goT_pt f19_l1_g
noncomputable def f19_j3_t (L:Leaf) (n m0:Nat) (a1:Ad) (n2:Nat) (c3:On) (z4:Nat) (a5:Ad) (n6:Nat) (c7:On) (z8:Nat) (i9 i10:Int) (b11:Bool) (i12 i13:Int) (s14:By) (i15 i16:Int) (a17:Ad) (n18:Nat) (c19:On) (z20:Nat) (i21 i22:Int) (s23:By) (i24 i25:Int) (a26:Ad) (n27:Nat) (c28:On) (z29:Nat) (σ:St):Out:=
 cond b11 (some (.ret (.bool false),σ)) (f19_l5 L m0 n a1 n2 c3 z4 a5 n6 c7 z8 i9 i10 (n18:Int) (0:Int) i12 i13 s14 i15 i16 a17 n18 c19 z20 i21 i22 s23 i24 i25 a26 n27 c28 z29 σ)
theorem f19_j3_g:f19_j3 (goT Tryz.prog Lb 19 n L []) m0 a1 n2 c3 z4 a5 n6 c7 z8 i9 i10 b11 i12 i13 s14 i15 i16 a17 n18 c19 z20 i21 i22 s23 i24 i25 a26 n27 c28 z29 σ = f19_j3_t L n m0 a1 n2 c3 z4 a5 n6 c7 z8 i9 i10 b11 i12 i13 s14 i15 i16 a17 n18 c19 z20 i21 i22 s23 i24 i25 a26 n27 c28 z29 σ:=by kernel_rfl
theorem f19_j3_e:Le (f19_j3_t (pt Tryz.prog Lb 19 n) n m0 a1 n2 c3 z4 a5 n6 c7 z8 i9 i10 b11 i12 i13 s14 i15 i16 a17 n18 c19 z20 i21 i22 s23 i24 i25 a26 n27 c28 z29 σ) (f19_j3 (pt Tryz.prog Lb 19 n) m0 a1 n2 c3 z4 a5 n6 c7 z8 i9 i10 b11 i12 i13 s14 i15 i16 a17 n18 c19 z20 i21 i22 s23 i24 i25 a26 n27 c28 z29 σ):=by
 unfold f19_j3;exact goT_pt f19_j3_g
noncomputable def f19_j4_t (_:Leaf) (_:Nat) (σ:St):Out:=
 some (.ret (.bool true),σ)
theorem f19_j4_g:f19_j4 (goT Tryz.prog Lb 19 n L [])  σ = f19_j4_t L n  σ:=by kernel_rfl
theorem f19_j4_e:Le (f19_j4_t (pt Tryz.prog Lb 19 n) n  σ) (f19_j4 (pt Tryz.prog Lb 19 n)  σ):=by
 unfold f19_j4;exact goT_pt f19_j4_g
noncomputable def f19_l5_t (L:Leaf) (_ m0 m1:Nat) (a1:Ad) (n2:Nat) (c3:On) (z4:Nat) (a5:Ad) (n6:Nat) (c7:On) (z8:Nat) (i9 i10 i11 i12 i13 i14:Int) (s15:By) (i16 i17:Int) (a18:Ad) (n19:Nat) (c20:On) (z21:Nat) (i22 i23:Int) (s24:By) (i25 i26:Int) (a27:Ad) (n28:Nat) (c29:On) (z30:Nat) (σ:St):Out:=
 cond (decide (i12 < i11)) (idxK i12 n19 <|
 derefK a18 fun b31 o32=>
 szK z21 1 <|
 ldK Tryz.prog 3 σ b31 (o32 + ((i12).toNat * 1)) fun x33=>
 xInt .i64 x33 fun i34=>
 idxK i12 n28 <|
 derefK a27 fun b35 o36=>
 szK z30 1 <|
 ldK Tryz.prog 3 σ b35 (o36 + ((i12).toNat * 1)) fun x37=>
 xInt .i64 x37 fun i38=>
 cond (i34 != i38) (some (.ret (.bool false),σ)) (f19_l5 L m0 m1 a1 n2 c3 z4 a5 n6 c7 z8 i9 i10 i11 (IntKind.wrap .i64 (i12 + (1:Int))) i13 i14 s15 i16 i17 a18 n19 c20 z21 i22 i23 s24 i25 i26 a27 n28 c29 z30 σ)) (f19_j6 L m0 a1 n2 c3 z4 a5 n6 c7 z8 i9 i10 σ)
theorem f19_l5_g:f19_l5 (goT Tryz.prog Lb 19 n L [[1,1,0,1,0,0,1,1,1]]) m0 (m1 + 1) a1 n2 c3 z4 a5 n6 c7 z8 i9 i10 i11 i12 i13 i14 s15 i16 i17 a18 n19 c20 z21 i22 i23 s24 i25 i26 a27 n28 c29 z30 σ = f19_l5_t L n m0 m1 a1 n2 c3 z4 a5 n6 c7 z8 i9 i10 i11 i12 i13 i14 s15 i16 i17 a18 n19 c20 z21 i22 i23 s24 i25 i26 a27 n28 c29 z30 σ:=by kernel_rfl
theorem f19_l5_e:Le (f19_l5_t (pt Tryz.prog Lb 19 n) n m0 m1 a1 n2 c3 z4 a5 n6 c7 z8 i9 i10 i11 i12 i13 i14 s15 i16 i17 a18 n19 c20 z21 i22 i23 s24 i25 i26 a27 n28 c29 z30 σ) (f19_l5 (pt Tryz.prog Lb 19 n) m0 (m1 + 1) a1 n2 c3 z4 a5 n6 c7 z8 i9 i10 i11 i12 i13 i14 s15 i16 i17 a18 n19 c20 z21 i22 i23 s24 i25 i26 a27 n28 c29 z30 σ):=by
 unfold f19_l5;exact goT_pt f19_l5_g
noncomputable def f19_j6_t (L:Leaf) (_ m0:Nat) (a1:Ad) (n2:Nat) (c3:On) (z4:Nat) (a5:Ad) (n6:Nat) (c7:On) (z8:Nat) (i9 i10:Int) (σ:St):Out:=
 f19_l1 L m0 a1 n2 c3 z4 a5 n6 c7 z8 i9 (IntKind.wrap .i64 (i10 + (1:Int))) σ
theorem f19_j6_g:f19_j6 (goT Tryz.prog Lb 19 n L []) m0 a1 n2 c3 z4 a5 n6 c7 z8 i9 i10 σ = f19_j6_t L n m0 a1 n2 c3 z4 a5 n6 c7 z8 i9 i10 σ:=by kernel_rfl
theorem f19_j6_e:Le (f19_j6_t (pt Tryz.prog Lb 19 n) n m0 a1 n2 c3 z4 a5 n6 c7 z8 i9 i10 σ) (f19_j6 (pt Tryz.prog Lb 19 n) m0 a1 n2 c3 z4 a5 n6 c7 z8 i9 i10 σ):=by
 unfold f19_j6;exact goT_pt f19_j6_g
noncomputable def f37_l1 (L:Leaf) (m0:Nat) (a1:Ad) (n2:Nat) (c3:On) (z4:Nat) (m5:On) (s6:By) (a7:Ad) (n8:Nat) (c9:On) (z10:Nat) (i11 i12 i13 i14:Int) (s15:By) (i16 i17:Int) (a18:Ad) (n19:Nat) (c20:On) (z21:Nat) (σ:St):Out:=
 L [1,1,1,0,1,0] [m0] ⟨tm 145 [(0,.v (.slice a1 n2 c3 z4)),(3,.lp 3 0),(4,.v (.bool false)),(5,.v (.map m5)),(6,.v (.str s6)),(14,.v (.slice a7 n8 c9 z10)),(15,.v (.int .i64 i11)),(16,.v (.int .i64 i12))] 0,[(3,[.int .i64 i13,.int .i64 i14,.str s15,.int .i64 i16,.int .i64 i17,.slice a18 n19 c20 z21])],[]⟩ σ
noncomputable def f37_j2 (L:Leaf) (a1:Ad) (n2:Nat) (c3:On) (z4:Nat) (m5:On) (s6:By) (i7 i8:Int) (s9:By) (i10 i11:Int) (a12:Ad) (n13:Nat) (c14:On) (z15:Nat) (σ:St):Out:=
 L [1,1,1,1] [] ⟨tm 145 [(0,.v (.slice a1 n2 c3 z4)),(3,.lp 3 0),(4,.v (.bool false)),(5,.v (.map m5)),(6,.v (.str s6))] 0,[(3,[.int .i64 i7,.int .i64 i8,.str s9,.int .i64 i10,.int .i64 i11,.slice a12 n13 c14 z15])],[]⟩ σ
noncomputable def f37_j3 (L:Leaf) (a1:Ad) (n2:Nat) (c3:On) (z4:Nat) (s5 s6:By) (b7:Bool) (i8 i9:Int) (s10:By) (i11 i12:Int) (a13:Ad) (n14:Nat) (c15:On) (z16:Nat) (σ:St):Out:=
 L [1,1,1,1,1,0,0,1] [] ⟨tm 145 [(0,.v (.slice a1 n2 c3 z4)),(3,.lp 3 0),(4,.v (.bool false)),(6,.v (.str s5)),(9,.v (.str s6)),(10,.v (.bool b7)),(37,.v (.bool true))] 0,[(3,[.int .i64 i8,.int .i64 i9,.str s10,.int .i64 i11,.int .i64 i12,.slice a13 n14 c15 z16])],[]⟩ σ
noncomputable def f37_j4 (L:Leaf) (a1:Ad) (n2:Nat) (c3:On) (z4:Nat) (s5 s6:By) (b7 b8:Bool) (i9 i10:Int) (s11:By) (i12 i13:Int) (a14:Ad) (n15:Nat) (c16:On) (z17:Nat) (σ:St):Out:=
 L [1,1,1,1,1,0,0,1] [] ⟨tm 145 [(0,.v (.slice a1 n2 c3 z4)),(3,.lp 3 0),(4,.v (.bool false)),(6,.v (.str s5)),(9,.v (.str s6)),(10,.v (.bool b7)),(37,.v (.bool b8))] 0,[(3,[.int .i64 i9,.int .i64 i10,.str s11,.int .i64 i12,.int .i64 i13,.slice a14 n15 c16 z17])],[]⟩ σ
noncomputable def f37_j5 (L:Leaf) (a1:Ad) (n2:Nat) (c3:On) (z4:Nat) (s5 s6:By) (b7:Bool) (i8 i9:Int) (s10:By) (i11 i12:Int) (a13:Ad) (n14:Nat) (c15:On) (z16:Nat) (σ:St):Out:=
 L [1,1,1,1,1,0,0,1] [] ⟨tm 145 [(0,.v (.slice a1 n2 c3 z4)),(3,.lp 3 0),(4,.v (.bool false)),(6,.v (.str s5)),(9,.v (.str s6)),(10,.v (.bool b7)),(37,.v (.bool false))] 0,[(3,[.int .i64 i8,.int .i64 i9,.str s10,.int .i64 i11,.int .i64 i12,.slice a13 n14 c15 z16])],[]⟩ σ
noncomputable def f37_t (L:Leaf) (n:Nat) (a1:Ad) (n2:Nat) (c3:On) (z4:Nat) (i5 i6:Int) (s7:By) (i8 i9:Int) (a10:Ad) (n11:Nat) (c12:On) (z13:Nat) (σ:St):Out:=
 updK Tryz.prog 3 (σ ++ [AObj.map []]:St) (.v (.map (some σ.length))) (.int .i64 (1:Int)) (.str []) fun σ14=>
 updK Tryz.prog 3 σ14 (.v (.map (some σ.length))) (.int .i64 (2:Int)) (.str []) fun σ15=>
 updK Tryz.prog 3 σ15 (.v (.map (some σ.length))) (.int .i64 (3:Int)) (.str []) fun σ16=>
 updK Tryz.prog 3 σ16 (.v (.map (some σ.length))) (.int .i64 (5:Int)) (.str [49,49]) fun σ17=>
 updK Tryz.prog 3 σ17 (.v (.map (some σ.length))) (.int .i64 (6:Int)) (.str [49]) fun σ18=>
 updK Tryz.prog 3 σ18 (.v (.map (some σ.length))) (.int .i64 (7:Int)) (.str [49,49]) fun σ19=>
 updK Tryz.prog 3 σ19 (.v (.map (some σ.length))) (.int .i64 (10:Int)) (.str [49]) fun σ20=>
 updK Tryz.prog 3 σ20 (.v (.map (some σ.length))) (.int .i64 (11:Int)) (.str [49,49]) fun σ21=>
 updK Tryz.prog 3 σ21 (.v (.map (some σ.length))) (.int .i64 (13:Int)) (.str [49,50]) fun σ22=>
 updK Tryz.prog 3 σ22 (.v (.map (some σ.length))) (.int .i64 (14:Int)) (.str [49]) fun σ23=>
 updK Tryz.prog 3 σ23 (.v (.map (some σ.length))) (.int .i64 (15:Int)) (.str []) fun σ24=>
 updK Tryz.prog 3 σ24 (.v (.map (some σ.length))) (.int .i64 (16:Int)) (.str []) fun σ25=>
 updK Tryz.prog 3 σ25 (.v (.map (some σ.length))) (.int .i64 (20:Int)) (.str []) fun σ26=>
 updK Tryz.prog 3 σ26 (.v (.map (some σ.length))) (.int .i64 (21:Int)) (.str []) fun σ27=>
 f37_l1 L n a1 n2 c3 z4 (some σ.length) [] a10 n11 c12 z13 (n11:Int) (0:Int) i5 i6 s7 i8 i9 a10 n11 c12 z13 σ27
theorem f37_g:goT Tryz.prog Lb 37 n L [] [] [] ⟨tm 145 [(0,.v (.slice a1 n2 c3 z4)),(1,.v (.agg [.int .i64 i5,.int .i64 i6,.str s7,.int .i64 i8,.int .i64 i9,.slice a10 n11 c12 z13]))] 0,[],[]⟩ σ = f37_t L n a1 n2 c3 z4 i5 i6 s7 i8 i9 a10 n11 c12 z13 σ:=by kernel_rfl
theorem f37_e:Le (f37_t (pt Tryz.prog Lb 37 n) n a1 n2 c3 z4 i5 i6 s7 i8 i9 a10 n11 c12 z13 σ) (callP Tryz.prog Lb (n + 1) 37 [.slice a1 n2 c3 z4,.agg [.int .i64 i5,.int .i64 i6,.str s7,.int .i64 i8,.int .i64 i9,.slice a10 n11 c12 z13]] σ):=
 goT_call f37_g rfl (by kernel_rfl) (by kernel_rfl)
noncomputable def f37_l1_t (L:Leaf) (n m0:Nat) (a1:Ad) (n2:Nat) (c3:On) (z4:Nat) (m5:On) (s6:By) (a7:Ad) (n8:Nat) (c9:On) (z10:Nat) (i11 i12 i13 i14:Int) (s15:By) (i16 i17:Int) (a18:Ad) (n19:Nat) (c20:On) (z21:Nat) (σ:St):Out:=
 cond (decide (i12 < i11)) (idxK i12 n8 <|
 derefK a7 fun b22 o23=>
 szK z10 1 <|
 ldK Tryz.prog 3 σ b22 (o23 + ((i12).toNat * 1)) fun x24=>
 xInt .i64 x24 fun i25=>
 idxK i25 n2 <|
 derefK a1 fun b26 o27=>
 szK z4 6 <|
 ldK Tryz.prog 3 σ b26 ((o27 + ((i25).toNat * 6)) + 0) fun x28=>
 xInt .i64 x28 fun i29=>
 callT Tryz.prog Lb n 62 [.int .i64 i29] σ fun v31 σ30=>
 xInt .i64 v31 fun i32=>
 callT Tryz.prog Lb n 61 [.int .i64 i32] σ30 fun v34 σ33=>
 xStr v34 fun s35=>
 catK s6 s35 fun s36=>
 f37_l1 L m0 a1 n2 c3 z4 m5 s36 a7 n8 c9 z10 i11 (IntKind.wrap .i64 (i12 + (1:Int))) i13 i14 s15 i16 i17 a18 n19 c20 z21 σ33) (f37_j2 L a1 n2 c3 z4 m5 s6 i13 i14 s15 i16 i17 a18 n19 c20 z21 σ)
theorem f37_l1_g:f37_l1 (goT Tryz.prog Lb 37 n L [[1,1,1,1]]) (m0 + 1) a1 n2 c3 z4 m5 s6 a7 n8 c9 z10 i11 i12 i13 i14 s15 i16 i17 a18 n19 c20 z21 σ = f37_l1_t L n m0 a1 n2 c3 z4 m5 s6 a7 n8 c9 z10 i11 i12 i13 i14 s15 i16 i17 a18 n19 c20 z21 σ:=by kernel_rfl
theorem f37_l1_e:Le (f37_l1_t (pt Tryz.prog Lb 37 n) n m0 a1 n2 c3 z4 m5 s6 a7 n8 c9 z10 i11 i12 i13 i14 s15 i16 i17 a18 n19 c20 z21 σ) (f37_l1 (pt Tryz.prog Lb 37 n) (m0 + 1) a1 n2 c3 z4 m5 s6 a7 n8 c9 z10 i11 i12 i13 i14 s15 i16 i17 a18 n19 c20 z21 σ):=by
 unfold f37_l1;exact goT_pt f37_l1_g
noncomputable def f37_j2_t (L:Leaf) (_:Nat) (a1:Ad) (n2:Nat) (c3:On) (z4:Nat) (m5:On) (s6:By) (i7 i8:Int) (s9:By) (i10 i11:Int) (a12:Ad) (n13:Nat) (c14:On) (z15:Nat) (σ:St):Out:=
 lkK Tryz.prog 3 9 σ m5 (.int .i64 i7) fun x16 b17=>
 xStr x16 fun s18=>
 cond (i7 == (6:Int)) (cond (decide (i10 < (1:Int))) (f37_j3 L a1 n2 c3 z4 s6 s18 b17 i7 i8 s9 i10 i11 a12 n13 c14 z15 σ) (cond (decide (i10 > (3:Int))) (f37_j3 L a1 n2 c3 z4 s6 s18 b17 i7 i8 s9 i10 i11 a12 n13 c14 z15 σ) (cond (i7 == (7:Int)) (cond (decide (i10 < (4:Int))) (f37_j3 L a1 n2 c3 z4 s6 s18 b17 i7 i8 s9 i10 i11 a12 n13 c14 z15 σ) (f37_j4 L a1 n2 c3 z4 s6 s18 b17 (decide (i10 > (21:Int))) i7 i8 s9 i10 i11 a12 n13 c14 z15 σ)) (f37_j5 L a1 n2 c3 z4 s6 s18 b17 i7 i8 s9 i10 i11 a12 n13 c14 z15 σ)))) (cond (i7 == (7:Int)) (cond (decide (i10 < (4:Int))) (f37_j3 L a1 n2 c3 z4 s6 s18 b17 i7 i8 s9 i10 i11 a12 n13 c14 z15 σ) (f37_j4 L a1 n2 c3 z4 s6 s18 b17 (decide (i10 > (21:Int))) i7 i8 s9 i10 i11 a12 n13 c14 z15 σ)) (f37_j5 L a1 n2 c3 z4 s6 s18 b17 i7 i8 s9 i10 i11 a12 n13 c14 z15 σ))
theorem f37_j2_g:f37_j2 (goT Tryz.prog Lb 37 n L [[1,1,1,1,1,0,0,1]]) a1 n2 c3 z4 m5 s6 i7 i8 s9 i10 i11 a12 n13 c14 z15 σ = f37_j2_t L n a1 n2 c3 z4 m5 s6 i7 i8 s9 i10 i11 a12 n13 c14 z15 σ:=by kernel_rfl
theorem f37_j2_e:Le (f37_j2_t (pt Tryz.prog Lb 37 n) n a1 n2 c3 z4 m5 s6 i7 i8 s9 i10 i11 a12 n13 c14 z15 σ) (f37_j2 (pt Tryz.prog Lb 37 n) a1 n2 c3 z4 m5 s6 i7 i8 s9 i10 i11 a12 n13 c14 z15 σ):=by
 unfold f37_j2;exact goT_pt f37_j2_g
noncomputable def f37_j4_t (_:Leaf) (n:Nat) (a1:Ad) (n2:Nat) (_:On) (z4:Nat) (s5 s6:By) (b7 b8:Bool) (i9 _:Int) (_:By) (_ i13:Int) (a14:Ad) (n15:Nat) (_:On) (z17:Nat) (σ:St):Out:=
 cond b8 (some (.ret (.bool false),σ)) (cond b7 (some (.ret (.bool (s5 == s6)),σ)) (cond (i9 == (4:Int)) (callT Tryz.prog Lb n 63 [.str s5,.str [49]] σ fun v19 σ18=>
 xStr v19 fun s20=>
 some (.ret (.bool (s20 == [])),σ18)) (cond (i9 == (12:Int)) (cond (s5 == [49,50]) (some (.ret (.bool true),σ)) (some (.ret (.bool (s5 == [49,50,50])),σ))) (cond (i9 == (17:Int)) (callT Tryz.prog Lb n 63 [.str s5,.str [50]] σ fun v22 σ21=>
 xStr v22 fun s23=>
 some (.ret (.bool (s23 == [])),σ21)) (cond (i9 == (18:Int)) (cond (s5 == []) (some (.ret (.bool true),σ)) (some (.ret (.bool (s5 == [49])),σ))) (cond (i9 == (22:Int)) (cond (decide (i13 ≥ (0:Int))) (cond ((s5.length:Int) == (IntKind.wrap .i64 (i13 + (1:Int)))) (callT Tryz.prog Lb n 63 [.str s5,.str [50]] σ fun v25 σ24=>
 xStr v25 fun s26=>
 cond (s26 == []) (idxK i13 n15 <|
 derefK a14 fun b27 o28=>
 szK z17 1 <|
 ldK Tryz.prog 3 σ24 b27 (o28 + ((i13).toNat * 1)) fun x29=>
 xInt .i64 x29 fun i30=>
 idxK i30 n2 <|
 derefK a1 fun b31 o32=>
 szK z4 6 <|
 ldK Tryz.prog 3 σ24 b31 ((o32 + ((i30).toNat * 6)) + 0) fun x33=>
 xInt .i64 x33 fun i34=>
 some (.ret (.bool (i34 == (17:Int))),σ24)) (some (.ret (.bool false),σ24))) (some (.ret (.bool false),σ))) (some (.ret (.bool false),σ))) (cond (i9 == (23:Int)) (callT Tryz.prog Lb n 63 [.str s5,.str [51]] σ fun v36 σ35=>
 xStr v36 fun s37=>
 some (.ret (.bool (s37 == [])),σ35)) (some (.ret (.bool false),σ)))))))))
theorem f37_j4_g (L:Leaf) (n:Nat) (a1:Ad) (n2:Nat) (c3:On) (z4:Nat) (s5 s6:By) (b7 b8:Bool) (i9 i10:Int) (s11:By) (i12 i13:Int) (a14:Ad) (n15:Nat) (c16:On) (z17:Nat) (σ:St):goT Tryz.prog Lb 37 n L [] [1,1,1,1,1,0,0,1] [] ⟨tm 145 [(0,.v (.slice a1 n2 c3 z4)),(3,.lp 3 0),(4,.v (.bool false)),(6,.v (.str s5)),(9,.v (.str s6)),(10,.v (.bool b7)),(37,.v (.bool b8))] 0,[(3,[.int .i64 i9,.int .i64 i10,.str s11,.int .i64 i12,.int .i64 i13,.slice a14 n15 c16 z17])],[]⟩ σ = f37_j4_t L n a1 n2 c3 z4 s5 s6 b7 b8 i9 i10 s11 i12 i13 a14 n15 c16 z17 σ:=by kernel_rfl
theorem f37_j4_e {n:Nat} {a1:Ad} {n2:Nat} {c3:On} {z4:Nat} {s5 s6:By} {b7 b8:Bool} {i9 i10:Int} {s11:By} {i12 i13:Int} {a14:Ad} {n15:Nat} {c16:On} {z17:Nat} {σ:St}:Le (f37_j4_t (pt Tryz.prog Lb 37 n) n a1 n2 c3 z4 s5 s6 b7 b8 i9 i10 s11 i12 i13 a14 n15 c16 z17 σ) (f37_j4 (pt Tryz.prog Lb 37 n) a1 n2 c3 z4 s5 s6 b7 b8 i9 i10 s11 i12 i13 a14 n15 c16 z17 σ):=by
 unfold f37_j4;exact goT_pt (f37_j4_g _ n a1 n2 c3 z4 s5 s6 b7 b8 i9 i10 s11 i12 i13 a14 n15 c16 z17 σ)
noncomputable def f37_j5_t (_:Leaf) (n:Nat) (a1:Ad) (n2:Nat) (_:On) (z4:Nat) (s5 s6:By) (b7:Bool) (i8 _:Int) (_:By) (_ i12:Int) (a13:Ad) (n14:Nat) (_:On) (z16:Nat) (σ:St):Out:=
 cond b7 (some (.ret (.bool (s5 == s6)),σ)) (cond (i8 == (4:Int)) (callT Tryz.prog Lb n 63 [.str s5,.str [49]] σ fun v18 σ17=>
 xStr v18 fun s19=>
 some (.ret (.bool (s19 == [])),σ17)) (cond (i8 == (12:Int)) (cond (s5 == [49,50]) (some (.ret (.bool true),σ)) (some (.ret (.bool (s5 == [49,50,50])),σ))) (cond (i8 == (17:Int)) (callT Tryz.prog Lb n 63 [.str s5,.str [50]] σ fun v21 σ20=>
 xStr v21 fun s22=>
 some (.ret (.bool (s22 == [])),σ20)) (cond (i8 == (18:Int)) (cond (s5 == []) (some (.ret (.bool true),σ)) (some (.ret (.bool (s5 == [49])),σ))) (cond (i8 == (22:Int)) (cond (decide (i12 ≥ (0:Int))) (cond ((s5.length:Int) == (IntKind.wrap .i64 (i12 + (1:Int)))) (callT Tryz.prog Lb n 63 [.str s5,.str [50]] σ fun v24 σ23=>
 xStr v24 fun s25=>
 cond (s25 == []) (idxK i12 n14 <|
 derefK a13 fun b26 o27=>
 szK z16 1 <|
 ldK Tryz.prog 3 σ23 b26 (o27 + ((i12).toNat * 1)) fun x28=>
 xInt .i64 x28 fun i29=>
 idxK i29 n2 <|
 derefK a1 fun b30 o31=>
 szK z4 6 <|
 ldK Tryz.prog 3 σ23 b30 ((o31 + ((i29).toNat * 6)) + 0) fun x32=>
 xInt .i64 x32 fun i33=>
 some (.ret (.bool (i33 == (17:Int))),σ23)) (some (.ret (.bool false),σ23))) (some (.ret (.bool false),σ))) (some (.ret (.bool false),σ))) (cond (i8 == (23:Int)) (callT Tryz.prog Lb n 63 [.str s5,.str [51]] σ fun v35 σ34=>
 xStr v35 fun s36=>
 some (.ret (.bool (s36 == [])),σ34)) (some (.ret (.bool false),σ))))))))
theorem f37_j5_g (L:Leaf) (n:Nat) (a1:Ad) (n2:Nat) (c3:On) (z4:Nat) (s5 s6:By) (b7:Bool) (i8 i9:Int) (s10:By) (i11 i12:Int) (a13:Ad) (n14:Nat) (c15:On) (z16:Nat) (σ:St):goT Tryz.prog Lb 37 n L [] [1,1,1,1,1,0,0,1] [] ⟨tm 145 [(0,.v (.slice a1 n2 c3 z4)),(3,.lp 3 0),(4,.v (.bool false)),(6,.v (.str s5)),(9,.v (.str s6)),(10,.v (.bool b7)),(37,.v (.bool false))] 0,[(3,[.int .i64 i8,.int .i64 i9,.str s10,.int .i64 i11,.int .i64 i12,.slice a13 n14 c15 z16])],[]⟩ σ = f37_j5_t L n a1 n2 c3 z4 s5 s6 b7 i8 i9 s10 i11 i12 a13 n14 c15 z16 σ:=by kernel_rfl
theorem f37_j5_e {n:Nat} {a1:Ad} {n2:Nat} {c3:On} {z4:Nat} {s5 s6:By} {b7:Bool} {i8 i9:Int} {s10:By} {i11 i12:Int} {a13:Ad} {n14:Nat} {c15:On} {z16:Nat} {σ:St}:Le (f37_j5_t (pt Tryz.prog Lb 37 n) n a1 n2 c3 z4 s5 s6 b7 i8 i9 s10 i11 i12 a13 n14 c15 z16 σ) (f37_j5 (pt Tryz.prog Lb 37 n) a1 n2 c3 z4 s5 s6 b7 i8 i9 s10 i11 i12 a13 n14 c15 z16 σ):=by
 unfold f37_j5;exact goT_pt (f37_j5_g _ n a1 n2 c3 z4 s5 s6 b7 i8 i9 s10 i11 i12 a13 n14 c15 z16 σ)
noncomputable def f38_l1 (L:Leaf) (m0:Nat) (a1 a2:Ad) (n3:Nat) (c4:On) (z5:Nat) (i6 i7:Int) (σ:St):Out:=
 L [1,0] [m0] ⟨tm 36 [(0,.v (.ptr a1)),(6,.v (.slice a2 n3 c4 z5)),(7,.v (.int .i64 i6)),(8,.v (.int .i64 i7))] 0,[],[]⟩ σ
noncomputable def f38_j2 (L:Leaf) (m0:Nat) (a1 a2:Ad) (n3:Nat) (c4:On) (z5:Nat) (i6 i7:Int) (σ:St):Out:=
 L [1,0,0,1,1,0,0,1,1,1] [m0] ⟨tm 36 [(0,.v (.ptr a1)),(6,.v (.slice a2 n3 c4 z5)),(7,.v (.int .i64 i6)),(8,.v (.int .i64 i7)),(26,.v (.bool true))] 0,[],[]⟩ σ
noncomputable def f38_j3 (L:Leaf) (m0:Nat) (a1 a2:Ad) (n3:Nat) (c4:On) (z5:Nat) (i6 i7:Int) (b8:Bool) (σ:St):Out:=
 L [1,0,0,1,1,0,0,1,1,1] [m0] ⟨tm 36 [(0,.v (.ptr a1)),(6,.v (.slice a2 n3 c4 z5)),(7,.v (.int .i64 i6)),(8,.v (.int .i64 i7)),(26,.v (.bool b8))] 0,[],[]⟩ σ
noncomputable def f38_t (L:Leaf) (n:Nat) (a1 a2:Ad) (n3:Nat) (c4:On) (z5:Nat) (σ:St):Out:=
 f38_l1 L n a1 a2 n3 c4 z5 (n3:Int) (0:Int) σ
theorem f38_g:goT Tryz.prog Lb 38 n L [] [] [] ⟨tm 36 [(0,.v (.ptr a1)),(1,.v (.slice a2 n3 c4 z5))] 0,[],[]⟩ σ = f38_t L n a1 a2 n3 c4 z5 σ:=by kernel_rfl
theorem f38_e:Le (f38_t (pt Tryz.prog Lb 38 n) n a1 a2 n3 c4 z5 σ) (callP Tryz.prog Lb (n + 1) 38 [.ptr a1,.slice a2 n3 c4 z5] σ):=
 goT_call f38_g rfl (by kernel_rfl) (by kernel_rfl)
noncomputable def f38_l1_t (L:Leaf) (n m0:Nat) (a1 a2:Ad) (n3:Nat) (c4:On) (z5:Nat) (i6 i7:Int) (σ:St):Out:=
 cond (decide (i7 < i6)) (idxK i7 n3 <|
 derefK a2 fun b8 o9=>
 szK z5 1 <|
 ldK Tryz.prog 9 σ b8 (o9 + ((i7).toNat * 1)) fun x10=>
 xStr x10 fun s11=>
 derefK a1 fun b12 o13=>
 callT Tryz.prog Lb n 64 [.ptr (some (b12,(o13 + 1))),.str s11] σ fun v15 σ14=>
 xTup v15 fun cs16=>
 unC cs16 fun x17 r18=>
 xInt .i64 x17 fun _=>
 unC r18 fun _ r21=>
 nlC r21 <|
 cond (s11 == [59]) (f38_j2 L m0 a1 a2 n3 c4 z5 i6 i7 σ14) (cond (s11 == [123]) (f38_j2 L m0 a1 a2 n3 c4 z5 i6 i7 σ14) (f38_j3 L m0 a1 a2 n3 c4 z5 i6 i7 (s11 == [125]) σ14))) (some (.ret (.tuple []),σ))
theorem f38_l1_g:f38_l1 (goT Tryz.prog Lb 38 n L [[1,0,0,1,1,0,0,1,1,1]]) (m0 + 1) a1 a2 n3 c4 z5 i6 i7 σ = f38_l1_t L n m0 a1 a2 n3 c4 z5 i6 i7 σ:=by kernel_rfl
theorem f38_l1_e:Le (f38_l1_t (pt Tryz.prog Lb 38 n) n m0 a1 a2 n3 c4 z5 i6 i7 σ) (f38_l1 (pt Tryz.prog Lb 38 n) (m0 + 1) a1 a2 n3 c4 z5 i6 i7 σ):=by
 unfold f38_l1;exact goT_pt f38_l1_g
noncomputable def f38_j2_t (L:Leaf) (n m0:Nat) (a1 a2:Ad) (n3:Nat) (c4:On) (z5:Nat) (i6 i7:Int) (σ:St):Out:=
 derefK a1 fun b8 o9=>
 callT Tryz.prog Lb n 56 [.ptr (some (b8,(o9 + 1))),.int .u8 (10:Int)] σ fun _ σ10=>
 f38_l1 L m0 a1 a2 n3 c4 z5 i6 (IntKind.wrap .i64 (i7 + (1:Int))) σ10
theorem f38_j2_g:f38_j2 (goT Tryz.prog Lb 38 n L []) m0 a1 a2 n3 c4 z5 i6 i7 σ = f38_j2_t L n m0 a1 a2 n3 c4 z5 i6 i7 σ:=by kernel_rfl
theorem f38_j2_e:Le (f38_j2_t (pt Tryz.prog Lb 38 n) n m0 a1 a2 n3 c4 z5 i6 i7 σ) (f38_j2 (pt Tryz.prog Lb 38 n) m0 a1 a2 n3 c4 z5 i6 i7 σ):=by
 unfold f38_j2;exact goT_pt f38_j2_g
noncomputable def f38_j3_t (L:Leaf) (n m0:Nat) (a1 a2:Ad) (n3:Nat) (c4:On) (z5:Nat) (i6 i7:Int) (b8:Bool) (σ:St):Out:=
 cond b8 (derefK a1 fun b9 o10=>
 callT Tryz.prog Lb n 56 [.ptr (some (b9,(o10 + 1))),.int .u8 (10:Int)] σ fun _ σ11=>
 f38_l1 L m0 a1 a2 n3 c4 z5 i6 (IntKind.wrap .i64 (i7 + (1:Int))) σ11) (derefK a1 fun b13 o14=>
 callT Tryz.prog Lb n 56 [.ptr (some (b13,(o14 + 1))),.int .u8 (32:Int)] σ fun _ σ15=>
 f38_l1 L m0 a1 a2 n3 c4 z5 i6 (IntKind.wrap .i64 (i7 + (1:Int))) σ15)
theorem f38_j3_g:f38_j3 (goT Tryz.prog Lb 38 n L []) m0 a1 a2 n3 c4 z5 i6 i7 b8 σ = f38_j3_t L n m0 a1 a2 n3 c4 z5 i6 i7 b8 σ:=by kernel_rfl
theorem f38_j3_e:Le (f38_j3_t (pt Tryz.prog Lb 38 n) n m0 a1 a2 n3 c4 z5 i6 i7 b8 σ) (f38_j3 (pt Tryz.prog Lb 38 n) m0 a1 a2 n3 c4 z5 i6 i7 b8 σ):=by
 unfold f38_j3;exact goT_pt f38_j3_g
noncomputable def f40_l1 (L:Leaf) (m0:Nat) (a1:Ad) (x2:AV) (a3:Ad) (n4:Nat) (c5:On) (z6:Nat) (i7 i8:Int) (σ:St):Out:=
 L [1,0] [m0] ⟨tm 24 [(0,.v (.ptr a1)),(2,.v x2),(8,.v (.slice a3 n4 c5 z6)),(9,.v (.int .i64 i7)),(10,.v (.int .i64 i8))] 0,[],[]⟩ σ
noncomputable def f40_t (L:Leaf) (n:Nat) (a1 a2:Ad) (n3:Nat) (c4:On) (z5:Nat) (x6:AV) (σ:St):Out:=
 f40_l1 L n a1 x6 a2 n3 c4 z5 (n3:Int) (0:Int) σ
theorem f40_g:goT Tryz.prog Lb 40 n L [] [] [] ⟨tm 24 [(0,.v (.ptr a1)),(1,.v (.slice a2 n3 c4 z5)),(2,.v x6)] 0,[],[]⟩ σ = f40_t L n a1 a2 n3 c4 z5 x6 σ:=by kernel_rfl
theorem f40_e:Le (f40_t (pt Tryz.prog Lb 40 n) n a1 a2 n3 c4 z5 x6 σ) (callP Tryz.prog Lb (n + 1) 40 [.ptr a1,.slice a2 n3 c4 z5,x6] σ):=
 goT_call f40_g rfl (by kernel_rfl) (by kernel_rfl)
noncomputable def f40_l1_t (L:Leaf) (n m0:Nat) (a1:Ad) (x2:AV) (a3:Ad) (n4:Nat) (c5:On) (z6:Nat) (i7 i8:Int) (σ:St):Out:=
 cond (decide (i8 < i7)) (idxK i8 n4 <|
 derefK a3 fun b9 o10=>
 szK z6 1 <|
 ldK Tryz.prog 3 σ b9 (o10 + ((i8).toNat * 1)) fun x11=>
 xInt .i64 x11 fun i12=>
 cond (decide (i8 > (0:Int))) (callT Tryz.prog Lb n 38 [.ptr a1,.slice (some (σ.length,0)) 1 (some 1) 1] (σ ++ [AObj.cells [.str [44]] (.rw (.row 9))]:St) fun _ σ13=>
 callF Tryz.prog Lb n x2 [.int .i64 i12] σ13 fun _ σ15=>
 f40_l1 L m0 a1 x2 a3 n4 c5 z6 i7 (IntKind.wrap .i64 (i8 + (1:Int))) σ15) (callF Tryz.prog Lb n x2 [.int .i64 i12] σ fun _ σ17=>
 f40_l1 L m0 a1 x2 a3 n4 c5 z6 i7 (IntKind.wrap .i64 (i8 + (1:Int))) σ17)) (some (.ret (.tuple []),σ))
theorem f40_l1_g:f40_l1 (goT Tryz.prog Lb 40 n L []) (m0 + 1) a1 x2 a3 n4 c5 z6 i7 i8 σ = f40_l1_t L n m0 a1 x2 a3 n4 c5 z6 i7 i8 σ:=by kernel_rfl
theorem f40_l1_e:Le (f40_l1_t (pt Tryz.prog Lb 40 n) n m0 a1 x2 a3 n4 c5 z6 i7 i8 σ) (f40_l1 (pt Tryz.prog Lb 40 n) (m0 + 1) a1 x2 a3 n4 c5 z6 i7 i8 σ):=by
 unfold f40_l1;exact goT_pt f40_l1_g
noncomputable def f41_t (_:Leaf) (n:Nat) (a1:Ad) (i2:Int) (σ:St):Out:=
 derefK a1 fun b3 o4=>
 ldK Tryz.prog 24 σ b3 (o4 + 0) fun x5=>
 xSl x5 fun a6 n7 _ z9=>
 idxK i2 n7 <|
 derefK a6 fun b10 o11=>
 szK z9 6 <|
 ldK Tryz.prog 34 σ b10 (o11 + ((i2).toNat * 6)) fun x12=>
 xAgg x12 fun cs13=>
 unC cs13 fun x14 r15=>
 xInt .i64 x14 fun _=>
 unC r15 fun x17 r18=>
 xInt .i64 x17 fun _=>
 unC r18 fun x20 r21=>
 xStr x20 fun s22=>
 unC r21 fun x23 r24=>
 xInt .i64 x23 fun _=>
 unC r24 fun x26 r27=>
 xInt .i64 x26 fun i28=>
 unC r27 fun x29 r30=>
 xSl x29 fun _ _ _ _=>
 nlC r30 <|
 cond (i28 == (1:Int)) (callT Tryz.prog Lb n 38 [.ptr a1,.slice (some (σ.length,0)) 2 (some 2) 1] (σ ++ [AObj.cells [.str [105,110,116],.str s22] (.rw (.row 9))]:St) fun _ σ35=>
 some (.ret (.tuple []),σ35)) (cond (i28 == (3:Int)) (callT Tryz.prog Lb n 38 [.ptr a1,.slice (some (σ.length,0)) 3 (some 3) 1] (σ ++ [AObj.cells [.str [105,110,116],.str [42],.str s22] (.rw (.row 9))]:St) fun _ σ37=>
 some (.ret (.tuple []),σ37)) (callT Tryz.prog Lb n 38 [.ptr a1,.slice (some (σ.length,0)) 3 (some 3) 1] (σ ++ [AObj.cells [.str [99,104,97,114],.str [42],.str s22] (.rw (.row 9))]:St) fun _ σ39=>
 some (.ret (.tuple []),σ39)))
theorem f41_g:goT Tryz.prog Lb 41 n L [] [] [] ⟨tm 33 [(0,.v (.ptr a1)),(1,.v (.int .i64 i2))] 0,[],[]⟩ σ = f41_t L n a1 i2 σ:=by kernel_rfl
theorem f41_e:Le (f41_t (pt Tryz.prog Lb 41 n) n a1 i2 σ) (callP Tryz.prog Lb (n + 1) 41 [.ptr a1,.int .i64 i2] σ):=
 goT_call f41_g rfl (by kernel_rfl) (by kernel_rfl)
noncomputable def f42_l1 (L:Leaf) (m0:Nat) (a1 a2:Ad) (n3:Nat) (c4:On) (z5:Nat) (i6 i7:Int) (σ:St):Out:=
 L [1,1,0,1,0,1,0,1,0] [m0] ⟨tm 151 [(0,.v (.ptr a1)),(22,.v (.slice a2 n3 c4 z5)),(23,.v (.int .i64 i6)),(24,.v (.int .i64 i7))] 0,[],[]⟩ σ
noncomputable def f42_j2 (L:Leaf) (a1:Ad) (i2 i3 i4 i5:Int) (s6:By) (i7 i8:Int) (a9:Ad) (n10:Nat) (c11:On) (z12:Nat) (σ:St):Out:=
 L [1,1,0,1,1,1] [] ⟨tm 151 [(0,.v (.ptr a1)),(1,.v (.int .i64 i2)),(4,.lp 4 0),(15,.v (.int .i64 i3)),(35,.v (.bool true))] 0,[(4,[.int .i64 i4,.int .i64 i5,.str s6,.int .i64 i7,.int .i64 i8,.slice a9 n10 c11 z12])],[]⟩ σ
noncomputable def f42_j3 (L:Leaf) (a1:Ad) (i2 i3:Int) (b4:Bool) (i5 i6:Int) (s7:By) (i8 i9:Int) (a10:Ad) (n11:Nat) (c12:On) (z13:Nat) (σ:St):Out:=
 L [1,1,0,1,1,1] [] ⟨tm 151 [(0,.v (.ptr a1)),(1,.v (.int .i64 i2)),(4,.lp 4 0),(15,.v (.int .i64 i3)),(35,.v (.bool b4))] 0,[(4,[.int .i64 i5,.int .i64 i6,.str s7,.int .i64 i8,.int .i64 i9,.slice a10 n11 c12 z13])],[]⟩ σ
noncomputable def f42_j4 (L:Leaf) (a1:Ad) (σ:St):Out:=
 L [1,1,0,1,0,1,1] [] ⟨tm 151 [(0,.v (.ptr a1))] 0,[],[]⟩ σ
noncomputable def f42_t (L:Leaf) (n:Nat) (a1:Ad) (i2:Int) (σ:St):Out:=
 derefK a1 fun b3 o4=>
 ldK Tryz.prog 24 σ b3 (o4 + 0) fun x5=>
 xSl x5 fun a6 n7 _ z9=>
 idxK i2 n7 <|
 derefK a6 fun b10 o11=>
 szK z9 6 <|
 ldK Tryz.prog 34 σ b10 (o11 + ((i2).toNat * 6)) fun x12=>
 xAgg x12 fun cs13=>
 unC cs13 fun x14 r15=>
 xInt .i64 x14 fun i16=>
 unC r15 fun x17 r18=>
 xInt .i64 x17 fun i19=>
 unC r18 fun x20 r21=>
 xStr x20 fun s22=>
 unC r21 fun x23 r24=>
 xInt .i64 x23 fun i25=>
 unC r24 fun x26 r27=>
 xInt .i64 x26 fun i28=>
 unC r27 fun x29 r30=>
 xSl x29 fun a31 n32 c33 z34=>
 nlC r30 <|
 cond (i16 == (17:Int)) (callT Tryz.prog Lb n 38 [.ptr a1,.slice (some (σ.length,0)) 1 (some 1) 1] (σ ++ [AObj.cells [.str [123]] (.rw (.row 9))]:St) fun _ σ35=>
 f42_l1 L n a1 a31 n32 c33 z34 (n32:Int) (0:Int) σ35) (cond (i16 == (12:Int)) (f42_j2 L a1 i2 i16 i16 i19 s22 i25 i28 a31 n32 c33 z34 σ) (f42_j3 L a1 i2 i16 (i16 == (13:Int)) i16 i19 s22 i25 i28 a31 n32 c33 z34 σ))
theorem f42_g:goT Tryz.prog Lb 42 n L [[1,1,0,1,1,1]] [] [] ⟨tm 151 [(0,.v (.ptr a1)),(1,.v (.int .i64 i2))] 0,[],[]⟩ σ = f42_t L n a1 i2 σ:=by kernel_rfl
theorem f42_e:Le (f42_t (pt Tryz.prog Lb 42 n) n a1 i2 σ) (callP Tryz.prog Lb (n + 1) 42 [.ptr a1,.int .i64 i2] σ):=
 goT_call f42_g rfl (by kernel_rfl) (by kernel_rfl)
noncomputable def f42_l1_t (L:Leaf) (n m0:Nat) (a1 a2:Ad) (n3:Nat) (c4:On) (z5:Nat) (i6 i7:Int) (σ:St):Out:=
 cond (decide (i7 < i6)) (idxK i7 n3 <|
 derefK a2 fun b8 o9=>
 szK z5 1 <|
 ldK Tryz.prog 3 σ b8 (o9 + ((i7).toNat * 1)) fun x10=>
 xInt .i64 x10 fun i11=>
 callT Tryz.prog Lb n 42 [.ptr a1,.int .i64 i11] σ fun _ σ12=>
 f42_l1 L m0 a1 a2 n3 c4 z5 i6 (IntKind.wrap .i64 (i7 + (1:Int))) σ12) (f42_j4 L a1 σ)
theorem f42_l1_g:f42_l1 (goT Tryz.prog Lb 42 n L [[1,1,0,1,0,1,1]]) (m0 + 1) a1 a2 n3 c4 z5 i6 i7 σ = f42_l1_t L n m0 a1 a2 n3 c4 z5 i6 i7 σ:=by kernel_rfl
theorem f42_l1_e:Le (f42_l1_t (pt Tryz.prog Lb 42 n) n m0 a1 a2 n3 c4 z5 i6 i7 σ) (f42_l1 (pt Tryz.prog Lb 42 n) (m0 + 1) a1 a2 n3 c4 z5 i6 i7 σ):=by
 unfold f42_l1;exact goT_pt f42_l1_g
noncomputable def f42_j2_t (_:Leaf) (n:Nat) (a1:Ad) (_ _ i4 _:Int) (_:By) (_ _:Int) (a9:Ad) (n10:Nat) (_:On) (z12:Nat) (σ:St):Out:=
 updK Tryz.prog 4 (σ ++ [AObj.map []]:St) (.v (.map (some σ.length))) (.bool true) (.str [105,102]) fun σ13=>
 updK Tryz.prog 4 σ13 (.v (.map (some σ.length))) (.bool false) (.str [119,104,105,108,101]) fun σ14=>
 lkK Tryz.prog 4 9 σ14 (some σ.length) (.bool (i4 == (12:Int))) fun x15 _=>
 xStr x15 fun s17=>
 callT Tryz.prog Lb n 38 [.ptr a1,.slice (some (σ14.length,0)) 2 (some 2) 1] (σ14 ++ [AObj.cells [.str s17,.str [40]] (.rw (.row 9))]:St) fun _ σ18=>
 idxK (0:Int) n10 <|
 derefK a9 fun b20 o21=>
 szK z12 1 <|
 ldK Tryz.prog 3 σ18 b20 (o21 + 0) fun x22=>
 xInt .i64 x22 fun i23=>
 callT Tryz.prog Lb n 66 [.ptr a1,.int .i64 i23] σ18 fun _ σ24=>
 callT Tryz.prog Lb n 38 [.ptr a1,.slice (some (σ24.length,0)) 1 (some 1) 1] (σ24 ++ [AObj.cells [.str [41]] (.rw (.row 9))]:St) fun _ σ26=>
 idxK (1:Int) n10 <|
 derefK a9 fun b28 o29=>
 szK z12 1 <|
 ldK Tryz.prog 3 σ26 b28 (o29 + 1) fun x30=>
 xInt .i64 x30 fun i31=>
 callT Tryz.prog Lb n 42 [.ptr a1,.int .i64 i31] σ26 fun _ σ32=>
 cond (decide ((n10:Int) > (2:Int))) (callT Tryz.prog Lb n 38 [.ptr a1,.slice (some (σ32.length,0)) 1 (some 1) 1] (σ32 ++ [AObj.cells [.str [101,108,115,101]] (.rw (.row 9))]:St) fun _ σ34=>
 idxK (2:Int) n10 <|
 derefK a9 fun b36 o37=>
 szK z12 1 <|
 ldK Tryz.prog 3 σ34 b36 (o37 + 2) fun x38=>
 xInt .i64 x38 fun i39=>
 callT Tryz.prog Lb n 42 [.ptr a1,.int .i64 i39] σ34 fun _ σ40=>
 some (.ret (.tuple []),σ40)) (some (.ret (.tuple []),σ32))
theorem f42_j2_g:f42_j2 (goT Tryz.prog Lb 42 n L []) a1 i2 i3 i4 i5 s6 i7 i8 a9 n10 c11 z12 σ = f42_j2_t L n a1 i2 i3 i4 i5 s6 i7 i8 a9 n10 c11 z12 σ:=by kernel_rfl
theorem f42_j2_e:Le (f42_j2_t (pt Tryz.prog Lb 42 n) n a1 i2 i3 i4 i5 s6 i7 i8 a9 n10 c11 z12 σ) (f42_j2 (pt Tryz.prog Lb 42 n) a1 i2 i3 i4 i5 s6 i7 i8 a9 n10 c11 z12 σ):=by
 unfold f42_j2;exact goT_pt f42_j2_g
noncomputable def f42_j3_t (_:Leaf) (n:Nat) (a1:Ad) (i2 i3:Int) (b4:Bool) (i5 _:Int) (_:By) (_ _:Int) (a10:Ad) (n11:Nat) (_:On) (z13:Nat) (σ:St):Out:=
 cond b4 (updK Tryz.prog 4 (σ ++ [AObj.map []]:St) (.v (.map (some σ.length))) (.bool true) (.str [105,102]) fun σ14=>
 updK Tryz.prog 4 σ14 (.v (.map (some σ.length))) (.bool false) (.str [119,104,105,108,101]) fun σ15=>
 lkK Tryz.prog 4 9 σ15 (some σ.length) (.bool (i5 == (12:Int))) fun x16 _=>
 xStr x16 fun s18=>
 callT Tryz.prog Lb n 38 [.ptr a1,.slice (some (σ15.length,0)) 2 (some 2) 1] (σ15 ++ [AObj.cells [.str s18,.str [40]] (.rw (.row 9))]:St) fun _ σ19=>
 idxK (0:Int) n11 <|
 derefK a10 fun b21 o22=>
 szK z13 1 <|
 ldK Tryz.prog 3 σ19 b21 (o22 + 0) fun x23=>
 xInt .i64 x23 fun i24=>
 callT Tryz.prog Lb n 66 [.ptr a1,.int .i64 i24] σ19 fun _ σ25=>
 callT Tryz.prog Lb n 38 [.ptr a1,.slice (some (σ25.length,0)) 1 (some 1) 1] (σ25 ++ [AObj.cells [.str [41]] (.rw (.row 9))]:St) fun _ σ27=>
 idxK (1:Int) n11 <|
 derefK a10 fun b29 o30=>
 szK z13 1 <|
 ldK Tryz.prog 3 σ27 b29 (o30 + 1) fun x31=>
 xInt .i64 x31 fun i32=>
 callT Tryz.prog Lb n 42 [.ptr a1,.int .i64 i32] σ27 fun _ σ33=>
 cond (decide ((n11:Int) > (2:Int))) (callT Tryz.prog Lb n 38 [.ptr a1,.slice (some (σ33.length,0)) 1 (some 1) 1] (σ33 ++ [AObj.cells [.str [101,108,115,101]] (.rw (.row 9))]:St) fun _ σ35=>
 idxK (2:Int) n11 <|
 derefK a10 fun b37 o38=>
 szK z13 1 <|
 ldK Tryz.prog 3 σ35 b37 (o38 + 2) fun x39=>
 xInt .i64 x39 fun i40=>
 callT Tryz.prog Lb n 42 [.ptr a1,.int .i64 i40] σ35 fun _ σ41=>
 some (.ret (.tuple []),σ41)) (some (.ret (.tuple []),σ33))) (cond (i3 == (14:Int)) (callT Tryz.prog Lb n 38 [.ptr a1,.slice (some (σ.length,0)) 1 (some 1) 1] (σ ++ [AObj.cells [.str [114,101,116,117,114,110]] (.rw (.row 9))]:St) fun _ σ43=>
 idxK (0:Int) n11 <|
 derefK a10 fun b45 o46=>
 szK z13 1 <|
 ldK Tryz.prog 3 σ43 b45 (o46 + 0) fun x47=>
 xInt .i64 x47 fun i48=>
 callT Tryz.prog Lb n 66 [.ptr a1,.int .i64 i48] σ43 fun _ σ49=>
 callT Tryz.prog Lb n 38 [.ptr a1,.slice (some (σ49.length,0)) 1 (some 1) 1] (σ49 ++ [AObj.cells [.str [59]] (.rw (.row 9))]:St) fun _ σ51=>
 some (.ret (.tuple []),σ51)) (cond (i3 == (15:Int)) (callT Tryz.prog Lb n 38 [.ptr a1,.slice (some (σ.length,0)) 2 (some 2) 1] (σ ++ [AObj.cells [.str [98,114,101,97,107],.str [59]] (.rw (.row 9))]:St) fun _ σ53=>
 some (.ret (.tuple []),σ53)) (cond (i3 == (16:Int)) (callT Tryz.prog Lb n 38 [.ptr a1,.slice (some (σ.length,0)) 2 (some 2) 1] (σ ++ [AObj.cells [.str [99,111,110,116,105,110,117,101],.str [59]] (.rw (.row 9))]:St) fun _ σ55=>
 some (.ret (.tuple []),σ55)) (cond (i3 == (18:Int)) (callT Tryz.prog Lb n 41 [.ptr a1,.int .i64 i2] σ fun _ σ57=>
 cond (decide ((n11:Int) > (0:Int))) (callT Tryz.prog Lb n 38 [.ptr a1,.slice (some (σ57.length,0)) 1 (some 1) 1] (σ57 ++ [AObj.cells [.str [61]] (.rw (.row 9))]:St) fun _ σ59=>
 idxK (0:Int) n11 <|
 derefK a10 fun b61 o62=>
 szK z13 1 <|
 ldK Tryz.prog 3 σ59 b61 (o62 + 0) fun x63=>
 xInt .i64 x63 fun i64=>
 callT Tryz.prog Lb n 66 [.ptr a1,.int .i64 i64] σ59 fun _ σ65=>
 callT Tryz.prog Lb n 38 [.ptr a1,.slice (some (σ65.length,0)) 1 (some 1) 1] (σ65 ++ [AObj.cells [.str [59]] (.rw (.row 9))]:St) fun _ σ67=>
 some (.ret (.tuple []),σ67)) (callT Tryz.prog Lb n 38 [.ptr a1,.slice (some (σ57.length,0)) 1 (some 1) 1] (σ57 ++ [AObj.cells [.str [59]] (.rw (.row 9))]:St) fun _ σ69=>
 some (.ret (.tuple []),σ69))) (cond (i3 == (11:Int)) (idxK (0:Int) n11 <|
 derefK a10 fun b71 o72=>
 szK z13 1 <|
 ldK Tryz.prog 3 σ b71 (o72 + 0) fun x73=>
 xInt .i64 x73 fun i74=>
 callT Tryz.prog Lb n 66 [.ptr a1,.int .i64 i74] σ fun _ σ75=>
 callT Tryz.prog Lb n 38 [.ptr a1,.slice (some (σ75.length,0)) 1 (some 1) 1] (σ75 ++ [AObj.cells [.str [61]] (.rw (.row 9))]:St) fun _ σ77=>
 idxK (1:Int) n11 <|
 derefK a10 fun b79 o80=>
 szK z13 1 <|
 ldK Tryz.prog 3 σ77 b79 (o80 + 1) fun x81=>
 xInt .i64 x81 fun i82=>
 callT Tryz.prog Lb n 66 [.ptr a1,.int .i64 i82] σ77 fun _ σ83=>
 callT Tryz.prog Lb n 38 [.ptr a1,.slice (some (σ83.length,0)) 1 (some 1) 1] (σ83 ++ [AObj.cells [.str [59]] (.rw (.row 9))]:St) fun _ σ85=>
 some (.ret (.tuple []),σ85)) (cond (i3 == (10:Int)) (idxK (0:Int) n11 <|
 derefK a10 fun b87 o88=>
 szK z13 1 <|
 ldK Tryz.prog 3 σ b87 (o88 + 0) fun x89=>
 xInt .i64 x89 fun i90=>
 callT Tryz.prog Lb n 66 [.ptr a1,.int .i64 i90] σ fun _ σ91=>
 callT Tryz.prog Lb n 38 [.ptr a1,.slice (some (σ91.length,0)) 1 (some 1) 1] (σ91 ++ [AObj.cells [.str [59]] (.rw (.row 9))]:St) fun _ σ93=>
 some (.ret (.tuple []),σ93)) (some (.ret (.tuple []),σ))))))))
theorem f42_j3_g (L:Leaf) (n:Nat) (a1:Ad) (i2 i3:Int) (b4:Bool) (i5 i6:Int) (s7:By) (i8 i9:Int) (a10:Ad) (n11:Nat) (c12:On) (z13:Nat) (σ:St):goT Tryz.prog Lb 42 n L [] [1,1,0,1,1,1] [] ⟨tm 151 [(0,.v (.ptr a1)),(1,.v (.int .i64 i2)),(4,.lp 4 0),(15,.v (.int .i64 i3)),(35,.v (.bool b4))] 0,[(4,[.int .i64 i5,.int .i64 i6,.str s7,.int .i64 i8,.int .i64 i9,.slice a10 n11 c12 z13])],[]⟩ σ = f42_j3_t L n a1 i2 i3 b4 i5 i6 s7 i8 i9 a10 n11 c12 z13 σ:=by kernel_rfl
theorem f42_j3_e {n:Nat} {a1:Ad} {i2 i3:Int} {b4:Bool} {i5 i6:Int} {s7:By} {i8 i9:Int} {a10:Ad} {n11:Nat} {c12:On} {z13:Nat} {σ:St}:Le (f42_j3_t (pt Tryz.prog Lb 42 n) n a1 i2 i3 b4 i5 i6 s7 i8 i9 a10 n11 c12 z13 σ) (f42_j3 (pt Tryz.prog Lb 42 n) a1 i2 i3 b4 i5 i6 s7 i8 i9 a10 n11 c12 z13 σ):=by
 unfold f42_j3;exact goT_pt (f42_j3_g _ n a1 i2 i3 b4 i5 i6 s7 i8 i9 a10 n11 c12 z13 σ)
noncomputable def f42_j4_t (_:Leaf) (n:Nat) (a1:Ad) (σ:St):Out:=
 callT Tryz.prog Lb n 38 [.ptr a1,.slice (some (σ.length,0)) 1 (some 1) 1] (σ ++ [AObj.cells [.str [125]] (.rw (.row 9))]:St) fun _ σ2=>
 some (.ret (.tuple []),σ2)
theorem f42_j4_g:f42_j4 (goT Tryz.prog Lb 42 n L []) a1 σ = f42_j4_t L n a1 σ:=by kernel_rfl
theorem f42_j4_e:Le (f42_j4_t (pt Tryz.prog Lb 42 n) n a1 σ) (f42_j4 (pt Tryz.prog Lb 42 n) a1 σ):=by
 unfold f42_j4;exact goT_pt f42_j4_g
noncomputable def f62_j1 (L:Leaf) (i1 i2:Int) (b3:Bool) (σ:St):Out:=
 L [1,0,0,1] [] ⟨tm 27 [(0,.v (.int .i64 i1)),(2,.v (.int .i64 i2)),(3,.v (.bool b3))] 0,[],[]⟩ σ
noncomputable def f62_j2 (L:Leaf) (i1 i2:Int) (σ:St):Out:=
 L [1,0,0,1] [] ⟨tm 27 [(0,.v (.int .i64 i1)),(2,.v (.int .i64 i2)),(3,.v (.bool false))] 0,[],[]⟩ σ
noncomputable def f62_j3 (L:Leaf) (i1 i2:Int) (b3:Bool) (σ:St):Out:=
 L [1,0,0,1,1,1] [] ⟨tm 27 [(0,.v (.int .i64 i1)),(2,.v (.int .i64 i2)),(10,.v (.bool b3))] 0,[],[]⟩ σ
noncomputable def f62_j4 (L:Leaf) (i1 i2:Int) (σ:St):Out:=
 L [1,0,0,1,1,1] [] ⟨tm 27 [(0,.v (.int .i64 i1)),(2,.v (.int .i64 i2)),(10,.v (.bool false))] 0,[],[]⟩ σ
noncomputable def f62_j5 (L:Leaf) (i1 i2:Int) (b3:Bool) (σ:St):Out:=
 L [1,0,0,1,1,1,1,1] [] ⟨tm 27 [(0,.v (.int .i64 i1)),(2,.v (.int .i64 i2)),(17,.v (.bool b3))] 0,[],[]⟩ σ
noncomputable def f62_j6 (L:Leaf) (i1 i2:Int) (σ:St):Out:=
 L [1,0,0,1,1,1,1,1] [] ⟨tm 27 [(0,.v (.int .i64 i1)),(2,.v (.int .i64 i2)),(17,.v (.bool false))] 0,[],[]⟩ σ
noncomputable def f62_t (L:Leaf) (_:Nat) (i1:Int) (σ:St):Out:=
 cond (decide (i1 ≥ (1:Int))) (f62_j1 L i1 (0:Int) (decide (i1 ≤ (7:Int))) σ) (f62_j2 L i1 (0:Int) σ)
theorem f62_g:goT Tryz.prog Lb 62 n L [[1,0,0,1]] [] [] ⟨tm 27 [(0,.v (.int .i64 i1))] 0,[],[]⟩ σ = f62_t L n i1 σ:=by kernel_rfl
theorem f62_e:Le (f62_t (pt Tryz.prog Lb 62 n) n i1 σ) (callP Tryz.prog Lb (n + 1) 62 [.int .i64 i1] σ):=
 goT_call f62_g rfl (by kernel_rfl) (by kernel_rfl)
noncomputable def f62_j1_t (L:Leaf) (_:Nat) (i1 i2:Int) (b3:Bool) (σ:St):Out:=
 cond b3 (some (.ret (.int .i64 (1:Int)),σ)) (cond (decide (i1 ≥ (10:Int))) (f62_j3 L i1 i2 (decide (i1 ≤ (18:Int))) σ) (f62_j4 L i1 i2 σ))
theorem f62_j1_g:f62_j1 (goT Tryz.prog Lb 62 n L [[1,0,0,1,1,1]]) i1 i2 b3 σ = f62_j1_t L n i1 i2 b3 σ:=by kernel_rfl
theorem f62_j1_e:Le (f62_j1_t (pt Tryz.prog Lb 62 n) n i1 i2 b3 σ) (f62_j1 (pt Tryz.prog Lb 62 n) i1 i2 b3 σ):=by
 unfold f62_j1;exact goT_pt f62_j1_g
noncomputable def f62_j2_t (L:Leaf) (_:Nat) (i1 i2:Int) (σ:St):Out:=
 cond (decide (i1 ≥ (10:Int))) (f62_j3 L i1 i2 (decide (i1 ≤ (18:Int))) σ) (f62_j4 L i1 i2 σ)
theorem f62_j2_g:f62_j2 (goT Tryz.prog Lb 62 n L [[1,0,0,1,1,1]]) i1 i2 σ = f62_j2_t L n i1 i2 σ:=by kernel_rfl
theorem f62_j2_e:Le (f62_j2_t (pt Tryz.prog Lb 62 n) n i1 i2 σ) (f62_j2 (pt Tryz.prog Lb 62 n) i1 i2 σ):=by
 unfold f62_j2;exact goT_pt f62_j2_g
noncomputable def f62_j3_t (L:Leaf) (_:Nat) (i1 i2:Int) (b3:Bool) (σ:St):Out:=
 cond b3 (some (.ret (.int .i64 (2:Int)),σ)) (cond (decide (i1 ≥ (20:Int))) (f62_j5 L i1 i2 (decide (i1 ≤ (22:Int))) σ) (f62_j6 L i1 i2 σ))
theorem f62_j3_g:f62_j3 (goT Tryz.prog Lb 62 n L [[1,0,0,1,1,1,1,1]]) i1 i2 b3 σ = f62_j3_t L n i1 i2 b3 σ:=by kernel_rfl
theorem f62_j3_e:Le (f62_j3_t (pt Tryz.prog Lb 62 n) n i1 i2 b3 σ) (f62_j3 (pt Tryz.prog Lb 62 n) i1 i2 b3 σ):=by
 unfold f62_j3;exact goT_pt f62_j3_g
noncomputable def f62_j4_t (L:Leaf) (_:Nat) (i1 i2:Int) (σ:St):Out:=
 cond (decide (i1 ≥ (20:Int))) (f62_j5 L i1 i2 (decide (i1 ≤ (22:Int))) σ) (f62_j6 L i1 i2 σ)
theorem f62_j4_g:f62_j4 (goT Tryz.prog Lb 62 n L [[1,0,0,1,1,1,1,1]]) i1 i2 σ = f62_j4_t L n i1 i2 σ:=by kernel_rfl
theorem f62_j4_e:Le (f62_j4_t (pt Tryz.prog Lb 62 n) n i1 i2 σ) (f62_j4 (pt Tryz.prog Lb 62 n) i1 i2 σ):=by
 unfold f62_j4;exact goT_pt f62_j4_g
noncomputable def f62_j5_t (_:Leaf) (_:Nat) (i1 _:Int) (b3:Bool) (σ:St):Out:=
 cond b3 (some (.ret (.int .i64 (3:Int)),σ)) (cond (i1 == (23:Int)) (some (.ret (.int .i64 (4:Int)),σ)) (some (.ret (.int .i64 (0:Int)),σ)))
theorem f62_j5_g:f62_j5 (goT Tryz.prog Lb 62 n L []) i1 i2 b3 σ = f62_j5_t L n i1 i2 b3 σ:=by kernel_rfl
theorem f62_j5_e:Le (f62_j5_t (pt Tryz.prog Lb 62 n) n i1 i2 b3 σ) (f62_j5 (pt Tryz.prog Lb 62 n) i1 i2 b3 σ):=by
 unfold f62_j5;exact goT_pt f62_j5_g
noncomputable def f62_j6_t (_:Leaf) (_:Nat) (i1 _:Int) (σ:St):Out:=
 cond (i1 == (23:Int)) (some (.ret (.int .i64 (4:Int)),σ)) (some (.ret (.int .i64 (0:Int)),σ))
theorem f62_j6_g:f62_j6 (goT Tryz.prog Lb 62 n L []) i1 i2 σ = f62_j6_t L n i1 i2 σ:=by kernel_rfl
theorem f62_j6_e:Le (f62_j6_t (pt Tryz.prog Lb 62 n) n i1 i2 σ) (f62_j6 (pt Tryz.prog Lb 62 n) i1 i2 σ):=by
 unfold f62_j6;exact goT_pt f62_j6_g
noncomputable def f66_j1 (L:Leaf) (b1 o2 b3 o4:Nat) (σ:St):Out:=
 L [1,1,1,1,0,1,1,1,1,1,1,1,1,1,0,1] [] ⟨tm 134 [(2,.v (.ptr (some (b1,o2)))),(4,.v (.ptr (some (b3,o4))))] 0,[],[]⟩ σ
noncomputable def f66_t (L:Leaf) (n:Nat) (a1:Ad) (i2:Int) (σ:St):Out:=
 ldK Tryz.prog 51 (σ ++ [AObj.cells [.ptr a1] (.rw (.box 51))]:St) σ.length 0 fun x3=>
 xPtr x3 fun a4=>
 derefK a4 fun b5 o6=>
 ldK Tryz.prog 24 (σ ++ [AObj.cells [.ptr a1] (.rw (.box 51))]:St) b5 (o6 + 0) fun x7=>
 xSl x7 fun a8 n9 _ z11=>
 idxK i2 n9 <|
 derefK a8 fun b12 o13=>
 szK z11 6 <|
 ldK Tryz.prog 34 (σ ++ [AObj.cells [.ptr a1] (.rw (.box 51))]:St) b12 (o13 + ((i2).toNat * 6)) fun x14=>
 xAgg x14 fun cs15=>
 unC cs15 fun x16 r17=>
 xInt .i64 x16 fun i18=>
 unC r17 fun x19 r20=>
 xInt .i64 x19 fun i21=>
 unC r20 fun x22 r23=>
 xStr x22 fun s24=>
 unC r23 fun x25 r26=>
 xInt .i64 x25 fun i27=>
 unC r26 fun x28 r29=>
 xInt .i64 x28 fun i30=>
 unC r29 fun x31 r32=>
 xSl x31 fun a33 n34 c35 z36=>
 nlC r32 <|
 stK ((σ ++ [AObj.cells [.ptr a1] (.rw (.box 51))]:St) ++ [AObj.cells [.int .i64 (0:Int),.int .i64 (0:Int),.str [],.int .i64 (0:Int),.int .i64 (0:Int),.slice none 0 (some 0) 0] (.rw (.box 34))]:St) (σ ++ [AObj.cells [.ptr a1] (.rw (.box 51))]:St).length 0 [.int .i64 i18,.int .i64 i21,.str s24,.int .i64 i27,.int .i64 i30,.slice a33 n34 c35 z36] fun σ37=>
 stK (σ37 ++ [AObj.cells [.nilFunc] (.rw (.box 95))]:St) σ37.length 0 [.func (.func 90) [] [.ptr (some (σ.length,0)),.ptr (some ((σ ++ [AObj.cells [.ptr a1] (.rw (.box 51))]:St).length,0))]] fun σ38=>
 ldK Tryz.prog 3 σ38 (σ ++ [AObj.cells [.ptr a1] (.rw (.box 51))]:St).length 0 fun x39=>
 xInt .i64 x39 fun i40=>
 cond (i40 == (1:Int)) (ldK Tryz.prog 51 σ38 σ.length 0 fun x41=>
 xPtr x41 fun a42=>
 ldK Tryz.prog 2 σ38 (σ ++ [AObj.cells [.ptr a1] (.rw (.box 51))]:St).length 3 fun x43=>
 xInt .i64 x43 fun i44=>
 callQ Tryz.prog Lb n 39 [.int .i64 i44,.int .i64 (10:Int)] σ38 fun v46=>
 xStr v46 fun s47=>
 keepsK [(σ38,(σ38 ++ [AObj.cells [.str s47] (.rw (.row 9))]:St),σ.length)] <|
 callTD Tryz.prog Lb n 38 [.ptr a42,.slice (some (σ38.length,0)) 1 (some 1) 1] (σ38 ++ [AObj.cells [.str s47] (.rw (.row 9))]:St) fun _ σ48=>
 some (.ret (.tuple []),σ48)) (cond (i40 == (2:Int)) (ldK Tryz.prog 51 σ38 σ.length 0 fun x50=>
 xPtr x50 fun a51=>
 ldK Tryz.prog 9 σ38 (σ ++ [AObj.cells [.ptr a1] (.rw (.box 51))]:St).length 2 fun x52=>
 xStr x52 fun s53=>
 callTD Tryz.prog Lb n 91 [.str s53] σ38 fun v55 σ54=>
 xStr v55 fun s56=>
 keepsK [(σ38,σ54,σ.length)] <|
 keepsK [(σ54,(σ54 ++ [AObj.cells [.str s56] (.rw (.row 9))]:St),σ.length)] <|
 callTD Tryz.prog Lb n 38 [.ptr a51,.slice (some (σ54.length,0)) 1 (some 1) 1] (σ54 ++ [AObj.cells [.str s56] (.rw (.row 9))]:St) fun _ σ57=>
 some (.ret (.tuple []),σ57)) (cond (i40 == (3:Int)) (ldK Tryz.prog 51 σ38 σ.length 0 fun x59=>
 xPtr x59 fun a60=>
 ldK Tryz.prog 9 σ38 (σ ++ [AObj.cells [.ptr a1] (.rw (.box 51))]:St).length 2 fun x61=>
 xStr x61 fun s62=>
 callT Tryz.prog Lb n 38 [.ptr a60,.slice (some (σ38.length,0)) 1 (some 1) 1] (σ38 ++ [AObj.cells [.str s62] (.rw (.row 9))]:St) fun _ σ63=>
 some (.ret (.tuple []),σ63)) (cond (i40 == (4:Int)) (ldK Tryz.prog 51 σ38 σ.length 0 fun x65=>
 xPtr x65 fun a66=>
 ldK Tryz.prog 9 σ38 (σ ++ [AObj.cells [.ptr a1] (.rw (.box 51))]:St).length 2 fun x67=>
 xStr x67 fun s68=>
 callT Tryz.prog Lb n 38 [.ptr a66,.slice (some (σ38.length,0)) 2 (some 2) 1] (σ38 ++ [AObj.cells [.str s68,.str [40]] (.rw (.row 9))]:St) fun _ σ69=>
 ldK Tryz.prog 51 σ69 σ.length 0 fun x71=>
 xPtr x71 fun a72=>
 ldK Tryz.prog 32 σ69 (σ ++ [AObj.cells [.ptr a1] (.rw (.box 51))]:St).length 5 fun x73=>
 xSl x73 fun a74 n75 c76 z77=>
 ldK Tryz.prog 51 σ69 σ.length 0 fun x78=>
 xPtr x78 fun a79=>
 callT Tryz.prog Lb n 40 [.ptr a72,.slice a74 n75 c76 z77,.func (.func 66) [.ptr a79] []] σ69 fun _ σ80=>
 ldK Tryz.prog 51 σ80 σ.length 0 fun x82=>
 xPtr x82 fun a83=>
 callT Tryz.prog Lb n 38 [.ptr a83,.slice (some (σ80.length,0)) 1 (some 1) 1] (σ80 ++ [AObj.cells [.str [41]] (.rw (.row 9))]:St) fun _ σ84=>
 some (.ret (.tuple []),σ84)) (cond (i40 == (5:Int)) (ldK Tryz.prog 51 σ38 σ.length 0 fun x86=>
 xPtr x86 fun a87=>
 ldK Tryz.prog 32 σ38 (σ ++ [AObj.cells [.ptr a1] (.rw (.box 51))]:St).length 5 fun x88=>
 xSl x88 fun a89 n90 _ z92=>
 idxK (0:Int) n90 <|
 derefK a89 fun b93 o94=>
 szK z92 1 <|
 ldK Tryz.prog 3 σ38 b93 (o94 + 0) fun x95=>
 xInt .i64 x95 fun i96=>
 ldK Tryz.prog 95 σ38 σ37.length 0 fun x97=>
 callFD Tryz.prog Lb n x97 [.int .i64 (0:Int)] σ38 fun v99 σ98=>
 xInt .i64 v99 fun i100=>
 keepsK [(σ38,σ98,σ.length),(σ38,σ98,(σ ++ [AObj.cells [.ptr a1] (.rw (.box 51))]:St).length),(σ38,σ98,b93)] <|
 cond (i100 == (6:Int)) (keepsK [(σ98,σ98,σ.length),(σ98,σ98,(σ ++ [AObj.cells [.ptr a1] (.rw (.box 51))]:St).length),(σ98,σ98,b93)] <|
 callTD Tryz.prog Lb n 92 [.ptr a87,.int .i64 i96,.bool true] σ98 fun _ σ101=>
 f66_j1 L σ.length 0 ((σ ++ [AObj.cells [.ptr a1] (.rw (.box 51))]:St).length) 0 σ101) (ldK Tryz.prog 95 σ98 σ37.length 0 fun x103=>
 callFD Tryz.prog Lb n x103 [.int .i64 (0:Int)] σ98 fun v105 σ104=>
 xInt .i64 v105 fun i106=>
 keepsK [(σ98,σ104,σ.length),(σ98,σ104,(σ ++ [AObj.cells [.ptr a1] (.rw (.box 51))]:St).length),(σ98,σ104,b93)] <|
 callTD Tryz.prog Lb n 92 [.ptr a87,.int .i64 i96,.bool (i106 == (7:Int))] σ104 fun _ σ107=>
 f66_j1 L σ.length 0 ((σ ++ [AObj.cells [.ptr a1] (.rw (.box 51))]:St).length) 0 σ107)) (cond (i40 == (6:Int)) (ldK Tryz.prog 51 σ38 σ.length 0 fun x109=>
 xPtr x109 fun a110=>
 ldK Tryz.prog 2 σ38 (σ ++ [AObj.cells [.ptr a1] (.rw (.box 51))]:St).length 3 fun x111=>
 xInt .i64 x111 fun i112=>
 callTD Tryz.prog Lb n 93 [.int .i64 i112] σ38 fun v114 σ113=>
 xStr v114 fun s115=>
 keepsK [(σ38,σ113,σ.length)] <|
 keepsK [(σ113,(σ113 ++ [AObj.cells [.str s115] (.rw (.row 9))]:St),σ.length)] <|
 callTD Tryz.prog Lb n 38 [.ptr a110,.slice (some (σ113.length,0)) 1 (some 1) 1] (σ113 ++ [AObj.cells [.str s115] (.rw (.row 9))]:St) fun _ σ116=>
 ldK Tryz.prog 51 σ116 σ.length 0 fun x118=>
 xPtr x118 fun a119=>
 ldK Tryz.prog 32 σ116 (σ ++ [AObj.cells [.ptr a1] (.rw (.box 51))]:St).length 5 fun x120=>
 xSl x120 fun a121 n122 _ z124=>
 idxK (0:Int) n122 <|
 derefK a121 fun b125 o126=>
 szK z124 1 <|
 ldK Tryz.prog 3 σ116 b125 (o126 + 0) fun x127=>
 xInt .i64 x127 fun i128=>
 ldK Tryz.prog 95 σ116 σ37.length 0 fun x129=>
 callFD Tryz.prog Lb n x129 [.int .i64 (0:Int)] σ116 fun v131 σ130=>
 xInt .i64 v131 fun i132=>
 keepsK [(σ116,σ130,σ.length),(σ116,σ130,(σ ++ [AObj.cells [.ptr a1] (.rw (.box 51))]:St).length),(σ116,σ130,b125)] <|
 callTD Tryz.prog Lb n 92 [.ptr a119,.int .i64 i128,.bool (i132 == (7:Int))] σ130 fun _ σ133=>
 some (.ret (.tuple []),σ133)) (cond (i40 == (7:Int)) (ldK Tryz.prog 51 σ38 σ.length 0 fun x135=>
 xPtr x135 fun a136=>
 ldK Tryz.prog 32 σ38 (σ ++ [AObj.cells [.ptr a1] (.rw (.box 51))]:St).length 5 fun x137=>
 xSl x137 fun a138 n139 _ z141=>
 idxK (0:Int) n139 <|
 derefK a138 fun b142 o143=>
 szK z141 1 <|
 ldK Tryz.prog 3 σ38 b142 (o143 + 0) fun x144=>
 xInt .i64 x144 fun i145=>
 callTD Tryz.prog Lb n 94 [.int .i64 (0:Int),.ptr (some (σ37.length,0)),.ptr (some (σ.length,0)),.ptr (some ((σ ++ [AObj.cells [.ptr a1] (.rw (.box 51))]:St).length,0))] σ38 fun v147 σ146=>
 xInt .i64 v147 fun i148=>
 keepsK [(σ38,σ146,σ.length),(σ38,σ146,(σ ++ [AObj.cells [.ptr a1] (.rw (.box 51))]:St).length),(σ38,σ146,b142)] <|
 ldK Tryz.prog 2 σ146 (σ ++ [AObj.cells [.ptr a1] (.rw (.box 51))]:St).length 3 fun x149=>
 xInt .i64 x149 fun i150=>
 keepsK [(σ38,σ146,(σ ++ [AObj.cells [.ptr a1] (.rw (.box 51))]:St).length)] <|
 callTD Tryz.prog Lb n 95 [.int .i64 i150] σ146 fun v152 σ151=>
 xInt .i64 v152 fun i153=>
 keepsK [(σ146,σ151,σ.length),(σ146,σ151,(σ ++ [AObj.cells [.ptr a1] (.rw (.box 51))]:St).length),(σ146,σ151,b142)] <|
 callTD Tryz.prog Lb n 92 [.ptr a136,.int .i64 i145,.bool (decide (i148 < i153))] σ151 fun _ σ154=>
 ldK Tryz.prog 51 σ154 σ.length 0 fun x156=>
 xPtr x156 fun a157=>
 ldK Tryz.prog 2 σ154 (σ ++ [AObj.cells [.ptr a1] (.rw (.box 51))]:St).length 3 fun x158=>
 xInt .i64 x158 fun i159=>
 callTD Tryz.prog Lb n 93 [.int .i64 i159] σ154 fun v161 σ160=>
 xStr v161 fun s162=>
 keepsK [(σ154,σ160,σ.length)] <|
 keepsK [(σ160,(σ160 ++ [AObj.cells [.str s162] (.rw (.row 9))]:St),σ.length)] <|
 callTD Tryz.prog Lb n 38 [.ptr a157,.slice (some (σ160.length,0)) 1 (some 1) 1] (σ160 ++ [AObj.cells [.str s162] (.rw (.row 9))]:St) fun _ σ163=>
 ldK Tryz.prog 51 σ163 σ.length 0 fun x165=>
 xPtr x165 fun a166=>
 ldK Tryz.prog 32 σ163 (σ ++ [AObj.cells [.ptr a1] (.rw (.box 51))]:St).length 5 fun x167=>
 xSl x167 fun a168 n169 _ z171=>
 idxK (1:Int) n169 <|
 derefK a168 fun b172 o173=>
 szK z171 1 <|
 ldK Tryz.prog 3 σ163 b172 (o173 + 1) fun x174=>
 xInt .i64 x174 fun i175=>
 callTD Tryz.prog Lb n 94 [.int .i64 (1:Int),.ptr (some (σ37.length,0)),.ptr (some (σ.length,0)),.ptr (some ((σ ++ [AObj.cells [.ptr a1] (.rw (.box 51))]:St).length,0))] σ163 fun v177 σ176=>
 xInt .i64 v177 fun i178=>
 keepsK [(σ163,σ176,σ.length),(σ163,σ176,(σ ++ [AObj.cells [.ptr a1] (.rw (.box 51))]:St).length),(σ163,σ176,b172)] <|
 ldK Tryz.prog 2 σ176 (σ ++ [AObj.cells [.ptr a1] (.rw (.box 51))]:St).length 3 fun x179=>
 xInt .i64 x179 fun i180=>
 keepsK [(σ163,σ176,(σ ++ [AObj.cells [.ptr a1] (.rw (.box 51))]:St).length)] <|
 callTD Tryz.prog Lb n 95 [.int .i64 i180] σ176 fun v182 σ181=>
 xInt .i64 v182 fun i183=>
 keepsK [(σ176,σ181,σ.length),(σ176,σ181,(σ ++ [AObj.cells [.ptr a1] (.rw (.box 51))]:St).length),(σ176,σ181,b172)] <|
 callTD Tryz.prog Lb n 92 [.ptr a166,.int .i64 i175,.bool (decide (i178 ≤ i183))] σ181 fun _ σ184=>
 some (.ret (.tuple []),σ184)) (some (.ret (.tuple []),σ38))))))))
theorem f66_g:goT Tryz.prog Lb 66 n L [[1,1,1,1,0,1,1,1,1,1,1,1,1,1,0,1]] [] [] ⟨tm 134 [(0,.v (.ptr a1)),(1,.v (.int .i64 i2))] 0,[],[]⟩ σ = f66_t L n a1 i2 σ:=by kernel_rfl
theorem f66_e:Le (f66_t (pt Tryz.prog Lb 66 n) n a1 i2 σ) (callP Tryz.prog Lb (n + 1) 66 [.ptr a1,.int .i64 i2] σ):=
 goT_call f66_g rfl (by kernel_rfl) (by kernel_rfl)
noncomputable def f66_j1_t (_:Leaf) (n b1 o2 b3 o4:Nat) (σ:St):Out:=
 ldK Tryz.prog 51 σ b1 o2 fun x5=>
 xPtr x5 fun a6=>
 callT Tryz.prog Lb n 38 [.ptr a6,.slice (some (σ.length,0)) 1 (some 1) 1] (σ ++ [AObj.cells [.str [91]] (.rw (.row 9))]:St) fun _ σ7=>
 ldK Tryz.prog 51 σ7 b1 o2 fun x9=>
 xPtr x9 fun a10=>
 ldK Tryz.prog 32 σ7 b3 (o4 + 5) fun x11=>
 xSl x11 fun a12 n13 _ z15=>
 idxK (1:Int) n13 <|
 derefK a12 fun b16 o17=>
 szK z15 1 <|
 ldK Tryz.prog 3 σ7 b16 (o17 + 1) fun x18=>
 xInt .i64 x18 fun i19=>
 callTD Tryz.prog Lb n 66 [.ptr a10,.int .i64 i19] σ7 fun _ σ20=>
 ldK Tryz.prog 51 σ20 b1 o2 fun x22=>
 xPtr x22 fun a23=>
 callT Tryz.prog Lb n 38 [.ptr a23,.slice (some (σ20.length,0)) 1 (some 1) 1] (σ20 ++ [AObj.cells [.str [93]] (.rw (.row 9))]:St) fun _ σ24=>
 some (.ret (.tuple []),σ24)
theorem f66_j1_g (L:Leaf) (n:Nat) (b1 o2 b3 o4:Nat) (σ:St):goT Tryz.prog Lb 66 n L [] [1,1,1,1,0,1,1,1,1,1,1,1,1,1,0,1] [] ⟨tm 134 [(2,.v (.ptr (some (b1,o2)))),(4,.v (.ptr (some (b3,o4))))] 0,[],[]⟩ σ = f66_j1_t L n b1 o2 b3 o4 σ:=by kernel_rfl
theorem f66_j1_e {n:Nat} {b1 o2 b3 o4:Nat} {σ:St}:Le (f66_j1_t (pt Tryz.prog Lb 66 n) n b1 o2 b3 o4 σ) (f66_j1 (pt Tryz.prog Lb 66 n) b1 o2 b3 o4 σ):=by
 unfold f66_j1;exact goT_pt (f66_j1_g _ n b1 o2 b3 o4 σ)
noncomputable def f90_t (_:Leaf) (_:Nat) (i1:Int) (b2 o3 b4 o5:Nat) (σ:St):Out:=
 ldK Tryz.prog 51 σ b2 o3 fun x6=>
 xPtr x6 fun a7=>
 derefK a7 fun b8 o9=>
 ldK Tryz.prog 24 σ b8 (o9 + 0) fun x10=>
 xSl x10 fun a11 n12 _ z14=>
 ldK Tryz.prog 32 σ b4 (o5 + 5) fun x15=>
 xSl x15 fun a16 n17 _ z19=>
 idxK i1 n17 <|
 derefK a16 fun b20 o21=>
 szK z19 1 <|
 ldK Tryz.prog 3 σ b20 (o21 + ((i1).toNat * 1)) fun x22=>
 xInt .i64 x22 fun i23=>
 idxK i23 n12 <|
 derefK a11 fun b24 o25=>
 szK z14 6 <|
 ldK Tryz.prog 3 σ b24 ((o25 + ((i23).toNat * 6)) + 0) fun x26=>
 xInt .i64 x26 fun i27=>
 some (.ret (.int .i64 i27),σ)
theorem f90_g:goT Tryz.prog Lb 90 n L [] [] [] ⟨tm 17 [(0,.v (.int .i64 i1)),(1,.v (.ptr (some (b2,o3)))),(2,.v (.ptr (some (b4,o5))))] 0,[],[]⟩ σ = f90_t L n i1 b2 o3 b4 o5 σ:=by kernel_rfl
theorem f90_e:Le (f90_t (pt Tryz.prog Lb 90 n) n i1 b2 o3 b4 o5 σ) (callP Tryz.prog Lb (n + 1) 90 [.int .i64 i1,.ptr (some (b2,o3)),.ptr (some (b4,o5))] σ):=
 goT_call f90_g rfl (by kernel_rfl) (by kernel_rfl)
noncomputable def f92_j1 (L:Leaf) (a1:Ad) (i2:Int) (b3:Bool) (σ:St):Out:=
 L [1] [] ⟨tm 17 [(0,.v (.ptr a1)),(1,.v (.int .i64 i2)),(2,.v (.bool b3))] 0,[],[]⟩ σ
noncomputable def f92_t (L:Leaf) (n:Nat) (a1:Ad) (i2:Int) (b3:Bool) (σ:St):Out:=
 cond b3 (callT Tryz.prog Lb n 38 [.ptr a1,.slice (some (σ.length,0)) 1 (some 1) 1] (σ ++ [AObj.cells [.str [40]] (.rw (.row 9))]:St) fun _ σ4=>
 f92_j1 L a1 i2 b3 σ4) (f92_j1 L a1 i2 b3 σ)
theorem f92_g:goT Tryz.prog Lb 92 n L [[1]] [] [] ⟨tm 17 [(0,.v (.ptr a1)),(1,.v (.int .i64 i2)),(2,.v (.bool b3))] 0,[],[]⟩ σ = f92_t L n a1 i2 b3 σ:=by kernel_rfl
theorem f92_e:Le (f92_t (pt Tryz.prog Lb 92 n) n a1 i2 b3 σ) (callP Tryz.prog Lb (n + 1) 92 [.ptr a1,.int .i64 i2,.bool b3] σ):=
 goT_call f92_g rfl (by kernel_rfl) (by kernel_rfl)
noncomputable def f92_j1_t (_:Leaf) (n:Nat) (a1:Ad) (i2:Int) (b3:Bool) (σ:St):Out:=
 callT Tryz.prog Lb n 66 [.ptr a1,.int .i64 i2] σ fun _ σ4=>
 cond b3 (callT Tryz.prog Lb n 38 [.ptr a1,.slice (some (σ4.length,0)) 1 (some 1) 1] (σ4 ++ [AObj.cells [.str [41]] (.rw (.row 9))]:St) fun _ σ6=>
 some (.ret (.tuple []),σ6)) (some (.ret (.tuple []),σ4))
theorem f92_j1_g:f92_j1 (goT Tryz.prog Lb 92 n L []) a1 i2 b3 σ = f92_j1_t L n a1 i2 b3 σ:=by kernel_rfl
theorem f92_j1_e:Le (f92_j1_t (pt Tryz.prog Lb 92 n) n a1 i2 b3 σ) (f92_j1 (pt Tryz.prog Lb 92 n) a1 i2 b3 σ):=by
 unfold f92_j1;exact goT_pt f92_j1_g
noncomputable def f93_t (_:Leaf) (n:Nat) (i1:Int) (σ:St):Out:=
 callT Tryz.prog Lb n 51 [.str [45,32,33,32,126,32,42,32,47,32,37,32,43,32,45,32,60,60,32,62,62,32,60,32,60,61,32,62,32,62,61,32,61,61,32,33,61,32,38,32,94,32,124,32,38,38,32,124,124]] σ fun v3 σ2=>
 xSl v3 fun a4 n5 _ z7=>
 idxK (IntKind.wrap .i64 (i1 - (1:Int))) n5 <|
 derefK a4 fun b8 o9=>
 szK z7 1 <|
 ldK Tryz.prog 9 σ2 b8 (o9 + (((IntKind.wrap .i64 (i1 - (1:Int)))).toNat * 1)) fun x10=>
 xStr x10 fun s11=>
 some (.ret (.str s11),σ2)
theorem f93_g:goT Tryz.prog Lb 93 n L [] [] [] ⟨tm 8 [(0,.v (.int .i64 i1))] 0,[],[]⟩ σ = f93_t L n i1 σ:=by kernel_rfl
theorem f93_e:Le (f93_t (pt Tryz.prog Lb 93 n) n i1 σ) (callP Tryz.prog Lb (n + 1) 93 [.int .i64 i1] σ):=
 goT_call f93_g rfl (by kernel_rfl) (by kernel_rfl)
noncomputable def f94_t (_:Leaf) (n:Nat) (i1:Int) (b2 o3 b4 o5 b6 o7:Nat) (σ:St):Out:=
 ldK Tryz.prog 95 σ b2 o3 fun x8=>
 callF Tryz.prog Lb n x8 [.int .i64 i1] σ fun v10 σ9=>
 xInt .i64 v10 fun i11=>
 cond (i11 != (7:Int)) (some (.ret (.int .i64 (99:Int)),σ9)) (ldK Tryz.prog 51 σ9 b4 o5 fun x12=>
 xPtr x12 fun a13=>
 derefK a13 fun b14 o15=>
 ldK Tryz.prog 24 σ9 b14 (o15 + 0) fun x16=>
 xSl x16 fun a17 n18 _ z20=>
 ldK Tryz.prog 32 σ9 b6 (o7 + 5) fun x21=>
 xSl x21 fun a22 n23 _ z25=>
 idxK i1 n23 <|
 derefK a22 fun b26 o27=>
 szK z25 1 <|
 ldK Tryz.prog 3 σ9 b26 (o27 + ((i1).toNat * 1)) fun x28=>
 xInt .i64 x28 fun i29=>
 idxK i29 n18 <|
 derefK a17 fun b30 o31=>
 szK z20 6 <|
 ldK Tryz.prog 2 σ9 b30 ((o31 + ((i29).toNat * 6)) + 3) fun x32=>
 xInt .i64 x32 fun i33=>
 callTD Tryz.prog Lb n 95 [.int .i64 i33] σ9 fun v35 σ34=>
 xInt .i64 v35 fun i36=>
 some (.ret (.int .i64 i36),σ34))
theorem f94_g:goT Tryz.prog Lb 94 n L [] [] [] ⟨tm 23 [(0,.v (.int .i64 i1)),(1,.v (.ptr (some (b2,o3)))),(2,.v (.ptr (some (b4,o5)))),(3,.v (.ptr (some (b6,o7))))] 0,[],[]⟩ σ = f94_t L n i1 b2 o3 b4 o5 b6 o7 σ:=by kernel_rfl
theorem f94_e:Le (f94_t (pt Tryz.prog Lb 94 n) n i1 b2 o3 b4 o5 b6 o7 σ) (callP Tryz.prog Lb (n + 1) 94 [.int .i64 i1,.ptr (some (b2,o3)),.ptr (some (b4,o5)),.ptr (some (b6,o7))] σ):=
 goT_call f94_g rfl (by kernel_rfl) (by kernel_rfl)
end Go.Proofs

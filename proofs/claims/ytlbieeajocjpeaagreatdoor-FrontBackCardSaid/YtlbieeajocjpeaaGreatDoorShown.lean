/- The functions, as trees of named steps. -/
import Derived.Test.YtlbieeajocjpeaaGreatDoorAmT
import Derived.Test.YtlbieeajocjpeaaGreatDoorBuilder
import Derived.Test.YtlbieeajocjpeaaGreatDoorChecked
import Derived.Test.YtlbieeajocjpeaaGreatDoorWk15
import Derived.Test.YtlbieeajocjpeaaGreatDoorSt
namespace Go.Proofs
open Go.AM
set_option maxHeartbeats 4000000
variable {L:Leaf} {n m0 n3 z5 n7 z9 n2 z4 n6 z8 n17 z19 n26 z28 n18 z20 n27 z29 m1 n5 z7:Nat} {σ:St} {s1 s13 s22 s14 s23 s9 s8 s7 s11 s12 s5 s15:By} {b1 b9 b11 b5 b6 b10 b3 b12:Bool} {a2 a6 a1 a5 a16 a25 a17 a26 a4:Ad} {c4 c8 c3 c7 c18 c27 c19 c28 c6:On} {i10 i11 i12 i14 i15 i20 i21 i23 i24 i13 i16 i22 i25 i2 i3 i4 i1 i5 i7 i8 i6 i9:Int}
set_option maxRecDepth 100000
noncomputable def f6_t (_:Leaf) (n:Nat) (σ:St):Out:=
 callT Tryz.prog Lb n 7 [.str [105,110,116,32,102,40,105,110,116,32,97,41,123,114,101,116,117,114,110,32,97,43,49,42,50,59,125]] σ fun v2 σ1=>
 xTup v2 fun cs3=>
 unC cs3 fun x4 r5=>
 xSl x4 fun a6 n7 c8 z9=>
 unC r5 fun x10 r11=>
 xInt .i64 x10 fun i12=>
 unC r11 fun x13 r14=>
 xInt .i64 x13 fun i15=>
 nlC r14 <|
 callT Tryz.prog Lb n 8 [.slice a6 n7 c8 z9] σ1 fun v17 σ16=>
 xTup v17 fun cs18=>
 unC cs18 fun x19 r20=>
 xStr x19 fun s21=>
 unC r20 fun x22 r23=>
 xInt .i64 x22 fun i24=>
 nlC r23 <|
 callT Tryz.prog Lb n 7 [.str [105,110,116,32,102,40,41,123,49,61,50,59,125]] σ16 fun v26 σ25=>
 xTup v26 fun cs27=>
 unC cs27 fun x28 r29=>
 xSl x28 fun _ _ _ _=>
 unC r29 fun x34 r35=>
 xInt .i64 x34 fun i36=>
 unC r35 fun x37 r38=>
 xInt .i64 x37 fun i39=>
 nlC r38 <|
 callT Tryz.prog Lb n 7 [.str [105,110,116,32,53]] σ25 fun v41 σ40=>
 xTup v41 fun cs42=>
 unC cs42 fun x43 r44=>
 xSl x43 fun _ _ _ _=>
 unC r44 fun x49 r50=>
 xInt .i64 x49 fun i51=>
 unC r50 fun x52 r53=>
 xInt .i64 x52 fun i54=>
 nlC r53 <|
 cond (i12 == (0:Int)) (cond (i15 == (0:Int)) (cond ((n7:Int) == (10:Int)) (cond (i24 == (0:Int)) (cond (s21 == [105,110,116,32,102,32,40,32,105,110,116,32,97,32,41,32,123,10,114,101,116,117,114,110,32,97,32,43,32,49,32,42,32,50,32,59,10,125,10]) (cond (i36 == (13:Int)) (cond (i39 == (9:Int)) (cond (i51 == (13:Int)) (some (.ret (.bool (i54 == (4:Int))),σ40)) (some (.ret (.bool false),σ40))) (some (.ret (.bool false),σ40))) (some (.ret (.bool false),σ40))) (some (.ret (.bool false),σ40))) (some (.ret (.bool false),σ40))) (some (.ret (.bool false),σ40))) (some (.ret (.bool false),σ40))) (some (.ret (.bool false),σ40))
theorem f6_g:goT Tryz.prog Lb 6 n L [] [] [] ⟨tm 67 [] 0,[],[]⟩ σ = f6_t L n  σ:=by kernel_rfl
theorem f6_e:Le (f6_t (pt Tryz.prog Lb 6 n) n  σ) (callP Tryz.prog Lb (n + 1) 6 [] σ):=
 goT_call f6_g rfl (by kernel_rfl) (by kernel_rfl)
noncomputable def f9_l1 (L:Leaf) (m0:Nat) (a1:Ad) (n2:Nat) (c3:On) (z4:Nat) (a5:Ad) (n6:Nat) (c7:On) (z8:Nat) (b9:Bool) (i10:Int) (σ:St):Out:=
 L [1,1,0,1,0] [m0] ⟨tm 94 [(0,.v (.slice a1 n2 c3 z4)),(1,.v (.slice a5 n6 c7 z8)),(2,.v (.bool b9)),(6,.v (.bool false)),(7,.v (.int .i64 i10))] 0,[],[]⟩ σ
noncomputable def f9_j2 (L:Leaf) (m0:Nat) (a1:Ad) (n2:Nat) (c3:On) (z4:Nat) (a5:Ad) (n6:Nat) (c7:On) (z8:Nat) (b9:Bool) (i10 i11 i12:Int) (s13:By) (i14 i15:Int) (a16:Ad) (n17:Nat) (c18:On) (z19:Nat) (i20 i21:Int) (s22:By) (i23 i24:Int) (a25:Ad) (n26:Nat) (c27:On) (z28:Nat) (σ:St):Out:=
 L [1,1,0,1,0,0,1,0,0,1,1,0,1] [m0] ⟨tm 94 [(0,.v (.slice a1 n2 c3 z4)),(1,.v (.slice a5 n6 c7 z8)),(2,.v (.bool b9)),(6,.v (.bool false)),(7,.v (.int .i64 i10)),(8,.lp 8 0),(9,.lp 9 0),(75,.v (.bool true))] 0,[(8,[.int .i64 i11,.int .i64 i12,.str s13,.int .i64 i14,.int .i64 i15,.slice a16 n17 c18 z19]),(9,[.int .i64 i20,.int .i64 i21,.str s22,.int .i64 i23,.int .i64 i24,.slice a25 n26 c27 z28])],[]⟩ σ
noncomputable def f9_j3 (L:Leaf) (m0:Nat) (a1:Ad) (n2:Nat) (c3:On) (z4:Nat) (a5:Ad) (n6:Nat) (c7:On) (z8:Nat) (b9:Bool) (i10:Int) (b11:Bool) (i12 i13:Int) (s14:By) (i15 i16:Int) (a17:Ad) (n18:Nat) (c19:On) (z20:Nat) (i21 i22:Int) (s23:By) (i24 i25:Int) (a26:Ad) (n27:Nat) (c28:On) (z29:Nat) (σ:St):Out:=
 L [1,1,0,1,0,0,1,0,0,1,1,0,1] [m0] ⟨tm 94 [(0,.v (.slice a1 n2 c3 z4)),(1,.v (.slice a5 n6 c7 z8)),(2,.v (.bool b9)),(6,.v (.bool false)),(7,.v (.int .i64 i10)),(8,.lp 8 0),(9,.lp 9 0),(75,.v (.bool b11))] 0,[(8,[.int .i64 i12,.int .i64 i13,.str s14,.int .i64 i15,.int .i64 i16,.slice a17 n18 c19 z20]),(9,[.int .i64 i21,.int .i64 i22,.str s23,.int .i64 i24,.int .i64 i25,.slice a26 n27 c28 z29])],[]⟩ σ
noncomputable def f9_j4 (L:Leaf) (m0:Nat) (a1:Ad) (n2:Nat) (c3:On) (z4:Nat) (a5:Ad) (n6:Nat) (c7:On) (z8:Nat) (b9:Bool) (i10 i11 i12:Int) (s13:By) (i14 i15:Int) (a16:Ad) (n17:Nat) (c18:On) (z19:Nat) (i20 i21:Int) (s22:By) (i23 i24:Int) (a25:Ad) (n26:Nat) (c27:On) (z28:Nat) (σ:St):Out:=
 L [1,1,0,1,0,0,1,0,0,1,1,0,1] [m0] ⟨tm 94 [(0,.v (.slice a1 n2 c3 z4)),(1,.v (.slice a5 n6 c7 z8)),(2,.v (.bool b9)),(6,.v (.bool false)),(7,.v (.int .i64 i10)),(8,.lp 8 0),(9,.lp 9 0),(75,.v (.bool false))] 0,[(8,[.int .i64 i11,.int .i64 i12,.str s13,.int .i64 i14,.int .i64 i15,.slice a16 n17 c18 z19]),(9,[.int .i64 i20,.int .i64 i21,.str s22,.int .i64 i23,.int .i64 i24,.slice a25 n26 c27 z28])],[]⟩ σ
noncomputable def f9_j5 (L:Leaf)  (σ:St):Out:=
 L [1,1,1] [] ⟨tm 94 [(6,.v (.bool false))] 0,[],[]⟩ σ
noncomputable def f9_l6 (L:Leaf) (m0 m1:Nat) (a1:Ad) (n2:Nat) (c3:On) (z4:Nat) (a5:Ad) (n6:Nat) (c7:On) (z8:Nat) (b9:Bool) (i10 i11 i12 i13:Int) (s14:By) (i15 i16:Int) (a17:Ad) (n18:Nat) (c19:On) (z20:Nat) (i21 i22:Int) (s23:By) (i24 i25:Int) (a26:Ad) (n27:Nat) (c28:On) (z29:Nat) (σ:St):Out:=
 L [1,1,0,1,0,0,1,0,0,1,1,1,1,0] [m0,m1] ⟨tm 94 [(0,.v (.slice a1 n2 c3 z4)),(1,.v (.slice a5 n6 c7 z8)),(2,.v (.bool b9)),(6,.v (.bool false)),(7,.v (.int .i64 i10)),(8,.lp 8 0),(9,.lp 9 0),(10,.v (.int .i64 i11))] 0,[(8,[.int .i64 i12,.int .i64 i13,.str s14,.int .i64 i15,.int .i64 i16,.slice a17 n18 c19 z20]),(9,[.int .i64 i21,.int .i64 i22,.str s23,.int .i64 i24,.int .i64 i25,.slice a26 n27 c28 z29])],[]⟩ σ
noncomputable def f9_j7 (L:Leaf) (m0:Nat) (a1:Ad) (n2:Nat) (c3:On) (z4:Nat) (a5:Ad) (n6:Nat) (c7:On) (z8:Nat) (b9:Bool) (i10:Int) (σ:St):Out:=
 L [1,1,0,1,0,0,1,1] [m0] ⟨tm 94 [(0,.v (.slice a1 n2 c3 z4)),(1,.v (.slice a5 n6 c7 z8)),(2,.v (.bool b9)),(6,.v (.bool false)),(7,.v (.int .i64 i10))] 0,[],[]⟩ σ
noncomputable def f9_t (L:Leaf) (n:Nat) (a1:Ad) (n2:Nat) (c3:On) (z4:Nat) (a5:Ad) (n6:Nat) (c7:On) (z8:Nat) (b9:Bool) (σ:St):Out:=
 cond ((n2:Int) != (n6:Int)) (some (.ret (.bool false),σ)) (f9_l1 L n a1 n2 c3 z4 a5 n6 c7 z8 b9 (0:Int) σ)
theorem f9_g:goT Tryz.prog Lb 9 n L [] [] [] ⟨tm 94 [(0,.v (.slice a1 n2 c3 z4)),(1,.v (.slice a5 n6 c7 z8)),(2,.v (.bool b9))] 0,[],[]⟩ σ = f9_t L n a1 n2 c3 z4 a5 n6 c7 z8 b9 σ:=by kernel_rfl
theorem f9_e:Le (f9_t (pt Tryz.prog Lb 9 n) n a1 n2 c3 z4 a5 n6 c7 z8 b9 σ) (callP Tryz.prog Lb (n + 1) 9 [.slice a1 n2 c3 z4,.slice a5 n6 c7 z8,.bool b9] σ):=
 goT_call f9_g rfl (by kernel_rfl) (by kernel_rfl)
noncomputable def f9_l1_t (L:Leaf) (_ m0:Nat) (a1:Ad) (n2:Nat) (c3:On) (z4:Nat) (a5:Ad) (n6:Nat) (c7:On) (z8:Nat) (b9:Bool) (i10:Int) (σ:St):Out:=
 cond (decide (i10 < (n2:Int))) (idxK i10 n2 <|
 derefK a1 fun b11 o12=>
 szK z4 6 <|
 ldK Tryz.prog 34 σ b11 (o12 + ((i10).toNat * 6)) fun x13=>
 xAgg x13 fun cs14=>
 unC cs14 fun x15 r16=>
 xInt .i64 x15 fun i17=>
 unC r16 fun x18 r19=>
 xInt .i64 x18 fun i20=>
 unC r19 fun x21 r22=>
 xStr x21 fun s23=>
 unC r22 fun x24 r25=>
 xInt .i64 x24 fun i26=>
 unC r25 fun x27 r28=>
 xInt .i64 x27 fun i29=>
 unC r28 fun x30 r31=>
 xSl x30 fun a32 n33 c34 z35=>
 nlC r31 <|
 idxK i10 n6 <|
 derefK a5 fun b36 o37=>
 szK z8 6 <|
 ldK Tryz.prog 34 σ b36 (o37 + ((i10).toNat * 6)) fun x38=>
 xAgg x38 fun cs39=>
 unC cs39 fun x40 r41=>
 xInt .i64 x40 fun i42=>
 unC r41 fun x43 r44=>
 xInt .i64 x43 fun i45=>
 unC r44 fun x46 r47=>
 xStr x46 fun s48=>
 unC r47 fun x49 r50=>
 xInt .i64 x49 fun i51=>
 unC r50 fun x52 r53=>
 xInt .i64 x52 fun i54=>
 unC r53 fun x55 r56=>
 xSl x55 fun a57 n58 c59 z60=>
 nlC r56 <|
 cond (i17 != i42) (f9_j2 L m0 a1 n2 c3 z4 a5 n6 c7 z8 b9 i10 i17 i20 s23 i26 i29 a32 n33 c34 z35 i42 i45 s48 i51 i54 a57 n58 c59 z60 σ) (cond (!(s23 == s48)) (f9_j2 L m0 a1 n2 c3 z4 a5 n6 c7 z8 b9 i10 i17 i20 s23 i26 i29 a32 n33 c34 z35 i42 i45 s48 i51 i54 a57 n58 c59 z60 σ) (cond (i26 != i51) (f9_j2 L m0 a1 n2 c3 z4 a5 n6 c7 z8 b9 i10 i17 i20 s23 i26 i29 a32 n33 c34 z35 i42 i45 s48 i51 i54 a57 n58 c59 z60 σ) (cond (i29 != i54) (f9_j2 L m0 a1 n2 c3 z4 a5 n6 c7 z8 b9 i10 i17 i20 s23 i26 i29 a32 n33 c34 z35 i42 i45 s48 i51 i54 a57 n58 c59 z60 σ) (cond ((n33:Int) != (n58:Int)) (f9_j2 L m0 a1 n2 c3 z4 a5 n6 c7 z8 b9 i10 i17 i20 s23 i26 i29 a32 n33 c34 z35 i42 i45 s48 i51 i54 a57 n58 c59 z60 σ) (cond (!b9) (f9_j3 L m0 a1 n2 c3 z4 a5 n6 c7 z8 b9 i10 (i20 != i45) i17 i20 s23 i26 i29 a32 n33 c34 z35 i42 i45 s48 i51 i54 a57 n58 c59 z60 σ) (f9_j4 L m0 a1 n2 c3 z4 a5 n6 c7 z8 b9 i10 i17 i20 s23 i26 i29 a32 n33 c34 z35 i42 i45 s48 i51 i54 a57 n58 c59 z60 σ))))))) (f9_j5 L  σ)
theorem f9_l1_g:f9_l1 (goT Tryz.prog Lb 9 n L [[1,1,0,1,0,0,1,0,0,1,1,0,1],[1,1,1]]) (m0 + 1) a1 n2 c3 z4 a5 n6 c7 z8 b9 i10 σ = f9_l1_t L n m0 a1 n2 c3 z4 a5 n6 c7 z8 b9 i10 σ:=by kernel_rfl
theorem f9_l1_e:Le (f9_l1_t (pt Tryz.prog Lb 9 n) n m0 a1 n2 c3 z4 a5 n6 c7 z8 b9 i10 σ) (f9_l1 (pt Tryz.prog Lb 9 n) (m0 + 1) a1 n2 c3 z4 a5 n6 c7 z8 b9 i10 σ):=by
 unfold f9_l1;exact goT_pt f9_l1_g
noncomputable def f9_j4_t (L:Leaf) (n m0:Nat) (a1:Ad) (n2:Nat) (c3:On) (z4:Nat) (a5:Ad) (n6:Nat) (c7:On) (z8:Nat) (b9:Bool) (i10 i11 i12:Int) (s13:By) (i14 i15:Int) (a16:Ad) (n17:Nat) (c18:On) (z19:Nat) (i20 i21:Int) (s22:By) (i23 i24:Int) (a25:Ad) (n26:Nat) (c27:On) (z28:Nat) (σ:St):Out:=
 f9_l6 L m0 n a1 n2 c3 z4 a5 n6 c7 z8 b9 i10 (0:Int) i11 i12 s13 i14 i15 a16 n17 c18 z19 i20 i21 s22 i23 i24 a25 n26 c27 z28 σ
theorem f9_j4_g:f9_j4 (goT Tryz.prog Lb 9 n L []) m0 a1 n2 c3 z4 a5 n6 c7 z8 b9 i10 i11 i12 s13 i14 i15 a16 n17 c18 z19 i20 i21 s22 i23 i24 a25 n26 c27 z28 σ = f9_j4_t L n m0 a1 n2 c3 z4 a5 n6 c7 z8 b9 i10 i11 i12 s13 i14 i15 a16 n17 c18 z19 i20 i21 s22 i23 i24 a25 n26 c27 z28 σ:=by kernel_rfl
theorem f9_j4_e:Le (f9_j4_t (pt Tryz.prog Lb 9 n) n m0 a1 n2 c3 z4 a5 n6 c7 z8 b9 i10 i11 i12 s13 i14 i15 a16 n17 c18 z19 i20 i21 s22 i23 i24 a25 n26 c27 z28 σ) (f9_j4 (pt Tryz.prog Lb 9 n) m0 a1 n2 c3 z4 a5 n6 c7 z8 b9 i10 i11 i12 s13 i14 i15 a16 n17 c18 z19 i20 i21 s22 i23 i24 a25 n26 c27 z28 σ):=by
 unfold f9_j4;exact goT_pt f9_j4_g
noncomputable def f9_j5_t (_:Leaf) (_:Nat) (σ:St):Out:=
 some (.ret (.bool true),σ)
theorem f9_j5_g:f9_j5 (goT Tryz.prog Lb 9 n L [])  σ = f9_j5_t L n  σ:=by kernel_rfl
theorem f9_j5_e:Le (f9_j5_t (pt Tryz.prog Lb 9 n) n  σ) (f9_j5 (pt Tryz.prog Lb 9 n)  σ):=by
 unfold f9_j5;exact goT_pt f9_j5_g
noncomputable def f9_l6_t (L:Leaf) (_ m0 m1:Nat) (a1:Ad) (n2:Nat) (c3:On) (z4:Nat) (a5:Ad) (n6:Nat) (c7:On) (z8:Nat) (b9:Bool) (i10 i11 i12 i13:Int) (s14:By) (i15 i16:Int) (a17:Ad) (n18:Nat) (c19:On) (z20:Nat) (i21 i22:Int) (s23:By) (i24 i25:Int) (a26:Ad) (n27:Nat) (c28:On) (z29:Nat) (σ:St):Out:=
 cond (decide (i11 < (n18:Int))) (idxK i11 n18 <|
 derefK a17 fun b30 o31=>
 szK z20 1 <|
 ldK Tryz.prog 3 σ b30 (o31 + ((i11).toNat * 1)) fun x32=>
 xInt .i64 x32 fun i33=>
 idxK i11 n27 <|
 derefK a26 fun b34 o35=>
 szK z29 1 <|
 ldK Tryz.prog 3 σ b34 (o35 + ((i11).toNat * 1)) fun x36=>
 xInt .i64 x36 fun i37=>
 cond (i33 != i37) (some (.ret (.bool false),σ)) (f9_l6 L m0 m1 a1 n2 c3 z4 a5 n6 c7 z8 b9 i10 (IntKind.wrap .i64 (i11 + (1:Int))) i12 i13 s14 i15 i16 a17 n18 c19 z20 i21 i22 s23 i24 i25 a26 n27 c28 z29 σ)) (f9_j7 L m0 a1 n2 c3 z4 a5 n6 c7 z8 b9 i10 σ)
theorem f9_l6_g:f9_l6 (goT Tryz.prog Lb 9 n L [[1,1,0,1,0,0,1,1]]) m0 (m1 + 1) a1 n2 c3 z4 a5 n6 c7 z8 b9 i10 i11 i12 i13 s14 i15 i16 a17 n18 c19 z20 i21 i22 s23 i24 i25 a26 n27 c28 z29 σ = f9_l6_t L n m0 m1 a1 n2 c3 z4 a5 n6 c7 z8 b9 i10 i11 i12 i13 s14 i15 i16 a17 n18 c19 z20 i21 i22 s23 i24 i25 a26 n27 c28 z29 σ:=by kernel_rfl
theorem f9_l6_e:Le (f9_l6_t (pt Tryz.prog Lb 9 n) n m0 m1 a1 n2 c3 z4 a5 n6 c7 z8 b9 i10 i11 i12 i13 s14 i15 i16 a17 n18 c19 z20 i21 i22 s23 i24 i25 a26 n27 c28 z29 σ) (f9_l6 (pt Tryz.prog Lb 9 n) m0 (m1 + 1) a1 n2 c3 z4 a5 n6 c7 z8 b9 i10 i11 i12 i13 s14 i15 i16 a17 n18 c19 z20 i21 i22 s23 i24 i25 a26 n27 c28 z29 σ):=by
 unfold f9_l6;exact goT_pt f9_l6_g
noncomputable def f9_j7_t (L:Leaf) (_ m0:Nat) (a1:Ad) (n2:Nat) (c3:On) (z4:Nat) (a5:Ad) (n6:Nat) (c7:On) (z8:Nat) (b9:Bool) (i10:Int) (σ:St):Out:=
 f9_l1 L m0 a1 n2 c3 z4 a5 n6 c7 z8 b9 (IntKind.wrap .i64 (i10 + (1:Int))) σ
theorem f9_j7_g:f9_j7 (goT Tryz.prog Lb 9 n L []) m0 a1 n2 c3 z4 a5 n6 c7 z8 b9 i10 σ = f9_j7_t L n m0 a1 n2 c3 z4 a5 n6 c7 z8 b9 i10 σ:=by kernel_rfl
theorem f9_j7_e:Le (f9_j7_t (pt Tryz.prog Lb 9 n) n m0 a1 n2 c3 z4 a5 n6 c7 z8 b9 i10 σ) (f9_j7 (pt Tryz.prog Lb 9 n) m0 a1 n2 c3 z4 a5 n6 c7 z8 b9 i10 σ):=by
 unfold f9_j7;exact goT_pt f9_j7_g
end Go.Proofs
set_option linter.unusedSimpArgs false
set_option linter.unusedVariables false
namespace Go.Front
open Go.AM Go.Proofs
def Came (len:Nat) (o:Except Flt (List Node)):Prop:=
 match o with
 | .ok nd=>∃ l:List Dc,nd = allNodes l ∧ (∀ x ∈ l,x.good len) ∧ (allNodes l).length ≤ 4096
 | .error e=>e.2 ≤ len ∧ (e.1 = 13 ∨ e.1 = 15)
theorem read_tot (s:List UInt8) {n:Nat} (hn:2 * s.length + 6 ≤ n):∃ o,readP (strm s) (0:Nat) n = some o ∧ Came s.length o:=by
 unfold readP
 cases hx:(strm s).nxt (0:Nat) with
 | inl f=>exact ⟨_,rfl,(strmOk s).bad (0:Nat) f (Nat.zero_le _) hx,.inl rfl⟩
 | inr x=>
  obtain ⟨t,q⟩:=x
  obtain ⟨h1,h2,h3,h4,h5⟩:=(strmOk s).ok (0:Nat) t q (Nat.zero_le _) hx
  have hi:Inv (strmOk s) (⟨t,q,[],0⟩:PS (strm s)):=⟨h1,h3,fun hk=>⟨(h4 hk).1,(h4 hk).2.1⟩,Nat.zero_le _,by simp,h5⟩
  have hR:R (strmOk s) (⟨t,q,[],0⟩:PS (strm s)) ≤ s.length + 1:=by
   unfold R
   split
   ·omega
   ·have:(strmOk s).left q ≤ s.length:=Nat.sub_le _ _
    simp only;omega
  have:=whole_tr (K:=strmOk s) (n:=n) (by omega) rfl rfl hi
  unfold Tr at this
  cases hw:wholeP (S:=strm s) n ⟨t,q,[],0⟩ with
  | none=>rw [hw] at this;exact this.elim
  | some r=>
   rw [hw] at this
   cases r with
   | error e=>exact ⟨.error e,by simp only;rw [hw],this⟩
   | ok x=>
    obtain ⟨a,st⟩:=x
    obtain ⟨l,h6,h7,h8⟩:=this
    exact ⟨.ok st.nodes,by simp only;rw [hw],l,h6,h7,h8⟩
def fuel:Nat:=20000
theorem parse_tot (s:List UInt8):∃ o,parseO s fuel = some o ∧ Came s.length o:=by
 unfold parseO
 by_cases h:s.length > 8192
 ·rw [if_pos h];exact ⟨_,rfl,Nat.zero_le _,.inr rfl⟩
 ·rw [if_neg h]
  exact read_tot s (by unfold fuel;omega)
def ex1:List UInt8:=[105,110,116,32,102,40,105,110,116,32,97,41,123,114,101,116,117,114,110,32,97,43,49,42,50,59,125]
def ex1l:List Dc:=[.fn 0 [102] [(6,[97],1)] 12 [.ret 13 (.bin 7 (.name 20 [97]) (.bin 4 (.num 22 1) (.num 24 2)))]]
def ex1s:List UInt8:=[105,110,116,32,102,32,40,32,105,110,116,32,97,32,41,32,123,10,114,101,116,117,114,110,32,97,32,43,32,49,32,42,32,50,32,59,10,125,10]
def ex2:List UInt8:=[105,110,116,32,102,40,41,123,49,61,50,59,125]
def ex3:List UInt8:=[105,110,116,32,53]
theorem ex1_parse:readP (strm ex1) (0:Nat) 40 = some (.ok (allNodes ex1l)):=by kernel_rfl
theorem ex1_pr:allPr ex1l = ex1s:=by
 have h1:Lib.itoa 1 = [49]:=by simp [Lib.itoa,Lib.decDigits]
 have h2:Lib.itoa 2 = [50]:=by simp [Lib.itoa,Lib.decDigits]
 simp only [allPr,ex1l,List.flatMap_cons,List.flatMap_nil,Dc.pr,Sm.prs,Sm.pr,Ex.pr,h1,h2]
 rfl
theorem ex1_again:∃ nd,readP (strm ex1s) (0:Nat) 60 = some (.ok nd) ∧ (allNodes ex1l).map Node.strip = nd.map Node.strip:=by
 refine ⟨allNodes [.fn 0 [102] [(8,[97],1)] 16 [.ret 18 (.bin 7 (.name 25 [97]) (.bin 4 (.num 29 1) (.num 33 2)))]],by kernel_rfl,by kernel_rfl⟩
theorem ex2_parse:readP (strm ex2) (0:Nat) 40 = some (.error (13,9)):=by kernel_rfl
theorem ex3_parse:readP (strm ex3) (0:Nat) 40 = some (.error (13,4)):=by kernel_rfl
theorem shown_fn {σ0:St} (hk:Kn σ0):Fw Tryz.prog Lb 6 [] σ0 fun r σ'=>r = .ret (.bool true) ∧ Up σ0 σ':=by
 refine Fw.enter (fun n=>f6_e) ?_
 simp only [f6_t]
 have p1:parseO ex1 40 = some (.ok (allNodes ex1l)):=by unfold parseO;rw [if_neg (by decide)];exact ex1_parse
 have p2:parseO ex2 40 = some (.error (13,9)):=by unfold parseO;rw [if_neg (by decide)];exact ex2_parse
 have p3:parseO ex3 40 = some (.error (13,4)):=by unfold parseO;rw [if_neg (by decide)];exact ex3_parse
 refine Wp.call (parse_fn hk (by decide) p1) (fun v σ1 hv=>?_) fun v σ' hv=>by obtain ⟨_,_,hv,_⟩:=hv;cases hv
 obtain ⟨hu1,v1,hv,hsrc⟩:=hv
 cases hv
 obtain ⟨tb,c,rfl,hs⟩:=hsrc.src (by simp [allNodes])
 simp only [xTup_t,unC_c,xSl_s,xInt_i,nlC_n]
 have hg:∀ x ∈ ex1l,x.good 27:=by
  intro x hx
  simp only [ex1l,List.mem_singleton] at hx
  subst hx
  have nm:∀ c:UInt8,isLetter c = true → words.contains [c] = false → nameOk [c]:=fun c h1 h2=>⟨by simp,h2,c,[],rfl,h1,by simp⟩
  refine ⟨by decide,nm _ (by decide) (by decide),?_,by decide,by decide,?_,by decide⟩
  ·intro y hy
   simp only [List.mem_singleton] at hy
   subst hy
   exact ⟨by decide,by decide,nm _ (by decide) (by decide),.inl rfl⟩
  ·exact ⟨⟨by decide,⟨⟨by decide,nm _ (by decide) (by decide)⟩,⟨⟨by decide,by decide,by decide⟩,⟨by decide,by decide,by decide⟩,by decide,by decide,by decide⟩,by decide,by decide,by decide⟩,by decide⟩,by decide,trivial⟩
 obtain ⟨nd2,hr,hsame⟩:=ex1_again
 have hk1:=hk.up hu1
 refine Wp.call (print_fn (ls:=ex1l) (len:=27) (n:=60) (c2:=c) hk1 hs (by decide) hg (fun x hx ht=>?_) (by rw [ex1_pr];decide) (by decide) (by rw [ex1_pr];exact hr) hsame) (fun v σ2 hv=>?_) fun v σ' hv=>?_
 ·simp only [ex1l,List.mem_singleton] at hx
  subst hx;cases ht
 ·obtain ⟨hu2,hv⟩:=hv
  rw [ex1_pr,if_neg (by decide)] at hv
  cases hv
  simp only [xTup_t,unC_c,xStr_s,xInt_i,nlC_n]
  have hk2:=hk1.up hu2
  refine Wp.call (parse_fn hk2 (by decide) p2) (fun v σ3 hv=>?_) fun v σ' hv=>by obtain ⟨_,hv⟩:=hv;cases hv
  obtain ⟨hu3,hv⟩:=hv
  cases hv
  simp only [xTup_t,unC_c,xSl_s,xInt_i,nlC_n]
  refine Wp.call (parse_fn (hk2.up hu3) (by decide) p3) (fun v σ4 hv=>?_) fun v σ' hv=>by obtain ⟨_,hv⟩:=hv;cases hv
  obtain ⟨hu4,hv⟩:=hv
  cases hv
  simp only [xTup_t,unC_c,xSl_s,xInt_i,nlC_n]
  refine Wp.pos rfl (Wp.pos rfl (Wp.pos (by decide) (Wp.pos rfl (Wp.pos (by decide) (Wp.pos rfl (Wp.pos rfl (Wp.pos rfl ?_)))))))
  exact Wp.ret ⟨rfl,hu1.trans (hu2.trans (hu3.trans hu4))⟩
 ·obtain ⟨_,hv⟩:=hv
  split at hv <;> cases hv
end Go.Front

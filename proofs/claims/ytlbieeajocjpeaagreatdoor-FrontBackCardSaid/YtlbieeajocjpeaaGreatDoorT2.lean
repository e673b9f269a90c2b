/- The functions, as trees of named steps. -/
import Derived.Test.YtlbieeajocjpeaaGreatDoorAmT
import Derived.Test.YtlbieeajocjpeaaGreatDoorBuilder
import Derived.Test.YtlbieeajocjpeaaGreatDoorChecked
namespace Go.Proofs
open Go.AM
set_option maxHeartbeats 4000000
variable {L:Leaf} {n n8 z10 n9 z11 m0 n6 z8 n10 z12 n5 z7:Nat} {a1 a7 a8 a5 a9 a4:Ad} {σ:St} {i2 i3 i4 i5 i6 i7 i8 i1:Int} {s5 s4 s2 s3 s6:By} {b6:Bool} {c9 c10 c7 c11 c6:On}
set_option maxRecDepth 100000
noncomputable def f104_dt (_:Nat) (a1:Ad) (σ:St):Out:=
 derefK a1 fun b2 o3=>
 ldK Tryz.prog 3 σ b2 (o3 + 7) fun x4=>
 xInt .i64 x4 fun i5=>
 derefK a1 fun b6 o7=>
 stK σ b6 (o7 + 7) [.int .i64 (IntKind.wrap .i64 (i5 - (1:Int)))] fun σ8=>
 some (.ret (.tuple []),σ8)
theorem f104_dg (n:Nat) (a1:Ad) (σ:St):goD Tryz.prog Lb 104 n [.ptr a1] σ = f104_dt n a1 σ:=by kernel_rfl
theorem f104_d {n:Nat} {a1:Ad} {σ σ':St} {y:AV} (u:Option AV) (h:f104_dt n a1 σ = some (.ret y,σ')):runD Tryz.prog (callP Tryz.prog Lb n) n 104 [.ptr a1] u σ = some (u,σ'):=
 goD_run ((f104_dg n a1 σ).trans h) (by kernel_rfl) (by kernel_rfl) u
noncomputable def f11_dt (_:Nat) (v:AV) (b1 o2 b3 o4 b5 o6:Nat) (σ:St):Out:=
 astK 40 v (fun x7=>
 xAgg x7 fun cs8=>
 unC cs8 fun x9 r10=>
 xInt .i64 x9 fun i11=>
 unC r10 fun x12 r13=>
 xInt .i64 x12 fun i14=>
 nlC r13 <|
 stK σ b1 o2 [.slice none 0 (some 0) 0] fun σ15=>
 stK σ15 b3 o4 [.int .i64 i11] fun σ16=>
 stK σ16 b5 o6 [.int .i64 i14] fun σ17=>
 some (.ret (.tuple []),σ17)) (some (.ret (.tuple []),σ))
theorem f11_dg (n:Nat) (v:AV) (b1 o2 b3 o4 b5 o6:Nat) (σ:St):goR Tryz.prog Lb 11 n v [.ptr (some (b1,o2)),.ptr (some (b3,o4)),.ptr (some (b5,o6))] σ = f11_dt n v b1 o2 b3 o4 b5 o6 σ:=by kernel_rfl
theorem f11_d {n:Nat} {b1 o2 b3 o4 b5 o6:Nat} {σ σ':St} {y:AV} {u:Option AV} (h:f11_dt n (u.getD .nilIface) b1 o2 b3 o4 b5 o6 σ = some (.ret y,σ')):runD Tryz.prog (callP Tryz.prog Lb n) n 11 [.ptr (some (b1,o2)),.ptr (some (b3,o4)),.ptr (some (b5,o6))] u σ = some (none,σ'):=
 goR_run ((f11_dg n _ b1 o2 b3 o4 b5 o6 σ).trans h)
noncomputable def f43_dt (_:Nat) (v:AV) (b1 o2 b3 o4:Nat) (σ:St):Out:=
 astK 40 v (fun x5=>
 xAgg x5 fun cs6=>
 unC cs6 fun x7 r8=>
 xInt .i64 x7 fun _=>
 unC r8 fun x10 r11=>
 xInt .i64 x10 fun _=>
 nlC r11 <|
 stK σ b1 o2 [.slice none 0 (some 0) 0] fun σ13=>
 stK σ13 b3 o4 [.bool false] fun σ14=>
 some (.ret (.tuple []),σ14)) (some (.ret (.tuple []),σ))
theorem f43_dg (n:Nat) (v:AV) (b1 o2 b3 o4:Nat) (σ:St):goR Tryz.prog Lb 43 n v [.ptr (some (b1,o2)),.ptr (some (b3,o4))] σ = f43_dt n v b1 o2 b3 o4 σ:=by kernel_rfl
theorem f43_d {n:Nat} {b1 o2 b3 o4:Nat} {σ σ':St} {y:AV} {u:Option AV} (h:f43_dt n (u.getD .nilIface) b1 o2 b3 o4 σ = some (.ret y,σ')):runD Tryz.prog (callP Tryz.prog Lb n) n 43 [.ptr (some (b1,o2)),.ptr (some (b3,o4))] u σ = some (none,σ'):=
 goR_run ((f43_dg n _ b1 o2 b3 o4 σ).trans h)
noncomputable def f13_j1 (L:Leaf) (a1:Ad) (i2 i3 i4:Int) (σ:St):Out:=
 L [1,1,1,1] [] ⟨tm 58 [(0,.v (.ptr a1)),(2,.v (.int .i64 i2)),(3,.v (.int .i64 i3)),(4,.v (.int .i64 i4))] 0,[],[]⟩ σ
noncomputable def f13_j2 (L:Leaf) (a1:Ad) (i2 i3 i4:Int) (s5:By) (b6:Bool) (σ:St):Out:=
 L [1,1,1,1,1,0,0,1] [] ⟨tm 58 [(0,.v (.ptr a1)),(2,.v (.int .i64 i2)),(3,.v (.int .i64 i3)),(4,.v (.int .i64 i4)),(5,.v (.str s5)),(19,.v (.bool b6))] 0,[],[]⟩ σ
noncomputable def f13_j3 (L:Leaf) (a1:Ad) (i2 i3 i4:Int) (s5:By) (σ:St):Out:=
 L [1,1,1,1,1,0,0,1] [] ⟨tm 58 [(0,.v (.ptr a1)),(2,.v (.int .i64 i2)),(3,.v (.int .i64 i3)),(4,.v (.int .i64 i4)),(5,.v (.str s5)),(19,.v (.bool false))] 0,[],[]⟩ σ
noncomputable def f13_j4 (L:Leaf) (a1:Ad) (i2 i3 i4:Int) (s5:By) (σ:St):Out:=
 L [1,1,1,1,1,1] [] ⟨tm 58 [(0,.v (.ptr a1)),(2,.v (.int .i64 i2)),(3,.v (.int .i64 i3)),(4,.v (.int .i64 i4)),(5,.v (.str s5))] 0,[],[]⟩ σ
noncomputable def f13_t (L:Leaf) (n:Nat) (a1:Ad) (σ:St):Out:=
 derefK a1 fun b2 o3=>
 ldK Tryz.prog 3 σ b2 ((o3 + 2) + 1) fun x4=>
 xInt .i64 x4 fun i5=>
 callT Tryz.prog Lb n 32 [.ptr a1,.str [99,104,97,114]] σ fun v7 σ6=>
 xBool v7 fun b8=>
 cond b8 (f13_j1 L a1 (0:Int) i5 (2:Int) σ6) (callT Tryz.prog Lb n 33 [.ptr a1,.str [105,110,116]] σ6 fun _ σ9=>
 f13_j1 L a1 (0:Int) i5 (3:Int) σ9)
theorem f13_g:goT Tryz.prog Lb 13 n L [[1,1,1,1]] [] [] ⟨tm 58 [(0,.v (.ptr a1))] 0,[],[]⟩ σ = f13_t L n a1 σ:=by kernel_rfl
theorem f13_e:Le (f13_t (pt Tryz.prog Lb 13 n) n a1 σ) (callP Tryz.prog Lb (n + 1) 13 [.ptr a1] σ):=
 goT_call f13_g rfl (by kernel_rfl) (by kernel_rfl)
noncomputable def f13_j1_t (L:Leaf) (n:Nat) (a1:Ad) (i2 i3 i4:Int) (σ:St):Out:=
 callT Tryz.prog Lb n 34 [.ptr a1,.int .i64 (1:Int)] σ fun v6 σ5=>
 xAgg v6 fun cs7=>
 unC cs7 fun x8 r9=>
 xInt .i64 x8 fun _=>
 unC r9 fun x11 r12=>
 xInt .i64 x11 fun _=>
 unC r12 fun x14 r15=>
 xStr x14 fun s16=>
 unC r15 fun x17 r18=>
 xInt .i64 x17 fun _=>
 nlC r18 <|
 cond (i4 == (3:Int)) (callT Tryz.prog Lb n 32 [.ptr a1,.str [59]] σ5 fun v21 σ20=>
 xBool v21 fun b22=>
 f13_j2 L a1 i2 i3 i4 s16 b22 σ20) (f13_j3 L a1 i2 i3 i4 s16 σ5)
theorem f13_j1_g:f13_j1 (goT Tryz.prog Lb 13 n L [[1,1,1,1,1,0,0,1]]) a1 i2 i3 i4 σ = f13_j1_t L n a1 i2 i3 i4 σ:=by kernel_rfl
theorem f13_j1_e:Le (f13_j1_t (pt Tryz.prog Lb 13 n) n a1 i2 i3 i4 σ) (f13_j1 (pt Tryz.prog Lb 13 n) a1 i2 i3 i4 σ):=by
 unfold f13_j1;exact goT_pt f13_j1_g
noncomputable def f13_j2_t (L:Leaf) (n:Nat) (a1:Ad) (i2 i3 i4:Int) (s5:By) (b6:Bool) (σ:St):Out:=
 cond b6 (callT Tryz.prog Lb n 14 [.ptr a1,.agg [.int .i64 (20:Int),.int .i64 i3,.str s5,.int .i64 (0:Int),.int .i64 (1:Int),.slice none 0 (some 0) 0]] σ fun v8 σ7=>
 xInt .i64 v8 fun i9=>
 some (.ret (.int .i64 i9),σ7)) (cond (i4 == (3:Int)) (callT Tryz.prog Lb n 35 [.ptr a1,.str [40]] σ fun v11 σ10=>
 xBool v11 fun b12=>
 cond b12 (callT Tryz.prog Lb n 36 [.ptr a1,.int .i64 i3,.str s5] σ10 fun v14 σ13=>
 xInt .i64 v14 fun i15=>
 some (.ret (.int .i64 i15),σ13)) (f13_j4 L a1 i2 i3 i4 s5 σ10)) (f13_j4 L a1 i2 i3 i4 s5 σ))
theorem f13_j2_g:f13_j2 (goT Tryz.prog Lb 13 n L [[1,1,1,1,1,1]]) a1 i2 i3 i4 s5 b6 σ = f13_j2_t L n a1 i2 i3 i4 s5 b6 σ:=by kernel_rfl
theorem f13_j2_e:Le (f13_j2_t (pt Tryz.prog Lb 13 n) n a1 i2 i3 i4 s5 b6 σ) (f13_j2 (pt Tryz.prog Lb 13 n) a1 i2 i3 i4 s5 b6 σ):=by
 unfold f13_j2;exact goT_pt f13_j2_g
noncomputable def f13_j3_t (L:Leaf) (n:Nat) (a1:Ad) (i2 i3 i4:Int) (s5:By) (σ:St):Out:=
 cond (i4 == (3:Int)) (callT Tryz.prog Lb n 35 [.ptr a1,.str [40]] σ fun v7 σ6=>
 xBool v7 fun b8=>
 cond b8 (callT Tryz.prog Lb n 36 [.ptr a1,.int .i64 i3,.str s5] σ6 fun v10 σ9=>
 xInt .i64 v10 fun i11=>
 some (.ret (.int .i64 i11),σ9)) (f13_j4 L a1 i2 i3 i4 s5 σ6)) (f13_j4 L a1 i2 i3 i4 s5 σ)
theorem f13_j3_g:f13_j3 (goT Tryz.prog Lb 13 n L [[1,1,1,1,1,1]]) a1 i2 i3 i4 s5 σ = f13_j3_t L n a1 i2 i3 i4 s5 σ:=by kernel_rfl
theorem f13_j3_e:Le (f13_j3_t (pt Tryz.prog Lb 13 n) n a1 i2 i3 i4 s5 σ) (f13_j3 (pt Tryz.prog Lb 13 n) a1 i2 i3 i4 s5 σ):=by
 unfold f13_j3;exact goT_pt f13_j3_g
noncomputable def f13_j4_t (_:Leaf) (n:Nat) (a1:Ad) (_ i3 i4:Int) (s5:By) (σ:St):Out:=
 callT Tryz.prog Lb n 33 [.ptr a1,.str [91]] σ fun _ σ6=>
 callT Tryz.prog Lb n 34 [.ptr a1,.int .i64 (3:Int)] σ6 fun v9 σ8=>
 xAgg v9 fun cs10=>
 unC cs10 fun x11 r12=>
 xInt .i64 x11 fun _=>
 unC r12 fun x14 r15=>
 xInt .i64 x14 fun _=>
 unC r15 fun x17 r18=>
 xStr x17 fun _=>
 unC r18 fun x20 r21=>
 xInt .i64 x20 fun i22=>
 nlC r21 <|
 callT Tryz.prog Lb n 33 [.ptr a1,.str [93]] σ8 fun _ σ23=>
 callT Tryz.prog Lb n 33 [.ptr a1,.str [59]] σ23 fun _ σ25=>
 callT Tryz.prog Lb n 14 [.ptr a1,.agg [.int .i64 (21:Int),.int .i64 i3,.str s5,.int .i64 i22,.int .i64 i4,.slice none 0 (some 0) 0]] σ25 fun v28 σ27=>
 xInt .i64 v28 fun i29=>
 some (.ret (.int .i64 i29),σ27)
theorem f13_j4_g:f13_j4 (goT Tryz.prog Lb 13 n L []) a1 i2 i3 i4 s5 σ = f13_j4_t L n a1 i2 i3 i4 s5 σ:=by kernel_rfl
theorem f13_j4_e:Le (f13_j4_t (pt Tryz.prog Lb 13 n) n a1 i2 i3 i4 s5 σ) (f13_j4 (pt Tryz.prog Lb 13 n) a1 i2 i3 i4 s5 σ):=by
 unfold f13_j4;exact goT_pt f13_j4_g
noncomputable def f14_j1 (L:Leaf) (a1:Ad) (i2 i3 i4:Int) (s5:By) (i6 i7:Int) (a8:Ad) (n9:Nat) (c10:On) (z11:Nat) (σ:St):Out:=
 L [1,1] [] ⟨tm 33 [(0,.v (.ptr a1)),(3,.lp 3 0),(4,.v (.int .i64 i2))] 0,[(3,[.int .i64 i3,.int .i64 i4,.str s5,.int .i64 i6,.int .i64 i7,.slice a8 n9 c10 z11])],[]⟩ σ
noncomputable def f14_t (L:Leaf) (n:Nat) (a1:Ad) (i2 i3:Int) (s4:By) (i5 i6:Int) (a7:Ad) (n8:Nat) (c9:On) (z10:Nat) (σ:St):Out:=
 derefK a1 fun b11 o12=>
 ldK Tryz.prog 24 σ b11 (o12 + 6) fun x13=>
 xSl x13 fun _ n15 _ _=>
 cond ((n15:Int) == (4096:Int)) (derefK a1 fun b18 o19=>
 ldK Tryz.prog 3 σ b18 ((o19 + 2) + 1) fun x20=>
 xInt .i64 x20 fun i21=>
 callT Tryz.prog Lb n 27 [.int .i64 (15:Int),.int .i64 i21] σ fun _ σ22=>
 f14_j1 L a1 (0:Int) i2 i3 s4 i5 i6 a7 n8 c9 z10 σ22) (f14_j1 L a1 (0:Int) i2 i3 s4 i5 i6 a7 n8 c9 z10 σ)
theorem f14_g:goT Tryz.prog Lb 14 n L [[1,1]] [] [] ⟨tm 33 [(0,.v (.ptr a1)),(1,.v (.agg [.int .i64 i2,.int .i64 i3,.str s4,.int .i64 i5,.int .i64 i6,.slice a7 n8 c9 z10]))] 0,[],[]⟩ σ = f14_t L n a1 i2 i3 s4 i5 i6 a7 n8 c9 z10 σ:=by kernel_rfl
theorem f14_e:Le (f14_t (pt Tryz.prog Lb 14 n) n a1 i2 i3 s4 i5 i6 a7 n8 c9 z10 σ) (callP Tryz.prog Lb (n + 1) 14 [.ptr a1,.agg [.int .i64 i2,.int .i64 i3,.str s4,.int .i64 i5,.int .i64 i6,.slice a7 n8 c9 z10]] σ):=
 goT_call f14_g rfl (by kernel_rfl) (by kernel_rfl)
noncomputable def f14_j1_t (_:Leaf) (_:Nat) (a1:Ad) (_ i3 i4:Int) (s5:By) (i6 i7:Int) (a8:Ad) (n9:Nat) (c10:On) (z11:Nat) (σ:St):Out:=
 derefK a1 fun b12 o13=>
 ldK Tryz.prog 24 σ b12 (o13 + 6) fun x14=>
 xSl x14 fun a15 n16 _ z18=>
 appK σ 34 6 72 a15 n16 z18 1 [.int .i64 i3,.int .i64 i4,.str s5,.int .i64 i6,.int .i64 i7,.slice a8 n9 c10 z11] fun a19 n20 c21 σ22=>
 derefK a1 fun b23 o24=>
 stK σ22 b23 (o24 + 6) [.slice a19 n20 c21 6] fun σ25=>
 derefK a1 fun b26 o27=>
 ldK Tryz.prog 24 σ25 b26 (o27 + 6) fun x28=>
 xSl x28 fun _ n30 _ _=>
 some (.ret (.int .i64 (IntKind.wrap .i64 ((n30:Int) - (1:Int)))),σ25)
theorem f14_j1_g:f14_j1 (goT Tryz.prog Lb 14 n L []) a1 i2 i3 i4 s5 i6 i7 a8 n9 c10 z11 σ = f14_j1_t L n a1 i2 i3 i4 s5 i6 i7 a8 n9 c10 z11 σ:=by kernel_rfl
theorem f14_j1_e:Le (f14_j1_t (pt Tryz.prog Lb 14 n) n a1 i2 i3 i4 s5 i6 i7 a8 n9 c10 z11 σ) (f14_j1 (pt Tryz.prog Lb 14 n) a1 i2 i3 i4 s5 i6 i7 a8 n9 c10 z11 σ):=by
 unfold f14_j1;exact goT_pt f14_j1_g
noncomputable def f32_t (_:Leaf) (n:Nat) (a1:Ad) (s2:By) (σ:St):Out:=
 callT Tryz.prog Lb n 35 [.ptr a1,.str s2] σ fun v4 σ3=>
 xBool v4 fun b5=>
 cond b5 (callT Tryz.prog Lb n 58 [.ptr a1] σ3 fun v7 σ6=>
 xAgg v7 fun cs8=>
 unC cs8 fun x9 r10=>
 xInt .i64 x9 fun _=>
 unC r10 fun x12 r13=>
 xInt .i64 x12 fun _=>
 unC r13 fun x15 r16=>
 xStr x15 fun _=>
 unC r16 fun x18 r19=>
 xInt .i64 x18 fun _=>
 nlC r19 <|
 some (.ret (.bool true),σ6)) (some (.ret (.bool false),σ3))
theorem f32_g:goT Tryz.prog Lb 32 n L [] [] [] ⟨tm 10 [(0,.v (.ptr a1)),(1,.v (.str s2))] 0,[],[]⟩ σ = f32_t L n a1 s2 σ:=by kernel_rfl
theorem f32_e:Le (f32_t (pt Tryz.prog Lb 32 n) n a1 s2 σ) (callP Tryz.prog Lb (n + 1) 32 [.ptr a1,.str s2] σ):=
 goT_call f32_g rfl (by kernel_rfl) (by kernel_rfl)
noncomputable def f33_t (_:Leaf) (n:Nat) (a1:Ad) (s2:By) (σ:St):Out:=
 callT Tryz.prog Lb n 35 [.ptr a1,.str s2] σ fun v4 σ3=>
 xBool v4 fun b5=>
 cond (!b5) (derefK a1 fun b6 o7=>
 ldK Tryz.prog 3 σ3 b6 ((o7 + 2) + 1) fun x8=>
 xInt .i64 x8 fun i9=>
 callT Tryz.prog Lb n 27 [.int .i64 (13:Int),.int .i64 i9] σ3 fun _ σ10=>
 callT Tryz.prog Lb n 58 [.ptr a1] σ10 fun v13 σ12=>
 xAgg v13 fun cs14=>
 unC cs14 fun x15 r16=>
 xInt .i64 x15 fun _=>
 unC r16 fun x18 r19=>
 xInt .i64 x18 fun _=>
 unC r19 fun x21 r22=>
 xStr x21 fun _=>
 unC r22 fun x24 r25=>
 xInt .i64 x24 fun _=>
 nlC r25 <|
 some (.ret (.tuple []),σ12)) (callT Tryz.prog Lb n 58 [.ptr a1] σ3 fun v28 σ27=>
 xAgg v28 fun cs29=>
 unC cs29 fun x30 r31=>
 xInt .i64 x30 fun _=>
 unC r31 fun x33 r34=>
 xInt .i64 x33 fun _=>
 unC r34 fun x36 r37=>
 xStr x36 fun _=>
 unC r37 fun x39 r40=>
 xInt .i64 x39 fun _=>
 nlC r40 <|
 some (.ret (.tuple []),σ27))
theorem f33_g:goT Tryz.prog Lb 33 n L [] [] [] ⟨tm 16 [(0,.v (.ptr a1)),(1,.v (.str s2))] 0,[],[]⟩ σ = f33_t L n a1 s2 σ:=by kernel_rfl
theorem f33_e:Le (f33_t (pt Tryz.prog Lb 33 n) n a1 s2 σ) (callP Tryz.prog Lb (n + 1) 33 [.ptr a1,.str s2] σ):=
 goT_call f33_g rfl (by kernel_rfl) (by kernel_rfl)
noncomputable def f34_t (_:Leaf) (n:Nat) (a1:Ad) (i2:Int) (σ:St):Out:=
 derefK a1 fun b3 o4=>
 ldK Tryz.prog 3 σ b3 ((o4 + 2) + 0) fun x5=>
 xInt .i64 x5 fun i6=>
 cond (i6 != i2) (derefK a1 fun b7 o8=>
 ldK Tryz.prog 3 σ b7 ((o8 + 2) + 1) fun x9=>
 xInt .i64 x9 fun i10=>
 callT Tryz.prog Lb n 27 [.int .i64 (13:Int),.int .i64 i10] σ fun _ σ11=>
 callT Tryz.prog Lb n 58 [.ptr a1] σ11 fun v14 σ13=>
 xAgg v14 fun cs15=>
 unC cs15 fun x16 r17=>
 xInt .i64 x16 fun i18=>
 unC r17 fun x19 r20=>
 xInt .i64 x19 fun i21=>
 unC r20 fun x22 r23=>
 xStr x22 fun s24=>
 unC r23 fun x25 r26=>
 xInt .i64 x25 fun i27=>
 nlC r26 <|
 some (.ret (.agg [.int .i64 i18,.int .i64 i21,.str s24,.int .i64 i27]),σ13)) (callT Tryz.prog Lb n 58 [.ptr a1] σ fun v29 σ28=>
 xAgg v29 fun cs30=>
 unC cs30 fun x31 r32=>
 xInt .i64 x31 fun i33=>
 unC r32 fun x34 r35=>
 xInt .i64 x34 fun i36=>
 unC r35 fun x37 r38=>
 xStr x37 fun s39=>
 unC r38 fun x40 r41=>
 xInt .i64 x40 fun i42=>
 nlC r41 <|
 some (.ret (.agg [.int .i64 i33,.int .i64 i36,.str s39,.int .i64 i42]),σ28))
theorem f34_g:goT Tryz.prog Lb 34 n L [] [] [] ⟨tm 20 [(0,.v (.ptr a1)),(1,.v (.int .i64 i2))] 0,[],[]⟩ σ = f34_t L n a1 i2 σ:=by kernel_rfl
theorem f34_e:Le (f34_t (pt Tryz.prog Lb 34 n) n a1 i2 σ) (callP Tryz.prog Lb (n + 1) 34 [.ptr a1,.int .i64 i2] σ):=
 goT_call f34_g rfl (by kernel_rfl) (by kernel_rfl)
noncomputable def f35_t (_:Leaf) (_:Nat) (a1:Ad) (s2:By) (σ:St):Out:=
 derefK a1 fun b3 o4=>
 ldK Tryz.prog 3 σ b3 ((o4 + 2) + 0) fun x5=>
 xInt .i64 x5 fun i6=>
 cond (i6 == (2:Int)) (derefK a1 fun b7 o8=>
 ldK Tryz.prog 9 σ b7 ((o8 + 2) + 2) fun x9=>
 xStr x9 fun s10=>
 some (.ret (.bool (s10 == s2)),σ)) (derefK a1 fun b11 o12=>
 ldK Tryz.prog 3 σ b11 ((o12 + 2) + 0) fun x13=>
 xInt .i64 x13 fun i14=>
 cond (i14 == (5:Int)) (derefK a1 fun b15 o16=>
 ldK Tryz.prog 9 σ b15 ((o16 + 2) + 2) fun x17=>
 xStr x17 fun s18=>
 some (.ret (.bool (s18 == s2)),σ)) (some (.ret (.bool false),σ)))
theorem f35_g:goT Tryz.prog Lb 35 n L [] [] [] ⟨tm 28 [(0,.v (.ptr a1)),(1,.v (.str s2))] 0,[],[]⟩ σ = f35_t L n a1 s2 σ:=by kernel_rfl
theorem f35_e:Le (f35_t (pt Tryz.prog Lb 35 n) n a1 s2 σ) (callP Tryz.prog Lb (n + 1) 35 [.ptr a1,.str s2] σ):=
 goT_call f35_g rfl (by kernel_rfl) (by kernel_rfl)
noncomputable def f36_l1 (L:Leaf) (m0:Nat) (a1:Ad) (i2:Int) (s3:By) (i4:Int) (a5:Ad) (n6:Nat) (c7:On) (z8:Nat) (σ:St):Out:=
 L [1,1,1,0,1,0,0] [m0] ⟨tm 39 [(0,.v (.ptr a1)),(1,.v (.int .i64 i2)),(2,.v (.str s3)),(6,.v (.int .i64 i4)),(7,.v (.slice a5 n6 c7 z8))] 0,[],[]⟩ σ
noncomputable def f36_j2 (L:Leaf) (a1:Ad) (i2:Int) (s3:By) (i4:Int) (a5:Ad) (n6:Nat) (c7:On) (z8:Nat) (σ:St):Out:=
 L [1,1,1,1] [] ⟨tm 39 [(0,.v (.ptr a1)),(1,.v (.int .i64 i2)),(2,.v (.str s3)),(6,.v (.int .i64 i4)),(7,.v (.slice a5 n6 c7 z8))] 0,[],[]⟩ σ
noncomputable def f36_t (L:Leaf) (n:Nat) (a1:Ad) (i2:Int) (s3:By) (σ:St):Out:=
 callT Tryz.prog Lb n 58 [.ptr a1] σ fun v5 σ4=>
 xAgg v5 fun cs6=>
 unC cs6 fun x7 r8=>
 xInt .i64 x7 fun _=>
 unC r8 fun x10 r11=>
 xInt .i64 x10 fun _=>
 unC r11 fun x13 r14=>
 xStr x13 fun _=>
 unC r14 fun x16 r17=>
 xInt .i64 x16 fun _=>
 nlC r17 <|
 callT Tryz.prog Lb n 32 [.ptr a1,.str [41]] σ4 fun v20 σ19=>
 xBool v20 fun b21=>
 cond (!b21) (f36_l1 L n a1 i2 s3 (0:Int) none 0 (some 0) 0 σ19) (f36_j2 L a1 i2 s3 (0:Int) none 0 (some 0) 0 σ19)
theorem f36_g:goT Tryz.prog Lb 36 n L [[1,1,1,1]] [] [] ⟨tm 39 [(0,.v (.ptr a1)),(1,.v (.int .i64 i2)),(2,.v (.str s3))] 0,[],[]⟩ σ = f36_t L n a1 i2 s3 σ:=by kernel_rfl
theorem f36_e:Le (f36_t (pt Tryz.prog Lb 36 n) n a1 i2 s3 σ) (callP Tryz.prog Lb (n + 1) 36 [.ptr a1,.int .i64 i2,.str s3] σ):=
 goT_call f36_g rfl (by kernel_rfl) (by kernel_rfl)
noncomputable def f36_l1_t (L:Leaf) (n m0:Nat) (a1:Ad) (i2:Int) (s3:By) (i4:Int) (a5:Ad) (n6:Nat) (_:On) (z8:Nat) (σ:St):Out:=
 callT Tryz.prog Lb n 59 [.ptr a1] σ fun v10 σ9=>
 xAgg v10 fun cs11=>
 unC cs11 fun x12 r13=>
 xInt .i64 x12 fun i14=>
 unC r13 fun x15 r16=>
 xInt .i64 x15 fun i17=>
 unC r16 fun x18 r19=>
 xStr x18 fun s20=>
 unC r19 fun x21 r22=>
 xInt .i64 x21 fun i23=>
 unC r22 fun x24 r25=>
 xInt .i64 x24 fun i26=>
 unC r25 fun x27 r28=>
 xSl x27 fun a29 n30 c31 z32=>
 nlC r28 <|
 callT Tryz.prog Lb n 14 [.ptr a1,.agg [.int .i64 i14,.int .i64 i17,.str s20,.int .i64 i23,.int .i64 i26,.slice a29 n30 c31 z32]] σ9 fun v34 σ33=>
 xInt .i64 v34 fun i35=>
 appK σ33 3 1 8 a5 n6 z8 1 [.int .i64 i35] fun a36 n37 c38 σ39=>
 callT Tryz.prog Lb n 32 [.ptr a1,.str [41]] σ39 fun v41 σ40=>
 xBool v41 fun b42=>
 cond b42 (f36_j2 L a1 i2 s3 i4 a36 n37 c38 1 σ40) (callT Tryz.prog Lb n 33 [.ptr a1,.str [44]] σ40 fun _ σ43=>
 f36_l1 L m0 a1 i2 s3 i4 a36 n37 c38 1 σ43)
theorem f36_l1_g:f36_l1 (goT Tryz.prog Lb 36 n L [[1,1,1,1]]) (m0 + 1) a1 i2 s3 i4 a5 n6 c7 z8 σ = f36_l1_t L n m0 a1 i2 s3 i4 a5 n6 c7 z8 σ:=by kernel_rfl
theorem f36_l1_e:Le (f36_l1_t (pt Tryz.prog Lb 36 n) n m0 a1 i2 s3 i4 a5 n6 c7 z8 σ) (f36_l1 (pt Tryz.prog Lb 36 n) (m0 + 1) a1 i2 s3 i4 a5 n6 c7 z8 σ):=by
 unfold f36_l1;exact goT_pt f36_l1_g
noncomputable def f36_j2_t (_:Leaf) (n:Nat) (a1:Ad) (i2:Int) (s3:By) (_:Int) (a5:Ad) (n6:Nat) (_:On) (z8:Nat) (σ:St):Out:=
 callT Tryz.prog Lb n 60 [.ptr a1] σ fun v10 σ9=>
 xInt .i64 v10 fun i11=>
 appK σ9 3 1 8 a5 n6 z8 1 [.int .i64 i11] fun a12 n13 c14 σ15=>
 callT Tryz.prog Lb n 14 [.ptr a1,.agg [.int .i64 (22:Int),.int .i64 i2,.str s3,.int .i64 (0:Int),.int .i64 (n6:Int),.slice a12 n13 c14 1]] σ15 fun v17 σ16=>
 xInt .i64 v17 fun i18=>
 some (.ret (.int .i64 i18),σ16)
theorem f36_j2_g:f36_j2 (goT Tryz.prog Lb 36 n L []) a1 i2 s3 i4 a5 n6 c7 z8 σ = f36_j2_t L n a1 i2 s3 i4 a5 n6 c7 z8 σ:=by kernel_rfl
theorem f36_j2_e:Le (f36_j2_t (pt Tryz.prog Lb 36 n) n a1 i2 s3 i4 a5 n6 c7 z8 σ) (f36_j2 (pt Tryz.prog Lb 36 n) a1 i2 s3 i4 a5 n6 c7 z8 σ):=by
 unfold f36_j2;exact goT_pt f36_j2_g
noncomputable def f58_t (_:Leaf) (n:Nat) (a1:Ad) (σ:St):Out:=
 derefK a1 fun b2 o3=>
 ldK Tryz.prog 44 σ b2 (o3 + 2) fun x4=>
 xAgg x4 fun cs5=>
 unC cs5 fun x6 r7=>
 xInt .i64 x6 fun i8=>
 unC r7 fun x9 r10=>
 xInt .i64 x9 fun i11=>
 unC r10 fun x12 r13=>
 xStr x12 fun s14=>
 unC r13 fun x15 r16=>
 xInt .i64 x15 fun i17=>
 nlC r16 <|
 callT Tryz.prog Lb n 12 [.ptr a1] σ fun v19 σ18=>
 xAgg v19 fun cs20=>
 unC cs20 fun x21 r22=>
 xInt .i64 x21 fun i23=>
 unC r22 fun x24 r25=>
 xInt .i64 x24 fun i26=>
 unC r25 fun x27 r28=>
 xStr x27 fun s29=>
 unC r28 fun x30 r31=>
 xInt .i64 x30 fun i32=>
 nlC r31 <|
 derefK a1 fun b33 o34=>
 stK σ18 b33 (o34 + 2) [.int .i64 i23,.int .i64 i26,.str s29,.int .i64 i32] fun σ35=>
 some (.ret (.agg [.int .i64 i8,.int .i64 i11,.str s14,.int .i64 i17]),σ35)
theorem f58_g:goT Tryz.prog Lb 58 n L [] [] [] ⟨tm 14 [(0,.v (.ptr a1))] 0,[],[]⟩ σ = f58_t L n a1 σ:=by kernel_rfl
theorem f58_e:Le (f58_t (pt Tryz.prog Lb 58 n) n a1 σ) (callP Tryz.prog Lb (n + 1) 58 [.ptr a1] σ):=
 goT_call f58_g rfl (by kernel_rfl) (by kernel_rfl)
noncomputable def f59_j1 (L:Leaf) (a1:Ad) (i2 i3 i4 i5:Int) (s6:By) (i7 i8:Int) (a9:Ad) (n10:Nat) (c11:On) (z12:Nat) (σ:St):Out:=
 L [1,1,1,1] [] ⟨tm 25 [(0,.v (.ptr a1)),(2,.lp 2 0),(3,.v (.int .i64 i2)),(4,.v (.int .i64 i3))] 0,[(2,[.int .i64 i4,.int .i64 i5,.str s6,.int .i64 i7,.int .i64 i8,.slice a9 n10 c11 z12])],[]⟩ σ
noncomputable def f59_t (L:Leaf) (n:Nat) (a1:Ad) (σ:St):Out:=
 derefK a1 fun b2 o3=>
 ldK Tryz.prog 3 σ b2 ((o3 + 2) + 1) fun x4=>
 xInt .i64 x4 fun i5=>
 callT Tryz.prog Lb n 32 [.ptr a1,.str [99,104,97,114]] σ fun v7 σ6=>
 xBool v7 fun b8=>
 cond b8 (callT Tryz.prog Lb n 33 [.ptr a1,.str [42]] σ6 fun _ σ9=>
 f59_j1 L a1 i5 (2:Int) (0:Int) (0:Int) [] (0:Int) (0:Int) none 0 (some 0) 0 σ9) (callT Tryz.prog Lb n 33 [.ptr a1,.str [105,110,116]] σ6 fun _ σ11=>
 callT Tryz.prog Lb n 32 [.ptr a1,.str [42]] σ11 fun v14 σ13=>
 xBool v14 fun b15=>
 cond b15 (f59_j1 L a1 i5 (3:Int) (0:Int) (0:Int) [] (0:Int) (0:Int) none 0 (some 0) 0 σ13) (f59_j1 L a1 i5 (1:Int) (0:Int) (0:Int) [] (0:Int) (0:Int) none 0 (some 0) 0 σ13))
theorem f59_g:goT Tryz.prog Lb 59 n L [[1,1,1,1]] [] [] ⟨tm 25 [(0,.v (.ptr a1))] 0,[],[]⟩ σ = f59_t L n a1 σ:=by kernel_rfl
theorem f59_e:Le (f59_t (pt Tryz.prog Lb 59 n) n a1 σ) (callP Tryz.prog Lb (n + 1) 59 [.ptr a1] σ):=
 goT_call f59_g rfl (by kernel_rfl) (by kernel_rfl)
noncomputable def f59_j1_t (_:Leaf) (n:Nat) (a1:Ad) (i2 i3 _ _:Int) (_:By) (_ _:Int) (_:Ad) (_:Nat) (_:On) (_:Nat) (σ:St):Out:=
 callT Tryz.prog Lb n 34 [.ptr a1,.int .i64 (1:Int)] σ fun v14 σ13=>
 xAgg v14 fun cs15=>
 unC cs15 fun x16 r17=>
 xInt .i64 x16 fun _=>
 unC r17 fun x19 r20=>
 xInt .i64 x19 fun _=>
 unC r20 fun x22 r23=>
 xStr x22 fun s24=>
 unC r23 fun x25 r26=>
 xInt .i64 x25 fun _=>
 nlC r26 <|
 some (.ret (.agg [.int .i64 (18:Int),.int .i64 i2,.str s24,.int .i64 (0:Int),.int .i64 i3,.slice none 0 (some 0) 0]),σ13)
theorem f59_j1_g:f59_j1 (goT Tryz.prog Lb 59 n L []) a1 i2 i3 i4 i5 s6 i7 i8 a9 n10 c11 z12 σ = f59_j1_t L n a1 i2 i3 i4 i5 s6 i7 i8 a9 n10 c11 z12 σ:=by kernel_rfl
theorem f59_j1_e:Le (f59_j1_t (pt Tryz.prog Lb 59 n) n a1 i2 i3 i4 i5 s6 i7 i8 a9 n10 c11 z12 σ) (f59_j1 (pt Tryz.prog Lb 59 n) a1 i2 i3 i4 i5 s6 i7 i8 a9 n10 c11 z12 σ):=by
 unfold f59_j1;exact goT_pt f59_j1_g
noncomputable def f60_l1 (L:Leaf) (m0:Nat) (a1:Ad) (i2 i3:Int) (a4:Ad) (n5:Nat) (c6:On) (z7:Nat) (σ:St):Out:=
 L [1,1,1,1,0,0] [m0] ⟨tm 27 [(0,.v (.ptr a1)),(2,.v (.int .i64 i2)),(3,.v (.int .i64 i3)),(4,.v (.slice a4 n5 c6 z7))] 0,[],[]⟩ σ
noncomputable def f60_j2 (L:Leaf) (a1:Ad) (i2 i3:Int) (a4:Ad) (n5:Nat) (c6:On) (z7:Nat) (σ:St):Out:=
 L [1,1,1,1,1] [] ⟨tm 27 [(0,.v (.ptr a1)),(2,.v (.int .i64 i2)),(3,.v (.int .i64 i3)),(4,.v (.slice a4 n5 c6 z7))] 0,[],[]⟩ σ
noncomputable def f60_t (L:Leaf) (n:Nat) (a1:Ad) (σ:St):Out:=
 derefK a1 fun b2 o3=>
 ldK Tryz.prog 3 σ b2 ((o3 + 2) + 1) fun x4=>
 xInt .i64 x4 fun i5=>
 callT Tryz.prog Lb n 33 [.ptr a1,.str [123]] σ fun _ σ6=>
 f60_l1 L n a1 (0:Int) i5 none 0 (some 0) 0 σ6
theorem f60_g:goT Tryz.prog Lb 60 n L [] [] [] ⟨tm 27 [(0,.v (.ptr a1))] 0,[],[]⟩ σ = f60_t L n a1 σ:=by kernel_rfl
theorem f60_e:Le (f60_t (pt Tryz.prog Lb 60 n) n a1 σ) (callP Tryz.prog Lb (n + 1) 60 [.ptr a1] σ):=
 goT_call f60_g rfl (by kernel_rfl) (by kernel_rfl)
noncomputable def f60_l1_t (L:Leaf) (n m0:Nat) (a1:Ad) (i2 i3:Int) (a4:Ad) (n5:Nat) (c6:On) (z7:Nat) (σ:St):Out:=
 callT Tryz.prog Lb n 35 [.ptr a1,.str [125]] σ fun v9 σ8=>
 xBool v9 fun b10=>
 cond (!b10) (callT Tryz.prog Lb n 77 [.ptr a1] σ8 fun v12 σ11=>
 xInt .i64 v12 fun i13=>
 appK σ11 3 1 8 a4 n5 z7 1 [.int .i64 i13] fun a14 n15 c16 σ17=>
 f60_l1 L m0 a1 i2 i3 a14 n15 c16 1 σ17) (f60_j2 L a1 i2 i3 a4 n5 c6 z7 σ8)
theorem f60_l1_g:f60_l1 (goT Tryz.prog Lb 60 n L [[1,1,1,1,1]]) (m0 + 1) a1 i2 i3 a4 n5 c6 z7 σ = f60_l1_t L n m0 a1 i2 i3 a4 n5 c6 z7 σ:=by kernel_rfl
theorem f60_l1_e:Le (f60_l1_t (pt Tryz.prog Lb 60 n) n m0 a1 i2 i3 a4 n5 c6 z7 σ) (f60_l1 (pt Tryz.prog Lb 60 n) (m0 + 1) a1 i2 i3 a4 n5 c6 z7 σ):=by
 unfold f60_l1;exact goT_pt f60_l1_g
noncomputable def f60_j2_t (_:Leaf) (n:Nat) (a1:Ad) (_ i3:Int) (a4:Ad) (n5:Nat) (c6:On) (z7:Nat) (σ:St):Out:=
 callT Tryz.prog Lb n 58 [.ptr a1] σ fun v9 σ8=>
 xAgg v9 fun cs10=>
 unC cs10 fun x11 r12=>
 xInt .i64 x11 fun _=>
 unC r12 fun x14 r15=>
 xInt .i64 x14 fun _=>
 unC r15 fun x17 r18=>
 xStr x17 fun _=>
 unC r18 fun x20 r21=>
 xInt .i64 x20 fun _=>
 nlC r21 <|
 callT Tryz.prog Lb n 14 [.ptr a1,.agg [.int .i64 (17:Int),.int .i64 i3,.str [],.int .i64 (0:Int),.int .i64 (0:Int),.slice a4 n5 c6 z7]] σ8 fun v24 σ23=>
 xInt .i64 v24 fun i25=>
 some (.ret (.int .i64 i25),σ23)
theorem f60_j2_g:f60_j2 (goT Tryz.prog Lb 60 n L []) a1 i2 i3 a4 n5 c6 z7 σ = f60_j2_t L n a1 i2 i3 a4 n5 c6 z7 σ:=by kernel_rfl
theorem f60_j2_e:Le (f60_j2_t (pt Tryz.prog Lb 60 n) n a1 i2 i3 a4 n5 c6 z7 σ) (f60_j2 (pt Tryz.prog Lb 60 n) a1 i2 i3 a4 n5 c6 z7 σ):=by
 unfold f60_j2;exact goT_pt f60_j2_g
noncomputable def f95_t (_:Leaf) (_:Nat) (i1:Int) (σ:St):Out:=
 cond (decide (i1 < (4:Int))) (some (.ret (.int .i64 (0:Int)),σ)) (cond (decide (i1 > (21:Int))) (some (.ret (.int .i64 (0:Int)),σ)) (idxK (IntKind.wrap .i64 (i1 - (4:Int))) 18 <|
 partK Tryz.prog 3 [.int .i64 (10:Int),.int .i64 (10:Int),.int .i64 (10:Int),.int .i64 (9:Int),.int .i64 (9:Int),.int .i64 (8:Int),.int .i64 (8:Int),.int .i64 (7:Int),.int .i64 (7:Int),.int .i64 (7:Int),.int .i64 (7:Int),.int .i64 (6:Int),.int .i64 (6:Int),.int .i64 (5:Int),.int .i64 (4:Int),.int .i64 (3:Int),.int .i64 (2:Int),.int .i64 (1:Int)] (((IntKind.wrap .i64 (i1 - (4:Int)))).toNat * 1) fun x2=>
 xInt .i64 x2 fun i3=>
 some (.ret (.int .i64 i3),σ)))
theorem f95_g:goT Tryz.prog Lb 95 n L [] [] [] ⟨tm 13 [(0,.v (.int .i64 i1))] 0,[],[]⟩ σ = f95_t L n i1 σ:=by kernel_rfl
theorem f95_e:Le (f95_t (pt Tryz.prog Lb 95 n) n i1 σ) (callP Tryz.prog Lb (n + 1) 95 [.int .i64 i1] σ):=
 goT_call f95_g rfl (by kernel_rfl) (by kernel_rfl)
noncomputable def f103_t (_:Leaf) (n:Nat) (a1:Ad) (σ:St):Out:=
 derefK a1 fun b2 o3=>
 ldK Tryz.prog 3 σ b2 (o3 + 7) fun x4=>
 xInt .i64 x4 fun i5=>
 cond (i5 == (40:Int)) (derefK a1 fun b6 o7=>
 ldK Tryz.prog 3 σ b6 ((o7 + 2) + 1) fun x8=>
 xInt .i64 x8 fun i9=>
 callT Tryz.prog Lb n 27 [.int .i64 (15:Int),.int .i64 i9] σ fun _ σ10=>
 derefK a1 fun b12 o13=>
 ldK Tryz.prog 3 σ10 b12 (o13 + 7) fun x14=>
 xInt .i64 x14 fun i15=>
 derefK a1 fun b16 o17=>
 stK σ10 b16 (o17 + 7) [.int .i64 (IntKind.wrap .i64 (i15 + (1:Int)))] fun σ18=>
 some (.ret (.tuple []),σ18)) (derefK a1 fun b19 o20=>
 ldK Tryz.prog 3 σ b19 (o20 + 7) fun x21=>
 xInt .i64 x21 fun i22=>
 derefK a1 fun b23 o24=>
 stK σ b23 (o24 + 7) [.int .i64 (IntKind.wrap .i64 (i22 + (1:Int)))] fun σ25=>
 some (.ret (.tuple []),σ25))
theorem f103_g:goT Tryz.prog Lb 103 n L [] [] [] ⟨tm 20 [(0,.v (.ptr a1))] 0,[],[]⟩ σ = f103_t L n a1 σ:=by kernel_rfl
theorem f103_e:Le (f103_t (pt Tryz.prog Lb 103 n) n a1 σ) (callP Tryz.prog Lb (n + 1) 103 [.ptr a1] σ):=
 goT_call f103_g rfl (by kernel_rfl) (by kernel_rfl)
noncomputable def f105_t (_:Leaf) (n:Nat) (a1:Ad) (σ:St):Out:=
 callT Tryz.prog Lb n 33 [.ptr a1,.str [40]] σ fun _ σ2=>
 callT Tryz.prog Lb n 106 [.ptr a1,.int .i64 (1:Int)] σ2 fun v5 σ4=>
 xInt .i64 v5 fun i6=>
 callT Tryz.prog Lb n 33 [.ptr a1,.str [41]] σ4 fun _ σ7=>
 some (.ret (.int .i64 i6),σ7)
theorem f105_g:goT Tryz.prog Lb 105 n L [] [] [] ⟨tm 11 [(0,.v (.ptr a1))] 0,[],[]⟩ σ = f105_t L n a1 σ:=by kernel_rfl
theorem f105_e:Le (f105_t (pt Tryz.prog Lb 105 n) n a1 σ) (callP Tryz.prog Lb (n + 1) 105 [.ptr a1] σ):=
 goT_call f105_g rfl (by kernel_rfl) (by kernel_rfl)
end Go.Proofs

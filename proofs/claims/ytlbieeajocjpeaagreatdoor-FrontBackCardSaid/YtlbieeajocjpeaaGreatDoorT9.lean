/- The functions, as trees of named steps. -/
import Derived.Test.YtlbieeajocjpeaaGreatDoorAmT
import Derived.Test.YtlbieeajocjpeaaGreatDoorBuilder
import Derived.Test.YtlbieeajocjpeaaGreatDoorChecked
namespace Go.Proofs
open Go.AM
set_option maxHeartbeats 4000000
variable {L:Leaf} {n n2 z4 n3 z5 m0 b2 o3 n6 z8 n5 z7:Nat} {s1 s2 s3:By} {σ:St} {a1 a2 a5 a4:Ad} {c3 c4 c7 c6:On} {x2 x1:AV} {b6 b1:Bool} {i6 i4 i9 i10 i5 i8 i3:Int}
set_option maxRecDepth 100000
noncomputable def f91_t (_:Leaf) (n:Nat) (s1:By) (σ:St):Out:=
 callT Tryz.prog Lb n 117 [.slice (some (σ.length,0)) 8 (some 8) 1] (σ ++ [AObj.cells [.str [10],.str [92,110],.str [9],.str [92,116],.str [92],.str [92,92],.str [34],.str [92,34]] (.rw (.row 9))]:St) fun v3 σ2=>
 xPtr v3 fun a4=>
 callT Tryz.prog Lb n 118 [.ptr a4,.str s1] σ2 fun v6 σ5=>
 xStr v6 fun s7=>
 catK [34] s7 fun s8=>
 catK s8 [34] fun s9=>
 some (.ret (.str s9),σ5)
theorem f91_g:goT Tryz.prog Lb 91 n L [] [] [] ⟨tm 11 [(0,.v (.str s1))] 0,[],[]⟩ σ = f91_t L n s1 σ:=by kernel_rfl
theorem f91_e:Le (f91_t (pt Tryz.prog Lb 91 n) n s1 σ) (callP Tryz.prog Lb (n + 1) 91 [.str s1] σ):=
 goT_call f91_g rfl (by kernel_rfl) (by kernel_rfl)
noncomputable def f117_t (_:Leaf) (_:Nat) (a1:Ad) (n2:Nat) (_:On) (z4:Nat) (σ:St):Out:=
 cond ((Int.tmod (n2:Int) (2:Int)) == (1:Int)) (some (.pan (.iface 9 (.str [115,116,114,105,110,103,115,46,78,101,119,82,101,112,108,97,99,101,114,58,32,111,100,100,32,97,114,103,117,109,101,110,116,32,99,111,117,110,116])),σ)) (spanK σ a1 n2 z4 1 fun n5 cs6=>
 appK σ 9 1 16 none 0 0 n5 cs6 fun a7 n8 c9 σ10=>
 some (.ret (.ptr (some (σ10.length,0))),(σ10 ++ [AObj.cells [.int .u32 (0:Int),.int .i32 (0:Int),.int .u32 (0:Int),.nilIface,.slice a7 n8 c9 1] (.rw (.box 183))]:St)))
theorem f117_g:goT Tryz.prog Lb 117 n L [] [] [] ⟨tm 12 [(0,.v (.slice a1 n2 c3 z4))] 0,[],[]⟩ σ = f117_t L n a1 n2 c3 z4 σ:=by kernel_rfl
theorem f117_e:Le (f117_t (pt Tryz.prog Lb 117 n) n a1 n2 c3 z4 σ) (callP Tryz.prog Lb (n + 1) 117 [.slice a1 n2 c3 z4] σ):=
 goT_call f117_g rfl (by kernel_rfl) (by kernel_rfl)
noncomputable def f118_t (_:Leaf) (n:Nat) (a1:Ad) (s2:By) (σ:St):Out:=
 derefK a1 fun b3 o4=>
 callT Tryz.prog Lb n 129 [.ptr (some (b3,(o4 + 0))),.func (.func 130) [.ptr a1] []] σ fun _ σ5=>
 derefK a1 fun b7 o8=>
 ldK Tryz.prog 181 σ5 b7 (o8 + 3) fun x9=>
 callJ Tryz.prog Lb n x9 "Replace" [.str s2] σ5 fun v11 σ10=>
 xStr v11 fun s12=>
 some (.ret (.str s12),σ10)
theorem f118_g:goT Tryz.prog Lb 118 n L [] [] [] ⟨tm 17 [(0,.v (.ptr a1)),(1,.v (.str s2))] 0,[],[]⟩ σ = f118_t L n a1 s2 σ:=by kernel_rfl
theorem f118_e:Le (f118_t (pt Tryz.prog Lb 118 n) n a1 s2 σ) (callP Tryz.prog Lb (n + 1) 118 [.ptr a1,.str s2] σ):=
 goT_call f118_g rfl (by kernel_rfl) (by kernel_rfl)
noncomputable def f129_t (_:Leaf) (n:Nat) (a1:Ad) (x2:AV) (σ:St):Out:=
 derefK a1 fun b3 o4=>
 callT Tryz.prog Lb n 135 [.ptr (some (b3,(o4 + 0)))] σ fun v6 σ5=>
 xBool v6 fun b7=>
 cond (!b7) (callT Tryz.prog Lb n 136 [.ptr a1,x2] σ5 fun _ σ8=>
 some (.ret (.tuple []),σ8)) (some (.ret (.tuple []),σ5))
theorem f129_g:goT Tryz.prog Lb 129 n L [] [] [] ⟨tm 12 [(0,.v (.ptr a1)),(1,.v x2)] 0,[],[]⟩ σ = f129_t L n a1 x2 σ:=by kernel_rfl
theorem f129_e:Le (f129_t (pt Tryz.prog Lb 129 n) n a1 x2 σ) (callP Tryz.prog Lb (n + 1) 129 [.ptr a1,x2] σ):=
 goT_call f129_g rfl (by kernel_rfl) (by kernel_rfl)
noncomputable def f130_t (_:Leaf) (n:Nat) (a1:Ad) (σ:St):Out:=
 callT Tryz.prog Lb n 137 [.ptr a1] σ fun v3 σ2=>
 derefK a1 fun b4 o5=>
 wellK Tryz.prog 181 (AV.cells v3) <|
 stK σ2 b4 (o5 + 3) (AV.cells v3) fun σ6=>
 derefK a1 fun b7 o8=>
 stK σ6 b7 (o8 + 4) [.slice none 0 (some 0) 0] fun σ9=>
 some (.ret (.tuple []),σ9)
theorem f130_g:goT Tryz.prog Lb 130 n L [] [] [] ⟨tm 10 [(0,.v (.ptr a1))] 0,[],[]⟩ σ = f130_t L n a1 σ:=by kernel_rfl
theorem f130_e:Le (f130_t (pt Tryz.prog Lb 130 n) n a1 σ) (callP Tryz.prog Lb (n + 1) 130 [.ptr a1] σ):=
 goT_call f130_g rfl (by kernel_rfl) (by kernel_rfl)
noncomputable def f135_t (_:Leaf) (n:Nat) (a1:Ad) (σ:St):Out:=
 derefK a1 fun b2 o3=>
 callT Tryz.prog Lb n 139 [.ptr (some (b2,(o3 + 0)))] σ fun v5 σ4=>
 xInt .u32 v5 fun i6=>
 some (.ret (.bool (i6 != (0:Int))),σ4)
theorem f135_g:goT Tryz.prog Lb 135 n L [] [] [] ⟨tm 8 [(0,.v (.ptr a1))] 0,[],[]⟩ σ = f135_t L n a1 σ:=by kernel_rfl
theorem f135_e:Le (f135_t (pt Tryz.prog Lb 135 n) n a1 σ) (callP Tryz.prog Lb (n + 1) 135 [.ptr a1] σ):=
 goT_call f135_g rfl (by kernel_rfl) (by kernel_rfl)
noncomputable def f136_t (_:Leaf) (n:Nat) (a1:Ad) (x2:AV) (σ:St):Out:=
 derefK a1 fun b3 o4=>
 callT Tryz.prog Lb n 140 [.ptr (some (b3,(o4 + 1)))] σ fun _ σ5=>
 derefK a1 fun b7 o8=>
 derefK a1 fun b9 o10=>
 callE Tryz.prog Lb n 135 [.ptr (some (b9,(o10 + 0)))] σ5 (fun v12 σ11=>
 xBool v12 fun b18=>
 cond (!b18) (derefK a1 fun b19 o20=>
 callVE Tryz.prog Lb n x2 [] σ11 (fun _ σ21=>
 dfT Tryz.prog Lb n 142 [.ptr (some (b19,(o20 + 0))),.bool true] none σ21 fun u30 σ31=>
 dfT Tryz.prog Lb n 141 [.ptr (some (b7,(o8 + 1)))] u30 σ31 fun u32 σ33=>
 lvK u32 (fun v34=>some (.pan v34,σ33)) (some (.ret (.tuple []),σ33))) (fun v23 σ24=>
 dfT Tryz.prog Lb n 142 [.ptr (some (b19,(o20 + 0))),.bool true] (some v23) σ24 fun u25 σ26=>
 dfT Tryz.prog Lb n 141 [.ptr (some (b7,(o8 + 1)))] u25 σ26 fun u27 σ28=>
 lvK u27 (fun v29=>some (.pan v29,σ28)) (some (.ret (.tuple []),σ28)))) (dfT Tryz.prog Lb n 141 [.ptr (some (b7,(o8 + 1)))] none σ11 fun u35 σ36=>
 lvK u35 (fun v37=>some (.pan v37,σ36)) (some (.ret (.tuple []),σ36)))) (fun v13 σ14=>
 dfT Tryz.prog Lb n 141 [.ptr (some (b7,(o8 + 1)))] (some v13) σ14 fun u15 σ16=>
 lvK u15 (fun v17=>some (.pan v17,σ16)) (some (.ret (.tuple []),σ16)))
theorem f136_g:goT Tryz.prog Lb 136 n L [] [] [] ⟨tm 21 [(0,.v (.ptr a1)),(1,.v x2)] 0,[],[]⟩ σ = f136_t L n a1 x2 σ:=by kernel_rfl
theorem f136_e:Le (f136_t (pt Tryz.prog Lb 136 n) n a1 x2 σ) (callP Tryz.prog Lb (n + 1) 136 [.ptr a1,x2] σ):=
 goT_call f136_g rfl (by kernel_rfl) (by kernel_rfl)
noncomputable def f137_j1 (L:Leaf) (x1:AV) (a2:Ad) (n3:Nat) (c4:On) (z5:Nat) (b6:Bool) (σ:St):Out:=
 L [1,1,0,1] [] ⟨tm 132 [(2,.v x1),(3,.v (.slice a2 n3 c4 z5)),(28,.v (.bool b6))] 0,[],[]⟩ σ
noncomputable def f137_j2 (L:Leaf) (x1:AV) (a2:Ad) (n3:Nat) (c4:On) (z5:Nat) (σ:St):Out:=
 L [1,1,0,1] [] ⟨tm 132 [(2,.v x1),(3,.v (.slice a2 n3 c4 z5)),(28,.v (.bool false))] 0,[],[]⟩ σ
noncomputable def f137_l3 (L:Leaf) (m0:Nat) (x1:AV) (a2:Ad) (n3:Nat) (c4:On) (z5:Nat) (i6:Int) (σ:St):Out:=
 L [1,1,1,1,0,1,0] [m0] ⟨tm 132 [(2,.v x1),(3,.v (.slice a2 n3 c4 z5)),(4,.v (.bool true)),(5,.v (.int .i64 i6))] 0,[],[]⟩ σ
noncomputable def f137_l4 (L:Leaf) (m0:Nat) (x1:AV) (a2:Ad) (n3:Nat) (c4:On) (z5:Nat) (i6:Int) (σ:St):Out:=
 L [1,1,1,1,0,1,0] [m0] ⟨tm 132 [(2,.v x1),(3,.v (.slice a2 n3 c4 z5)),(4,.v (.bool false)),(5,.v (.int .i64 i6))] 0,[],[]⟩ σ
noncomputable def f137_j5 (L:Leaf) (x1:AV) (a2:Ad) (n3:Nat) (c4:On) (z5:Nat) (σ:St):Out:=
 L [1,1,1,1,1] [] ⟨tm 132 [(2,.v x1),(3,.v (.slice a2 n3 c4 z5)),(4,.v (.bool true))] 0,[],[]⟩ σ
noncomputable def f137_j6 (L:Leaf) (x1:AV) (a2:Ad) (n3:Nat) (c4:On) (z5:Nat) (σ:St):Out:=
 L [1,1,1,1,1] [] ⟨tm 132 [(2,.v x1),(3,.v (.slice a2 n3 c4 z5)),(4,.v (.bool false))] 0,[],[]⟩ σ
noncomputable def f137_j8 (L:Leaf) (x1:AV) (a2:Ad) (n3:Nat) (c4:On) (z5:Nat) (σ:St):Out:=
 L [1,1,1,1,1,1] [] ⟨tm 132 [(2,.v x1),(3,.v (.slice a2 n3 c4 z5))] 0,[],[]⟩ σ
noncomputable def f137_l10 (L:Leaf) (m0:Nat) (x1:AV) (a2:Ad) (n3:Nat) (c4:On) (z5 b6 o7:Nat) (i8:Int) (σ:St):Out:=
 L [1,1,1,1,1,1,1,0,1,0] [m0] ⟨tm 132 [(2,.v x1),(3,.v (.slice a2 n3 c4 z5)),(11,.v (.ptr (some (b6,o7)))),(12,.v (.int .i64 i8))] 0,[],[]⟩ σ
noncomputable def f137_j12 (L:Leaf) (x1:AV) (b2 o3:Nat) (σ:St):Out:=
 L [1,1,1,1,1,1,1,1] [] ⟨tm 132 [(2,.v x1),(11,.v (.ptr (some (b2,o3))))] 0,[],[]⟩ σ
noncomputable def f137_t (L:Leaf) (_:Nat) (a1:Ad) (σ:St):Out:=
 derefK a1 fun b2 o3=>
 ldK Tryz.prog 68 σ b2 (o3 + 4) fun x4=>
 xSl x4 fun a5 n6 c7 z8=>
 cond ((n6:Int) == (2:Int)) (idxK (0:Int) n6 <|
 derefK a5 fun b9 o10=>
 szK z8 1 <|
 ldK Tryz.prog 9 σ b9 (o10 + 0) fun x11=>
 xStr x11 fun s12=>
 f137_j1 L .nilIface a5 n6 c7 z8 (decide ((s12.length:Int) > (1:Int))) σ) (f137_j2 L .nilIface a5 n6 c7 z8 σ)
theorem f137_g:goT Tryz.prog Lb 137 n L [[1,1,0,1]] [] [] ⟨tm 132 [(0,.v (.ptr a1))] 0,[],[]⟩ σ = f137_t L n a1 σ:=by kernel_rfl
theorem f137_e:Le (f137_t (pt Tryz.prog Lb 137 n) n a1 σ) (callP Tryz.prog Lb (n + 1) 137 [.ptr a1] σ):=
 goT_call f137_g rfl (by kernel_rfl) (by kernel_rfl)
noncomputable def f137_j2_t (L:Leaf) (n:Nat) (x1:AV) (a2:Ad) (n3:Nat) (c4:On) (z5:Nat) (σ:St):Out:=
 f137_l3 L n x1 a2 n3 c4 z5 (0:Int) σ
theorem f137_j2_g:f137_j2 (goT Tryz.prog Lb 137 n L []) x1 a2 n3 c4 z5 σ = f137_j2_t L n x1 a2 n3 c4 z5 σ:=by kernel_rfl
theorem f137_j2_e:Le (f137_j2_t (pt Tryz.prog Lb 137 n) n x1 a2 n3 c4 z5 σ) (f137_j2 (pt Tryz.prog Lb 137 n) x1 a2 n3 c4 z5 σ):=by
 unfold f137_j2;exact goT_pt f137_j2_g
noncomputable def f137_l3_t (L:Leaf) (n m0:Nat) (x1:AV) (a2:Ad) (n3:Nat) (c4:On) (z5:Nat) (i6:Int) (σ:St):Out:=
 cond (decide (i6 < (n3:Int))) (idxK i6 n3 <|
 derefK a2 fun b7 o8=>
 szK z5 1 <|
 ldK Tryz.prog 9 σ b7 (o8 + ((i6).toNat * 1)) fun x9=>
 xStr x9 fun s10=>
 cond ((s10.length:Int) != (1:Int)) (callT Tryz.prog Lb n 144 [.slice a2 n3 c4 z5] σ fun v12 σ11=>
 xPtr v12 fun a13=>
 some (.ret (.iface 203 (.ptr a13)),σ11)) (idxK (IntKind.wrap .i64 (i6 + (1:Int))) n3 <|
 derefK a2 fun b14 o15=>
 szK z5 1 <|
 ldK Tryz.prog 9 σ b14 (o15 + (((IntKind.wrap .i64 (i6 + (1:Int)))).toNat * 1)) fun x16=>
 xStr x16 fun s17=>
 cond ((s17.length:Int) != (1:Int)) (f137_l4 L m0 x1 a2 n3 c4 z5 (IntKind.wrap .i64 (i6 + (2:Int))) σ) (f137_l3 L m0 x1 a2 n3 c4 z5 (IntKind.wrap .i64 (i6 + (2:Int))) σ))) (f137_j5 L x1 a2 n3 c4 z5 σ)
theorem f137_l3_g:f137_l3 (goT Tryz.prog Lb 137 n L [[1,1,1,1,1]]) (m0 + 1) x1 a2 n3 c4 z5 i6 σ = f137_l3_t L n m0 x1 a2 n3 c4 z5 i6 σ:=by kernel_rfl
theorem f137_l3_e:Le (f137_l3_t (pt Tryz.prog Lb 137 n) n m0 x1 a2 n3 c4 z5 i6 σ) (f137_l3 (pt Tryz.prog Lb 137 n) (m0 + 1) x1 a2 n3 c4 z5 i6 σ):=by
 unfold f137_l3;exact goT_pt f137_l3_g
noncomputable def f137_l4_t (L:Leaf) (n m0:Nat) (x1:AV) (a2:Ad) (n3:Nat) (c4:On) (z5:Nat) (i6:Int) (σ:St):Out:=
 cond (decide (i6 < (n3:Int))) (idxK i6 n3 <|
 derefK a2 fun b7 o8=>
 szK z5 1 <|
 ldK Tryz.prog 9 σ b7 (o8 + ((i6).toNat * 1)) fun x9=>
 xStr x9 fun s10=>
 cond ((s10.length:Int) != (1:Int)) (callT Tryz.prog Lb n 144 [.slice a2 n3 c4 z5] σ fun v12 σ11=>
 xPtr v12 fun a13=>
 some (.ret (.iface 203 (.ptr a13)),σ11)) (idxK (IntKind.wrap .i64 (i6 + (1:Int))) n3 <|
 derefK a2 fun b14 o15=>
 szK z5 1 <|
 ldK Tryz.prog 9 σ b14 (o15 + (((IntKind.wrap .i64 (i6 + (1:Int)))).toNat * 1)) fun x16=>
 xStr x16 fun s17=>
 cond ((s17.length:Int) != (1:Int)) (f137_l4 L m0 x1 a2 n3 c4 z5 (IntKind.wrap .i64 (i6 + (2:Int))) σ) (f137_l4 L m0 x1 a2 n3 c4 z5 (IntKind.wrap .i64 (i6 + (2:Int))) σ))) (f137_j6 L x1 a2 n3 c4 z5 σ)
theorem f137_l4_g:f137_l4 (goT Tryz.prog Lb 137 n L [[1,1,1,1,1]]) (m0 + 1) x1 a2 n3 c4 z5 i6 σ = f137_l4_t L n m0 x1 a2 n3 c4 z5 i6 σ:=by kernel_rfl
theorem f137_l4_e:Le (f137_l4_t (pt Tryz.prog Lb 137 n) n m0 x1 a2 n3 c4 z5 i6 σ) (f137_l4 (pt Tryz.prog Lb 137 n) (m0 + 1) x1 a2 n3 c4 z5 i6 σ):=by
 unfold f137_l4;exact goT_pt f137_l4_g
noncomputable def f137_j6_t (L:Leaf) (_:Nat) (x1:AV) (a2:Ad) (n3:Nat) (c4:On) (z5:Nat) (σ:St):Out:=
 f137_j8 L x1 a2 n3 c4 z5 σ
theorem f137_j6_g:f137_j6 (goT Tryz.prog Lb 137 n L [[1,1,1,1,1,1]]) x1 a2 n3 c4 z5 σ = f137_j6_t L n x1 a2 n3 c4 z5 σ:=by kernel_rfl
theorem f137_j6_e:Le (f137_j6_t (pt Tryz.prog Lb 137 n) n x1 a2 n3 c4 z5 σ) (f137_j6 (pt Tryz.prog Lb 137 n) x1 a2 n3 c4 z5 σ):=by
 unfold f137_j6;exact goT_pt f137_j6_g
noncomputable def f137_j8_t (L:Leaf) (n:Nat) (x1:AV) (a2:Ad) (n3:Nat) (c4:On) (z5:Nat) (σ:St):Out:=
 makeK Tryz.prog 9 1 (0:Int) (IntKind.wrap .i64 (Int.tdiv (n3:Int) (2:Int))) σ fun σ6=>
 stK (σ6 ++ [AObj.cells [.slice none 0 (some 0) 0,.slice none 0 (some 0) 0,.slice none 0 (some 0) 0,.slice none 0 (some 0) 0,.slice none 0 (some 0) 0,.slice none 0 (some 0) 0,.slice none 0 (some 0) 0,.slice none 0 (some 0) 0,.slice none 0 (some 0) 0,.slice none 0 (some 0) 0,.slice none 0 (some 0) 0,.slice none 0 (some 0) 0,.slice none 0 (some 0) 0,.slice none 0 (some 0) 0,.slice none 0 (some 0) 0,.slice none 0 (some 0) 0,.slice none 0 (some 0) 0,.slice none 0 (some 0) 0,.slice none 0 (some 0) 0,.slice none 0 (some 0) 0,.slice none 0 (some 0) 0,.slice none 0 (some 0) 0,.slice none 0 (some 0) 0,.slice none 0 (some 0) 0,.slice none 0 (some 0) 0,.slice none 0 (some 0) 0,.slice none 0 (some 0) 0,.slice none 0 (some 0) 0,.slice none 0 (some 0) 0,.slice none 0 (some 0) 0,.slice none 0 (some 0) 0,.slice none 0 (some 0) 0,.slice none 0 (some 0) 0,.slice none 0 (some 0) 0,.slice none 0 (some 0) 0,.slice none 0 (some 0) 0,.slice none 0 (some 0) 0,.slice none 0 (some 0) 0,.slice none 0 (some 0) 0,.slice none 0 (some 0) 0,.slice none 0 (some 0) 0,.slice none 0 (some 0) 0,.slice none 0 (some 0) 0,.slice none 0 (some 0) 0,.slice none 0 (some 0) 0,.slice none 0 (some 0) 0,.slice none 0 (some 0) 0,.slice none 0 (some 0) 0,.slice none 0 (some 0) 0,.slice none 0 (some 0) 0,.slice none 0 (some 0) 0,.slice none 0 (some 0) 0,.slice none 0 (some 0) 0,.slice none 0 (some 0) 0,.slice none 0 (some 0) 0,.slice none 0 (some 0) 0,.slice none 0 (some 0) 0,.slice none 0 (some 0) 0,.slice none 0 (some 0) 0,.slice none 0 (some 0) 0,.slice none 0 (some 0) 0,.slice none 0 (some 0) 0,.slice none 0 (some 0) 0,.slice none 0 (some 0) 0,.slice none 0 (some 0) 0,.slice none 0 (some 0) 0,.slice none 0 (some 0) 0,.slice none 0 (some 0) 0,.slice none 0 (some 0) 0,.slice none 0 (some 0) 0,.slice none 0 (some 0) 0,.slice none 0 (some 0) 0,.slice none 0 (some 0) 0,.slice none 0 (some 0) 0,.slice none 0 (some 0) 0,.slice none 0 (some 0) 0,.slice none 0 (some 0) 0,.slice none 0 (some 0) 0,.slice none 0 (some 0) 0,.slice none 0 (some 0) 0,.slice none 0 (some 0) 0,.slice none 0 (some 0) 0,.slice none 0 (some 0) 0,.slice none 0 (some 0) 0,.slice none 0 (some 0) 0,.slice none 0 (some 0) 0,.slice none 0 (some 0) 0,.slice none 0 (some 0) 0,.slice none 0 (some 0) 0,.slice none 0 (some 0) 0,.slice none 0 (some 0) 0,.slice none 0 (some 0) 0,.slice none 0 (some 0) 0,.slice none 0 (some 0) 0,.slice none 0 (some 0) 0,.slice none 0 (some 0) 0,.slice none 0 (some 0) 0,.slice none 0 (some 0) 0,.slice none 0 (some 0) 0,.slice none 0 (some 0) 0,.slice none 0 (some 0) 0,.slice none 0 (some 0) 0,.slice none 0 (some 0) 0,.slice none 0 (some 0) 0,.slice none 0 (some 0) 0,.slice none 0 (some 0) 0,.slice none 0 (some 0) 0,.slice none 0 (some 0) 0,.slice none 0 (some 0) 0,.slice none 0 (some 0) 0,.slice none 0 (some 0) 0,.slice none 0 (some 0) 0,.slice none 0 (some 0) 0,.slice none 0 (some 0) 0,.slice none 0 (some 0) 0,.slice none 0 (some 0) 0,.slice none 0 (some 0) 0,.slice none 0 (some 0) 0,.slice none 0 (some 0) 0,.slice none 0 (some 0) 0,.slice none 0 (some 0) 0,.slice none 0 (some 0) 0,.slice none 0 (some 0) 0,.slice none 0 (some 0) 0,.slice none 0 (some 0) 0,.slice none 0 (some 0) 0,.slice none 0 (some 0) 0,.slice none 0 (some 0) 0,.slice none 0 (some 0) 0,.slice none 0 (some 0) 0,.slice none 0 (some 0) 0,.slice none 0 (some 0) 0,.slice none 0 (some 0) 0,.slice none 0 (some 0) 0,.slice none 0 (some 0) 0,.slice none 0 (some 0) 0,.slice none 0 (some 0) 0,.slice none 0 (some 0) 0,.slice none 0 (some 0) 0,.slice none 0 (some 0) 0,.slice none 0 (some 0) 0,.slice none 0 (some 0) 0,.slice none 0 (some 0) 0,.slice none 0 (some 0) 0,.slice none 0 (some 0) 0,.slice none 0 (some 0) 0,.slice none 0 (some 0) 0,.slice none 0 (some 0) 0,.slice none 0 (some 0) 0,.slice none 0 (some 0) 0,.slice none 0 (some 0) 0,.slice none 0 (some 0) 0,.slice none 0 (some 0) 0,.slice none 0 (some 0) 0,.slice none 0 (some 0) 0,.slice none 0 (some 0) 0,.slice none 0 (some 0) 0,.slice none 0 (some 0) 0,.slice none 0 (some 0) 0,.slice none 0 (some 0) 0,.slice none 0 (some 0) 0,.slice none 0 (some 0) 0,.slice none 0 (some 0) 0,.slice none 0 (some 0) 0,.slice none 0 (some 0) 0,.slice none 0 (some 0) 0,.slice none 0 (some 0) 0,.slice none 0 (some 0) 0,.slice none 0 (some 0) 0,.slice none 0 (some 0) 0,.slice none 0 (some 0) 0,.slice none 0 (some 0) 0,.slice none 0 (some 0) 0,.slice none 0 (some 0) 0,.slice none 0 (some 0) 0,.slice none 0 (some 0) 0,.slice none 0 (some 0) 0,.slice none 0 (some 0) 0,.slice none 0 (some 0) 0,.slice none 0 (some 0) 0,.slice none 0 (some 0) 0,.slice none 0 (some 0) 0,.slice none 0 (some 0) 0,.slice none 0 (some 0) 0,.slice none 0 (some 0) 0,.slice none 0 (some 0) 0,.slice none 0 (some 0) 0,.slice none 0 (some 0) 0,.slice none 0 (some 0) 0,.slice none 0 (some 0) 0,.slice none 0 (some 0) 0,.slice none 0 (some 0) 0,.slice none 0 (some 0) 0,.slice none 0 (some 0) 0,.slice none 0 (some 0) 0,.slice none 0 (some 0) 0,.slice none 0 (some 0) 0,.slice none 0 (some 0) 0,.slice none 0 (some 0) 0,.slice none 0 (some 0) 0,.slice none 0 (some 0) 0,.slice none 0 (some 0) 0,.slice none 0 (some 0) 0,.slice none 0 (some 0) 0,.slice none 0 (some 0) 0,.slice none 0 (some 0) 0,.slice none 0 (some 0) 0,.slice none 0 (some 0) 0,.slice none 0 (some 0) 0,.slice none 0 (some 0) 0,.slice none 0 (some 0) 0,.slice none 0 (some 0) 0,.slice none 0 (some 0) 0,.slice none 0 (some 0) 0,.slice none 0 (some 0) 0,.slice none 0 (some 0) 0,.slice none 0 (some 0) 0,.slice none 0 (some 0) 0,.slice none 0 (some 0) 0,.slice none 0 (some 0) 0,.slice none 0 (some 0) 0,.slice none 0 (some 0) 0,.slice none 0 (some 0) 0,.slice none 0 (some 0) 0,.slice none 0 (some 0) 0,.slice none 0 (some 0) 0,.slice none 0 (some 0) 0,.slice none 0 (some 0) 0,.slice none 0 (some 0) 0,.slice none 0 (some 0) 0,.slice none 0 (some 0) 0,.slice none 0 (some 0) 0,.slice none 0 (some 0) 0,.slice none 0 (some 0) 0,.slice none 0 (some 0) 0,.slice none 0 (some 0) 0,.slice none 0 (some 0) 0,.slice none 0 (some 0) 0,.slice none 0 (some 0) 0,.slice none 0 (some 0) 0,.slice none 0 (some 0) 0,.slice none 0 (some 0) 0,.slice none 0 (some 0) 0,.slice none 0 (some 0) 0,.slice none 0 (some 0) 0,.slice none 0 (some 0) 0,.slice none 0 (some 0) 0,.slice none 0 (some 0) 0,.slice none 0 (some 0) 0,.slice none 0 (some 0) 0,.slice none 0 (some 0) 0,.slice none 0 (some 0) 0,.slice none 0 (some 0) 0,.slice none 0 (some 0) 0,.slice none 0 (some 0) 0,.slice none 0 (some 0) 0,.slice none 0 (some 0) 0] (.rw (.box 209))]:St) σ6.length 0 [.slice none 0 (some 0) 0,.slice none 0 (some 0) 0,.slice none 0 (some 0) 0,.slice none 0 (some 0) 0,.slice none 0 (some 0) 0,.slice none 0 (some 0) 0,.slice none 0 (some 0) 0,.slice none 0 (some 0) 0,.slice none 0 (some 0) 0,.slice none 0 (some 0) 0,.slice none 0 (some 0) 0,.slice none 0 (some 0) 0,.slice none 0 (some 0) 0,.slice none 0 (some 0) 0,.slice none 0 (some 0) 0,.slice none 0 (some 0) 0,.slice none 0 (some 0) 0,.slice none 0 (some 0) 0,.slice none 0 (some 0) 0,.slice none 0 (some 0) 0,.slice none 0 (some 0) 0,.slice none 0 (some 0) 0,.slice none 0 (some 0) 0,.slice none 0 (some 0) 0,.slice none 0 (some 0) 0,.slice none 0 (some 0) 0,.slice none 0 (some 0) 0,.slice none 0 (some 0) 0,.slice none 0 (some 0) 0,.slice none 0 (some 0) 0,.slice none 0 (some 0) 0,.slice none 0 (some 0) 0,.slice none 0 (some 0) 0,.slice none 0 (some 0) 0,.slice none 0 (some 0) 0,.slice none 0 (some 0) 0,.slice none 0 (some 0) 0,.slice none 0 (some 0) 0,.slice none 0 (some 0) 0,.slice none 0 (some 0) 0,.slice none 0 (some 0) 0,.slice none 0 (some 0) 0,.slice none 0 (some 0) 0,.slice none 0 (some 0) 0,.slice none 0 (some 0) 0,.slice none 0 (some 0) 0,.slice none 0 (some 0) 0,.slice none 0 (some 0) 0,.slice none 0 (some 0) 0,.slice none 0 (some 0) 0,.slice none 0 (some 0) 0,.slice none 0 (some 0) 0,.slice none 0 (some 0) 0,.slice none 0 (some 0) 0,.slice none 0 (some 0) 0,.slice none 0 (some 0) 0,.slice none 0 (some 0) 0,.slice none 0 (some 0) 0,.slice none 0 (some 0) 0,.slice none 0 (some 0) 0,.slice none 0 (some 0) 0,.slice none 0 (some 0) 0,.slice none 0 (some 0) 0,.slice none 0 (some 0) 0,.slice none 0 (some 0) 0,.slice none 0 (some 0) 0,.slice none 0 (some 0) 0,.slice none 0 (some 0) 0,.slice none 0 (some 0) 0,.slice none 0 (some 0) 0,.slice none 0 (some 0) 0,.slice none 0 (some 0) 0,.slice none 0 (some 0) 0,.slice none 0 (some 0) 0,.slice none 0 (some 0) 0,.slice none 0 (some 0) 0,.slice none 0 (some 0) 0,.slice none 0 (some 0) 0,.slice none 0 (some 0) 0,.slice none 0 (some 0) 0,.slice none 0 (some 0) 0,.slice none 0 (some 0) 0,.slice none 0 (some 0) 0,.slice none 0 (some 0) 0,.slice none 0 (some 0) 0,.slice none 0 (some 0) 0,.slice none 0 (some 0) 0,.slice none 0 (some 0) 0,.slice none 0 (some 0) 0,.slice none 0 (some 0) 0,.slice none 0 (some 0) 0,.slice none 0 (some 0) 0,.slice none 0 (some 0) 0,.slice none 0 (some 0) 0,.slice none 0 (some 0) 0,.slice none 0 (some 0) 0,.slice none 0 (some 0) 0,.slice none 0 (some 0) 0,.slice none 0 (some 0) 0,.slice none 0 (some 0) 0,.slice none 0 (some 0) 0,.slice none 0 (some 0) 0,.slice none 0 (some 0) 0,.slice none 0 (some 0) 0,.slice none 0 (some 0) 0,.slice none 0 (some 0) 0,.slice none 0 (some 0) 0,.slice none 0 (some 0) 0,.slice none 0 (some 0) 0,.slice none 0 (some 0) 0,.slice none 0 (some 0) 0,.slice none 0 (some 0) 0,.slice none 0 (some 0) 0,.slice none 0 (some 0) 0,.slice none 0 (some 0) 0,.slice none 0 (some 0) 0,.slice none 0 (some 0) 0,.slice none 0 (some 0) 0,.slice none 0 (some 0) 0,.slice none 0 (some 0) 0,.slice none 0 (some 0) 0,.slice none 0 (some 0) 0,.slice none 0 (some 0) 0,.slice none 0 (some 0) 0,.slice none 0 (some 0) 0,.slice none 0 (some 0) 0,.slice none 0 (some 0) 0,.slice none 0 (some 0) 0,.slice none 0 (some 0) 0,.slice none 0 (some 0) 0,.slice none 0 (some 0) 0,.slice none 0 (some 0) 0,.slice none 0 (some 0) 0,.slice none 0 (some 0) 0,.slice none 0 (some 0) 0,.slice none 0 (some 0) 0,.slice none 0 (some 0) 0,.slice none 0 (some 0) 0,.slice none 0 (some 0) 0,.slice none 0 (some 0) 0,.slice none 0 (some 0) 0,.slice none 0 (some 0) 0,.slice none 0 (some 0) 0,.slice none 0 (some 0) 0,.slice none 0 (some 0) 0,.slice none 0 (some 0) 0,.slice none 0 (some 0) 0,.slice none 0 (some 0) 0,.slice none 0 (some 0) 0,.slice none 0 (some 0) 0,.slice none 0 (some 0) 0,.slice none 0 (some 0) 0,.slice none 0 (some 0) 0,.slice none 0 (some 0) 0,.slice none 0 (some 0) 0,.slice none 0 (some 0) 0,.slice none 0 (some 0) 0,.slice none 0 (some 0) 0,.slice none 0 (some 0) 0,.slice none 0 (some 0) 0,.slice none 0 (some 0) 0,.slice none 0 (some 0) 0,.slice none 0 (some 0) 0,.slice none 0 (some 0) 0,.slice none 0 (some 0) 0,.slice none 0 (some 0) 0,.slice none 0 (some 0) 0,.slice none 0 (some 0) 0,.slice none 0 (some 0) 0,.slice none 0 (some 0) 0,.slice none 0 (some 0) 0,.slice none 0 (some 0) 0,.slice none 0 (some 0) 0,.slice none 0 (some 0) 0,.slice none 0 (some 0) 0,.slice none 0 (some 0) 0,.slice none 0 (some 0) 0,.slice none 0 (some 0) 0,.slice none 0 (some 0) 0,.slice none 0 (some 0) 0,.slice none 0 (some 0) 0,.slice none 0 (some 0) 0,.slice none 0 (some 0) 0,.slice none 0 (some 0) 0,.slice none 0 (some 0) 0,.slice none 0 (some 0) 0,.slice none 0 (some 0) 0,.slice none 0 (some 0) 0,.slice none 0 (some 0) 0,.slice none 0 (some 0) 0,.slice none 0 (some 0) 0,.slice none 0 (some 0) 0,.slice none 0 (some 0) 0,.slice none 0 (some 0) 0,.slice none 0 (some 0) 0,.slice none 0 (some 0) 0,.slice none 0 (some 0) 0,.slice none 0 (some 0) 0,.slice none 0 (some 0) 0,.slice none 0 (some 0) 0,.slice none 0 (some 0) 0,.slice none 0 (some 0) 0,.slice none 0 (some 0) 0,.slice none 0 (some 0) 0,.slice none 0 (some 0) 0,.slice none 0 (some 0) 0,.slice none 0 (some 0) 0,.slice none 0 (some 0) 0,.slice none 0 (some 0) 0,.slice none 0 (some 0) 0,.slice none 0 (some 0) 0,.slice none 0 (some 0) 0,.slice none 0 (some 0) 0,.slice none 0 (some 0) 0,.slice none 0 (some 0) 0,.slice none 0 (some 0) 0,.slice none 0 (some 0) 0,.slice none 0 (some 0) 0,.slice none 0 (some 0) 0,.slice none 0 (some 0) 0,.slice none 0 (some 0) 0,.slice none 0 (some 0) 0,.slice none 0 (some 0) 0,.slice none 0 (some 0) 0,.slice none 0 (some 0) 0,.slice none 0 (some 0) 0,.slice none 0 (some 0) 0,.slice none 0 (some 0) 0,.slice none 0 (some 0) 0,.slice none 0 (some 0) 0,.slice none 0 (some 0) 0,.slice none 0 (some 0) 0,.slice none 0 (some 0) 0,.slice none 0 (some 0) 0,.slice none 0 (some 0) 0,.slice none 0 (some 0) 0,.slice none 0 (some 0) 0,.slice none 0 (some 0) 0,.slice none 0 (some 0) 0,.slice none 0 (some 0) 0,.slice none 0 (some 0) 0,.slice none 0 (some 0) 0,.slice none 0 (some 0) 0,.slice none 0 (some 0) 0,.slice none 0 (some 0) 0,.slice none 0 (some 0) 0,.slice none 0 (some 0) 0,.slice none 0 (some 0) 0,.slice none 0 (some 0) 0,.slice none 0 (some 0) 0,.slice none 0 (some 0) 0,.slice none 0 (some 0) 0,.slice none 0 (some 0) 0,.slice none 0 (some 0) 0,.slice none 0 (some 0) 0,.slice none 0 (some 0) 0,.slice (some (σ.length,0)) 0 (some ((IntKind.wrap .i64 (Int.tdiv (n3:Int) (2:Int)))).toNat) 1] fun σ7=>
 f137_l10 L n x1 a2 n3 c4 z5 σ6.length 0 (IntKind.wrap .i64 ((n3:Int) - (2:Int))) σ7
theorem f137_j8_g:f137_j8 (goT Tryz.prog Lb 137 n L []) x1 a2 n3 c4 z5 σ = f137_j8_t L n x1 a2 n3 c4 z5 σ:=by kernel_rfl
theorem f137_j8_e:Le (f137_j8_t (pt Tryz.prog Lb 137 n) n x1 a2 n3 c4 z5 σ) (f137_j8 (pt Tryz.prog Lb 137 n) x1 a2 n3 c4 z5 σ):=by
 unfold f137_j8;exact goT_pt f137_j8_g
noncomputable def f137_l10_t (L:Leaf) (_ m0:Nat) (x1:AV) (a2:Ad) (n3:Nat) (c4:On) (z5 b6 o7:Nat) (i8:Int) (σ:St):Out:=
 cond (decide (i8 ≥ (0:Int))) (idxK i8 n3 <|
 derefK a2 fun b9 o10=>
 szK z5 1 <|
 ldK Tryz.prog 9 σ b9 (o10 + ((i8).toNat * 1)) fun x11=>
 xStr x11 fun s12=>
 byteK s12 (0:Int) fun u13=>
 idxK (IntKind.wrap .i64 (i8 + (1:Int))) n3 <|
 derefK a2 fun b14 o15=>
 szK z5 1 <|
 ldK Tryz.prog 9 σ b14 (o15 + (((IntKind.wrap .i64 (i8 + (1:Int)))).toNat * 1)) fun x16=>
 xStr x16 fun s17=>
 idxK (u13.toNat:Int) 256 <|
 ldK Tryz.prog 53 σ b6 ((o7 + 0) + (((u13.toNat:Int)).toNat * 1)) fun x18=>
 xSl x18 fun a19 n20 c21 z22=>
 eqK Tryz.prog 53 (.slice a19 n20 c21 z22) (.slice none 0 (some 0) 0) fun b23=>
 cond b23 (ldK Tryz.prog 68 σ b6 (o7 + 256) fun x24=>
 xSl x24 fun a25 n26 _ z28=>
 bytsK (σ ++ [AObj.cells [.int .u8 (u13.toNat:Int)] (.rw (.row 5))]:St) (some (σ.length,0)) 1 1 fun s29=>
 appK (σ ++ [AObj.cells [.int .u8 (u13.toNat:Int)] (.rw (.row 5))]:St) 9 1 16 a25 n26 z28 1 [.str s29] fun a30 n31 c32 σ33=>
 stK σ33 b6 (o7 + 256) [.slice a30 n31 c32 1] fun σ34=>
 idxK (u13.toNat:Int) 256 <|
 stK (σ34 ++ [AObj.cells (bytesAV s17) (.rw (.row 5))]:St) b6 ((o7 + 0) + (((u13.toNat:Int)).toNat * 1)) [.slice (some (σ34.length,0)) s17.length none 1] fun σ35=>
 f137_l10 L m0 x1 a2 n3 c4 z5 b6 o7 (IntKind.wrap .i64 (i8 - (2:Int))) σ35) (idxK (u13.toNat:Int) 256 <|
 stK (σ ++ [AObj.cells (bytesAV s17) (.rw (.row 5))]:St) b6 ((o7 + 0) + (((u13.toNat:Int)).toNat * 1)) [.slice (some (σ.length,0)) s17.length none 1] fun σ36=>
 f137_l10 L m0 x1 a2 n3 c4 z5 b6 o7 (IntKind.wrap .i64 (i8 - (2:Int))) σ36)) (f137_j12 L x1 b6 o7 σ)
theorem f137_l10_g (L:Leaf) (n:Nat) (m0:Nat) (x1:AV) (a2:Ad) (n3:Nat) (c4:On) (z5 b6 o7:Nat) (i8:Int) (σ:St):goT Tryz.prog Lb 137 n L [[1,1,1,1,1,1,1,1]] [1,1,1,1,1,1,1,0,1,0] [m0 + 1] ⟨tm 132 [(2,.v x1),(3,.v (.slice a2 n3 c4 z5)),(11,.v (.ptr (some (b6,o7)))),(12,.v (.int .i64 i8))] 0,[],[]⟩ σ = f137_l10_t L n m0 x1 a2 n3 c4 z5 b6 o7 i8 σ:=by kernel_rfl
theorem f137_l10_e {n:Nat} {m0:Nat} {x1:AV} {a2:Ad} {n3:Nat} {c4:On} {z5 b6 o7:Nat} {i8:Int} {σ:St}:Le (f137_l10_t (pt Tryz.prog Lb 137 n) n m0 x1 a2 n3 c4 z5 b6 o7 i8 σ) (f137_l10 (pt Tryz.prog Lb 137 n) (m0 + 1) x1 a2 n3 c4 z5 b6 o7 i8 σ):=by
 unfold f137_l10;exact goT_pt (f137_l10_g _ n m0 x1 a2 n3 c4 z5 b6 o7 i8 σ)
noncomputable def f137_j12_t (_:Leaf) (_:Nat) (_:AV) (b2 o3:Nat) (σ:St):Out:=
 some (.ret (.iface 210 (.ptr (some (b2,o3)))),σ)
theorem f137_j12_g:f137_j12 (goT Tryz.prog Lb 137 n L []) x1 b2 o3 σ = f137_j12_t L n x1 b2 o3 σ:=by kernel_rfl
theorem f137_j12_e:Le (f137_j12_t (pt Tryz.prog Lb 137 n) n x1 b2 o3 σ) (f137_j12 (pt Tryz.prog Lb 137 n) x1 b2 o3 σ):=by
 unfold f137_j12;exact goT_pt f137_j12_g
noncomputable def f141_dt (n:Nat) (a1:Ad) (σ:St):Out:=
 derefK a1 fun b2 o3=>
 callTD Tryz.prog Lb n 146 [.ptr (some (b2,(o3 + 0)))] σ fun _ σ4=>
 some (.ret (.tuple []),σ4)
theorem f141_dg (n:Nat) (a1:Ad) (σ:St):goD Tryz.prog Lb 141 n [.ptr a1] σ = f141_dt n a1 σ:=by kernel_rfl
theorem f141_d {n:Nat} {a1:Ad} {σ σ':St} {y:AV} (u:Option AV) (h:f141_dt n a1 σ = some (.ret y,σ')):runD Tryz.prog (callP Tryz.prog Lb n) n 141 [.ptr a1] u σ = some (u,σ'):=
 goD_run ((f141_dg n a1 σ).trans h) (by kernel_rfl) (by kernel_rfl) u
noncomputable def f142_dt (n:Nat) (a1:Ad) (b2:Bool) (σ:St):Out:=
 derefK a1 fun b3 o4=>
 callTD Tryz.prog Lb n 148 [.bool b2] σ fun v6 σ5=>
 xInt .u32 v6 fun i7=>
 callTD Tryz.prog Lb n 147 [.ptr (some (b3,(o4 + 0))),.int .u32 i7] σ5 fun _ σ8=>
 some (.ret (.tuple []),σ8)
theorem f142_dg (n:Nat) (a1:Ad) (b2:Bool) (σ:St):goD Tryz.prog Lb 142 n [.ptr a1,.bool b2] σ = f142_dt n a1 b2 σ:=by kernel_rfl
theorem f142_d {n:Nat} {a1:Ad} {b2:Bool} {σ σ':St} {y:AV} (u:Option AV) (h:f142_dt n a1 b2 σ = some (.ret y,σ')):runD Tryz.prog (callP Tryz.prog Lb n) n 142 [.ptr a1,.bool b2] u σ = some (u,σ'):=
 goD_run ((f142_dg n a1 b2 σ).trans h) (by kernel_rfl) (by kernel_rfl) u
noncomputable def f148_t (_:Leaf) (_:Nat) (b1:Bool) (σ:St):Out:=
 cond b1 (some (.ret (.int .u32 (1:Int)),σ)) (some (.ret (.int .u32 (0:Int)),σ))
theorem f148_g:goT Tryz.prog Lb 148 n L [] [] [] ⟨tm 4 [(0,.v (.bool b1))] 0,[],[]⟩ σ = f148_t L n b1 σ:=by kernel_rfl
theorem f148_e:Le (f148_t (pt Tryz.prog Lb 148 n) n b1 σ) (callP Tryz.prog Lb (n + 1) 148 [.bool b1] σ):=
 goT_call f148_g rfl (by kernel_rfl) (by kernel_rfl)
noncomputable def f198_l1 (L:Leaf) (m0:Nat) (a1:Ad) (s2 s3:By) (i4:Int) (a5:Ad) (n6:Nat) (c7:On) (z8:Nat) (i9 i10:Int) (σ:St):Out:=
 L [1,1,1,0,1,0,1,0] [m0] ⟨tm 122 [(0,.v (.ptr a1)),(1,.v (.str s2)),(4,.v (.str s3)),(5,.v (.int .i64 i4)),(6,.v (.bool false)),(30,.v (.slice a5 n6 c7 z8)),(31,.v (.int .i64 i9)),(32,.v (.int .i64 i10))] 0,[],[]⟩ σ
noncomputable def f198_l2 (L:Leaf) (m0:Nat) (a1:Ad) (s2 s3:By) (i4 i5:Int) (σ:St):Out:=
 L [1,1,1,0,1,1,1,0] [m0] ⟨tm 122 [(0,.v (.ptr a1)),(1,.v (.str s2)),(4,.v (.str s3)),(5,.v (.int .i64 i4)),(6,.v (.bool false)),(10,.v (.int .i64 i5))] 0,[],[]⟩ σ
noncomputable def f198_l3 (L:Leaf) (m0:Nat) (a1:Ad) (s2 s3:By) (i4:Int) (a5:Ad) (n6:Nat) (c7:On) (z8:Nat) (i9 i10:Int) (σ:St):Out:=
 L [1,1,1,0,1,0,1,0] [m0] ⟨tm 122 [(0,.v (.ptr a1)),(1,.v (.str s2)),(4,.v (.str s3)),(5,.v (.int .i64 i4)),(6,.v (.bool true)),(30,.v (.slice a5 n6 c7 z8)),(31,.v (.int .i64 i9)),(32,.v (.int .i64 i10))] 0,[],[]⟩ σ
noncomputable def f198_j4 (L:Leaf) (a1:Ad) (s2 s3:By) (i4:Int) (σ:St):Out:=
 L [1,1,1,1] [] ⟨tm 122 [(0,.v (.ptr a1)),(1,.v (.str s2)),(4,.v (.str s3)),(5,.v (.int .i64 i4)),(6,.v (.bool false))] 0,[],[]⟩ σ
noncomputable def f198_l5 (L:Leaf) (m0:Nat) (a1:Ad) (s2 s3:By) (i4 i5:Int) (σ:St):Out:=
 L [1,1,1,0,1,1,1,0] [m0] ⟨tm 122 [(0,.v (.ptr a1)),(1,.v (.str s2)),(4,.v (.str s3)),(5,.v (.int .i64 i4)),(6,.v (.bool true)),(10,.v (.int .i64 i5))] 0,[],[]⟩ σ
noncomputable def f198_j6 (L:Leaf) (a1:Ad) (s2 s3:By) (i4:Int) (σ:St):Out:=
 L [1,1,1,1] [] ⟨tm 122 [(0,.v (.ptr a1)),(1,.v (.str s2)),(4,.v (.str s3)),(5,.v (.int .i64 i4)),(6,.v (.bool true))] 0,[],[]⟩ σ
noncomputable def f198_l7 (L:Leaf) (m0:Nat) (a1:Ad) (s2 s3:By) (a4:Ad) (n5:Nat) (c6:On) (z7:Nat) (i8 i9:Int) (σ:St):Out:=
 L [1,1,1,1,1,1,1,0,1,0] [m0] ⟨tm 122 [(0,.v (.ptr a1)),(1,.v (.str s2)),(4,.v (.str s3)),(12,.v (.slice a4 n5 c6 z7)),(13,.v (.int .i64 i8)),(14,.v (.int .i64 i9))] 0,[],[]⟩ σ
noncomputable def f198_j8 (L:Leaf) (s1:By) (a2:Ad) (n3:Nat) (c4:On) (z5:Nat) (σ:St):Out:=
 L [1,1,1,1,1,1,1,1] [] ⟨tm 122 [(4,.v (.str s1)),(12,.v (.slice a2 n3 c4 z5))] 0,[],[]⟩ σ
noncomputable def f198_t (L:Leaf) (n:Nat) (a1:Ad) (s2:By) (σ:St):Out:=
 derefK a1 fun b3 o4=>
 ldK Tryz.prog 68 σ b3 (o4 + 256) fun x5=>
 xSl x5 fun _ n7 _ _=>
 cond (decide ((IntKind.wrap .i64 ((n7:Int) * (8:Int))) ≤ (s2.length:Int))) (derefK a1 fun b10 o11=>
 ldK Tryz.prog 68 σ b10 (o11 + 256) fun x12=>
 xSl x12 fun a13 n14 c15 z16=>
 f198_l1 L n a1 s2 [] (s2.length:Int) a13 n14 c15 z16 (n14:Int) (0:Int) σ) (f198_l2 L n a1 s2 [] (s2.length:Int) (0:Int) σ)
theorem f198_g:goT Tryz.prog Lb 198 n L [] [] [] ⟨tm 122 [(0,.v (.ptr a1)),(1,.v (.str s2))] 0,[],[]⟩ σ = f198_t L n a1 s2 σ:=by kernel_rfl
theorem f198_e:Le (f198_t (pt Tryz.prog Lb 198 n) n a1 s2 σ) (callP Tryz.prog Lb (n + 1) 198 [.ptr a1,.str s2] σ):=
 goT_call f198_g rfl (by kernel_rfl) (by kernel_rfl)
noncomputable def f198_l1_t (L:Leaf) (n m0:Nat) (a1:Ad) (s2 s3:By) (i4:Int) (a5:Ad) (n6:Nat) (c7:On) (z8:Nat) (i9 i10:Int) (σ:St):Out:=
 cond (decide (i10 < i9)) (idxK i10 n6 <|
 derefK a5 fun b11 o12=>
 szK z8 1 <|
 ldK Tryz.prog 9 σ b11 (o12 + ((i10).toNat * 1)) fun x13=>
 xStr x13 fun s14=>
 callT Tryz.prog Lb n 200 [.str s2,.str s14] σ fun v16 σ15=>
 xInt .i64 v16 fun i17=>
 cond (i17 != (0:Int)) (byteK s14 (0:Int) fun u18=>
 derefK a1 fun b19 o20=>
 idxK (u18.toNat:Int) 256 <|
 ldK Tryz.prog 53 σ15 b19 ((o20 + 0) + (((u18.toNat:Int)).toNat * 1)) fun x21=>
 xSl x21 fun _ n23 _ _=>
 f198_l3 L m0 a1 s2 s3 (IntKind.wrap .i64 (i4 + (IntKind.wrap .i64 (i17 * (IntKind.wrap .i64 ((n23:Int) - (1:Int))))))) a5 n6 c7 z8 i9 (IntKind.wrap .i64 (i10 + (1:Int))) σ15) (f198_l1 L m0 a1 s2 s3 i4 a5 n6 c7 z8 i9 (IntKind.wrap .i64 (i10 + (1:Int))) σ15)) (f198_j4 L a1 s2 s3 i4 σ)
theorem f198_l1_g:f198_l1 (goT Tryz.prog Lb 198 n L [[1,1,1,1]]) (m0 + 1) a1 s2 s3 i4 a5 n6 c7 z8 i9 i10 σ = f198_l1_t L n m0 a1 s2 s3 i4 a5 n6 c7 z8 i9 i10 σ:=by kernel_rfl
theorem f198_l1_e:Le (f198_l1_t (pt Tryz.prog Lb 198 n) n m0 a1 s2 s3 i4 a5 n6 c7 z8 i9 i10 σ) (f198_l1 (pt Tryz.prog Lb 198 n) (m0 + 1) a1 s2 s3 i4 a5 n6 c7 z8 i9 i10 σ):=by
 unfold f198_l1;exact goT_pt f198_l1_g
noncomputable def f198_l2_t (L:Leaf) (_ m0:Nat) (a1:Ad) (s2 s3:By) (i4 i5:Int) (σ:St):Out:=
 cond (decide (i5 < (s2.length:Int))) (byteK s2 i5 fun u6=>
 derefK a1 fun b7 o8=>
 idxK (u6.toNat:Int) 256 <|
 ldK Tryz.prog 53 σ b7 ((o8 + 0) + (((u6.toNat:Int)).toNat * 1)) fun x9=>
 xSl x9 fun a10 n11 c12 z13=>
 eqK Tryz.prog 53 (.slice a10 n11 c12 z13) (.slice none 0 (some 0) 0) fun b14=>
 cond (!b14) (derefK a1 fun b15 o16=>
 idxK (u6.toNat:Int) 256 <|
 ldK Tryz.prog 53 σ b15 ((o16 + 0) + (((u6.toNat:Int)).toNat * 1)) fun x17=>
 xSl x17 fun _ n19 _ _=>
 f198_l5 L m0 a1 s2 s3 (IntKind.wrap .i64 (i4 + (IntKind.wrap .i64 ((n19:Int) - (1:Int))))) (IntKind.wrap .i64 (i5 + (1:Int))) σ) (f198_l2 L m0 a1 s2 s3 i4 (IntKind.wrap .i64 (i5 + (1:Int))) σ)) (f198_j4 L a1 s2 s3 i4 σ)
theorem f198_l2_g:f198_l2 (goT Tryz.prog Lb 198 n L [[1,1,1,1]]) (m0 + 1) a1 s2 s3 i4 i5 σ = f198_l2_t L n m0 a1 s2 s3 i4 i5 σ:=by kernel_rfl
theorem f198_l2_e:Le (f198_l2_t (pt Tryz.prog Lb 198 n) n m0 a1 s2 s3 i4 i5 σ) (f198_l2 (pt Tryz.prog Lb 198 n) (m0 + 1) a1 s2 s3 i4 i5 σ):=by
 unfold f198_l2;exact goT_pt f198_l2_g
noncomputable def f198_l3_t (L:Leaf) (n m0:Nat) (a1:Ad) (s2 s3:By) (i4:Int) (a5:Ad) (n6:Nat) (c7:On) (z8:Nat) (i9 i10:Int) (σ:St):Out:=
 cond (decide (i10 < i9)) (idxK i10 n6 <|
 derefK a5 fun b11 o12=>
 szK z8 1 <|
 ldK Tryz.prog 9 σ b11 (o12 + ((i10).toNat * 1)) fun x13=>
 xStr x13 fun s14=>
 callT Tryz.prog Lb n 200 [.str s2,.str s14] σ fun v16 σ15=>
 xInt .i64 v16 fun i17=>
 cond (i17 != (0:Int)) (byteK s14 (0:Int) fun u18=>
 derefK a1 fun b19 o20=>
 idxK (u18.toNat:Int) 256 <|
 ldK Tryz.prog 53 σ15 b19 ((o20 + 0) + (((u18.toNat:Int)).toNat * 1)) fun x21=>
 xSl x21 fun _ n23 _ _=>
 f198_l3 L m0 a1 s2 s3 (IntKind.wrap .i64 (i4 + (IntKind.wrap .i64 (i17 * (IntKind.wrap .i64 ((n23:Int) - (1:Int))))))) a5 n6 c7 z8 i9 (IntKind.wrap .i64 (i10 + (1:Int))) σ15) (f198_l3 L m0 a1 s2 s3 i4 a5 n6 c7 z8 i9 (IntKind.wrap .i64 (i10 + (1:Int))) σ15)) (f198_j6 L a1 s2 s3 i4 σ)
theorem f198_l3_g:f198_l3 (goT Tryz.prog Lb 198 n L [[1,1,1,1]]) (m0 + 1) a1 s2 s3 i4 a5 n6 c7 z8 i9 i10 σ = f198_l3_t L n m0 a1 s2 s3 i4 a5 n6 c7 z8 i9 i10 σ:=by kernel_rfl
theorem f198_l3_e:Le (f198_l3_t (pt Tryz.prog Lb 198 n) n m0 a1 s2 s3 i4 a5 n6 c7 z8 i9 i10 σ) (f198_l3 (pt Tryz.prog Lb 198 n) (m0 + 1) a1 s2 s3 i4 a5 n6 c7 z8 i9 i10 σ):=by
 unfold f198_l3;exact goT_pt f198_l3_g
noncomputable def f198_j4_t (_:Leaf) (_:Nat) (_:Ad) (s2 _:By) (_:Int) (σ:St):Out:=
 some (.ret (.str s2),σ)
theorem f198_j4_g:f198_j4 (goT Tryz.prog Lb 198 n L []) a1 s2 s3 i4 σ = f198_j4_t L n a1 s2 s3 i4 σ:=by kernel_rfl
theorem f198_j4_e:Le (f198_j4_t (pt Tryz.prog Lb 198 n) n a1 s2 s3 i4 σ) (f198_j4 (pt Tryz.prog Lb 198 n) a1 s2 s3 i4 σ):=by
 unfold f198_j4;exact goT_pt f198_j4_g
noncomputable def f198_l5_t (L:Leaf) (_ m0:Nat) (a1:Ad) (s2 s3:By) (i4 i5:Int) (σ:St):Out:=
 cond (decide (i5 < (s2.length:Int))) (byteK s2 i5 fun u6=>
 derefK a1 fun b7 o8=>
 idxK (u6.toNat:Int) 256 <|
 ldK Tryz.prog 53 σ b7 ((o8 + 0) + (((u6.toNat:Int)).toNat * 1)) fun x9=>
 xSl x9 fun a10 n11 c12 z13=>
 eqK Tryz.prog 53 (.slice a10 n11 c12 z13) (.slice none 0 (some 0) 0) fun b14=>
 cond (!b14) (derefK a1 fun b15 o16=>
 idxK (u6.toNat:Int) 256 <|
 ldK Tryz.prog 53 σ b15 ((o16 + 0) + (((u6.toNat:Int)).toNat * 1)) fun x17=>
 xSl x17 fun _ n19 _ _=>
 f198_l5 L m0 a1 s2 s3 (IntKind.wrap .i64 (i4 + (IntKind.wrap .i64 ((n19:Int) - (1:Int))))) (IntKind.wrap .i64 (i5 + (1:Int))) σ) (f198_l5 L m0 a1 s2 s3 i4 (IntKind.wrap .i64 (i5 + (1:Int))) σ)) (f198_j6 L a1 s2 s3 i4 σ)
theorem f198_l5_g:f198_l5 (goT Tryz.prog Lb 198 n L [[1,1,1,1]]) (m0 + 1) a1 s2 s3 i4 i5 σ = f198_l5_t L n m0 a1 s2 s3 i4 i5 σ:=by kernel_rfl
theorem f198_l5_e:Le (f198_l5_t (pt Tryz.prog Lb 198 n) n m0 a1 s2 s3 i4 i5 σ) (f198_l5 (pt Tryz.prog Lb 198 n) (m0 + 1) a1 s2 s3 i4 i5 σ):=by
 unfold f198_l5;exact goT_pt f198_l5_g
noncomputable def f198_j6_t (L:Leaf) (n:Nat) (a1:Ad) (s2 s3:By) (i4:Int) (σ:St):Out:=
 makeK Tryz.prog 5 1 i4 i4 σ fun σ5=>
 f198_l7 L n a1 s2 s3 (some (σ.length,0)) ((i4).toNat) (some (i4).toNat) 1 (0:Int) (0:Int) σ5
theorem f198_j6_g:f198_j6 (goT Tryz.prog Lb 198 n L []) a1 s2 s3 i4 σ = f198_j6_t L n a1 s2 s3 i4 σ:=by kernel_rfl
theorem f198_j6_e:Le (f198_j6_t (pt Tryz.prog Lb 198 n) n a1 s2 s3 i4 σ) (f198_j6 (pt Tryz.prog Lb 198 n) a1 s2 s3 i4 σ):=by
 unfold f198_j6;exact goT_pt f198_j6_g
noncomputable def f198_l7_t (L:Leaf) (_ m0:Nat) (a1:Ad) (s2 s3:By) (a4:Ad) (n5:Nat) (c6:On) (z7:Nat) (i8 i9:Int) (σ:St):Out:=
 cond (decide (i9 < (s2.length:Int))) (byteK s2 i9 fun u10=>
 derefK a1 fun b11 o12=>
 idxK (u10.toNat:Int) 256 <|
 ldK Tryz.prog 53 σ b11 ((o12 + 0) + (((u10.toNat:Int)).toNat * 1)) fun x13=>
 xSl x13 fun a14 n15 c16 z17=>
 eqK Tryz.prog 53 (.slice a14 n15 c16 z17) (.slice none 0 (some 0) 0) fun b18=>
 cond (!b18) (resliceK a4 n5 c6 z7 1 i8 (n5:Int) fun a19 n20 _=>
 derefK a1 fun b22 o23=>
 idxK (u10.toNat:Int) 256 <|
 ldK Tryz.prog 53 σ b22 ((o23 + 0) + (((u10.toNat:Int)).toNat * 1)) fun x24=>
 xSl x24 fun a25 n26 _ z28=>
 spanK σ a25 n26 z28 1 fun n29 cs30=>
 cpyK σ 1 a19 n20 z7 n29 cs30 fun i31 σ32=>
 f198_l7 L m0 a1 s2 s3 a4 n5 c6 z7 (IntKind.wrap .i64 (i8 + i31)) (IntKind.wrap .i64 (i9 + (1:Int))) σ32) (idxK i8 n5 <|
 derefK a4 fun b33 o34=>
 szK z7 1 <|
 stK σ b33 (o34 + ((i8).toNat * 1)) [.int .u8 (u10.toNat:Int)] fun σ35=>
 f198_l7 L m0 a1 s2 s3 a4 n5 c6 z7 (IntKind.wrap .i64 (i8 + (1:Int))) (IntKind.wrap .i64 (i9 + (1:Int))) σ35)) (f198_j8 L s3 a4 n5 c6 z7 σ)
theorem f198_l7_g:f198_l7 (goT Tryz.prog Lb 198 n L [[1,1,1,1,1,1,1,1]]) (m0 + 1) a1 s2 s3 a4 n5 c6 z7 i8 i9 σ = f198_l7_t L n m0 a1 s2 s3 a4 n5 c6 z7 i8 i9 σ:=by kernel_rfl
theorem f198_l7_e:Le (f198_l7_t (pt Tryz.prog Lb 198 n) n m0 a1 s2 s3 a4 n5 c6 z7 i8 i9 σ) (f198_l7 (pt Tryz.prog Lb 198 n) (m0 + 1) a1 s2 s3 a4 n5 c6 z7 i8 i9 σ):=by
 unfold f198_l7;exact goT_pt f198_l7_g
noncomputable def f198_j8_t (_:Leaf) (_:Nat) (_:By) (a2:Ad) (n3:Nat) (_:On) (z5:Nat) (σ:St):Out:=
 bytsK σ a2 n3 z5 fun s6=>
 some (.ret (.str s6),σ)
theorem f198_j8_g:f198_j8 (goT Tryz.prog Lb 198 n L []) s1 a2 n3 c4 z5 σ = f198_j8_t L n s1 a2 n3 c4 z5 σ:=by kernel_rfl
theorem f198_j8_e:Le (f198_j8_t (pt Tryz.prog Lb 198 n) n s1 a2 n3 c4 z5 σ) (f198_j8 (pt Tryz.prog Lb 198 n) s1 a2 n3 c4 z5 σ):=by
 unfold f198_j8;exact goT_pt f198_j8_g
noncomputable def f200_l1 (L:Leaf) (m0:Nat) (s1 s2:By) (i3 i4:Int) (σ:St):Out:=
 L [1,1,1,1,0] [m0] ⟨tm 34 [(0,.v (.str s1)),(1,.v (.str s2)),(4,.v (.int .i64 i3)),(5,.v (.int .i64 i4))] 0,[],[]⟩ σ
noncomputable def f200_t (L:Leaf) (n:Nat) (s1 s2:By) (σ:St):Out:=
 cond ((s2.length:Int) == (0:Int)) (callT Tryz.prog Lb n 201 [.str s1] σ fun v4 σ3=>
 xInt .i64 v4 fun i5=>
 some (.ret (.int .i64 (IntKind.wrap .i64 (i5 + (1:Int)))),σ3)) (cond ((s2.length:Int) == (1:Int)) (byteK s2 (0:Int) fun u6=>
 callT Tryz.prog Lb n 202 [.str s1,.int .u8 (u6.toNat:Int)] σ fun v8 σ7=>
 xInt .i64 v8 fun i9=>
 some (.ret (.int .i64 i9),σ7)) (f200_l1 L n s1 s2 (0:Int) (0:Int) σ))
theorem f200_g:goT Tryz.prog Lb 200 n L [] [] [] ⟨tm 34 [(0,.v (.str s1)),(1,.v (.str s2))] 0,[],[]⟩ σ = f200_t L n s1 s2 σ:=by kernel_rfl
theorem f200_e:Le (f200_t (pt Tryz.prog Lb 200 n) n s1 s2 σ) (callP Tryz.prog Lb (n + 1) 200 [.str s1,.str s2] σ):=
 goT_call f200_g rfl (by kernel_rfl) (by kernel_rfl)
end Go.Proofs

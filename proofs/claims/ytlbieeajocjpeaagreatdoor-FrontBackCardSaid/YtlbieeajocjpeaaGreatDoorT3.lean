/- The functions, as trees of named steps. -/
import Derived.Test.YtlbieeajocjpeaaGreatDoorAmT
import Derived.Test.YtlbieeajocjpeaaGreatDoorBuilder
import Derived.Test.YtlbieeajocjpeaaGreatDoorChecked
namespace Go.Proofs
open Go.AM
set_option maxHeartbeats 4000000
variable {L:Leaf} {n m0 b1 o2 b3 o4 b5 o6 b7 o8 n10 z12 b13 o14 b15 o16 b17 o18 n4 z6 n3 z5 n7 z9:Nat} {s1 s4 s5 s6 s7 s8:By} {σ:St} {a9 a1 a4 a5 a11 a10 a3 a2 a6:Ad} {c11 c5 c4 c8:On} {i2 i3 i4 i5 i8 i9 i1 i7:Int} {b4 b10:Bool}
set_option maxRecDepth 100000
noncomputable def f7_l1 (L:Leaf) (m0:Nat) (b1 o2 b3 o4 b5 o6 b7 o8:Nat) (a9:Ad) (n10:Nat) (c11:On) (z12 b13 o14 b15 o16 b17 o18:Nat) (σ:St):Out:=
 L [1,1,1,1,1,1,0,0] [m0] ⟨tm 38 [(2,.v (.ptr (some (b1,o2)))),(3,.v (.ptr (some (b3,o4)))),(4,.v (.ptr (some (b5,o6)))),(5,.v (.ptr (some (b7,o8)))),(6,.v (.slice a9 n10 c11 z12))] 0,[],[(11,[.ptr (some (b13,o14)),.ptr (some (b15,o16)),.ptr (some (b17,o18))])]⟩ σ
noncomputable def f7_j2 (L:Leaf) (b1 o2 b3 o4 b5 o6 b7 o8:Nat) (a9:Ad) (n10:Nat) (c11:On) (z12 b13 o14 b15 o16 b17 o18:Nat) (σ:St):Out:=
 L [1,1,1,1,1,1,1] [] ⟨tm 38 [(2,.v (.ptr (some (b1,o2)))),(3,.v (.ptr (some (b3,o4)))),(4,.v (.ptr (some (b5,o6)))),(5,.v (.ptr (some (b7,o8)))),(6,.v (.slice a9 n10 c11 z12))] 0,[],[(11,[.ptr (some (b13,o14)),.ptr (some (b15,o16)),.ptr (some (b17,o18))])]⟩ σ
noncomputable def f7_t (L:Leaf) (n:Nat) (s1:By) (σ:St):Out:=
 cond (decide ((s1.length:Int) > (8192:Int))) (stK (((σ ++ [AObj.cells [.slice none 0 (some 0) 0] (.rw (.box 24))]:St) ++ [AObj.cells [.int .i64 (0:Int)] (.rw (.box 25))]:St) ++ [AObj.cells [.int .i64 (0:Int)] (.rw (.box 3))]:St) σ.length 0 [.slice none 0 (some 0) 0] fun σ2=>
 stK σ2 (σ ++ [AObj.cells [.slice none 0 (some 0) 0] (.rw (.box 24))]:St).length 0 [.int .i64 (15:Int)] fun σ3=>
 stK σ3 ((σ ++ [AObj.cells [.slice none 0 (some 0) 0] (.rw (.box 24))]:St) ++ [AObj.cells [.int .i64 (0:Int)] (.rw (.box 25))]:St).length 0 [.int .i64 (0:Int)] fun σ4=>
 ldK Tryz.prog 24 σ4 σ.length 0 fun x5=>
 ldK Tryz.prog 25 σ4 (σ ++ [AObj.cells [.slice none 0 (some 0) 0] (.rw (.box 24))]:St).length 0 fun x6=>
 ldK Tryz.prog 3 σ4 ((σ ++ [AObj.cells [.slice none 0 (some 0) 0] (.rw (.box 24))]:St) ++ [AObj.cells [.int .i64 (0:Int)] (.rw (.box 25))]:St).length 0 fun x7=>
 some (.ret (.tuple [x5,x6,x7]),σ4)) (callE Tryz.prog Lb n 12 [.ptr (some ((((σ ++ [AObj.cells [.slice none 0 (some 0) 0] (.rw (.box 24))]:St) ++ [AObj.cells [.int .i64 (0:Int)] (.rw (.box 25))]:St) ++ [AObj.cells [.int .i64 (0:Int)] (.rw (.box 3))]:St).length,0))] ((((σ ++ [AObj.cells [.slice none 0 (some 0) 0] (.rw (.box 24))]:St) ++ [AObj.cells [.int .i64 (0:Int)] (.rw (.box 25))]:St) ++ [AObj.cells [.int .i64 (0:Int)] (.rw (.box 3))]:St) ++ [AObj.cells [.str s1,.int .i64 (0:Int),.int .i64 (0:Int),.int .i64 (0:Int),.str [],.int .i64 (0:Int),.slice none 0 (some 0) 0,.int .i64 (0:Int)] (.rw (.box 46))]:St) (fun v9 σ8=>
 xAgg v9 fun cs18=>
 unC cs18 fun x19 r20=>
 xInt .i64 x19 fun i21=>
 unC r20 fun x22 r23=>
 xInt .i64 x22 fun i24=>
 unC r23 fun x25 r26=>
 xStr x25 fun s27=>
 unC r26 fun x28 r29=>
 xInt .i64 x28 fun i30=>
 nlC r29 <|
 stK σ8 (((σ ++ [AObj.cells [.slice none 0 (some 0) 0] (.rw (.box 24))]:St) ++ [AObj.cells [.int .i64 (0:Int)] (.rw (.box 25))]:St) ++ [AObj.cells [.int .i64 (0:Int)] (.rw (.box 3))]:St).length 2 [.int .i64 i21,.int .i64 i24,.str s27,.int .i64 i30] fun σ31=>
 f7_l1 L n σ.length 0 ((σ ++ [AObj.cells [.slice none 0 (some 0) 0] (.rw (.box 24))]:St).length) 0 (((σ ++ [AObj.cells [.slice none 0 (some 0) 0] (.rw (.box 24))]:St) ++ [AObj.cells [.int .i64 (0:Int)] (.rw (.box 25))]:St).length) 0 ((((σ ++ [AObj.cells [.slice none 0 (some 0) 0] (.rw (.box 24))]:St) ++ [AObj.cells [.int .i64 (0:Int)] (.rw (.box 25))]:St) ++ [AObj.cells [.int .i64 (0:Int)] (.rw (.box 3))]:St).length) 0 none 0 (some 0) 0 σ.length 0 ((σ ++ [AObj.cells [.slice none 0 (some 0) 0] (.rw (.box 24))]:St).length) 0 (((σ ++ [AObj.cells [.slice none 0 (some 0) 0] (.rw (.box 24))]:St) ++ [AObj.cells [.int .i64 (0:Int)] (.rw (.box 25))]:St).length) 0 σ31) (fun v10 σ11=>
 dfT Tryz.prog Lb n 11 [.ptr (some (σ.length,0)),.ptr (some ((σ ++ [AObj.cells [.slice none 0 (some 0) 0] (.rw (.box 24))]:St).length,0)),.ptr (some (((σ ++ [AObj.cells [.slice none 0 (some 0) 0] (.rw (.box 24))]:St) ++ [AObj.cells [.int .i64 (0:Int)] (.rw (.box 25))]:St).length,0))] (some v10) σ11 fun u12 σ13=>
 lvK u12 (fun v14=>some (.pan v14,σ13)) (ldK Tryz.prog 24 σ13 σ.length 0 fun x15=>
 ldK Tryz.prog 25 σ13 (σ ++ [AObj.cells [.slice none 0 (some 0) 0] (.rw (.box 24))]:St).length 0 fun x16=>
 ldK Tryz.prog 3 σ13 ((σ ++ [AObj.cells [.slice none 0 (some 0) 0] (.rw (.box 24))]:St) ++ [AObj.cells [.int .i64 (0:Int)] (.rw (.box 25))]:St).length 0 fun x17=>
 some (.ret (.tuple [x15,x16,x17]),σ13))))
theorem f7_g:goT Tryz.prog Lb 7 n L [] [] [] ⟨tm 38 [(0,.v (.str s1))] 0,[],[]⟩ σ = f7_t L n s1 σ:=by kernel_rfl
theorem f7_e:Le (f7_t (pt Tryz.prog Lb 7 n) n s1 σ) (callP Tryz.prog Lb (n + 1) 7 [.str s1] σ):=
 goT_call f7_g rfl (by kernel_rfl) (by kernel_rfl)
noncomputable def f7_l1_t (L:Leaf) (n m0 b1 o2 b3 o4 b5 o6 b7 o8:Nat) (a9:Ad) (n10:Nat) (c11:On) (z12 b13 o14 b15 o16 b17 o18:Nat) (σ:St):Out:=
 ldK Tryz.prog 3 σ b7 ((o8 + 2) + 0) fun x19=>
 xInt .i64 x19 fun i20=>
 cond (i20 != (0:Int)) (callE Tryz.prog Lb n 13 [.ptr (some (b7,o8))] σ (fun v22 σ21=>
 xInt .i64 v22 fun i31=>
 appK σ21 3 1 8 a9 n10 z12 1 [.int .i64 i31] fun a32 n33 c34 σ35=>
 f7_l1 L m0 b1 o2 b3 o4 b5 o6 b7 o8 a32 n33 c34 1 b13 o14 b15 o16 b17 o18 σ35) (fun v23 σ24=>
 dfT Tryz.prog Lb n 11 [.ptr (some (b13,o14)),.ptr (some (b15,o16)),.ptr (some (b17,o18))] (some v23) σ24 fun u25 σ26=>
 lvK u25 (fun v27=>some (.pan v27,σ26)) (ldK Tryz.prog 24 σ26 b1 o2 fun x28=>
 ldK Tryz.prog 25 σ26 b3 o4 fun x29=>
 ldK Tryz.prog 3 σ26 b5 o6 fun x30=>
 some (.ret (.tuple [x28,x29,x30]),σ26)))) (f7_j2 L b1 o2 b3 o4 b5 o6 b7 o8 a9 n10 c11 z12 b13 o14 b15 o16 b17 o18 σ)
theorem f7_l1_g:f7_l1 (goT Tryz.prog Lb 7 n L [[1,1,1,1,1,1,1]]) (m0 + 1) b1 o2 b3 o4 b5 o6 b7 o8 a9 n10 c11 z12 b13 o14 b15 o16 b17 o18 σ = f7_l1_t L n m0 b1 o2 b3 o4 b5 o6 b7 o8 a9 n10 c11 z12 b13 o14 b15 o16 b17 o18 σ:=by kernel_rfl
theorem f7_l1_e:Le (f7_l1_t (pt Tryz.prog Lb 7 n) n m0 b1 o2 b3 o4 b5 o6 b7 o8 a9 n10 c11 z12 b13 o14 b15 o16 b17 o18 σ) (f7_l1 (pt Tryz.prog Lb 7 n) (m0 + 1) b1 o2 b3 o4 b5 o6 b7 o8 a9 n10 c11 z12 b13 o14 b15 o16 b17 o18 σ):=by
 unfold f7_l1;exact goT_pt f7_l1_g
noncomputable def f7_j2_t (_:Leaf) (n b1 o2 b3 o4 b5 o6 b7 o8:Nat) (a9:Ad) (n10:Nat) (c11:On) (z12 b13 o14 b15 o16 b17 o18:Nat) (σ:St):Out:=
 callE Tryz.prog Lb n 14 [.ptr (some (b7,o8)),.agg [.int .i64 (23:Int),.int .i64 (0:Int),.str [],.int .i64 (0:Int),.int .i64 (0:Int),.slice a9 n10 c11 z12]] σ (fun v20 σ19=>
 xInt .i64 v20 fun _=>
 ldK Tryz.prog 24 σ19 b7 (o8 + 6) fun x30=>
 xSl x30 fun a31 n32 c33 z34=>
 stK σ19 b1 o2 [.slice a31 n32 c33 z34] fun σ35=>
 stK σ35 b3 o4 [.int .i64 (0:Int)] fun σ36=>
 stK σ36 b5 o6 [.int .i64 (0:Int)] fun σ37=>
 dfT Tryz.prog Lb n 11 [.ptr (some (b13,o14)),.ptr (some (b15,o16)),.ptr (some (b17,o18))] none σ37 fun u38 σ39=>
 lvK u38 (fun v40=>some (.pan v40,σ39)) (ldK Tryz.prog 24 σ39 b1 o2 fun x41=>
 ldK Tryz.prog 25 σ39 b3 o4 fun x42=>
 ldK Tryz.prog 3 σ39 b5 o6 fun x43=>
 some (.ret (.tuple [x41,x42,x43]),σ39))) (fun v21 σ22=>
 dfT Tryz.prog Lb n 11 [.ptr (some (b13,o14)),.ptr (some (b15,o16)),.ptr (some (b17,o18))] (some v21) σ22 fun u23 σ24=>
 lvK u23 (fun v25=>some (.pan v25,σ24)) (ldK Tryz.prog 24 σ24 b1 o2 fun x26=>
 ldK Tryz.prog 25 σ24 b3 o4 fun x27=>
 ldK Tryz.prog 3 σ24 b5 o6 fun x28=>
 some (.ret (.tuple [x26,x27,x28]),σ24)))
theorem f7_j2_g:f7_j2 (goT Tryz.prog Lb 7 n L []) b1 o2 b3 o4 b5 o6 b7 o8 a9 n10 c11 z12 b13 o14 b15 o16 b17 o18 σ = f7_j2_t L n b1 o2 b3 o4 b5 o6 b7 o8 a9 n10 c11 z12 b13 o14 b15 o16 b17 o18 σ:=by kernel_rfl
theorem f7_j2_e:Le (f7_j2_t (pt Tryz.prog Lb 7 n) n b1 o2 b3 o4 b5 o6 b7 o8 a9 n10 c11 z12 b13 o14 b15 o16 b17 o18 σ) (f7_j2 (pt Tryz.prog Lb 7 n) b1 o2 b3 o4 b5 o6 b7 o8 a9 n10 c11 z12 b13 o14 b15 o16 b17 o18 σ):=by
 unfold f7_j2;exact goT_pt f7_j2_g
noncomputable def f77_j1 (L:Leaf) (a1:Ad) (i2 i3:Int) (a4:Ad) (σ:St):Out:=
 L [1,1,1,1,0,0,1,1,1,1,1,1,1,1,1,1,1,1,1] [] ⟨tm 113 [(0,.v (.ptr a1)),(2,.v (.int .i64 i2)),(3,.v (.int .i64 i3)),(90,.v (.bool true))] 0,[],[(104,[.ptr a4])]⟩ σ
noncomputable def f77_j2 (L:Leaf) (a1:Ad) (i2 i3:Int) (b4:Bool) (a5:Ad) (σ:St):Out:=
 L [1,1,1,1,0,0,1,1,1,1,1,1,1,1,1,1,1,1,1] [] ⟨tm 113 [(0,.v (.ptr a1)),(2,.v (.int .i64 i2)),(3,.v (.int .i64 i3)),(90,.v (.bool b4))] 0,[],[(104,[.ptr a5])]⟩ σ
noncomputable def f77_t (L:Leaf) (n:Nat) (a1:Ad) (σ:St):Out:=
 callT Tryz.prog Lb n 103 [.ptr a1] σ fun _ σ2=>
 derefK a1 fun b4 o5=>
 ldK Tryz.prog 3 σ2 b4 ((o5 + 2) + 1) fun x6=>
 xInt .i64 x6 fun i7=>
 callE Tryz.prog Lb n 35 [.ptr a1,.str [123]] σ2 (fun v9 σ8=>
 xBool v9 fun b15=>
 cond b15 (callE Tryz.prog Lb n 60 [.ptr a1] σ8 (fun v17 σ16=>
 xInt .i64 v17 fun i23=>
 dfT Tryz.prog Lb n 104 [.ptr a1] none σ16 fun u24 σ25=>
 lvK u24 (fun v26=>some (.pan v26,σ25)) (some (.ret (.int .i64 i23),σ25))) (fun v18 σ19=>
 dfT Tryz.prog Lb n 104 [.ptr a1] (some v18) σ19 fun u20 σ21=>
 lvK u20 (fun v22=>some (.pan v22,σ21)) (some (.ret (.int .i64 (0:Int)),σ21)))) (callE Tryz.prog Lb n 32 [.ptr a1,.str [105,102]] σ8 (fun v28 σ27=>
 xBool v28 fun b34=>
 cond b34 (callE Tryz.prog Lb n 105 [.ptr a1] σ27 (fun v36 σ35=>
 xInt .i64 v36 fun i42=>
 callE Tryz.prog Lb n 77 [.ptr a1] (σ35 ++ [AObj.cells [.int .i64 i42] (.rw (.row 3))]:St) (fun v44 σ43=>
 xInt .i64 v44 fun i50=>
 appK σ43 3 1 8 (some (σ35.length,0)) 1 1 1 [.int .i64 i50] fun a51 n52 c53 σ54=>
 callE Tryz.prog Lb n 32 [.ptr a1,.str [101,108,115,101]] σ54 (fun v56 σ55=>
 xBool v56 fun b62=>
 cond b62 (callE Tryz.prog Lb n 77 [.ptr a1] σ55 (fun v64 σ63=>
 xInt .i64 v64 fun i70=>
 appK σ63 3 1 8 a51 n52 1 1 [.int .i64 i70] fun a71 n72 c73 σ74=>
 callE Tryz.prog Lb n 14 [.ptr a1,.agg [.int .i64 (12:Int),.int .i64 i7,.str [],.int .i64 (0:Int),.int .i64 (0:Int),.slice a71 n72 c73 1]] σ74 (fun v76 σ75=>
 xInt .i64 v76 fun i82=>
 dfT Tryz.prog Lb n 104 [.ptr a1] none σ75 fun u83 σ84=>
 lvK u83 (fun v85=>some (.pan v85,σ84)) (some (.ret (.int .i64 i82),σ84))) (fun v77 σ78=>
 dfT Tryz.prog Lb n 104 [.ptr a1] (some v77) σ78 fun u79 σ80=>
 lvK u79 (fun v81=>some (.pan v81,σ80)) (some (.ret (.int .i64 (0:Int)),σ80)))) (fun v65 σ66=>
 dfT Tryz.prog Lb n 104 [.ptr a1] (some v65) σ66 fun u67 σ68=>
 lvK u67 (fun v69=>some (.pan v69,σ68)) (some (.ret (.int .i64 (0:Int)),σ68)))) (callE Tryz.prog Lb n 14 [.ptr a1,.agg [.int .i64 (12:Int),.int .i64 i7,.str [],.int .i64 (0:Int),.int .i64 (0:Int),.slice a51 n52 c53 1]] σ55 (fun v87 σ86=>
 xInt .i64 v87 fun i93=>
 dfT Tryz.prog Lb n 104 [.ptr a1] none σ86 fun u94 σ95=>
 lvK u94 (fun v96=>some (.pan v96,σ95)) (some (.ret (.int .i64 i93),σ95))) (fun v88 σ89=>
 dfT Tryz.prog Lb n 104 [.ptr a1] (some v88) σ89 fun u90 σ91=>
 lvK u90 (fun v92=>some (.pan v92,σ91)) (some (.ret (.int .i64 (0:Int)),σ91))))) (fun v57 σ58=>
 dfT Tryz.prog Lb n 104 [.ptr a1] (some v57) σ58 fun u59 σ60=>
 lvK u59 (fun v61=>some (.pan v61,σ60)) (some (.ret (.int .i64 (0:Int)),σ60)))) (fun v45 σ46=>
 dfT Tryz.prog Lb n 104 [.ptr a1] (some v45) σ46 fun u47 σ48=>
 lvK u47 (fun v49=>some (.pan v49,σ48)) (some (.ret (.int .i64 (0:Int)),σ48)))) (fun v37 σ38=>
 dfT Tryz.prog Lb n 104 [.ptr a1] (some v37) σ38 fun u39 σ40=>
 lvK u39 (fun v41=>some (.pan v41,σ40)) (some (.ret (.int .i64 (0:Int)),σ40)))) (callE Tryz.prog Lb n 32 [.ptr a1,.str [119,104,105,108,101]] σ27 (fun v98 σ97=>
 xBool v98 fun b104=>
 cond b104 (callE Tryz.prog Lb n 105 [.ptr a1] σ97 (fun v106 σ105=>
 xInt .i64 v106 fun i112=>
 callE Tryz.prog Lb n 77 [.ptr a1] σ105 (fun v114 σ113=>
 xInt .i64 v114 fun i120=>
 callE Tryz.prog Lb n 14 [.ptr a1,.agg [.int .i64 (13:Int),.int .i64 i7,.str [],.int .i64 (0:Int),.int .i64 (0:Int),.slice (some (σ113.length,0)) 2 (some 2) 1]] (σ113 ++ [AObj.cells [.int .i64 i112,.int .i64 i120] (.rw (.row 3))]:St) (fun v122 σ121=>
 xInt .i64 v122 fun i128=>
 dfT Tryz.prog Lb n 104 [.ptr a1] none σ121 fun u129 σ130=>
 lvK u129 (fun v131=>some (.pan v131,σ130)) (some (.ret (.int .i64 i128),σ130))) (fun v123 σ124=>
 dfT Tryz.prog Lb n 104 [.ptr a1] (some v123) σ124 fun u125 σ126=>
 lvK u125 (fun v127=>some (.pan v127,σ126)) (some (.ret (.int .i64 (0:Int)),σ126)))) (fun v115 σ116=>
 dfT Tryz.prog Lb n 104 [.ptr a1] (some v115) σ116 fun u117 σ118=>
 lvK u117 (fun v119=>some (.pan v119,σ118)) (some (.ret (.int .i64 (0:Int)),σ118)))) (fun v107 σ108=>
 dfT Tryz.prog Lb n 104 [.ptr a1] (some v107) σ108 fun u109 σ110=>
 lvK u109 (fun v111=>some (.pan v111,σ110)) (some (.ret (.int .i64 (0:Int)),σ110)))) (callE Tryz.prog Lb n 32 [.ptr a1,.str [114,101,116,117,114,110]] σ97 (fun v133 σ132=>
 xBool v133 fun b139=>
 cond b139 (callE Tryz.prog Lb n 106 [.ptr a1,.int .i64 (1:Int)] σ132 (fun v141 σ140=>
 xInt .i64 v141 fun i147=>
 callE Tryz.prog Lb n 33 [.ptr a1,.str [59]] σ140 (fun _ σ148=>
 callE Tryz.prog Lb n 14 [.ptr a1,.agg [.int .i64 (14:Int),.int .i64 i7,.str [],.int .i64 (0:Int),.int .i64 (0:Int),.slice (some (σ148.length,0)) 1 (some 1) 1]] (σ148 ++ [AObj.cells [.int .i64 i147] (.rw (.row 3))]:St) (fun v156 σ155=>
 xInt .i64 v156 fun i162=>
 dfT Tryz.prog Lb n 104 [.ptr a1] none σ155 fun u163 σ164=>
 lvK u163 (fun v165=>some (.pan v165,σ164)) (some (.ret (.int .i64 i162),σ164))) (fun v157 σ158=>
 dfT Tryz.prog Lb n 104 [.ptr a1] (some v157) σ158 fun u159 σ160=>
 lvK u159 (fun v161=>some (.pan v161,σ160)) (some (.ret (.int .i64 (0:Int)),σ160)))) (fun v150 σ151=>
 dfT Tryz.prog Lb n 104 [.ptr a1] (some v150) σ151 fun u152 σ153=>
 lvK u152 (fun v154=>some (.pan v154,σ153)) (some (.ret (.int .i64 (0:Int)),σ153)))) (fun v142 σ143=>
 dfT Tryz.prog Lb n 104 [.ptr a1] (some v142) σ143 fun u144 σ145=>
 lvK u144 (fun v146=>some (.pan v146,σ145)) (some (.ret (.int .i64 (0:Int)),σ145)))) (callE Tryz.prog Lb n 32 [.ptr a1,.str [98,114,101,97,107]] σ132 (fun v167 σ166=>
 xBool v167 fun b173=>
 cond b173 (callE Tryz.prog Lb n 33 [.ptr a1,.str [59]] σ166 (fun _ σ174=>
 callE Tryz.prog Lb n 14 [.ptr a1,.agg [.int .i64 (15:Int),.int .i64 i7,.str [],.int .i64 (0:Int),.int .i64 (0:Int),.slice none 0 (some 0) 0]] σ174 (fun v182 σ181=>
 xInt .i64 v182 fun i188=>
 dfT Tryz.prog Lb n 104 [.ptr a1] none σ181 fun u189 σ190=>
 lvK u189 (fun v191=>some (.pan v191,σ190)) (some (.ret (.int .i64 i188),σ190))) (fun v183 σ184=>
 dfT Tryz.prog Lb n 104 [.ptr a1] (some v183) σ184 fun u185 σ186=>
 lvK u185 (fun v187=>some (.pan v187,σ186)) (some (.ret (.int .i64 (0:Int)),σ186)))) (fun v176 σ177=>
 dfT Tryz.prog Lb n 104 [.ptr a1] (some v176) σ177 fun u178 σ179=>
 lvK u178 (fun v180=>some (.pan v180,σ179)) (some (.ret (.int .i64 (0:Int)),σ179)))) (callE Tryz.prog Lb n 32 [.ptr a1,.str [99,111,110,116,105,110,117,101]] σ166 (fun v193 σ192=>
 xBool v193 fun b199=>
 cond b199 (callE Tryz.prog Lb n 33 [.ptr a1,.str [59]] σ192 (fun _ σ200=>
 callE Tryz.prog Lb n 14 [.ptr a1,.agg [.int .i64 (16:Int),.int .i64 i7,.str [],.int .i64 (0:Int),.int .i64 (0:Int),.slice none 0 (some 0) 0]] σ200 (fun v208 σ207=>
 xInt .i64 v208 fun i214=>
 dfT Tryz.prog Lb n 104 [.ptr a1] none σ207 fun u215 σ216=>
 lvK u215 (fun v217=>some (.pan v217,σ216)) (some (.ret (.int .i64 i214),σ216))) (fun v209 σ210=>
 dfT Tryz.prog Lb n 104 [.ptr a1] (some v209) σ210 fun u211 σ212=>
 lvK u211 (fun v213=>some (.pan v213,σ212)) (some (.ret (.int .i64 (0:Int)),σ212)))) (fun v202 σ203=>
 dfT Tryz.prog Lb n 104 [.ptr a1] (some v202) σ203 fun u204 σ205=>
 lvK u204 (fun v206=>some (.pan v206,σ205)) (some (.ret (.int .i64 (0:Int)),σ205)))) (callE Tryz.prog Lb n 35 [.ptr a1,.str [105,110,116]] σ192 (fun v219 σ218=>
 xBool v219 fun b225=>
 cond b225 (f77_j1 L a1 (0:Int) i7 a1 σ218) (callE Tryz.prog Lb n 35 [.ptr a1,.str [99,104,97,114]] σ218 (fun v227 σ226=>
 xBool v227 fun b233=>
 f77_j2 L a1 (0:Int) i7 b233 a1 σ226) (fun v228 σ229=>
 dfT Tryz.prog Lb n 104 [.ptr a1] (some v228) σ229 fun u230 σ231=>
 lvK u230 (fun v232=>some (.pan v232,σ231)) (some (.ret (.int .i64 (0:Int)),σ231))))) (fun v220 σ221=>
 dfT Tryz.prog Lb n 104 [.ptr a1] (some v220) σ221 fun u222 σ223=>
 lvK u222 (fun v224=>some (.pan v224,σ223)) (some (.ret (.int .i64 (0:Int)),σ223))))) (fun v194 σ195=>
 dfT Tryz.prog Lb n 104 [.ptr a1] (some v194) σ195 fun u196 σ197=>
 lvK u196 (fun v198=>some (.pan v198,σ197)) (some (.ret (.int .i64 (0:Int)),σ197))))) (fun v168 σ169=>
 dfT Tryz.prog Lb n 104 [.ptr a1] (some v168) σ169 fun u170 σ171=>
 lvK u170 (fun v172=>some (.pan v172,σ171)) (some (.ret (.int .i64 (0:Int)),σ171))))) (fun v134 σ135=>
 dfT Tryz.prog Lb n 104 [.ptr a1] (some v134) σ135 fun u136 σ137=>
 lvK u136 (fun v138=>some (.pan v138,σ137)) (some (.ret (.int .i64 (0:Int)),σ137))))) (fun v99 σ100=>
 dfT Tryz.prog Lb n 104 [.ptr a1] (some v99) σ100 fun u101 σ102=>
 lvK u101 (fun v103=>some (.pan v103,σ102)) (some (.ret (.int .i64 (0:Int)),σ102))))) (fun v29 σ30=>
 dfT Tryz.prog Lb n 104 [.ptr a1] (some v29) σ30 fun u31 σ32=>
 lvK u31 (fun v33=>some (.pan v33,σ32)) (some (.ret (.int .i64 (0:Int)),σ32))))) (fun v10 σ11=>
 dfT Tryz.prog Lb n 104 [.ptr a1] (some v10) σ11 fun u12 σ13=>
 lvK u12 (fun v14=>some (.pan v14,σ13)) (some (.ret (.int .i64 (0:Int)),σ13)))
theorem f77_g:goT Tryz.prog Lb 77 n L [[1,1,1,1,0,0,1,1,1,1,1,1,1,1,1,1,1,1,1]] [] [] ⟨tm 113 [(0,.v (.ptr a1))] 0,[],[]⟩ σ = f77_t L n a1 σ:=by kernel_rfl
theorem f77_e:Le (f77_t (pt Tryz.prog Lb 77 n) n a1 σ) (callP Tryz.prog Lb (n + 1) 77 [.ptr a1] σ):=
 goT_call f77_g rfl (by kernel_rfl) (by kernel_rfl)
noncomputable def f77_j1_t (_:Leaf) (n:Nat) (a1:Ad) (i2 _:Int) (a4:Ad) (σ:St):Out:=
 callE Tryz.prog Lb n 59 [.ptr a1] σ (fun v6 σ5=>
 xAgg v6 fun cs12=>
 unC cs12 fun x13 r14=>
 xInt .i64 x13 fun i15=>
 unC r14 fun x16 r17=>
 xInt .i64 x16 fun i18=>
 unC r17 fun x19 r20=>
 xStr x19 fun s21=>
 unC r20 fun x22 r23=>
 xInt .i64 x22 fun i24=>
 unC r23 fun x25 r26=>
 xInt .i64 x25 fun i27=>
 unC r26 fun x28 r29=>
 xSl x28 fun a30 n31 c32 z33=>
 nlC r29 <|
 callE Tryz.prog Lb n 32 [.ptr a1,.str [61]] σ5 (fun v35 σ34=>
 xBool v35 fun b41=>
 cond b41 (callE Tryz.prog Lb n 106 [.ptr a1,.int .i64 (1:Int)] σ34 (fun v43 σ42=>
 xInt .i64 v43 fun i49=>
 callE Tryz.prog Lb n 33 [.ptr a1,.str [59]] (σ42 ++ [AObj.cells [.int .i64 i49] (.rw (.row 3))]:St) (fun _ σ50=>
 callE Tryz.prog Lb n 14 [.ptr a1,.agg [.int .i64 i15,.int .i64 i18,.str s21,.int .i64 i24,.int .i64 i27,.slice (some (σ42.length,0)) 1 (some 1) 1]] σ50 (fun v58 σ57=>
 xInt .i64 v58 fun i64=>
 dfT Tryz.prog Lb n 104 [.ptr a4] none σ57 fun u65 σ66=>
 lvK u65 (fun v67=>some (.pan v67,σ66)) (some (.ret (.int .i64 i64),σ66))) (fun v59 σ60=>
 dfT Tryz.prog Lb n 104 [.ptr a4] (some v59) σ60 fun u61 σ62=>
 lvK u61 (fun v63=>some (.pan v63,σ62)) (some (.ret (.int .i64 i2),σ62)))) (fun v52 σ53=>
 dfT Tryz.prog Lb n 104 [.ptr a4] (some v52) σ53 fun u54 σ55=>
 lvK u54 (fun v56=>some (.pan v56,σ55)) (some (.ret (.int .i64 i2),σ55)))) (fun v44 σ45=>
 dfT Tryz.prog Lb n 104 [.ptr a4] (some v44) σ45 fun u46 σ47=>
 lvK u46 (fun v48=>some (.pan v48,σ47)) (some (.ret (.int .i64 i2),σ47)))) (callE Tryz.prog Lb n 33 [.ptr a1,.str [59]] σ34 (fun _ σ68=>
 callE Tryz.prog Lb n 14 [.ptr a1,.agg [.int .i64 i15,.int .i64 i18,.str s21,.int .i64 i24,.int .i64 i27,.slice a30 n31 c32 z33]] σ68 (fun v76 σ75=>
 xInt .i64 v76 fun i82=>
 dfT Tryz.prog Lb n 104 [.ptr a4] none σ75 fun u83 σ84=>
 lvK u83 (fun v85=>some (.pan v85,σ84)) (some (.ret (.int .i64 i82),σ84))) (fun v77 σ78=>
 dfT Tryz.prog Lb n 104 [.ptr a4] (some v77) σ78 fun u79 σ80=>
 lvK u79 (fun v81=>some (.pan v81,σ80)) (some (.ret (.int .i64 i2),σ80)))) (fun v70 σ71=>
 dfT Tryz.prog Lb n 104 [.ptr a4] (some v70) σ71 fun u72 σ73=>
 lvK u72 (fun v74=>some (.pan v74,σ73)) (some (.ret (.int .i64 i2),σ73))))) (fun v36 σ37=>
 dfT Tryz.prog Lb n 104 [.ptr a4] (some v36) σ37 fun u38 σ39=>
 lvK u38 (fun v40=>some (.pan v40,σ39)) (some (.ret (.int .i64 i2),σ39)))) (fun v7 σ8=>
 dfT Tryz.prog Lb n 104 [.ptr a4] (some v7) σ8 fun u9 σ10=>
 lvK u9 (fun v11=>some (.pan v11,σ10)) (some (.ret (.int .i64 i2),σ10)))
theorem f77_j1_g:f77_j1 (goT Tryz.prog Lb 77 n L []) a1 i2 i3 a4 σ = f77_j1_t L n a1 i2 i3 a4 σ:=by kernel_rfl
theorem f77_j1_e:Le (f77_j1_t (pt Tryz.prog Lb 77 n) n a1 i2 i3 a4 σ) (f77_j1 (pt Tryz.prog Lb 77 n) a1 i2 i3 a4 σ):=by
 unfold f77_j1;exact goT_pt f77_j1_g
noncomputable def f77_j2_t (_:Leaf) (n:Nat) (a1:Ad) (i2 i3:Int) (b4:Bool) (a5:Ad) (σ:St):Out:=
 cond b4 (callE Tryz.prog Lb n 59 [.ptr a1] σ (fun v7 σ6=>
 xAgg v7 fun cs13=>
 unC cs13 fun x14 r15=>
 xInt .i64 x14 fun i16=>
 unC r15 fun x17 r18=>
 xInt .i64 x17 fun i19=>
 unC r18 fun x20 r21=>
 xStr x20 fun s22=>
 unC r21 fun x23 r24=>
 xInt .i64 x23 fun i25=>
 unC r24 fun x26 r27=>
 xInt .i64 x26 fun i28=>
 unC r27 fun x29 r30=>
 xSl x29 fun a31 n32 c33 z34=>
 nlC r30 <|
 callE Tryz.prog Lb n 32 [.ptr a1,.str [61]] σ6 (fun v36 σ35=>
 xBool v36 fun b42=>
 cond b42 (callE Tryz.prog Lb n 106 [.ptr a1,.int .i64 (1:Int)] σ35 (fun v44 σ43=>
 xInt .i64 v44 fun i50=>
 callE Tryz.prog Lb n 33 [.ptr a1,.str [59]] (σ43 ++ [AObj.cells [.int .i64 i50] (.rw (.row 3))]:St) (fun _ σ51=>
 callE Tryz.prog Lb n 14 [.ptr a1,.agg [.int .i64 i16,.int .i64 i19,.str s22,.int .i64 i25,.int .i64 i28,.slice (some (σ43.length,0)) 1 (some 1) 1]] σ51 (fun v59 σ58=>
 xInt .i64 v59 fun i65=>
 dfT Tryz.prog Lb n 104 [.ptr a5] none σ58 fun u66 σ67=>
 lvK u66 (fun v68=>some (.pan v68,σ67)) (some (.ret (.int .i64 i65),σ67))) (fun v60 σ61=>
 dfT Tryz.prog Lb n 104 [.ptr a5] (some v60) σ61 fun u62 σ63=>
 lvK u62 (fun v64=>some (.pan v64,σ63)) (some (.ret (.int .i64 i2),σ63)))) (fun v53 σ54=>
 dfT Tryz.prog Lb n 104 [.ptr a5] (some v53) σ54 fun u55 σ56=>
 lvK u55 (fun v57=>some (.pan v57,σ56)) (some (.ret (.int .i64 i2),σ56)))) (fun v45 σ46=>
 dfT Tryz.prog Lb n 104 [.ptr a5] (some v45) σ46 fun u47 σ48=>
 lvK u47 (fun v49=>some (.pan v49,σ48)) (some (.ret (.int .i64 i2),σ48)))) (callE Tryz.prog Lb n 33 [.ptr a1,.str [59]] σ35 (fun _ σ69=>
 callE Tryz.prog Lb n 14 [.ptr a1,.agg [.int .i64 i16,.int .i64 i19,.str s22,.int .i64 i25,.int .i64 i28,.slice a31 n32 c33 z34]] σ69 (fun v77 σ76=>
 xInt .i64 v77 fun i83=>
 dfT Tryz.prog Lb n 104 [.ptr a5] none σ76 fun u84 σ85=>
 lvK u84 (fun v86=>some (.pan v86,σ85)) (some (.ret (.int .i64 i83),σ85))) (fun v78 σ79=>
 dfT Tryz.prog Lb n 104 [.ptr a5] (some v78) σ79 fun u80 σ81=>
 lvK u80 (fun v82=>some (.pan v82,σ81)) (some (.ret (.int .i64 i2),σ81)))) (fun v71 σ72=>
 dfT Tryz.prog Lb n 104 [.ptr a5] (some v71) σ72 fun u73 σ74=>
 lvK u73 (fun v75=>some (.pan v75,σ74)) (some (.ret (.int .i64 i2),σ74))))) (fun v37 σ38=>
 dfT Tryz.prog Lb n 104 [.ptr a5] (some v37) σ38 fun u39 σ40=>
 lvK u39 (fun v41=>some (.pan v41,σ40)) (some (.ret (.int .i64 i2),σ40)))) (fun v8 σ9=>
 dfT Tryz.prog Lb n 104 [.ptr a5] (some v8) σ9 fun u10 σ11=>
 lvK u10 (fun v12=>some (.pan v12,σ11)) (some (.ret (.int .i64 i2),σ11)))) (callE Tryz.prog Lb n 107 [.ptr a1,.int .i64 i3] σ (fun v88 σ87=>
 xInt .i64 v88 fun i94=>
 dfT Tryz.prog Lb n 104 [.ptr a5] none σ87 fun u95 σ96=>
 lvK u95 (fun v97=>some (.pan v97,σ96)) (some (.ret (.int .i64 i94),σ96))) (fun v89 σ90=>
 dfT Tryz.prog Lb n 104 [.ptr a5] (some v89) σ90 fun u91 σ92=>
 lvK u91 (fun v93=>some (.pan v93,σ92)) (some (.ret (.int .i64 i2),σ92))))
theorem f77_j2_g:f77_j2 (goT Tryz.prog Lb 77 n L []) a1 i2 i3 b4 a5 σ = f77_j2_t L n a1 i2 i3 b4 a5 σ:=by kernel_rfl
theorem f77_j2_e:Le (f77_j2_t (pt Tryz.prog Lb 77 n) n a1 i2 i3 b4 a5 σ) (f77_j2 (pt Tryz.prog Lb 77 n) a1 i2 i3 b4 a5 σ):=by
 unfold f77_j2;exact goT_pt f77_j2_g
noncomputable def f106_l1 (L:Leaf) (m0:Nat) (a1:Ad) (i2 i3 i4:Int) (σ:St):Out:=
 L [1,1,0] [m0] ⟨tm 53 [(0,.v (.ptr a1)),(1,.v (.int .i64 i2)),(4,.v (.int .i64 i3)),(5,.v (.int .i64 i4))] 0,[],[]⟩ σ
noncomputable def f106_j2 (L:Leaf) (m0:Nat) (a1:Ad) (i2 i3 i4 i5:Int) (σ:St):Out:=
 L [1,1,0,0,0,1,1] [m0] ⟨tm 53 [(0,.v (.ptr a1)),(1,.v (.int .i64 i2)),(4,.v (.int .i64 i3)),(5,.v (.int .i64 i4)),(6,.v (.int .i64 i5))] 0,[],[]⟩ σ
noncomputable def f106_t (L:Leaf) (n:Nat) (a1:Ad) (i2:Int) (σ:St):Out:=
 callT Tryz.prog Lb n 122 [.ptr a1] σ fun v4 σ3=>
 xInt .i64 v4 fun i5=>
 f106_l1 L n a1 i2 (0:Int) i5 σ3
theorem f106_g:goT Tryz.prog Lb 106 n L [] [] [] ⟨tm 53 [(0,.v (.ptr a1)),(1,.v (.int .i64 i2))] 0,[],[]⟩ σ = f106_t L n a1 i2 σ:=by kernel_rfl
theorem f106_e:Le (f106_t (pt Tryz.prog Lb 106 n) n a1 i2 σ) (callP Tryz.prog Lb (n + 1) 106 [.ptr a1,.int .i64 i2] σ):=
 goT_call f106_g rfl (by kernel_rfl) (by kernel_rfl)
noncomputable def f106_l1_t (L:Leaf) (n m0:Nat) (a1:Ad) (i2 i3 i4:Int) (σ:St):Out:=
 derefK a1 fun b5 o6=>
 ldK Tryz.prog 3 σ b5 ((o6 + 2) + 0) fun x7=>
 xInt .i64 x7 fun i8=>
 cond (i8 == (5:Int)) (derefK a1 fun b9 o10=>
 ldK Tryz.prog 9 σ b9 ((o10 + 2) + 2) fun x11=>
 xStr x11 fun s12=>
 callT Tryz.prog Lb n 123 [.str s12] σ fun v14 σ13=>
 xInt .i64 v14 fun i15=>
 f106_j2 L m0 a1 i2 i3 i4 i15 σ13) (f106_j2 L m0 a1 i2 i3 i4 (0:Int) σ)
theorem f106_l1_g:f106_l1 (goT Tryz.prog Lb 106 n L [[1,1,0,0,0,1,1]]) (m0 + 1) a1 i2 i3 i4 σ = f106_l1_t L n m0 a1 i2 i3 i4 σ:=by kernel_rfl
theorem f106_l1_e:Le (f106_l1_t (pt Tryz.prog Lb 106 n) n m0 a1 i2 i3 i4 σ) (f106_l1 (pt Tryz.prog Lb 106 n) (m0 + 1) a1 i2 i3 i4 σ):=by
 unfold f106_l1;exact goT_pt f106_l1_g
noncomputable def f106_j2_t (L:Leaf) (n m0:Nat) (a1:Ad) (i2 i3 i4 i5:Int) (σ:St):Out:=
 cond (i5 == (0:Int)) (some (.ret (.int .i64 i4),σ)) (callT Tryz.prog Lb n 95 [.int .i64 i5] σ fun v7 σ6=>
 xInt .i64 v7 fun i8=>
 cond (decide (i8 < i2)) (some (.ret (.int .i64 i4),σ6)) (callT Tryz.prog Lb n 58 [.ptr a1] σ6 fun v10 σ9=>
 xAgg v10 fun cs11=>
 unC cs11 fun x12 r13=>
 xInt .i64 x12 fun _=>
 unC r13 fun x15 r16=>
 xInt .i64 x15 fun _=>
 unC r16 fun x18 r19=>
 xStr x18 fun _=>
 unC r19 fun x21 r22=>
 xInt .i64 x21 fun _=>
 nlC r22 <|
 callT Tryz.prog Lb n 95 [.int .i64 i5] σ9 fun v25 σ24=>
 xInt .i64 v25 fun i26=>
 callT Tryz.prog Lb n 106 [.ptr a1,.int .i64 (IntKind.wrap .i64 (i26 + (1:Int)))] σ24 fun v28 σ27=>
 xInt .i64 v28 fun i29=>
 derefK a1 fun b30 o31=>
 ldK Tryz.prog 24 σ27 b30 (o31 + 6) fun x32=>
 xSl x32 fun a33 n34 _ z36=>
 idxK i4 n34 <|
 derefK a33 fun b37 o38=>
 szK z36 6 <|
 ldK Tryz.prog 3 σ27 b37 ((o38 + ((i4).toNat * 6)) + 1) fun x39=>
 xInt .i64 x39 fun i40=>
 callT Tryz.prog Lb n 14 [.ptr a1,.agg [.int .i64 (7:Int),.int .i64 i40,.str [],.int .i64 i5,.int .i64 (0:Int),.slice (some (σ27.length,0)) 2 (some 2) 1]] (σ27 ++ [AObj.cells [.int .i64 i4,.int .i64 i29] (.rw (.row 3))]:St) fun v42 σ41=>
 xInt .i64 v42 fun i43=>
 f106_l1 L m0 a1 i2 i3 i43 σ41))
theorem f106_j2_g:f106_j2 (goT Tryz.prog Lb 106 n L []) m0 a1 i2 i3 i4 i5 σ = f106_j2_t L n m0 a1 i2 i3 i4 i5 σ:=by kernel_rfl
theorem f106_j2_e:Le (f106_j2_t (pt Tryz.prog Lb 106 n) n m0 a1 i2 i3 i4 i5 σ) (f106_j2 (pt Tryz.prog Lb 106 n) m0 a1 i2 i3 i4 i5 σ):=by
 unfold f106_j2;exact goT_pt f106_j2_g
noncomputable def f107_j1 (L:Leaf) (a1:Ad) (i2 i3 i4:Int) (σ:St):Out:=
 L [1,1,0,1,0,1] [] ⟨tm 60 [(0,.v (.ptr a1)),(1,.v (.int .i64 i2)),(4,.v (.int .i64 i3)),(5,.v (.int .i64 i4))] 0,[],[]⟩ σ
noncomputable def f107_t (L:Leaf) (n:Nat) (a1:Ad) (i2:Int) (σ:St):Out:=
 callT Tryz.prog Lb n 106 [.ptr a1,.int .i64 (1:Int)] σ fun v4 σ3=>
 xInt .i64 v4 fun i5=>
 callT Tryz.prog Lb n 35 [.ptr a1,.str [61]] σ3 fun v7 σ6=>
 xBool v7 fun b8=>
 cond b8 (derefK a1 fun b9 o10=>
 ldK Tryz.prog 24 σ6 b9 (o10 + 6) fun x11=>
 xSl x11 fun a12 n13 _ z15=>
 idxK i5 n13 <|
 derefK a12 fun b16 o17=>
 szK z15 6 <|
 ldK Tryz.prog 3 σ6 b16 ((o17 + ((i5).toNat * 6)) + 0) fun x18=>
 xInt .i64 x18 fun i19=>
 cond (i19 != (3:Int)) (cond (i19 != (5:Int)) (derefK a1 fun b20 o21=>
 ldK Tryz.prog 3 σ6 b20 ((o21 + 2) + 1) fun x22=>
 xInt .i64 x22 fun i23=>
 callT Tryz.prog Lb n 27 [.int .i64 (13:Int),.int .i64 i23] σ6 fun _ σ24=>
 f107_j1 L a1 i2 (0:Int) i5 σ24) (f107_j1 L a1 i2 (0:Int) i5 σ6)) (f107_j1 L a1 i2 (0:Int) i5 σ6)) (callT Tryz.prog Lb n 33 [.ptr a1,.str [59]] σ6 fun _ σ26=>
 callT Tryz.prog Lb n 14 [.ptr a1,.agg [.int .i64 (10:Int),.int .i64 i2,.str [],.int .i64 (0:Int),.int .i64 (0:Int),.slice (some (σ26.length,0)) 1 (some 1) 1]] (σ26 ++ [AObj.cells [.int .i64 i5] (.rw (.row 3))]:St) fun v29 σ28=>
 xInt .i64 v29 fun i30=>
 some (.ret (.int .i64 i30),σ28))
theorem f107_g:goT Tryz.prog Lb 107 n L [[1,1,0,1,0,1]] [] [] ⟨tm 60 [(0,.v (.ptr a1)),(1,.v (.int .i64 i2))] 0,[],[]⟩ σ = f107_t L n a1 i2 σ:=by kernel_rfl
theorem f107_e:Le (f107_t (pt Tryz.prog Lb 107 n) n a1 i2 σ) (callP Tryz.prog Lb (n + 1) 107 [.ptr a1,.int .i64 i2] σ):=
 goT_call f107_g rfl (by kernel_rfl) (by kernel_rfl)
noncomputable def f107_j1_t (_:Leaf) (n:Nat) (a1:Ad) (_ _ i4:Int) (σ:St):Out:=
 callT Tryz.prog Lb n 58 [.ptr a1] σ fun v6 σ5=>
 xAgg v6 fun cs7=>
 unC cs7 fun x8 r9=>
 xInt .i64 x8 fun _=>
 unC r9 fun x11 r12=>
 xInt .i64 x11 fun _=>
 unC r12 fun x14 r15=>
 xStr x14 fun _=>
 unC r15 fun x17 r18=>
 xInt .i64 x17 fun _=>
 nlC r18 <|
 callT Tryz.prog Lb n 106 [.ptr a1,.int .i64 (1:Int)] σ5 fun v21 σ20=>
 xInt .i64 v21 fun i22=>
 callT Tryz.prog Lb n 33 [.ptr a1,.str [59]] σ20 fun _ σ23=>
 derefK a1 fun b25 o26=>
 ldK Tryz.prog 24 σ23 b25 (o26 + 6) fun x27=>
 xSl x27 fun a28 n29 _ z31=>
 idxK i4 n29 <|
 derefK a28 fun b32 o33=>
 szK z31 6 <|
 ldK Tryz.prog 3 σ23 b32 ((o33 + ((i4).toNat * 6)) + 1) fun x34=>
 xInt .i64 x34 fun i35=>
 callT Tryz.prog Lb n 14 [.ptr a1,.agg [.int .i64 (11:Int),.int .i64 i35,.str [],.int .i64 (0:Int),.int .i64 (0:Int),.slice (some (σ23.length,0)) 2 (some 2) 1]] (σ23 ++ [AObj.cells [.int .i64 i4,.int .i64 i22] (.rw (.row 3))]:St) fun v37 σ36=>
 xInt .i64 v37 fun i38=>
 some (.ret (.int .i64 i38),σ36)
theorem f107_j1_g:f107_j1 (goT Tryz.prog Lb 107 n L []) a1 i2 i3 i4 σ = f107_j1_t L n a1 i2 i3 i4 σ:=by kernel_rfl
theorem f107_j1_e:Le (f107_j1_t (pt Tryz.prog Lb 107 n) n a1 i2 i3 i4 σ) (f107_j1 (pt Tryz.prog Lb 107 n) a1 i2 i3 i4 σ):=by
 unfold f107_j1;exact goT_pt f107_j1_g
noncomputable def f122_l1 (L:Leaf) (m0:Nat) (a1:Ad) (i2 i3:Int) (s4 s5 s6 s7:By) (i8:Int) (a9:Ad) (σ:St):Out:=
 L [1,1,1,1,0,1,0] [m0] ⟨tm 62 [(0,.v (.ptr a1)),(2,.v (.int .i64 i2)),(3,.v (.int .i64 i3)),(17,.v (.agg [.str s4,.str s5,.str s6,.str s7])),(18,.v (.int .i64 i8))] 0,[],[(104,[.ptr a9])]⟩ σ
noncomputable def f122_j2 (L:Leaf) (m0:Nat) (a1:Ad) (i2 i3 i4:Int) (s5 s6 s7 s8:By) (i9:Int) (b10:Bool) (a11:Ad) (σ:St):Out:=
 L [1,1,1,1,0,1,0,0,1,1,0,0,1,1] [m0] ⟨tm 62 [(0,.v (.ptr a1)),(2,.v (.int .i64 i2)),(3,.v (.int .i64 i3)),(4,.v (.int .i64 i4)),(17,.v (.agg [.str s5,.str s6,.str s7,.str s8])),(18,.v (.int .i64 i9)),(28,.v (.bool b10))] 0,[],[(104,[.ptr a11])]⟩ σ
noncomputable def f122_j3 (L:Leaf) (m0:Nat) (a1:Ad) (i2 i3 i4:Int) (s5 s6 s7 s8:By) (i9:Int) (a10:Ad) (σ:St):Out:=
 L [1,1,1,1,0,1,0,0,1,1,0,0,1,1] [m0] ⟨tm 62 [(0,.v (.ptr a1)),(2,.v (.int .i64 i2)),(3,.v (.int .i64 i3)),(4,.v (.int .i64 i4)),(17,.v (.agg [.str s5,.str s6,.str s7,.str s8])),(18,.v (.int .i64 i9)),(28,.v (.bool false))] 0,[],[(104,[.ptr a10])]⟩ σ
noncomputable def f122_j4 (L:Leaf) (a1:Ad) (i2:Int) (a3:Ad) (σ:St):Out:=
 L [1,1,1,1,1] [] ⟨tm 62 [(0,.v (.ptr a1)),(2,.v (.int .i64 i2))] 0,[],[(104,[.ptr a3])]⟩ σ
noncomputable def f122_l5 (L:Leaf) (m0:Nat) (a1:Ad) (i2 i3:Int) (a4:Ad) (σ:St):Out:=
 L [1,1,1,1,1,1,0,0] [m0] ⟨tm 62 [(0,.v (.ptr a1)),(2,.v (.int .i64 i2)),(7,.v (.int .i64 i3))] 0,[],[(104,[.ptr a4])]⟩ σ
noncomputable def f122_j6 (L:Leaf) (i1 i2:Int) (a3:Ad) (σ:St):Out:=
 L [1,1,1,1,1,1,1] [] ⟨tm 62 [(2,.v (.int .i64 i1)),(7,.v (.int .i64 i2))] 0,[],[(104,[.ptr a3])]⟩ σ
noncomputable def f122_t (L:Leaf) (n:Nat) (a1:Ad) (σ:St):Out:=
 callT Tryz.prog Lb n 103 [.ptr a1] σ fun _ σ2=>
 derefK a1 fun b4 o5=>
 ldK Tryz.prog 3 σ2 b4 ((o5 + 2) + 1) fun x6=>
 xInt .i64 x6 fun i7=>
 f122_l1 L n a1 (0:Int) i7 [] [45] [33] [126] (0:Int) a1 σ2
theorem f122_g:goT Tryz.prog Lb 122 n L [] [] [] ⟨tm 62 [(0,.v (.ptr a1))] 0,[],[]⟩ σ = f122_t L n a1 σ:=by kernel_rfl
theorem f122_e:Le (f122_t (pt Tryz.prog Lb 122 n) n a1 σ) (callP Tryz.prog Lb (n + 1) 122 [.ptr a1] σ):=
 goT_call f122_g rfl (by kernel_rfl) (by kernel_rfl)
noncomputable def f122_l1_t (L:Leaf) (n m0:Nat) (a1:Ad) (i2 i3:Int) (s4 s5 s6 s7:By) (i8:Int) (a9:Ad) (σ:St):Out:=
 cond (decide (i8 < (4:Int))) (idxK i8 4 <|
 partK Tryz.prog 9 [.str s4,.str s5,.str s6,.str s7] ((i8).toNat * 1) fun x10=>
 xStr x10 fun s11=>
 cond (decide (i8 > (0:Int))) (callE Tryz.prog Lb n 32 [.ptr a1,.str s11] σ (fun v13 σ12=>
 xBool v13 fun b19=>
 f122_j2 L m0 a1 i2 i3 i8 s4 s5 s6 s7 i8 b19 a9 σ12) (fun v14 σ15=>
 dfT Tryz.prog Lb n 104 [.ptr a9] (some v14) σ15 fun u16 σ17=>
 lvK u16 (fun v18=>some (.pan v18,σ17)) (some (.ret (.int .i64 i2),σ17)))) (f122_j3 L m0 a1 i2 i3 i8 s4 s5 s6 s7 i8 a9 σ)) (f122_j4 L a1 i2 a9 σ)
theorem f122_l1_g:f122_l1 (goT Tryz.prog Lb 122 n L [[1,1,1,1,0,1,0,0,1,1,0,0,1,1],[1,1,1,1,1]]) (m0 + 1) a1 i2 i3 s4 s5 s6 s7 i8 a9 σ = f122_l1_t L n m0 a1 i2 i3 s4 s5 s6 s7 i8 a9 σ:=by kernel_rfl
theorem f122_l1_e:Le (f122_l1_t (pt Tryz.prog Lb 122 n) n m0 a1 i2 i3 s4 s5 s6 s7 i8 a9 σ) (f122_l1 (pt Tryz.prog Lb 122 n) (m0 + 1) a1 i2 i3 s4 s5 s6 s7 i8 a9 σ):=by
 unfold f122_l1;exact goT_pt f122_l1_g
noncomputable def f122_j2_t (L:Leaf) (n m0:Nat) (a1:Ad) (i2 i3 i4:Int) (s5 s6 s7 s8:By) (i9:Int) (b10:Bool) (a11:Ad) (σ:St):Out:=
 cond b10 (callE Tryz.prog Lb n 122 [.ptr a1] σ (fun v13 σ12=>
 xInt .i64 v13 fun i19=>
 callE Tryz.prog Lb n 14 [.ptr a1,.agg [.int .i64 (6:Int),.int .i64 i3,.str [],.int .i64 i4,.int .i64 (0:Int),.slice (some (σ12.length,0)) 1 (some 1) 1]] (σ12 ++ [AObj.cells [.int .i64 i19] (.rw (.row 3))]:St) (fun v21 σ20=>
 xInt .i64 v21 fun i27=>
 dfT Tryz.prog Lb n 104 [.ptr a11] none σ20 fun u28 σ29=>
 lvK u28 (fun v30=>some (.pan v30,σ29)) (some (.ret (.int .i64 i27),σ29))) (fun v22 σ23=>
 dfT Tryz.prog Lb n 104 [.ptr a11] (some v22) σ23 fun u24 σ25=>
 lvK u24 (fun v26=>some (.pan v26,σ25)) (some (.ret (.int .i64 i2),σ25)))) (fun v14 σ15=>
 dfT Tryz.prog Lb n 104 [.ptr a11] (some v14) σ15 fun u16 σ17=>
 lvK u16 (fun v18=>some (.pan v18,σ17)) (some (.ret (.int .i64 i2),σ17)))) (f122_l1 L m0 a1 i2 i3 s5 s6 s7 s8 (IntKind.wrap .i64 (i9 + (1:Int))) a11 σ)
theorem f122_j2_g:f122_j2 (goT Tryz.prog Lb 122 n L []) m0 a1 i2 i3 i4 s5 s6 s7 s8 i9 b10 a11 σ = f122_j2_t L n m0 a1 i2 i3 i4 s5 s6 s7 s8 i9 b10 a11 σ:=by kernel_rfl
theorem f122_j2_e:Le (f122_j2_t (pt Tryz.prog Lb 122 n) n m0 a1 i2 i3 i4 s5 s6 s7 s8 i9 b10 a11 σ) (f122_j2 (pt Tryz.prog Lb 122 n) m0 a1 i2 i3 i4 s5 s6 s7 s8 i9 b10 a11 σ):=by
 unfold f122_j2;exact goT_pt f122_j2_g
noncomputable def f122_j3_t (L:Leaf) (_ m0:Nat) (a1:Ad) (i2 i3 _:Int) (s5 s6 s7 s8:By) (i9:Int) (a10:Ad) (σ:St):Out:=
 f122_l1 L m0 a1 i2 i3 s5 s6 s7 s8 (IntKind.wrap .i64 (i9 + (1:Int))) a10 σ
theorem f122_j3_g:f122_j3 (goT Tryz.prog Lb 122 n L []) m0 a1 i2 i3 i4 s5 s6 s7 s8 i9 a10 σ = f122_j3_t L n m0 a1 i2 i3 i4 s5 s6 s7 s8 i9 a10 σ:=by kernel_rfl
theorem f122_j3_e:Le (f122_j3_t (pt Tryz.prog Lb 122 n) n m0 a1 i2 i3 i4 s5 s6 s7 s8 i9 a10 σ) (f122_j3 (pt Tryz.prog Lb 122 n) m0 a1 i2 i3 i4 s5 s6 s7 s8 i9 a10 σ):=by
 unfold f122_j3;exact goT_pt f122_j3_g
noncomputable def f122_j4_t (L:Leaf) (n:Nat) (a1:Ad) (i2:Int) (a3:Ad) (σ:St):Out:=
 callE Tryz.prog Lb n 131 [.ptr a1] σ (fun v5 σ4=>
 xInt .i64 v5 fun i11=>
 f122_l5 L n a1 i2 i11 a3 σ4) (fun v6 σ7=>
 dfT Tryz.prog Lb n 104 [.ptr a3] (some v6) σ7 fun u8 σ9=>
 lvK u8 (fun v10=>some (.pan v10,σ9)) (some (.ret (.int .i64 i2),σ9)))
theorem f122_j4_g:f122_j4 (goT Tryz.prog Lb 122 n L []) a1 i2 a3 σ = f122_j4_t L n a1 i2 a3 σ:=by kernel_rfl
theorem f122_j4_e:Le (f122_j4_t (pt Tryz.prog Lb 122 n) n a1 i2 a3 σ) (f122_j4 (pt Tryz.prog Lb 122 n) a1 i2 a3 σ):=by
 unfold f122_j4;exact goT_pt f122_j4_g
noncomputable def f122_l5_t (L:Leaf) (n m0:Nat) (a1:Ad) (i2 i3:Int) (a4:Ad) (σ:St):Out:=
 callE Tryz.prog Lb n 32 [.ptr a1,.str [91]] σ (fun v6 σ5=>
 xBool v6 fun b12=>
 cond b12 (callE Tryz.prog Lb n 106 [.ptr a1,.int .i64 (1:Int)] σ5 (fun v14 σ13=>
 xInt .i64 v14 fun i20=>
 callE Tryz.prog Lb n 33 [.ptr a1,.str [93]] σ13 (fun _ σ21=>
 derefK a1 fun b28 o29=>
 ldK Tryz.prog 24 σ21 b28 (o29 + 6) fun x30=>
 xSl x30 fun a31 n32 _ z34=>
 idxK i3 n32 <|
 derefK a31 fun b35 o36=>
 szK z34 6 <|
 ldK Tryz.prog 3 σ21 b35 ((o36 + ((i3).toNat * 6)) + 1) fun x37=>
 xInt .i64 x37 fun i38=>
 callE Tryz.prog Lb n 14 [.ptr a1,.agg [.int .i64 (5:Int),.int .i64 i38,.str [],.int .i64 (0:Int),.int .i64 (0:Int),.slice (some (σ21.length,0)) 2 (some 2) 1]] (σ21 ++ [AObj.cells [.int .i64 i3,.int .i64 i20] (.rw (.row 3))]:St) (fun v40 σ39=>
 xInt .i64 v40 fun i46=>
 f122_l5 L m0 a1 i2 i46 a4 σ39) (fun v41 σ42=>
 dfT Tryz.prog Lb n 104 [.ptr a4] (some v41) σ42 fun u43 σ44=>
 lvK u43 (fun v45=>some (.pan v45,σ44)) (some (.ret (.int .i64 i2),σ44)))) (fun v23 σ24=>
 dfT Tryz.prog Lb n 104 [.ptr a4] (some v23) σ24 fun u25 σ26=>
 lvK u25 (fun v27=>some (.pan v27,σ26)) (some (.ret (.int .i64 i2),σ26)))) (fun v15 σ16=>
 dfT Tryz.prog Lb n 104 [.ptr a4] (some v15) σ16 fun u17 σ18=>
 lvK u17 (fun v19=>some (.pan v19,σ18)) (some (.ret (.int .i64 i2),σ18)))) (f122_j6 L i2 i3 a4 σ5)) (fun v7 σ8=>
 dfT Tryz.prog Lb n 104 [.ptr a4] (some v7) σ8 fun u9 σ10=>
 lvK u9 (fun v11=>some (.pan v11,σ10)) (some (.ret (.int .i64 i2),σ10)))
theorem f122_l5_g:f122_l5 (goT Tryz.prog Lb 122 n L [[1,1,1,1,1,1,1]]) (m0 + 1) a1 i2 i3 a4 σ = f122_l5_t L n m0 a1 i2 i3 a4 σ:=by kernel_rfl
theorem f122_l5_e:Le (f122_l5_t (pt Tryz.prog Lb 122 n) n m0 a1 i2 i3 a4 σ) (f122_l5 (pt Tryz.prog Lb 122 n) (m0 + 1) a1 i2 i3 a4 σ):=by
 unfold f122_l5;exact goT_pt f122_l5_g
noncomputable def f122_j6_t (_:Leaf) (n:Nat) (_ i2:Int) (a3:Ad) (σ:St):Out:=
 dfT Tryz.prog Lb n 104 [.ptr a3] none σ fun u4 σ5=>
 lvK u4 (fun v6=>some (.pan v6,σ5)) (some (.ret (.int .i64 i2),σ5))
theorem f122_j6_g:f122_j6 (goT Tryz.prog Lb 122 n L []) i1 i2 a3 σ = f122_j6_t L n i1 i2 a3 σ:=by kernel_rfl
theorem f122_j6_e:Le (f122_j6_t (pt Tryz.prog Lb 122 n) n i1 i2 a3 σ) (f122_j6 (pt Tryz.prog Lb 122 n) i1 i2 a3 σ):=by
 unfold f122_j6;exact goT_pt f122_j6_g
noncomputable def f123_l1 (L:Leaf) (m0:Nat) (s1:By) (i2:Int) (a3:Ad) (n4:Nat) (c5:On) (z6:Nat) (i7 i8:Int) (σ:St):Out:=
 L [1,1,0,1,0] [m0] ⟨tm 20 [(0,.v (.str s1)),(2,.v (.int .i64 i2)),(7,.v (.slice a3 n4 c5 z6)),(8,.v (.int .i64 i7)),(9,.v (.int .i64 i8))] 0,[],[]⟩ σ
noncomputable def f123_j2 (L:Leaf) (i1:Int) (σ:St):Out:=
 L [1,1,1] [] ⟨tm 20 [(2,.v (.int .i64 i1))] 0,[],[]⟩ σ
noncomputable def f123_t (L:Leaf) (n:Nat) (s1:By) (σ:St):Out:=
 callT Tryz.prog Lb n 51 [.str [42,32,47,32,37,32,43,32,45,32,60,60,32,62,62,32,60,32,60,61,32,62,32,62,61,32,61,61,32,33,61,32,38,32,94,32,124,32,38,38,32,124,124]] σ fun v3 σ2=>
 xSl v3 fun a4 n5 c6 z7=>
 f123_l1 L n s1 (0:Int) a4 n5 c6 z7 (n5:Int) (0:Int) σ2
theorem f123_g:goT Tryz.prog Lb 123 n L [] [] [] ⟨tm 20 [(0,.v (.str s1))] 0,[],[]⟩ σ = f123_t L n s1 σ:=by kernel_rfl
theorem f123_e:Le (f123_t (pt Tryz.prog Lb 123 n) n s1 σ) (callP Tryz.prog Lb (n + 1) 123 [.str s1] σ):=
 goT_call f123_g rfl (by kernel_rfl) (by kernel_rfl)
noncomputable def f123_l1_t (L:Leaf) (_ m0:Nat) (s1:By) (i2:Int) (a3:Ad) (n4:Nat) (c5:On) (z6:Nat) (i7 i8:Int) (σ:St):Out:=
 cond (decide (i8 < i7)) (idxK i8 n4 <|
 derefK a3 fun b9 o10=>
 szK z6 1 <|
 ldK Tryz.prog 9 σ b9 (o10 + ((i8).toNat * 1)) fun x11=>
 xStr x11 fun s12=>
 cond (s12 == s1) (some (.ret (.int .i64 (IntKind.wrap .i64 ((4:Int) + i8))),σ)) (f123_l1 L m0 s1 i2 a3 n4 c5 z6 i7 (IntKind.wrap .i64 (i8 + (1:Int))) σ)) (f123_j2 L i2 σ)
theorem f123_l1_g:f123_l1 (goT Tryz.prog Lb 123 n L [[1,1,1]]) (m0 + 1) s1 i2 a3 n4 c5 z6 i7 i8 σ = f123_l1_t L n m0 s1 i2 a3 n4 c5 z6 i7 i8 σ:=by kernel_rfl
theorem f123_l1_e:Le (f123_l1_t (pt Tryz.prog Lb 123 n) n m0 s1 i2 a3 n4 c5 z6 i7 i8 σ) (f123_l1 (pt Tryz.prog Lb 123 n) (m0 + 1) s1 i2 a3 n4 c5 z6 i7 i8 σ):=by
 unfold f123_l1;exact goT_pt f123_l1_g
noncomputable def f123_j2_t (_:Leaf) (_:Nat) (_:Int) (σ:St):Out:=
 some (.ret (.int .i64 (0:Int)),σ)
theorem f123_j2_g:f123_j2 (goT Tryz.prog Lb 123 n L []) i1 σ = f123_j2_t L n i1 σ:=by kernel_rfl
theorem f123_j2_e:Le (f123_j2_t (pt Tryz.prog Lb 123 n) n i1 σ) (f123_j2 (pt Tryz.prog Lb 123 n) i1 σ):=by
 unfold f123_j2;exact goT_pt f123_j2_g
noncomputable def f131_t (_:Leaf) (n:Nat) (a1:Ad) (σ:St):Out:=
 derefK a1 fun b2 o3=>
 ldK Tryz.prog 44 σ b2 (o3 + 2) fun x4=>
 xAgg x4 fun cs5=>
 unC cs5 fun x6 r7=>
 xInt .i64 x6 fun i8=>
 unC r7 fun x9 r10=>
 xInt .i64 x9 fun i11=>
 unC r10 fun x12 r13=>
 xStr x12 fun s14=>
 unC r13 fun x15 r16=>
 xInt .i64 x15 fun i17=>
 nlC r16 <|
 cond (i8 == (3:Int)) (callT Tryz.prog Lb n 58 [.ptr a1] σ fun v19 σ18=>
 xAgg v19 fun cs20=>
 unC cs20 fun x21 r22=>
 xInt .i64 x21 fun _=>
 unC r22 fun x24 r25=>
 xInt .i64 x24 fun _=>
 unC r25 fun x27 r28=>
 xStr x27 fun _=>
 unC r28 fun x30 r31=>
 xInt .i64 x30 fun _=>
 nlC r31 <|
 callT Tryz.prog Lb n 14 [.ptr a1,.agg [.int .i64 (1:Int),.int .i64 i11,.str [],.int .i64 i17,.int .i64 (0:Int),.slice none 0 (some 0) 0]] σ18 fun v34 σ33=>
 xInt .i64 v34 fun i35=>
 some (.ret (.int .i64 i35),σ33)) (cond (i8 == (4:Int)) (callT Tryz.prog Lb n 58 [.ptr a1] σ fun v37 σ36=>
 xAgg v37 fun cs38=>
 unC cs38 fun x39 r40=>
 xInt .i64 x39 fun _=>
 unC r40 fun x42 r43=>
 xInt .i64 x42 fun _=>
 unC r43 fun x45 r46=>
 xStr x45 fun _=>
 unC r46 fun x48 r49=>
 xInt .i64 x48 fun _=>
 nlC r49 <|
 callT Tryz.prog Lb n 14 [.ptr a1,.agg [.int .i64 (2:Int),.int .i64 i11,.str s14,.int .i64 (0:Int),.int .i64 (0:Int),.slice none 0 (some 0) 0]] σ36 fun v52 σ51=>
 xInt .i64 v52 fun i53=>
 some (.ret (.int .i64 i53),σ51)) (cond (i8 == (1:Int)) (callT Tryz.prog Lb n 58 [.ptr a1] σ fun v55 σ54=>
 xAgg v55 fun cs56=>
 unC cs56 fun x57 r58=>
 xInt .i64 x57 fun _=>
 unC r58 fun x60 r61=>
 xInt .i64 x60 fun _=>
 unC r61 fun x63 r64=>
 xStr x63 fun _=>
 unC r64 fun x66 r67=>
 xInt .i64 x66 fun _=>
 nlC r67 <|
 callT Tryz.prog Lb n 35 [.ptr a1,.str [40]] σ54 fun v70 σ69=>
 xBool v70 fun b71=>
 cond (!b71) (callT Tryz.prog Lb n 14 [.ptr a1,.agg [.int .i64 (3:Int),.int .i64 i11,.str s14,.int .i64 (0:Int),.int .i64 (0:Int),.slice none 0 (some 0) 0]] σ69 fun v73 σ72=>
 xInt .i64 v73 fun i74=>
 some (.ret (.int .i64 i74),σ72)) (callT Tryz.prog Lb n 58 [.ptr a1] σ69 fun v76 σ75=>
 xAgg v76 fun cs77=>
 unC cs77 fun x78 r79=>
 xInt .i64 x78 fun _=>
 unC r79 fun x81 r82=>
 xInt .i64 x81 fun _=>
 unC r82 fun x84 r85=>
 xStr x84 fun _=>
 unC r85 fun x87 r88=>
 xInt .i64 x87 fun _=>
 nlC r88 <|
 callT Tryz.prog Lb n 138 [.ptr a1] σ75 fun v91 σ90=>
 xSl v91 fun a92 n93 c94 z95=>
 callT Tryz.prog Lb n 14 [.ptr a1,.agg [.int .i64 (4:Int),.int .i64 i11,.str s14,.int .i64 (0:Int),.int .i64 (0:Int),.slice a92 n93 c94 z95]] σ90 fun v97 σ96=>
 xInt .i64 v97 fun i98=>
 some (.ret (.int .i64 i98),σ96))) (callT Tryz.prog Lb n 33 [.ptr a1,.str [40]] σ fun _ σ99=>
 callT Tryz.prog Lb n 106 [.ptr a1,.int .i64 (1:Int)] σ99 fun v102 σ101=>
 xInt .i64 v102 fun i103=>
 callT Tryz.prog Lb n 33 [.ptr a1,.str [41]] σ101 fun _ σ104=>
 some (.ret (.int .i64 i103),σ104))))
theorem f131_g:goT Tryz.prog Lb 131 n L [] [] [] ⟨tm 67 [(0,.v (.ptr a1))] 0,[],[]⟩ σ = f131_t L n a1 σ:=by kernel_rfl
theorem f131_e:Le (f131_t (pt Tryz.prog Lb 131 n) n a1 σ) (callP Tryz.prog Lb (n + 1) 131 [.ptr a1] σ):=
 goT_call f131_g rfl (by kernel_rfl) (by kernel_rfl)
noncomputable def f138_l1 (L:Leaf) (m0:Nat) (a1 a2:Ad) (n3:Nat) (c4:On) (z5:Nat) (a6:Ad) (n7:Nat) (c8:On) (z9:Nat) (σ:St):Out:=
 L [1,1,1,0] [m0] ⟨tm 16 [(0,.v (.ptr a1)),(2,.v (.slice a2 n3 c4 z5)),(3,.v (.slice a6 n7 c8 z9))] 0,[],[]⟩ σ
noncomputable def f138_t (L:Leaf) (n:Nat) (a1:Ad) (σ:St):Out:=
 callT Tryz.prog Lb n 32 [.ptr a1,.str [41]] σ fun v3 σ2=>
 xBool v3 fun b4=>
 cond b4 (some (.ret (.slice none 0 (some 0) 0),σ2)) (f138_l1 L n a1 none 0 (some 0) 0 none 0 (some 0) 0 σ2)
theorem f138_g:goT Tryz.prog Lb 138 n L [] [] [] ⟨tm 16 [(0,.v (.ptr a1))] 0,[],[]⟩ σ = f138_t L n a1 σ:=by kernel_rfl
theorem f138_e:Le (f138_t (pt Tryz.prog Lb 138 n) n a1 σ) (callP Tryz.prog Lb (n + 1) 138 [.ptr a1] σ):=
 goT_call f138_g rfl (by kernel_rfl) (by kernel_rfl)
noncomputable def f138_l1_t (L:Leaf) (n m0:Nat) (a1 a2:Ad) (n3:Nat) (c4:On) (z5:Nat) (a6:Ad) (n7:Nat) (_:On) (z9:Nat) (σ:St):Out:=
 callT Tryz.prog Lb n 106 [.ptr a1,.int .i64 (1:Int)] σ fun v11 σ10=>
 xInt .i64 v11 fun i12=>
 appK σ10 3 1 8 a6 n7 z9 1 [.int .i64 i12] fun a13 n14 c15 σ16=>
 callT Tryz.prog Lb n 32 [.ptr a1,.str [41]] σ16 fun v18 σ17=>
 xBool v18 fun b19=>
 cond b19 (some (.ret (.slice a13 n14 c15 1),σ17)) (callT Tryz.prog Lb n 33 [.ptr a1,.str [44]] σ17 fun _ σ20=>
 f138_l1 L m0 a1 a2 n3 c4 z5 a13 n14 c15 1 σ20)
theorem f138_l1_g:f138_l1 (goT Tryz.prog Lb 138 n L []) (m0 + 1) a1 a2 n3 c4 z5 a6 n7 c8 z9 σ = f138_l1_t L n m0 a1 a2 n3 c4 z5 a6 n7 c8 z9 σ:=by kernel_rfl
theorem f138_l1_e:Le (f138_l1_t (pt Tryz.prog Lb 138 n) n m0 a1 a2 n3 c4 z5 a6 n7 c8 z9 σ) (f138_l1 (pt Tryz.prog Lb 138 n) (m0 + 1) a1 a2 n3 c4 z5 a6 n7 c8 z9 σ):=by
 unfold f138_l1;exact goT_pt f138_l1_g
end Go.Proofs

/- The functions, as trees of named steps. -/
import Derived.Test.YtlbieeajocjpeaaGreatDoorAmT
import Derived.Test.YtlbieeajocjpeaaGreatDoorBuilder
import Derived.Test.YtlbieeajocjpeaaGreatDoorChecked
namespace Go.Proofs
open Go.AM
set_option maxHeartbeats 4000000
variable {L:Leaf} {n m0 n4 z6 m1 n2 z4 n3 z5 b4 o5:Nat} {a1 a3 a2:Ad} {σ:St} {i2 i3 i4 i6 i5 i7 i8 i9 i10 i12 i1 i11:Int} {s5 s6 s11 s4 s1 s8 s9 s10 s2:By} {c5 c3 c4:On} {b2 b7:Bool}
set_option maxRecDepth 100000
noncomputable def f12_l1 (L:Leaf) (m0:Nat) (a1:Ad) (i2 i3 i4:Int) (s5:By) (i6:Int) (σ:St):Out:=
 L [1,1,1,1,1,0,0,1,0,0,0] [m0] ⟨tm 205 [(0,.v (.ptr a1)),(2,.lp 2 0),(3,.v (.int .i64 i2))] 0,[(2,[.int .i64 i3,.int .i64 i4,.str s5,.int .i64 i6])],[]⟩ σ
noncomputable def f12_l2 (L:Leaf) (m0:Nat) (a1:Ad) (i2 i3 i4 i5:Int) (s6:By) (i7:Int) (σ:St):Out:=
 L [1,1,1,1,1,0,0,1,1,1,0,0,0] [m0] ⟨tm 205 [(0,.v (.ptr a1)),(2,.lp 2 0),(3,.v (.int .i64 i2)),(4,.v (.int .u8 i3))] 0,[(2,[.int .i64 i4,.int .i64 i5,.str s6,.int .i64 i7])],[]⟩ σ
noncomputable def f12_j3 (L:Leaf) (a1:Ad) (i2 i3 i4:Int) (s5:By) (i6:Int) (σ:St):Out:=
 L [1,1,1,1,1,1] [] ⟨tm 205 [(0,.v (.ptr a1)),(2,.lp 2 0),(3,.v (.int .i64 i2))] 0,[(2,[.int .i64 i3,.int .i64 i4,.str s5,.int .i64 i6])],[]⟩ σ
noncomputable def f12_j4 (L:Leaf) (a1:Ad) (i2 i3 i4:Int) (s5:By) (i6:Int) (σ:St):Out:=
 L [1,1,1,1,1,0,0,1,0,1] [] ⟨tm 205 [(0,.v (.ptr a1)),(2,.lp 2 0),(3,.v (.int .i64 i2))] 0,[(2,[.int .i64 i3,.int .i64 i4,.str s5,.int .i64 i6])],[]⟩ σ
noncomputable def f12_j5 (L:Leaf) (a1:Ad) (i2 i3 i4 i5:Int) (s6:By) (i7:Int) (σ:St):Out:=
 L [1,1,1,1,1,0,0,1,1,1,0,1] [] ⟨tm 205 [(0,.v (.ptr a1)),(2,.lp 2 0),(3,.v (.int .i64 i2)),(4,.v (.int .u8 i3))] 0,[(2,[.int .i64 i4,.int .i64 i5,.str s6,.int .i64 i7])],[]⟩ σ
noncomputable def f12_l6 (L:Leaf) (m0:Nat) (a1:Ad) (i2:Int) (a3:Ad) (n4:Nat) (c5:On) (z6:Nat) (i7 i8 i9 i10:Int) (s11:By) (i12:Int) (σ:St):Out:=
 L [1,1,1,1,1,1,0,1,0] [m0] ⟨tm 205 [(0,.v (.ptr a1)),(2,.lp 2 0),(3,.v (.int .i64 i2)),(175,.v (.slice a3 n4 c5 z6)),(176,.v (.int .i64 i7)),(177,.v (.int .i64 i8))] 0,[(2,[.int .i64 i9,.int .i64 i10,.str s11,.int .i64 i12])],[]⟩ σ
noncomputable def f12_j7 (L:Leaf) (a1:Ad) (i2 i3 i4 i5:Int) (s6:By) (i7:Int) (σ:St):Out:=
 L [1,1,1,1,1,0,0,1,1,1,0,1,1,1] [] ⟨tm 205 [(0,.v (.ptr a1)),(2,.lp 2 0),(3,.v (.int .i64 i2)),(6,.v (.int .i64 i3))] 0,[(2,[.int .i64 i4,.int .i64 i5,.str s6,.int .i64 i7])],[]⟩ σ
noncomputable def f12_j8 (L:Leaf) (i1 i2 i3:Int) (s4:By) (i5:Int) (σ:St):Out:=
 L [1,1,1,1,1,1,1] [] ⟨tm 205 [(2,.lp 2 0),(3,.v (.int .i64 i1))] 0,[(2,[.int .i64 i2,.int .i64 i3,.str s4,.int .i64 i5])],[]⟩ σ
noncomputable def f12_t (L:Leaf) (n:Nat) (a1:Ad) (σ:St):Out:=
 callT Tryz.prog Lb n 22 [.ptr a1] σ fun _ σ2=>
 derefK a1 fun b4 o5=>
 ldK Tryz.prog 3 σ2 b4 (o5 + 1) fun x6=>
 xInt .i64 x6 fun i7=>
 derefK a1 fun b8 o9=>
 ldK Tryz.prog 9 σ2 b8 (o9 + 0) fun x10=>
 xStr x10 fun s11=>
 cond (i7 == (s11.length:Int)) (some (.ret (.agg [.int .i64 (0:Int),.int .i64 i7,.str [],.int .i64 (0:Int)]),σ2)) (derefK a1 fun b12 o13=>
 ldK Tryz.prog 9 σ2 b12 (o13 + 0) fun x14=>
 xStr x14 fun s15=>
 byteK s15 i7 fun u16=>
 callT Tryz.prog Lb n 23 [.int .u8 (u16.toNat:Int)] σ2 fun v18 σ17=>
 xBool v18 fun b19=>
 cond b19 (f12_l1 L n a1 i7 (0:Int) (0:Int) [] (0:Int) σ17) (callT Tryz.prog Lb n 24 [.int .u8 (u16.toNat:Int)] σ17 fun v21 σ20=>
 xBool v21 fun b22=>
 cond b22 (f12_l2 L n a1 i7 (u16.toNat:Int) (0:Int) (0:Int) [] (0:Int) σ20) (cond ((u16.toNat:Int) == (34:Int)) (callT Tryz.prog Lb n 29 [.ptr a1,.int .i64 i7] σ20 fun v24 σ23=>
 xAgg v24 fun cs25=>
 unC cs25 fun x26 r27=>
 xInt .i64 x26 fun i28=>
 unC r27 fun x29 r30=>
 xInt .i64 x29 fun i31=>
 unC r30 fun x32 r33=>
 xStr x32 fun s34=>
 unC r33 fun x35 r36=>
 xInt .i64 x35 fun i37=>
 nlC r36 <|
 some (.ret (.agg [.int .i64 i28,.int .i64 i31,.str s34,.int .i64 i37]),σ23)) (cond ((u16.toNat:Int) == (39:Int)) (callT Tryz.prog Lb n 29 [.ptr a1,.int .i64 i7] σ20 fun v39 σ38=>
 xAgg v39 fun cs40=>
 unC cs40 fun x41 r42=>
 xInt .i64 x41 fun i43=>
 unC r42 fun x44 r45=>
 xInt .i64 x44 fun i46=>
 unC r45 fun x47 r48=>
 xStr x47 fun s49=>
 unC r48 fun x50 r51=>
 xInt .i64 x50 fun i52=>
 nlC r51 <|
 some (.ret (.agg [.int .i64 i43,.int .i64 i46,.str s49,.int .i64 i52]),σ38)) (f12_j3 L a1 i7 (0:Int) (0:Int) [] (0:Int) σ20)))))
theorem f12_g:goT Tryz.prog Lb 12 n L [[1,1,1,1,1,1]] [] [] ⟨tm 205 [(0,.v (.ptr a1))] 0,[],[]⟩ σ = f12_t L n a1 σ:=by kernel_rfl
theorem f12_e:Le (f12_t (pt Tryz.prog Lb 12 n) n a1 σ) (callP Tryz.prog Lb (n + 1) 12 [.ptr a1] σ):=
 goT_call f12_g rfl (by kernel_rfl) (by kernel_rfl)
noncomputable def f12_l1_t (L:Leaf) (n m0:Nat) (a1:Ad) (i2 i3 i4:Int) (s5:By) (i6:Int) (σ:St):Out:=
 derefK a1 fun b7 o8=>
 ldK Tryz.prog 3 σ b7 (o8 + 1) fun x9=>
 xInt .i64 x9 fun i10=>
 derefK a1 fun b11 o12=>
 ldK Tryz.prog 9 σ b11 (o12 + 0) fun x13=>
 xStr x13 fun s14=>
 cond (decide (i10 < (s14.length:Int))) (derefK a1 fun b15 o16=>
 ldK Tryz.prog 9 σ b15 (o16 + 0) fun x17=>
 xStr x17 fun s18=>
 derefK a1 fun b19 o20=>
 ldK Tryz.prog 3 σ b19 (o20 + 1) fun x21=>
 xInt .i64 x21 fun i22=>
 byteK s18 i22 fun u23=>
 callTD Tryz.prog Lb n 23 [.int .u8 (u23.toNat:Int)] σ fun v25 σ24=>
 xBool v25 fun b26=>
 cond b26 (derefK a1 fun b27 o28=>
 ldK Tryz.prog 3 σ24 b27 (o28 + 1) fun x29=>
 xInt .i64 x29 fun i30=>
 derefK a1 fun b31 o32=>
 stK σ24 b31 (o32 + 1) [.int .i64 (IntKind.wrap .i64 (i30 + (1:Int)))] fun σ33=>
 f12_l1 L m0 a1 i2 i3 i4 s5 i6 σ33) (derefK a1 fun b34 o35=>
 ldK Tryz.prog 9 σ24 b34 (o35 + 0) fun x36=>
 xStr x36 fun s37=>
 derefK a1 fun b38 o39=>
 ldK Tryz.prog 3 σ24 b38 (o39 + 1) fun x40=>
 xInt .i64 x40 fun i41=>
 byteK s37 i41 fun u42=>
 callTD Tryz.prog Lb n 24 [.int .u8 (u42.toNat:Int)] σ24 fun v44 σ43=>
 xBool v44 fun b45=>
 cond b45 (derefK a1 fun b46 o47=>
 ldK Tryz.prog 3 σ43 b46 (o47 + 1) fun x48=>
 xInt .i64 x48 fun i49=>
 derefK a1 fun b50 o51=>
 stK σ43 b50 (o51 + 1) [.int .i64 (IntKind.wrap .i64 (i49 + (1:Int)))] fun σ52=>
 f12_l1 L m0 a1 i2 i3 i4 s5 i6 σ52) (f12_j4 L a1 i2 i3 i4 s5 i6 σ43))) (f12_j4 L a1 i2 i3 i4 s5 i6 σ)
theorem f12_l1_g:f12_l1 (goT Tryz.prog Lb 12 n L [[1,1,1,1,1,0,0,1,0,1]]) (m0 + 1) a1 i2 i3 i4 s5 i6 σ = f12_l1_t L n m0 a1 i2 i3 i4 s5 i6 σ:=by kernel_rfl
theorem f12_l1_e:Le (f12_l1_t (pt Tryz.prog Lb 12 n) n m0 a1 i2 i3 i4 s5 i6 σ) (f12_l1 (pt Tryz.prog Lb 12 n) (m0 + 1) a1 i2 i3 i4 s5 i6 σ):=by
 unfold f12_l1;exact goT_pt f12_l1_g
noncomputable def f12_l2_t (L:Leaf) (n m0:Nat) (a1:Ad) (i2 i3 i4 i5:Int) (s6:By) (i7:Int) (σ:St):Out:=
 derefK a1 fun b8 o9=>
 ldK Tryz.prog 3 σ b8 (o9 + 1) fun x10=>
 xInt .i64 x10 fun i11=>
 derefK a1 fun b12 o13=>
 ldK Tryz.prog 9 σ b12 (o13 + 0) fun x14=>
 xStr x14 fun s15=>
 cond (decide (i11 < (s15.length:Int))) (derefK a1 fun b16 o17=>
 ldK Tryz.prog 9 σ b16 (o17 + 0) fun x18=>
 xStr x18 fun s19=>
 derefK a1 fun b20 o21=>
 ldK Tryz.prog 3 σ b20 (o21 + 1) fun x22=>
 xInt .i64 x22 fun i23=>
 byteK s19 i23 fun u24=>
 callTD Tryz.prog Lb n 24 [.int .u8 (u24.toNat:Int)] σ fun v26 σ25=>
 xBool v26 fun b27=>
 cond b27 (derefK a1 fun b28 o29=>
 ldK Tryz.prog 3 σ25 b28 (o29 + 1) fun x30=>
 xInt .i64 x30 fun i31=>
 derefK a1 fun b32 o33=>
 stK σ25 b32 (o33 + 1) [.int .i64 (IntKind.wrap .i64 (i31 + (1:Int)))] fun σ34=>
 f12_l2 L m0 a1 i2 i3 i4 i5 s6 i7 σ34) (f12_j5 L a1 i2 i3 i4 i5 s6 i7 σ25)) (f12_j5 L a1 i2 i3 i4 i5 s6 i7 σ)
theorem f12_l2_g:f12_l2 (goT Tryz.prog Lb 12 n L [[1,1,1,1,1,0,0,1,1,1,0,1]]) (m0 + 1) a1 i2 i3 i4 i5 s6 i7 σ = f12_l2_t L n m0 a1 i2 i3 i4 i5 s6 i7 σ:=by kernel_rfl
theorem f12_l2_e:Le (f12_l2_t (pt Tryz.prog Lb 12 n) n m0 a1 i2 i3 i4 i5 s6 i7 σ) (f12_l2 (pt Tryz.prog Lb 12 n) (m0 + 1) a1 i2 i3 i4 i5 s6 i7 σ):=by
 unfold f12_l2;exact goT_pt f12_l2_g
noncomputable def f12_j3_t (L:Leaf) (n:Nat) (a1:Ad) (i2 i3 i4:Int) (s5:By) (i6:Int) (σ:St):Out:=
 callT Tryz.prog Lb n 30 [] σ fun v8 σ7=>
 xSl v8 fun a9 n10 c11 z12=>
 f12_l6 L n a1 i2 a9 n10 c11 z12 (n10:Int) (0:Int) i3 i4 s5 i6 σ7
theorem f12_j3_g:f12_j3 (goT Tryz.prog Lb 12 n L []) a1 i2 i3 i4 s5 i6 σ = f12_j3_t L n a1 i2 i3 i4 s5 i6 σ:=by kernel_rfl
theorem f12_j3_e:Le (f12_j3_t (pt Tryz.prog Lb 12 n) n a1 i2 i3 i4 s5 i6 σ) (f12_j3 (pt Tryz.prog Lb 12 n) a1 i2 i3 i4 s5 i6 σ):=by
 unfold f12_j3;exact goT_pt f12_j3_g
noncomputable def f12_j4_t (_:Leaf) (n:Nat) (a1:Ad) (i2 _ _:Int) (_:By) (_:Int) (σ:St):Out:=
 derefK a1 fun b7 o8=>
 ldK Tryz.prog 9 σ b7 (o8 + 0) fun x9=>
 xStr x9 fun s10=>
 derefK a1 fun b11 o12=>
 ldK Tryz.prog 3 σ b11 (o12 + 1) fun x13=>
 xInt .i64 x13 fun i14=>
 cutK s10 i2 i14 fun s15=>
 callT Tryz.prog Lb n 26 [] σ fun v17 σ16=>
 xSl v17 fun a18 n19 c20 z21=>
 callT Tryz.prog Lb n 25 [.slice a18 n19 c20 z21,.str s15] σ16 fun v23 σ22=>
 xBool v23 fun b24=>
 cond b24 (some (.ret (.agg [.int .i64 (2:Int),.int .i64 i2,.str s15,.int .i64 (0:Int)]),σ22)) (cond (decide ((s15.length:Int) > (14:Int))) (callT Tryz.prog Lb n 27 [.int .i64 (13:Int),.int .i64 i2] σ22 fun _ σ25=>
 some (.ret (.agg [.int .i64 (1:Int),.int .i64 i2,.str s15,.int .i64 (0:Int)]),σ25)) (some (.ret (.agg [.int .i64 (1:Int),.int .i64 i2,.str s15,.int .i64 (0:Int)]),σ22)))
theorem f12_j4_g:f12_j4 (goT Tryz.prog Lb 12 n L []) a1 i2 i3 i4 s5 i6 σ = f12_j4_t L n a1 i2 i3 i4 s5 i6 σ:=by kernel_rfl
theorem f12_j4_e:Le (f12_j4_t (pt Tryz.prog Lb 12 n) n a1 i2 i3 i4 s5 i6 σ) (f12_j4 (pt Tryz.prog Lb 12 n) a1 i2 i3 i4 s5 i6 σ):=by
 unfold f12_j4;exact goT_pt f12_j4_g
noncomputable def f12_j5_t (L:Leaf) (n:Nat) (a1:Ad) (i2 i3 i4 i5:Int) (s6:By) (i7:Int) (σ:St):Out:=
 derefK a1 fun b8 o9=>
 ldK Tryz.prog 9 σ b8 (o9 + 0) fun x10=>
 xStr x10 fun s11=>
 derefK a1 fun b12 o13=>
 ldK Tryz.prog 3 σ b12 (o13 + 1) fun x14=>
 xInt .i64 x14 fun i15=>
 cutK s11 i2 i15 fun s16=>
 callTD Tryz.prog Lb n 28 [.str s16,.int .i64 (10:Int),.int .i64 (64:Int)] σ fun v18 σ17=>
 xTup v18 fun cs19=>
 unC cs19 fun x20 r21=>
 xInt .i64 x20 fun i22=>
 unC r21 fun x23 r24=>
 nlC r24 <|
 eqK Tryz.prog 72 x23 .nilIface fun b25=>
 cond (!b25) (callT Tryz.prog Lb n 27 [.int .i64 (13:Int),.int .i64 i2] σ17 fun _ σ26=>
 f12_j7 L a1 i2 i22 i4 i5 s6 i7 σ26) (cond (i3 == (48:Int)) (derefK a1 fun b28 o29=>
 ldK Tryz.prog 3 σ17 b28 (o29 + 1) fun x30=>
 xInt .i64 x30 fun i31=>
 cond (decide (i31 > (IntKind.wrap .i64 (i2 + (1:Int))))) (callT Tryz.prog Lb n 27 [.int .i64 (13:Int),.int .i64 i2] σ17 fun _ σ32=>
 f12_j7 L a1 i2 i22 i4 i5 s6 i7 σ32) (f12_j7 L a1 i2 i22 i4 i5 s6 i7 σ17)) (f12_j7 L a1 i2 i22 i4 i5 s6 i7 σ17))
theorem f12_j5_g:f12_j5 (goT Tryz.prog Lb 12 n L [[1,1,1,1,1,0,0,1,1,1,0,1,1,1]]) a1 i2 i3 i4 i5 s6 i7 σ = f12_j5_t L n a1 i2 i3 i4 i5 s6 i7 σ:=by kernel_rfl
theorem f12_j5_e:Le (f12_j5_t (pt Tryz.prog Lb 12 n) n a1 i2 i3 i4 i5 s6 i7 σ) (f12_j5 (pt Tryz.prog Lb 12 n) a1 i2 i3 i4 i5 s6 i7 σ):=by
 unfold f12_j5;exact goT_pt f12_j5_g
noncomputable def f12_l6_t (L:Leaf) (n m0:Nat) (a1:Ad) (i2:Int) (a3:Ad) (n4:Nat) (c5:On) (z6:Nat) (i7 i8 i9 i10:Int) (s11:By) (i12:Int) (σ:St):Out:=
 cond (decide (i8 < i7)) (idxK i8 n4 <|
 derefK a3 fun b13 o14=>
 szK z6 1 <|
 ldK Tryz.prog 9 σ b13 (o14 + ((i8).toNat * 1)) fun x15=>
 xStr x15 fun s16=>
 derefK a1 fun b17 o18=>
 ldK Tryz.prog 9 σ b17 (o18 + 0) fun x19=>
 xStr x19 fun s20=>
 cutK s20 i2 (s20.length:Int) fun s21=>
 callT Tryz.prog Lb n 31 [.str s21,.str s16] σ fun v23 σ22=>
 xBool v23 fun b24=>
 cond b24 (derefK a1 fun b25 o26=>
 ldK Tryz.prog 3 σ22 b25 (o26 + 1) fun x27=>
 xInt .i64 x27 fun i28=>
 derefK a1 fun b29 o30=>
 stK σ22 b29 (o30 + 1) [.int .i64 (IntKind.wrap .i64 (i28 + (s16.length:Int)))] fun σ31=>
 some (.ret (.agg [.int .i64 (5:Int),.int .i64 i2,.str s16,.int .i64 (0:Int)]),σ31)) (f12_l6 L m0 a1 i2 a3 n4 c5 z6 i7 (IntKind.wrap .i64 (i8 + (1:Int))) i9 i10 s11 i12 σ22)) (f12_j8 L i2 i9 i10 s11 i12 σ)
theorem f12_l6_g:f12_l6 (goT Tryz.prog Lb 12 n L [[1,1,1,1,1,1,1]]) (m0 + 1) a1 i2 a3 n4 c5 z6 i7 i8 i9 i10 s11 i12 σ = f12_l6_t L n m0 a1 i2 a3 n4 c5 z6 i7 i8 i9 i10 s11 i12 σ:=by kernel_rfl
theorem f12_l6_e:Le (f12_l6_t (pt Tryz.prog Lb 12 n) n m0 a1 i2 a3 n4 c5 z6 i7 i8 i9 i10 s11 i12 σ) (f12_l6 (pt Tryz.prog Lb 12 n) (m0 + 1) a1 i2 a3 n4 c5 z6 i7 i8 i9 i10 s11 i12 σ):=by
 unfold f12_l6;exact goT_pt f12_l6_g
noncomputable def f12_j7_t (_:Leaf) (_:Nat) (_:Ad) (i2 i3 _ _:Int) (_:By) (_:Int) (σ:St):Out:=
 some (.ret (.agg [.int .i64 (3:Int),.int .i64 i2,.str [],.int .i64 i3]),σ)
theorem f12_j7_g:f12_j7 (goT Tryz.prog Lb 12 n L []) a1 i2 i3 i4 i5 s6 i7 σ = f12_j7_t L n a1 i2 i3 i4 i5 s6 i7 σ:=by kernel_rfl
theorem f12_j7_e:Le (f12_j7_t (pt Tryz.prog Lb 12 n) n a1 i2 i3 i4 i5 s6 i7 σ) (f12_j7 (pt Tryz.prog Lb 12 n) a1 i2 i3 i4 i5 s6 i7 σ):=by
 unfold f12_j7;exact goT_pt f12_j7_g
noncomputable def f12_j8_t (_:Leaf) (n:Nat) (i1 _ _:Int) (_:By) (_:Int) (σ:St):Out:=
 callT Tryz.prog Lb n 27 [.int .i64 (13:Int),.int .i64 i1] σ fun _ σ6=>
 some (.ret (.agg [.int .i64 (0:Int),.int .i64 (0:Int),.str [],.int .i64 (0:Int)]),σ6)
theorem f12_j8_g:f12_j8 (goT Tryz.prog Lb 12 n L []) i1 i2 i3 s4 i5 σ = f12_j8_t L n i1 i2 i3 s4 i5 σ:=by kernel_rfl
theorem f12_j8_e:Le (f12_j8_t (pt Tryz.prog Lb 12 n) n i1 i2 i3 s4 i5 σ) (f12_j8 (pt Tryz.prog Lb 12 n) i1 i2 i3 s4 i5 σ):=by
 unfold f12_j8;exact goT_pt f12_j8_g
noncomputable def f22_l1 (L:Leaf) (m0:Nat) (a1:Ad) (σ:St):Out:=
 L [0] [m0] ⟨tm 80 [(0,.v (.ptr a1))] 0,[],[]⟩ σ
noncomputable def f22_j2 (L:Leaf) (m0:Nat) (a1:Ad) (σ:St):Out:=
 L [0,0,1,0,1,0,1] [m0] ⟨tm 80 [(0,.v (.ptr a1)),(22,.v (.bool true))] 0,[],[]⟩ σ
noncomputable def f22_j3 (L:Leaf) (m0:Nat) (a1:Ad) (b2:Bool) (σ:St):Out:=
 L [0,0,1,0,1,0,1] [m0] ⟨tm 80 [(0,.v (.ptr a1)),(22,.v (.bool b2))] 0,[],[]⟩ σ
noncomputable def f22_l4 (L:Leaf) (m0 m1:Nat) (a1:Ad) (σ:St):Out:=
 L [0,0,1,0,1,0,1,1,1,0,0] [m0,m1] ⟨tm 80 [(0,.v (.ptr a1))] 0,[],[]⟩ σ
noncomputable def f22_t (L:Leaf) (n:Nat) (a1:Ad) (σ:St):Out:=
 f22_l1 L n a1 σ
theorem f22_g:goT Tryz.prog Lb 22 n L [] [] [] ⟨tm 80 [(0,.v (.ptr a1))] 0,[],[]⟩ σ = f22_t L n a1 σ:=by kernel_rfl
theorem f22_e:Le (f22_t (pt Tryz.prog Lb 22 n) n a1 σ) (callP Tryz.prog Lb (n + 1) 22 [.ptr a1] σ):=
 goT_call f22_g rfl (by kernel_rfl) (by kernel_rfl)
noncomputable def f22_l1_t (L:Leaf) (_ m0:Nat) (a1:Ad) (σ:St):Out:=
 derefK a1 fun b2 o3=>
 ldK Tryz.prog 3 σ b2 (o3 + 1) fun x4=>
 xInt .i64 x4 fun i5=>
 derefK a1 fun b6 o7=>
 ldK Tryz.prog 9 σ b6 (o7 + 0) fun x8=>
 xStr x8 fun s9=>
 cond (decide (i5 < (s9.length:Int))) (derefK a1 fun b10 o11=>
 ldK Tryz.prog 9 σ b10 (o11 + 0) fun x12=>
 xStr x12 fun s13=>
 derefK a1 fun b14 o15=>
 ldK Tryz.prog 3 σ b14 (o15 + 1) fun x16=>
 xInt .i64 x16 fun i17=>
 byteK s13 i17 fun u18=>
 cond ((u18.toNat:Int) == (32:Int)) (f22_j2 L m0 a1 σ) (cond ((u18.toNat:Int) == (9:Int)) (f22_j2 L m0 a1 σ) (f22_j3 L m0 a1 ((u18.toNat:Int) == (10:Int)) σ))) (some (.ret (.tuple []),σ))
theorem f22_l1_g:f22_l1 (goT Tryz.prog Lb 22 n L [[0,0,1,0,1,0,1]]) (m0 + 1) a1 σ = f22_l1_t L n m0 a1 σ:=by kernel_rfl
theorem f22_l1_e:Le (f22_l1_t (pt Tryz.prog Lb 22 n) n m0 a1 σ) (f22_l1 (pt Tryz.prog Lb 22 n) (m0 + 1) a1 σ):=by
 unfold f22_l1;exact goT_pt f22_l1_g
noncomputable def f22_j2_t (L:Leaf) (_ m0:Nat) (a1:Ad) (σ:St):Out:=
 derefK a1 fun b2 o3=>
 ldK Tryz.prog 3 σ b2 (o3 + 1) fun x4=>
 xInt .i64 x4 fun i5=>
 derefK a1 fun b6 o7=>
 stK σ b6 (o7 + 1) [.int .i64 (IntKind.wrap .i64 (i5 + (1:Int)))] fun σ8=>
 f22_l1 L m0 a1 σ8
theorem f22_j2_g:f22_j2 (goT Tryz.prog Lb 22 n L []) m0 a1 σ = f22_j2_t L n m0 a1 σ:=by kernel_rfl
theorem f22_j2_e:Le (f22_j2_t (pt Tryz.prog Lb 22 n) n m0 a1 σ) (f22_j2 (pt Tryz.prog Lb 22 n) m0 a1 σ):=by
 unfold f22_j2;exact goT_pt f22_j2_g
noncomputable def f22_j3_t (L:Leaf) (n m0:Nat) (a1:Ad) (b2:Bool) (σ:St):Out:=
 cond b2 (derefK a1 fun b3 o4=>
 ldK Tryz.prog 3 σ b3 (o4 + 1) fun x5=>
 xInt .i64 x5 fun i6=>
 derefK a1 fun b7 o8=>
 stK σ b7 (o8 + 1) [.int .i64 (IntKind.wrap .i64 (i6 + (1:Int)))] fun σ9=>
 f22_l1 L m0 a1 σ9) (derefK a1 fun b10 o11=>
 ldK Tryz.prog 9 σ b10 (o11 + 0) fun x12=>
 xStr x12 fun s13=>
 derefK a1 fun b14 o15=>
 ldK Tryz.prog 3 σ b14 (o15 + 1) fun x16=>
 xInt .i64 x16 fun i17=>
 cutK s13 i17 (s13.length:Int) fun s18=>
 callTD Tryz.prog Lb n 31 [.str s18,.str [47,47]] σ fun v20 σ19=>
 xBool v20 fun b21=>
 cond b21 (f22_l4 L m0 n a1 σ19) (some (.ret (.tuple []),σ19)))
theorem f22_j3_g:f22_j3 (goT Tryz.prog Lb 22 n L []) m0 a1 b2 σ = f22_j3_t L n m0 a1 b2 σ:=by kernel_rfl
theorem f22_j3_e:Le (f22_j3_t (pt Tryz.prog Lb 22 n) n m0 a1 b2 σ) (f22_j3 (pt Tryz.prog Lb 22 n) m0 a1 b2 σ):=by
 unfold f22_j3;exact goT_pt f22_j3_g
noncomputable def f22_l4_t (L:Leaf) (_ m0 m1:Nat) (a1:Ad) (σ:St):Out:=
 derefK a1 fun b2 o3=>
 ldK Tryz.prog 3 σ b2 (o3 + 1) fun x4=>
 xInt .i64 x4 fun i5=>
 derefK a1 fun b6 o7=>
 ldK Tryz.prog 9 σ b6 (o7 + 0) fun x8=>
 xStr x8 fun s9=>
 cond (decide (i5 < (s9.length:Int))) (derefK a1 fun b10 o11=>
 ldK Tryz.prog 9 σ b10 (o11 + 0) fun x12=>
 xStr x12 fun s13=>
 derefK a1 fun b14 o15=>
 ldK Tryz.prog 3 σ b14 (o15 + 1) fun x16=>
 xInt .i64 x16 fun i17=>
 byteK s13 i17 fun u18=>
 cond ((u18.toNat:Int) != (10:Int)) (derefK a1 fun b19 o20=>
 ldK Tryz.prog 3 σ b19 (o20 + 1) fun x21=>
 xInt .i64 x21 fun i22=>
 derefK a1 fun b23 o24=>
 stK σ b23 (o24 + 1) [.int .i64 (IntKind.wrap .i64 (i22 + (1:Int)))] fun σ25=>
 f22_l4 L m0 m1 a1 σ25) (f22_l1 L m0 a1 σ)) (f22_l1 L m0 a1 σ)
theorem f22_l4_g:f22_l4 (goT Tryz.prog Lb 22 n L []) m0 (m1 + 1) a1 σ = f22_l4_t L n m0 m1 a1 σ:=by kernel_rfl
theorem f22_l4_e:Le (f22_l4_t (pt Tryz.prog Lb 22 n) n m0 m1 a1 σ) (f22_l4 (pt Tryz.prog Lb 22 n) m0 (m1 + 1) a1 σ):=by
 unfold f22_l4;exact goT_pt f22_l4_g
noncomputable def f23_t (_:Leaf) (_:Nat) (i1:Int) (σ:St):Out:=
 cond (decide (i1 ≥ (97:Int))) (cond (decide (i1 ≤ (122:Int))) (some (.ret (.bool true),σ)) (cond (decide (i1 ≥ (65:Int))) (cond (decide (i1 ≤ (90:Int))) (some (.ret (.bool true),σ)) (some (.ret (.bool (i1 == (95:Int))),σ))) (some (.ret (.bool (i1 == (95:Int))),σ)))) (cond (decide (i1 ≥ (65:Int))) (cond (decide (i1 ≤ (90:Int))) (some (.ret (.bool true),σ)) (some (.ret (.bool (i1 == (95:Int))),σ))) (some (.ret (.bool (i1 == (95:Int))),σ)))
theorem f23_g:goT Tryz.prog Lb 23 n L [] [] [] ⟨tm 21 [(0,.v (.int .u8 i1))] 0,[],[]⟩ σ = f23_t L n i1 σ:=by kernel_rfl
theorem f23_e:Le (f23_t (pt Tryz.prog Lb 23 n) n i1 σ) (callP Tryz.prog Lb (n + 1) 23 [.int .u8 i1] σ):=
 goT_call f23_g rfl (by kernel_rfl) (by kernel_rfl)
noncomputable def f24_t (_:Leaf) (_:Nat) (i1:Int) (σ:St):Out:=
 cond (decide (i1 ≥ (48:Int))) (some (.ret (.bool (decide (i1 ≤ (57:Int)))),σ)) (some (.ret (.bool false),σ))
theorem f24_g:goT Tryz.prog Lb 24 n L [] [] [] ⟨tm 9 [(0,.v (.int .u8 i1))] 0,[],[]⟩ σ = f24_t L n i1 σ:=by kernel_rfl
theorem f24_e:Le (f24_t (pt Tryz.prog Lb 24 n) n i1 σ) (callP Tryz.prog Lb (n + 1) 24 [.int .u8 i1] σ):=
 goT_call f24_g rfl (by kernel_rfl) (by kernel_rfl)
noncomputable def f25_l1 (L:Leaf) (m0:Nat) (s1:By) (a2:Ad) (n3:Nat) (c4:On) (z5:Nat) (i6 i7:Int) (σ:St):Out:=
 L [1,0,1,0] [m0] ⟨tm 17 [(1,.v (.str s1)),(4,.v (.bool false)),(7,.v (.slice a2 n3 c4 z5)),(8,.v (.int .i64 i6)),(9,.v (.int .i64 i7))] 0,[],[]⟩ σ
noncomputable def f25_j2 (L:Leaf)  (σ:St):Out:=
 L [1,1] [] ⟨tm 17 [(4,.v (.bool false))] 0,[],[]⟩ σ
noncomputable def f25_t (L:Leaf) (n:Nat) (a1:Ad) (n2:Nat) (c3:On) (z4:Nat) (s5:By) (σ:St):Out:=
 f25_l1 L n s5 a1 n2 c3 z4 (n2:Int) (0:Int) σ
theorem f25_g:goT Tryz.prog Lb 25 n L [] [] [] ⟨tm 17 [(0,.v (.slice a1 n2 c3 z4)),(1,.v (.str s5))] 0,[],[]⟩ σ = f25_t L n a1 n2 c3 z4 s5 σ:=by kernel_rfl
theorem f25_e:Le (f25_t (pt Tryz.prog Lb 25 n) n a1 n2 c3 z4 s5 σ) (callP Tryz.prog Lb (n + 1) 25 [.slice a1 n2 c3 z4,.str s5] σ):=
 goT_call f25_g rfl (by kernel_rfl) (by kernel_rfl)
noncomputable def f25_l1_t (L:Leaf) (_ m0:Nat) (s1:By) (a2:Ad) (n3:Nat) (c4:On) (z5:Nat) (i6 i7:Int) (σ:St):Out:=
 cond (decide (i7 < i6)) (idxK i7 n3 <|
 derefK a2 fun b8 o9=>
 szK z5 1 <|
 ldK Tryz.prog 9 σ b8 (o9 + ((i7).toNat * 1)) fun x10=>
 xStr x10 fun s11=>
 cond (s11 == s1) (some (.ret (.bool true),σ)) (f25_l1 L m0 s1 a2 n3 c4 z5 i6 (IntKind.wrap .i64 (i7 + (1:Int))) σ)) (f25_j2 L  σ)
theorem f25_l1_g:f25_l1 (goT Tryz.prog Lb 25 n L [[1,1]]) (m0 + 1) s1 a2 n3 c4 z5 i6 i7 σ = f25_l1_t L n m0 s1 a2 n3 c4 z5 i6 i7 σ:=by kernel_rfl
theorem f25_l1_e:Le (f25_l1_t (pt Tryz.prog Lb 25 n) n m0 s1 a2 n3 c4 z5 i6 i7 σ) (f25_l1 (pt Tryz.prog Lb 25 n) (m0 + 1) s1 a2 n3 c4 z5 i6 i7 σ):=by
 unfold f25_l1;exact goT_pt f25_l1_g
noncomputable def f25_j2_t (_:Leaf) (_:Nat) (σ:St):Out:=
 some (.ret (.bool false),σ)
theorem f25_j2_g:f25_j2 (goT Tryz.prog Lb 25 n L [])  σ = f25_j2_t L n  σ:=by kernel_rfl
theorem f25_j2_e:Le (f25_j2_t (pt Tryz.prog Lb 25 n) n  σ) (f25_j2 (pt Tryz.prog Lb 25 n)  σ):=by
 unfold f25_j2;exact goT_pt f25_j2_g
noncomputable def f26_t (_:Leaf) (n:Nat) (σ:St):Out:=
 callT Tryz.prog Lb n 51 [.str [105,110,116,32,99,104,97,114,32,105,102,32,101,108,115,101,32,119,104,105,108,101,32,114,101,116,117,114,110,32,98,114,101,97,107,32,99,111,110,116,105,110,117,101]] σ fun v2 σ1=>
 xSl v2 fun a3 n4 c5 z6=>
 some (.ret (.slice a3 n4 c5 z6),σ1)
theorem f26_g:goT Tryz.prog Lb 26 n L [] [] [] ⟨tm 2 [] 0,[],[]⟩ σ = f26_t L n  σ:=by kernel_rfl
theorem f26_e:Le (f26_t (pt Tryz.prog Lb 26 n) n  σ) (callP Tryz.prog Lb (n + 1) 26 [] σ):=
 goT_call f26_g rfl (by kernel_rfl) (by kernel_rfl)
noncomputable def f27_t (_:Leaf) (_:Nat) (i1 i2:Int) (σ:St):Out:=
 some (.pan (.iface 40 (.agg [.int .i64 i1,.int .i64 i2])),σ)
theorem f27_g:goT Tryz.prog Lb 27 n L [] [] [] ⟨tm 8 [(0,.v (.int .i64 i1)),(1,.v (.int .i64 i2))] 0,[],[]⟩ σ = f27_t L n i1 i2 σ:=by kernel_rfl
theorem f27_e:Le (f27_t (pt Tryz.prog Lb 27 n) n i1 i2 σ) (callP Tryz.prog Lb (n + 1) 27 [.int .i64 i1,.int .i64 i2] σ):=
 goT_call f27_g rfl (by kernel_rfl) (by kernel_rfl)
noncomputable def f29_l1 (L:Leaf) (m0:Nat) (a1:Ad) (i2 i3:Int) (b4 o5:Nat) (i6 i7:Int) (s8:By) (i9:Int) (σ:St):Out:=
 L [1,1,1,1,0,0] [m0] ⟨tm 114 [(0,.v (.ptr a1)),(1,.v (.int .i64 i2)),(4,.lp 4 0),(5,.v (.int .u8 i3)),(6,.v (.ptr (some (b4,o5))))] 0,[(4,[.int .i64 i6,.int .i64 i7,.str s8,.int .i64 i9])],[]⟩ σ
noncomputable def f29_j2 (L:Leaf) (m0:Nat) (a1:Ad) (i2 i3:Int) (b4 o5:Nat) (i6 i7:Int) (s8:By) (i9:Int) (σ:St):Out:=
 L [1,1,1,1,0,0,0,1] [m0] ⟨tm 114 [(0,.v (.ptr a1)),(1,.v (.int .i64 i2)),(4,.lp 4 0),(5,.v (.int .u8 i3)),(6,.v (.ptr (some (b4,o5))))] 0,[(4,[.int .i64 i6,.int .i64 i7,.str s8,.int .i64 i9])],[]⟩ σ
noncomputable def f29_j3 (L:Leaf) (a1:Ad) (i2 i3:Int) (b4 o5:Nat) (i6 i7:Int) (s8:By) (i9:Int) (σ:St):Out:=
 L [1,1,1,1,1] [] ⟨tm 114 [(0,.v (.ptr a1)),(1,.v (.int .i64 i2)),(4,.lp 4 0),(5,.v (.int .u8 i3)),(6,.v (.ptr (some (b4,o5))))] 0,[(4,[.int .i64 i6,.int .i64 i7,.str s8,.int .i64 i9])],[]⟩ σ
noncomputable def f29_j4 (L:Leaf) (m0:Nat) (a1:Ad) (i2 i3:Int) (b4 o5:Nat) (i6 i7 i8:Int) (s9:By) (i10:Int) (σ:St):Out:=
 L [1,1,1,1,0,0,0,1,0,1,0,1] [m0] ⟨tm 114 [(0,.v (.ptr a1)),(1,.v (.int .i64 i2)),(4,.lp 4 0),(5,.v (.int .u8 i3)),(6,.v (.ptr (some (b4,o5)))),(7,.v (.int .u8 i6)),(65,.v (.bool true))] 0,[(4,[.int .i64 i7,.int .i64 i8,.str s9,.int .i64 i10])],[]⟩ σ
noncomputable def f29_j5 (L:Leaf) (m0:Nat) (a1:Ad) (i2 i3:Int) (b4 o5:Nat) (i6:Int) (b7:Bool) (i8 i9:Int) (s10:By) (i11:Int) (σ:St):Out:=
 L [1,1,1,1,0,0,0,1,0,1,0,1] [m0] ⟨tm 114 [(0,.v (.ptr a1)),(1,.v (.int .i64 i2)),(4,.lp 4 0),(5,.v (.int .u8 i3)),(6,.v (.ptr (some (b4,o5)))),(7,.v (.int .u8 i6)),(65,.v (.bool b7))] 0,[(4,[.int .i64 i8,.int .i64 i9,.str s10,.int .i64 i11])],[]⟩ σ
noncomputable def f29_j6 (L:Leaf) (m0:Nat) (a1:Ad) (i2 i3:Int) (b4 o5:Nat) (i6 i7 i8:Int) (s9:By) (i10:Int) (σ:St):Out:=
 L [1,1,1,1,0,0,0,1,0,1,0,1] [m0] ⟨tm 114 [(0,.v (.ptr a1)),(1,.v (.int .i64 i2)),(4,.lp 4 0),(5,.v (.int .u8 i3)),(6,.v (.ptr (some (b4,o5)))),(7,.v (.int .u8 i6)),(65,.v (.bool false))] 0,[(4,[.int .i64 i7,.int .i64 i8,.str s9,.int .i64 i10])],[]⟩ σ
noncomputable def f29_j7 (L:Leaf) (a1:Ad) (i2 i3:Int) (b4 o5:Nat) (i6 i7:Int) (s8:By) (i9:Int) (σ:St):Out:=
 L [1,1,1,1,1,1] [] ⟨tm 114 [(0,.v (.ptr a1)),(1,.v (.int .i64 i2)),(4,.lp 4 0),(5,.v (.int .u8 i3)),(6,.v (.ptr (some (b4,o5))))] 0,[(4,[.int .i64 i6,.int .i64 i7,.str s8,.int .i64 i9])],[]⟩ σ
noncomputable def f29_t (L:Leaf) (n:Nat) (a1:Ad) (i2:Int) (σ:St):Out:=
 derefK a1 fun b3 o4=>
 ldK Tryz.prog 9 σ b3 (o4 + 0) fun x5=>
 xStr x5 fun s6=>
 byteK s6 i2 fun u7=>
 derefK a1 fun b8 o9=>
 stK σ b8 (o9 + 1) [.int .i64 (IntKind.wrap .i64 (i2 + (1:Int)))] fun σ10=>
 f29_l1 L n a1 i2 (u7.toNat:Int) σ10.length 0 (0:Int) (0:Int) [] (0:Int) (σ10 ++ [AObj.cells [.ptr none,.slice none 0 (some 0) 0] (.rw (.box 55))]:St)
theorem f29_g:goT Tryz.prog Lb 29 n L [] [] [] ⟨tm 114 [(0,.v (.ptr a1)),(1,.v (.int .i64 i2))] 0,[],[]⟩ σ = f29_t L n a1 i2 σ:=by kernel_rfl
theorem f29_e:Le (f29_t (pt Tryz.prog Lb 29 n) n a1 i2 σ) (callP Tryz.prog Lb (n + 1) 29 [.ptr a1,.int .i64 i2] σ):=
 goT_call f29_g rfl (by kernel_rfl) (by kernel_rfl)
noncomputable def f29_l1_t (L:Leaf) (_ m0:Nat) (a1:Ad) (i2 i3:Int) (b4 o5:Nat) (i6 i7:Int) (s8:By) (i9:Int) (σ:St):Out:=
 cond (i3 == (39:Int)) (f29_j2 L m0 a1 i2 i3 b4 o5 i6 i7 s8 i9 σ) (derefK a1 fun b10 o11=>
 ldK Tryz.prog 3 σ b10 (o11 + 1) fun x12=>
 xInt .i64 x12 fun i13=>
 derefK a1 fun b14 o15=>
 ldK Tryz.prog 9 σ b14 (o15 + 0) fun x16=>
 xStr x16 fun s17=>
 cond (decide (i13 ≥ (s17.length:Int))) (f29_j2 L m0 a1 i2 i3 b4 o5 i6 i7 s8 i9 σ) (derefK a1 fun b18 o19=>
 ldK Tryz.prog 9 σ b18 (o19 + 0) fun x20=>
 xStr x20 fun s21=>
 derefK a1 fun b22 o23=>
 ldK Tryz.prog 3 σ b22 (o23 + 1) fun x24=>
 xInt .i64 x24 fun i25=>
 byteK s21 i25 fun u26=>
 cond ((u26.toNat:Int) != (34:Int)) (f29_j2 L m0 a1 i2 i3 b4 o5 i6 i7 s8 i9 σ) (f29_j3 L a1 i2 i3 b4 o5 i6 i7 s8 i9 σ)))
theorem f29_l1_g:f29_l1 (goT Tryz.prog Lb 29 n L [[1,1,1,1,0,0,0,1],[1,1,1,1,1]]) (m0 + 1) a1 i2 i3 b4 o5 i6 i7 s8 i9 σ = f29_l1_t L n m0 a1 i2 i3 b4 o5 i6 i7 s8 i9 σ:=by kernel_rfl
theorem f29_l1_e:Le (f29_l1_t (pt Tryz.prog Lb 29 n) n m0 a1 i2 i3 b4 o5 i6 i7 s8 i9 σ) (f29_l1 (pt Tryz.prog Lb 29 n) (m0 + 1) a1 i2 i3 b4 o5 i6 i7 s8 i9 σ):=by
 unfold f29_l1;exact goT_pt f29_l1_g
noncomputable def f29_j2_t (L:Leaf) (n m0:Nat) (a1:Ad) (i2 i3:Int) (b4 o5:Nat) (i6 i7:Int) (s8:By) (i9:Int) (σ:St):Out:=
 callT Tryz.prog Lb n 54 [.ptr a1,.int .u8 i3] σ fun v11 σ10=>
 xTup v11 fun cs12=>
 unC cs12 fun x13 r14=>
 xInt .u8 x13 fun i15=>
 unC r14 fun x16 r17=>
 xBool x16 fun b18=>
 nlC r17 <|
 cond (!b18) (f29_j4 L m0 a1 i2 i3 b4 o5 i15 i6 i7 s8 i9 σ10) (cond (i3 == (34:Int)) (cond (i15 == (0:Int)) (f29_j4 L m0 a1 i2 i3 b4 o5 i15 i6 i7 s8 i9 σ10) (callT Tryz.prog Lb n 55 [.ptr (some (b4,o5))] σ10 fun v20 σ19=>
 xInt .i64 v20 fun i21=>
 f29_j5 L m0 a1 i2 i3 b4 o5 i15 (i21 == (100:Int)) i6 i7 s8 i9 σ19)) (f29_j6 L m0 a1 i2 i3 b4 o5 i15 i6 i7 s8 i9 σ10))
theorem f29_j2_g:f29_j2 (goT Tryz.prog Lb 29 n L [[1,1,1,1,0,0,0,1,0,1,0,1]]) m0 a1 i2 i3 b4 o5 i6 i7 s8 i9 σ = f29_j2_t L n m0 a1 i2 i3 b4 o5 i6 i7 s8 i9 σ:=by kernel_rfl
theorem f29_j2_e:Le (f29_j2_t (pt Tryz.prog Lb 29 n) n m0 a1 i2 i3 b4 o5 i6 i7 s8 i9 σ) (f29_j2 (pt Tryz.prog Lb 29 n) m0 a1 i2 i3 b4 o5 i6 i7 s8 i9 σ):=by
 unfold f29_j2;exact goT_pt f29_j2_g
noncomputable def f29_j3_t (L:Leaf) (n:Nat) (a1:Ad) (i2 i3:Int) (b4 o5:Nat) (i6 i7:Int) (s8:By) (i9:Int) (σ:St):Out:=
 derefK a1 fun b10 o11=>
 ldK Tryz.prog 3 σ b10 (o11 + 1) fun x12=>
 xInt .i64 x12 fun i13=>
 derefK a1 fun b14 o15=>
 ldK Tryz.prog 9 σ b14 (o15 + 0) fun x16=>
 xStr x16 fun s17=>
 cond (decide (i13 ≥ (s17.length:Int))) (callT Tryz.prog Lb n 27 [.int .i64 (13:Int),.int .i64 i2] σ fun _ σ18=>
 f29_j7 L a1 i2 i3 b4 o5 i6 i7 s8 i9 σ18) (derefK a1 fun b20 o21=>
 ldK Tryz.prog 9 σ b20 (o21 + 0) fun x22=>
 xStr x22 fun s23=>
 derefK a1 fun b24 o25=>
 ldK Tryz.prog 3 σ b24 (o25 + 1) fun x26=>
 xInt .i64 x26 fun i27=>
 byteK s23 i27 fun u28=>
 cond ((u28.toNat:Int) != i3) (callT Tryz.prog Lb n 27 [.int .i64 (13:Int),.int .i64 i2] σ fun _ σ29=>
 f29_j7 L a1 i2 i3 b4 o5 i6 i7 s8 i9 σ29) (f29_j7 L a1 i2 i3 b4 o5 i6 i7 s8 i9 σ))
theorem f29_j3_g:f29_j3 (goT Tryz.prog Lb 29 n L [[1,1,1,1,1,1]]) a1 i2 i3 b4 o5 i6 i7 s8 i9 σ = f29_j3_t L n a1 i2 i3 b4 o5 i6 i7 s8 i9 σ:=by kernel_rfl
theorem f29_j3_e:Le (f29_j3_t (pt Tryz.prog Lb 29 n) n a1 i2 i3 b4 o5 i6 i7 s8 i9 σ) (f29_j3 (pt Tryz.prog Lb 29 n) a1 i2 i3 b4 o5 i6 i7 s8 i9 σ):=by
 unfold f29_j3;exact goT_pt f29_j3_g
noncomputable def f29_j4_t (L:Leaf) (n m0:Nat) (a1:Ad) (i2 i3:Int) (b4 o5:Nat) (i6 i7 i8:Int) (s9:By) (i10:Int) (σ:St):Out:=
 callT Tryz.prog Lb n 27 [.int .i64 (13:Int),.int .i64 i2] σ fun _ σ11=>
 callT Tryz.prog Lb n 56 [.ptr (some (b4,o5)),.int .u8 i6] σ11 fun _ σ13=>
 cond (i3 == (39:Int)) (f29_j3 L a1 i2 i3 b4 o5 i7 i8 s9 i10 σ13) (f29_l1 L m0 a1 i2 i3 b4 o5 i7 i8 s9 i10 σ13)
theorem f29_j4_g:f29_j4 (goT Tryz.prog Lb 29 n L [[1,1,1,1,1]]) m0 a1 i2 i3 b4 o5 i6 i7 i8 s9 i10 σ = f29_j4_t L n m0 a1 i2 i3 b4 o5 i6 i7 i8 s9 i10 σ:=by kernel_rfl
theorem f29_j4_e:Le (f29_j4_t (pt Tryz.prog Lb 29 n) n m0 a1 i2 i3 b4 o5 i6 i7 i8 s9 i10 σ) (f29_j4 (pt Tryz.prog Lb 29 n) m0 a1 i2 i3 b4 o5 i6 i7 i8 s9 i10 σ):=by
 unfold f29_j4;exact goT_pt f29_j4_g
noncomputable def f29_j5_t (L:Leaf) (n m0:Nat) (a1:Ad) (i2 i3:Int) (b4 o5:Nat) (i6:Int) (b7:Bool) (i8 i9:Int) (s10:By) (i11:Int) (σ:St):Out:=
 cond b7 (callT Tryz.prog Lb n 27 [.int .i64 (13:Int),.int .i64 i2] σ fun _ σ12=>
 callT Tryz.prog Lb n 56 [.ptr (some (b4,o5)),.int .u8 i6] σ12 fun _ σ14=>
 cond (i3 == (39:Int)) (f29_j3 L a1 i2 i3 b4 o5 i8 i9 s10 i11 σ14) (f29_l1 L m0 a1 i2 i3 b4 o5 i8 i9 s10 i11 σ14)) (callT Tryz.prog Lb n 56 [.ptr (some (b4,o5)),.int .u8 i6] σ fun _ σ16=>
 cond (i3 == (39:Int)) (f29_j3 L a1 i2 i3 b4 o5 i8 i9 s10 i11 σ16) (f29_l1 L m0 a1 i2 i3 b4 o5 i8 i9 s10 i11 σ16))
theorem f29_j5_g:f29_j5 (goT Tryz.prog Lb 29 n L [[1,1,1,1,1]]) m0 a1 i2 i3 b4 o5 i6 b7 i8 i9 s10 i11 σ = f29_j5_t L n m0 a1 i2 i3 b4 o5 i6 b7 i8 i9 s10 i11 σ:=by kernel_rfl
theorem f29_j5_e:Le (f29_j5_t (pt Tryz.prog Lb 29 n) n m0 a1 i2 i3 b4 o5 i6 b7 i8 i9 s10 i11 σ) (f29_j5 (pt Tryz.prog Lb 29 n) m0 a1 i2 i3 b4 o5 i6 b7 i8 i9 s10 i11 σ):=by
 unfold f29_j5;exact goT_pt f29_j5_g
noncomputable def f29_j6_t (L:Leaf) (n m0:Nat) (a1:Ad) (i2 i3:Int) (b4 o5:Nat) (i6 i7 i8:Int) (s9:By) (i10:Int) (σ:St):Out:=
 callT Tryz.prog Lb n 56 [.ptr (some (b4,o5)),.int .u8 i6] σ fun _ σ11=>
 cond (i3 == (39:Int)) (f29_j3 L a1 i2 i3 b4 o5 i7 i8 s9 i10 σ11) (f29_l1 L m0 a1 i2 i3 b4 o5 i7 i8 s9 i10 σ11)
theorem f29_j6_g:f29_j6 (goT Tryz.prog Lb 29 n L [[1,1,1,1,1]]) m0 a1 i2 i3 b4 o5 i6 i7 i8 s9 i10 σ = f29_j6_t L n m0 a1 i2 i3 b4 o5 i6 i7 i8 s9 i10 σ:=by kernel_rfl
theorem f29_j6_e:Le (f29_j6_t (pt Tryz.prog Lb 29 n) n m0 a1 i2 i3 b4 o5 i6 i7 i8 s9 i10 σ) (f29_j6 (pt Tryz.prog Lb 29 n) m0 a1 i2 i3 b4 o5 i6 i7 i8 s9 i10 σ):=by
 unfold f29_j6;exact goT_pt f29_j6_g
noncomputable def f29_j7_t (_:Leaf) (n:Nat) (a1:Ad) (i2 i3:Int) (b4 o5:Nat) (_ _:Int) (_:By) (_:Int) (σ:St):Out:=
 derefK a1 fun b10 o11=>
 ldK Tryz.prog 3 σ b10 (o11 + 1) fun x12=>
 xInt .i64 x12 fun i13=>
 derefK a1 fun b14 o15=>
 stK σ b14 (o15 + 1) [.int .i64 (IntKind.wrap .i64 (i13 + (1:Int)))] fun σ16=>
 cond (i3 == (34:Int)) (callT Tryz.prog Lb n 17 [.ptr (some (b4,o5))] σ16 fun v18 σ17=>
 xStr v18 fun s19=>
 some (.ret (.agg [.int .i64 (4:Int),.int .i64 i2,.str s19,.int .i64 (0:Int)]),σ17)) (callT Tryz.prog Lb n 17 [.ptr (some (b4,o5))] σ16 fun v21 σ20=>
 xStr v21 fun s22=>
 byteK s22 (0:Int) fun u23=>
 some (.ret (.agg [.int .i64 (3:Int),.int .i64 i2,.str [],.int .i64 (IntKind.wrap .i64 (u23.toNat:Int))]),σ20))
theorem f29_j7_g:f29_j7 (goT Tryz.prog Lb 29 n L []) a1 i2 i3 b4 o5 i6 i7 s8 i9 σ = f29_j7_t L n a1 i2 i3 b4 o5 i6 i7 s8 i9 σ:=by kernel_rfl
theorem f29_j7_e:Le (f29_j7_t (pt Tryz.prog Lb 29 n) n a1 i2 i3 b4 o5 i6 i7 s8 i9 σ) (f29_j7 (pt Tryz.prog Lb 29 n) a1 i2 i3 b4 o5 i6 i7 s8 i9 σ):=by
 unfold f29_j7;exact goT_pt f29_j7_g
noncomputable def f30_t (_:Leaf) (n:Nat) (σ:St):Out:=
 callT Tryz.prog Lb n 51 [.str [60,60,32,62,62,32,60,61,32,62,61,32,61,61,32,33,61,32,38,38,32,124,124,32,40,32,41,32,123,32,125,32,91,32,93,32,59,32,44,32,42,32,47,32,37,32,43,32,45,32,60,32,62,32,38,32,94,32,124,32,61,32,33,32,126]] σ fun v2 σ1=>
 xSl v2 fun a3 n4 c5 z6=>
 some (.ret (.slice a3 n4 c5 z6),σ1)
theorem f30_g:goT Tryz.prog Lb 30 n L [] [] [] ⟨tm 2 [] 0,[],[]⟩ σ = f30_t L n  σ:=by kernel_rfl
theorem f30_e:Le (f30_t (pt Tryz.prog Lb 30 n) n  σ) (callP Tryz.prog Lb (n + 1) 30 [] σ):=
 goT_call f30_g rfl (by kernel_rfl) (by kernel_rfl)
noncomputable def f31_t (_:Leaf) (n:Nat) (s1 s2:By) (σ:St):Out:=
 callT Tryz.prog Lb n 57 [.str s1,.str s2] σ fun v4 σ3=>
 xBool v4 fun b5=>
 some (.ret (.bool b5),σ3)
theorem f31_g:goT Tryz.prog Lb 31 n L [] [] [] ⟨tm 8 [(0,.v (.str s1)),(1,.v (.str s2))] 0,[],[]⟩ σ = f31_t L n s1 s2 σ:=by kernel_rfl
theorem f31_e:Le (f31_t (pt Tryz.prog Lb 31 n) n s1 s2 σ) (callP Tryz.prog Lb (n + 1) 31 [.str s1,.str s2] σ):=
 goT_call f31_g rfl (by kernel_rfl) (by kernel_rfl)
noncomputable def f57_t (_:Leaf) (_:Nat) (s1 s2:By) (σ:St):Out:=
 cond (decide ((s1.length:Int) ≥ (s2.length:Int))) (cutK s1 (0:Int) (s2.length:Int) fun s3=>
 some (.ret (.bool (s3 == s2)),σ)) (some (.ret (.bool false),σ))
theorem f57_g:goT Tryz.prog Lb 57 n L [] [] [] ⟨tm 18 [(0,.v (.str s1)),(1,.v (.str s2))] 0,[],[]⟩ σ = f57_t L n s1 s2 σ:=by kernel_rfl
theorem f57_e:Le (f57_t (pt Tryz.prog Lb 57 n) n s1 s2 σ) (callP Tryz.prog Lb (n + 1) 57 [.str s1,.str s2] σ):=
 goT_call f57_g rfl (by kernel_rfl) (by kernel_rfl)
noncomputable def f54_t (_:Leaf) (n:Nat) (a1:Ad) (i2:Int) (σ:St):Out:=
 derefK a1 fun b3 o4=>
 ldK Tryz.prog 3 σ b3 (o4 + 1) fun x5=>
 xInt .i64 x5 fun i6=>
 derefK a1 fun b7 o8=>
 ldK Tryz.prog 9 σ b7 (o8 + 0) fun x9=>
 xStr x9 fun s10=>
 cond (decide (i6 ≥ (s10.length:Int))) (some (.ret (.tuple [.int .u8 (0:Int),.bool false]),σ)) (derefK a1 fun b11 o12=>
 ldK Tryz.prog 9 σ b11 (o12 + 0) fun x13=>
 xStr x13 fun s14=>
 derefK a1 fun b15 o16=>
 ldK Tryz.prog 3 σ b15 (o16 + 1) fun x17=>
 xInt .i64 x17 fun i18=>
 byteK s14 i18 fun u19=>
 derefK a1 fun b20 o21=>
 ldK Tryz.prog 3 σ b20 (o21 + 1) fun x22=>
 xInt .i64 x22 fun i23=>
 derefK a1 fun b24 o25=>
 stK σ b24 (o25 + 1) [.int .i64 (IntKind.wrap .i64 (i23 + (1:Int)))] fun σ26=>
 cond ((u19.toNat:Int) != (92:Int)) (cond (decide ((u19.toNat:Int) ≥ (32:Int))) (cond (decide ((u19.toNat:Int) ≤ (126:Int))) (some (.ret (.tuple [.int .u8 (u19.toNat:Int),.bool ((u19.toNat:Int) != i2)]),σ26)) (some (.ret (.tuple [.int .u8 (u19.toNat:Int),.bool false]),σ26))) (some (.ret (.tuple [.int .u8 (u19.toNat:Int),.bool false]),σ26))) (derefK a1 fun b27 o28=>
 ldK Tryz.prog 3 σ26 b27 (o28 + 1) fun x29=>
 xInt .i64 x29 fun i30=>
 derefK a1 fun b31 o32=>
 ldK Tryz.prog 9 σ26 b31 (o32 + 0) fun x33=>
 xStr x33 fun s34=>
 cond (decide (i30 ≥ (s34.length:Int))) (some (.ret (.tuple [.int .u8 (0:Int),.bool false]),σ26)) (derefK a1 fun b35 o36=>
 ldK Tryz.prog 9 σ26 b35 (o36 + 0) fun x37=>
 xStr x37 fun s38=>
 derefK a1 fun b39 o40=>
 ldK Tryz.prog 3 σ26 b39 (o40 + 1) fun x41=>
 xInt .i64 x41 fun i42=>
 byteK s38 i42 fun u43=>
 callTD Tryz.prog Lb n 75 [.str [110,116,48,92,39,34],.int .u8 (u43.toNat:Int)] σ26 fun v45 σ44=>
 xInt .i64 v45 fun i46=>
 derefK a1 fun b47 o48=>
 ldK Tryz.prog 3 σ44 b47 (o48 + 1) fun x49=>
 xInt .i64 x49 fun i50=>
 derefK a1 fun b51 o52=>
 stK σ44 b51 (o52 + 1) [.int .i64 (IntKind.wrap .i64 (i50 + (1:Int)))] fun σ53=>
 cond (decide (i46 < (0:Int))) (some (.ret (.tuple [.int .u8 (0:Int),.bool false]),σ53)) (byteK [10,9,0,92,39,34] i46 fun u54=>
 some (.ret (.tuple [.int .u8 (u54.toNat:Int),.bool true]),σ53)))))
theorem f54_g:goT Tryz.prog Lb 54 n L [] [] [] ⟨tm 79 [(0,.v (.ptr a1)),(1,.v (.int .u8 i2))] 0,[],[]⟩ σ = f54_t L n a1 i2 σ:=by kernel_rfl
theorem f54_e:Le (f54_t (pt Tryz.prog Lb 54 n) n a1 i2 σ) (callP Tryz.prog Lb (n + 1) 54 [.ptr a1,.int .u8 i2] σ):=
 goT_call f54_g rfl (by kernel_rfl) (by kernel_rfl)
noncomputable def f55_t (_:Leaf) (_:Nat) (a1:Ad) (σ:St):Out:=
 derefK a1 fun b2 o3=>
 ldK Tryz.prog 53 σ b2 (o3 + 1) fun x4=>
 xSl x4 fun _ n6 _ _=>
 some (.ret (.int .i64 (n6:Int)),σ)
theorem f55_g:goT Tryz.prog Lb 55 n L [] [] [] ⟨tm 8 [(0,.v (.ptr a1))] 0,[],[]⟩ σ = f55_t L n a1 σ:=by kernel_rfl
theorem f55_e:Le (f55_t (pt Tryz.prog Lb 55 n) n a1 σ) (callP Tryz.prog Lb (n + 1) 55 [.ptr a1] σ):=
 goT_call f55_g rfl (by kernel_rfl) (by kernel_rfl)
noncomputable def f56_t (_:Leaf) (n:Nat) (a1:Ad) (i2:Int) (σ:St):Out:=
 callT Tryz.prog Lb n 76 [.ptr a1] σ fun _ σ3=>
 derefK a1 fun b5 o6=>
 ldK Tryz.prog 53 σ3 b5 (o6 + 1) fun x7=>
 xSl x7 fun a8 n9 _ z11=>
 appK σ3 5 1 1 a8 n9 z11 1 [.int .u8 i2] fun a12 n13 c14 σ15=>
 derefK a1 fun b16 o17=>
 stK σ15 b16 (o17 + 1) [.slice a12 n13 c14 1] fun σ18=>
 some (.ret .nilIface,σ18)
theorem f56_g:goT Tryz.prog Lb 56 n L [] [] [] ⟨tm 17 [(0,.v (.ptr a1)),(1,.v (.int .u8 i2))] 0,[],[]⟩ σ = f56_t L n a1 i2 σ:=by kernel_rfl
theorem f56_e:Le (f56_t (pt Tryz.prog Lb 56 n) n a1 i2 σ) (callP Tryz.prog Lb (n + 1) 56 [.ptr a1,.int .u8 i2] σ):=
 goT_call f56_g rfl (by kernel_rfl) (by kernel_rfl)
noncomputable def f64_t (_:Leaf) (n:Nat) (a1:Ad) (s2:By) (σ:St):Out:=
 callT Tryz.prog Lb n 76 [.ptr a1] σ fun _ σ3=>
 derefK a1 fun b5 o6=>
 ldK Tryz.prog 53 σ3 b5 (o6 + 1) fun x7=>
 xSl x7 fun a8 n9 _ z11=>
 appK σ3 5 1 1 a8 n9 z11 s2.length (bytesAV s2) fun a12 n13 c14 σ15=>
 derefK a1 fun b16 o17=>
 stK σ15 b16 (o17 + 1) [.slice a12 n13 c14 1] fun σ18=>
 some (.ret (.tuple [.int .i64 (s2.length:Int),.nilIface]),σ18)
theorem f64_g:goT Tryz.prog Lb 64 n L [] [] [] ⟨tm 19 [(0,.v (.ptr a1)),(1,.v (.str s2))] 0,[],[]⟩ σ = f64_t L n a1 s2 σ:=by kernel_rfl
theorem f64_e:Le (f64_t (pt Tryz.prog Lb 64 n) n a1 s2 σ) (callP Tryz.prog Lb (n + 1) 64 [.ptr a1,.str s2] σ):=
 goT_call f64_g rfl (by kernel_rfl) (by kernel_rfl)
end Go.Proofs

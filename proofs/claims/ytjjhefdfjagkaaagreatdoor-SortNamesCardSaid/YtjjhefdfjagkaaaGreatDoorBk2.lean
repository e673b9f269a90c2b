/- Part of a proof over an abstract machine. -/
import Derived.Test.YtjjhefdfjagkaaaGreatDoorT3
import Derived.KernelRfl
set_option linter.all false
open Go.IntKind renaming wrap→ah
open Go.Proofs.Tryz renaming prog→ae
open List renaming replicate→bL,getElem?_append_left→bO,getElem?_append_right→bQ,cons_append→eI,length_cons→cr,range'→fy,mem_map→nZ,map_cons→dO,map_nil→lA,mem_cons→bS,not_mem_nil→ec,length_append→az,length_map→lz,singleton_append→uf,mem_append→cX,mem_singleton→oZ,append_assoc→aO,length_singleton→p9,append_nil→cg,drop_drop→oX,nil_append→fx,mem_cons_of_mem→ua,map_append→fi,flatMap_cons→eU
open Go.Lib renaming itoa→iZ,decDigits→r7,parseUintM→qW,parseIntB→jA
open Nat renaming add_assoc→eD,zero_add→dI,one_pos→um,succ_pos→oc,le_refl→aA,add_comm→uj,zero_le→j9
open Option.some renaming injEq→dP
open Bool renaming false_eq_true→aW
open UInt8 renaming toNat_inj→ke
section
namespace Go.Proofs
open Go.AM
set_option maxHeartbeats 4000000
set_option maxRecDepth 100000
section
variable (n m0 m1:Nat) (a1:Ad) (i1:Int) (p1:Nat) (a2:Ad) (i2:Int) (n2 o2 p2:Nat) (x2:AV) (a3:Ad) (b3:Bool) (c3:On) (i3:Int) (n3 o3 p3:Nat) (b4:Bool) (c4:On) (i4:Int) (n4 o4 p4 z4:Nat) (a5:Ad) (c5:On) (i5:Int) (o5:Nat) (q5:On) (s5:By) (z5:Nat) (a6:Ad) (i6:Int) (n6 p6:Nat) (s6:By) (x6:AV) (z6:Nat) (a7:Ad) (b7:Bool) (c7:On) (i7:Int) (n7 o7 p7:Nat) (s7:By) (b8:Bool) (c8:On) (i8:Int) (n8 o8 z8:Nat) (a9:Ad) (c9:On) (i9:Int) (s9:By) (z9:Nat) (a10:Ad) (i10:Int) (n10 p10:Nat) (s10:By) (z10:Nat) (a11:Ad) (b11:Bool) (c11:On) (i11:Int) (n11 o11:Nat) (s11:By) (a12:Ad) (c12:On) (i12:Int) (n12 p12 z12:Nat) (a13:Ad) (c13:On) (i13:Int) (n13 o13:Nat) (s13:By) (z13:Nat) (a14:Ad) (c14:On) (i14:Int) (n14:Nat) (s14:By) (z14:Nat) (c15:On) (i15:Int) (n15:Nat) (s15:By) (z15:Nat) (a16:Ad) (c16:On) (i16:Int) (z16:Nat) (a17:Ad) (i17:Int) (n17 z17:Nat) (a18:Ad) (c18:On) (i18:Int) (n18:Nat) (c19:On) (i19:Int) (n19:Nat) (s19:By) (z19:Nat) (c20:On) (i20:Int) (s20:By) (z20:Nat) (i21:Int) (z21:Nat) (a22:Ad) (i22:Int) (s22:By) (a23:Ad) (i23:Int) (n23:Nat) (s23:By) (c24:On) (i24:Int) (n24:Nat) (s24:By) (a25:Ad) (c25:On) (i25:Int) (z25:Nat) (a26:Ad) (i26:Int) (n26 z26:Nat) (a27:Ad) (c27:On) (n27:Nat) (c28:On) (n28 z28:Nat) (c29:On) (z29 z30:Nat) (U:St)
noncomputable def AD:Out:=q 17 n (dg 1111010) [m0] (en 57 [(0,vS a1 n2 c3 z4),(2,.v (.str s5)),(3,vJ i6),(4,vP p7 o8),(23,vS a9 n10 c11 z12),(24,vJ i13),(25,vJ i14)] []) U
noncomputable def G7:Out:=q 17 n (dg 11111) [] (en 57 [(0,vS a1 n2 c3 z4),(2,.v (.str s5)),(3,vJ i6),(4,vP p7 o8)] []) U
noncomputable def AW:Out:=q 32 n (dg 1111010) [m0] (en 78 [(0,vS a1 n2 c3 z4),(2,.v (.bool false)),(3,vS a5 n6 c7 z8),(30,vS a9 n10 c11 z12),(31,vJ i13),(32,vJ i14)] []) U
noncomputable def AX:Out:=q 32 n (dg 11110100110011010) [m0,m1] (en 78 [(0,vS a1 n2 c3 z4),(2,.v (.bool false)),(3,vS a5 n6 c7 z8),(4,vJ i9),(5,.lp 5 0),(6,vJ i10),(7,vJ i11),(30,vS a12 n13 c14 z15),(31,vJ i16),(32,vJ i17)] [(5,[J i18,J i19,.str s20,J i21,J i22,.slice a23 n24 c25 z26])]) U
noncomputable def NA:Out:=q 32 n (dg 11111) [] (en 78 [(0,vS a1 n2 c3 z4),(2,.v (.bool false)),(3,vS a5 n6 c7 z8)] []) U
noncomputable def Hk:Out:=q 32 n (dg 111101001100111) [m0] (en 78 [(0,vS a1 n2 c3 z4),(2,.v (.bool false)),(3,vS a5 n6 c7 z8),(4,vJ i9),(5,.lp 5 0),(6,vJ i10),(30,vS a11 n12 c13 z14),(31,vJ i15),(32,vJ i16)] [(5,[J i17,J i18,.str s19,J i20,J i21,.slice a22 n23 c24 z25])]) U
noncomputable def NB:Out:=q 32 n (dg 11110100111) [m0] (en 78 [(0,vS a1 n2 c3 z4),(2,.v (.bool false)),(3,vS a5 n6 c7 z8),(30,vS a9 n10 c11 z12),(31,vJ i13),(32,vJ i14)] []) U
noncomputable def AY:Out:=q 35 n (dg 1111100) [m0] ⟨tm 30 [(0,vA a1),(2,vP p2 o3),(3,vP p4 o5),(4,vS a6 n7 c8 z9)] 0,[],[(79,[.ptr (sm p10 o11),.ptr (sm p12 o13)])]⟩ U
noncomputable def Hl:Out:=q 35 n (dg 111111) [] ⟨tm 30 [(0,vA a1),(2,vP p2 o3),(3,vP p4 o5),(4,vS a6 n7 c8 z9)] 0,[],[(79,[.ptr (sm p10 o11),.ptr (sm p12 o13)])]⟩ U
noncomputable def AZ:Out:=q 36 n (dg 111010) [m0] (en 81 [(0,vS a1 n2 c3 z4),(1,vS a5 n6 c7 z8),(4,.v (.bool false)),(15,vJ i9),(16,vJ i10)] []) U
noncomputable def Dy:Out:=q 36 n (dg 111010011001101) [m0] (en 81 [(0,vS a1 n2 c3 z4),(1,vS a5 n6 c7 z8),(4,.v (.bool false)),(6,.lp 6 0),(7,.lp 7 0),(15,vJ i9),(16,vJ i10),(61,.v (.bool true))] [(6,[J i11,J i12,.str s13,J i14,J i15,.slice a16 n17 c18 z19]),(7,[J i20,J i21,.str s22,J i23,J i24,.slice a25 n26 c27 z28])]) U
noncomputable def NF:Out:=q 36 n (dg 111010011001101) [m0] (en 81 [(0,vS a1 n2 c3 z4),(1,vS a5 n6 c7 z8),(4,.v (.bool false)),(6,.lp 6 0),(7,.lp 7 0),(15,vJ i9),(16,vJ i10),(61,.v (.bool b11))] [(6,[J i12,J i13,.str s14,J i15,J i16,.slice a17 n18 c19 z20]),(7,[J i21,J i22,.str s23,J i24,J i25,.slice a26 n27 c28 z29])]) U
noncomputable def NG:Out:=q 36 n [1,1,1] [] (en 81 [(4,.v (.bool false))] []) U
noncomputable def A0:Out:=q 36 n (dg 1110100110011110) [m0,m1] (en 81 [(0,vS a1 n2 c3 z4),(1,vS a5 n6 c7 z8),(4,.v (.bool false)),(6,.lp 6 0),(7,.lp 7 0),(15,vJ i9),(16,vJ i10),(64,vJ i11),(65,vJ i12)] [(6,[J i13,J i14,.str s15,J i16,J i17,.slice a18 n19 c20 z21]),(7,[J i22,J i23,.str s24,J i25,J i26,.slice a27 n28 c29 z30])]) U
noncomputable def Dz:Out:=q 36 n (dg 1110100111) [m0] (en 81 [(0,vS a1 n2 c3 z4),(1,vS a5 n6 c7 z8),(4,.v (.bool false)),(15,vJ i9),(16,vJ i10)] []) U
noncomputable def A7:Out:=q 73 n (dg 1111010) [m0] (en 145 [(0,vS a1 n2 c3 z4),(3,.lp 3 0),(4,.v (.bool false)),(5,.v (.map q5)),(6,.v (.str s6)),(14,vS a7 n8 c9 z10),(15,vJ i11),(16,vJ i12)] [(3,[J i13,J i14,.str s15,J i16,J i17,.slice a18 n19 c20 z21])]) U
noncomputable def Hr:Out:=q 73 n (dg 11111) [] (en 145 [(0,vS a1 n2 c3 z4),(3,.lp 3 0),(4,.v (.bool false)),(5,.v (.map q5)),(6,.v (.str s6))] [(3,[J i7,J i8,.str s9,J i10,J i11,.slice a12 n13 c14 z15])]) U
noncomputable def DH:Out:=q 73 n (dg 111111001) [] (en 145 [(0,vS a1 n2 c3 z4),(3,.lp 3 0),(4,.v (.bool false)),(6,.v (.str s5)),(9,.v (.str s6)),(10,.v (.bool b7)),(37,.v (.bool true))] [(3,[J i8,J i9,.str s10,J i11,J i12,.slice a13 n14 c15 z16])]) U
noncomputable def Hs:Out:=q 73 n (dg 111111001) [] (en 145 [(0,vS a1 n2 c3 z4),(3,.lp 3 0),(4,.v (.bool false)),(6,.v (.str s5)),(9,.v (.str s6)),(10,.v (.bool b7)),(37,.v (.bool b8))] [(3,[J i9,J i10,.str s11,J i12,J i13,.slice a14 n15 c16 z17])]) U
noncomputable def DI:Out:=q 73 n (dg 111111001) [] (en 145 [(0,vS a1 n2 c3 z4),(3,.lp 3 0),(4,.v (.bool false)),(6,.v (.str s5)),(9,.v (.str s6)),(10,.v (.bool b7)),(37,.v (.bool false))] [(3,[J i8,J i9,.str s10,J i11,J i12,.slice a13 n14 c15 z16])]) U
noncomputable def sJ:Out:=q 74 n [1,0] [m0] (en 36 [(0,vA a1),(6,vS a2 n3 c4 z5),(7,vJ i6),(8,vJ i7)] []) U
noncomputable def DJ:Out:=q 74 n (dg 11001100111) [m0] (en 36 [(0,vA a1),(6,vS a2 n3 c4 z5),(7,vJ i6),(8,vJ i7),(26,.v (.bool true))] []) U
noncomputable def Oc:Out:=q 74 n (dg 11001100111) [m0] (en 36 [(0,vA a1),(6,vS a2 n3 c4 z5),(7,vJ i6),(8,vJ i7),(26,.v (.bool b8))] []) U
noncomputable def yn:Out:=q 76 n [1,0] [m0] (en 24 [(0,vA a1),(2,.v x2),(8,vS a3 n4 c5 z6),(9,vJ i7),(10,vJ i8)] []) U
noncomputable def A8:Out:=q 78 n (dg 1110101010) [m0] (en 151 [(0,vA a1),(22,vS a2 n3 c4 z5),(23,vJ i6),(24,vJ i7)] []) U
noncomputable def Of:Out:=q 78 n (dg 1110111) [] (en 151 [(0,vA a1),(1,vJ i2),(4,.lp 4 0),(15,vJ i3),(35,.v (.bool true))] [(4,[J i4,J i5,.str s6,J i7,J i8,.slice a9 n10 c11 z12])]) U
noncomputable def Oh:Out:=q 78 n (dg 1110111) [] (en 151 [(0,vA a1),(1,vJ i2),(4,.lp 4 0),(15,vJ i3),(35,.v (.bool b4))] [(4,[J i5,J i6,.str s7,J i8,J i9,.slice a10 n11 c12 z13])]) U
noncomputable def Oi:Out:=q 78 n (dg 11101011) [] (en 151 [(0,vA a1)] []) U
noncomputable def OD:Out:=q 97 n (dg 11001) [] (en 27 [(0,vJ i1),(2,vJ i2),(3,.v (.bool b3))] []) U
noncomputable def OE:Out:=q 97 n (dg 11001) [] (en 27 [(0,vJ i1),(2,vJ i2),(3,.v (.bool false))] []) U
noncomputable def DQ:Out:=q 97 n (dg 1100111) [] (en 27 [(0,vJ i1),(2,vJ i2),(10,.v (.bool b3))] []) U
noncomputable def DS:Out:=q 97 n (dg 1100111) [] (en 27 [(0,vJ i1),(2,vJ i2),(10,.v (.bool false))] []) U
noncomputable def Hv:Out:=q 97 n (dg 110011111) [] (en 27 [(0,vJ i1),(2,vJ i2),(17,.v (.bool b3))] []) U
noncomputable def DT:Out:=q 97 n (dg 110011111) [] (en 27 [(0,vJ i1),(2,vJ i2),(17,.v (.bool false))] []) U
noncomputable def C5:Out:=q 102 n (dg 11111011111111101) [] (en 134 [(2,vP p1 o2),(4,vP p3 o4)] []) U
noncomputable def G5:Out:=q 139 n [1] [] (en 17 [(0,vA a1),(1,vJ i2),(2,.v (.bool b3))] []) U
end
section
set_option autoImplicit true
set_option relaxedAutoImplicit true
variable {p1 n2 o2 p2 n3 o3 p3 n4 o4 p4 z4 o5 z5 n6 p6 z6 n7 o7 p7 n8 o8 z8 z9 n10 p10 z10 n11 o11 n12 p12 z12 n13 o13 z13 n14 z14 n15 z15 z16 n17 z17 n18 n19 z19 z20 z21 n23 n24 z25 n26 z26 n27 n28 z28 z29 z30:Nat} {s5 s6 s7 s9 s10 s11 s13 s14 s15 s19 s20 s22 s23 s24:By}
theorem Xl (w:Wp Q λu=>
 cB u.n 32 [.slice a1 n2 c3 z4] U λb U=>
 cond (!b) (some (.ret (.tuple [.str [],J 6]),U)) (let U0:St:=U++[bx 94 [.slice a1 n2 c3 z4,.ptr none,N0]];
 ao (ah .i64 ((n2:Int)-1)) n2<|
 af a1 λb o=>
 ar z4 6<|
 lL 28 U0 b ((o+(((ah .i64 ((n2:Int)-1))).toNat*6))+5) λa k c z=>
 AD u.n u.n a1 n2 c3 z4 [] 0 U.length 0 a k c z (k:Int) 0 U0)):F 17 [.slice a1 n2 c3 z4] U Q:=aJ [] w
theorem MR (w:Wp Q λu=>
 cond (decide (i14<i13)) (ao i14 n10<|
 af a9 λb o=>
 ar z12 1<|
 lI 3 U b (o+((i14).toNat*1)) λi=>
 cA u.n 33 [.ptr (sm p7 o8),J i] U λ_ U=>
 AD u.n u.m1 a1 n2 c3 z4 s5 i6 p7 o8 a9 n10 c11 z12 i13 (ah .i64 (i14+1)) U) (G7 u.n a1 n2 c3 z4 s5 i6 p7 o8 U)):Wp Q λu=>AD u.n u.m1 a1 n2 c3 z4 s5 i6 p7 o8 a9 n10 c11 z12 i13 i14 U:=cK [(dg 11111)] w
theorem Xm (w:Wp Q λu=>
 cS u.n 34 [.ptr (sm p7 (o8+1))] U λs U=>
 let U0:St:=U++[bx 100 [.str s,J 0,J 0,J 0,.str [],J 0,N0,J 0]];
 cC u.n 35 [.ptr (sm U.length 0)] U0 λc U=>
 ul c λa k c z r=>
 ub r λb r=>
 aY r<|
 cond (!b) (some (.ret (.tuple [.str [],J 6]),U)) (cB u.n 36 [.slice a1 n2 c3 z4,.slice a k c z] U λb U=>
 cond (!b) (some (.ret (.tuple [.str [],J 6]),U)) (cond (decide ((s.length:Int)>8192)) (some (.ret (.tuple [.str [],J 15]),U)) (some (.ret (.tuple [.str s,J 0]),U))))):Wp Q λu=>G7 u.n a1 n2 c3 z4 s5 i6 p7 o8 U:=aH [] w
theorem Yz (w:Wp Q λu=>
 cond ((n2:Int)==0) (some (.ret (.bool false),U)) (cond (decide ((n2:Int)>4096)) (some (.ret (.bool false),U)) (ao (ah .i64 ((n2:Int)-1)) n2<|
 af a1 λb o=>
 ar z4 6<|
 lI 3 U b ((o+(((ah .i64 ((n2:Int)-1))).toNat*6))+0) λi=>
 cond (i !=23) (some (.ret (.bool false),U)) (lq ae 3 1 (n2:Int) (n2:Int) U λU0=>
 AW u.n u.n a1 n2 c3 z4 (sm U.length 0) (((n2:Int)).toNat) (some ((n2:Int)).toNat) 1 a1 n2 c3 z4 (n2:Int) 0 U0)))):F 32 [.slice a1 n2 c3 z4] U Q:=aJ [] w
theorem NC (w:Wp Q λu=>
 cond (decide (i14<i13)) (ao i14 n10<|
 af a9 λb o=>
 ar z12 6<|
 lG 42 U b (o+((i14).toNat*6)) λc=>
 ui c λi r=>
 ui r λi0 r=>
 us r λs r=>
 ui r λi1 r=>
 ui r λi2 r=>
 ul r λa k c z r=>
 aY r<|
 AX u.n u.m1 u.n a1 n2 c3 z4 a5 n6 c7 z8 i14 i14 (ah .i64 ((k:Int)-1)) a9 n10 c11 z12 i13 i14 i i0 s i1 i2 a k c z U) (NA u.n a1 n2 c3 z4 a5 n6 c7 z8 U)):Wp Q λu=>AW u.n u.m1 a1 n2 c3 z4 a5 n6 c7 z8 a9 n10 c11 z12 i13 i14 U:=cK [(dg 11111)] w
theorem ND (w:Wp Q λu=>
 cond (decide (i11>=0)) (ao i11 n24<|
 af a23 λb o=>
 ar z26 1<|
 lI 3 U b (o+((i11).toNat*1)) λi=>
 cond (i !=(ah .i64 (i10-1))) (some (.ret (.bool false),U)) (cond (i10==0) (some (.ret (.bool false),U)) (ao (ah .i64 (i10-1)) n6<|
 af a5 λb o=>
 ar z8 1<|
 lI 3 U b (o+(((ah .i64 (i10-1))).toNat*1)) λi=>
 AX u.n u.m1 u.m2 a1 n2 c3 z4 a5 n6 c7 z8 i9 i (ah .i64 (i11-1)) a12 n13 c14 z15 i16 i17 i18 i19 s20 i21 i22 a23 n24 c25 z26 U))) (Hk u.n u.m1 a1 n2 c3 z4 a5 n6 c7 z8 i9 i10 a12 n13 c14 z15 i16 i17 i18 i19 s20 i21 i22 a23 n24 c25 z26 U)):Wp Q λu=>AX u.n u.m1 u.m2 a1 n2 c3 z4 a5 n6 c7 z8 i9 i10 i11 a12 n13 c14 z15 i16 i17 i18 i19 s20 i21 i22 a23 n24 c25 z26 U:=yx [(dg 111101001100111)] w
theorem YA (w:Wp Q λu=>
 ao (ah .i64 ((n2:Int)-1)) n6<|
 af a5 λb o=>
 ar z8 1<|
 lI 3 U b (o+(((ah .i64 ((n2:Int)-1))).toNat*1)) λi=>
 some (.ret (.bool (i==0)),U)):Wp Q λu=>NA u.n a1 n2 c3 z4 a5 n6 c7 z8 U:=aH [] w
theorem YB (w:Wp Q λu=>
 ao i9 n6<|
 af a5 λb o=>
 ar z8 1<|
 aT U b (o+((i9).toNat*1)) [J i10] λU=>
 cB u.n 73 [.slice a1 n2 c3 z4,.agg [J i17,J i18,.str s19,J i20,J i21,.slice a22 n23 c24 z25]] U λb U=>
 cond (!b) (some (.ret (.bool false),U)) (NB u.n u.m1 a1 n2 c3 z4 a5 n6 c7 z8 a11 n12 c13 z14 i15 i16 U)):Wp Q λu=>Hk u.n u.m1 a1 n2 c3 z4 a5 n6 c7 z8 i9 i10 a11 n12 c13 z14 i15 i16 i17 i18 s19 i20 i21 a22 n23 c24 z25 U:=aH [(dg 11110100111)] w
theorem YC (w:Wp Q λu=>
 AW u.n u.m1 a1 n2 c3 z4 a5 n6 c7 z8 a9 n10 c11 z12 i13 (ah .i64 (i14+1)) U):Wp Q λu=>NB u.n u.m1 a1 n2 c3 z4 a5 n6 c7 z8 a9 n10 c11 z12 i13 i14 U:=aH [] w
theorem YD (w:Wp Q λu=>
 af a1 λb o=>
 lL 24 U b (o+0) λa k _ z=>
 ao i2 k<|
 af a λb o=>
 ar z 6<|
 lG 42 U b (o+((i2).toNat*6)) λc=>
 ui c λi r=>
 ui r λ_ r=>
 us r λs r=>
 ui r λi0 r=>
 ui r λi1 r=>
 ul r λa k c z r=>
 aY r<|
 cond (i==20) (let U0:St:=U++[rx 9 [.str [105,110,116],.str s,.str [59]]];
 cA u.n 74 [.ptr a1,.slice (sm U.length 0) 3 (some 3) 1] U0 λ_ U=>
 some (.ret (.tuple []),U)) (cond (i==21) (let U0:St:=U++[.map []];
 nO true U0 (U.length) (.str [99,104,97,114]) λU1=>
 nO false U1 (U.length) (.str [105,110,116]) λU1=>
 gF ae 4 9 U1 (some U.length) (.bool (i1==2)) λx _=>
 jY x λs0=>
 lN [(U.length,1),(U.length,1)]<|
 Gi ae Lb u.n 75 [J i0,J 10] U1 λv=>
 jY v λs1=>
 dS [(U,U0,1,none)]<|
 let U:St:=U1++[rx 9 [.str s0,.str s,.str [91],.str s1,.str [93],.str [59]]];
 cZ ae Lb u.n 74 [.ptr a1,.slice (sm U1.length 0) 6 (some 6) 1] U λ_ U=>
 some (.ret (.tuple []),U)) (cond (i==22) (let U0:St:=U++[rx 9 [.str [105,110,116],.str s,.str [40]]];
 cA u.n 74 [.ptr a1,.slice (sm U.length 0) 3 (some 3) 1] U0 λ_ U=>
 tH a k c z 1 0 i1 λa0 k0 c=>
 cA u.n 76 [.ptr a1,.slice a0 k0 c z,.func (.func 77) [.ptr a1] []] U λ_ U=>
 let U0:St:=U++[rx 9 [.str [41]]];
 cA u.n 74 [.ptr a1,.slice (sm U.length 0) 1 (some 1) 1] U0 λ_ U=>
 ao i1 k<|
 af a λb o=>
 ar z 1<|
 lI 3 U b (o+((i1).toNat*1)) λi=>
 cA u.n 78 [.ptr a1,J i] U λ_ U=>
 some (.ret (.tuple []),U)) (some (.ret (.tuple []),U))))):F 33 [.ptr a1,J i2] U Q:=aJ [] w
theorem YE (w:Wp Q λu=>
 let U0:St:=U++[bx 24 [N0]];
 let U1:St:=U0++[bx 4 [.bool false]];
 ck ae Lb u.n 80 [.ptr a1] U1 (λv U1=>
 kQ v λc=>
 ui c λi r=>
 ui r λi0 r=>
 us r λs r=>
 ui r λi1 r=>
 aY r<|
 af a1 λb o=>
 aT U1 b (o+2) [J i,J i0,.str s,J i1] λU1=>
 AY u.n u.n a1 U.length 0 U0.length 0 none 0 (some 0) 0 U.length 0 U0.length 0 U1) (λv U1=>
 bC ae Lb u.n 79 [.ptr (sm U.length 0),.ptr (sm U0.length 0)] (some v) U1 λu0 U1=>
 bq u0 (λv=>
 some (.pan v,U1)) (lD 24 U1 U.length 0 λx=>
 lD 4 U1 U0.length 0 λx0=>
 some (.ret (.tuple [x,x0]),U1)))):F 35 [.ptr a1] U Q:=aJ [] w
theorem YG (w:Wp Q λu=>
 af a1 λb o=>
 lI 3 U b ((o+2)+0) λi=>
 cond (i !=0) (ck ae Lb u.n 81 [.ptr a1] U (λv U=>
 xI v λi=>
 dT U 3 1 8 a6 n7 z9 1 [J i] λa k c U=>
 AY u.n u.m1 a1 p2 o3 p4 o5 a k c 1 p10 o11 p12 o13 U) (λv U=>
 bC ae Lb u.n 79 [.ptr (sm p10 o11),.ptr (sm p12 o13)] (some v) U λu0 U=>
 bq u0 (λv=>
 some (.pan v,U)) (lD 24 U p2 o3 λx=>
 lD 4 U p4 o5 λx0=>
 some (.ret (.tuple [x,x0]),U)))) (Hl u.n a1 p2 o3 p4 o5 a6 n7 c8 z9 p10 o11 p12 o13 U)):Wp Q λu=>AY u.n u.m1 a1 p2 o3 p4 o5 a6 n7 c8 z9 p10 o11 p12 o13 U:=cK [(dg 111111)] w
theorem YF (w:Wp Q λu=>
 ck ae Lb u.n 82 [.ptr a1,.agg [J 23,J 0,.str [],J 0,J 0,.slice a6 n7 c8 z9]] U (λv U=>
 xI v λ_=>
 af a1 λb o=>
 lL 24 U b (o+6) λa k c z=>
 aT U p2 o3 [.slice a k c z] λU=>
 aT U p4 o5 [.bool true] λU=>
 bC ae Lb u.n 79 [.ptr (sm p10 o11),.ptr (sm p12 o13)] none U λu0 U=>
 bq u0 (λv=>
 some (.pan v,U)) (lD 24 U p2 o3 λx=>
 lD 4 U p4 o5 λx0=>
 some (.ret (.tuple [x,x0]),U))) (λv U=>
 bC ae Lb u.n 79 [.ptr (sm p10 o11),.ptr (sm p12 o13)] (some v) U λu0 U=>
 bq u0 (λv=>
 some (.pan v,U)) (lD 24 U p2 o3 λx=>
 lD 4 U p4 o5 λx0=>
 some (.ret (.tuple [x,x0]),U)))):Wp Q λu=>Hl u.n a1 p2 o3 p4 o5 a6 n7 c8 z9 p10 o11 p12 o13 U:=aH [] w
theorem YH (w:Wp Q λu=>
 cond ((n2:Int) !=(n6:Int)) (some (.ret (.bool false),U)) (AZ u.n u.n a1 n2 c3 z4 a5 n6 c7 z8 (n2:Int) 0 U)):F 36 [.slice a1 n2 c3 z4,.slice a5 n6 c7 z8] U Q:=aJ [] w
theorem NH (w:Wp Q λu=>
 cond (decide (i10<i9)) (ao i10 n2<|
 af a1 λb o=>
 ar z4 6<|
 lG 42 U b (o+((i10).toNat*6)) λc=>
 ui c λi r=>
 ui r λi0 r=>
 us r λs r=>
 ui r λi1 r=>
 ui r λi2 r=>
 ul r λa k c z r=>
 aY r<|
 ao i10 n6<|
 af a5 λb o=>
 ar z8 6<|
 lG 42 U b (o+((i10).toNat*6)) λc0=>
 ui c0 λi3 r=>
 ui r λi4 r=>
 us r λs0 r=>
 ui r λi5 r=>
 ui r λi6 r=>
 ul r λa0 k0 c0 z0 r=>
 aY r<|
 cond (i !=i3) (Dy u.n u.m1 a1 n2 c3 z4 a5 n6 c7 z8 i9 i10 i i0 s i1 i2 a k c z i3 i4 s0 i5 i6 a0 k0 c0 z0 U) (cond (!(s==s0)) (Dy u.n u.m1 a1 n2 c3 z4 a5 n6 c7 z8 i9 i10 i i0 s i1 i2 a k c z i3 i4 s0 i5 i6 a0 k0 c0 z0 U) (cond (i1 !=i5) (Dy u.n u.m1 a1 n2 c3 z4 a5 n6 c7 z8 i9 i10 i i0 s i1 i2 a k c z i3 i4 s0 i5 i6 a0 k0 c0 z0 U) (cond (i2 !=i6) (Dy u.n u.m1 a1 n2 c3 z4 a5 n6 c7 z8 i9 i10 i i0 s i1 i2 a k c z i3 i4 s0 i5 i6 a0 k0 c0 z0 U) (NF u.n u.m1 a1 n2 c3 z4 a5 n6 c7 z8 i9 i10 ((k:Int) !=(k0:Int)) i i0 s i1 i2 a k c z i3 i4 s0 i5 i6 a0 k0 c0 z0 U))))) (NG u.n U)):Wp Q λu=>AZ u.n u.m1 a1 n2 c3 z4 a5 n6 c7 z8 i9 i10 U:=cK [(dg 111010011001101),[1,1,1]] w
theorem YI (w:Wp Q λu=>
 cond b11 (some (.ret (.bool false),U)) (A0 u.n u.m1 u.n a1 n2 c3 z4 a5 n6 c7 z8 i9 i10 (n18:Int) 0 i12 i13 s14 i15 i16 a17 n18 c19 z20 i21 i22 s23 i24 i25 a26 n27 c28 z29 U)):Wp Q λu=>NF u.n u.m1 a1 n2 c3 z4 a5 n6 c7 z8 i9 i10 b11 i12 i13 s14 i15 i16 a17 n18 c19 z20 i21 i22 s23 i24 i25 a26 n27 c28 z29 U:=aH [] w
theorem YJ (w:Wp Q λu=>
 some (.ret (.bool true),U)):Wp Q λu=>NG u.n U:=aH [] w
theorem NI (w:Wp Q λu=>
 cond (decide (i12<i11)) (ao i12 n19<|
 af a18 λb o=>
 ar z21 1<|
 lI 3 U b (o+((i12).toNat*1)) λi=>
 ao i12 n28<|
 af a27 λb o=>
 ar z30 1<|
 lI 3 U b (o+((i12).toNat*1)) λi0=>
 cond (i !=i0) (some (.ret (.bool false),U)) (A0 u.n u.m1 u.m2 a1 n2 c3 z4 a5 n6 c7 z8 i9 i10 i11 (ah .i64 (i12+1)) i13 i14 s15 i16 i17 a18 n19 c20 z21 i22 i23 s24 i25 i26 a27 n28 c29 z30 U)) (Dz u.n u.m1 a1 n2 c3 z4 a5 n6 c7 z8 i9 i10 U)):Wp Q λu=>A0 u.n u.m1 u.m2 a1 n2 c3 z4 a5 n6 c7 z8 i9 i10 i11 i12 i13 i14 s15 i16 i17 a18 n19 c20 z21 i22 i23 s24 i25 i26 a27 n28 c29 z30 U:=yx [(dg 1110100111)] w
theorem YK (w:Wp Q λu=>
 AZ u.n u.m1 a1 n2 c3 z4 a5 n6 c7 z8 i9 (ah .i64 (i10+1)) U):Wp Q λu=>Dz u.n u.m1 a1 n2 c3 z4 a5 n6 c7 z8 i9 i10 U:=aH [] w
theorem ZC (w:Wp Q λu=>
 let U0:St:=U++[.map []];
 bY ae 3 U0 (.v (.map (some U.length))) (J 1) (.str []) λU0=>
 bY ae 3 U0 (.v (.map (some U.length))) (J 2) (.str []) λU0=>
 bY ae 3 U0 (.v (.map (some U.length))) (J 3) (.str []) λU0=>
 bY ae 3 U0 (.v (.map (some U.length))) (J 5) (.str [49,49]) λU0=>
 bY ae 3 U0 (.v (.map (some U.length))) (J 6) (.str [49]) λU0=>
 bY ae 3 U0 (.v (.map (some U.length))) (J 7) (.str [49,49]) λU0=>
 bY ae 3 U0 (.v (.map (some U.length))) (J 10) (.str [49]) λU0=>
 bY ae 3 U0 (.v (.map (some U.length))) (J 11) (.str [49,49]) λU0=>
 bY ae 3 U0 (.v (.map (some U.length))) (J 13) (.str [49,50]) λU0=>
 bY ae 3 U0 (.v (.map (some U.length))) (J 14) (.str [49]) λU0=>
 bY ae 3 U0 (.v (.map (some U.length))) (J 15) (.str []) λU0=>
 bY ae 3 U0 (.v (.map (some U.length))) (J 16) (.str []) λU0=>
 bY ae 3 U0 (.v (.map (some U.length))) (J 20) (.str []) λU0=>
 bY ae 3 U0 (.v (.map (some U.length))) (J 21) (.str []) λU0=>
 A7 u.n u.n a1 n2 c3 z4 (some U.length) [] a10 n11 c12 z13 (n11:Int) 0 i5 i6 s7 i8 i9 a10 n11 c12 z13 U0):F 73 [.slice a1 n2 c3 z4,.agg [J i5,J i6,.str s7,J i8,J i9,.slice a10 n11 c12 z13]] U Q:=aJ [] w
theorem Ob (w:Wp Q λu=>
 cond (decide (i12<i11)) (ao i12 n8<|
 af a7 λb o=>
 ar z10 1<|
 lI 3 U b (o+((i12).toNat*1)) λi=>
 ao i n2<|
 af a1 λb o=>
 ar z4 6<|
 lI 3 U b ((o+((i).toNat*6))+0) λi=>
 cI u.n 97 [J i] U λi U=>
 cS u.n 96 [J i] U λs U=>
 xZ s6 s λs=>
 A7 u.n u.m1 a1 n2 c3 z4 q5 s a7 n8 c9 z10 i11 (ah .i64 (i12+1)) i13 i14 s15 i16 i17 a18 n19 c20 z21 U) (Hr u.n a1 n2 c3 z4 q5 s6 i13 i14 s15 i16 i17 a18 n19 c20 z21 U)):Wp Q λu=>A7 u.n u.m1 a1 n2 c3 z4 q5 s6 a7 n8 c9 z10 i11 i12 i13 i14 s15 i16 i17 a18 n19 c20 z21 U:=cK [(dg 11111)] w
theorem ZD (w:Wp Q λu=>
 gF ae 3 9 U q5 (J i7) λx b=>
 jY x λs=>
 cond (i7==6) (cond (decide (i10<1)) (DH u.n a1 n2 c3 z4 s6 s b i7 i8 s9 i10 i11 a12 n13 c14 z15 U) (cond (decide (i10>3)) (DH u.n a1 n2 c3 z4 s6 s b i7 i8 s9 i10 i11 a12 n13 c14 z15 U) (cond (i7==7) (cond (decide (i10<4)) (DH u.n a1 n2 c3 z4 s6 s b i7 i8 s9 i10 i11 a12 n13 c14 z15 U) (Hs u.n a1 n2 c3 z4 s6 s b (decide (i10>21)) i7 i8 s9 i10 i11 a12 n13 c14 z15 U)) (DI u.n a1 n2 c3 z4 s6 s b i7 i8 s9 i10 i11 a12 n13 c14 z15 U)))) (cond (i7==7) (cond (decide (i10<4)) (DH u.n a1 n2 c3 z4 s6 s b i7 i8 s9 i10 i11 a12 n13 c14 z15 U) (Hs u.n a1 n2 c3 z4 s6 s b (decide (i10>21)) i7 i8 s9 i10 i11 a12 n13 c14 z15 U)) (DI u.n a1 n2 c3 z4 s6 s b i7 i8 s9 i10 i11 a12 n13 c14 z15 U))):Wp Q λu=>Hr u.n a1 n2 c3 z4 q5 s6 i7 i8 s9 i10 i11 a12 n13 c14 z15 U:=aH [(dg 111111001)] w
theorem ZE (w:Wp Q λu=>
 cond b8 (some (.ret (.bool false),U)) (cond b7 (some (.ret (.bool (s5==s6)),U)) (cond (i9==4) (cS u.n 98 [.str s5,.str [49]] U λs U=>
 some (.ret (.bool (s==[])),U)) (cond (i9==12) (cond (s5==[49,50]) (some (.ret (.bool true),U)) (some (.ret (.bool (s5==[49,50,50])),U))) (cond (i9==17) (cS u.n 98 [.str s5,.str [50]] U λs U=>
 some (.ret (.bool (s==[])),U)) (cond (i9==18) (cond (s5==[]) (some (.ret (.bool true),U)) (some (.ret (.bool (s5==[49])),U))) (cond (i9==22) (cond (decide (i13>=0)) (cond ((s5.length:Int)==(ah .i64 (i13+1))) (cS u.n 98 [.str s5,.str [50]] U λs U=>
 cond (s==[]) (ao i13 n15<|
 af a14 λb o=>
 ar z17 1<|
 lI 3 U b (o+((i13).toNat*1)) λi=>
 ao i n2<|
 af a1 λb o=>
 ar z4 6<|
 lI 3 U b ((o+((i).toNat*6))+0) λi=>
 some (.ret (.bool (i==17)),U)) (some (.ret (.bool false),U))) (some (.ret (.bool false),U))) (some (.ret (.bool false),U))) (cond (i9==23) (cS u.n 98 [.str s5,.str [51]] U λs U=>
 some (.ret (.bool (s==[])),U)) (some (.ret (.bool false),U)))))))))):Wp Q λu=>Hs u.n a1 n2 c3 z4 s5 s6 b7 b8 i9 i10 s11 i12 i13 a14 n15 c16 z17 U:=aH [] w
theorem Oa (w:Wp Q λu=>
 cond b7 (some (.ret (.bool (s5==s6)),U)) (cond (i8==4) (cS u.n 98 [.str s5,.str [49]] U λs U=>
 some (.ret (.bool (s==[])),U)) (cond (i8==12) (cond (s5==[49,50]) (some (.ret (.bool true),U)) (some (.ret (.bool (s5==[49,50,50])),U))) (cond (i8==17) (cS u.n 98 [.str s5,.str [50]] U λs U=>
 some (.ret (.bool (s==[])),U)) (cond (i8==18) (cond (s5==[]) (some (.ret (.bool true),U)) (some (.ret (.bool (s5==[49])),U))) (cond (i8==22) (cond (decide (i12>=0)) (cond ((s5.length:Int)==(ah .i64 (i12+1))) (cS u.n 98 [.str s5,.str [50]] U λs U=>
 cond (s==[]) (ao i12 n14<|
 af a13 λb o=>
 ar z16 1<|
 lI 3 U b (o+((i12).toNat*1)) λi=>
 ao i n2<|
 af a1 λb o=>
 ar z4 6<|
 lI 3 U b ((o+((i).toNat*6))+0) λi=>
 some (.ret (.bool (i==17)),U)) (some (.ret (.bool false),U))) (some (.ret (.bool false),U))) (some (.ret (.bool false),U))) (cond (i8==23) (cS u.n 98 [.str s5,.str [51]] U λs U=>
 some (.ret (.bool (s==[])),U)) (some (.ret (.bool false),U))))))))):Wp Q λu=>DI u.n a1 n2 c3 z4 s5 s6 b7 i8 i9 s10 i11 i12 a13 n14 c15 z16 U:=aH [] w
theorem ZF (w:Wp Q λu=>
 sJ u.n u.n a1 a2 n3 c4 z5 (n3:Int) 0 U):F 74 [.ptr a1,.slice a2 n3 c4 z5] U Q:=aJ [] w
theorem Od (w:Wp Q λu=>
 cond (decide (i7<i6)) (ao i7 n3<|
 af a2 λb o=>
 ar z5 1<|
 lS 9 U b (o+((i7).toNat*1)) λs=>
 af a1 λb o=>
 cC u.n 99 [.ptr (sm b (o+1)),.str s] U λc U=>
 ui c λ_ r=>
 jv r λ_ r=>
 aY r<|
 cond (s==[59]) (DJ u.n u.m1 a1 a2 n3 c4 z5 i6 i7 U) (cond (s==[123]) (DJ u.n u.m1 a1 a2 n3 c4 z5 i6 i7 U) (Oc u.n u.m1 a1 a2 n3 c4 z5 i6 i7 (s==[125]) U))) (some (.ret (.tuple []),U))):Wp Q λu=>sJ u.n u.m1 a1 a2 n3 c4 z5 i6 i7 U:=cK [(dg 11001100111)] w
theorem ZG (w:Wp Q λu=>
 af a1 λb o=>
 cA u.n 100 [.ptr (sm b (o+1)),.int .u8 10] U λ_ U=>
 sJ u.n u.m1 a1 a2 n3 c4 z5 i6 (ah .i64 (i7+1)) U):Wp Q λu=>DJ u.n u.m1 a1 a2 n3 c4 z5 i6 i7 U:=aH [] w
theorem ZH (w:Wp Q λu=>
 cond b8 (af a1 λb o=>
 cA u.n 100 [.ptr (sm b (o+1)),.int .u8 10] U λ_ U=>
 sJ u.n u.m1 a1 a2 n3 c4 z5 i6 (ah .i64 (i7+1)) U) (af a1 λb o=>
 cA u.n 100 [.ptr (sm b (o+1)),.int .u8 32] U λ_ U=>
 sJ u.n u.m1 a1 a2 n3 c4 z5 i6 (ah .i64 (i7+1)) U)):Wp Q λu=>Oc u.n u.m1 a1 a2 n3 c4 z5 i6 i7 b8 U:=aH [] w
theorem ZI (w:Wp Q λu=>
 yn u.n u.n a1 x6 a2 n3 c4 z5 (n3:Int) 0 U):F 76 [.ptr a1,.slice a2 n3 c4 z5,x6] U Q:=aJ [] w
theorem Oe (w:Wp Q λu=>
 cond (decide (i8<i7)) (ao i8 n4<|
 af a3 λb o=>
 ar z6 1<|
 lI 3 U b (o+((i8).toNat*1)) λi=>
 cond (decide (i8>0)) (let U0:St:=U++[rx 9 [.str [44]]];
 cA u.n 74 [.ptr a1,.slice (sm U.length 0) 1 (some 1) 1] U0 λ_ U=>
 su ae Lb u.n x2 [J i] U λ_ U=>
 yn u.n u.m1 a1 x2 a3 n4 c5 z6 i7 (ah .i64 (i8+1)) U) (su ae Lb u.n x2 [J i] U λ_ U=>
 yn u.n u.m1 a1 x2 a3 n4 c5 z6 i7 (ah .i64 (i8+1)) U)) (some (.ret (.tuple []),U))):Wp Q λu=>yn u.n u.m1 a1 x2 a3 n4 c5 z6 i7 i8 U:=cK [] w
theorem ZJ (w:Wp Q λu=>
 af a1 λb o=>
 lL 24 U b (o+0) λa k _ z=>
 ao i2 k<|
 af a λb o=>
 ar z 6<|
 lG 42 U b (o+((i2).toNat*6)) λc=>
 ui c λ_ r=>
 ui r λ_ r=>
 us r λs r=>
 ui r λ_ r=>
 ui r λi r=>
 ul r λ_ _ _ _ r=>
 aY r<|
 cond (i==1) (let U0:St:=U++[rx 9 [.str [105,110,116],.str s]];
 cA u.n 74 [.ptr a1,.slice (sm U.length 0) 2 (some 2) 1] U0 λ_ U=>
 some (.ret (.tuple []),U)) (cond (i==3) (let U0:St:=U++[rx 9 [.str [105,110,116],.str [42],.str s]];
 cA u.n 74 [.ptr a1,.slice (sm U.length 0) 3 (some 3) 1] U0 λ_ U=>
 some (.ret (.tuple []),U)) (let U0:St:=U++[rx 9 [.str [99,104,97,114],.str [42],.str s]];
 cA u.n 74 [.ptr a1,.slice (sm U.length 0) 3 (some 3) 1] U0 λ_ U=>
 some (.ret (.tuple []),U)))):F 77 [.ptr a1,J i2] U Q:=aJ [] w
theorem ZK (w:Wp Q λu=>
 af a1 λb o=>
 lL 24 U b (o+0) λa k _ z=>
 ao i2 k<|
 af a λb o=>
 ar z 6<|
 lG 42 U b (o+((i2).toNat*6)) λc=>
 ui c λi r=>
 ui r λi0 r=>
 us r λs r=>
 ui r λi1 r=>
 ui r λi3 r=>
 ul r λa k c z r=>
 aY r<|
 cond (i==17) (let U0:St:=U++[rx 9 [.str [123]]];
 cA u.n 74 [.ptr a1,.slice (sm U.length 0) 1 (some 1) 1] U0 λ_ U=>
 A8 u.n u.n a1 a k c z (k:Int) 0 U) (cond (i==12) (Of u.n a1 i2 i i i0 s i1 i3 a k c z U) (Oh u.n a1 i2 i (i==13) i i0 s i1 i3 a k c z U))):F 78 [.ptr a1,J i2] U Q:=aJ [(dg 1110111)] w
theorem Oj (w:Wp Q λu=>
 cond (decide (i7<i6)) (ao i7 n3<|
 af a2 λb o=>
 ar z5 1<|
 lI 3 U b (o+((i7).toNat*1)) λi=>
 cA u.n 78 [.ptr a1,J i] U λ_ U=>
 A8 u.n u.m1 a1 a2 n3 c4 z5 i6 (ah .i64 (i7+1)) U) (Oi u.n a1 U)):Wp Q λu=>A8 u.n u.m1 a1 a2 n3 c4 z5 i6 i7 U:=cK [(dg 11101011)] w
theorem Og (w:Wp Q λu=>
 let U0:St:=U++[.map []];
 bY ae 4 U0 (.v (.map (some U.length))) (.bool true) (.str [105,102]) λU0=>
 bY ae 4 U0 (.v (.map (some U.length))) (.bool false) (.str [119,104,105,108,101]) λU0=>
 gF ae 4 9 U0 (some U.length) (.bool (i4==12)) λx _=>
 jY x λs=>
 let U:St:=U0++[rx 9 [.str s,.str [40]]];
 cA u.n 74 [.ptr a1,.slice (sm U0.length 0) 2 (some 2) 1] U λ_ U=>
 ao 0 n10<|
 af a9 λb o=>
 ar z12 1<|
 lI 3 U b (o+0) λi=>
 cA u.n 102 [.ptr a1,J i] U λ_ U=>
 let U0:St:=U++[rx 9 [.str [41]]];
 cA u.n 74 [.ptr a1,.slice (sm U.length 0) 1 (some 1) 1] U0 λ_ U=>
 ao 1 n10<|
 af a9 λb o=>
 ar z12 1<|
 lI 3 U b (o+1) λi=>
 cA u.n 78 [.ptr a1,J i] U λ_ U=>
 cond (decide ((n10:Int)>2)) (let U0:St:=U++[rx 9 [.str [101,108,115,101]]];
 cA u.n 74 [.ptr a1,.slice (sm U.length 0) 1 (some 1) 1] U0 λ_ U=>
 ao 2 n10<|
 af a9 λb o=>
 ar z12 1<|
 lI 3 U b (o+2) λi=>
 cA u.n 78 [.ptr a1,J i] U λ_ U=>
 some (.ret (.tuple []),U)) (some (.ret (.tuple []),U))):Wp Q λu=>Of u.n a1 i2 i3 i4 i5 s6 i7 i8 a9 n10 c11 z12 U:=aH [] w
theorem uN (w:Wp Q λu=>
 cond b4 (let U0:St:=U++[.map []];
 bY ae 4 U0 (.v (.map (some U.length))) (.bool true) (.str [105,102]) λU0=>
 bY ae 4 U0 (.v (.map (some U.length))) (.bool false) (.str [119,104,105,108,101]) λU0=>
 gF ae 4 9 U0 (some U.length) (.bool (i5==12)) λx _=>
 jY x λs=>
 let U:St:=U0++[rx 9 [.str s,.str [40]]];
 cA u.n 74 [.ptr a1,.slice (sm U0.length 0) 2 (some 2) 1] U λ_ U=>
 ao 0 n11<|
 af a10 λb o=>
 ar z13 1<|
 lI 3 U b (o+0) λi=>
 cA u.n 102 [.ptr a1,J i] U λ_ U=>
 let U0:St:=U++[rx 9 [.str [41]]];
 cA u.n 74 [.ptr a1,.slice (sm U.length 0) 1 (some 1) 1] U0 λ_ U=>
 ao 1 n11<|
 af a10 λb o=>
 ar z13 1<|
 lI 3 U b (o+1) λi=>
 cA u.n 78 [.ptr a1,J i] U λ_ U=>
 cond (decide ((n11:Int)>2)) (let U0:St:=U++[rx 9 [.str [101,108,115,101]]];
 cA u.n 74 [.ptr a1,.slice (sm U.length 0) 1 (some 1) 1] U0 λ_ U=>
 ao 2 n11<|
 af a10 λb o=>
 ar z13 1<|
 lI 3 U b (o+2) λi=>
 cA u.n 78 [.ptr a1,J i] U λ_ U=>
 some (.ret (.tuple []),U)) (some (.ret (.tuple []),U))) (cond (i3==14) (let U0:St:=U++[rx 9 [.str [114,101,116,117,114,110]]];
 cA u.n 74 [.ptr a1,.slice (sm U.length 0) 1 (some 1) 1] U0 λ_ U=>
 ao 0 n11<|
 af a10 λb o=>
 ar z13 1<|
 lI 3 U b (o+0) λi=>
 cA u.n 102 [.ptr a1,J i] U λ_ U=>
 let U0:St:=U++[rx 9 [.str [59]]];
 cA u.n 74 [.ptr a1,.slice (sm U.length 0) 1 (some 1) 1] U0 λ_ U=>
 some (.ret (.tuple []),U)) (cond (i3==15) (let U0:St:=U++[rx 9 [.str [98,114,101,97,107],.str [59]]];
 cA u.n 74 [.ptr a1,.slice (sm U.length 0) 2 (some 2) 1] U0 λ_ U=>
 some (.ret (.tuple []),U)) (cond (i3==16) (let U0:St:=U++[rx 9 [.str [99,111,110,116,105,110,117,101],.str [59]]];
 cA u.n 74 [.ptr a1,.slice (sm U.length 0) 2 (some 2) 1] U0 λ_ U=>
 some (.ret (.tuple []),U)) (cond (i3==18) (cA u.n 77 [.ptr a1,J i2] U λ_ U=>
 cond (decide ((n11:Int)>0)) (let U0:St:=U++[rx 9 [.str [61]]];
 cA u.n 74 [.ptr a1,.slice (sm U.length 0) 1 (some 1) 1] U0 λ_ U=>
 ao 0 n11<|
 af a10 λb o=>
 ar z13 1<|
 lI 3 U b (o+0) λi=>
 cA u.n 102 [.ptr a1,J i] U λ_ U=>
 let U0:St:=U++[rx 9 [.str [59]]];
 cA u.n 74 [.ptr a1,.slice (sm U.length 0) 1 (some 1) 1] U0 λ_ U=>
 some (.ret (.tuple []),U)) (let U0:St:=U++[rx 9 [.str [59]]];
 cA u.n 74 [.ptr a1,.slice (sm U.length 0) 1 (some 1) 1] U0 λ_ U=>
 some (.ret (.tuple []),U))) (cond (i3==11) (ao 0 n11<|
 af a10 λb o=>
 ar z13 1<|
 lI 3 U b (o+0) λi=>
 cA u.n 102 [.ptr a1,J i] U λ_ U=>
 let U0:St:=U++[rx 9 [.str [61]]];
 cA u.n 74 [.ptr a1,.slice (sm U.length 0) 1 (some 1) 1] U0 λ_ U=>
 ao 1 n11<|
 af a10 λb o=>
 ar z13 1<|
 lI 3 U b (o+1) λi=>
 cA u.n 102 [.ptr a1,J i] U λ_ U=>
 let U0:St:=U++[rx 9 [.str [59]]];
 cA u.n 74 [.ptr a1,.slice (sm U.length 0) 1 (some 1) 1] U0 λ_ U=>
 some (.ret (.tuple []),U)) (cond (i3==10) (ao 0 n11<|
 af a10 λb o=>
 ar z13 1<|
 lI 3 U b (o+0) λi=>
 cA u.n 102 [.ptr a1,J i] U λ_ U=>
 let U0:St:=U++[rx 9 [.str [59]]];
 cA u.n 74 [.ptr a1,.slice (sm U.length 0) 1 (some 1) 1] U0 λ_ U=>
 some (.ret (.tuple []),U)) (some (.ret (.tuple []),U))))))))):Wp Q λu=>Oh u.n a1 i2 i3 b4 i5 i6 s7 i8 i9 a10 n11 c12 z13 U:=aH [] w
theorem ZL (w:Wp Q λu=>
 let U0:St:=U++[rx 9 [.str [125]]];
 cA u.n 74 [.ptr a1,.slice (sm U.length 0) 1 (some 1) 1] U0 λ_ U=>
 some (.ret (.tuple []),U)):Wp Q λu=>Oi u.n a1 U:=aH [] w
theorem aaj (w:Wp Q λu=>
 cond (decide (i1>=1)) (OD u.n i1 0 (decide (i1<=7)) U) (OE u.n i1 0 U)):F 97 [J i1] U Q:=aJ [(dg 11001)] w
theorem aak (w:Wp Q λu=>
 cond b3 (some (.ret (J 1),U)) (cond (decide (i1>=10)) (DQ u.n i1 i2 (decide (i1<=18)) U) (DS u.n i1 i2 U))):Wp Q λu=>OD u.n i1 i2 b3 U:=aH [(dg 1100111)] w
theorem aal (w:Wp Q λu=>
 cond (decide (i1>=10)) (DQ u.n i1 i2 (decide (i1<=18)) U) (DS u.n i1 i2 U)):Wp Q λu=>OE u.n i1 i2 U:=aH [(dg 1100111)] w
theorem aam (w:Wp Q λu=>
 cond b3 (some (.ret (J 2),U)) (cond (decide (i1>=20)) (Hv u.n i1 i2 (decide (i1<=22)) U) (DT u.n i1 i2 U))):Wp Q λu=>DQ u.n i1 i2 b3 U:=aH [(dg 110011111)] w
theorem aan (w:Wp Q λu=>
 cond (decide (i1>=20)) (Hv u.n i1 i2 (decide (i1<=22)) U) (DT u.n i1 i2 U)):Wp Q λu=>DS u.n i1 i2 U:=aH [(dg 110011111)] w
theorem OF (w:Wp Q λu=>
 cond b3 (some (.ret (J 3),U)) (cond (i1==23) (some (.ret (J 4),U)) (some (.ret (J 0),U)))):Wp Q λu=>Hv u.n i1 i2 b3 U:=aH [] w
theorem aao (w:Wp Q λu=>
 cond (i1==23) (some (.ret (J 4),U)) (some (.ret (J 0),U))):Wp Q λu=>DT u.n i1 i2 U:=aH [] w
theorem Wd (w:Wp Q λu=>
 let U0:St:=U++[bx 89 [.ptr a1]];
 lP 89 U0 U.length 0 λa=>
 af a λb o=>
 lL 24 U0 b (o+0) λa k _ z=>
 ao i2 k<|
 af a λb o=>
 ar z 6<|
 lG 42 U0 b (o+((i2).toNat*6)) λc=>
 ui c λi r=>
 ui r λi0 r=>
 us r λs r=>
 ui r λi1 r=>
 ui r λi2 r=>
 ul r λa k c z r=>
 aY r<|
 let U1:St:=U0++[bx 42 [J 0,J 0,.str [],J 0,J 0,N0]];
 aT U1 U0.length 0 [J i,J i0,.str s,J i1,J i2,.slice a k c z] λU1=>
 let U2:St:=U1++[bx 71 [.nilFunc]];
 aT U2 U1.length 0 [.func (.func 137) [] [.ptr (sm U.length 0),.ptr (sm U0.length 0)]] λU2=>
 lI 3 U2 U0.length 0 λi=>
 cond (i==1) (lP 89 U2 U.length 0 λa=>
 lI 2 U2 U0.length 3 λi=>
 Gi ae Lb u.n 75 [J i,J 10] U2 λv=>
 jY v λs=>
 let U0:St:=U2++[rx 9 [.str s]];
 dS [(U2,U0,U.length,some (0,1))]<|
 cZ ae Lb u.n 74 [.ptr a,.slice (sm U2.length 0) 1 (some 1) 1] U0 λ_ U=>
 some (.ret (.tuple []),U)) (cond (i==2) (lP 89 U2 U.length 0 λa=>
 lS 9 U2 U0.length 2 λs=>
 cZ ae Lb u.n 138 [.str s] U2 λv U0=>
 jY v λs=>
 dS [(U2,U0,U.length,some (0,1))]<|
 let U1:St:=U0++[rx 9 [.str s]];
 dS [(U0,U1,U.length,some (0,1))]<|
 cZ ae Lb u.n 74 [.ptr a,.slice (sm U0.length 0) 1 (some 1) 1] U1 λ_ U=>
 some (.ret (.tuple []),U)) (cond (i==3) (lP 89 U2 U.length 0 λa=>
 lS 9 U2 U0.length 2 λs=>
 let U:St:=U2++[rx 9 [.str s]];
 cA u.n 74 [.ptr a,.slice (sm U2.length 0) 1 (some 1) 1] U λ_ U=>
 some (.ret (.tuple []),U)) (cond (i==4) (lP 89 U2 U.length 0 λa=>
 lS 9 U2 U0.length 2 λs=>
 let U1:St:=U2++[rx 9 [.str s,.str [40]]];
 cA u.n 74 [.ptr a,.slice (sm U2.length 0) 2 (some 2) 1] U1 λ_ U1=>
 lP 89 U1 U.length 0 λa=>
 lL 28 U1 U0.length 5 λa0 k c z=>
 lP 89 U1 U.length 0 λa1=>
 cA u.n 76 [.ptr a,.slice a0 k c z,.func (.func 102) [.ptr a1] []] U1 λ_ U0=>
 lP 89 U0 U.length 0 λa=>
 let U:St:=U0++[rx 9 [.str [41]]];
 cA u.n 74 [.ptr a,.slice (sm U0.length 0) 1 (some 1) 1] U λ_ U=>
 some (.ret (.tuple []),U)) (cond (i==5) (lP 89 U2 U.length 0 λa=>
 lL 28 U2 U0.length 5 λa0 k _ z=>
 ao 0 k<|
 af a0 λb o=>
 ar z 1<|
 lI 3 U2 b (o+0) λi=>
 lD 71 U2 U1.length 0 λx=>
 CP ae Lb u.n x [J 0] U2 λv U3=>
 xI v λi0=>
 dS [(U2,U3,U.length,some (0,1)),(U2,U3,U0.length,some (5,1)),(U2,U3,b,some ((o+0),1))]<|
 cond (i0==6) (dS [(U3,U3,U.length,some (0,1)),(U3,U3,U0.length,some (5,1)),(U3,U3,b,some ((o+0),1))]<|
 cZ ae Lb u.n 139 [.ptr a,J i,.bool true] U3 λ_ U1=>
 C5 u.n U.length 0 U0.length 0 U1) (lD 71 U3 U1.length 0 λx=>
 CP ae Lb u.n x [J 0] U3 λv U1=>
 xI v λi0=>
 dS [(U3,U1,U.length,some (0,1)),(U3,U1,U0.length,some (5,1)),(U3,U1,b,some ((o+0),1))]<|
 cZ ae Lb u.n 139 [.ptr a,J i,.bool (i0==7)] U1 λ_ U1=>
 C5 u.n U.length 0 U0.length 0 U1)) (cond (i==6) (lP 89 U2 U.length 0 λa=>
 lI 2 U2 U0.length 3 λi=>
 cZ ae Lb u.n 140 [J i] U2 λv U3=>
 jY v λs=>
 dS [(U2,U3,U.length,some (0,1))]<|
 let U2:St:=U3++[rx 9 [.str s]];
 dS [(U3,U2,U.length,some (0,1))]<|
 cZ ae Lb u.n 74 [.ptr a,.slice (sm U3.length 0) 1 (some 1) 1] U2 λ_ U2=>
 lP 89 U2 U.length 0 λa=>
 lL 28 U2 U0.length 5 λa0 k _ z=>
 ao 0 k<|
 af a0 λb o=>
 ar z 1<|
 lI 3 U2 b (o+0) λi=>
 lD 71 U2 U1.length 0 λx=>
 CP ae Lb u.n x [J 0] U2 λv U1=>
 xI v λi0=>
 dS [(U2,U1,U.length,some (0,1)),(U2,U1,U0.length,some (5,1)),(U2,U1,b,some ((o+0),1))]<|
 cZ ae Lb u.n 139 [.ptr a,J i,.bool (i0==7)] U1 λ_ U=>
 some (.ret (.tuple []),U)) (cond (i==7) (lP 89 U2 U.length 0 λa=>
 lL 28 U2 U0.length 5 λa0 k _ z=>
 ao 0 k<|
 af a0 λb o=>
 ar z 1<|
 lI 3 U2 b (o+0) λi=>
 cZ ae Lb u.n 141 [J 0,.ptr (sm U1.length 0),.ptr (sm U.length 0),.ptr (sm U0.length 0)] U2 λv U3=>
 xI v λi0=>
 dS [(U2,U3,U.length,some (0,1)),(U2,U3,U0.length,some (5,1)),(U2,U3,b,some ((o+0),1))]<|
 lI 2 U3 U0.length 3 λi1=>
 dS [(U2,U3,U0.length,some (3,1))]<|
 cZ ae Lb u.n 142 [J i1] U3 λv U2=>
 xI v λi1=>
 dS [(U3,U2,U.length,some (0,1)),(U3,U2,U0.length,some (5,1)),(U3,U2,b,some ((o+0),1))]<|
 cZ ae Lb u.n 139 [.ptr a,J i,.bool (decide (i0<i1))] U2 λ_ U2=>
 lP 89 U2 U.length 0 λa=>
 lI 2 U2 U0.length 3 λi=>
 cZ ae Lb u.n 140 [J i] U2 λv U3=>
 jY v λs=>
 dS [(U2,U3,U.length,some (0,1))]<|
 let U2:St:=U3++[rx 9 [.str s]];
 dS [(U3,U2,U.length,some (0,1))]<|
 cZ ae Lb u.n 74 [.ptr a,.slice (sm U3.length 0) 1 (some 1) 1] U2 λ_ U2=>
 lP 89 U2 U.length 0 λa=>
 lL 28 U2 U0.length 5 λa0 k _ z=>
 ao 1 k<|
 af a0 λb o=>
 ar z 1<|
 lI 3 U2 b (o+1) λi=>
 cZ ae Lb u.n 141 [J 1,.ptr (sm U1.length 0),.ptr (sm U.length 0),.ptr (sm U0.length 0)] U2 λv U1=>
 xI v λi0=>
 dS [(U2,U1,U.length,some (0,1)),(U2,U1,U0.length,some (5,1)),(U2,U1,b,some ((o+1),1))]<|
 lI 2 U1 U0.length 3 λi1=>
 dS [(U2,U1,U0.length,some (3,1))]<|
 cZ ae Lb u.n 142 [J i1] U1 λv U2=>
 xI v λi1=>
 dS [(U1,U2,U.length,some (0,1)),(U1,U2,U0.length,some (5,1)),(U1,U2,b,some ((o+1),1))]<|
 cZ ae Lb u.n 139 [.ptr a,J i,.bool (decide (i0<=i1))] U2 λ_ U=>
 some (.ret (.tuple []),U)) (some (.ret (.tuple []),U2))))))))):F 102 [.ptr a1,J i2] U Q:=aJ [(dg 11111011111111101)] w
theorem We (w:Wp Q λu=>
 lP 89 U p1 o2 λa=>
 let U0:St:=U++[rx 9 [.str [91]]];
 cA u.n 74 [.ptr a,.slice (sm U.length 0) 1 (some 1) 1] U0 λ_ U=>
 lP 89 U p1 o2 λa=>
 lL 28 U p3 (o4+5) λa0 k _ z=>
 ao 1 k<|
 af a0 λb o=>
 ar z 1<|
 lI 3 U b (o+1) λi=>
 cZ ae Lb u.n 102 [.ptr a,J i] U λ_ U=>
 lP 89 U p1 o2 λa=>
 let U0:St:=U++[rx 9 [.str [93]]];
 cA u.n 74 [.ptr a,.slice (sm U.length 0) 1 (some 1) 1] U0 λ_ U=>
 some (.ret (.tuple []),U)):Wp Q λu=>C5 u.n p1 o2 p3 o4 U:=aH [] w
theorem WG (w:Wp Q λu=>
 lP 89 U p2 o3 λa=>
 af a λb o=>
 lL 24 U b (o+0) λa k _ z=>
 lL 28 U p4 (o5+5) λa0 k0 _ z0=>
 ao i1 k0<|
 af a0 λb o=>
 ar z0 1<|
 lI 3 U b (o+((i1).toNat*1)) λi=>
 ao i k<|
 af a λb o=>
 ar z 6<|
 lI 3 U b ((o+((i).toNat*6))+0) λi=>
 some (.ret (J i),U)):F 137 [J i1,.ptr (sm p2 o3),.ptr (sm p4 o5)] U Q:=aJ [] w
theorem WJ (w:Wp Q λu=>
 cond b3 (let U0:St:=U++[rx 9 [.str [40]]];
 cA u.n 74 [.ptr a1,.slice (sm U.length 0) 1 (some 1) 1] U0 λ_ U=>
 G5 u.n a1 i2 b3 U) (G5 u.n a1 i2 b3 U)):F 139 [.ptr a1,J i2,.bool b3] U Q:=aJ [[1]] w
theorem MC (w:Wp Q λu=>
 cA u.n 102 [.ptr a1,J i2] U λ_ U=>
 cond b3 (let U0:St:=U++[rx 9 [.str [41]]];
 cA u.n 74 [.ptr a1,.slice (sm U.length 0) 1 (some 1) 1] U0 λ_ U=>
 some (.ret (.tuple []),U)) (some (.ret (.tuple []),U))):Wp Q λu=>G5 u.n a1 i2 b3 U:=aH [] w
theorem WO (w:Wp Q λu=>
 cA u.n 143 [.str [45,32,33,32,126,32,42,32,47,32,37,32,43,32,45,32,60,60,32,62,62,32,60,32,60,61,32,62,32,62,61,32,61,61,32,33,61,32,38,32,94,32,124,32,38,38,32,124,124]] U λv U=>
 gn v λa k _ z=>
 ao (ah .i64 (i1-1)) k<|
 af a λb o=>
 ar z 1<|
 lS 9 U b (o+(((ah .i64 (i1-1))).toNat*1)) λs=>
 some (.ret (.str s),U)):F 140 [J i1] U Q:=aJ [] w
theorem WQ (w:Wp Q λu=>
 lD 71 U p2 o3 λx=>
 su ae Lb u.n x [J i1] U λv U=>
 xI v λi=>
 cond (i !=7) (some (.ret (J 99),U)) (lP 89 U p4 o5 λa=>
 af a λb o=>
 lL 24 U b (o+0) λa k _ z=>
 lL 28 U p6 (o7+5) λa0 k0 _ z0=>
 ao i1 k0<|
 af a0 λb o=>
 ar z0 1<|
 lI 3 U b (o+((i1).toNat*1)) λi=>
 ao i k<|
 af a λb o=>
 ar z 6<|
 lI 2 U b ((o+((i).toNat*6))+3) λi=>
 cZ ae Lb u.n 142 [J i] U λv U=>
 xI v λi=>
 some (.ret (J i),U))):F 141 [J i1,.ptr (sm p2 o3),.ptr (sm p4 o5),.ptr (sm p6 o7)] U Q:=aJ [] w
end
end Go.Proofs
end
section
namespace Go.Proofs
open Go.AM
set_option maxHeartbeats 4000000
set_option maxRecDepth 100000
section
variable (n m0:Nat) (a1:Ad) (b1:Bool) (s1:By) (x1:AV) (a2:Ad) (n2 p2:Nat) (s2:By) (x2:AV) (c3:On) (i3:Int) (n3 o3:Nat) (s3:By) (a4:Ad) (c4:On) (i4:Int) (z4:Nat) (a5:Ad) (i5:Int) (n5 z5:Nat) (b6:Bool) (c6:On) (i6:Int) (n6 p6:Nat) (c7:On) (o7 z7:Nat) (i8:Int) (z8:Nat) (i9 i10:Int) (U:St)
noncomputable def XJ:Out:=q 204 n (dg 11101) [] (en 132 [(2,.v x1),(3,vS a2 n3 c4 z5),(28,.v (.bool b6))] []) U
noncomputable def MZ:Out:=q 204 n (dg 11101) [] (en 132 [(2,.v x1),(3,vS a2 n3 c4 z5),(28,.v (.bool false))] []) U
noncomputable def Dm:Out:=q 204 n (dg 11111010) [m0] (en 132 [(2,.v x1),(3,vS a2 n3 c4 z5),(4,.v (.bool true)),(5,vJ i6)] []) U
noncomputable def AH:Out:=q 204 n (dg 11111010) [m0] (en 132 [(2,.v x1),(3,vS a2 n3 c4 z5),(4,.v (.bool false)),(5,vJ i6)] []) U
noncomputable def XM:Out:=q 204 n (dg 111111) [] (en 132 [(2,.v x1),(3,vS a2 n3 c4 z5),(4,.v (.bool true))] []) U
noncomputable def Hf:Out:=q 204 n (dg 111111) [] (en 132 [(2,.v x1),(3,vS a2 n3 c4 z5),(4,.v (.bool false))] []) U
noncomputable def M0:Out:=q 204 n (dg 1111111) [] (en 132 [(2,.v x1),(3,vS a2 n3 c4 z5)] []) U
noncomputable def uJ:Out:=q 204 n (dg 11111111010) [m0] (en 132 [(2,.v x1),(3,vS a2 n3 c4 z5),(11,vP p6 o7),(12,vJ i8)] []) U
noncomputable def He:Out:=q 204 n (dg 111111111) [] (en 132 [(2,.v x1),(11,vP p2 o3)] []) U
noncomputable def AP:Out:=q 275 n (dg 111101010) [m0] (en 122 [(0,vA a1),(1,.v (.str s2)),(4,.v (.str s3)),(5,vJ i4),(6,.v (.bool false)),(30,vS a5 n6 c7 z8),(31,vJ i9),(32,vJ i10)] []) U
noncomputable def AQ:Out:=q 275 n (dg 111101110) [m0] (en 122 [(0,vA a1),(1,.v (.str s2)),(4,.v (.str s3)),(5,vJ i4),(6,.v (.bool false)),(10,vJ i5)] []) U
noncomputable def AR:Out:=q 275 n (dg 111101010) [m0] (en 122 [(0,vA a1),(1,.v (.str s2)),(4,.v (.str s3)),(5,vJ i4),(6,.v (.bool true)),(30,vS a5 n6 c7 z8),(31,vJ i9),(32,vJ i10)] []) U
noncomputable def yh:Out:=q 275 n (dg 11111) [] (en 122 [(0,vA a1),(1,.v (.str s2)),(4,.v (.str s3)),(5,vJ i4),(6,.v (.bool false))] []) U
noncomputable def AS:Out:=q 275 n (dg 111101110) [m0] (en 122 [(0,vA a1),(1,.v (.str s2)),(4,.v (.str s3)),(5,vJ i4),(6,.v (.bool true)),(10,vJ i5)] []) U
noncomputable def uL:Out:=q 275 n (dg 11111) [] (en 122 [(0,vA a1),(1,.v (.str s2)),(4,.v (.str s3)),(5,vJ i4),(6,.v (.bool true))] []) U
noncomputable def yi:Out:=q 275 n (dg 11111111010) [m0] (en 122 [(0,vA a1),(1,.v (.str s2)),(4,.v (.str s3)),(12,vS a4 n5 c6 z7),(13,vJ i8),(14,vJ i9)] []) U
noncomputable def Hg:Out:=q 275 n (dg 111111111) [] (en 122 [(4,.v (.str s1)),(12,vS a2 n3 c4 z5)] []) U
noncomputable def Yh:Out:=q 277 n (dg 111110) [m0] (en 34 [(0,.v (.str s1)),(1,.v (.str s2)),(4,vJ i3),(5,vJ i4)] []) U
end
section
set_option autoImplicit true
set_option relaxedAutoImplicit true
variable {n2 p2 n3 o3 z4 n5 z5 n6 p6 o7 z7 z8:Nat} {s1 s2 s3:By}
theorem WH (w:Wp Q λu=>
 let U0:St:=U++[rx 9 [.str [10],.str [92,110],.str [9],.str [92,116],.str [92],.str [92,92],.str [34],.str [92,34]]];
 cA u.n 165 [.slice (sm U.length 0) 8 (some 8) 1] U0 λv U=>
 xK v λa=>
 cS u.n 166 [.ptr a,.str s1] U λs U=>
 xZ [34] s λs=>
 xZ s [34] λs=>
 some (.ret (.str s),U)):F 138 [.str s1] U Q:=aJ [] w
theorem Xa (w:Wp Q λu=>
 cond ((Int.tmod (n2:Int) 2)==1) (some (.pan (.iface 9 (.str [115,116,114,105,110,103,115,46,78,101,119,82,101,112,108,97,99,101,114,58,32,111,100,100,32,97,114,103,117,109,101,110,116,32,99,111,117,110,116])),U)) (xA U a1 n2 z4 1 λk c=>
 dT U 9 1 16 none 0 0 k c λa k c U=>
 let U0:St:=U++[bx 213 [.int .u32 0,.int .i32 0,.int .u32 0,.nilIface,.slice a k c 1]];
 some (.ret (.ptr (sm U.length 0)),U0))):F 165 [.slice a1 n2 c3 z4] U Q:=aJ [] w
theorem Xb (w:Wp Q λu=>
 af a1 λb o=>
 cA u.n 184 [.ptr (sm b (o+0)),.func (.func 185) [.ptr a1] []] U λ_ U=>
 af a1 λb o=>
 lD 211 U b (o+3) λx=>
 Gh ae Lb u.n x "Replace" [.str s2] U λv U=>
 jY v λs=>
 some (.ret (.str s),U)):F 166 [.ptr a1,.str s2] U Q:=aJ [] w
theorem Xn (w:Wp Q λu=>
 af a1 λb o=>
 cB u.n 202 [.ptr (sm b (o+0))] U λb U=>
 cond (!b) (cA u.n 203 [.ptr a1,x2] U λ_ U=>
 some (.ret (.tuple []),U)) (some (.ret (.tuple []),U))):F 184 [.ptr a1,x2] U Q:=aJ [] w
theorem Xo (w:Wp Q λu=>
 cA u.n 204 [.ptr a1] U λv U=>
 af a1 λb o=>
 zI ae 211 (AV.cells v)<|
 aT U b (o+3) (AV.cells v) λU=>
 af a1 λb o=>
 aT U b (o+4) [N0] λU=>
 some (.ret (.tuple []),U)):F 185 [.ptr a1] U Q:=aJ [] w
theorem XG (w:Wp Q λu=>
 af a1 λb o=>
 cA u.n 212 [.ptr (sm b (o+0))] U λv U=>
 gY .u32 v λi=>
 some (.ret (.bool (i !=0)),U)):F 202 [.ptr a1] U Q:=aJ [] w
theorem XH (w:Wp Q λu=>
 af a1 λb o=>
 cA u.n 213 [.ptr (sm b (o+1))] U λ_ U=>
 af a1 λb o=>
 af a1 λb0 o0=>
 ck ae Lb u.n 202 [.ptr (sm b0 (o0+0))] U (λv U=>
 gm v λb0=>
 cond (!b0) (af a1 λb0 o0=>
 UP ae Lb u.n x2 [] U (λ_ U=>
 bC ae Lb u.n 215 [.ptr (sm b0 (o0+0)),.bool true] none U λu0 U=>
 bC ae Lb u.n 214 [.ptr (sm b (o+1))] u0 U λu0 U=>
 bq u0 (λv=>
 some (.pan v,U)) (some (.ret (.tuple []),U))) (λv U=>
 bC ae Lb u.n 215 [.ptr (sm b0 (o0+0)),.bool true] (some v) U λu0 U=>
 bC ae Lb u.n 214 [.ptr (sm b (o+1))] u0 U λu0 U=>
 bq u0 (λv=>
 some (.pan v,U)) (some (.ret (.tuple []),U)))) (bC ae Lb u.n 214 [.ptr (sm b (o+1))] none U λu0 U=>
 bq u0 (λv=>
 some (.pan v,U)) (some (.ret (.tuple []),U)))) (λv U=>
 bC ae Lb u.n 214 [.ptr (sm b (o+1))] (some v) U λu0 U=>
 bq u0 (λv=>
 some (.pan v,U)) (some (.ret (.tuple []),U)))):F 203 [.ptr a1,x2] U Q:=aJ [] w
theorem XI (w:Wp Q λu=>
 af a1 λb o=>
 lL 45 U b (o+4) λa k c z=>
 cond ((k:Int)==2) (ao 0 k<|
 af a λb o=>
 ar z 1<|
 lS 9 U b (o+0) λs=>
 XJ u.n .nilIface a k c z (decide ((s.length:Int)>1)) U) (MZ u.n .nilIface a k c z U)):F 204 [.ptr a1] U Q:=aJ [(dg 11101)] w
theorem XL (w:Wp Q λu=>
 Dm u.n u.n x1 a2 n3 c4 z5 0 U):Wp Q λu=>MZ u.n x1 a2 n3 c4 z5 U:=aH [] w
theorem XP (w:Wp Q λu=>
 cond (decide (i6<(n3:Int))) (ao i6 n3<|
 af a2 λb o=>
 ar z5 1<|
 lS 9 U b (o+((i6).toNat*1)) λs=>
 cond ((s.length:Int) !=1) (cA u.n 217 [.slice a2 n3 c4 z5] U λv U=>
 xK v λa=>
 some (.ret (.iface 252 (.ptr a)),U)) (ao (ah .i64 (i6+1)) n3<|
 af a2 λb o=>
 ar z5 1<|
 lS 9 U b (o+(((ah .i64 (i6+1))).toNat*1)) λs=>
 cond ((s.length:Int) !=1) (AH u.n u.m1 x1 a2 n3 c4 z5 (ah .i64 (i6+2)) U) (Dm u.n u.m1 x1 a2 n3 c4 z5 (ah .i64 (i6+2)) U))) (XM u.n x1 a2 n3 c4 z5 U)):Wp Q λu=>Dm u.n u.m1 x1 a2 n3 c4 z5 i6 U:=cK [(dg 111111)] w
theorem M3 (w:Wp Q λu=>
 cond (decide (i6<(n3:Int))) (ao i6 n3<|
 af a2 λb o=>
 ar z5 1<|
 lS 9 U b (o+((i6).toNat*1)) λs=>
 cond ((s.length:Int) !=1) (cA u.n 217 [.slice a2 n3 c4 z5] U λv U=>
 xK v λa=>
 some (.ret (.iface 252 (.ptr a)),U)) (ao (ah .i64 (i6+1)) n3<|
 af a2 λb o=>
 ar z5 1<|
 lS 9 U b (o+(((ah .i64 (i6+1))).toNat*1)) λs=>
 cond ((s.length:Int) !=1) (AH u.n u.m1 x1 a2 n3 c4 z5 (ah .i64 (i6+2)) U) (AH u.n u.m1 x1 a2 n3 c4 z5 (ah .i64 (i6+2)) U))) (Hf u.n x1 a2 n3 c4 z5 U)):Wp Q λu=>AH u.n u.m1 x1 a2 n3 c4 z5 i6 U:=cK [(dg 111111)] w
theorem XN (w:Wp Q λu=>
 M0 u.n x1 a2 n3 c4 z5 U):Wp Q λu=>Hf u.n x1 a2 n3 c4 z5 U:=aH [(dg 1111111)] w
theorem XO (w:Wp Q λu=>
 lq ae 9 1 0 (ah .i64 (Int.tdiv (n3:Int) 2)) U λU0=>
 let U1:St:=U0++[bx 258 (bL 257 (N0:AV))];
 aT U1 U0.length 0 (bL 256 (N0:AV)++[.slice (sm U.length 0) 0 (some ((ah .i64 (Int.tdiv (n3:Int) 2))).toNat) 1]) λU=>
 uJ u.n u.n x1 a2 n3 c4 z5 U0.length 0 (ah .i64 ((n3:Int)-2)) U):Wp Q λu=>M0 u.n x1 a2 n3 c4 z5 U:=aH [] w
theorem M1 (w:Wp Q λu=>
 cond (decide (i8>=0)) (ao i8 n3<|
 af a2 λb o=>
 ar z5 1<|
 lS 9 U b (o+((i8).toNat*1)) λs=>
 cP s 0 λu0=>
 ao (ah .i64 (i8+1)) n3<|
 af a2 λb o=>
 ar z5 1<|
 lS 9 U b (o+(((ah .i64 (i8+1))).toNat*1)) λs=>
 ao (u0.toNat:Int) 256<|
 lL 74 U p6 ((o7+0)+(((u0.toNat:Int)).toNat*1)) λa k c z=>
 ji ae 74 (.slice a k c z) N0 λb=>
 cond b (lL 45 U p6 (o7+256) λa k _ z=>
 let U0:St:=U++[rx 5 [.int .u8 (u0.toNat:Int)]];
 om U0 (sm U.length 0) 1 1 λs0=>
 dT U0 9 1 16 a k z 1 [.str s0] λa k c U=>
 aT U p6 (o7+256) [.slice a k c 1] λU=>
 let U0:St:=U++[rx 5 (bH s)];
 ao (u0.toNat:Int) 256<|
 aT U0 p6 ((o7+0)+(((u0.toNat:Int)).toNat*1)) [.slice (sm U.length 0) s.length none 1] λU=>
 uJ u.n u.m1 x1 a2 n3 c4 z5 p6 o7 (ah .i64 (i8-2)) U) (let U0:St:=U++[rx 5 (bH s)];
 ao (u0.toNat:Int) 256<|
 aT U0 p6 ((o7+0)+(((u0.toNat:Int)).toNat*1)) [.slice (sm U.length 0) s.length none 1] λU=>
 uJ u.n u.m1 x1 a2 n3 c4 z5 p6 o7 (ah .i64 (i8-2)) U)) (He u.n x1 p6 o7 U)):Wp Q λu=>uJ u.n u.m1 x1 a2 n3 c4 z5 p6 o7 i8 U:=cK [(dg 111111111)] w
theorem XK (w:Wp Q λu=>
 some (.ret (.iface 259 (.ptr (sm p2 o3))),U)):Wp Q λu=>He u.n x1 p2 o3 U:=aH [] w
theorem X6 (w:Wp Q λu=>
 cond b1 (some (.ret (.int .u32 1),U)) (some (.ret (.int .u32 0),U))):F 223 [.bool b1] U Q:=aJ [] w
theorem Yc (w:Wp Q λu=>
 af a1 λb o=>
 lL 45 U b (o+256) λ_ k _ _=>
 cond (decide ((ah .i64 ((k:Int)*8))<=(s2.length:Int))) (af a1 λb o=>
 lL 45 U b (o+256) λa k c z=>
 AP u.n u.n a1 s2 [] (s2.length:Int) a k c z (k:Int) 0 U) (AQ u.n u.n a1 s2 [] (s2.length:Int) 0 U)):F 275 [.ptr a1,.str s2] U Q:=aJ [] w
theorem Nk (w:Wp Q λu=>
 cond (decide (i10<i9)) (ao i10 n6<|
 af a5 λb o=>
 ar z8 1<|
 lS 9 U b (o+((i10).toNat*1)) λs=>
 cI u.n 277 [.str s2,.str s] U λi U=>
 cond (i !=0) (cP s 0 λu0=>
 af a1 λb o=>
 ao (u0.toNat:Int) 256<|
 lL 74 U b ((o+0)+(((u0.toNat:Int)).toNat*1)) λ_ k _ _=>
 AR u.n u.m1 a1 s2 s3 (ah .i64 (i4+(ah .i64 (i*(ah .i64 ((k:Int)-1)))))) a5 n6 c7 z8 i9 (ah .i64 (i10+1)) U) (AP u.n u.m1 a1 s2 s3 i4 a5 n6 c7 z8 i9 (ah .i64 (i10+1)) U)) (yh u.n a1 s2 s3 i4 U)):Wp Q λu=>AP u.n u.m1 a1 s2 s3 i4 a5 n6 c7 z8 i9 i10 U:=cK [(dg 11111)] w
theorem Nl (w:Wp Q λu=>
 cond (decide (i5<(s2.length:Int))) (cP s2 i5 λu0=>
 af a1 λb o=>
 ao (u0.toNat:Int) 256<|
 lL 74 U b ((o+0)+(((u0.toNat:Int)).toNat*1)) λa k c z=>
 ji ae 74 (.slice a k c z) N0 λb=>
 cond (!b) (af a1 λb o=>
 ao (u0.toNat:Int) 256<|
 lL 74 U b ((o+0)+(((u0.toNat:Int)).toNat*1)) λ_ k _ _=>
 AS u.n u.m1 a1 s2 s3 (ah .i64 (i4+(ah .i64 ((k:Int)-1)))) (ah .i64 (i5+1)) U) (AQ u.n u.m1 a1 s2 s3 i4 (ah .i64 (i5+1)) U)) (yh u.n a1 s2 s3 i4 U)):Wp Q λu=>AQ u.n u.m1 a1 s2 s3 i4 i5 U:=cK [(dg 11111)] w
theorem Nn (w:Wp Q λu=>
 cond (decide (i10<i9)) (ao i10 n6<|
 af a5 λb o=>
 ar z8 1<|
 lS 9 U b (o+((i10).toNat*1)) λs=>
 cI u.n 277 [.str s2,.str s] U λi U=>
 cond (i !=0) (cP s 0 λu0=>
 af a1 λb o=>
 ao (u0.toNat:Int) 256<|
 lL 74 U b ((o+0)+(((u0.toNat:Int)).toNat*1)) λ_ k _ _=>
 AR u.n u.m1 a1 s2 s3 (ah .i64 (i4+(ah .i64 (i*(ah .i64 ((k:Int)-1)))))) a5 n6 c7 z8 i9 (ah .i64 (i10+1)) U) (AR u.n u.m1 a1 s2 s3 i4 a5 n6 c7 z8 i9 (ah .i64 (i10+1)) U)) (uL u.n a1 s2 s3 i4 U)):Wp Q λu=>AR u.n u.m1 a1 s2 s3 i4 a5 n6 c7 z8 i9 i10 U:=cK [(dg 11111)] w
theorem Yd (w:Wp Q λu=>
 some (.ret (.str s2),U)):Wp Q λu=>yh u.n a1 s2 s3 i4 U:=aH [] w
theorem No (w:Wp Q λu=>
 cond (decide (i5<(s2.length:Int))) (cP s2 i5 λu0=>
 af a1 λb o=>
 ao (u0.toNat:Int) 256<|
 lL 74 U b ((o+0)+(((u0.toNat:Int)).toNat*1)) λa k c z=>
 ji ae 74 (.slice a k c z) N0 λb=>
 cond (!b) (af a1 λb o=>
 ao (u0.toNat:Int) 256<|
 lL 74 U b ((o+0)+(((u0.toNat:Int)).toNat*1)) λ_ k _ _=>
 AS u.n u.m1 a1 s2 s3 (ah .i64 (i4+(ah .i64 ((k:Int)-1)))) (ah .i64 (i5+1)) U) (AS u.n u.m1 a1 s2 s3 i4 (ah .i64 (i5+1)) U)) (uL u.n a1 s2 s3 i4 U)):Wp Q λu=>AS u.n u.m1 a1 s2 s3 i4 i5 U:=cK [(dg 11111)] w
theorem Ye (w:Wp Q λu=>
 lq ae 5 1 i4 i4 U λU0=>
 yi u.n u.n a1 s2 s3 (sm U.length 0) ((i4).toNat) (some (i4).toNat) 1 0 0 U0):Wp Q λu=>uL u.n a1 s2 s3 i4 U:=aH [] w
theorem Np (w:Wp Q λu=>
 cond (decide (i9<(s2.length:Int))) (cP s2 i9 λu0=>
 af a1 λb o=>
 ao (u0.toNat:Int) 256<|
 lL 74 U b ((o+0)+(((u0.toNat:Int)).toNat*1)) λa k c z=>
 ji ae 74 (.slice a k c z) N0 λb=>
 cond (!b) (tH a4 n5 c6 z7 1 i8 (n5:Int) λa k _=>
 af a1 λb o=>
 ao (u0.toNat:Int) 256<|
 lL 74 U b ((o+0)+(((u0.toNat:Int)).toNat*1)) λa0 k0 _ z=>
 xA U a0 k0 z 1 λk0 c=>
 Ai U 1 a k z7 k0 c λi U=>
 yi u.n u.m1 a1 s2 s3 a4 n5 c6 z7 (ah .i64 (i8+i)) (ah .i64 (i9+1)) U) (ao i8 n5<|
 af a4 λb o=>
 ar z7 1<|
 aT U b (o+((i8).toNat*1)) [.int .u8 (u0.toNat:Int)] λU=>
 yi u.n u.m1 a1 s2 s3 a4 n5 c6 z7 (ah .i64 (i8+1)) (ah .i64 (i9+1)) U)) (Hg u.n s3 a4 n5 c6 z7 U)):Wp Q λu=>yi u.n u.m1 a1 s2 s3 a4 n5 c6 z7 i8 i9 U:=cK [(dg 111111111)] w
theorem Yf (w:Wp Q λu=>
 om U a2 n3 z5 λs=>
 some (.ret (.str s),U)):Wp Q λu=>Hg u.n s1 a2 n3 c4 z5 U:=aH [] w
theorem Yg (w:Wp Q λu=>
 cond ((s2.length:Int)==0) (cI u.n 278 [.str s1] U λi U=>
 some (.ret (J ((ah .i64 (i+1)))),U)) (cond ((s2.length:Int)==1) (cP s2 0 λu0=>
 cI u.n 279 [.str s1,.int .u8 (u0.toNat:Int)] U λi U=>
 some (.ret (J i),U)) (Yh u.n u.n s1 s2 0 0 U))):F 277 [.str s1,.str s2] U Q:=aJ [] w
end
noncomputable def Dp (n:Nat) (a1:Ad) (U:St):Out:=
 af a1 λb o=>
 cZ ae Lb n 221 [.ptr (sm b (o+0))] U λ_ U=>
 some (.ret (.tuple []),U)
theorem X1 (n:Nat) (a1:Ad) (U:St):D2 ae Lb 214 n [.ptr a1] U=Dp n a1 U:=by kernel_rfl
theorem X0 {n:Nat} {a1:Ad} {U U':St} {y:AV} (u:Option AV) (h:Dp n a1 U=some (.ret y,U')):js ae (cd ae Lb n) n 214 [.ptr a1] u U=some (u,U'):=
 HB ((X1 n a1 U).trans h) (by kernel_rfl) (by kernel_rfl) u
noncomputable def Dq (n:Nat) (a1:Ad) (b2:Bool) (U:St):Out:=
 af a1 λb o=>
 cZ ae Lb n 223 [.bool b2] U λv U=>
 gY .u32 v λi=>
 cZ ae Lb n 222 [.ptr (sm b (o+0)),.int .u32 i] U λ_ U=>
 some (.ret (.tuple []),U)
theorem X3 (n:Nat) (a1:Ad) (b2:Bool) (U:St):D2 ae Lb 215 n [.ptr a1,.bool b2] U=Dq n a1 b2 U:=by kernel_rfl
theorem X2 {n:Nat} {a1:Ad} {b2:Bool} {U U':St} {y:AV} (u:Option AV) (h:Dq n a1 b2 U=some (.ret y,U')):js ae (cd ae Lb n) n 215 [.ptr a1,.bool b2] u U=some (u,U'):=
 HB ((X3 n a1 b2 U).trans h) (by kernel_rfl) (by kernel_rfl) u
end Go.Proofs
end
section
namespace Go.Proofs
open Go.AM
set_option maxHeartbeats 4000000
set_option maxRecDepth 100000
section
variable (n m0 m1:Nat) (a1:Ad) (i1:Int) (s1:By) (a2:Ad) (i2:Int) (n2:Nat) (b3:Bool) (c3:On) (i3:Int) (n3:Nat) (a4:Ad) (c4:On) (i4:Int) (z4:Nat) (a5:Ad) (b5:Bool) (i5:Int) (n5:Nat) (s5:By) (z5:Nat) (a6:Ad) (b6:Bool) (c6:On) (i6:Int) (n6:Nat) (c7:On) (i7:Int) (n7:Nat) (s7:By) (z7:Nat) (c8:On) (i8:Int) (s8:By) (z8:Nat) (b9:Bool) (i9:Int) (s9:By) (z9:Nat) (b10:Bool) (i10 i11:Int) (s11:By) (b12:Bool) (i12:Int) (s12:By) (i13:Int) (s13:By) (i14:Int) (s14:By) (i15:Int) (s15:By) (i16:Int) (U:St)
noncomputable def AB:Out:=q 15 n (dg 11110) [m0] (en 32 [(0,.v (.str s1)),(2,vS a2 n3 c4 z5),(3,vS a6 n7 c8 z9),(4,vJ i10)] []) U
noncomputable def rh:Out:=q 27 n (dg 11100) [m0] (en 62 [(0,.v (.str s1)),(1,vJ i2),(4,vJ i3),(5,vJ i4)] []) U
noncomputable def Du:Out:=q 27 n (dg 1110001001) [m0] (en 62 [(0,.v (.str s1)),(1,vJ i2),(4,vJ i3),(5,vJ i4),(26,.v (.bool true))] []) U
noncomputable def Nq:Out:=q 27 n (dg 1110001001) [m0] (en 62 [(0,.v (.str s1)),(1,vJ i2),(4,vJ i3),(5,vJ i4),(26,.v (.bool b5))] []) U
noncomputable def wq:Out:=q 27 n [1,1,1] [] (en 62 [(1,vJ i1),(4,vJ i2),(5,vJ i3)] []) U
noncomputable def AT:Out:=q 27 n (dg 11100010110) [m0,m1] (en 62 [(0,.v (.str s1)),(1,vJ i2),(4,vJ i3),(5,vJ i4)] []) U
noncomputable def yj:Out:=q 28 n (dg 111111101000) [m0] (en 162 [(0,.v (.str s1)),(1,vJ i2),(4,.lp 4 0),(5,vJ i3),(6,.v (.int .u8 i4)),(7,vJ i5),(9,.v (.bool b6))] [(4,[J i7,J i8,.str s9,J i10])]) U
noncomputable def Ns:Out:=q 28 n (dg 11111111) [] (en 162 [(0,.v (.str s1)),(1,vJ i2),(4,.lp 4 0),(5,vJ i3),(6,.v (.int .u8 i4)),(7,vJ i5),(9,.v (.bool b6))] [(4,[J i7,J i8,.str s9,J i10])]) U
noncomputable def Dv:Out:=q 28 n (dg 11111110101) [] (en 162 [(0,.v (.str s1)),(1,vJ i2),(4,.lp 4 0),(5,vJ i3),(6,.v (.int .u8 i4)),(7,vJ i5),(9,.v (.bool b6))] [(4,[J i7,J i8,.str s9,J i10])]) U
noncomputable def AU:Out:=q 28 n (dg 1111111101000) [m0] (en 162 [(0,.v (.str s1)),(1,vJ i2),(4,.lp 4 0),(5,vJ i3),(6,.v (.int .u8 i4)),(7,vJ i5)] [(4,[J i6,J i7,.str s8,J i9])]) U
noncomputable def Nt:Out:=q 28 n (dg 111111111) [] (en 162 [(0,.v (.str s1)),(1,vJ i2),(4,.lp 4 0),(5,vJ i3),(6,.v (.int .u8 i4))] [(4,[J i5,J i6,.str s7,J i8])]) U
noncomputable def Dw:Out:=q 28 n (dg 111111110101) [] (en 162 [(0,.v (.str s1)),(1,vJ i2),(4,.lp 4 0),(5,vJ i3),(6,.v (.int .u8 i4)),(7,vJ i5)] [(4,[J i6,J i7,.str s8,J i9])]) U
noncomputable def yl:Out:=q 28 n (dg 11111111111010) [m0] (en 162 [(0,.v (.str s1)),(1,vJ i2),(4,.lp 4 0),(5,vJ i3),(13,vS a4 n5 c6 z7),(14,vJ i8)] [(4,[J i9,J i10,.str s11,J i12])]) U
noncomputable def Nu:Out:=q 28 n (dg 11111111111010010011) [m0] (en 162 [(0,.v (.str s1)),(1,vJ i2),(4,.lp 4 0),(5,vJ i3),(13,vS a4 n5 c6 z7),(14,vJ i8),(15,vJ i9),(149,.v (.bool b10))] [(4,[J i11,J i12,.str s13,J i14])]) U
noncomputable def Nv:Out:=q 28 n (dg 11111111111010010011) [m0] (en 162 [(0,.v (.str s1)),(1,vJ i2),(4,.lp 4 0),(5,vJ i3),(13,vS a4 n5 c6 z7),(14,vJ i8),(15,vJ i9),(149,.v (.bool false))] [(4,[J i10,J i11,.str s12,J i13])]) U
noncomputable def Nr:Out:=q 28 n (dg 111111111111) [] (en 162 [(1,vJ i1),(4,.lp 4 0),(5,vJ i2)] [(4,[J i3,J i4,.str s5,J i6])]) U
noncomputable def A6:Out:=q 64 n (dg 11010) [m0] (en 18 [(0,vS a1 n2 c3 z4),(1,.v (.str s5)),(4,.v (.bool false)),(5,vJ i6)] []) U
noncomputable def NW:Out:=q 64 n [1,1] [] (en 18 [(4,.v (.bool false))] []) U
noncomputable def NZ:Out:=q 66 n [1,0,1] [] (en 37 [(0,.v (.str s1)),(2,vJ i2),(3,.v (.bool false)),(18,.v (.bool true))] []) U
noncomputable def N1:Out:=q 66 n [1,0,1] [] (en 37 [(0,.v (.str s1)),(2,vJ i2),(3,.v (.bool false)),(18,.v (.bool b3))] []) U
noncomputable def N2:Out:=q 66 n [1,0,1] [] (en 37 [(0,.v (.str s1)),(2,vJ i2),(3,.v (.bool false)),(18,.v (.bool false))] []) U
noncomputable def wv:Out:=q 66 n (dg 1111010) [m0] (en 37 [(0,.v (.str s1)),(2,vJ i2),(3,.v (.bool false)),(4,.v (.int .u64 i3)),(5,vJ i4)] []) U
noncomputable def N3:Out:=q 66 n (dg 11111) [] (en 37 [(2,vJ i1),(3,.v (.bool false)),(4,.v (.int .u64 i2))] []) U
noncomputable def wx:Out:=q 67 n (dg 1111100) [m0] (en 95 [(0,.v (.str s1)),(1,vJ i2),(4,.lp 4 0),(5,vJ i3),(6,.v (.int .u8 i4)),(7,vS a5 n6 c7 z8),(8,vJ i9)] [(4,[J i10,J i11,.str s12,J i13])]) U
noncomputable def N5:Out:=q 67 n (dg 1111100010101) [m0] (en 95 [(0,.v (.str s1)),(1,vJ i2),(4,.lp 4 0),(5,vJ i3),(6,.v (.int .u8 i4)),(7,vS a5 n6 c7 z8),(8,vJ i9),(9,.v (.int .u8 i10)),(10,vJ i11),(43,.v (.bool true))] [(4,[J i12,J i13,.str s14,J i15])]) U
noncomputable def N6:Out:=q 67 n (dg 1111100010101) [m0] (en 95 [(0,.v (.str s1)),(1,vJ i2),(4,.lp 4 0),(5,vJ i3),(6,.v (.int .u8 i4)),(7,vS a5 n6 c7 z8),(8,vJ i9),(9,.v (.int .u8 i10)),(10,vJ i11),(43,.v (.bool b12))] [(4,[J i13,J i14,.str s15,J i16])]) U
noncomputable def N7:Out:=q 67 n (dg 1111100010101) [m0] (en 95 [(0,.v (.str s1)),(1,vJ i2),(4,.lp 4 0),(5,vJ i3),(6,.v (.int .u8 i4)),(7,vS a5 n6 c7 z8),(8,vJ i9),(9,.v (.int .u8 i10)),(10,vJ i11),(43,.v (.bool false))] [(4,[J i12,J i13,.str s14,J i15])]) U
noncomputable def DD:Out:=q 67 n (dg 111111) [] (en 95 [(0,.v (.str s1)),(1,vJ i2),(4,.lp 4 0),(5,vJ i3),(6,.v (.int .u8 i4)),(7,vS a5 n6 c7 z8),(8,vJ i9)] [(4,[J i10,J i11,.str s12,J i13])]) U
noncomputable def DE:Out:=q 67 n (dg 11111101) [] (en 95 [(1,vJ i1),(4,.lp 4 0),(5,vJ i2),(6,.v (.int .u8 i3)),(7,vS a4 n5 c6 z7),(8,vJ i8),(75,.v (.bool true))] [(4,[J i9,J i10,.str s11,J i12])]) U
noncomputable def Hp:Out:=q 67 n (dg 11111101) [] (en 95 [(1,vJ i1),(4,.lp 4 0),(5,vJ i2),(6,.v (.int .u8 i3)),(7,vS a4 n5 c6 z7),(8,vJ i8),(75,.v (.bool b9))] [(4,[J i10,J i11,.str s12,J i13])]) U
noncomputable def Hq:Out:=q 67 n (dg 11111101) [] (en 95 [(1,vJ i1),(4,.lp 4 0),(5,vJ i2),(6,.v (.int .u8 i3)),(7,vS a4 n5 c6 z7),(8,vJ i8),(75,.v (.bool false))] [(4,[J i9,J i10,.str s11,J i12])]) U
noncomputable def DN:Out:=q 91 n (dg 111101001) [] (en 53 [(0,.v (.str s1)),(1,vJ i2),(6,.v (.int .u8 i3)),(7,vJ i4),(8,.v (.int .u8 i5)),(28,.v (.bool true))] []) U
noncomputable def Ox:Out:=q 91 n (dg 111101001) [] (en 53 [(0,.v (.str s1)),(1,vJ i2),(6,.v (.int .u8 i3)),(7,vJ i4),(8,.v (.int .u8 i5)),(28,.v (.bool b6))] []) U
noncomputable def DO:Out:=q 91 n (dg 1111110101111111) [] (en 53 [(0,.v (.str s1)),(1,vJ i2),(6,.v (.int .u8 i3)),(7,vJ i4),(45,.v (.bool true))] []) U
noncomputable def Oy:Out:=q 91 n (dg 1111110101111111) [] (en 53 [(0,.v (.str s1)),(1,vJ i2),(6,.v (.int .u8 i3)),(7,vJ i4),(45,.v (.bool b5))] []) U
end
section
set_option autoImplicit true
set_option relaxedAutoImplicit true
variable {n2 n3 z4 n5 z5 n6 n7 z7 z8 z9:Nat} {s1 s5 s7 s8 s9 s11 s12 s13 s14 s15:By}
theorem W8 (w:Wp Q λu=>
 AB u.n u.n s1 none 0 (some 0) 0 none 0 (some 0) 0 0 U):F 15 [.str s1] U Q:=aJ [] w
theorem W9 (w:Wp Q λu=>
 cI u.n 27 [.str s1,J i10] U λi U=>
 cC u.n 28 [.str s1,J ((ah .i64 (i10+i)))] U λc U=>
 jv c λx r=>
 kQ x λc=>
 ui c λi r0=>
 ui r0 λi0 r0=>
 us r0 λs r0=>
 ui r0 λi1 r0=>
 aY r0<|
 ui r λi2 r=>
 aY r<|
 dT U 51 4 40 a6 n7 z9 1 [J i,J i0,.str s,J i1] λa k c U=>
 cond (i==0) (some (.ret (.slice a k c 4),U)) (cond (i==6) (some (.ret (.slice a k c 4),U)) (AB u.n u.m1 s1 a2 n3 c4 z5 a k c 4 i2 U))):Wp Q λu=>AB u.n u.m1 s1 a2 n3 c4 z5 a6 n7 c8 z9 i10 U:=cK [] w
theorem Yi (w:Wp Q λu=>
 rh u.n u.n s1 i2 0 i2 U):F 27 [.str s1,J i2] U Q:=aJ [] w
theorem Hh (w:Wp Q λu=>
 cond (decide (i4<(s1.length:Int))) (cP s1 i4 λu0=>
 cond ((u0.toNat:Int)==32) (Du u.n u.m1 s1 i2 i3 i4 U) (cP s1 i4 λu0=>
 cond ((u0.toNat:Int)==9) (Du u.n u.m1 s1 i2 i3 i4 U) (cP s1 i4 λu0=>
 Nq u.n u.m1 s1 i2 i3 i4 ((u0.toNat:Int)==10) U))) (wq u.n i2 i3 i4 U)):Wp Q λu=>rh u.n u.m1 s1 i2 i3 i4 U:=cK [(dg 1110001001),[1,1,1]] w
theorem Yj (w:Wp Q λu=>
 rh u.n u.m1 s1 i2 i3 (ah .i64 (i4+1)) U):Wp Q λu=>Du u.n u.m1 s1 i2 i3 i4 U:=aH [] w
theorem Yk (w:Wp Q λu=>
 cond b5 (rh u.n u.m1 s1 i2 i3 (ah .i64 (i4+1)) U) (cP s1 i4 λu0=>
 cond ((u0.toNat:Int) !=47) (wq u.n i2 i3 i4 U) (cond (decide ((ah .i64 (i4+1))>=(s1.length:Int))) (wq u.n i2 i3 i4 U) (cP s1 (ah .i64 (i4+1)) λu0=>
 cond ((u0.toNat:Int) !=47) (wq u.n i2 i3 i4 U) (AT u.n u.m1 u.n s1 i2 i3 i4 U))))):Wp Q λu=>Nq u.n u.m1 s1 i2 i3 i4 b5 U:=aH [[1,1,1]] w
theorem Yl (w:Wp Q λu=>
 some (.ret (J ((ah .i64 (i3-i1)))),U)):Wp Q λu=>wq u.n i1 i2 i3 U:=aH [] w
theorem Hi (w:Wp Q λu=>
 cond (decide (i4<(s1.length:Int))) (cP s1 i4 λu0=>
 cond ((u0.toNat:Int) !=10) (AT u.n u.m1 u.m2 s1 i2 i3 (ah .i64 (i4+1)) U) (rh u.n u.m1 s1 i2 i3 i4 U)) (rh u.n u.m1 s1 i2 i3 i4 U)):Wp Q λu=>AT u.n u.m1 u.m2 s1 i2 i3 i4 U:=yx [] w
theorem Ym (w:Wp Q λu=>
 cond (decide (i2>=(s1.length:Int))) (some (.ret (.tuple [.agg [J 0,J i2,.str [],J 0],J i2]),U)) (cP s1 i2 λu0=>
 cB u.n 62 [.int .u8 (u0.toNat:Int)] U λb U=>
 cB u.n 63 [.int .u8 (u0.toNat:Int)] U λb0 U=>
 cond b (yj u.n u.n s1 i2 0 (u0.toNat:Int) i2 b0 0 0 [] 0 U) (Ns u.n s1 i2 0 (u0.toNat:Int) i2 b0 0 0 [] 0 U))):F 28 [.str s1,J i2] U Q:=aJ [(dg 11111111)] w
theorem Nw (w:Wp Q λu=>
 cond (decide (i5<(s1.length:Int))) (cP s1 i5 λu0=>
 cB u.n 62 [.int .u8 (u0.toNat:Int)] U λb U=>
 cond b (yj u.n u.m1 s1 i2 i3 i4 (ah .i64 (i5+1)) b6 i7 i8 s9 i10 U) (cP s1 i5 λu0=>
 cB u.n 63 [.int .u8 (u0.toNat:Int)] U λb U=>
 cond b (yj u.n u.m1 s1 i2 i3 i4 (ah .i64 (i5+1)) b6 i7 i8 s9 i10 U) (Dv u.n s1 i2 i3 i4 i5 b6 i7 i8 s9 i10 U))) (Dv u.n s1 i2 i3 i4 i5 b6 i7 i8 s9 i10 U)):Wp Q λu=>yj u.n u.m1 s1 i2 i3 i4 i5 b6 i7 i8 s9 i10 U:=cK [(dg 11111110101)] w
theorem Yo (w:Wp Q λu=>
 cond b6 (AU u.n u.n s1 i2 i3 i4 i5 i7 i8 s9 i10 U) (Nt u.n s1 i2 i3 i4 i7 i8 s9 i10 U)):Wp Q λu=>Ns u.n s1 i2 i3 i4 i5 b6 i7 i8 s9 i10 U:=aH [(dg 111111111)] w
theorem Yp (w:Wp Q λu=>
 cZ ae Lb u.n 65 [] U λv U=>
 gn v λa k c z=>
 lU s1 i2 i5 λs=>
 cZ ae Lb u.n 64 [.slice a k c z,.str s] U λv U=>
 gm v λb=>
 cond b (lU s1 i2 i5 λs=>
 some (.ret (.tuple [.agg [J 2,J i2,.str s,J 0],J i5]),U)) (cond (decide ((ah .i64 (i5-i2))>14)) (some (.ret (.tuple [.agg [J 6,J i2,.str [],J 0],J i5]),U)) (lU s1 i2 i5 λs=>
 some (.ret (.tuple [.agg [J 1,J i2,.str s,J 0],J i5]),U)))):Wp Q λu=>Dv u.n s1 i2 i3 i4 i5 b6 i7 i8 s9 i10 U:=aH [] w
theorem Nx (w:Wp Q λu=>
 cond (decide (i5<(s1.length:Int))) (cP s1 i5 λu0=>
 cB u.n 63 [.int .u8 (u0.toNat:Int)] U λb U=>
 cond b (AU u.n u.m1 s1 i2 i3 i4 (ah .i64 (i5+1)) i6 i7 s8 i9 U) (Dw u.n s1 i2 i3 i4 i5 i6 i7 s8 i9 U)) (Dw u.n s1 i2 i3 i4 i5 i6 i7 s8 i9 U)):Wp Q λu=>AU u.n u.m1 s1 i2 i3 i4 i5 i6 i7 s8 i9 U:=cK [(dg 111111110101)] w
theorem Yq (w:Wp Q λu=>
 cond (i4==34) (cC u.n 67 [.str s1,J i2] U λc U=>
 jv c λx r=>
 kQ x λc=>
 ui c λi r0=>
 ui r0 λi0 r0=>
 us r0 λs r0=>
 ui r0 λi1 r0=>
 aY r0<|
 ui r λi2 r=>
 aY r<|
 some (.ret (.tuple [.agg [J i,J i0,.str s,J i1],J i2]),U)) (cond (i4==39) (cC u.n 67 [.str s1,J i2] U λc U=>
 jv c λx r=>
 kQ x λc=>
 ui c λi r0=>
 ui r0 λi0 r0=>
 us r0 λs r0=>
 ui r0 λi1 r0=>
 aY r0<|
 ui r λi2 r=>
 aY r<|
 some (.ret (.tuple [.agg [J i,J i0,.str s,J i1],J i2]),U)) (cA u.n 68 [] U λv U=>
 gn v λa k c z=>
 yl u.n u.n s1 i2 i3 a k c z 0 i5 i6 s7 i8 U))):Wp Q λu=>Nt u.n s1 i2 i3 i4 i5 i6 s7 i8 U:=aH [] w
theorem Yr (w:Wp Q λu=>
 lU s1 i2 i5 λs=>
 cC u.n 66 [.str s] U λc U=>
 ui c λi r=>
 ub r λb r=>
 aY r<|
 cond (!b) (some (.ret (.tuple [.agg [J 6,J i2,.str [],J 0],J i5]),U)) (some (.ret (.tuple [.agg [J 3,J i2,.str [],J i],J i5]),U))):Wp Q λu=>Dw u.n s1 i2 i3 i4 i5 i6 i7 s8 i9 U:=aH [] w
theorem Ny (w:Wp Q λu=>
 cond (decide (i8<(n5:Int))) (ao i8 n5<|
 af a4 λb o=>
 ar z7 1<|
 lS 9 U b (o+((i8).toNat*1)) λs=>
 cond (decide ((ah .i64 (i2+(s.length:Int)))<=(s1.length:Int))) (lU s1 i2 (ah .i64 (i2+(s.length:Int))) λs0=>
 ao i8 n5<|
 af a4 λb o=>
 ar z7 1<|
 lS 9 U b (o+((i8).toNat*1)) λs2=>
 Nu u.n u.m1 s1 i2 i3 a4 n5 c6 z7 i8 (s.length:Int) (s0==s2) i9 i10 s11 i12 U) (Nv u.n u.m1 s1 i2 i3 a4 n5 c6 z7 i8 (s.length:Int) i9 i10 s11 i12 U)) (Nr u.n i2 i3 i9 i10 s11 i12 U)):Wp Q λu=>yl u.n u.m1 s1 i2 i3 a4 n5 c6 z7 i8 i9 i10 s11 i12 U:=cK [(dg 11111111111010010011),(dg 111111111111)] w
theorem Ys (w:Wp Q λu=>
 cond b10 (ao i8 n5<|
 af a4 λb o=>
 ar z7 1<|
 lS 9 U b (o+((i8).toNat*1)) λs=>
 some (.ret (.tuple [.agg [J 5,J i2,.str s,J 0],J ((ah .i64 (i2+i9)))]),U)) (yl u.n u.m1 s1 i2 i3 a4 n5 c6 z7 (ah .i64 (i8+1)) i11 i12 s13 i14 U)):Wp Q λu=>Nu u.n u.m1 s1 i2 i3 a4 n5 c6 z7 i8 i9 b10 i11 i12 s13 i14 U:=aH [] w
theorem Yt (w:Wp Q λu=>
 yl u.n u.m1 s1 i2 i3 a4 n5 c6 z7 (ah .i64 (i8+1)) i10 i11 s12 i13 U):Wp Q λu=>Nv u.n u.m1 s1 i2 i3 a4 n5 c6 z7 i8 i9 i10 i11 s12 i13 U:=aH [] w
theorem Yn (w:Wp Q λu=>
 some (.ret (.tuple [.agg [J 6,J i1,.str [],J 0],J i1]),U)):Wp Q λu=>Nr u.n i1 i2 i3 i4 s5 i6 U:=aH [] w
theorem Zf (w:Wp Q λu=>
 cond (decide (i1>=97)) (cond (decide (i1<=122)) (some (.ret (.bool true),U)) (cond (decide (i1>=65)) (cond (decide (i1<=90)) (some (.ret (.bool true),U)) (some (.ret (.bool (i1==95)),U))) (some (.ret (.bool (i1==95)),U)))) (cond (decide (i1>=65)) (cond (decide (i1<=90)) (some (.ret (.bool true),U)) (some (.ret (.bool (i1==95)),U))) (some (.ret (.bool (i1==95)),U)))):F 62 [.int .u8 i1] U Q:=aJ [] w
theorem Zg (w:Wp Q λu=>
 cond (decide (i1>=48)) (some (.ret (.bool (decide (i1<=57))),U)) (some (.ret (.bool false),U))):F 63 [.int .u8 i1] U Q:=aJ [] w
theorem Zh (w:Wp Q λu=>
 A6 u.n u.n a1 n2 c3 z4 s5 0 U):F 64 [.slice a1 n2 c3 z4,.str s5] U Q:=aJ [] w
theorem NY (w:Wp Q λu=>
 cond (decide (i6<(n2:Int))) (ao i6 n2<|
 af a1 λb o=>
 ar z4 1<|
 lS 9 U b (o+((i6).toNat*1)) λs=>
 cond (s==s5) (some (.ret (.bool true),U)) (A6 u.n u.m1 a1 n2 c3 z4 s5 (ah .i64 (i6+1)) U)) (NW u.n U)):Wp Q λu=>A6 u.n u.m1 a1 n2 c3 z4 s5 i6 U:=cK [[1,1]] w
theorem Zi (w:Wp Q λu=>
 some (.ret (.bool false),U)):Wp Q λu=>NW u.n U:=aH [] w
theorem Zj (w:Wp Q λu=>
 let U0:St:=U++[rx 9 [.str [105,110,116],.str [99,104,97,114],.str [105,102],.str [101,108,115,101],.str [119,104,105,108,101],.str [114,101,116,117,114,110],.str [98,114,101,97,107],.str [99,111,110,116,105,110,117,101]]];
 some (.ret (.slice (sm U.length 0) 8 (some 8) 1),U0)):F 65 [] U Q:=aJ [] w
theorem Zk (w:Wp Q λu=>
 cond (decide ((s1.length:Int)>19)) (NZ u.n s1 0 U) (cond (decide ((s1.length:Int)>1)) (cP s1 0 λu0=>
 N1 u.n s1 0 ((u0.toNat:Int)==48) U) (N2 u.n s1 0 U))):F 66 [.str s1] U Q:=aJ [[1,0,1]] w
theorem Zl (w:Wp Q λu=>
 some (.ret (.tuple [J 0,.bool false]),U)):Wp Q λu=>NZ u.n s1 i2 U:=aH [] w
theorem Zm (w:Wp Q λu=>
 cond b3 (some (.ret (.tuple [J 0,.bool false]),U)) (wv u.n u.n s1 i2 0 0 U)):Wp Q λu=>N1 u.n s1 i2 b3 U:=aH [] w
theorem Zn (w:Wp Q λu=>
 wv u.n u.n s1 i2 0 0 U):Wp Q λu=>N2 u.n s1 i2 U:=aH [] w
theorem N4 (w:Wp Q λu=>
 cond (decide (i4<(s1.length:Int))) (cP s1 i4 λu0=>
 wv u.n u.m1 s1 i2 (ah .u64 ((ah .u64 (i3*10))+(ah .u64 (ah .u8 ((u0.toNat:Int)-48))))) (ah .i64 (i4+1)) U) (N3 u.n i2 i3 U)):Wp Q λu=>wv u.n u.m1 s1 i2 i3 i4 U:=cK [(dg 11111)] w
theorem Zo (w:Wp Q λu=>
 some (.ret (.tuple [J (ah .i64 i2),.bool (decide (i2<=9223372036854775807))]),U)):Wp Q λu=>N3 u.n i1 i2 U:=aH [] w
theorem Zp (w:Wp Q λu=>
 cP s1 i2 λu0=>
 wx u.n u.n s1 i2 0 (u0.toNat:Int) none 0 (some 0) 0 (ah .i64 (i2+1)) 0 0 [] 0 U):F 67 [.str s1,J i2] U Q:=aJ [] w
theorem N8 (w:Wp Q λu=>
 cond (decide (i9<(s1.length:Int))) (cP s1 i9 λu0=>
 cond ((u0.toNat:Int) !=i4) (cC u.n 91 [.str s1,J i9,.int .u8 i4] U λc U=>
 jv c λx r=>
 gY .u8 x λi=>
 ui r λi0 r=>
 aY r<|
 cond (i0==0) (N5 u.n u.m1 s1 i2 i3 i4 a5 n6 c7 z8 i9 i i0 i10 i11 s12 i13 U) (cond (i4==34) (N6 u.n u.m1 s1 i2 i3 i4 a5 n6 c7 z8 i9 i i0 (i==0) i10 i11 s12 i13 U) (N7 u.n u.m1 s1 i2 i3 i4 a5 n6 c7 z8 i9 i i0 i10 i11 s12 i13 U))) (DD u.n s1 i2 i3 i4 a5 n6 c7 z8 i9 i10 i11 s12 i13 U)) (DD u.n s1 i2 i3 i4 a5 n6 c7 z8 i9 i10 i11 s12 i13 U)):Wp Q λu=>wx u.n u.m1 s1 i2 i3 i4 a5 n6 c7 z8 i9 i10 i11 s12 i13 U:=cK [(dg 1111100010101),(dg 111111)] w
theorem Zq (w:Wp Q λu=>
 some (.ret (.tuple [.agg [J 6,J i2,.str [],J 0],J i9]),U)):Wp Q λu=>N5 u.n u.m1 s1 i2 i3 i4 a5 n6 c7 z8 i9 i10 i11 i12 i13 s14 i15 U:=aH [] w
theorem Zr (w:Wp Q λu=>
 cond b12 (some (.ret (.tuple [.agg [J 6,J i2,.str [],J 0],J i9]),U)) (dT U 5 1 1 a5 n6 z8 1 [.int .u8 i10] λa k c U=>
 wx u.n u.m1 s1 i2 i3 i4 a k c 1 (ah .i64 (i9+i11)) i13 i14 s15 i16 U)):Wp Q λu=>N6 u.n u.m1 s1 i2 i3 i4 a5 n6 c7 z8 i9 i10 i11 b12 i13 i14 s15 i16 U:=aH [] w
theorem Zs (w:Wp Q λu=>
 dT U 5 1 1 a5 n6 z8 1 [.int .u8 i10] λa k c U=>
 wx u.n u.m1 s1 i2 i3 i4 a k c 1 (ah .i64 (i9+i11)) i12 i13 s14 i15 U):Wp Q λu=>N7 u.n u.m1 s1 i2 i3 i4 a5 n6 c7 z8 i9 i10 i11 i12 i13 s14 i15 U:=aH [] w
theorem Zt (w:Wp Q λu=>
 cond (decide (i9>=(s1.length:Int))) (DE u.n i2 i3 i4 a5 n6 c7 z8 i9 i10 i11 s12 i13 U) (cond (i4==34) (cond (decide ((n6:Int)>100)) (DE u.n i2 i3 i4 a5 n6 c7 z8 i9 i10 i11 s12 i13 U) (cond (i4==39) (Hp u.n i2 i3 i4 a5 n6 c7 z8 i9 ((n6:Int) !=1) i10 i11 s12 i13 U) (Hq u.n i2 i3 i4 a5 n6 c7 z8 i9 i10 i11 s12 i13 U))) (cond (i4==39) (Hp u.n i2 i3 i4 a5 n6 c7 z8 i9 ((n6:Int) !=1) i10 i11 s12 i13 U) (Hq u.n i2 i3 i4 a5 n6 c7 z8 i9 i10 i11 s12 i13 U)))):Wp Q λu=>DD u.n s1 i2 i3 i4 a5 n6 c7 z8 i9 i10 i11 s12 i13 U:=aH [(dg 11111101)] w
theorem Zu (w:Wp Q λu=>
 some (.ret (.tuple [.agg [J 6,J i1,.str [],J 0],J i8]),U)):Wp Q λu=>DE u.n i1 i2 i3 a4 n5 c6 z7 i8 i9 i10 s11 i12 U:=aH [] w
theorem Zv (w:Wp Q λu=>
 cond b9 (some (.ret (.tuple [.agg [J 6,J i1,.str [],J 0],J i8]),U)) (cond (i3==34) (om U a4 n5 z7 λs=>
 some (.ret (.tuple [.agg [J 4,J i1,.str s,J 0],J ((ah .i64 (i8+1)))]),U)) (ao 0 n5<|
 af a4 λb o=>
 ar z7 1<|
 lD 5 U b (o+0) λx=>
 gY .u8 x λi=>
 some (.ret (.tuple [.agg [J 3,J i1,.str [],J (ah .i64 i)],J ((ah .i64 (i8+1)))]),U)))):Wp Q λu=>Hp u.n i1 i2 i3 a4 n5 c6 z7 i8 b9 i10 i11 s12 i13 U:=aH [] w
theorem Zw (w:Wp Q λu=>
 cond (i3==34) (om U a4 n5 z7 λs=>
 some (.ret (.tuple [.agg [J 4,J i1,.str s,J 0],J ((ah .i64 (i8+1)))]),U)) (ao 0 n5<|
 af a4 λb o=>
 ar z7 1<|
 lD 5 U b (o+0) λx=>
 gY .u8 x λi=>
 some (.ret (.tuple [.agg [J 3,J i1,.str [],J (ah .i64 i)],J ((ah .i64 (i8+1)))]),U))):Wp Q λu=>Hq u.n i1 i2 i3 a4 n5 c6 z7 i8 i9 i10 s11 i12 U:=aH [] w
theorem Zx (w:Wp Q λu=>
 let U0:St:=U++[rx 9 [.str [60,60],.str [62,62],.str [60,61],.str [62,61],.str [61,61],.str [33,61],.str [38,38],.str [124,124],.str [40],.str [41],.str [123],.str [125],.str [91],.str [93],.str [59],.str [44],.str [42],.str [47],.str [37],.str [43],.str [45],.str [60],.str [62],.str [38],.str [94],.str [124],.str [61],.str [33],.str [126]]];
 some (.ret (.slice (sm U.length 0) 29 (some 29) 1),U0)):F 68 [] U Q:=aJ [] w
theorem Z5 (w:Wp Q λu=>
 cond (decide (i2>=(s1.length:Int))) (some (.ret (.tuple [.int .u8 0,J 0]),U)) (cP s1 i2 λu0=>
 cond ((u0.toNat:Int) !=92) (cond (decide ((u0.toNat:Int)<32)) (DN u.n s1 i2 0 0 (u0.toNat:Int) U) (cond (decide ((u0.toNat:Int)>126)) (DN u.n s1 i2 0 0 (u0.toNat:Int) U) (Ox u.n s1 i2 0 0 (u0.toNat:Int) ((u0.toNat:Int)==i3) U))) (cond (decide ((ah .i64 (i2+1))>=(s1.length:Int))) (some (.ret (.tuple [.int .u8 0,J 0]),U)) (cP s1 (ah .i64 (i2+1)) λu0=>
 cond ((u0.toNat:Int)==110) (some (.ret (.tuple [.int .u8 10,J 2]),U)) (cond ((u0.toNat:Int)==116) (some (.ret (.tuple [.int .u8 9,J 2]),U)) (cond ((u0.toNat:Int)==48) (some (.ret (.tuple [.int .u8 0,J 2]),U)) (cond ((u0.toNat:Int)==92) (DO u.n s1 i2 0 0 U) (cond ((u0.toNat:Int)==39) (DO u.n s1 i2 0 0 U) (Oy u.n s1 i2 0 0 ((u0.toNat:Int)==34) U))))))))):F 91 [.str s1,J i2,.int .u8 i3] U Q:=aJ [(dg 111101001),(dg 1111110101111111)] w
theorem Z6 (w:Wp Q λu=>
 some (.ret (.tuple [.int .u8 0,J 0]),U)):Wp Q λu=>DN u.n s1 i2 i3 i4 i5 U:=aH [] w
theorem Z7 (w:Wp Q λu=>
 cond b6 (some (.ret (.tuple [.int .u8 0,J 0]),U)) (some (.ret (.tuple [.int .u8 i5,J 1]),U))):Wp Q λu=>Ox u.n s1 i2 i3 i4 i5 b6 U:=aH [] w
theorem Z8 (w:Wp Q λu=>
 cP s1 (ah .i64 (i2+1)) λu0=>
 some (.ret (.tuple [.int .u8 (u0.toNat:Int),J 2]),U)):Wp Q λu=>DO u.n s1 i2 i3 i4 U:=aH [] w
theorem Z9 (w:Wp Q λu=>
 cond b5 (cP s1 (ah .i64 (i2+1)) λu0=>
 some (.ret (.tuple [.int .u8 (u0.toNat:Int),J 2]),U)) (some (.ret (.tuple [.int .u8 0,J 0]),U))):Wp Q λu=>Oy u.n s1 i2 i3 i4 b5 U:=aH [] w
end
end Go.Proofs
end
section
namespace Go.Proofs
open Go.AM
set_option maxHeartbeats 4000000
set_option maxRecDepth 100000
section
variable (n m0:Nat) (a1:Ad) (i1:Int) (s1:By) (b2:Bool) (i2:Int) (n2:Nat) (s2:By) (a3:Ad) (b3:Bool) (c3:On) (i3:Int) (s3:By) (a4:Ad) (x4:List AV) (i4:Int) (n4:Nat) (s4:By) (z4:Nat) (b5:Bool) (c5:On) (i5:Int) (n5:Nat) (s5:By) (c6:On) (i6:Int) (s6:By) (z6:Nat) (a7:Ad) (b7:Bool) (i7:Int) (p7:Nat) (s7:By) (z7:Nat) (a8:Ad) (i8:Int) (n8 o8:Nat) (s8:By) (a9:Ad) (c9:On) (i9:Int) (n9:Nat) (s9:By) (c10:On) (i10:Int) (n10:Nat) (s10:By) (z10:Nat) (c11:On) (i11:Int) (z11:Nat) (i12:Int) (z12:Nat) (s13:By) (i14 i15:Int) (a16:Ad) (n17:Nat) (c18:On) (z19:Nat) (U:St)
noncomputable def De:Out:=q 16 n [1,1,1] [] (en 66 [(2,vS a1 n2 c3 z4),(3,vJ i5),(4,vJ i6),(5,vP p7 o8)] []) U
noncomputable def ye:Out:=q 16 n (dg 1111100) [m0] (en 66 [(2,vS a1 n2 c3 z4),(3,vJ i5),(4,vJ i6),(5,vP p7 o8),(6,vS a9 n10 c11 z12)] []) U
noncomputable def Df:Out:=q 16 n (dg 111111) [] (en 66 [(2,vS a1 n2 c3 z4),(3,vJ i5),(4,vJ i6),(5,vP p7 o8),(6,vS a9 n10 c11 z12)] []) U
noncomputable def Hj:Out:=q 30 n (dg 11111) [] (en 62 [(0,vA a1),(2,vJ i2),(3,.lp 3 0),(4,.v (.bool b3))] [(3,[J i4,J i5,.str s6,J i7,J i8,.slice a9 n10 c11 z12])]) U
noncomputable def Dx:Out:=q 30 n (dg 11111111) [] (en 62 [(0,vA a1),(2,vJ i2),(3,.lp 3 0)] [(3,[J i3,J i4,.str s5,J i6,J i7,.slice a8 n9 c10 z11])]) U
noncomputable def wy:Out:=q 72 n (dg 111100) [m0] (en 54 [(0,vA a1),(3,.lp 3 0),(4,vJ i2),(5,.v (.bool b3))] [(3,[J i4,J i5,.str s6,J i7,J i8,.slice a9 n10 c11 z12])]) U
noncomputable def DF:Out:=q 72 n (dg 11111) [] (en 54 [(0,vA a1),(3,.lp 3 0),(4,vJ i2)] [(3,[J i3,J i4,.str s5,J i6,J i7,.slice a8 n9 c10 z11])]) U
noncomputable def OA:Out:=q 93 n (dg 11101) [] (en 54 [(0,vA a1),(2,.lp 2 0),(3,.lp 3 0),(31,.v (.bool b2))] [(2,[J i3,J i4,.str s5,J i6]),(3,[J i7,J i8,.str s9,J i10])]) U
noncomputable def OB:Out:=q 93 n (dg 11101) [] (en 54 [(0,vA a1),(2,.lp 2 0),(3,.lp 3 0),(31,.v (.bool false))] [(2,[J i2,J i3,.str s4,J i5]),(3,[J i6,J i7,.str s8,J i9])]) U
noncomputable def Bb:Out:=q 94 n (dg 11111) [] (en 37 [(0,vA a1),(2,.lp 2 0),(3,.lp 3 0)] [(2,[J i2,J i3,.str s4,J i5,J i6,.slice a7 n8 c9 z10]),(3,[J i11,J i12,.str s13,J i14,J i15,.slice a16 n17 c18 z19])]) U
noncomputable def yp:Out:=q 95 n (dg 1111100) [m0] (en 37 [(0,vA a1),(2,vJ i2),(3,vJ i3),(4,vS a4 n5 c6 z7)] []) U
noncomputable def DP:Out:=q 95 n (dg 111111) [] (en 37 [(0,vA a1),(2,vJ i2),(3,vJ i3),(4,vS a4 n5 c6 z7)] []) U
noncomputable def G3:Out:=q 123 n (dg 11111) [] (en 21 [(0,vA a1),(2,vJ i2),(3,vJ i3)] []) U
noncomputable def AA:Out:=q 153 n [1] [] (en 23 [(0,vA a1)] []) U
noncomputable def Dd:Out:=q 154 n (dg 11111) [] (en 128 [(0,vA a1),(2,vJ i2),(3,.lp 3 0),(4,.v (.str s3))] [(3,[J i4,J i5,.str s6,J i7])]) U
noncomputable def MI:Out:=q 154 n (dg 11111110101111111) [] (en 128 [(0,vA a1),(2,vJ i2),(3,.lp 3 0),(4,.v (.str s3)),(34,.v (.str s4)),(92,.v (.bool true))] [(3,[J i5,J i6,.str s7,J i8])]) U
noncomputable def MJ:Out:=q 154 n (dg 11111110101111111) [] (en 128 [(0,vA a1),(2,vJ i2),(3,.lp 3 0),(4,.v (.str s3)),(34,.v (.str s4)),(92,.v (.bool b5))] [(3,[J i6,J i7,.str s8,J i9])]) U
noncomputable def MK:Out:=q 154 n (dg 1111111010111111111) [] (en 128 [(0,vA a1),(2,vJ i2),(3,.lp 3 0),(107,.v (.bool true))] [(3,[J i3,J i4,.str s5,J i6])]) U
noncomputable def MM:Out:=q 154 n (dg 1111111010111111111) [] (en 128 [(0,vA a1),(2,vJ i2),(3,.lp 3 0),(107,.v (.bool b3))] [(3,[J i4,J i5,.str s6,J i7])]) U
noncomputable def Dg:Out:=q 178 n (dg 111101011) [] (en 53 [(0,vA a1),(1,vJ i2),(4,vJ i3),(5,vJ i4)] []) U
noncomputable def wm:Out:=q 197 n (dg 11100) [m0] (en 58 [(0,vA a1),(1,vJ i2),(4,vJ i3),(5,vJ i4)] []) U
noncomputable def Dj:Out:=q 197 n (dg 11100010111) [m0] (en 58 [(0,vA a1),(1,vJ i2),(4,vJ i3),(5,vJ i4),(7,vJ i5)] []) U
noncomputable def Dk:Out:=q 197 n [1,1,1] [] (en 58 [(4,vJ i1),(5,vJ i2)] []) U
noncomputable def AL:Out:=q 211 n (dg 111010) [m0] (en 20 [(0,.v (.str s1)),(2,vJ i2),(3,.ls 5 18),(4,vJ i3)] [(5,x4)]) U
noncomputable def Nb:Out:=q 211 n [1,1,1] [] (en 20 [(2,vJ i1)] []) U
noncomputable def Dr:Out:=q 219 n (dg 11111010) [m0] (en 66 [(0,vA a1),(2,vJ i2),(3,vJ i3),(4,.ls 26 3),(5,vJ i4)] [(26,[.str s5,.str s6,.str s7])]) U
noncomputable def Nf:Out:=q 219 n (dg 111111) [] (en 66 [(0,vA a1),(2,vJ i2)] []) U
noncomputable def yg:Out:=q 219 n (dg 111111100) [m0] (en 66 [(0,vA a1),(2,vJ i2),(8,vJ i3)] []) U
noncomputable def Ng:Out:=q 219 n (dg 11111111) [] (en 66 [(2,vJ i1),(8,vJ i2)] []) U
noncomputable def uK:Out:=q 227 n (dg 1110101111101111100) [m0] (en 99 [(0,vA a1),(2,vJ i2),(3,.lp 3 0),(5,vS a3 n4 c5 z6),(6,.v (.bool b7))] [(3,[J i8,J i9,.str s10,J i11])]) U
noncomputable def Nj:Out:=q 227 n [1,1,1] [] (en 99 [(0,vA a1),(2,vJ i2)] []) U
noncomputable def AO:Out:=q 227 n (dg 111010111110111111) [] (en 99 [(0,vA a1),(2,vJ i2),(3,.lp 3 0),(5,vS a3 n4 c5 z6)] [(3,[J i7,J i8,.str s9,J i10])]) U
end
section
set_option autoImplicit true
set_option relaxedAutoImplicit true
variable {n2 n4 z4 n5 z6 p7 z7 n8 o8 n9 n10 z10 z11 z12 n17 z19:Nat} {s1 s2 s3 s4 s5 s6 s7 s8 s9 s10 s13:By}
theorem aaq (w:Wp Q λu=>
 cond (decide ((s1.length:Int)>8192)) (some (.ret (.tuple [N0,J 15,J 0]),U)) (cC u.n 16 [.str s1] U λc U=>
 ul c λa k c z r=>
 ui r λi r=>
 ui r λi0 r=>
 aY r<|
 some (.ret (.tuple [.slice a k c z,J i,J i0]),U))):F 9 [.str s1] U Q:=aJ [] w
theorem Xc (w:Wp Q λu=>
 cA u.n 15 [.str s1] U λv U=>
 gn v λa k c z=>
 let U0:St:=U++[bx 85 [.slice a k c z,J 0,N0,J 0,J 0,J 0]];
 lL 48 U0 U.length 0 λa k _ z=>
 ao 0 k<|
 af a λb o=>
 ar z 4<|
 lI 3 U0 b ((o+0)+0) λi=>
 cond (i==6) (cA u.n 29 [.ptr (sm U.length 0),J 13] U0 λ_ U0=>
 De u.n none 0 (some 0) 0 0 0 U.length 0 U0) (De u.n none 0 (some 0) 0 0 0 U.length 0 U0)):F 16 [.str s1] U Q:=aJ [[1,1,1]] w
theorem Xd (w:Wp Q λu=>
 ye u.n u.n a1 n2 c3 z4 i5 i6 p7 o8 none 0 (some 0) 0 U):Wp Q λu=>De u.n a1 n2 c3 z4 i5 i6 p7 o8 U:=aH [] w
theorem MN (w:Wp Q λu=>
 lI 3 U p7 (o8+4) λi=>
 cond (i==0) (lL 48 U p7 (o8+0) λa k _ z=>
 lI 3 U p7 (o8+1) λi=>
 ao i k<|
 af a λb o=>
 ar z 4<|
 lI 3 U b ((o+((i).toNat*4))+0) λi=>
 cond (i !=0) (cI u.n 30 [.ptr (sm p7 o8)] U λi U=>
 dT U 3 1 8 a9 n10 z12 1 [J i] λa k c U=>
 ye u.n u.m1 a1 n2 c3 z4 i5 i6 p7 o8 a k c 1 U) (Df u.n a1 n2 c3 z4 i5 i6 p7 o8 a9 n10 c11 z12 U)) (Df u.n a1 n2 c3 z4 i5 i6 p7 o8 a9 n10 c11 z12 U)):Wp Q λu=>ye u.n u.m1 a1 n2 c3 z4 i5 i6 p7 o8 a9 n10 c11 z12 U:=cK [(dg 111111)] w
theorem Xe (w:Wp Q λu=>
 cI u.n 31 [.ptr (sm p7 o8),.agg [J 23,J 0,.str [],J 0,J 0,.slice a9 n10 c11 z12]] U λ_ U=>
 lI 3 U p7 (o8+4) λi=>
 cond (i !=0) (lI 3 U p7 (o8+4) λi=>
 lI 3 U p7 (o8+5) λi0=>
 some (.ret (.tuple [N0,J i,J i0]),U)) (lL 24 U p7 (o8+2) λa k c z=>
 some (.ret (.tuple [.slice a k c z,J 0,J 0]),U))):Wp Q λu=>Df u.n a1 n2 c3 z4 i5 i6 p7 o8 a9 n10 c11 z12 U:=aH [] w
theorem Yu (w:Wp Q λu=>
 af a1 λb o=>
 lI 3 U b (o+4) λi=>
 cond (i==0) (af a1 λb o=>
 aT U b (o+4) [J i2] λU=>
 af a1 λb o=>
 lL 48 U b (o+0) λa k _ z=>
 af a1 λb o=>
 lI 3 U b (o+1) λi=>
 ao i k<|
 af a λb o=>
 ar z 4<|
 lI 3 U b ((o+((i).toNat*4))+1) λi=>
 af a1 λb o=>
 aT U b (o+5) [J i] λU=>
 some (.ret (.tuple []),U)) (some (.ret (.tuple []),U))):F 29 [.ptr a1,J i2] U Q:=aJ [] w
theorem Yw (w:Wp Q λu=>
 af a1 λb o=>
 lL 48 U b (o+0) λa k _ z=>
 af a1 λb o=>
 lI 3 U b (o+1) λi=>
 ao i k<|
 af a λb o=>
 ar z 4<|
 lI 3 U b ((o+((i).toNat*4))+1) λi=>
 cB u.n 69 [.ptr a1,.str [99,104,97,114]] U λb U=>
 cond b (Hj u.n a1 0 b 21 i [] 0 2 none 0 (some 0) 0 U) (cA u.n 70 [.ptr a1,.str [105,110,116]] U λ_ U=>
 Hj u.n a1 0 b 21 i [] 0 3 none 0 (some 0) 0 U)):F 30 [.ptr a1] U Q:=aJ [(dg 11111)] w
theorem Nz (w:Wp Q λu=>
 cG u.n 71 [.ptr a1,J 1] U λc U=>
 ui c λ_ r=>
 ui r λ_ r=>
 us r λs r=>
 ui r λ_ r=>
 aY r<|
 cond (!b3) (cB u.n 69 [.ptr a1,.str [59]] U λb U=>
 cond b (cI u.n 31 [.ptr a1,.agg [J 20,J i5,.str s,J i7,J 1,.slice a9 n10 c11 z12]] U λi U=>
 some (.ret (J i),U)) (cB u.n 69 [.ptr a1,.str [40]] U λb U=>
 cond b (cI u.n 72 [.ptr a1,.agg [J i4,J i5,.str s,J i7,J i8,.slice a9 n10 c11 z12]] U λi U=>
 some (.ret (J i),U)) (Dx u.n a1 i2 i4 i5 s i7 i8 a9 n10 c11 z12 U))) (Dx u.n a1 i2 i4 i5 s i7 i8 a9 n10 c11 z12 U)):Wp Q λu=>Hj u.n a1 i2 b3 i4 i5 s6 i7 i8 a9 n10 c11 z12 U:=aH [(dg 11111111)] w
theorem Yx (w:Wp Q λu=>
 cA u.n 70 [.ptr a1,.str [91]] U λ_ U=>
 cG u.n 71 [.ptr a1,J 3] U λc U=>
 ui c λ_ r=>
 ui r λ_ r=>
 us r λ_ r=>
 ui r λi r=>
 aY r<|
 cA u.n 70 [.ptr a1,.str [93]] U λ_ U=>
 cA u.n 70 [.ptr a1,.str [59]] U λ_ U=>
 cI u.n 31 [.ptr a1,.agg [J i3,J i4,.str s5,J i,J i7,.slice a8 n9 c10 z11]] U λi U=>
 some (.ret (J i),U)):Wp Q λu=>Dx u.n a1 i2 i3 i4 s5 i6 i7 a8 n9 c10 z11 U:=aH [] w
theorem Yy (w:Wp Q λu=>
 af a1 λb o=>
 lI 3 U b (o+4) λi=>
 cond (i !=0) (some (.ret (J 0),U)) (af a1 λb o=>
 lL 24 U b (o+2) λ_ k _ _=>
 cond (decide ((k:Int)>=4096)) (cA u.n 29 [.ptr a1,J 15] U λ_ U=>
 some (.ret (J 0),U)) (af a1 λb o=>
 lL 24 U b (o+2) λa k _ z=>
 dT U 42 6 72 a k z 1 [J i2,J i3,.str s4,J i5,J i6,.slice a7 n8 c9 z10] λa k c U=>
 af a1 λb o=>
 aT U b (o+2) [.slice a k c 6] λU=>
 af a1 λb o=>
 lL 24 U b (o+2) λ_ k _ _=>
 some (.ret (J ((ah .i64 ((k:Int)-1)))),U)))):F 31 [.ptr a1,.agg [J i2,J i3,.str s4,J i5,J i6,.slice a7 n8 c9 z10]] U Q:=aJ [] w
theorem N9 (w:Wp Q λu=>
 cB u.n 92 [.ptr a1,.str s2] U λb U=>
 cond b (cG u.n 93 [.ptr a1] U λc U=>
 ui c λ_ r=>
 ui r λ_ r=>
 us r λ_ r=>
 ui r λ_ r=>
 aY r<|
 some (.ret (.bool b),U)) (some (.ret (.bool b),U))):F 69 [.ptr a1,.str s2] U Q:=aJ [] w
theorem Zy (w:Wp Q λu=>
 cB u.n 69 [.ptr a1,.str s2] U λb U=>
 cond (!b) (cA u.n 29 [.ptr a1,J 13] U λ_ U=>
 some (.ret (.tuple []),U)) (some (.ret (.tuple []),U))):F 70 [.ptr a1,.str s2] U Q:=aJ [] w
theorem Zz (w:Wp Q λu=>
 af a1 λb o=>
 lI 3 U b (o+4) λi=>
 cond (i !=0) (cA u.n 29 [.ptr a1,J 13] U λ_ U=>
 some (.ret (.agg [J 0,J 0,.str [],J 0]),U)) (af a1 λb o=>
 lL 48 U b (o+0) λa k _ z=>
 af a1 λb o=>
 lI 3 U b (o+1) λi=>
 ao i k<|
 af a λb o=>
 ar z 4<|
 lI 3 U b ((o+((i).toNat*4))+0) λi=>
 cond (i !=i2) (cA u.n 29 [.ptr a1,J 13] U λ_ U=>
 some (.ret (.agg [J 0,J 0,.str [],J 0]),U)) (cG u.n 93 [.ptr a1] U λc U=>
 ui c λi r=>
 ui r λi0 r=>
 us r λs r=>
 ui r λi1 r=>
 aY r<|
 some (.ret (.agg [J i,J i0,.str s,J i1]),U)))):F 71 [.ptr a1,J i2] U Q:=aJ [] w
theorem ZA (w:Wp Q λu=>
 cB u.n 69 [.ptr a1,.str [41]] U λb U=>
 wy u.n u.n a1 0 b 22 i3 s4 i5 i6 a7 n8 c9 z10 U):F 72 [.ptr a1,.agg [J i2,J i3,.str s4,J i5,J i6,.slice a7 n8 c9 z10]] U Q:=aJ [] w
theorem DG (w:Wp Q λu=>
 cond (!b3) (af a1 λb o=>
 lI 3 U b (o+4) λi=>
 cond (i==0) (cG u.n 94 [.ptr a1] U λc U=>
 ui c λi r=>
 ui r λi0 r=>
 us r λs r=>
 ui r λi1 r=>
 ui r λi3 r=>
 ul r λa k c z r=>
 aY r<|
 cZ ae Lb u.n 31 [.ptr a1,.agg [J i,J i0,.str s,J i1,J i3,.slice a k c z]] U λv U=>
 xI v λi=>
 dT U 3 1 8 a9 n10 z12 1 [J i] λa k c U=>
 cB u.n 69 [.ptr a1,.str [41]] U λb U=>
 cond (!b) (cA u.n 70 [.ptr a1,.str [44]] U λ_ U=>
 wy u.n u.m1 a1 i2 b i4 i5 s6 i7 i8 a k c 1 U) (wy u.n u.m1 a1 i2 b i4 i5 s6 i7 i8 a k c 1 U)) (DF u.n a1 i2 i4 i5 s6 i7 i8 a9 n10 c11 z12 U)) (DF u.n a1 i2 i4 i5 s6 i7 i8 a9 n10 c11 z12 U)):Wp Q λu=>wy u.n u.m1 a1 i2 b3 i4 i5 s6 i7 i8 a9 n10 c11 z12 U:=cK [(dg 11111)] w
theorem ZB (w:Wp Q λu=>
 af a1 λb o=>
 lI 3 U b (o+4) λi=>
 cond (i==0) (cZ ae Lb u.n 95 [.ptr a1] U λv U=>
 xI v λi=>
 dT U 3 1 8 a8 n9 z11 1 [J i] λa k c U=>
 cI u.n 31 [.ptr a1,.agg [J i3,J i4,.str s5,J i6,J (n9:Int),.slice a k c 1]] U λi U=>
 some (.ret (J i),U)) (cI u.n 31 [.ptr a1,.agg [J i3,J i4,.str s5,J i6,J (n9:Int),.slice a8 n9 c10 z11]] U λi U=>
 some (.ret (J i),U))):Wp Q λu=>DF u.n a1 i2 i3 i4 s5 i6 i7 a8 n9 c10 z11 U:=aH [] w
theorem Oz (w:Wp Q λu=>
 af a1 λb o=>
 lL 48 U b (o+0) λa k _ z=>
 af a1 λb o=>
 lI 3 U b (o+1) λi=>
 ao i k<|
 af a λb o=>
 ar z 4<|
 lG 51 U b (o+((i).toNat*4)) λc=>
 ui c λi r=>
 ui r λ_ r=>
 us r λs r=>
 ui r λ_ r=>
 aY r<|
 af a1 λb o=>
 lI 3 U b (o+4) λi0=>
 cond (i0==0) (cond (i==2) (some (.ret (.bool (s==s2)),U)) (cond (i==5) (some (.ret (.bool (s==s2)),U)) (some (.ret (.bool false),U)))) (some (.ret (.bool false),U))):F 92 [.ptr a1,.str s2] U Q:=aJ [] w
theorem aac (w:Wp Q λu=>
 af a1 λb o=>
 lL 48 U b (o+0) λa k _ z=>
 af a1 λb o=>
 lI 3 U b (o+1) λi=>
 ao i k<|
 af a λb o=>
 ar z 4<|
 lG 51 U b (o+((i).toNat*4)) λc=>
 ui c λi r=>
 ui r λi0 r=>
 us r λs r=>
 ui r λi1 r=>
 aY r<|
 af a1 λb o=>
 lI 3 U b (o+4) λi2=>
 cond (i2==0) (af a1 λb o=>
 lI 3 U b (o+1) λi2=>
 af a1 λb o=>
 lL 48 U b (o+0) λ_ k _ _=>
 OA u.n a1 (decide ((ah .i64 (i2+1))<(k:Int))) 0 0 [] 0 i i0 s i1 U) (OB u.n a1 0 0 [] 0 i i0 s i1 U)):F 93 [.ptr a1] U Q:=aJ [(dg 11101)] w
theorem aad (w:Wp Q λu=>
 cond b2 (af a1 λb o=>
 lI 3 U b (o+1) λi=>
 af a1 λb o=>
 aT U b (o+1) [J ((ah .i64 (i+1)))] λU=>
 af a1 λb o=>
 lL 48 U b (o+0) λa k _ z=>
 af a1 λb o=>
 lI 3 U b (o+1) λi=>
 ao i k<|
 af a λb o=>
 ar z 4<|
 lI 3 U b ((o+((i).toNat*4))+0) λi=>
 cond (i==6) (cA u.n 29 [.ptr a1,J 13] U λ_ U=>
 some (.ret (.agg [J i7,J i8,.str s9,J i10]),U)) (some (.ret (.agg [J i7,J i8,.str s9,J i10]),U))) (some (.ret (.agg [J i7,J i8,.str s9,J i10]),U))):Wp Q λu=>OA u.n a1 b2 i3 i4 s5 i6 i7 i8 s9 i10 U:=aH [] w
theorem aae (w:Wp Q λu=>
 some (.ret (.agg [J i6,J i7,.str s8,J i9]),U)):Wp Q λu=>OB u.n a1 i2 i3 s4 i5 i6 i7 s8 i9 U:=aH [] w
theorem aaf (w:Wp Q λu=>
 af a1 λb o=>
 lL 48 U b (o+0) λa k _ z=>
 af a1 λb o=>
 lI 3 U b (o+1) λi=>
 ao i k<|
 af a λb o=>
 ar z 4<|
 lI 3 U b ((o+((i).toNat*4))+1) λi=>
 cB u.n 69 [.ptr a1,.str [99,104,97,114]] U λb U=>
 cond b (cA u.n 70 [.ptr a1,.str [42]] U λ_ U=>
 Bb u.n a1 0 0 [] 0 0 none 0 (some 0) 0 18 i [] 0 2 none 0 (some 0) 0 U) (cA u.n 70 [.ptr a1,.str [105,110,116]] U λ_ U=>
 cB u.n 69 [.ptr a1,.str [42]] U λb U=>
 cond b (Bb u.n a1 0 0 [] 0 0 none 0 (some 0) 0 18 i [] 0 3 none 0 (some 0) 0 U) (Bb u.n a1 0 0 [] 0 0 none 0 (some 0) 0 18 i [] 0 1 none 0 (some 0) 0 U))):F 94 [.ptr a1] U Q:=aJ [(dg 11111)] w
theorem aag (w:Wp Q λu=>
 cG u.n 71 [.ptr a1,J 1] U λc U=>
 ui c λ_ r=>
 ui r λ_ r=>
 us r λs r=>
 ui r λ_ r=>
 aY r<|
 some (.ret (.agg [J i11,J i12,.str s,J i14,J i15,.slice a16 n17 c18 z19]),U)):Wp Q λu=>Bb u.n a1 i2 i3 s4 i5 i6 a7 n8 c9 z10 i11 i12 s13 i14 i15 a16 n17 c18 z19 U:=aH [] w
theorem aah (w:Wp Q λu=>
 af a1 λb o=>
 lL 48 U b (o+0) λa k _ z=>
 af a1 λb o=>
 lI 3 U b (o+1) λi=>
 ao i k<|
 af a λb o=>
 ar z 4<|
 lI 3 U b ((o+((i).toNat*4))+1) λi=>
 cA u.n 70 [.ptr a1,.str [123]] U λ_ U=>
 yp u.n u.n a1 0 i none 0 (some 0) 0 U):F 95 [.ptr a1] U Q:=aJ [] w
theorem OC (w:Wp Q λu=>
 af a1 λb o=>
 lI 3 U b (o+4) λi=>
 cond (i==0) (cB u.n 69 [.ptr a1,.str [125]] U λb U=>
 cond b (DP u.n a1 i2 i3 a4 n5 c6 z7 U) (cI u.n 123 [.ptr a1] U λi U=>
 dT U 3 1 8 a4 n5 z7 1 [J i] λa k c U=>
 yp u.n u.m1 a1 i2 i3 a k c 1 U)) (DP u.n a1 i2 i3 a4 n5 c6 z7 U)):Wp Q λu=>yp u.n u.m1 a1 i2 i3 a4 n5 c6 z7 U:=cK [(dg 111111)] w
theorem aai (w:Wp Q λu=>
 cI u.n 31 [.ptr a1,.agg [J 17,J i3,.str [],J 0,J 0,.slice a4 n5 c6 z7]] U λi U=>
 some (.ret (J i),U)):Wp Q λu=>DP u.n a1 i2 i3 a4 n5 c6 z7 U:=aH [] w
theorem MB (w:Wp Q λu=>
 cA u.n 153 [.ptr a1] U λ_ U=>
 af a1 λb o=>
 lI 3 U b (o+4) λi=>
 cond (i==0) (cI u.n 154 [.ptr a1] U λi U=>
 G3 u.n a1 0 i U) (G3 u.n a1 0 0 U)):F 123 [.ptr a1] U Q:=aJ [(dg 11111)] w
theorem G4 (w:Wp Q λu=>
 af a1 λb o=>
 lI 3 U b (o+3) λi=>
 af a1 λb o=>
 aT U b (o+3) [J ((ah .i64 (i-1)))] λU=>
 some (.ret (J i3),U)):Wp Q λu=>G3 u.n a1 i2 i3 U:=aH [] w
theorem W1 (w:Wp Q λu=>
 cond (decide (i1<0)) (some (.ret (J 0),U)) (cond (decide (i1>=22)) (some (.ret (J 0),U)) (ao i1 22<|
 pA 3 [J 0,J 0,J 0,J 0,J 10,J 10,J 10,J 9,J 9,J 8,J 8,J 7,J 7,J 7,J 7,J 6,J 6,J 5,J 4,J 3,J 2,J 1] ((i1).toNat*1) λx=>
 xI x λi=>
 some (.ret (J i),U)))):F 152 [J i1] U Q:=aJ [] w
theorem W2 (w:Wp Q λu=>
 af a1 λb o=>
 lI 3 U b (o+4) λi=>
 cond (i==0) (af a1 λb o=>
 lI 3 U b (o+3) λi=>
 cond (decide (i>=40)) (cA u.n 29 [.ptr a1,J 15] U λ_ U=>
 AA u.n a1 U) (AA u.n a1 U)) (AA u.n a1 U)):F 153 [.ptr a1] U Q:=aJ [[1]] w
theorem MH (w:Wp Q λu=>
 af a1 λb o=>
 lI 3 U b (o+3) λi=>
 af a1 λb o=>
 aT U b (o+3) [J ((ah .i64 (i+1)))] λU=>
 some (.ret (.tuple []),U)):Wp Q λu=>AA u.n a1 U:=aH [] w
theorem W3 (w:Wp Q λu=>
 af a1 λb o=>
 lL 48 U b (o+0) λa k _ z=>
 af a1 λb o=>
 lI 3 U b (o+1) λi=>
 ao i k<|
 af a λb o=>
 ar z 4<|
 lG 51 U b (o+((i).toNat*4)) λc=>
 ui c λi r=>
 ui r λi0 r=>
 us r λs r=>
 ui r λi1 r=>
 aY r<|
 cond (i==2) (Dd u.n a1 0 s i i0 s i1 U) (Dd u.n a1 0 [] i i0 s i1 U)):F 154 [.ptr a1] U Q:=aJ [(dg 11111)] w
theorem W4 (w:Wp Q λu=>
 cB u.n 92 [.ptr a1,.str [123]] U λb U=>
 cond b (cI u.n 95 [.ptr a1] U λi U=>
 some (.ret (J i),U)) (cond (s3==[105,102]) (cG u.n 93 [.ptr a1] U λc U=>
 ui c λ_ r=>
 ui r λ_ r=>
 us r λ_ r=>
 ui r λ_ r=>
 aY r<|
 cI u.n 176 [.ptr a1] U λi U=>
 let U0:St:=U++[rx 3 [J i]];
 cI u.n 123 [.ptr a1] U0 λi U0=>
 dT U0 3 1 8 (sm U.length 0) 1 1 1 [J i] λa k c U=>
 cB u.n 69 [.ptr a1,.str [101,108,115,101]] U λb U=>
 cond b (cI u.n 123 [.ptr a1] U λi U=>
 dT U 3 1 8 a k 1 1 [J i] λa k c U=>
 cI u.n 31 [.ptr a1,.agg [J 12,J i5,.str [],J 0,J 0,.slice a k c 1]] U λi U=>
 some (.ret (J i),U)) (cI u.n 31 [.ptr a1,.agg [J 12,J i5,.str [],J 0,J 0,.slice a k c 1]] U λi U=>
 some (.ret (J i),U))) (cond (s3==[119,104,105,108,101]) (cG u.n 93 [.ptr a1] U λc U=>
 ui c λ_ r=>
 ui r λ_ r=>
 us r λ_ r=>
 ui r λ_ r=>
 aY r<|
 cI u.n 176 [.ptr a1] U λi U=>
 cI u.n 123 [.ptr a1] U λi0 U=>
 let U0:St:=U++[rx 3 [J i,J i0]];
 cI u.n 31 [.ptr a1,.agg [J 13,J i5,.str [],J 0,J 0,.slice (sm U.length 0) 2 (some 2) 1]] U0 λi U=>
 some (.ret (J i),U)) (cond (s3==[114,101,116,117,114,110]) (cG u.n 93 [.ptr a1] U λc U=>
 ui c λ_ r=>
 ui r λ_ r=>
 us r λ_ r=>
 ui r λ_ r=>
 aY r<|
 cI u.n 177 [.ptr a1] U λi U=>
 cA u.n 70 [.ptr a1,.str [59]] U λ_ U=>
 let U0:St:=U++[rx 3 [J i]];
 cI u.n 31 [.ptr a1,.agg [J 14,J i5,.str [],J 0,J 0,.slice (sm U.length 0) 1 (some 1) 1]] U0 λi U=>
 some (.ret (J i),U)) (cond (s3==[98,114,101,97,107]) (MI u.n a1 i2 s3 s3 i4 i5 s6 i7 U) (MJ u.n a1 i2 s3 s3 (s3==[99,111,110,116,105,110,117,101]) i4 i5 s6 i7 U)))))):Wp Q λu=>Dd u.n a1 i2 s3 i4 i5 s6 i7 U:=aH [(dg 11111110101111111)] w
theorem W5 (w:Wp Q λu=>
 cG u.n 93 [.ptr a1] U λc U=>
 ui c λ_ r=>
 ui r λ_ r=>
 us r λ_ r=>
 ui r λ_ r=>
 aY r<|
 cA u.n 70 [.ptr a1,.str [59]] U λ_ U=>
 cond (s3==[99,111,110,116,105,110,117,101]) (cI u.n 31 [.ptr a1,.agg [J 16,J i6,.str [],J 0,J 0,N0]] U λi U=>
 some (.ret (J i),U)) (cI u.n 31 [.ptr a1,.agg [J 15,J i6,.str [],J 0,J 0,N0]] U λi U=>
 some (.ret (J i),U))):Wp Q λu=>MI u.n a1 i2 s3 s4 i5 i6 s7 i8 U:=aH [] w
theorem W6 (w:Wp Q λu=>
 cond b5 (cG u.n 93 [.ptr a1] U λc U=>
 ui c λ_ r=>
 ui r λ_ r=>
 us r λ_ r=>
 ui r λ_ r=>
 aY r<|
 cA u.n 70 [.ptr a1,.str [59]] U λ_ U=>
 cond (s3==[99,111,110,116,105,110,117,101]) (cI u.n 31 [.ptr a1,.agg [J 16,J i7,.str [],J 0,J 0,N0]] U λi U=>
 some (.ret (J i),U)) (cI u.n 31 [.ptr a1,.agg [J 15,J i7,.str [],J 0,J 0,N0]] U λi U=>
 some (.ret (J i),U))) (cond (s4==[105,110,116]) (MK u.n a1 i2 i6 i7 s8 i9 U) (MM u.n a1 i2 (s4==[99,104,97,114]) i6 i7 s8 i9 U))):Wp Q λu=>MJ u.n a1 i2 s3 s4 b5 i6 i7 s8 i9 U:=aH [(dg 1111111010111111111)] w
theorem ML (w:Wp Q λu=>
 cG u.n 94 [.ptr a1] U λc U=>
 ui c λi r=>
 ui r λi0 r=>
 us r λs r=>
 ui r λi1 r=>
 ui r λi2 r=>
 ul r λa k c z r=>
 aY r<|
 cB u.n 69 [.ptr a1,.str [61]] U λb U=>
 cond b (cI u.n 177 [.ptr a1] U λi3 U=>
 let U0:St:=U++[rx 3 [J i3]];
 cA u.n 70 [.ptr a1,.str [59]] U0 λ_ U0=>
 cI u.n 31 [.ptr a1,.agg [J i,J i0,.str s,J i1,J i2,.slice (sm U.length 0) 1 (some 1) 1]] U0 λi U=>
 some (.ret (J i),U)) (cA u.n 70 [.ptr a1,.str [59]] U λ_ U=>
 cI u.n 31 [.ptr a1,.agg [J i,J i0,.str s,J i1,J i2,.slice a k c z]] U λi U=>
 some (.ret (J i),U))):Wp Q λu=>MK u.n a1 i2 i3 i4 s5 i6 U:=aH [] w
theorem W7 (w:Wp Q λu=>
 cond b3 (cG u.n 94 [.ptr a1] U λc U=>
 ui c λi r=>
 ui r λi0 r=>
 us r λs r=>
 ui r λi1 r=>
 ui r λi2 r=>
 ul r λa k c z r=>
 aY r<|
 cB u.n 69 [.ptr a1,.str [61]] U λb U=>
 cond b (cI u.n 177 [.ptr a1] U λi3 U=>
 let U0:St:=U++[rx 3 [J i3]];
 cA u.n 70 [.ptr a1,.str [59]] U0 λ_ U0=>
 cI u.n 31 [.ptr a1,.agg [J i,J i0,.str s,J i1,J i2,.slice (sm U.length 0) 1 (some 1) 1]] U0 λi U=>
 some (.ret (J i),U)) (cA u.n 70 [.ptr a1,.str [59]] U λ_ U=>
 cI u.n 31 [.ptr a1,.agg [J i,J i0,.str s,J i1,J i2,.slice a k c z]] U λi U=>
 some (.ret (J i),U))) (cI u.n 178 [.ptr a1,J i5] U λi U=>
 some (.ret (J i),U))):Wp Q λu=>MM u.n a1 i2 b3 i4 i5 s6 i7 U:=aH [] w
theorem Xh (w:Wp Q λu=>
 cA u.n 70 [.ptr a1,.str [40]] U λ_ U=>
 af a1 λb o=>
 lI 3 U b (o+4) λi=>
 cond (i !=0) (some (.ret (J 0),U)) (cI u.n 197 [.ptr a1,J 1] U λi U=>
 cA u.n 70 [.ptr a1,.str [41]] U λ_ U=>
 some (.ret (J i),U))):F 176 [.ptr a1] U Q:=aJ [] w
theorem Xi (w:Wp Q λu=>
 af a1 λb o=>
 lI 3 U b (o+4) λi=>
 cond (i !=0) (some (.ret (J 0),U)) (cI u.n 197 [.ptr a1,J 1] U λi U=>
 some (.ret (J i),U))):F 177 [.ptr a1] U Q:=aJ [] w
theorem Xj (w:Wp Q λu=>
 cI u.n 197 [.ptr a1,J 1] U λi U=>
 cB u.n 92 [.ptr a1,.str [61]] U λb U=>
 cond b (af a1 λb o=>
 lL 24 U b (o+2) λa k _ z=>
 ao i k<|
 af a λb o=>
 ar z 6<|
 lI 3 U b ((o+((i).toNat*6))+0) λi0=>
 cond (i0 !=3) (cond (i0 !=5) (cA u.n 29 [.ptr a1,J 13] U λ_ U=>
 some (.ret (J 0),U)) (Dg u.n a1 i2 0 i U)) (Dg u.n a1 i2 0 i U)) (cA u.n 70 [.ptr a1,.str [59]] U λ_ U=>
 let U0:St:=U++[rx 3 [J i]];
 cI u.n 31 [.ptr a1,.agg [J 10,J i2,.str [],J 0,J 0,.slice (sm U.length 0) 1 (some 1) 1]] U0 λi U=>
 some (.ret (J i),U))):F 178 [.ptr a1,J i2] U Q:=aJ [(dg 111101011)] w
theorem Xk (w:Wp Q λu=>
 cG u.n 93 [.ptr a1] U λc U=>
 ui c λ_ r=>
 ui r λ_ r=>
 us r λ_ r=>
 ui r λ_ r=>
 aY r<|
 cI u.n 177 [.ptr a1] U λi U=>
 cA u.n 70 [.ptr a1,.str [59]] U λ_ U=>
 cI u.n 198 [.ptr a1,J i4] U λi0 U=>
 let U0:St:=U++[rx 3 [J i4,J i]];
 cI u.n 31 [.ptr a1,.agg [J 11,J i0,.str [],J 0,J 0,.slice (sm U.length 0) 2 (some 2) 1]] U0 λi U=>
 some (.ret (J i),U)):Wp Q λu=>Dg u.n a1 i2 i3 i4 U:=aH [] w
theorem MT (w:Wp Q λu=>
 cI u.n 210 [.ptr a1] U λi U=>
 wm u.n u.n a1 i2 0 i U):F 197 [.ptr a1,J i2] U Q:=aJ [] w
theorem MU (w:Wp Q λu=>
 af a1 λb o=>
 lI 3 U b (o+4) λi=>
 cond (i==0) (af a1 λb o=>
 lL 48 U b (o+0) λa k _ z=>
 af a1 λb o=>
 lI 3 U b (o+1) λi=>
 ao i k<|
 af a λb o=>
 ar z 4<|
 lG 51 U b (o+((i).toNat*4)) λc=>
 ui c λi r=>
 ui r λ_ r=>
 us r λs r=>
 ui r λ_ r=>
 aY r<|
 cond (i==5) (cI u.n 211 [.str s] U λi U=>
 Dj u.n u.m1 a1 i2 i3 i4 i U) (Dj u.n u.m1 a1 i2 i3 i4 0 U)) (Dk u.n i3 i4 U)):Wp Q λu=>wm u.n u.m1 a1 i2 i3 i4 U:=cK [(dg 11100010111),[1,1,1]] w
theorem XA (w:Wp Q λu=>
 cond (i5==0) (Dk u.n i3 i4 U) (cI u.n 152 [J i5] U λi U=>
 cond (decide (i<i2)) (Dk u.n i3 i4 U) (cG u.n 93 [.ptr a1] U λc U=>
 ui c λ_ r=>
 ui r λ_ r=>
 us r λ_ r=>
 ui r λ_ r=>
 aY r<|
 cI u.n 152 [J i5] U λi U=>
 cI u.n 197 [.ptr a1,J ((ah .i64 (i+1)))] U λi U=>
 cI u.n 198 [.ptr a1,J i4] U λi0 U=>
 let U0:St:=U++[rx 3 [J i4,J i]];
 cI u.n 31 [.ptr a1,.agg [J 7,J i0,.str [],J i5,J 0,.slice (sm U.length 0) 2 (some 2) 1]] U0 λi U=>
 wm u.n u.m1 a1 i2 i3 i U))):Wp Q λu=>Dj u.n u.m1 a1 i2 i3 i4 i5 U:=aH [[1,1,1]] w
theorem G9 (w:Wp Q λu=>
 some (.ret (J i2),U)):Wp Q λu=>Dk u.n i1 i2 U:=aH [] w
theorem XB (w:Wp Q λu=>
 cond (decide (i2<0)) (some (.ret (J 0),U)) (af a1 λb o=>
 lL 24 U b (o+2) λ_ k _ _=>
 cond (decide (i2>=(k:Int))) (some (.ret (J 0),U)) (af a1 λb o=>
 lL 24 U b (o+2) λa k _ z=>
 ao i2 k<|
 af a λb o=>
 ar z 6<|
 lI 3 U b ((o+((i2).toNat*6))+1) λi=>
 some (.ret (J i),U)))):F 198 [.ptr a1,J i2] U Q:=aJ [] w
theorem Na (w:Wp Q λu=>
 cA u.n 153 [.ptr a1] U λ_ U=>
 cI u.n 219 [.ptr a1] U λi U=>
 af a1 λb o=>
 lI 3 U b (o+3) λi0=>
 af a1 λb o=>
 aT U b (o+3) [J ((ah .i64 (i0-1)))] λU=>
 some (.ret (J i),U)):F 210 [.ptr a1] U Q:=aJ [] w
theorem XY (w:Wp Q λu=>
 AL u.n u.n s1 0 0 [.str [42],.str [47],.str [37],.str [43],.str [45],.str [60,60],.str [62,62],.str [60],.str [60,61],.str [62],.str [62,61],.str [61,61],.str [33,61],.str [38],.str [94],.str [124],.str [38,38],.str [124,124]] U):F 211 [.str s1] U Q:=aJ [] w
theorem Nc (w:Wp Q λu=>
 cond (decide (i3<18)) (ao i3 18<|
 pA 9 x4 ((i3).toNat*1) λx=>
 jY x λs=>
 cond (s==s1) (some (.ret (J ((ah .i64 (4+i3)))),U)) (AL u.n u.m1 s1 i2 (ah .i64 (i3+1)) x4 U)) (Nb u.n i2 U)):Wp Q λu=>AL u.n u.m1 s1 i2 i3 x4 U:=cK [[1,1,1]] w
theorem XZ (w:Wp Q λu=>
 some (.ret (J 0),U)):Wp Q λu=>Nb u.n i1 U:=aH [] w
theorem Nd (w:Wp Q λu=>
 af a1 λb o=>
 lI 3 U b (o+4) λi=>
 cond (i !=0) (some (.ret (J 0),U)) (af a1 λb o=>
 lL 48 U b (o+0) λa k _ z=>
 af a1 λb o=>
 lI 3 U b (o+1) λi=>
 ao i k<|
 af a λb o=>
 ar z 4<|
 lI 3 U b ((o+((i).toNat*4))+1) λi=>
 Dr u.n u.n a1 0 i 0 [45] [33] [126] U)):F 219 [.ptr a1] U Q:=aJ [] w
theorem Ds (w:Wp Q λu=>
 cond (decide (i4<3)) (ao i4 3<|
 pA 9 [.str s5,.str s6,.str s7] ((i4).toNat*1) λx=>
 jY x λs=>
 cB u.n 69 [.ptr a1,.str s] U λb U=>
 cond b (cI u.n 210 [.ptr a1] U λi U=>
 let U0:St:=U++[rx 3 [J i]];
 cI u.n 31 [.ptr a1,.agg [J 6,J i3,.str [],J ((ah .i64 (i4+1))),J 0,.slice (sm U.length 0) 1 (some 1) 1]] U0 λi U=>
 some (.ret (J i),U)) (Dr u.n u.m1 a1 i2 i3 (ah .i64 (i4+1)) s5 s6 s7 U)) (Nf u.n a1 i2 U)):Wp Q λu=>Dr u.n u.m1 a1 i2 i3 i4 s5 s6 s7 U:=cK [(dg 111111)] w
theorem X5 (w:Wp Q λu=>
 cI u.n 227 [.ptr a1] U λi U=>
 yg u.n u.n a1 i2 i U):Wp Q λu=>Nf u.n a1 i2 U:=aH [] w
theorem Ni (w:Wp Q λu=>
 cB u.n 69 [.ptr a1,.str [91]] U λb U=>
 cond b (cI u.n 197 [.ptr a1,J 1] U λi U=>
 cA u.n 70 [.ptr a1,.str [93]] U λ_ U=>
 cI u.n 198 [.ptr a1,J i3] U λi0 U=>
 let U0:St:=U++[rx 3 [J i3,J i]];
 cI u.n 31 [.ptr a1,.agg [J 5,J i0,.str [],J 0,J 0,.slice (sm U.length 0) 2 (some 2) 1]] U0 λi U=>
 yg u.n u.m1 a1 i2 i U) (Ng u.n i2 i3 U)):Wp Q λu=>yg u.n u.m1 a1 i2 i3 U:=cK [(dg 11111111)] w
theorem Nh (w:Wp Q λu=>
 some (.ret (J i2),U)):Wp Q λu=>Ng u.n i1 i2 U:=aH [] w
theorem X9 (w:Wp Q λu=>
 af a1 λb o=>
 lL 48 U b (o+0) λa k _ z=>
 af a1 λb o=>
 lI 3 U b (o+1) λi=>
 ao i k<|
 af a λb o=>
 ar z 4<|
 lG 51 U b (o+((i).toNat*4)) λc=>
 ui c λi r=>
 ui r λi0 r=>
 us r λs r=>
 ui r λi1 r=>
 aY r<|
 cond (i==3) (cG u.n 93 [.ptr a1] U λc U=>
 ui c λ_ r=>
 ui r λ_ r=>
 us r λ_ r=>
 ui r λ_ r=>
 aY r<|
 cI u.n 31 [.ptr a1,.agg [J 1,J i0,.str [],J i1,J 0,N0]] U λi U=>
 some (.ret (J i),U)) (cond (i==4) (cG u.n 93 [.ptr a1] U λc U=>
 ui c λ_ r=>
 ui r λ_ r=>
 us r λ_ r=>
 ui r λ_ r=>
 aY r<|
 cI u.n 31 [.ptr a1,.agg [J 2,J i0,.str s,J 0,J 0,N0]] U λi U=>
 some (.ret (J i),U)) (cond (i==1) (cG u.n 93 [.ptr a1] U λc U=>
 ui c λ_ r=>
 ui r λ_ r=>
 us r λ_ r=>
 ui r λ_ r=>
 aY r<|
 cB u.n 69 [.ptr a1,.str [40]] U λb U=>
 cond (!b) (cI u.n 31 [.ptr a1,.agg [J 3,J i0,.str s,J 0,J 0,N0]] U λi U=>
 some (.ret (J i),U)) (cB u.n 69 [.ptr a1,.str [41]] U λb U=>
 uK u.n u.n a1 0 none 0 (some 0) 0 b i i0 s i1 U)) (Nj u.n a1 0 U)))):F 227 [.ptr a1] U Q:=aJ [[1,1,1]] w
theorem Dt (w:Wp Q λu=>
 cond (!b7) (af a1 λb o=>
 lI 3 U b (o+4) λi=>
 cond (i==0) (cI u.n 197 [.ptr a1,J 1] U λi U=>
 dT U 3 1 8 a3 n4 z6 1 [J i] λa k c U=>
 cB u.n 69 [.ptr a1,.str [41]] U λb U=>
 cond (!b) (cA u.n 70 [.ptr a1,.str [44]] U λ_ U=>
 uK u.n u.m1 a1 i2 a k c 1 b i8 i9 s10 i11 U) (uK u.n u.m1 a1 i2 a k c 1 b i8 i9 s10 i11 U)) (AO u.n a1 i2 a3 n4 c5 z6 i8 i9 s10 i11 U)) (AO u.n a1 i2 a3 n4 c5 z6 i8 i9 s10 i11 U)):Wp Q λu=>uK u.n u.m1 a1 i2 a3 n4 c5 z6 b7 i8 i9 s10 i11 U:=cK [(dg 111010111110111111)] w
theorem Ya (w:Wp Q λu=>
 cA u.n 70 [.ptr a1,.str [40]] U λ_ U=>
 af a1 λb o=>
 lI 3 U b (o+4) λi=>
 cond (i !=0) (some (.ret (J 0),U)) (cI u.n 197 [.ptr a1,J 1] U λi U=>
 cA u.n 70 [.ptr a1,.str [41]] U λ_ U=>
 some (.ret (J i),U))):Wp Q λu=>Nj u.n a1 i2 U:=aH [] w
theorem Yb (w:Wp Q λu=>
 cI u.n 31 [.ptr a1,.agg [J 4,J i8,.str s9,J 0,J 0,.slice a3 n4 c5 z6]] U λi U=>
 some (.ret (J i),U)):Wp Q λu=>AO u.n a1 i2 a3 n4 c5 z6 i7 i8 s9 i10 U:=aH [] w
end
end Go.Proofs
end
section
namespace Go.Proofs
open Go.AM
set_option maxHeartbeats 4000000
set_option maxRecDepth 100000
section
variable (n m0:Nat) (a1:Ad) (b1:Bool) (i1 i2:Int) (n2:Nat) (b3:Bool) (c3:On) (i3:Int) (p3:Nat) (s3:By) (a4:Ad) (b4:Bool) (i4:Int) (o4 z4:Nat) (a5:Ad) (b5:Bool) (i5:Int) (n5:Nat) (x5:AV) (a6:Ad) (c6:On) (i6:Int) (n6:Nat) (s6:By) (c7:On) (i7:Int) (n7 p7:Nat) (s7:By) (z7:Nat) (c8:On) (i8:Int) (o8:Nat) (s8:By) (z8:Nat) (a9:Ad) (i9:Int) (z9:Nat) (a10:Ad) (i10:Int) (n10:Nat) (s10:By) (a11:Ad) (b11:Bool) (c11:On) (i11:Int) (n11:Nat) (a12:Ad) (c12:On) (i12:Int) (n12:Nat) (s12:By) (z12:Nat) (a13:Ad) (c13:On) (i13:Int) (n13:Nat) (s13:By) (z13:Nat) (c14:On) (i14:Int) (n14:Nat) (s14:By) (x14:AV) (z14:Nat) (a15:Ad) (c15:On) (i15:Int) (x15:AV) (z15:Nat) (a16:Ad) (i16:Int) (n16 z16:Nat) (a17:Ad) (c17:On) (n17:Nat) (c18:On) (n18 z18:Nat) (a19:Ad) (c19:On) (z19:Nat) (a20:Ad) (i20:Int) (n20:Nat) (x20:AV) (z20:Nat) (c21:On) (i21:Int) (n21:Nat) (x21:AV) (c22:On) (i22:Int) (z22:Nat) (i23:Int) (z23:Nat) (i24:Int) (s24 s25:By) (U:St)
noncomputable def Av:Out:=q 10 n (dg 11111010) [m0] (en 105 [(0,vS a1 n2 c3 z4),(2,.lp 2 0),(3,vJ i5),(4,vJ i6),(7,vP p7 o8),(47,vJ i9),(48,vJ i10)] [(2,[.slice a11 n12 c13 z14,.slice a15 n16 c17 z18,.slice a19 n20 c21 z22])]) U
noncomputable def GY:Out:=q 10 n (dg 111111) [] (en 105 [(0,vS a1 n2 c3 z4),(2,.lp 2 0),(3,vJ i5),(4,vJ i6),(7,vP p7 o8)] [(2,[.slice a9 n10 c11 z12,.slice a13 n14 c15 z16,.slice a17 n18 c19 z20])]) U
noncomputable def yd:Out:=q 10 n (dg 111111111010) [m0] (en 105 [(2,.lp 2 0),(3,vJ i1),(4,vJ i2),(7,vP p3 o4),(11,.v x5),(75,vS a6 n7 c8 z9),(76,vJ i10),(77,vJ i11)] [(2,[.slice a12 n13 c14 z15,.slice a16 n17 c18 z19,.slice a20 n21 c22 z23])]) U
noncomputable def GZ:Out:=q 10 n (dg 1111111111) [] (en 105 [(2,.lp 2 0),(3,vJ i1),(4,vJ i2),(7,vP p3 o4)] [(2,[.slice a5 n6 c7 z8,.slice a9 n10 c11 z12,.slice a13 n14 c15 z16])]) U
noncomputable def Dh:Out:=q 18 n [1,1] [] (en 59 [(0,vA a1),(1,vJ i2),(2,vJ i3),(3,.v (.bool b4)),(8,.lp 8 0)] [(8,[J i5,J i6,.str s7,J i8,J i9,.slice a10 n11 c12 z13])]) U
noncomputable def uI:Out:=q 18 n (dg 111110) [m0] (en 59 [(0,vA a1),(2,vJ i2),(3,.v (.bool b3)),(8,.lp 8 0),(37,vS a4 n5 c6 z7),(38,vJ i8),(39,vJ i9)] [(8,[J i10,J i11,.str s12,J i13,J i14,.slice a15 n16 c17 z18])]) U
noncomputable def AG:Out:=q 19 n (dg 111010) [m0] (en 110 [(0,vA a1),(2,vJ i2),(3,vJ i3),(16,vS a4 n5 c6 z7),(17,vJ i8),(18,vJ i9)] []) U
noncomputable def Ha:Out:=q 19 n [1,1,1] [] (en 110 [(0,vA a1),(2,vJ i2),(3,vJ i3)] []) U
noncomputable def wo:Out:=q 19 n (dg 1111010) [m0] (en 110 [(0,vA a1),(2,vJ i2),(3,vJ i3),(35,vS a4 n5 c6 z7),(36,vJ i8),(37,vJ i9)] []) U
noncomputable def Hb:Out:=q 19 n (dg 111101001100111101) [m0] (en 110 [(0,vA a1),(2,vJ i2),(3,vJ i3),(6,vJ i4),(7,.lp 7 0),(8,.lp 8 0),(35,vS a5 n6 c7 z8),(36,vJ i9),(37,vJ i10),(84,.v (.bool true))] [(7,[J i11,J i12,.str s13,J i14,J i15,.slice a16 n17 c18 z19]),(8,[J i20,J i21,J i22,J i23,.str s24])]) U
noncomputable def Dl:Out:=q 19 n (dg 111101001100111101) [m0] (en 110 [(0,vA a1),(2,vJ i2),(3,vJ i3),(6,vJ i4),(7,.lp 7 0),(8,.lp 8 0),(35,vS a5 n6 c7 z8),(36,vJ i9),(37,vJ i10),(84,.v (.bool b11))] [(7,[J i12,J i13,.str s14,J i15,J i16,.slice a17 n18 c19 z20]),(8,[J i21,J i22,J i23,J i24,.str s25])]) U
noncomputable def Hc:Out:=q 19 n (dg 111101001100111101) [m0] (en 110 [(0,vA a1),(2,vJ i2),(3,vJ i3),(6,vJ i4),(7,.lp 7 0),(8,.lp 8 0),(35,vS a5 n6 c7 z8),(36,vJ i9),(37,vJ i10),(84,.v (.bool false))] [(7,[J i11,J i12,.str s13,J i14,J i15,.slice a16 n17 c18 z19]),(8,[J i20,J i21,J i22,J i23,.str s24])]) U
noncomputable def MW:Out:=q 19 n (dg 11111) [] (en 110 [(2,vJ i1),(3,vJ i2)] []) U
noncomputable def DA:Out:=q 43 n (dg 1111111) [] (en 88 [(0,vA a1),(1,vJ i2),(4,vJ i3),(6,.lp 6 0)] [(6,[J i4,J i5,J i6,J i7,.str s8])]) U
noncomputable def ym:Out:=q 43 n (dg 1111111010) [m0] (en 88 [(0,vA a1),(1,vJ i2),(4,vJ i3),(6,.lp 6 0),(69,vJ i4),(70,vJ i5)] [(6,[J i6,J i7,J i8,J i9,.str s10])]) U
noncomputable def NJ:Out:=q 43 n (dg 11111111) [] (en 88 [(4,vJ i1)] []) U
noncomputable def NM:Out:=q 46 n (dg 111101) [] (en 46 [(0,vA a1),(1,vJ i2),(4,vJ i3),(5,vJ i4),(28,.v (.bool b5))] []) U
noncomputable def NN:Out:=q 46 n (dg 111101) [] (en 46 [(0,vA a1),(1,vJ i2),(4,vJ i3),(5,vJ i4),(28,.v (.bool false))] []) U
noncomputable def A1:Out:=q 46 n (dg 11111) [] (en 46 [(0,vA a1),(1,vJ i2),(4,vJ i3),(5,vJ i4)] []) U
noncomputable def Hm:Out:=q 47 n [1,1,1] [] (en 57 [(0,vA a1),(1,vJ i2),(4,vJ i3),(6,.v (.bool b4))] []) U
noncomputable def NO:Out:=q 47 n [1,1,1] [] (en 57 [(0,vA a1),(1,vJ i2),(4,vJ i3),(6,.v (.bool false))] []) U
noncomputable def uM:Out:=q 50 n (dg 111111010) [m0] (en 117 [(0,vA a1),(1,vJ i2),(4,vJ i3),(5,.lp 5 0),(6,.lp 6 0),(9,vJ i4),(45,vS a5 n6 c7 z8),(46,vJ i9),(47,vJ i10)] [(5,[J i11,J i12,.str s13,J i14,J i15,.slice a16 n17 c18 z19]),(6,[x20,x21])]) U
noncomputable def DC:Out:=q 50 n (dg 1111111) [] (en 117 [(0,vA a1),(1,vJ i2),(4,vJ i3),(5,.lp 5 0),(6,.lp 6 0),(9,vJ i4)] [(5,[J i5,J i6,.str s7,J i8,J i9,.slice a10 n11 c12 z13]),(6,[x14,x15])]) U
end
section
set_option autoImplicit true
set_option relaxedAutoImplicit true
variable {n2 p3 o4 z4 n5 n6 n7 p7 z7 o8 z8 z9 n10 n11 n12 z12 n13 z13 n14 z14 z15 n16 z16 n17 n18 z18 z19 n20 z20 n21 z22 z23:Nat} {s3 s6 s7 s8 s10 s12 s13 s14 s24 s25:By}
theorem Wq (w:Wp Q λu=>
 cC u.n 17 [.slice a1 n2 c3 z4] U λc U=>
 us c λ_ r=>
 ui r λi r=>
 aY r<|
 cond (i==6) (some (.ret (.tuple [.agg [N0,N0,N0],J i,J 0]),U)) (let U0:St:=U++[.fresh];
 let U1:St:=U0++[.fresh];
 let U2:St:=U1++[.fresh];
 rJ ae 3 1 (n2:Int) (n2:Int) U2 U.length λU2=>
 lN [(U.length,U0.length)]<|
 rJ ae 4 1 (n2:Int) (n2:Int) U2 U0.length λU2=>
 lN [(U.length,U1.length),(U0.length,U1.length)]<|
 ow U2 U1.length<|
 let U2:St:=U2.set U1.length (.map []);
 let U:St:=U2++[bx 58 [.slice a1 n2 c3 z4,N0,N0,N0,.slice (sm U.length 0) ((n2:Int)).toNat (some ((n2:Int)).toNat) 1,.slice (sm U0.length 0) ((n2:Int)).toNat (some ((n2:Int)).toNat) 1,.map none,.map (some U1.length)]];
 let U0:St:=U++[.fresh];
 let U1:St:=U0++[.fresh];
 rJ ae 3 1 (n2:Int) (n2:Int) U1 U.length λU1=>
 lN [(U.length,U0.length)]<|
 rJ ae 3 1 (n2:Int) (n2:Int) U1 U0.length λU1=>
 aT U1 U2.length 1 [N0,.slice (sm U.length 0) ((n2:Int)).toNat (some ((n2:Int)).toNat) 1,.slice (sm U0.length 0) ((n2:Int)).toNat (some ((n2:Int)).toNat) 1] λU=>
 Av u.n u.n a1 n2 c3 z4 0 0 U2.length 0 (n2:Int) 0 none 0 (some 0) 0 none 0 (some 0) 0 none 0 (some 0) 0 U)):F 10 [.slice a1 n2 c3 z4] U Q:=aJ [] w
theorem Mt (w:Wp Q λu=>
 cond (decide (i10<i9)) (lL 28 U p7 ((o8+1)+1) λa k _ z=>
 ao i10 k<|
 af a λb o=>
 ar z 1<|
 aT U b (o+((i10).toNat*1)) [J (-1)] λU=>
 Av u.n u.m1 a1 n2 c3 z4 i5 i6 p7 o8 i9 (ah .i64 (i10+1)) a11 n12 c13 z14 a15 n16 c17 z18 a19 n20 c21 z22 U) (GY u.n a1 n2 c3 z4 i5 i6 p7 o8 a11 n12 c13 z14 a15 n16 c17 z18 a19 n20 c21 z22 U)):Wp Q λu=>Av u.n u.m1 a1 n2 c3 z4 i5 i6 p7 o8 i9 i10 a11 n12 c13 z14 a15 n16 c17 z18 a19 n20 c21 z22 U:=cK [(dg 111111)] w
theorem Ws (w:Wp Q λu=>
 cA u.n 18 [.ptr (sm p7 o8),J ((ah .i64 ((n2:Int)-1))),J (-1),.bool false] U λ_ U=>
 cC u.n 19 [.ptr (sm p7 o8)] U λc U=>
 ui c λi r=>
 ui r λi0 r=>
 aY r<|
 cond (i !=0) (some (.ret (.tuple [.agg [N0,N0,N0],J i,J i0]),U)) (cA u.n 20 [] U λv U=>
 yd u.n u.n i5 i6 p7 o8 v a1 n2 c3 z4 (n2:Int) 0 a9 n10 c11 z12 a13 n14 c15 z16 a17 n18 c19 z20 U)):Wp Q λu=>GY u.n a1 n2 c3 z4 i5 i6 p7 o8 a9 n10 c11 z12 a13 n14 c15 z16 a17 n18 c19 z20 U:=aH [] w
theorem Mu (w:Wp Q λu=>
 cond (decide (i11<i10)) (ao i11 n7<|
 af a6 λb o=>
 ar z9 6<|
 lG 42 U b (o+((i11).toNat*6)) λc=>
 ui c λi r=>
 ui r λ_ r=>
 us r λ_ r=>
 ui r λ_ r=>
 ui r λ_ r=>
 ul r λ_ _ _ _ r=>
 aY r<|
 kR x5 λq0=>
 gF ae 3 64 U q0 (J i) λx b=>
 cond (!b) (yd u.n u.m1 i1 i2 p3 o4 x5 a6 n7 c8 z9 i10 (ah .i64 (i11+1)) a12 n13 c14 z15 a16 n17 c18 z19 a20 n21 c22 z23 U) (su ae Lb u.n x [.ptr (sm p3 o4),J i11] U λv U=>
 xI v λi=>
 cond (i !=0) (some (.ret (.tuple [.agg [N0,N0,N0],J i,J i11]),U)) (yd u.n u.m1 i1 i2 p3 o4 x5 a6 n7 c8 z9 i10 (ah .i64 (i11+1)) a12 n13 c14 z15 a16 n17 c18 z19 a20 n21 c22 z23 U))) (GZ u.n i1 i2 p3 o4 a12 n13 c14 z15 a16 n17 c18 z19 a20 n21 c22 z23 U)):Wp Q λu=>yd u.n u.m1 i1 i2 p3 o4 x5 a6 n7 c8 z9 i10 i11 a12 n13 c14 z15 a16 n17 c18 z19 a20 n21 c22 z23 U:=cK [(dg 1111111111)] w
theorem Wt (w:Wp Q λu=>
 lG 30 U p3 (o4+1) λc=>
 ul c λa k c z r=>
 ul r λa0 k0 c0 z0 r=>
 ul r λa1 k1 c1 z1 r=>
 aY r<|
 some (.ret (.tuple [.agg [.slice a k c z,.slice a0 k0 c0 z0,.slice a1 k1 c1 z1],J 0,J 0]),U)):Wp Q λu=>GZ u.n i1 i2 p3 o4 a5 n6 c7 z8 a9 n10 c11 z12 a13 n14 c15 z16 U:=aH [] w
theorem Xp (w:Wp Q λu=>
 af a1 λb o=>
 lL 24 U b (o+0) λa k _ z=>
 ao i2 k<|
 af a λb o=>
 ar z 6<|
 lG 42 U b (o+((i2).toNat*6)) λc=>
 ui c λi r=>
 ui r λi0 r=>
 us r λs r=>
 ui r λi1 r=>
 ui r λi4 r=>
 ul r λa k c z r=>
 aY r<|
 cond (i==22) (Dh u.n a1 i2 i2 b4 i i0 s i1 i4 a k c z U) (Dh u.n a1 i2 i3 b4 i i0 s i1 i4 a k c z U)):F 18 [.ptr a1,J i2,J i3,.bool b4] U Q:=aJ [[1,1]] w
theorem Xq (w:Wp Q λu=>
 af a1 λb o=>
 lL 28 U b (o+4) λa k _ z=>
 af a1 λb o=>
 lL 38 U b (o+5) λa0 k0 _ z0=>
 ao i2 k<|
 af a λb o=>
 ar z 1<|
 aT U b (o+((i2).toNat*1)) [J i3] λU=>
 ao i2 k0<|
 af a0 λb o=>
 ar z0 1<|
 aT U b (o+((i2).toNat*1)) [.bool b4] λU=>
 uI u.n u.n a1 i3 b4 a10 n11 c12 z13 (n11:Int) 0 i5 i6 s7 i8 i9 a10 n11 c12 z13 U):Wp Q λu=>Dh u.n a1 i2 i3 b4 i5 i6 s7 i8 i9 a10 n11 c12 z13 U:=aH [] w
theorem MS (w:Wp Q λu=>
 cond (decide (i9<i8)) (ao i9 n5<|
 af a4 λb o=>
 ar z7 1<|
 lI 3 U b (o+((i9).toNat*1)) λi=>
 cond b3 (cA u.n 18 [.ptr a1,J i,J i2,.bool true] U λ_ U=>
 uI u.n u.m1 a1 i2 b3 a4 n5 c6 z7 i8 (ah .i64 (i9+1)) i10 i11 s12 i13 i14 a15 n16 c17 z18 U) (cond (i10==13) (cA u.n 18 [.ptr a1,J i,J i2,.bool (i9==1)] U λ_ U=>
 uI u.n u.m1 a1 i2 b3 a4 n5 c6 z7 i8 (ah .i64 (i9+1)) i10 i11 s12 i13 i14 a15 n16 c17 z18 U) (cA u.n 18 [.ptr a1,J i,J i2,.bool false] U λ_ U=>
 uI u.n u.m1 a1 i2 b3 a4 n5 c6 z7 i8 (ah .i64 (i9+1)) i10 i11 s12 i13 i14 a15 n16 c17 z18 U))) (some (.ret (.tuple []),U))):Wp Q λu=>uI u.n u.m1 a1 i2 b3 a4 n5 c6 z7 i8 i9 i10 i11 s12 i13 i14 a15 n16 c17 z18 U:=cK [] w
theorem XC (w:Wp Q λu=>
 let U0:St:=U++[.map []];
 af a1 λb o=>
 aT U0 b (o+6) [.map (some U.length)] λU=>
 cA u.n 37 [] U λv U=>
 gn v λa k c z=>
 AG u.n u.n a1 0 0 a k c z (k:Int) 0 U):F 19 [.ptr a1] U Q:=aJ [] w
theorem MX (w:Wp Q λu=>
 cond (decide (i9<i8)) (ao i9 n5<|
 af a4 λb o=>
 ar z7 5<|
 lG 44 U b (o+((i9).toNat*5)) λc=>
 ui c λi r=>
 ui r λi0 r=>
 ui r λi1 r=>
 ui r λi4 r=>
 us r λs r=>
 aY r<|
 af a1 λb o=>
 lD 56 U b (o+6) λx=>
 cZ ae Lb u.n 38 [.ptr a1,.agg [J i,J i0,J i1,J i4,.str s]] U λv U0=>
 xI v λi=>
 dS [(U,U0,b,some ((o+6),1))]<|
 bY ae 9 U0 (.v x) (.str s) (J i) λU=>
 AG u.n u.m1 a1 i2 i3 a4 n5 c6 z7 i8 (ah .i64 (i9+1)) U) (Ha u.n a1 i2 i3 U)):Wp Q λu=>AG u.n u.m1 a1 i2 i3 a4 n5 c6 z7 i8 i9 U:=cK [[1,1,1]] w
theorem XD (w:Wp Q λu=>
 af a1 λb o=>
 lL 24 U b (o+0) λa k c z=>
 wo u.n u.n a1 i2 i3 a k c z (k:Int) 0 U):Wp Q λu=>Ha u.n a1 i2 i3 U:=aH [] w
theorem MY (w:Wp Q λu=>
 cond (decide (i9<i8)) (ao i9 n5<|
 af a4 λb o=>
 ar z7 6<|
 lG 42 U b (o+((i9).toNat*6)) λc=>
 ui c λi r=>
 ui r λi0 r=>
 us r λs r=>
 ui r λi1 r=>
 ui r λi4 r=>
 ul r λa k c z r=>
 aY r<|
 cC u.n 39 [.agg [J i,J i0,.str s,J i1,J i4,.slice a k c z],J i9] U λc0 U=>
 jv c0 λx r=>
 kQ x λc0=>
 ui c0 λi5 r0=>
 ui r0 λi6 r0=>
 ui r0 λi7 r0=>
 ui r0 λi10 r0=>
 us r0 λs0 r0=>
 aY r0<|
 ub r λb r=>
 aY r<|
 cond (!b) (wo u.n u.m1 a1 i2 i3 a4 n5 c6 z7 i8 (ah .i64 (i9+1)) U) (af a1 λb o=>
 lD 56 U b (o+6) λx=>
 kR x λq0=>
 gF ae 9 3 U q0 (.str s) λx b=>
 xI x λ_=>
 cond b (some (.ret (.tuple [J 9,J i9]),U)) (cond (i==21) (cond (decide (i1<1)) (Hb u.n u.m1 a1 i2 i3 i9 a4 n5 c6 z7 i8 i9 i i0 s i1 i4 a k c z i5 i6 i7 i10 s0 U) (cond (decide (i1>512)) (Hb u.n u.m1 a1 i2 i3 i9 a4 n5 c6 z7 i8 i9 i i0 s i1 i4 a k c z i5 i6 i7 i10 s0 U) (cond (i==22) (Dl u.n u.m1 a1 i2 i3 i9 a4 n5 c6 z7 i8 i9 (decide (i4>6)) i i0 s i1 i4 a k c z i5 i6 i7 i10 s0 U) (Hc u.n u.m1 a1 i2 i3 i9 a4 n5 c6 z7 i8 i9 i i0 s i1 i4 a k c z i5 i6 i7 i10 s0 U)))) (cond (i==22) (Dl u.n u.m1 a1 i2 i3 i9 a4 n5 c6 z7 i8 i9 (decide (i4>6)) i i0 s i1 i4 a k c z i5 i6 i7 i10 s0 U) (Hc u.n u.m1 a1 i2 i3 i9 a4 n5 c6 z7 i8 i9 i i0 s i1 i4 a k c z i5 i6 i7 i10 s0 U))))) (MW u.n i2 i3 U)):Wp Q λu=>wo u.n u.m1 a1 i2 i3 a4 n5 c6 z7 i8 i9 U:=cK [(dg 111101001100111101),(dg 11111)] w
theorem MV (w:Wp Q λu=>
 some (.ret (.tuple [J 15,J i4]),U)):Wp Q λu=>Hb u.n u.m1 a1 i2 i3 i4 a5 n6 c7 z8 i9 i10 i11 i12 s13 i14 i15 a16 n17 c18 z19 i20 i21 i22 i23 s24 U:=aH [] w
theorem XE (w:Wp Q λu=>
 cond b11 (some (.ret (.tuple [J 15,J i4]),U)) (af a1 λb o=>
 lD 56 U b (o+6) λx=>
 cZ ae Lb u.n 38 [.ptr a1,.agg [J i21,J i22,J i23,J i24,.str s25]] U λv U0=>
 xI v λi=>
 dS [(U,U0,b,some ((o+6),1))]<|
 bY ae 9 U0 (.v x) (.str s14) (J i) λU=>
 af a1 λb o=>
 lL 28 U b ((o+1)+1) λa k _ z=>
 af a1 λb o=>
 lD 56 U b (o+6) λx=>
 kR x λq0=>
 gF ae 9 3 U q0 (.str s14) λx _=>
 xI x λi=>
 ao i4 k<|
 af a λb o=>
 ar z 1<|
 aT U b (o+((i4).toNat*1)) [J i] λU=>
 wo u.n u.m1 a1 i2 i3 a5 n6 c7 z8 i9 (ah .i64 (i10+1)) U)):Wp Q λu=>Dl u.n u.m1 a1 i2 i3 i4 a5 n6 c7 z8 i9 i10 b11 i12 i13 s14 i15 i16 a17 n18 c19 z20 i21 i22 i23 i24 s25 U:=aH [] w
theorem Hd (w:Wp Q λu=>
 af a1 λb o=>
 lD 56 U b (o+6) λx=>
 cZ ae Lb u.n 38 [.ptr a1,.agg [J i20,J i21,J i22,J i23,.str s24]] U λv U0=>
 xI v λi=>
 dS [(U,U0,b,some ((o+6),1))]<|
 bY ae 9 U0 (.v x) (.str s13) (J i) λU=>
 af a1 λb o=>
 lL 28 U b ((o+1)+1) λa k _ z=>
 af a1 λb o=>
 lD 56 U b (o+6) λx=>
 kR x λq0=>
 gF ae 9 3 U q0 (.str s13) λx _=>
 xI x λi=>
 ao i4 k<|
 af a λb o=>
 ar z 1<|
 aT U b (o+((i4).toNat*1)) [J i] λU=>
 wo u.n u.m1 a1 i2 i3 a5 n6 c7 z8 i9 (ah .i64 (i10+1)) U):Wp Q λu=>Hc u.n u.m1 a1 i2 i3 i4 a5 n6 c7 z8 i9 i10 i11 i12 s13 i14 i15 a16 n17 c18 z19 i20 i21 i22 i23 s24 U:=aH [] w
theorem XF (w:Wp Q λu=>
 some (.ret (.tuple [J 0,J 0]),U)):Wp Q λu=>MW u.n i1 i2 U:=aH [] w
theorem XX (w:Wp Q λu=>
 let U0:St:=U++[.map []];
 bY ae 3 U0 (.v (.map (some U.length))) (J 1) (.func (.func 40) [] []) λU0=>
 bY ae 3 U0 (.v (.map (some U.length))) (J 2) (.func (.func 41) [] []) λU0=>
 bY ae 3 U0 (.v (.map (some U.length))) (J 3) (.func (.func 42) [] []) λU0=>
 bY ae 3 U0 (.v (.map (some U.length))) (J 4) (.func (.func 43) [] []) λU0=>
 bY ae 3 U0 (.v (.map (some U.length))) (J 5) (.func (.func 44) [] []) λU0=>
 bY ae 3 U0 (.v (.map (some U.length))) (J 6) (.func (.func 45) [] []) λU0=>
 bY ae 3 U0 (.v (.map (some U.length))) (J 7) (.func (.func 46) [] []) λU0=>
 bY ae 3 U0 (.v (.map (some U.length))) (J 11) (.func (.func 47) [] []) λU0=>
 bY ae 3 U0 (.v (.map (some U.length))) (J 12) (.func (.func 48) [] []) λU0=>
 bY ae 3 U0 (.v (.map (some U.length))) (J 13) (.func (.func 48) [] []) λU0=>
 bY ae 3 U0 (.v (.map (some U.length))) (J 14) (.func (.func 48) [] []) λU0=>
 bY ae 3 U0 (.v (.map (some U.length))) (J 15) (.func (.func 49) [] []) λU0=>
 bY ae 3 U0 (.v (.map (some U.length))) (J 16) (.func (.func 49) [] []) λU0=>
 bY ae 3 U0 (.v (.map (some U.length))) (J 18) (.func (.func 50) [] []) λU0=>
 bY ae 3 U0 (.v (.map (some U.length))) (J 23) (.func (.func 51) [] []) λU0=>
 some (.ret (.map (some U.length)),U0)):F 20 [] U Q:=aJ [] w
theorem YL (w:Wp Q λu=>
 let U0:St:=U++[rx 44 [J 5,J 1,J 1,J (-1),.str [112,117,116],J 5,J 1,J 0,J (-1),.str [103,101,116],J 5,J 1,J 1,J (-1),.str [101,120,105,116],J 5,J 1,J 0,J (-1),.str [97,114,103,115],J 5,J 2,J 1,J (-1),.str [97,114,103],J 5,J 1,J 4,J (-1),.str [115,121,115],J 5,J 1,J 1,J (-1),.str [97,100,114]]];
 some (.ret (.slice (sm U.length 0) 7 (some 7) 5),U0)):F 37 [] U Q:=aJ [] w
theorem YM (w:Wp Q λu=>
 af a1 λb o=>
 lL 27 U b ((o+1)+0) λa k _ z=>
 dT U 44 5 48 a k z 1 [J i2,J i3,J i4,J i5,.str s6] λa k c U=>
 af a1 λb o=>
 aT U b ((o+1)+0) [.slice a k c 5] λU=>
 af a1 λb o=>
 lL 27 U b ((o+1)+0) λ_ k _ _=>
 some (.ret (J ((ah .i64 ((k:Int)-1)))),U)):F 38 [.ptr a1,.agg [J i2,J i3,J i4,J i5,.str s6]] U Q:=aJ [] w
theorem YN (w:Wp Q λu=>
 cond (i1==20) (some (.ret (.tuple [.agg [J 1,J 1,J 0,J i10,.str s3],.bool true]),U)) (cond (i1==21) (some (.ret (.tuple [.agg [J 2,J i5,J i4,J i10,.str s3],.bool true]),U)) (cond (i1==22) (some (.ret (.tuple [.agg [J 3,J 1,J i5,J i10,.str s3],.bool true]),U)) (some (.ret (.tuple [.agg [J 0,J 0,J 0,J 0,.str []],.bool false]),U))))):F 39 [.agg [J i1,J i2,.str s3,J i4,J i5,.slice a6 n7 c8 z9],J i10] U Q:=aJ [] w
theorem YO (w:Wp Q λu=>
 af a1 λb o=>
 lL 28 U b ((o+1)+2) λa k _ z=>
 ao i2 k<|
 af a λb o=>
 ar z 1<|
 aT U b (o+((i2).toNat*1)) [J 1] λU=>
 some (.ret (J 0),U)):F 40 [.ptr a1,J i2] U Q:=aJ [] w
theorem YP (w:Wp Q λu=>
 af a1 λb o=>
 lL 28 U b ((o+1)+2) λa k _ z=>
 ao i2 k<|
 af a λb o=>
 ar z 1<|
 aT U b (o+((i2).toNat*1)) [J 2] λU=>
 some (.ret (J 0),U)):F 41 [.ptr a1,J i2] U Q:=aJ [] w
theorem YQ (w:Wp Q λu=>
 cI u.n 83 [.ptr a1,J i2] U λi U=>
 cond (decide (i<0)) (some (.ret (J 16),U)) (af a1 λb o=>
 lL 27 U b ((o+1)+0) λa k _ z=>
 ao i k<|
 af a λb o=>
 ar z 5<|
 lG 44 U b (o+((i).toNat*5)) λc=>
 ui c λi0 r=>
 ui r λi1 r=>
 ui r λ_ r=>
 ui r λ_ r=>
 us r λ_ r=>
 aY r<|
 af a1 λb o=>
 lL 28 U b ((o+1)+1) λa k _ z=>
 af a1 λb o=>
 lL 28 U b ((o+1)+2) λa0 k0 _ z0=>
 ao i2 k<|
 af a λb o=>
 ar z 1<|
 aT U b (o+((i2).toNat*1)) [J i] λU=>
 ao i2 k0<|
 af a0 λb o=>
 ar z0 1<|
 aT U b (o+((i2).toNat*1)) [J i1] λU=>
 cond (i0 !=3) (cI u.n 84 [.bool (i0 !=5)] U λi U=>
 some (.ret (J i),U)) (cI u.n 84 [.bool false] U λi U=>
 some (.ret (J i),U)))):F 42 [.ptr a1,J i2] U Q:=aJ [] w
theorem YR (w:Wp Q λu=>
 cI u.n 83 [.ptr a1,J i2] U λi U=>
 cond (decide (i<0)) (some (.ret (J 16),U)) (af a1 λb o=>
 lL 27 U b ((o+1)+0) λa k _ z=>
 ao i k<|
 af a λb o=>
 ar z 5<|
 lG 44 U b (o+((i).toNat*5)) λc=>
 ui c λi0 r=>
 ui r λi1 r=>
 ui r λi3 r=>
 ui r λi4 r=>
 us r λs r=>
 aY r<|
 af a1 λb o=>
 lL 28 U b ((o+1)+1) λa k _ z=>
 af a1 λb o=>
 lL 28 U b ((o+1)+2) λa0 k0 _ z0=>
 ao i2 k<|
 af a λb o=>
 ar z 1<|
 aT U b (o+((i2).toNat*1)) [J i] λU=>
 ao i2 k0<|
 af a0 λb o=>
 ar z0 1<|
 aT U b (o+((i2).toNat*1)) [J i1] λU=>
 cond (i0 !=3) (cond (i0 !=5) (some (.ret (J 14),U)) (af a1 λb o=>
 lL 24 U b (o+0) λa k _ z=>
 ao i2 k<|
 af a λb o=>
 ar z 6<|
 lL 28 U b ((o+((i2).toNat*6))+5) λ_ k _ _=>
 cond ((k:Int) !=i3) (some (.ret (J 14),U)) (DA u.n a1 i2 0 i0 i1 i3 i4 s U))) (af a1 λb o=>
 lL 24 U b (o+0) λa k _ z=>
 ao i2 k<|
 af a λb o=>
 ar z 6<|
 lL 28 U b ((o+((i2).toNat*6))+5) λ_ k _ _=>
 cond ((k:Int) !=i3) (some (.ret (J 14),U)) (DA u.n a1 i2 0 i0 i1 i3 i4 s U)))):F 43 [.ptr a1,J i2] U Q:=aJ [(dg 1111111)] w
theorem YS (w:Wp Q λu=>
 af a1 λb o=>
 lL 24 U b (o+0) λa k _ z=>
 ao i2 k<|
 af a λb o=>
 ar z 6<|
 lL 28 U b ((o+((i2).toNat*6))+5) λ_ k _ _=>
 ym u.n u.n a1 i2 i3 (k:Int) 0 i4 i5 i6 i7 s8 U):Wp Q λu=>DA u.n a1 i2 i3 i4 i5 i6 i7 s8 U:=aH [] w
theorem NK (w:Wp Q λu=>
 cond (decide (i5<i4)) (cI u.n 85 [.ptr a1,.agg [J i6,J i7,J i8,J i9,.str s10],J i5] U λi U=>
 cond (i !=0) (cI u.n 86 [.ptr a1,J i2,J i5] U λi0 U=>
 cond (i !=i0) (some (.ret (J 14),U)) (ym u.n u.m1 a1 i2 i3 i4 (ah .i64 (i5+1)) i6 i7 i8 i9 s10 U)) (ym u.n u.m1 a1 i2 i3 i4 (ah .i64 (i5+1)) i6 i7 i8 i9 s10 U)) (NJ u.n i3 U)):Wp Q λu=>ym u.n u.m1 a1 i2 i3 i4 i5 i6 i7 i8 i9 s10 U:=cK [(dg 11111111)] w
theorem YT (w:Wp Q λu=>
 some (.ret (J 0),U)):Wp Q λu=>NJ u.n i1 U:=aH [] w
theorem YU (w:Wp Q λu=>
 af a1 λb o=>
 lL 28 U b ((o+1)+2) λa k _ z=>
 ao i2 k<|
 af a λb o=>
 ar z 1<|
 aT U b (o+((i2).toNat*1)) [J 1] λU=>
 cI u.n 86 [.ptr a1,J i2,J 0] U λi U=>
 cB u.n 87 [J i] U λb U=>
 cond b (cI u.n 86 [.ptr a1,J i2,J 1] U λi U=>
 cI u.n 84 [.bool (i==1)] U λi U=>
 some (.ret (J i),U)) (cI u.n 84 [.bool false] U λi U=>
 some (.ret (J i),U))):F 44 [.ptr a1,J i2] U Q:=aJ [] w
theorem YV (w:Wp Q λu=>
 af a1 λb o=>
 lL 28 U b ((o+1)+2) λa k _ z=>
 ao i2 k<|
 af a λb o=>
 ar z 1<|
 aT U b (o+((i2).toNat*1)) [J 1] λU=>
 cI u.n 86 [.ptr a1,J i2,J 0] U λi U=>
 cI u.n 84 [.bool (i==1)] U λi U=>
 some (.ret (J i),U)):F 45 [.ptr a1,J i2] U Q:=aJ [] w
theorem YW (w:Wp Q λu=>
 af a1 λb o=>
 lL 28 U b ((o+1)+2) λa k _ z=>
 ao i2 k<|
 af a λb o=>
 ar z 1<|
 aT U b (o+((i2).toNat*1)) [J 1] λU=>
 cI u.n 86 [.ptr a1,J i2,J 0] U λi U=>
 af a1 λb o=>
 lL 24 U b (o+0) λa k _ z=>
 ao i2 k<|
 af a λb o=>
 ar z 6<|
 lI 2 U b ((o+((i2).toNat*6))+3) λi0=>
 cond (i0==7) (cB u.n 87 [J i] U λb U=>
 NM u.n a1 i2 0 i b U) (NN u.n a1 i2 0 i U)):F 46 [.ptr a1,J i2] U Q:=aJ [(dg 111101)] w
theorem YX (w:Wp Q λu=>
 cond b5 (af a1 λb o=>
 lL 28 U b ((o+1)+2) λa k _ z=>
 ao i2 k<|
 af a λb o=>
 ar z 1<|
 aT U b (o+((i2).toNat*1)) [J i4] λU=>
 A1 u.n a1 i2 i3 1 U) (A1 u.n a1 i2 i3 i4 U)):Wp Q λu=>NM u.n a1 i2 i3 i4 b5 U:=aH [(dg 11111)] w
theorem YY (w:Wp Q λu=>
 A1 u.n a1 i2 i3 i4 U):Wp Q λu=>NN u.n a1 i2 i3 i4 U:=aH [(dg 11111)] w
theorem YZ (w:Wp Q λu=>
 cond (i4==1) (cI u.n 86 [.ptr a1,J i2,J 1] U λi U=>
 cI u.n 84 [.bool (i==1)] U λi U=>
 some (.ret (J i),U)) (cI u.n 84 [.bool false] U λi U=>
 some (.ret (J i),U))):Wp Q λu=>A1 u.n a1 i2 i3 i4 U:=aH [] w
theorem Y0 (w:Wp Q λu=>
 af a1 λb o=>
 lL 24 U b (o+0) λa k _ z=>
 ao i2 k<|
 af a λb o=>
 ar z 6<|
 lL 28 U b ((o+((i2).toNat*6))+5) λa k _ z=>
 ao 0 k<|
 af a λb o=>
 ar z 1<|
 lI 3 U b (o+0) λi=>
 af a1 λb o=>
 lL 24 U b (o+0) λa k _ z=>
 ao i k<|
 af a λb o=>
 ar z 6<|
 lI 3 U b ((o+((i).toNat*6))+0) λi0=>
 cond (i0==3) (af a1 λb o=>
 lL 27 U b ((o+1)+0) λa k _ z=>
 af a1 λb o=>
 lL 28 U b ((o+1)+1) λa0 k0 _ z0=>
 ao i k0<|
 af a0 λb o=>
 ar z0 1<|
 lI 3 U b (o+((i).toNat*1)) λi=>
 ao i k<|
 af a λb o=>
 ar z 5<|
 lI 3 U b ((o+((i).toNat*5))+0) λi=>
 Hm u.n a1 i2 0 (i==2) U) (NO u.n a1 i2 0 U)):F 47 [.ptr a1,J i2] U Q:=aJ [[1,1,1]] w
theorem Y1 (w:Wp Q λu=>
 cond (!b4) (cI u.n 86 [.ptr a1,J i2,J 0] U λi U=>
 cI u.n 86 [.ptr a1,J i2,J 1] U λi0 U=>
 cI u.n 84 [.bool (i==i0)] U λi U=>
 some (.ret (J i),U)) (cI u.n 84 [.bool false] U λi U=>
 some (.ret (J i),U))):Wp Q λu=>Hm u.n a1 i2 i3 b4 U:=aH [] w
theorem Y2 (w:Wp Q λu=>
 cI u.n 86 [.ptr a1,J i2,J 0] U λi U=>
 cI u.n 86 [.ptr a1,J i2,J 1] U λi0 U=>
 cI u.n 84 [.bool (i==i0)] U λi U=>
 some (.ret (J i),U)):Wp Q λu=>NO u.n a1 i2 i3 U:=aH [] w
theorem Y3 (w:Wp Q λu=>
 cI u.n 86 [.ptr a1,J i2,J 0] U λi U=>
 cI u.n 84 [.bool (i==1)] U λi U=>
 some (.ret (J i),U)):F 48 [.ptr a1,J i2] U Q:=aJ [] w
theorem Y4 (w:Wp Q λu=>
 af a1 λb o=>
 lL 38 U b (o+5) λa k _ z=>
 ao i2 k<|
 af a λb o=>
 ar z 1<|
 lB 4 U b (o+((i2).toNat*1)) λb=>
 cond (!b) (some (.ret (J 13),U)) (some (.ret (J 0),U))):F 49 [.ptr a1,J i2] U Q:=aJ [] w
theorem Zc (w:Wp Q λu=>
 af a1 λb o=>
 lL 24 U b (o+0) λa k _ z=>
 ao i2 k<|
 af a λb o=>
 ar z 6<|
 lG 42 U b (o+((i2).toNat*6)) λc=>
 ui c λi r=>
 ui r λi0 r=>
 us r λs r=>
 ui r λi1 r=>
 ui r λi3 r=>
 ul r λa k c z r=>
 aY r<|
 af a1 λb o=>
 lL 28 U b (o+4) λa0 k0 _ z0=>
 ao i2 k0<|
 af a0 λb o=>
 ar z0 1<|
 lI 3 U b (o+((i2).toNat*1)) λi4=>
 af a1 λb o=>
 lD 55 U b (o+7) λx=>
 kR x λq0=>
 gF ae 135 3 U q0 (.agg [.iface 3 (J i4),.iface 9 (.str s)]) λx b=>
 xI x λ_=>
 cond b (some (.ret (J 9),U)) (af a1 λb o=>
 lL 27 U b ((o+1)+0) λa0 k0 c0 z0=>
 uM u.n u.n a1 i2 0 0 a0 k0 c0 z0 (k0:Int) 0 i i0 s i1 i3 a k c z (.iface 3 (J i4)) (.iface 9 (.str s)) U)):F 50 [.ptr a1,J i2] U Q:=aJ [] w
theorem NV (w:Wp Q λu=>
 cond (decide (i10<i9)) (ao i10 n6<|
 af a5 λb o=>
 ar z8 5<|
 lG 44 U b (o+((i10).toNat*5)) λc=>
 ui c λi r=>
 ui r λ_ r=>
 ui r λ_ r=>
 ui r λi0 r=>
 us r λ_ r=>
 aY r<|
 cond (i==4) (af a1 λb o=>
 lL 28 U b (o+4) λa k _ z=>
 ao i0 k<|
 af a λb o=>
 ar z 1<|
 lI 3 U b (o+((i0).toNat*1)) λi=>
 af a1 λb o=>
 lL 28 U b (o+4) λa k _ z=>
 ao i2 k<|
 af a λb o=>
 ar z 1<|
 lI 3 U b (o+((i2).toNat*1)) λi0=>
 cond (i==i0) (uM u.n u.m1 a1 i2 i3 (ah .i64 (i4+1)) a5 n6 c7 z8 i9 (ah .i64 (i10+1)) i11 i12 s13 i14 i15 a16 n17 c18 z19 x20 x21 U) (uM u.n u.m1 a1 i2 i3 i4 a5 n6 c7 z8 i9 (ah .i64 (i10+1)) i11 i12 s13 i14 i15 a16 n17 c18 z19 x20 x21 U)) (uM u.n u.m1 a1 i2 i3 i4 a5 n6 c7 z8 i9 (ah .i64 (i10+1)) i11 i12 s13 i14 i15 a16 n17 c18 z19 x20 x21 U)) (DC u.n a1 i2 i3 i4 i11 i12 s13 i14 i15 a16 n17 c18 z19 x20 x21 U)):Wp Q λu=>uM u.n u.m1 a1 i2 i3 i4 a5 n6 c7 z8 i9 i10 i11 i12 s13 i14 i15 a16 n17 c18 z19 x20 x21 U:=cK [(dg 1111111)] w
theorem Zd (w:Wp Q λu=>
 cond (i4==24) (some (.ret (J 15),U)) (af a1 λb o=>
 lD 55 U b (o+7) λx=>
 cZ ae Lb u.n 38 [.ptr a1,.agg [J 4,J i9,J i4,J i2,.str s7]] U λv U0=>
 xI v λi=>
 dS [(U,U0,b,some ((o+7),1))]<|
 bY ae 135 U0 (.v x) (.agg [x14,x15]) (J i) λU=>
 af a1 λb o=>
 lL 28 U b ((o+1)+1) λa k _ z=>
 af a1 λb o=>
 lD 55 U b (o+7) λx=>
 kR x λq0=>
 gF ae 135 3 U q0 (.agg [x14,x15]) λx _=>
 xI x λi=>
 ao i2 k<|
 af a λb o=>
 ar z 1<|
 aT U b (o+((i2).toNat*1)) [J i] λU=>
 cond ((n11:Int)==0) (cZ ae Lb u.n 84 [.bool true] U λv U=>
 xI v λi=>
 some (.ret (J i),U)) (cZ ae Lb u.n 86 [.ptr a1,J i2,J 0] U λv U=>
 xI v λi=>
 cZ ae Lb u.n 84 [.bool (i==i9)] U λv U=>
 xI v λi=>
 some (.ret (J i),U)))):Wp Q λu=>DC u.n a1 i2 i3 i4 i5 i6 s7 i8 i9 a10 n11 c12 z13 x14 x15 U:=aH [] w
theorem Ze (w:Wp Q λu=>
 af a1 λb o=>
 lD 56 U b (o+6) λx=>
 kR x λq0=>
 gF ae 9 3 U q0 (.str [109,97,105,110]) λx b=>
 xI x λi=>
 cond (!b) (some (.ret (J 16),U)) (af a1 λb o=>
 lL 27 U b ((o+1)+0) λa k _ z=>
 ao i k<|
 af a λb o=>
 ar z 5<|
 lI 3 U b ((o+((i).toNat*5))+0) λi0=>
 cond (i0 !=3) (some (.ret (J 16),U)) (af a1 λb o=>
 lL 27 U b ((o+1)+0) λa k _ z=>
 ao i k<|
 af a λb o=>
 ar z 5<|
 lI 3 U b ((o+((i).toNat*5))+2) λi=>
 cond (i !=0) (some (.ret (J 16),U)) (some (.ret (J 0),U))))):F 51 [.ptr a1,J i2] U Q:=aJ [] w
theorem ZZ (w:Wp Q λu=>
 af a1 λb o=>
 lL 24 U b (o+0) λa k _ z=>
 ao i2 k<|
 af a λb o=>
 ar z 6<|
 lG 42 U b (o+((i2).toNat*6)) λc=>
 ui c λ_ r=>
 ui r λ_ r=>
 us r λs r=>
 ui r λ_ r=>
 ui r λ_ r=>
 ul r λ_ _ _ _ r=>
 aY r<|
 af a1 λb o=>
 lD 55 U b (o+7) λx=>
 af a1 λb o=>
 lL 28 U b (o+4) λa k _ z=>
 ao i2 k<|
 af a λb o=>
 ar z 1<|
 lI 3 U b (o+((i2).toNat*1)) λi=>
 kR x λq0=>
 gF ae 135 3 U q0 (.agg [.iface 3 (J i),.iface 9 (.str s)]) λx b=>
 xI x λi=>
 cond b (some (.ret (J i),U)) (af a1 λb o=>
 lD 56 U b (o+6) λx=>
 kR x λq0=>
 gF ae 9 3 U q0 (.str s) λx b=>
 xI x λi=>
 cond b (some (.ret (J i),U)) (some (.ret (J (-1)),U)))):F 83 [.ptr a1,J i2] U Q:=aJ [] w
theorem Z0 (w:Wp Q λu=>
 cond b1 (some (.ret (J 0),U)) (some (.ret (J 14),U))):F 84 [.bool b1] U Q:=aJ [] w
theorem Z1 (w:Wp Q λu=>
 cond (i2==3) (af a1 λb o=>
 lL 24 U b (o+0) λa k _ z=>
 af a1 λb o=>
 lL 24 U b (o+0) λa0 k0 _ z0=>
 ao i5 k0<|
 af a0 λb o=>
 ar z0 6<|
 lL 28 U b ((o+((i5).toNat*6))+5) λa0 k0 _ z0=>
 ao i7 k0<|
 af a0 λb o=>
 ar z0 1<|
 lI 3 U b (o+((i7).toNat*1)) λi=>
 ao i k<|
 af a λb o=>
 ar z 6<|
 lI 3 U b ((o+((i).toNat*6))+4) λi=>
 some (.ret (J i),U)) (cond (s6==[115,121,115]) (cond (decide (i7>0)) (some (.ret (J 0),U)) (cond (s6==[97,100,114]) (some (.ret (J 0),U)) (some (.ret (J 1),U)))) (cond (s6==[97,100,114]) (some (.ret (J 0),U)) (some (.ret (J 1),U))))):F 85 [.ptr a1,.agg [J i2,J i3,J i4,J i5,.str s6],J i7] U Q:=aJ [] w
theorem Z2 (w:Wp Q λu=>
 af a1 λb o=>
 lL 28 U b ((o+1)+2) λa k _ z=>
 af a1 λb o=>
 lL 24 U b (o+0) λa0 k0 _ z0=>
 ao i2 k0<|
 af a0 λb o=>
 ar z0 6<|
 lL 28 U b ((o+((i2).toNat*6))+5) λa0 k0 _ z0=>
 ao i3 k0<|
 af a0 λb o=>
 ar z0 1<|
 lI 3 U b (o+((i3).toNat*1)) λi=>
 ao i k<|
 af a λb o=>
 ar z 1<|
 lI 3 U b (o+((i).toNat*1)) λi=>
 some (.ret (J i),U)):F 86 [.ptr a1,J i2,J i3] U Q:=aJ [] w
theorem Z3 (w:Wp Q λu=>
 cond (i1==2) (some (.ret (.bool true),U)) (some (.ret (.bool (i1==3)),U))):F 87 [J i1] U Q:=aJ [] w
end
end Go.Proofs
end
section
namespace Go.Proofs
open Go.AM
set_option maxHeartbeats 4000000
set_option maxRecDepth 100000
section
variable (n m0 m1:Nat) (a1:Ad) (b1:Bool) (s1:By) (a2:Ad) (n2:Nat) (c3:On) (n3:Nat) (c4:On) (z4:Nat) (a5:Ad) (z5:Nat) (a6:Ad) (i6:Int) (n6:Nat) (a7:Ad) (c7:On) (i7:Int) (n7:Nat) (a8:Ad) (c8:On) (n8 z8:Nat) (a9:Ad) (c9:On) (n9 z9:Nat) (a10:Ad) (c10:On) (i10:Int) (n10 z10:Nat) (a11:Ad) (c11:On) (i11:Int) (n11 z11:Nat) (a12:Ad) (b12:Bool) (c12:On) (n12 z12:Nat) (a13:Ad) (c13:On) (n13 z13:Nat) (a14:Ad) (c14:On) (n14 z14:Nat) (a15:Ad) (c15:On) (n15 z15:Nat) (a16:Ad) (c16:On) (n16 z16:Nat) (a17:Ad) (c17:On) (n17 z17:Nat) (c18:On) (n18 z18:Nat) (a19:Ad) (c19:On) (z19:Nat) (a20:Ad) (n20 z20:Nat) (a21:Ad) (c21:On) (i21:Int) (n21:Nat) (c22:On) (i22:Int) (n22 z22:Nat) (c23:On) (i23:Int) (z23:Nat) (i24:Int) (s24:By) (z24:Nat) (i25:Int) (s25:By) (i26:Int) (a27:Ad) (i27:Int) (a28:Ad) (n28:Nat) (c29:On) (n29:Nat) (c30:On) (z30 z31:Nat) (U:St)
noncomputable def A4:Out:=q 4 n (dg 111111111010) [m0] (en 206 [(2,.v (.bool false)),(3,.v (.bool b1)),(4,vS a2 n3 c4 z5),(7,.lp 7 0),(10,vS a6 n7 c8 z9),(12,vJ i10)] [(7,[.slice a11 n12 c13 z14,.slice a15 n16 c17 z18,.slice a19 n20 c21 z22])]) U
noncomputable def A3:Out:=q 4 n (dg 111111111010011) [m0] (en 206 [(2,.v (.bool false)),(3,.v (.bool b1)),(4,vS a2 n3 c4 z5),(7,.lp 7 0),(10,vS a6 n7 c8 z9),(12,vJ i10)] [(7,[.slice a11 n12 c13 z14,.slice a15 n16 c17 z18,.slice a19 n20 c21 z22])]) U
noncomputable def DB:Out:=q 4 n (dg 11111111101001001) [m0] (en 206 [(2,.v (.bool false)),(3,.v (.bool b1)),(4,vS a2 n3 c4 z5),(7,.lp 7 0),(10,vS a6 n7 c8 z9),(12,vJ i10)] [(7,[.slice a11 n12 c13 z14,.slice a15 n16 c17 z18,.slice a19 n20 c21 z22])]) U
noncomputable def NP:Out:=q 4 n (dg 1111111111) [] (en 206 [(2,.v (.bool false)),(3,.v (.bool b1)),(7,.lp 7 0),(10,vS a2 n3 c4 z5)] [(7,[.slice a6 n7 c8 z9,.slice a10 n11 c12 z13,.slice a14 n15 c16 z17])]) U
noncomputable def Ho:Out:=q 4 n (dg 11111111101001001101) [m0] (en 206 [(2,.v (.bool false)),(3,.v (.bool b1)),(4,vS a2 n3 c4 z5),(7,.lp 7 0),(10,vS a6 n7 c8 z9),(12,vJ i10),(13,vJ i11),(123,.v (.bool true))] [(7,[.slice a12 n13 c14 z15,.slice a16 n17 c18 z19,.slice a20 n21 c22 z23])]) U
noncomputable def NQ:Out:=q 4 n (dg 11111111101001001101) [m0] (en 206 [(2,.v (.bool false)),(3,.v (.bool b1)),(4,vS a2 n3 c4 z5),(7,.lp 7 0),(10,vS a6 n7 c8 z9),(12,vJ i10),(13,vJ i11),(123,.v (.bool b12))] [(7,[.slice a13 n14 c15 z16,.slice a17 n18 c19 z20,.slice a21 n22 c23 z24])]) U
noncomputable def A5:Out:=q 4 n (dg 1111111111010) [m0] (en 206 [(2,.v (.bool false)),(3,.v (.bool b1)),(7,.lp 7 0),(10,vS a2 n3 c4 z5),(14,vJ i6)] [(7,[.slice a7 n8 c9 z10,.slice a11 n12 c13 z14,.slice a15 n16 c17 z18])]) U
noncomputable def wu:Out:=q 4 n (dg 1111111111010010010) [m0,m1] (en 206 [(2,.v (.bool false)),(3,.v (.bool b1)),(7,.lp 7 0),(10,vS a2 n3 c4 z5),(14,vJ i6),(15,vJ i7)] [(7,[.slice a8 n9 c10 z11,.slice a12 n13 c14 z15,.slice a16 n17 c18 z19])]) U
noncomputable def NR:Out:=q 4 n (dg 11111111111) [] (en 206 [(2,.v (.bool false)),(3,.v (.bool b1))] []) U
noncomputable def Hn:Out:=q 4 n (dg 1111111111010011) [m0] (en 206 [(2,.v (.bool false)),(3,.v (.bool b1)),(7,.lp 7 0),(10,vS a2 n3 c4 z5),(14,vJ i6)] [(7,[.slice a7 n8 c9 z10,.slice a11 n12 c13 z14,.slice a15 n16 c17 z18])]) U
noncomputable def Ax:Out:=q 13 n (dg 11111010) [m0] (en 78 [(0,vS a1 n2 c3 z4),(2,vS a5 n6 c7 z8),(3,vS a9 n10 c11 z12),(4,vS a13 n14 c15 z16),(5,vS a17 n18 c19 z20),(6,vJ i21)] []) U
noncomputable def Db:Out:=q 13 n (dg 11111010010011) [m0] (en 78 [(0,vS a1 n2 c3 z4),(2,vS a5 n6 c7 z8),(3,vS a9 n10 c11 z12),(4,vS a13 n14 c15 z16),(5,vS a17 n18 c19 z20),(6,vJ i21),(7,.lp 7 0)] [(7,[J i22,J i23,.str s24,J i25,J i26,.slice a27 n28 c29 z30])]) U
noncomputable def MD:Out:=q 13 n (dg 111111) [] (en 78 [(2,vS a1 n2 c3 z4),(3,vS a5 n6 c7 z8),(4,vS a9 n10 c11 z12),(5,vS a13 n14 c15 z16)] []) U
noncomputable def uH:Out:=q 13 n (dg 1111101001001110) [m0,m1] (en 78 [(0,vS a1 n2 c3 z4),(2,vS a5 n6 c7 z8),(3,vS a9 n10 c11 z12),(4,vS a13 n14 c15 z16),(5,vS a17 n18 c19 z20),(6,vJ i21),(7,.lp 7 0),(8,vJ i22)] [(7,[J i23,J i24,.str s25,J i26,J i27,.slice a28 n29 c30 z31])]) U
noncomputable def G6:Out:=q 13 n (dg 11111010011) [m0] (en 78 [(0,vS a1 n2 c3 z4),(2,vS a5 n6 c7 z8),(3,vS a9 n10 c11 z12),(4,vS a13 n14 c15 z16),(5,vS a17 n18 c19 z20),(6,vJ i21)] []) U
end
section
set_option autoImplicit true
set_option relaxedAutoImplicit true
variable {n2 n3 z4 z5 n6 n7 n8 z8 n9 z9 n10 z10 n11 z11 n12 z12 n13 z13 n14 z14 n15 z15 n16 z16 n17 z17 n18 z18 z19 n20 z20 n21 n22 z22 z23 z24 n28 n29 z30 z31:Nat} {s1 s24 s25:By}
theorem Y5 (w:Wp Q λu=>
 cB u.n 8 [] U λb U=>
 cC u.n 9 [.str s1] U λc U=>
 ul c λa k c z r=>
 ui r λi r=>
 ui r λ_ r=>
 aY r<|
 cond (i !=0) (some (.ret (.bool b),U)) (cC u.n 10 [.slice a k c z] U λc0 U=>
 jv c0 λx r=>
 kQ x λc0=>
 ul c0 λa0 k0 c0 z0 r0=>
 ul r0 λa1 k1 c1 z1 r0=>
 ul r0 λa2 k2 c2 z2 r0=>
 aY r0<|
 ui r λi r=>
 ui r λ_ r=>
 aY r<|
 cond (i !=0) (cond b (some (.ret (.bool ((k0:Int)==0)),U)) (some (.ret (.bool false),U))) (cond ((k1:Int) !=(k:Int)) (some (.ret (.bool false),U)) (cond ((k2:Int) !=(k:Int)) (some (.ret (.bool false),U)) (cC u.n 13 [.slice a k c z] U λc3 U=>
 ul c3 λa3 k3 c3 z3 r=>
 ul r λ_ _ _ _ r=>
 aY r<|
 A4 u.n u.n b a k c z a3 k3 c3 z3 0 a0 k0 c0 z0 a1 k1 c1 z1 a2 k2 c2 z2 U))))):F 4 [.str s1] U Q:=aJ [] w
theorem NS (w:Wp Q λu=>
 cond (decide (i10<(n3:Int))) (ao i10 n3<|
 af a2 λb o=>
 ar z5 6<|
 lI 3 U b ((o+((i10).toNat*6))+0) λi=>
 cond (i !=3) (ao i10 n3<|
 af a2 λb o=>
 ar z5 6<|
 lI 3 U b ((o+((i10).toNat*6))+0) λi=>
 cond (i !=4) (A3 u.n u.m1 b1 a2 n3 c4 z5 a6 n7 c8 z9 i10 a11 n12 c13 z14 a15 n16 c17 z18 a19 n20 c21 z22 U) (DB u.n u.m1 b1 a2 n3 c4 z5 a6 n7 c8 z9 i10 a11 n12 c13 z14 a15 n16 c17 z18 a19 n20 c21 z22 U)) (DB u.n u.m1 b1 a2 n3 c4 z5 a6 n7 c8 z9 i10 a11 n12 c13 z14 a15 n16 c17 z18 a19 n20 c21 z22 U)) (NP u.n b1 a6 n7 c8 z9 a11 n12 c13 z14 a15 n16 c17 z18 a19 n20 c21 z22 U)):Wp Q λu=>A4 u.n u.m1 b1 a2 n3 c4 z5 a6 n7 c8 z9 i10 a11 n12 c13 z14 a15 n16 c17 z18 a19 n20 c21 z22 U:=cK [(dg 11111111101001001),(dg 111111111010011),(dg 1111111111)] w
theorem Y7 (w:Wp Q λu=>
 A4 u.n u.m1 b1 a2 n3 c4 z5 a6 n7 c8 z9 (ah .i64 (i10+1)) a11 n12 c13 z14 a15 n16 c17 z18 a19 n20 c21 z22 U):Wp Q λu=>A3 u.n u.m1 b1 a2 n3 c4 z5 a6 n7 c8 z9 i10 a11 n12 c13 z14 a15 n16 c17 z18 a19 n20 c21 z22 U:=aH [] w
theorem Y8 (w:Wp Q λu=>
 ao i10 n16<|
 af a15 λb o=>
 ar z18 1<|
 lI 3 U b (o+((i10).toNat*1)) λi=>
 cond (decide (i<0)) (Ho u.n u.m1 b1 a2 n3 c4 z5 a6 n7 c8 z9 i10 i a11 n12 c13 z14 a15 n16 c17 z18 a19 n20 c21 z22 U) (cond (decide (i>=(n12:Int))) (Ho u.n u.m1 b1 a2 n3 c4 z5 a6 n7 c8 z9 i10 i a11 n12 c13 z14 a15 n16 c17 z18 a19 n20 c21 z22 U) (ao i n12<|
 af a11 λb o=>
 ar z14 5<|
 lS 9 U b ((o+((i).toNat*5))+4) λs=>
 ao i10 n3<|
 af a2 λb o=>
 ar z5 6<|
 lS 9 U b ((o+((i10).toNat*6))+2) λs0=>
 cond (!(s==s0)) (Ho u.n u.m1 b1 a2 n3 c4 z5 a6 n7 c8 z9 i10 i a11 n12 c13 z14 a15 n16 c17 z18 a19 n20 c21 z22 U) (ao i10 n20<|
 af a19 λb o=>
 ar z22 1<|
 lI 3 U b (o+((i10).toNat*1)) λi0=>
 ao i n12<|
 af a11 λb o=>
 ar z14 5<|
 lI 3 U b ((o+((i).toNat*5))+1) λi1=>
 NQ u.n u.m1 b1 a2 n3 c4 z5 a6 n7 c8 z9 i10 i (i0 !=i1) a11 n12 c13 z14 a15 n16 c17 z18 a19 n20 c21 z22 U)))):Wp Q λu=>DB u.n u.m1 b1 a2 n3 c4 z5 a6 n7 c8 z9 i10 a11 n12 c13 z14 a15 n16 c17 z18 a19 n20 c21 z22 U:=aH [(dg 11111111101001001101)] w
theorem Y9 (w:Wp Q λu=>
 A5 u.n u.n b1 a2 n3 c4 z5 0 a6 n7 c8 z9 a10 n11 c12 z13 a14 n15 c16 z17 U):Wp Q λu=>NP u.n b1 a2 n3 c4 z5 a6 n7 c8 z9 a10 n11 c12 z13 a14 n15 c16 z17 U:=aH [] w
theorem Za (w:Wp Q λu=>
 cond b12 (some (.ret (.bool false),U)) (ao i11 n14<|
 af a13 λb o=>
 ar z16 5<|
 lI 3 U b ((o+((i11).toNat*5))+0) λi=>
 cond (i==4) (ao i11 n14<|
 af a13 λb o=>
 ar z16 5<|
 lI 3 U b ((o+((i11).toNat*5))+3) λi=>
 cond (decide (i>=i10)) (some (.ret (.bool false),U)) (ao i11 n14<|
 af a13 λb o=>
 ar z16 5<|
 lI 3 U b ((o+((i11).toNat*5))+3) λi=>
 ao i n7<|
 af a6 λb o=>
 ar z9 1<|
 lI 3 U b (o+((i).toNat*1)) λi=>
 ao i10 n7<|
 af a6 λb o=>
 ar z9 1<|
 lI 3 U b (o+((i10).toNat*1)) λi0=>
 cond (i !=i0) (some (.ret (.bool false),U)) (A3 u.n u.m1 b1 a2 n3 c4 z5 a6 n7 c8 z9 i10 a13 n14 c15 z16 a17 n18 c19 z20 a21 n22 c23 z24 U))) (A3 u.n u.m1 b1 a2 n3 c4 z5 a6 n7 c8 z9 i10 a13 n14 c15 z16 a17 n18 c19 z20 a21 n22 c23 z24 U))):Wp Q λu=>NQ u.n u.m1 b1 a2 n3 c4 z5 a6 n7 c8 z9 i10 i11 b12 a13 n14 c15 z16 a17 n18 c19 z20 a21 n22 c23 z24 U:=aH [(dg 111111111010011)] w
theorem NT (w:Wp Q λu=>
 cond (decide (i6<(n8:Int))) (wu u.n u.m1 u.n b1 a2 n3 c4 z5 i6 0 a7 n8 c9 z10 a11 n12 c13 z14 a15 n16 c17 z18 U) (NR u.n b1 U)):Wp Q λu=>A5 u.n u.m1 b1 a2 n3 c4 z5 i6 a7 n8 c9 z10 a11 n12 c13 z14 a15 n16 c17 z18 U:=cK [(dg 11111111111)] w
theorem NU (w:Wp Q λu=>
 cond (decide (i7<i6)) (ao i6 n9<|
 af a8 λb o=>
 ar z11 5<|
 lG 44 U b (o+((i6).toNat*5)) λc=>
 ui c λi r=>
 ui r λ_ r=>
 ui r λ_ r=>
 ui r λi0 r=>
 us r λs r=>
 aY r<|
 ao i7 n9<|
 af a8 λb o=>
 ar z11 5<|
 lG 44 U b (o+((i7).toNat*5)) λc=>
 ui c λi1 r=>
 ui r λ_ r=>
 ui r λ_ r=>
 ui r λi2 r=>
 us r λs0 r=>
 aY r<|
 cond (!(s==s0)) (wu u.n u.m1 u.m2 b1 a2 n3 c4 z5 i6 (ah .i64 (i7+1)) a8 n9 c10 z11 a12 n13 c14 z15 a16 n17 c18 z19 U) (cond (i !=4) (some (.ret (.bool false),U)) (cond (i1==4) (ao i0 n3<|
 af a2 λb o=>
 ar z5 1<|
 lI 3 U b (o+((i0).toNat*1)) λi=>
 ao i2 n3<|
 af a2 λb o=>
 ar z5 1<|
 lI 3 U b (o+((i2).toNat*1)) λi0=>
 cond (i==i0) (some (.ret (.bool false),U)) (wu u.n u.m1 u.m2 b1 a2 n3 c4 z5 i6 (ah .i64 (i7+1)) a8 n9 c10 z11 a12 n13 c14 z15 a16 n17 c18 z19 U)) (wu u.n u.m1 u.m2 b1 a2 n3 c4 z5 i6 (ah .i64 (i7+1)) a8 n9 c10 z11 a12 n13 c14 z15 a16 n17 c18 z19 U)))) (Hn u.n u.m1 b1 a2 n3 c4 z5 i6 a8 n9 c10 z11 a12 n13 c14 z15 a16 n17 c18 z19 U)):Wp Q λu=>wu u.n u.m1 u.m2 b1 a2 n3 c4 z5 i6 i7 a8 n9 c10 z11 a12 n13 c14 z15 a16 n17 c18 z19 U:=yx [(dg 1111111111010011)] w
theorem Zb (w:Wp Q λu=>
 some (.ret (.bool b1),U)):Wp Q λu=>NR u.n b1 U:=aH [] w
theorem Y6 (w:Wp Q λu=>
 A5 u.n u.m1 b1 a2 n3 c4 z5 (ah .i64 (i6+1)) a7 n8 c9 z10 a11 n12 c13 z14 a15 n16 c17 z18 U):Wp Q λu=>Hn u.n u.m1 b1 a2 n3 c4 z5 i6 a7 n8 c9 z10 a11 n12 c13 z14 a15 n16 c17 z18 U:=aH [] w
theorem Z4 (w:Wp Q λu=>
 cC u.n 9 [.str [105,110,116,32,109,97,105,110,40,41,123,112,117,116,40,39,97,39,41,59,125]] U λc U=>
 ul c λa k c z r=>
 ui r λ_ r=>
 ui r λ_ r=>
 aY r<|
 cC u.n 10 [.slice a k c z] U λc U=>
 jv c λx r=>
 kQ x λc=>
 ul c λ_ k _ _ r0=>
 ul r0 λ_ _ _ _ r0=>
 ul r0 λ_ _ _ _ r0=>
 aY r0<|
 ui r λi r=>
 ui r λ_ r=>
 aY r<|
 cC u.n 9 [.str [105,110,116,32,109,97,105,110,40,41,123,120,61,49,59,125]] U λc U=>
 ul c λa k0 c z r=>
 ui r λ_ r=>
 ui r λ_ r=>
 aY r<|
 cC u.n 10 [.slice a k0 c z] U λc U=>
 jv c λx r=>
 kQ x λc=>
 ul c λ_ _ _ _ r0=>
 ul r0 λ_ _ _ _ r0=>
 ul r0 λ_ _ _ _ r0=>
 aY r0<|
 ui r λi0 r=>
 ui r λ_ r=>
 aY r<|
 cC u.n 9 [.str [105,110,116,32,102,40,41,123,125]] U λc U=>
 ul c λa k0 c z r=>
 ui r λ_ r=>
 ui r λ_ r=>
 aY r<|
 cC u.n 10 [.slice a k0 c z] U λc U=>
 jv c λx r=>
 kQ x λc=>
 ul c λ_ _ _ _ r0=>
 ul r0 λ_ _ _ _ r0=>
 ul r0 λ_ _ _ _ r0=>
 aY r0<|
 ui r λi1 r=>
 ui r λi2 r=>
 aY r<|
 cond (i==0) (cond ((k:Int)==8) (cond (i0==16) (cond (i1==16) (some (.ret (.bool (i2==(ah .i64 ((k0:Int)-1)))),U)) (some (.ret (.bool false),U))) (some (.ret (.bool false),U))) (some (.ret (.bool false),U))) (some (.ret (.bool false),U))):F 8 [] U Q:=aJ [] w
theorem WK (w:Wp Q λu=>
 lq ae 3 1 (n2:Int) (n2:Int) U λU0=>
 lq ae 4 1 (n2:Int) (n2:Int) U0 λU1=>
 ao (ah .i64 ((n2:Int)-1)) ((n2:Int)).toNat<|
 aT U1 U.length (0+(((ah .i64 ((n2:Int)-1))).toNat*1)) [J (-1)] λU1=>
 Ax u.n u.n a1 n2 c3 z4 none 0 (some 0) 0 none 0 (some 0) 0 (sm U.length 0) (((n2:Int)).toNat) (some ((n2:Int)).toNat) 1 (sm U0.length 0) (((n2:Int)).toNat) (some ((n2:Int)).toNat) 1 (ah .i64 ((n2:Int)-1)) U1):F 13 [.slice a1 n2 c3 z4] U Q:=aJ [] w
theorem ME (w:Wp Q λu=>
 cond (decide (i21>=0)) (ao i21 n2<|
 af a1 λb o=>
 ar z4 6<|
 lG 42 U b (o+((i21).toNat*6)) λc=>
 ui c λi r=>
 ui r λi0 r=>
 us r λs r=>
 ui r λi1 r=>
 ui r λi2 r=>
 ul r λa k c z r=>
 aY r<|
 cond (i==22) (ao i21 n14<|
 af a13 λb o=>
 ar z16 1<|
 aT U b (o+((i21).toNat*1)) [J i21] λU=>
 Db u.n u.m1 a1 n2 c3 z4 a5 n6 c7 z8 a9 n10 c11 z12 a13 n14 c15 z16 a17 n18 c19 z20 i21 i i0 s i1 i2 a k c z U) (Db u.n u.m1 a1 n2 c3 z4 a5 n6 c7 z8 a9 n10 c11 z12 a13 n14 c15 z16 a17 n18 c19 z20 i21 i i0 s i1 i2 a k c z U)) (MD u.n a5 n6 c7 z8 a9 n10 c11 z12 a13 n14 c15 z16 a17 n18 c19 z20 U)):Wp Q λu=>Ax u.n u.m1 a1 n2 c3 z4 a5 n6 c7 z8 a9 n10 c11 z12 a13 n14 c15 z16 a17 n18 c19 z20 i21 U:=cK [(dg 11111010010011),(dg 111111)] w
theorem WL (w:Wp Q λu=>
 uH u.n u.m1 u.n a1 n2 c3 z4 a5 n6 c7 z8 a9 n10 c11 z12 a13 n14 c15 z16 a17 n18 c19 z20 i21 0 i22 i23 s24 i25 i26 a27 n28 c29 z30 U):Wp Q λu=>Db u.n u.m1 a1 n2 c3 z4 a5 n6 c7 z8 a9 n10 c11 z12 a13 n14 c15 z16 a17 n18 c19 z20 i21 i22 i23 s24 i25 i26 a27 n28 c29 z30 U:=aH [] w
theorem WM (w:Wp Q λu=>
 some (.ret (.tuple [.slice a9 n10 c11 z12,.slice a13 n14 c15 z16]),U)):Wp Q λu=>MD u.n a1 n2 c3 z4 a5 n6 c7 z8 a9 n10 c11 z12 a13 n14 c15 z16 U:=aH [] w
theorem MF (w:Wp Q λu=>
 cond (decide (i22<(n29:Int))) (ao i22 n29<|
 af a28 λb o=>
 ar z31 1<|
 lI 3 U b (o+((i22).toNat*1)) λi=>
 ao i21 n14<|
 af a13 λb o=>
 ar z16 1<|
 lI 3 U b (o+((i21).toNat*1)) λi0=>
 ao i n14<|
 af a13 λb o=>
 ar z16 1<|
 aT U b (o+((i).toNat*1)) [J i0] λU=>
 ao i22 n29<|
 af a28 λb o=>
 ar z31 1<|
 lI 3 U b (o+((i22).toNat*1)) λi=>
 ao i21 n18<|
 af a17 λb o=>
 ar z20 1<|
 lB 4 U b (o+((i21).toNat*1)) λb=>
 cond b (ao i n18<|
 af a17 λb o=>
 ar z20 1<|
 aT U b (o+((i).toNat*1)) [.bool true] λU=>
 uH u.n u.m1 u.m2 a1 n2 c3 z4 a5 n6 c7 z8 a9 n10 c11 z12 a13 n14 c15 z16 a17 n18 c19 z20 i21 (ah .i64 (i22+1)) i23 i24 s25 i26 i27 a28 n29 c30 z31 U) (cond (i23==13) (ao i n18<|
 af a17 λb o=>
 ar z20 1<|
 aT U b (o+((i).toNat*1)) [.bool (i22==1)] λU=>
 uH u.n u.m1 u.m2 a1 n2 c3 z4 a5 n6 c7 z8 a9 n10 c11 z12 a13 n14 c15 z16 a17 n18 c19 z20 i21 (ah .i64 (i22+1)) i23 i24 s25 i26 i27 a28 n29 c30 z31 U) (ao i n18<|
 af a17 λb o=>
 ar z20 1<|
 aT U b (o+((i).toNat*1)) [.bool false] λU=>
 uH u.n u.m1 u.m2 a1 n2 c3 z4 a5 n6 c7 z8 a9 n10 c11 z12 a13 n14 c15 z16 a17 n18 c19 z20 i21 (ah .i64 (i22+1)) i23 i24 s25 i26 i27 a28 n29 c30 z31 U))) (G6 u.n u.m1 a1 n2 c3 z4 a5 n6 c7 z8 a9 n10 c11 z12 a13 n14 c15 z16 a17 n18 c19 z20 i21 U)):Wp Q λu=>uH u.n u.m1 u.m2 a1 n2 c3 z4 a5 n6 c7 z8 a9 n10 c11 z12 a13 n14 c15 z16 a17 n18 c19 z20 i21 i22 i23 i24 s25 i26 i27 a28 n29 c30 z31 U:=yx [(dg 11111010011)] w
theorem WN (w:Wp Q λu=>
 Ax u.n u.m1 a1 n2 c3 z4 a5 n6 c7 z8 a9 n10 c11 z12 a13 n14 c15 z16 a17 n18 c19 z20 (ah .i64 (i21-1)) U):Wp Q λu=>G6 u.n u.m1 a1 n2 c3 z4 a5 n6 c7 z8 a9 n10 c11 z12 a13 n14 c15 z16 a17 n18 c19 z20 i21 U:=aH [] w
end
end Go.Proofs
end
section
set_option maxRecDepth 100000
namespace Go.Front
def aK (s:List UInt8):List UInt8:=s++[if s=[59]\/s=[123]\/s=[125]then 10 else 32]
def pT:List (List UInt8):=[45]::[33]::[126]::ops
def fE (op:Nat):List UInt8:=pT.getD (op-1) []
def cz:List UInt8->List UInt8
 | []=>[]
 |c::r=>(if c=10 then[92,110]else if c=9 then[92,116]else if c=92 then[92,92]else if c=34 then[92,34]else[c])++cz r
def xu (s:List UInt8):List UInt8:=34::cz s++[34]
def jg (is:Bool) (s:List UInt8):List UInt8:=if is then aK [40]++s++aK [41]else s
def nP:List (List UInt8)->List UInt8
 | []=>[]
 |x::r=>x++r.flatMap λy=>aK [44]++y
mutual
def Ex.pr:Ex->List UInt8
 | .num _ n=>aK (iZ n)
 | .text _ s=>aK (xu s)
 | .name _ s=>aK s
 | .call _ s l=>aK s++aK [40]++nP (Ex.fN l)++aK [41]
 | .index x i=>jg x.gD x.pr++aK [91]++i.pr++aK [93]
 | .un _ op x=>aK (fE op)++jg x.kD x.pr
 | .bin op x y=>jg (decide (x.lv<level op)) x.pr++aK (fE op)++jg (decide (y.lv<=level op)) y.pr
def Ex.fN:List Ex->List (List UInt8)
 | []=>[]
 |x::l=>x.pr::Ex.fN l
end
theorem Ex.Jl:∀l:List Ex,Ex.fN l=l.map Ex.pr
 | []=>rfl
 |x::l=>by simp[Ex.fN,Ex.Jl l]
def mU (ty:Int) (s:List UInt8):List UInt8:=
 if ty=1 then aK [105,110,116]++aK s else if ty=3 then aK [105,110,116]++aK [42]++aK s else aK [99,104,97,114]++aK [42]++aK s
mutual
def Sm.pr:Sm->List UInt8
 | .expr _ x=>x.pr++aK [59]
 | .set x y=>x.pr++aK [61]++y.pr++aK [59]
 | .if1 _ c a=>aK [105,102]++aK [40]++c.pr++aK [41]++a.pr
 | .if2 _ c a b=>aK [105,102]++aK [40]++c.pr++aK [41]++a.pr++aK [101,108,115,101]++b.pr
 | .while _ c a=>aK [119,104,105,108,101]++aK [40]++c.pr++aK [41]++a.pr
 | .ret _ x=>aK [114,101,116,117,114,110]++x.pr++aK [59]
 | .brk _=>aK [98,114,101,97,107]++aK [59]
 | .next _=>aK [99,111,110,116,105,110,117,101]++aK [59]
 | .block _ l=>aK [123]++Sm.fN l++aK [125]
 | .var _ s ty=>mU ty s++aK [59]
 | .vari _ s ty x=>mU ty s++aK [61]++x.pr++aK [59]
def Sm.fN:List Sm->List UInt8
 | []=>[]
 |x::l=>x.pr++Sm.fN l
end
mutual
def Ex.dq:Ex->Bool
 | .num _ _=>false
 | .text _ _=>true
 | .name _ _=>false
 | .call _ _ l=>Ex.pj l
 | .index x i=>x.dq||i.dq
 | .un _ _ x=>x.dq
 | .bin _ x y=>x.dq||y.dq
def Ex.pj:List Ex->Bool
 | []=>false
 |x::l=>x.dq||Ex.pj l
end
theorem Ex.Bh:∀{l:List Ex} {x:Ex},x∈l->x.dq=true->Ex.pj l=true
 |y::l,x,h,hx=>by
  cases h with
  |head=>simp[Ex.pj,hx]
  |tail _ h=>simp[Ex.pj,Ex.Bh h hx]
mutual
def Sm.dq:Sm->Bool
 | .expr _ x=>x.dq
 | .set x y=>x.dq||y.dq
 | .if1 _ c a=>c.dq||a.dq
 | .if2 _ c a b=>c.dq||a.dq||b.dq
 | .while _ c a=>c.dq||a.dq
 | .ret _ x=>x.dq
 | .brk _=>false
 | .next _=>false
 | .block _ l=>Sm.pj l
 | .var _ _ _=>false
 | .vari _ _ _ x=>x.dq
def Sm.pj:List Sm->Bool
 | []=>false
 |x::l=>x.dq||Sm.pj l
end
def Dc.dq:Dc->Bool
 | .fn _ _ _ _ l=>Sm.pj l
 |_=>false
def Dc.pr:Dc->List UInt8
 | .var _ s=>aK [105,110,116]++aK s++aK [59]
 | .array _ s ty n=>aK (if ty=2 then[99,104,97,114]else[105,110,116])++aK s++aK [91]++aK (iZ n)++aK [93]++aK [59]
 | .fn _ s ps _ l=>aK [105,110,116]++aK s++aK [40]++nP (ps.map λp=>mU p.2.2 p.2.1)++aK [41]++(aK [123]++Sm.fN l++aK [125])
def eM (l:List Dc):List UInt8:=l.flatMap Dc.pr
end Go.Front
end
section
set_option maxRecDepth 100000
namespace Go.Front
def cN {α:Type} (l:List α) (b:Nat) (s:List α):Prop:=∀j x,s[j]? =some x->l[b+j]? =some x
theorem cN.app {α:Type} {l s1 s2:List α} {b:Nat} (h:cN l b (s1++s2)):cN l b s1/\cN l (b+s1.length) s2:=by
 refine⟨λj x hx=>h j x ?_,λj x hx=>?_⟩
 ·rw[bO (List.getElem?_eq_some_iff.1 hx).1];exact hx
 ·rw[eD];refine h _ x ?_;rw[bQ (by omega),Nat.add_sub_cancel_left];exact hx
theorem cN.one {α:Type} {l:List α} {b:Nat} {x:α} (h:cN l b [x]):l[b]? =some x:=h 0 x rfl
theorem cN.refl {α:Type} (l:List α):cN l 0 l:=λj x hx=>by rw[dI];exact hx
def chain (F:Nat->Nat):Nat->List Nat->Option Nat
 |f,[]=>some f
 |f,k::r=>if k+1=f then chain F (F k) r else none
theorem Lu (F:Nat->Nat):∀(l1 l2:List Nat) (f:Nat),chain F f (l1++l2)=(chain F f l1).bind λf'=>chain F f' l2
 | [],l2,f=>rfl
 |k::l1,l2,f=>by
  simp only[eI,chain];split
  ·exact Lu F l1 l2 _
  ·rfl
theorem Gn {F:Nat->Nat}:∀(l:List Nat) (f r:Nat),chain F f l=some r->(∀k∈l,F k<=k)->l.length+r<=f
 | [],f,r,h,_=>by simp only[chain,dP]at h;simp;omega
 |k::l,f,r,h,hk=>by
  simp only[chain]at h;split at h
  ·have:=Gn l _ _ h λx hx=>hk x (by simp[hx]);have:=hk k (by simp);simp only[cr];omega
  ·cases h
def vF (k:Int):UInt8:=if 1<=k/\k<=7 then 49 else if 10<=k/\k<=18 then 50 else if 20<=k/\k<=22 then 51 else if k=23 then 52 else 48
def vl (t:List Node) (k:Nat):Int:=match t[k]? with|some x=>x.kind|none=>0
def bT (t:List Node) (nd:Node):List UInt8:=nd.kids.map λk=>vF (vl t k)
inductive cQ (t:List Node) (nd:Node):Prop
 |leaf (h:nd.kind=1\/nd.kind=2\/nd.kind=3\/nd.kind=15\/nd.kind=16\/nd.kind=20\/nd.kind=21) (hg:bT t nd=[])
 |index (h:nd.kind=5) (hg:bT t nd=[49,49])
 |un (h:nd.kind=6) (hg:bT t nd=[49]) (hn:1<=nd.n/\nd.n<=3)
 |bin (h:nd.kind=7) (hg:bT t nd=[49,49]) (hn:4<=nd.n/\nd.n<=21)
 |one (h:nd.kind=10\/nd.kind=14) (hg:bT t nd=[49])
 |set (h:nd.kind=11) (hg:bT t nd=[49,49])
 |while (h:nd.kind=13) (hg:bT t nd=[49,50])
 |call (h:nd.kind=4) (hg:∀x∈bT t nd,x=49)
 |cond (h:nd.kind=12) (hg:bT t nd=[49,50]\/bT t nd=[49,50,50])
 |block (h:nd.kind=17) (hg:∀x∈bT t nd,x=50)
 |var (h:nd.kind=18) (hg:bT t nd=[]\/bT t nd=[49])
 |fn (h:nd.kind=22) (hg:∀x∈bT t nd,x=50) (m k:Nat) (hm:nd.m=m) (hl:nd.kids.length=m+1) (hk:nd.kids[m]? =some k) (hb:vl t k=17)
 |all (h:nd.kind=23) (hg:∀x∈bT t nd,x=51)
structure zN (len:Nat) (t:List Node) (F:Nat->Nat) (i:Nat) (nd:Node):Prop where
 at_:t[i]? =some nd
 le:F i<=i
 ch:chain F i nd.kids.reverse=some (F i)
 kids:∀k∈nd.kids,k<i/\∃kd,t[k]? =some kd/\(nd.at_<=kd.at_\/nd.kind=23)
 at0:0<=nd.at_
 lt:nd.at_<len\/nd.kind=23
 ok:cQ t nd
def iY (len:Nat) (t:List Node) (F:Nat->Nat) (b n:Nat):Prop:=∀i,b<=i->i<b+n->∃nd,zN len t F i nd
theorem iY.join {len:Nat} {t:List Node} {F:Nat->Nat} {b n m:Nat} (h:iY len t F b n) (g:iY len t F (b+n) m):iY len t F b (n+m):=λi h1 h2=>by
 by_cases hi:i<b+n
 ·exact h i h1 hi
 ·exact g i (by omega) (by omega)
theorem iY.one {len:Nat} {t:List Node} {F:Nat->Nat} {b:Nat} {nd:Node} (h:zN len t F b nd):iY len t F b 1:=λi h1 h2=>by
 have:i=b:=by omega
 subst this;exact⟨nd,h⟩
theorem iY.nil {len:Nat} {t:List Node} {F:Nat->Nat} {b:Nat}:iY len t F b 0:=λi h1 h2=>by omega
mutual
def Ex.dM (b:Nat):Ex->List Nat
 | .num _ _=>[b]
 | .text _ _=>[b]
 | .name _ _=>[b]
 | .call _ _ l=>Ex.jj b l++[b]
 | .index x i=>Ex.dM b x++Ex.dM (b+x.size) i++[b]
 | .un _ _ x=>Ex.dM b x++[b]
 | .bin _ x y=>Ex.dM b x++Ex.dM (b+x.size) y++[b]
def Ex.jj (b:Nat):List Ex->List Nat
 | []=>[]
 |x::l=>Ex.dM b x++Ex.jj (b+x.size) l
end
mutual
theorem Ex.dB:∀(e:Ex) (b:Nat),(e.dM b).length=e.size
 | .num _ _,b=>rfl
 | .text _ _,b=>rfl
 | .name _ _,b=>rfl
 | .call _ _ l,b=>by simp[Ex.dM,Ex.size,Ex.oA l b]
 | .index x i,b=>by simp[Ex.dM,Ex.size,Ex.dB x b,Ex.dB i (b+x.size)];omega
 | .un _ _ x,b=>by simp[Ex.dM,Ex.size,Ex.dB x b]
 | .bin _ x y,b=>by simp[Ex.dM,Ex.size,Ex.dB x b,Ex.dB y (b+x.size)];omega
theorem Ex.oA:∀(l:List Ex) (b:Nat),(Ex.jj b l).length=Ex.aB l
 | [],b=>rfl
 |x::l,b=>by simp[Ex.jj,Ex.aB,Ex.dB x b,Ex.oA l (b+x.size)]
end
mutual
def Sm.dM (b:Nat):Sm->List Nat
 | .expr _ x=>x.dM b++[b]
 | .set x y=>x.dM b++y.dM (b+x.size)++[b]
 | .if1 _ c a=>c.dM b++Sm.dM (b+c.size) a++[b]
 | .if2 _ c a e=>c.dM b++Sm.dM (b+c.size) a++Sm.dM (b+c.size+a.size) e++[b]
 | .while _ c a=>c.dM b++Sm.dM (b+c.size) a++[b]
 | .ret _ x=>x.dM b++[b]
 | .brk _=>[b]
 | .next _=>[b]
 | .block _ l=>Sm.jj b l++[b]
 | .var _ _ _=>[b]
 | .vari _ _ _ x=>x.dM b++[b]
def Sm.jj (b:Nat):List Sm->List Nat
 | []=>[]
 |x::l=>Sm.dM b x++Sm.jj (b+x.size) l
end
mutual
theorem Sm.dB:∀(e:Sm) (b:Nat),(e.dM b).length=e.size
 | .expr _ x,b=>by simp[Sm.dM,Sm.size,Ex.dB]
 | .set x y,b=>by simp[Sm.dM,Sm.size,Ex.dB];omega
 | .if1 _ c a,b=>by simp[Sm.dM,Sm.size,Ex.dB,Sm.dB a];omega
 | .if2 _ c a e,b=>by simp[Sm.dM,Sm.size,Ex.dB,Sm.dB a,Sm.dB e];omega
 | .while _ c a,b=>by simp[Sm.dM,Sm.size,Ex.dB,Sm.dB a];omega
 | .ret _ x,b=>by simp[Sm.dM,Sm.size,Ex.dB]
 | .brk _,b=>rfl
 | .next _,b=>rfl
 | .block _ l,b=>by simp[Sm.dM,Sm.size,Sm.oA l]
 | .var _ _ _,b=>rfl
 | .vari _ _ _ x,b=>by simp[Sm.dM,Sm.size,Ex.dB]
theorem Sm.oA:∀(l:List Sm) (b:Nat),(Sm.jj b l).length=Sm.aB l
 | [],b=>rfl
 |x::l,b=>by simp[Sm.jj,Sm.aB,Sm.dB x b,Sm.oA l (b+x.size)]
end
def Dc.dM (b:Nat):Dc->List Nat
 | .var _ _=>[b]
 | .array _ _ _ _=>[b]
 | .fn _ _ ps _ l=>fy b ps.length++(Sm.jj (b+ps.length) l++[b+ps.length])++[b]
theorem Dc.dB (e:Dc) (b:Nat):(e.dM b).length=e.size:=by
 cases e<;>simp[Dc.dM,Dc.size,Sm.oA];omega
def Dc.jj (b:Nat):List Dc->List Nat
 | []=>[]
 |x::l=>Dc.dM b x++Dc.jj (b+x.size) l
theorem Dc.oA:∀(l:List Dc) (b:Nat),(Dc.jj b l).length=Dc.aB l
 | [],b=>rfl
 |x::l,b=>by simp[Dc.jj,Dc.aB,Dc.dB x b,Dc.oA l (b+x.size)]
def wc (l:List Dc):List Nat:=Dc.jj 0 l++[0]
section
variable {len:Nat} {t:List Node} {fs:List Nat}
def gb (fs:List Nat) (i:Nat):Nat:=fs[i]?.getD 0
theorem xM {b x:Nat} (h:fs[b]? =some x):gb fs b=x:=by unfold gb;rw[h];rfl
structure Sub (t:List Node) (fs:List Nat) (b n a:Nat) (k:UInt8):Prop where
 pos:0<n
 first:fs[b+n-1]? =some b
 node:∃kd,t[b+n-1]? =some kd/\kd.at_=a/\vF kd.kind=k
theorem Sub.bT {b n a:Nat} {k:UInt8} (h:Sub t fs b n a k):vF (vl t (b+n-1))=k:=by
 obtain⟨kd,h1,_,h2⟩:=h.node;unfold vl;rw[h1];exact h2
theorem Sub.eg {b n a a0 c:Nat} {k:UInt8} (h:Sub t fs b n a k) (ha:a0<=a) (hc:b+n<=c):b+n-1<c/\∃kd,t[b+n-1]? =some kd/\((a0:Int)<=kd.at_\/(False:Prop)):=by
 obtain⟨kd,h1,h2,_⟩:=h.node;exact⟨by have:=h.pos;omega,kd,h1,.inl (by omega)⟩
theorem Sub.ch {b n a:Nat} {k:UInt8} {r:List Nat} (h:Sub t fs b n a k):chain (gb fs) (b+n) ((b+n-1)::r)=chain (gb fs) b r:=by
 simp only[chain];rw[if_pos (by have:=h.pos;omega),xM h.first]
theorem gS {i b a:Nat} {nd:Node} (ht:t[i]? =some nd) (hf:fs[i]? =some b) (hc:chain (gb fs) i nd.kids.reverse=some b) (hk:∀k∈nd.kids,k<i/\∃kd,t[k]? =some kd/\(a:Int)<=kd.at_) (ha:nd.at_=(a:Int)) (hl:a<len) (ok:cQ t nd) (hbi:b<=i:=by omega):
  zN len t (gb fs) i nd:=
 ⟨ht,by rw[xM hf];exact hbi,by rw[hc,xM hf],λk gx=>by obtain⟨h1,kd,h2,h3⟩:=hk k gx;exact⟨h1,kd,h2,.inl (by omega)⟩,by omega,.inl (by omega),ok⟩
theorem Sub.tu {b n a a0 c:Nat} {k:UInt8} (h:Sub t fs b n a k) (ha:a0<=a) (hc:b+n<=c):b+n-1<c/\∃kd,t[b+n-1]? =some kd/\(a0:Int)<=kd.at_:=by
 obtain⟨h1,kd,h2,h3⟩:=h.eg (a0:=a0) ha hc;exact⟨h1,kd,h2,by rcases h3 with h|h;exact h;exact h.elim⟩
structure kV (t:List Node) (fs:List Nat) (b n a:Nat) (k:UInt8) (roots:List Nat):Prop where
 ch:chain (gb fs) (b+n) roots.reverse=some b
 kids:∀x∈roots,x<b+n/\∃kd,t[x]? =some kd/\(a:Int)<=kd.at_
 bT:∀x∈roots,vF (vl t x)=k
theorem kV.nil {b a:Nat} {k:UInt8}:kV t fs b 0 a k []:=⟨rfl,by simp,by simp⟩
theorem kV.cons {b n m a a':Nat} {k:UInt8} {r:List Nat} (h:Sub t fs b n a' k) (ha:a<=a') (g:kV t fs (b+n) m a k r):kV t fs b (n+m) a k ((b+n-1)::r):=by
 refine⟨?_,λx hx=>?_,λx hx=>?_⟩
 ·rw[List.reverse_cons,Lu,<-eD,g.ch];exact h.ch
 ·cases hx with
  |head=>exact h.tu ha (by omega)
  |tail _ hx=>obtain⟨h1,h2⟩:=g.kids x hx;exact⟨by omega,h2⟩
 ·cases hx with
  |head=>exact h.bT
  |tail _ hx=>exact g.bT x hx
theorem kH {b n:Nat} {s:List Node} {nd:Node} (h:cN t b (s++[nd])) (hs:s.length=n):t[b+n]? =some nd:=by
 subst hs;exact h.app.2.one
theorem mX {b n:Nat} {s:List Nat} {x:Nat} (h:cN fs b (s++[x])) (hs:s.length=n):fs[b+n]? =some x:=by
 subst hs;exact h.app.2.one
mutual
theorem Ex.fK:∀(e:Ex) (b:Nat),e.aL len->cN t b (e.flat b)->cN fs b (e.dM b)->iY len t (gb fs) b e.size/\Sub t fs b e.size e.at_ 49
 | .num a n,b,hg,ht,hf=>by
  have h1:=ht.one;have h2:=hf.one;exact⟨.one (gS h1 h2 rfl (by simp) rfl hg.1 (.leaf (by simp) rfl)),⟨um,h2,_,h1,rfl,rfl⟩⟩
 | .text a n,b,hg,ht,hf=>by
  have h1:=ht.one;have h2:=hf.one;exact⟨.one (gS h1 h2 rfl (by simp) rfl hg.1 (.leaf (by simp) rfl)),⟨um,h2,_,h1,rfl,rfl⟩⟩
 | .name a n,b,hg,ht,hf=>by
  have h1:=ht.one;have h2:=hf.one;exact⟨.one (gS h1 h2 rfl (by simp) rfl hg.1 (.leaf (by simp) rfl)),⟨um,h2,_,h1,rfl,rfl⟩⟩
 | .call a s l,b,hg,ht,hf=>by
  obtain⟨f1,s1⟩:=Ex.sK l b a hg.2.2 ht.app.1 hf.app.1;have h1:=kH ht (Ex.fk l b);have h2:=mX hf (Ex.oA l b);refine⟨f1.join (.one (gS h1 h2 s1.ch s1.kids rfl hg.1 (.call rfl λx hx=>?_))),⟨oc _,h2,_,h1,rfl,rfl⟩⟩;obtain⟨k,hk,rfl⟩:=nZ.1 hx;exact s1.bT k hk
 | .index x i,b,hg,ht,hf=>by
  obtain⟨f1,s1⟩:=Ex.fK x b hg.1 ht.app.1.app.1 hf.app.1.app.1;obtain⟨f2,s2⟩:=Ex.fK i (b+x.size) hg.2.1 (by have:=ht.app.1.app.2;rwa [Ex.bI]at this) (by have:=hf.app.1.app.2;rwa [Ex.dB]at this);have h1:=kH ht (n:=x.size+i.size) (by simp[Ex.bI]);have h2:=mX hf (n:=x.size+i.size) (by simp[Ex.dB]);have ss:=(kV.nil (k:=49) (a:=x.at_)).cons s2 hg.2.2|>.cons s1 (aA _);exact⟨(f1.join f2).join (.one (gS h1 h2 ss.ch ss.kids rfl (Ex.yz hg.1) (.index rfl (by simp only[bT,dO,lA];rw[ss.bT _ (by simp),ss.bT _ (by simp)])))),⟨oc _,h2,_,h1,rfl,rfl⟩⟩
 | .un a op x,b,hg,ht,hf=>by
  obtain⟨f1,s1⟩:=Ex.fK x b hg.2.1 ht.app.1 hf.app.1;have h1:=kH ht (Ex.bI x b);have h2:=mX hf (Ex.dB x b);have ss:=(kV.nil (k:=49) (a:=a)).cons s1 hg.2.2.1;exact⟨f1.join (.one (gS h1 h2 ss.ch ss.kids rfl hg.1 (.un rfl (by simp only[bT,dO,lA];rw[ss.bT _ (by simp)]) (by have:=hg.2.2.2;simp only;omega)))),⟨oc _,h2,_,h1,rfl,rfl⟩⟩
 | .bin op x i,b,hg,ht,hf=>by
  obtain⟨f1,s1⟩:=Ex.fK x b hg.1 ht.app.1.app.1 hf.app.1.app.1;obtain⟨f2,s2⟩:=Ex.fK i (b+x.size) hg.2.1 (by have:=ht.app.1.app.2;rwa [Ex.bI]at this) (by have:=hf.app.1.app.2;rwa [Ex.dB]at this);have h1:=kH ht (n:=x.size+i.size) (by simp[Ex.bI]);have h2:=mX hf (n:=x.size+i.size) (by simp[Ex.dB]);have ss:=(kV.nil (k:=49) (a:=x.at_)).cons s2 hg.2.2.1|>.cons s1 (aA _);exact⟨(f1.join f2).join (.one (gS h1 h2 ss.ch ss.kids rfl (Ex.yz hg.1) (.bin rfl (by simp only[bT,dO,lA];rw[ss.bT _ (by simp),ss.bT _ (by simp)]) (by have:=hg.2.2.2;simp only;omega)))),⟨oc _,h2,_,h1,rfl,rfl⟩⟩
theorem Ex.sK:∀(l:List Ex) (b a:Nat),Ex.fm len a l->cN t b (Ex.cR b l)->cN fs b (Ex.jj b l)->iY len t (gb fs) b (Ex.aB l)/\kV t fs b (Ex.aB l) a 49 (Ex.roots b l)
 | [],b,a,_,_,_=>⟨.nil,.nil⟩
 |x::l,b,a,hg,ht,hf=>by
  obtain⟨f1,s1⟩:=Ex.fK x b hg.1 ht.app.1 hf.app.1;obtain⟨f2,s2⟩:=Ex.sK l (b+x.size) a hg.2.2 (by have:=ht.app.2;rwa [Ex.bI]at this) (by have:=hf.app.2;rwa [Ex.dB]at this);exact⟨f1.join f2,s2.cons s1 hg.2.1⟩
end
mutual
theorem Sm.fK:∀(e:Sm) (b:Nat),e.aL len->cN t b (e.flat b)->cN fs b (e.dM b)->iY len t (gb fs) b e.size/\Sub t fs b e.size e.at_ 50
 | .expr a x,b,hg,ht,hf=>by
  obtain⟨f1,s1⟩:=Ex.fK x b hg.2.1 ht.app.1 hf.app.1;have h1:=kH ht (Ex.bI x b);have h2:=mX hf (Ex.dB x b);have ss:=(kV.nil (k:=49) (a:=a)).cons s1 hg.2.2;exact⟨f1.join (.one (gS h1 h2 ss.ch ss.kids rfl hg.1 (.one (.inl rfl) (by simp only[bT,dO,lA];rw[ss.bT _ (by simp)])))),⟨oc _,h2,_,h1,rfl,rfl⟩⟩
 | .set x i,b,hg,ht,hf=>by
  obtain⟨f1,s1⟩:=Ex.fK x b hg.1 ht.app.1.app.1 hf.app.1.app.1;obtain⟨f2,s2⟩:=Ex.fK i (b+x.size) hg.2.1 (by have:=ht.app.1.app.2;rwa [Ex.bI]at this) (by have:=hf.app.1.app.2;rwa [Ex.dB]at this);have h1:=kH ht (n:=x.size+i.size) (by simp[Ex.bI]);have h2:=mX hf (n:=x.size+i.size) (by simp[Ex.dB]);have ss:=(kV.nil (k:=49) (a:=x.at_)).cons s2 hg.2.2.1|>.cons s1 (aA _);exact⟨(f1.join f2).join (.one (gS h1 h2 ss.ch ss.kids rfl (Ex.yz hg.1) (.set rfl (by simp only[bT,dO,lA];rw[ss.bT _ (by simp),ss.bT _ (by simp)])))),⟨oc _,h2,_,h1,rfl,rfl⟩⟩
 | .if1 tt c a,b,hg,ht,hf=>by
  obtain⟨g1,g2,g3,g4,g5⟩:=hg;obtain⟨f1,s1⟩:=Ex.fK c b g2 ht.app.1.app.1 hf.app.1.app.1;obtain⟨f2,s2⟩:=Sm.fK a (b+c.size) g4 (by have:=ht.app.1.app.2;rwa [Ex.bI]at this) (by have:=hf.app.1.app.2;rwa [Ex.dB]at this);have h1:=kH ht (n:=c.size+a.size) (by simp[Ex.bI,Sm.bI]);have h2:=mX hf (n:=c.size+a.size) (by simp[Ex.dB,Sm.dB]);have sa:=(kV.nil (k:=50) (a:=tt)).cons s2 g5;have wH:chain (gb fs) (b+(c.size+a.size)) [b+c.size+a.size-1,b+c.size-1]=some b:=by
   rw[<-eD,s2.ch,s1.ch];rfl
  have hk:∀k∈[b+c.size-1,b+c.size+a.size-1],k<b+(c.size+a.size)/\∃kd,t[k]? =some kd/\(tt:Int)<=kd.at_:=by
   intro k hk;simp only[bS,ec,or_false]at hk;rcases hk with rfl|rfl
   ·exact s1.tu g3 (by omega)
   ·exact s2.tu g5 (by omega)
  exact⟨(f1.join f2).join (.one (gS h1 h2 wH hk rfl g1 (.cond rfl (.inl (by simp only[bT,dO,lA];rw[s1.bT,s2.bT]))))),⟨oc _,h2,_,h1,rfl,rfl⟩⟩
 | .if2 tt c a e,b,hg,ht,hf=>by
  obtain⟨g1,g2,g3,g4,g5,g6,g7,g8⟩:=hg;obtain⟨f1,s1⟩:=Ex.fK c b g2 ht.app.1.app.1.app.1 hf.app.1.app.1.app.1;obtain⟨f2,s2⟩:=Sm.fK a (b+c.size) g4 (by have:=ht.app.1.app.1.app.2;rwa [Ex.bI]at this) (by have:=hf.app.1.app.1.app.2;rwa [Ex.dB]at this);obtain⟨f3,s3⟩:=Sm.fK e (b+c.size+a.size) g6 (by have:=ht.app.1.app.2;rwa [az,Ex.bI,Sm.bI,<-eD]at this) (by have:=hf.app.1.app.2;rwa [az,Ex.dB,Sm.dB,<-eD]at this);have h1:=kH ht (n:=c.size+a.size+e.size) (by simp[Ex.bI,Sm.bI];omega);have h2:=mX hf (n:=c.size+a.size+e.size) (by simp[Ex.dB,Sm.dB];omega);have wH:chain (gb fs) (b+(c.size+a.size+e.size)) [b+c.size+a.size+e.size-1,b+c.size+a.size-1,b+c.size-1]=some b:=by
   rw[<-eD,<-eD,s3.ch,s2.ch,s1.ch];rfl
  have hk:∀k∈[b+c.size-1,b+c.size+a.size-1,b+c.size+a.size+e.size-1],k<b+(c.size+a.size+e.size)/\∃kd,t[k]? =some kd/\(tt:Int)<=kd.at_:=by
   intro k hk;simp only[bS,ec,or_false]at hk;rcases hk with rfl|rfl|rfl
   ·exact s1.tu g3 (by omega)
   ·exact s2.tu g5 (by omega)
   ·exact s3.tu g7 (by omega)
  have Yv:iY len t (gb fs) (b+(c.size+a.size)) e.size:=by rw[<-eD];exact f3
  exact⟨((f1.join f2).join Yv).join (.one (gS h1 h2 wH hk rfl g1 (.cond rfl (.inr (by simp only[bT,dO,lA];rw[s1.bT,s2.bT,s3.bT]))))),⟨oc _,h2,_,h1,rfl,rfl⟩⟩
 | .while tt c a,b,hg,ht,hf=>by
  obtain⟨g1,g2,g3,g4,g5⟩:=hg;obtain⟨f1,s1⟩:=Ex.fK c b g2 ht.app.1.app.1 hf.app.1.app.1;obtain⟨f2,s2⟩:=Sm.fK a (b+c.size) g4 (by have:=ht.app.1.app.2;rwa [Ex.bI]at this) (by have:=hf.app.1.app.2;rwa [Ex.dB]at this);have h1:=kH ht (n:=c.size+a.size) (by simp[Ex.bI,Sm.bI]);have h2:=mX hf (n:=c.size+a.size) (by simp[Ex.dB,Sm.dB]);have wH:chain (gb fs) (b+(c.size+a.size)) [b+c.size+a.size-1,b+c.size-1]=some b:=by
   rw[<-eD,s2.ch,s1.ch];rfl
  have hk:∀k∈[b+c.size-1,b+c.size+a.size-1],k<b+(c.size+a.size)/\∃kd,t[k]? =some kd/\(tt:Int)<=kd.at_:=by
   intro k hk;simp only[bS,ec,or_false]at hk;rcases hk with rfl|rfl
   ·exact s1.tu g3 (by omega)
   ·exact s2.tu g5 (by omega)
  exact⟨(f1.join f2).join (.one (gS h1 h2 wH hk rfl g1 (.while rfl (by simp only[bT,dO,lA];rw[s1.bT,s2.bT])))),⟨oc _,h2,_,h1,rfl,rfl⟩⟩
 | .ret a x,b,hg,ht,hf=>by
  obtain⟨f1,s1⟩:=Ex.fK x b hg.2.1 ht.app.1 hf.app.1;have h1:=kH ht (Ex.bI x b);have h2:=mX hf (Ex.dB x b);have ss:=(kV.nil (k:=49) (a:=a)).cons s1 hg.2.2;exact⟨f1.join (.one (gS h1 h2 ss.ch ss.kids rfl hg.1 (.one (.inr rfl) (by simp only[bT,dO,lA];rw[ss.bT _ (by simp)])))),⟨oc _,h2,_,h1,rfl,rfl⟩⟩
 | .brk a,b,hg,ht,hf=>by
  have h1:=ht.one;have h2:=hf.one;exact⟨.one (gS h1 h2 rfl (by simp) rfl hg (.leaf (by simp) rfl)),⟨um,h2,_,h1,rfl,rfl⟩⟩
 | .next a,b,hg,ht,hf=>by
  have h1:=ht.one;have h2:=hf.one;exact⟨.one (gS h1 h2 rfl (by simp) rfl hg (.leaf (by simp) rfl)),⟨um,h2,_,h1,rfl,rfl⟩⟩
 | .block a l,b,hg,ht,hf=>by
  obtain⟨f1,s1⟩:=Sm.sK l b a hg.2 ht.app.1 hf.app.1;have h1:=kH ht (Sm.fk l b);have h2:=mX hf (Sm.oA l b);refine⟨f1.join (.one (gS h1 h2 s1.ch s1.kids rfl hg.1 (.block rfl λx hx=>?_))),⟨oc _,h2,_,h1,rfl,rfl⟩⟩;obtain⟨k,hk,rfl⟩:=nZ.1 hx;exact s1.bT k hk
 | .var a s ty,b,hg,ht,hf=>by
  have h1:=ht.one;have h2:=hf.one;exact⟨.one (gS h1 h2 rfl (by simp) rfl hg.1 (.var rfl (.inl rfl))),⟨um,h2,_,h1,rfl,rfl⟩⟩
 | .vari a s ty x,b,hg,ht,hf=>by
  obtain⟨f1,s1⟩:=Ex.fK x b hg.2.2.2.1 ht.app.1 hf.app.1;have h1:=kH ht (Ex.bI x b);have h2:=mX hf (Ex.dB x b);have ss:=(kV.nil (k:=49) (a:=a)).cons s1 hg.2.2.2.2;exact⟨f1.join (.one (gS h1 h2 ss.ch ss.kids rfl hg.1 (.var rfl (.inr (by simp only[bT,dO,lA];rw[ss.bT _ (by simp)]))))),⟨oc _,h2,_,h1,rfl,rfl⟩⟩
theorem Sm.sK:∀(l:List Sm) (b a:Nat),Sm.fm len a l->cN t b (Sm.cR b l)->cN fs b (Sm.jj b l)->iY len t (gb fs) b (Sm.aB l)/\kV t fs b (Sm.aB l) a 50 (Sm.roots b l)
 | [],b,a,_,_,_=>⟨.nil,.nil⟩
 |x::l,b,a,hg,ht,hf=>by
  obtain⟨f1,s1⟩:=Sm.fK x b hg.1 ht.app.1 hf.app.1;obtain⟨f2,s2⟩:=Sm.sK l (b+x.size) a hg.2.2 (by have:=ht.app.2;rwa [Sm.bI]at this) (by have:=hf.app.2;rwa [Sm.dB]at this);exact⟨f1.join f2,s2.cons s1 hg.2.1⟩
end
theorem Rw {a:Nat}:∀(ps:List nh) (b:Nat),(∀x∈ps,a<=x.1/\x.1<len/\gT x.2.1/\pW x.2.2)->cN t b (ps.map mf)->cN fs b (fy b ps.length)->iY len t (gb fs) b ps.length/\kV t fs b ps.length a 50 (fy b ps.length)
 | [],b,_,_,_=>⟨.nil,.nil⟩
 |x::ps,b,hg,ht,hf=>by
  have e:fy b (x::ps).length=[b]++fy (b+1) ps.length:=by rw[cr,List.range'_succ];rfl
  rw[e]at hf;have yR:cN t b ([mf x]++ps.map mf):=ht;obtain⟨ha,hl,_⟩:=hg x (by simp);have h1:=yR.app.1.one;have h2:=hf.app.1.one;have s1:Sub t fs b 1 x.1 50:=⟨um,h2,_,h1,rfl,rfl⟩
  obtain⟨f2,s2⟩:=Rw ps (b+1) (λy hy=>hg y (by simp[hy])) yR.app.2 hf.app.2;have:=s2.cons s1 ha;rw[uj 1]at this;refine⟨?_,by rw[e];exact this⟩;have hj:=(iY.one (gS h1 h2 rfl (by simp[mf]) rfl hl (.var rfl (.inl rfl)))).join f2;rw[uj 1]at hj;exact hj
theorem Dc.fK (e:Dc) (b:Nat) (hg:e.aL len) (ht:cN t b (e.flat b)) (hf:cN fs b (e.dM b)):iY len t (gb fs) b e.size/\Sub t fs b e.size e.at_ 51:=by
 cases e with
 |var a s=>
  have h1:=ht.one;have h2:=hf.one;exact⟨.one (gS h1 h2 rfl (by simp) rfl hg.1 (.leaf (by simp) rfl)),⟨um,h2,_,h1,rfl,rfl⟩⟩
 |array a s ty n=>
  have h1:=ht.one;have h2:=hf.one;exact⟨.one (gS h1 h2 rfl (by simp) rfl hg.1 (.leaf (by simp) rfl)),⟨um,h2,_,h1,rfl,rfl⟩⟩
 |fn a s ps bat l=>
  obtain⟨g1,g2,g3,g4,g5,g6,g7⟩:=hg;obtain⟨f1,s1⟩:=Rw (a:=a) ps b g3 ht.app.1.app.1 hf.app.1.app.1;have P6:cN t (b+ps.length) (Sm.cR (b+ps.length) l++[⟨17,bat,[],0,0,Sm.roots (b+ps.length) l⟩]):=by have:=ht.app.1.app.2;rwa [lz]at this
  have Pq:cN fs (b+ps.length) (Sm.jj (b+ps.length) l++[b+ps.length]):=by have:=hf.app.1.app.2;rwa [List.length_range']at this
  obtain⟨f2,s2⟩:=Sm.sK l (b+ps.length) bat g6 P6.app.1 Pq.app.1;have lX:=kH P6 (Sm.fk l _);have bR:=mX Pq (Sm.oA l _);have fb:=f2.join (.one (gS lX bR s2.ch s2.kids rfl g5 (.block rfl λx hx=>by obtain⟨k,hk,rfl⟩:=nZ.1 hx;exact s2.bT k hk)));have sb:Sub t fs (b+ps.length) (Sm.aB l+1) bat 50:=⟨oc _,bR,_,lX,rfl,rfl⟩
  have h1:=kH ht (n:=ps.length+(Sm.aB l+1)) (by simp[Sm.fk]);have h2:=mX hf (n:=ps.length+(Sm.aB l+1)) (by simp[Sm.oA]);have wH:chain (gb fs) (b+(ps.length+(Sm.aB l+1))) (fy b ps.length++[b+ps.length+Sm.aB l]).reverse=some b:=by
   rw[List.reverse_append,List.reverse_singleton,uf];have:=sb.ch (r:=(fy b ps.length).reverse);rw[show b+ps.length+(Sm.aB l+1)-1=b+ps.length+Sm.aB l from by omega]at this;rw[<-eD,this];exact s1.ch
  have l8:=sb.tu (a0:=a) g4 (aA _);rw[show b+ps.length+(Sm.aB l+1)-1=b+ps.length+Sm.aB l from by omega]at l8;have hk:∀k∈fy b ps.length++[b+ps.length+Sm.aB l],k<b+(ps.length+(Sm.aB l+1))/\∃kd,t[k]? =some kd/\(a:Int)<=kd.at_:=by
   intro k hk;rcases cX.1 hk with hk|hk
   ·obtain⟨q1,q2⟩:=s1.kids k hk;exact⟨by omega,q2⟩
   ·simp only[oZ]at hk;subst hk;exact⟨by omega,l8.2⟩
  have Pu:=sb.bT;rw[show b+ps.length+(Sm.aB l+1)-1=b+ps.length+Sm.aB l from by omega]at Pu;have pz:=gS h1 h2 wH hk rfl g1 (.fn rfl (λx hx=>by
    obtain⟨k,hk,rfl⟩:=nZ.1 hx;rcases cX.1 hk with hk|hk
    ·exact s1.bT k hk
    ·simp only[oZ]at hk;subst hk;exact Pu) ps.length (b+ps.length+Sm.aB l) rfl (by simp) (by simp) (by unfold vl;rw[show b+ps.length+Sm.aB l=b+ps.length+Sm.aB l from rfl,lX]))
  have e:b+Dc.size (.fn a s ps bat l)-1=b+(ps.length+(Sm.aB l+1)):=by simp only[Dc.size];omega
  have e2:Dc.size (.fn a s ps bat l)=ps.length+(Sm.aB l+1)+1:=by simp only[Dc.size];omega
  have hj:=(f1.join fb).join (.one pz);rw[<-e2]at hj;rw[<-e]at h1 h2;exact⟨hj,⟨oc _,h2,_,h1,rfl,rfl⟩⟩
theorem Dc.sK:∀(l:List Dc) (b:Nat),(∀x∈l,x.aL len)->cN t b (Dc.cR b l)->cN fs b (Dc.jj b l)->iY len t (gb fs) b (Dc.aB l)/\kV t fs b (Dc.aB l) 0 51 (Dc.roots b l)
 | [],b,_,_,_=>⟨.nil,.nil⟩
 |x::l,b,hg,ht,hf=>by
  obtain⟨f1,s1⟩:=Dc.fK x b (hg x (by simp)) ht.app.1 hf.app.1;obtain⟨f2,s2⟩:=Dc.sK l (b+x.size) (λy hy=>hg y (by simp[hy])) (by have:=ht.app.2;rwa [Dc.bI]at this) (by have:=hf.app.2;rwa [Dc.dB]at this);exact⟨f1.join f2,s2.cons s1 (j9 _)⟩
end
theorem KA {len:Nat} (l:List Dc) (hg:∀x∈l,x.aL len):iY len (bJ l) (gb (wc l)) 0 (bJ l).length/\gb (wc l) ((bJ l).length-1)=0/\(∃nd,(bJ l)[(bJ l).length-1]? =some nd/\nd.kind=23):=by
 have ht:cN (bJ l) 0 (Dc.cR 0 l++[⟨23,0,[],0,0,Dc.roots 0 l⟩]):=cN.refl _;have hf:cN (wc l) 0 (Dc.jj 0 l++[0]):=cN.refl _;obtain⟨f1,s1⟩:=Dc.sK l 0 hg ht.app.1 hf.app.1;have h1:=kH ht (Dc.fk l 0);have h2:=mX hf (Dc.oA l 0);have hl:(bJ l).length=Dc.aB l+1:=by simp[bJ,Dc.fk]
 rw[hl];refine⟨f1.join (.one ⟨h1,by rw[xM h2];exact j9 _,by rw[xM h2];exact s1.ch,λk hk=>?_,by simp,.inr rfl,.all rfl λx hx=>?_⟩),?_,?_⟩
 ·obtain⟨q1,kd,q2,_⟩:=s1.kids k hk;exact⟨q1,kd,q2,.inr rfl⟩
 ·obtain⟨k,hk,rfl⟩:=nZ.1 hx;exact s1.bT k hk
 ·rw[Nat.add_sub_cancel];rw[dI]at h2;exact xM h2
 ·rw[Nat.add_sub_cancel];rw[dI]at h1;exact⟨_,h1,rfl⟩
end Go.Front
end
section
set_option maxRecDepth 100000
namespace Go.Front
structure FV (t:Tok):Prop where
 name:t.kind=1->gT t.text
 num:t.kind=3->0<=t.n/\t.n<9223372036854775808
 text:t.kind=4->FK t.text
structure og (S:hJ) (len:Nat) where
 val:S.Pos->Prop
 lo:S.Pos->Nat
 left:S.Pos->Nat
 ok:∀q t q',val q->S.eP q=.inr (t,q')->FV t/\lo q<=t.at_/\t.at_<=len/\(t.kind≠0->t.at_<lo q'/\t.at_<len/\left q'<left q)/\val q'
 bad:∀q f,val q->S.eP q=.inl f->f<=len
section
variable {S:hJ} {len:Nat} {K:og S len} {α β γ:Type} {st ak aX dw:PS S}
structure Inv (K:og S len) (st:PS S):Prop where
 tok:FV st.tok
 at_:st.tok.at_<=len
 lo:st.tok.kind≠0->st.tok.at_<K.lo st.pos/\st.tok.at_<len
 deep:st.deep<=40
 nodes:st.nodes.length<=4096
 val:K.val st.pos
def R (K:og S len) (st:PS S):Nat:=if st.tok.kind=0 then 0 else K.left st.pos+1
structure Mv (K:og S len) (st st':PS S) (l:List Node) (k:Nat):Prop where
 inv:Inv K st'
 deep:st'.deep=st.deep
 less:R K st'+k<=R K st
 at_:st.tok.at_+k<=st'.tok.at_
 nodes:st'.nodes=st.nodes++l
theorem Mv.refl (h:Inv K st):Mv K st st [] 0:=⟨h,rfl,aA _,aA _,by simp⟩
theorem Mv.trans {l1 l2:List Node} {k1 k2:Nat} (h:Mv K st ak l1 k1) (g:Mv K ak aX l2 k2):Mv K st aX (l1++l2) (k1+k2):=
 ⟨g.inv,g.deep.trans h.deep,by have:=h.less;have:=g.less;omega,by have:=h.at_;have:=g.at_;omega,by rw[g.nodes,h.nodes,aO]⟩
theorem Mv.iW {l:List Node} {k k':Nat} (h:Mv K st ak l k) (hk:k'<=k):Mv K st ak l k':=⟨h.inv,h.deep,by have:=h.less;omega,by have:=h.at_;omega,h.nodes⟩
theorem Mv.cast {l l':List Node} {k k':Nat} (h:Mv K st ak l k) (hl:l=l') (hk:k'<=k):Mv K st ak l' k':=hl▸h.iW hk
theorem Mv.bP {l:List Node} {k:Nat} (h:Mv K st ak l k):ak.nodes.length=st.nodes.length+l.length:=by rw[h.nodes,az]
def Tr (len:Nat) (m:PM S α) (st:PS S) (Q:α->PS S->Prop):Prop:=
 match m st with
 |none=>False
 |some (.error e)=>e.2<=len/\(e.1=13\/e.1=15)
 |some (.ok (a,st'))=>Q a st'
theorem Tr.bind {m:PM S α} {k:α->PM S β} {Q:β->PS S->Prop} (h:Tr len m st λa st'=>Tr len (k a) st' Q):Tr len (m>>=k) st Q:=by
 unfold Tr at h|-;cases hm:m st with
 |none=>rw[hm]at h;exact h.elim
 |some r=>
  rw[hm]at h;cases r with
  |error e=>rw[PM.Ae hm];exact h
  |ok p=>obtain⟨a,st'⟩:=p;rw[PM.lQ hm];exact h
theorem Tr.mono {m:PM S α} {Q Q':α->PS S->Prop} (h:Tr len m st Q) (hq:∀a st',Q a st'->Q' a st'):Tr len m st Q':=by
 unfold Tr at h|-;split at h
 ·exact h.elim
 ·exact h
 ·exact hq _ _ h
theorem Tr.pure {a:α} {Q:α->PS S->Prop} (h:Q a st):Tr len (Pure.pure a:PM S α) st Q:=h
theorem Tr.tok {Q:Tok->PS S->Prop} (h:Q st.tok st):Tr len eB st Q:=h
theorem Tr.is {m:List UInt8} {Q:Bool->PS S->Prop} (h:Q (br st.tok m) st):Tr len (jq m) st Q:=h
theorem Tr.nW {Q:α->PS S->Prop} (hi:Inv K st):Tr len (oT 13:PM S α) st Q:=⟨hi.at_,.inl rfl⟩
theorem Tr.cU {Q:Tok->PS S->Prop} (hi:Inv K st) (hk:st.tok.kind≠0) (h:∀st',Mv K st st' [] 1->Q st.tok st'):Tr len Front.cU st Q:=by
 unfold Tr Front.cU;cases hn:S.eP st.pos with
 |inl f=>exact⟨K.bad _ _ hi.val hn,.inl rfl⟩
 |inr x=>
  obtain⟨t,q⟩:=x;simp only;obtain⟨h1,h2,h3,h4,hv⟩:=K.ok _ _ _ hi.val hn;obtain⟨h5,h6⟩:=hi.lo hk;refine h _ ⟨⟨h1,h3,λhk=>⟨(h4 hk).1,(h4 hk).2.1⟩,hi.deep,hi.nodes,hv⟩,rfl,?_,by simp only;omega,by simp⟩;unfold R;rw[if_neg hk];simp only;split
  ·omega
  ·rename_i gx;have:=(h4 gx).2.2;omega
theorem jM {t:Tok} {m:List UInt8} (h:br t m=true):t.kind≠0:=by
 unfold br at h;intro e;simp[e]at h
theorem Tr.take {m:List UInt8} {Q:Bool->PS S->Prop} (hi:Inv K st) (h1:∀st',br st.tok m=true->Mv K st st' [] 1->Q true st') (h0:br st.tok m=false->Q false st):Tr len (ep m) st Q:=by
 unfold ep;refine .bind (.is ?_);cases hb:br st.tok m with
 |true=>exact .bind (.cU hi (jM hb) λst' h=>h1 st' hb h)
 |false=>exact h0 hb
theorem Tr.dm {m:List UInt8} {Q:Unit->PS S->Prop} (hi:Inv K st) (h1:∀st',br st.tok m=true->Mv K st st' [] 1->Q () st'):Tr len (eL m) st Q:=by
 unfold eL;refine .bind (.is ?_);cases hb:br st.tok m with
 |true=>exact .bind (.cU hi (jM hb) λst' h=>h1 st' hb h)
 |false=>exact .nW hi
theorem Tr.kind {k:Nat} {Q:Tok->PS S->Prop} (hi:Inv K st) (hk:k≠0) (h1:∀st',st.tok.kind=k->Mv K st st' [] 1->Q st.tok st'):Tr len (me k) st Q:=by
 unfold me;refine .bind (.tok ?_);by_cases h:st.tok.kind=k
 ·rw[if_pos h];exact .cU hi (by rw[h];exact hk) λst' hm=>h1 st' h hm
 ·rw[if_neg h];exact .nW hi
theorem Tr.node {x:Node} {Q:Nat->PS S->Prop} (hi:Inv K st) (h:∀st',Mv K st st' [x] 0->st'.tok=st.tok->Q st.nodes.length st'):Tr len (cH x) st Q:=by
 unfold Tr cH;by_cases hl:st.nodes.length=4096
 ·rw[if_pos hl];exact⟨hi.at_,.inr rfl⟩
 ·rw[if_neg hl];exact h _ ⟨⟨hi.tok,hi.at_,hi.lo,hi.deep,by have:=hi.nodes;simp only[az,p9];omega,hi.val⟩,rfl,aA _,aA _,rfl⟩ rfl
theorem Tr.nodeAt {x:Nat} {y:Node} {Q:Node->PS S->Prop} (hx:st.nodes[x]? =some y) (h:Q y st):Tr len (iu x) st Q:=by
 unfold Tr iu;rw[hx];exact h
theorem Tr.down {Q:Unit->PS S->Prop} (hi:Inv K st) (h:st.deep<40->Q () {st with deep:=st.deep+1}):Tr len ql st Q:=by
 unfold Tr ql;by_cases hd:st.deep=40
 ·rw[if_pos hd];exact⟨hi.at_,.inr rfl⟩
 ·rw[if_neg hd];exact h (by have:=hi.deep;omega)
theorem Tr.up {Q:Unit->PS S->Prop} (hd:st.deep≠0) (h:Q () {st with deep:=st.deep-1}):Tr len kO st Q:=by
 unfold Tr kO;rw[if_neg hd];exact h
def adQ (P:α->Prop) (Q:β->Prop):Sum α β->Prop
 | .inl a=>P a
 | .inr b=>Q b
theorem Tr.loop {body:α->PM S (Sum α β)} {Q:β->PS S->Prop} (I:α->PS S->Prop) (hb:∀a st,I a st->Tr len (body a) st λr st'=>adQ (λa'=>I a' st'/\R K st'<R K st) (λb=>Q b st') r):
  ∀(n:Nat) {a:α} {st:PS S},R K st<n->I a st->Tr len (dt body n a) st Q:=by
 intro n
 induction n with
 |zero=>intro a st h;omega
 |succ n ih=>
  intro a st hn hi;unfold dt;refine .bind ((hb a st hi).mono λr st' hr=>?_);cases r with
  |inl a'=>exact ih (by have:=hr.2;omega) hr.1
  |inr b=>exact hr
def gU (t:Tok):Nat:=if t.kind=5 then binOp t.text else 0
def pS (l:Nat) (t:Tok):Prop:=gU t=0\/level (gU t)<l
theorem Rh:∀(l:List (List UInt8)) (k:Nat) (s:List UInt8),qH l k s=0\/(k<=qH l k s/\qH l k s<k+l.length)
 | [],k,s=>.inl rfl
 |x::l,k,s=>by
  simp only[qH];split
  ·right;simp
  ·rcases Rh l (k+1) s with h|h
   ·exact .inl h
   ·right;simp only[cr];omega
theorem Uh (s:List UInt8) (h:binOp s≠0):4<=binOp s/\binOp s<=21:=by
 rcases Rh ops 4 s with h'|h'
 ·exact absurd h' h
 ·have:ops.length=18:=rfl;unfold binOp;omega
theorem QM (o:Nat):level o<=10:=by
 rcases Nat.lt_or_ge o 22 with hq|hq
 ·exact(by decide:∀q<22,level q<=10) o hq
 ·unfold level;rw[List.getD_eq_getElem?_getD,List.getElem?_eq_none (by simp;omega)];simp
theorem acZ {o:Nat} (h1:4<=o) (h2:o<=21):1<=level o:=(by decide:∀q<22,4<=q->1<=level q) o (by omega) h1
theorem Ex.QW {e:Ex} (h:e.aL len):1<=e.lv:=by
 cases e<;>simp only[Ex.lv]<;>try omega
 obtain⟨_,_,_,h1,h2⟩:=h;exact acZ h1 h2
theorem Ex.uD {e:Ex} (h:e.aL len):e.km 1=e.dep:=by
 unfold Ex.km;rw[if_neg (by have:=Ex.QW h;omega)]
theorem Ex.L3 {e:Ex} (l:Nat) (hl:l<=99):e.km l<=e.pg:=by
 have key:e.lv<l->e.kD=true:=by cases e<;>simp only[Ex.lv,Ex.kD]<;>first|omega|simp
 unfold Ex.km Ex.pg;by_cases h:e.lv<l
 ·rw[if_pos h,if_pos (key h)];exact aA _
 ·rw[if_neg h];split<;>omega
theorem Ex.VF {e:Ex}:e.pg<=e.nt:=by
 unfold Ex.pg Ex.nt;cases e<;>simp[Ex.kD,Ex.gD]
theorem Ex.VI {e:Ex}:e.nt<=1+e.dep:=by unfold Ex.nt;split<;>omega
structure mo (K:og S len) (st:PS S) (e:Ex) (a:Nat) (st':PS S):Prop where
 mv:Mv K st st' (e.flat st.nodes.length) 1
 at_:a+1=st.nodes.length+e.size
 aL:e.aL len
 ge:st.tok.at_<=e.at_
 lt:e.at_<st'.tok.at_
theorem mo.node {e:Ex} {a:Nat} (h:mo K st e a ak) {l:List Node} {k:Nat} (g:Mv K ak aX l k):∃nd,aX.nodes[a]? =some nd/\nd.at_=e.at_/\nd.kind=(e.root st.nodes.length).kind:=by
 have hp:=Ex.size_pos e;refine⟨e.root st.nodes.length,?_,Ex.ae8 _ _,rfl⟩;rw[g.nodes,h.mv.nodes,aO,bQ (by have:=h.at_;omega),bO (by have:=h.at_;rw[Ex.bI];omega)];rw[show a-st.nodes.length=e.size-1 from by have:=h.at_;omega];exact Ex.Hx _ _
theorem Mv.L7 {l:List Node} {k:Nat} (h:Mv K {st with deep:=st.deep+1} ak l k) (hd:st.deep<=40):ak.deep≠0/\Mv K st {ak with deep:=ak.deep-1} l k:=by
 have e:ak.deep=st.deep+1:=h.deep;exact⟨by omega,⟨h.inv.tok,h.inv.at_,h.inv.lo,by simp only;omega,h.inv.nodes,h.inv.val⟩,by simp only;omega,h.less,h.at_,h.nodes⟩
theorem Inv.down (h:Inv K st) (hd:st.deep<40):Inv K {st with deep:=st.deep+1}:=⟨h.tok,h.at_,h.lo,by simp only;omega,h.nodes,h.val⟩
def oV (K:og S len) (r:Nat) (ex:Nat->PM S Nat):Prop:=∀(st:PS S) (l:Nat),R K st<=r->Inv K st->l<=11->Tr len (ex l) st λa st'=>∃e,mo K st e a st'/\e.km l+st.deep<=40/\pS l st'.tok
def Cw (K:og S len) (r:Nat) (op:PM S Nat):Prop:=∀st:PS S,R K st<=r->Inv K st->Tr len op st λa st'=>∃e,mo K st e a st'/\e.pg+st.deep<=40
theorem ac6 {ex:Nat->PM S Nat} {r n:Nat} (hex:oV K r ex) (hr:R K st<=r) (hn:R K st<n) (hi:Inv K st):
  Tr len (vp ex n) st λa st'=>∃l,Mv K st st' (Ex.cR st.nodes.length l) 1/\a=Ex.roots st.nodes.length l/\Ex.fm len st.tok.at_ l/\Ex.eV l+st.deep<=40:=by
 unfold vp;refine .bind (.take hi (λst' _ h=>?_) λ_=>?_)
 ·exact .pure ⟨[],h,rfl,trivial,by simp[Ex.eV];exact hi.deep⟩
 ·simp only[aW,if_false];refine Tr.loop (K:=K) (λacc aX=>∃l k,Mv K st aX (Ex.cR st.nodes.length l) k/\acc=Ex.roots st.nodes.length l/\Ex.fm len st.tok.at_ l/\Ex.eV l+st.deep<=40) ?_ n hn ⟨[],0,.refl hi,rfl,trivial,by simp[Ex.eV];exact hi.deep⟩;intro acc aX ⟨l,k,h1,h2,h3,h4⟩;subst h2;unfold tB;refine .bind ((hex aX 1 (by have:=h1.less;omega) h1.inv (by omega)).mono λa dw ⟨e,hg,hd,_⟩=>?_);have wO:aX.nodes.length=st.nodes.length+Ex.aB l:=by rw[h1.bP,Ex.fk]
  have iK:a=st.nodes.length+Ex.aB l+e.size-1:=by have:=hg.at_;omega
  have uT:Ex.cR st.nodes.length l++Ex.flat aX.nodes.length e=Ex.cR st.nodes.length (l++[e]):=by rw[Ex.uO,wO]
  have jk:Ex.eV (l++[e])+st.deep<=40:=by
   rw[Ex.Al];rw[Ex.uD hg.aL,h1.deep]at hd;omega
  have rq:Ex.fm len st.tok.at_ (l++[e]):=Ex.Be h3 hg.aL (by have:=h1.at_;have:=hg.ge;omega);refine .bind (.take hg.mv.inv (λiV _ h5=>?_) λ_=>?_)
  ·refine .pure ⟨l++[e],((h1.trans hg.mv).trans h5).cast (by rw[cg];exact uT) (by omega),by rw[Ex.tJ,iK],rq,jk⟩
  ·simp only[aW,if_false];refine .bind (.dm hg.mv.inv λiV _ h5=>?_);refine .pure ⟨⟨l++[e],k,((h1.trans hg.mv).trans h5).cast (by rw[cg];exact uT) (by omega),by rw[Ex.tJ,iK],rq,jk⟩,?_⟩;have:=hg.mv.less;have:=h5.less;omega
theorem aeL {ex:Nat->PM S Nat} {r n:Nat} (hex:oV K r ex) (hr:R K st<=r+1) (hn:R K st<=n) (hi:Inv K st):
  Tr len (mV ex n) st λa st'=>∃e,mo K st e a st'/\e.nt+st.deep<=41:=by
 have Pj:=hi.deep;unfold mV;refine .bind (.tok ?_);by_cases h3:st.tok.kind=3
 ·rw[if_pos h3];refine .bind (.cU hi (by omega) λak h1=>?_);have ha:=(hi.lo (by omega)).2;refine .node h1.inv λaX h2 _=>⟨.num st.tok.at_ st.tok.n,⟨(h1.trans h2).cast rfl (by omega),by rw[h1.bP];rfl,⟨ha,hi.tok.num h3⟩,aA _,by have:=h1.at_;have:=h2.at_;simp only[Ex.at_];omega⟩,by simp[Ex.nt,Ex.gD,Ex.dep];omega⟩
 rw[if_neg h3];by_cases h4:st.tok.kind=4
 ·rw[if_pos h4];refine .bind (.cU hi (by omega) λak h1=>?_);have ha:=(hi.lo (by omega)).2;refine .node h1.inv λaX h2 _=>⟨.text st.tok.at_ st.tok.text,⟨(h1.trans h2).cast rfl (by omega),by rw[h1.bP];rfl,⟨ha,hi.tok.text h4⟩,aA _,by have:=h1.at_;have:=h2.at_;simp only[Ex.at_];omega⟩,by simp[Ex.nt,Ex.gD,Ex.dep];omega⟩
 rw[if_neg h4];by_cases h1:st.tok.kind=1
 ·rw[if_pos h1];have ha:=(hi.lo (by omega)).2;refine .bind (.cU hi (by omega) λak m1=>?_);refine .bind (.is ?_);cases hb:br ak.tok [40]with
  |false=>
   simp only[aW,if_false];refine .node m1.inv λaX h2 _=>⟨.name st.tok.at_ st.tok.text,⟨(m1.trans h2).cast rfl (by omega),by rw[m1.bP];rfl,⟨ha,hi.tok.name h1⟩,aA _,by have:=m1.at_;have:=h2.at_;simp only[Ex.at_];omega⟩,by simp[Ex.nt,Ex.gD,Ex.dep];omega⟩
  |true=>
   simp only[if_true];refine .bind (.cU m1.inv (jM hb) λaX m2=>?_);have sX:=m1.less;have hr3:=m2.less;refine .bind ((ac6 hex (by omega) (by omega) m2.inv).mono λkids dw ⟨l,m3,hk,hg,hdp⟩=>?_);refine .node m3.inv λiV m4 _=>?_;have fW:aX.nodes.length=st.nodes.length:=by rw[m2.bP,m1.bP];simp
   rw[fW]at m3 hk;subst hk;refine⟨.call st.tok.at_ st.tok.text l,⟨(((m1.trans m2).trans m3).trans m4).cast (by simp[Ex.flat]) (by omega),by rw[m3.bP,fW,Ex.fk];rfl,⟨ha,hi.tok.name h1,?_⟩,aA _,by have:=m1.at_;have:=m2.at_;have:=m3.at_;have:=m4.at_;simp only[Ex.at_];omega⟩,?_⟩
   ·have:st.tok.at_<=aX.tok.at_:=by have:=m1.at_;have:=m2.at_;omega
    exact Ex.OZ this hg
   ·have Ed:aX.deep=st.deep:=by rw[m2.deep,m1.deep]
    simp only[Ex.nt,Ex.gD,Ex.dep,aW,if_false];omega
 rw[if_neg h1];refine .bind (.dm hi λak _ m1=>?_);have il:=m1.less;refine .bind ((hex ak 1 (by omega) m1.inv (by omega)).mono λa aX ⟨e,hg,hd,_⟩=>?_);refine .bind (.dm hg.mv.inv λdw _ m3=>?_);have ef:ak.nodes.length=st.nodes.length:=by rw[m1.bP];simp
 refine .pure ⟨e,⟨((m1.trans hg.mv).trans m3).cast (by rw[ef];simp) (by omega),by rw[hg.at_,ef],hg.aL,by have:=m1.at_;have:=hg.ge;omega,by have:=hg.lt;have:=m3.at_;omega⟩,?_⟩;rw[Ex.uD hg.aL,m1.deep]at hd;have:=Ex.VI (e:=e);omega
theorem abT {ex:Nat->PM S Nat} {r n x:Nat} {e:Ex} (hex:oV K r ex) (hr:R K ak<=r) (hn:R K ak<n) (hg:mo K st e x ak) (hd:e.nt+st.deep<=41):
  Tr len (dt (indexB ex) n x) ak λa st'=>∃e,mo K st e a st'/\e.nt+st.deep<=41:=by
 refine Tr.loop (K:=K) (λx aX=>R K aX<=r/\∃e,mo K st e x aX/\e.nt+st.deep<=41) ?_ n hn ⟨hr,e,hg,hd⟩;intro x aX ⟨sX,e,hg,hd⟩;unfold indexB;refine .bind (.take hg.mv.inv (λdw _ m3=>?_) λ_=>?_)
 ·simp only[if_true];have hr3:=m3.less;refine .bind ((hex dw 1 (by omega) m3.inv (by omega)).mono λi iV ⟨ei,hi,hdi,_⟩=>?_);refine .bind (.dm hi.mv.inv λvH _ m5=>?_);obtain⟨nd,rA,qs,_⟩:=hg.node ((m3.trans hi.mv).trans m5);refine .bind (.nodeAt rA ?_);refine .bind (.node m5.inv λzB m6 _=>?_);have rz:dw.nodes.length=st.nodes.length+e.size:=by rw[m3.bP,hg.mv.bP,Ex.bI];simp
  have hn5:vH.nodes.length=st.nodes.length+e.size+ei.size:=by rw[m5.bP,hi.mv.bP,Ex.bI,rz];simp
  have hx:x=st.nodes.length+e.size-1:=by have:=hg.at_;omega
  have hii:i=st.nodes.length+e.size+ei.size-1:=by have:=hi.at_;omega
  refine .pure ⟨⟨by have:=hi.mv.less;have:=m5.less;have:=m6.less;omega,.index e ei,⟨((((hg.mv.trans m3).trans hi.mv).trans m5).trans m6).cast ?_ (by omega),?_,⟨hg.aL,hi.aL,?_⟩,hg.ge,?_⟩,?_⟩,?_⟩
  ·rw[rz,qs,hx,hii];simp[Ex.flat]
  ·rw[hn5];simp only[Ex.size];omega
  ·have:=hg.lt;have:=m3.at_;have:=hi.ge;omega
  ·have:=hg.lt;have:=m3.at_;have:=hi.mv.at_;have:=m5.at_;have:=m6.at_;simp only[Ex.at_];omega
  ·rw[Ex.uD hi.aL,m3.deep,hg.mv.deep]at hdi;rw[Ex.VH];omega
  ·have:=hi.mv.less;have:=m5.less;have:=m6.less;omega
 ·exact .pure ⟨e,hg,hd⟩
theorem agB {op:PM S Nat} {r:Nat} {k:Nat} (eF:Cw K r op) (hr:R K ak<=r) (m1:Mv K st ak [] 1) (ha:st.tok.at_<len) (hk:1<=k/\k<=3) (Bm:1<=st.deep):
  Tr len (pX op st.tok.at_ (k:Int)) ak λa st'=>∃e,mo K st e a st'/\e.pg+st.deep<=41:=by
 unfold pX;refine .bind ((eF ak hr m1.inv).mono λx aX ⟨e,hg,hd⟩=>?_);have ef:ak.nodes.length=st.nodes.length:=by rw[m1.bP];simp
 refine .node hg.mv.inv λdw m3 _=>⟨.un st.tok.at_ k e,⟨((m1.trans hg.mv).trans m3).cast ?_ (by omega),?_,⟨ha,hg.aL,?_,hk.1,hk.2⟩,aA _,?_⟩,?_⟩
 ·have hx:x=st.nodes.length+e.size-1:=by have:=hg.at_;omega
  rw[ef,hx];simp[Ex.flat]
 ·rw[hg.mv.bP,ef,Ex.bI];simp only[Ex.size];omega
 ·have:=m1.at_;have:=hg.ge;omega
 ·have:=m1.at_;have:=hg.mv.at_;have:=m3.at_;simp only[Ex.at_];omega
 ·rw[m1.deep]at hd;rw[Ex.VG];omega
theorem aew {op:PM S Nat} {ex:Nat->PM S Nat} {r n:Nat} (eF:∀r',r'<r->Cw K r' op) (hex:∀r',r'<r->oV K r' ex) (hr:R K st<=r) (hn:R K st<=n) (hi:Inv K st) (wQ:R K st=0->st.tok.kind=0):
  Tr len (qI op ex n) st λa st'=>∃e,mo K st e a st'/\e.pg+st.deep<=40:=by
 unfold qI;refine .bind (.down hi λhd=>.bind (.tok ?_));have oG:=hi.down hd;refine .bind (Tr.mono (Q:=λa st'=>∃e,mo K {st with deep:=st.deep+1} e a st'/\e.pg+(st.deep+1)<=41) ?_ λa st' ⟨e,hg,Ee⟩=>?_)
 ·unfold th;have un {k:Nat} {m:List UInt8} (hk:1<=k/\k<=3) (st':PS S) (hb:br st.tok m=true) (m1:Mv K {st with deep:=st.deep+1} st' [] 1):Tr len (pX op st.tok.at_ (k:Int)) st' λa st'=>∃e,mo K {st with deep:=st.deep+1} e a st'/\e.pg+(st.deep+1)<=41:=by
   have al:R K st'<R K st:=m1.less;exact agB (eF (R K st') (by omega)) (aA _) m1 (hi.lo (jM hb)).2 hk (by simp only;omega)
  refine .bind (.take oG (λst' hb m1=>un (k:=1) (by omega) st' hb m1) λ_=>?_);simp only[aW,if_false];refine .bind (.take oG (λst' hb m1=>un (k:=2) (by omega) st' hb m1) λ_=>?_);simp only[aW,if_false];refine .bind (.take oG (λst' hb m1=>un (k:=3) (by omega) st' hb m1) λ_=>?_);simp only[aW,if_false];by_cases h0:st.tok.kind=0
  ·
   have Ig (m:List UInt8):br st.tok m=false:=by unfold br;rw[h0];simp
   refine .bind ?_;unfold mV;refine .bind (.tok ?_);rw[if_neg (by simp only;omega),if_neg (by simp only;omega),if_neg (by simp only;omega)];refine .bind (.dm oG λst' hb _=>?_);rw[Ig]at hb;cases hb
  ·have dR:R K st≠0:=λh=>h0 (wQ h);have HE:R K {st with deep:=st.deep+1}=R K st:=rfl;refine .bind ((aeL (r:=R K st-1) (n:=n) (hex (R K st-1) (by omega)) (by rw[HE];omega) (by rw[HE];exact hn) oG).mono λx ak ⟨e,hg,Ee⟩=>?_);have hl:=hg.mv.less;rw[HE]at hl;refine(abT (r:=R K st-1) (hex (R K st-1) (by omega)) (by omega) (by omega) hg Ee).mono λa st' ⟨e,hg,Ee⟩=>⟨e,hg,?_⟩
   have:=Ex.VF (e:=e);simp only at Ee;omega
 ·obtain⟨bD,Ic⟩:=hg.mv.L7 hi.deep;refine .bind (.up bD (.pure ⟨e,⟨Ic,hg.at_,hg.aL,hg.ge,hg.lt⟩,by omega⟩))
theorem Wb {op:PM S Nat} {ex:Nat->PM S Nat} {r n l:Nat} (eF:Cw K r op) (hex:∀r',r'<r->oV K r' ex) (hr:R K st<=r) (hn:R K st<=n) (hi:Inv K st) (hl:l<=11):
  Tr len (qn op ex n l) st λa st'=>∃e,mo K st e a st'/\e.km l+st.deep<=40/\pS l st'.tok:=by
 unfold qn;refine .bind ((eF st hr hi).mono λx ak ⟨e,hg,hd⟩=>?_);have fS:=hg.mv.less;refine Tr.loop (K:=K) (λx aX=>R K aX<r/\∃e,mo K st e x aX/\(e.pg+st.deep<=40\/(e.dep+st.deep<=40/\l<=e.lv/\pS (e.lv+1) aX.tok))) ?_ n (by omega) ⟨by omega,e,hg,.inl hd⟩;intro x aX ⟨sX,e,hg,hd⟩;unfold k8;refine .bind (.tok ?_);have eo:(if aX.tok.kind=5 then binOp aX.tok.text else 0)=gU aX.tok:=rfl;simp only[eo];have Bo:e.km l+st.deep<=40:=by
  rcases hd with hd|⟨hd,hle,_⟩
  ·have:=Ex.L3 (e:=e) l (by omega);omega
  ·unfold Ex.km;rw[if_neg (by omega)];exact hd
 by_cases h0:gU aX.tok=0
 ·rw[if_pos h0];exact .pure ⟨e,hg,Bo,.inl h0⟩
 rw[if_neg h0];by_cases al:level (gU aX.tok)<l
 ·rw[if_pos al];exact .pure ⟨e,hg,Bo,.inr al⟩
 rw[if_neg al];have hk5:aX.tok.kind=5:=by unfold gU at h0;split at h0;assumption;exact absurd rfl h0
 have eF:4<=gU aX.tok/\gU aX.tok<=21:=by
  have:gU aX.tok=binOp aX.tok.text:=by unfold gU;rw[if_pos hk5]
  rw[this]at h0|-;exact Uh _ h0
 have yD:e.km (level (gU aX.tok))+st.deep<=40:=by
  rcases hd with hd|⟨hd,_,dW⟩
  ·have:=Ex.L3 (e:=e) (level (gU aX.tok)) (by have:=QM (gU aX.tok);omega);omega
  ·unfold Ex.km;rw[if_neg (by rcases dW with h|h<;>omega)];exact hd
 refine .bind (.cU hg.mv.inv (by omega) λdw m3=>?_);have Bz:=m3.less;refine .bind ((hex (R K dw) (by omega) dw (level (gU aX.tok)+1) (aA _) m3.inv (by have:=QM (gU aX.tok);omega)).mono λy iV ⟨ey,hy,Bp,abo⟩=>?_);obtain⟨nd,rA,qs,_⟩:=hg.node (m3.trans hy.mv);refine .bind (.nodeAt rA ?_);refine .bind (.node hy.mv.inv λvH m5 abG=>?_);have rz:dw.nodes.length=st.nodes.length+e.size:=by rw[m3.bP,hg.mv.bP,Ex.bI];simp
 have uX:iV.nodes.length=st.nodes.length+e.size+ey.size:=by rw[hy.mv.bP,Ex.bI,rz]
 have hx:x=st.nodes.length+e.size-1:=by have:=hg.at_;omega
 have IA:y=st.nodes.length+e.size+ey.size-1:=by have:=hy.at_;omega
 refine .pure ⟨⟨by have:=hy.mv.less;have:=m5.less;omega,.bin (gU aX.tok) e ey,⟨(((hg.mv.trans m3).trans hy.mv).trans m5).cast ?_ (by omega),?_,⟨hg.aL,hy.aL,?_,eF⟩,hg.ge,?_⟩,.inr ⟨?_,?_,?_⟩⟩,?_⟩
 ·rw[rz,qs,hx,IA];simp[Ex.flat]
 ·rw[uX];simp only[Ex.size];omega
 ·have:=hg.lt;have:=m3.at_;have:=hy.ge;omega
 ·have:=hg.lt;have:=m3.at_;have:=hy.mv.at_;have:=m5.at_;simp only[Ex.at_];omega
 ·rw[m3.deep,hg.mv.deep]at Bp;rw[Ex.L4];omega
 ·simp only[Ex.lv];omega
 ·rw[abG];exact abo
 ·have:=hy.mv.less;have:=m5.less;omega
theorem VZ:∀(n:Nat),(∀r,2*r+1<=n->Cw K r (ou (S:=S) n none))/\∀r,2*r+2<=n->oV K r λl=>ou (S:=S) n (some l):=by
 intro n
 induction n with
 |zero=>exact⟨λr h=>by omega,λr h=>by omega⟩
 |succ n ih=>
  refine⟨λr h st hr hi=>?_,λr h st l hr hi hl=>?_⟩
  ·exact aew (r:=r) (λr' gy=>ih.1 r' (by omega)) (λr' gy=>ih.2 r' (by omega)) hr (by omega) hi λh0=>by
    unfold R at h0;split at h0;assumption;omega
  ·exact Wb (r:=r) (ih.1 r (by omega)) (λr' gy=>ih.2 r' (by omega)) hr (by omega) hi hl
end
end Go.Front
end
section
set_option maxRecDepth 100000
namespace Go.Front
def rU (t1 t2:Tok):Prop:=t1.kind=t2.kind/\t1.text=t2.text/\t1.n=t2.n
theorem rU.br {t1 t2:Tok} (h:rU t1 t2) (m:List UInt8):br t1 m=br t2 m:=by unfold Front.br;rw[h.1,h.2.1]
structure Ts (S1 S2:hJ) where
 rel:S1.Pos->S2.Pos->Prop
 fin:S1.Pos->S2.Pos->Prop
 ok:∀q1 q2 t1 Jm,rel q1 q2->S1.eP q1=.inr (t1,Jm)->∃t2 Jn,S2.eP q2=.inr (t2,Jn)/\((rU t1 t2/\rel Jm Jn)\/(t1.kind=5/\t1.text=[59]/\t2.kind=5/\t2.text=[41]/\fin Jm Jn))
section
variable {S1 S2:hJ} {K:Ts S1 S2} {c:Nat} {α α1 α2 β β1 β2 γ:Type} {ak:PS S1} {aX:PS S2}
section
variable {op1:PM S1 Nat} {op2:PM S2 Nat} {ex1:Nat->PM S1 Nat} {ex2:Nat->PM S2 Nat} {n1 n2:Nat}
end
end
end Go.Front
namespace Go.Front
theorem LU {s r:List UInt8} {a:Nat} (h:s.drop a=r):cut s a=(a+skip false r,(one (r.drop (skip false r))).map λp=>(⟨p.1,a+skip false r,p.2.1,p.2.2.1⟩,a+skip false r+p.2.2.2)):=by
 unfold cut;dsimp only;rw[h,<-h,oX]
theorem Q7 {s:List UInt8} {a f q:Nat} {t:Tok} (h:cut s a=(f,some (t,q))):(ai s).eP a=.inr (t,q):=by
 show(match cut s a with|(f,none)=>Sum.inl f|(_,some (t,q))=>Sum.inr (t,q))=_;rw[h];rfl
section
variable {S:hJ} {α:Type} {t0 t:Tok} {q0 q:S.Pos} {nd:List Node} {d:Nat} {m:List UInt8} {st:PS S} {r:α×PS S}
theorem agn {k:Tok->PM S α}:(eB>>=k) st=k st.tok st:=rfl
theorem ED {k:Bool->PM S α}:(jq m>>=k) st=k (br st.tok m) st:=rfl
theorem I4 {k:Tok->PM S α} (h:S.eP q0=.inr (t,q)):(cU>>=k) ⟨t0,q0,nd,d⟩=k t0 ⟨t,q,nd,d⟩:=PM.lQ (by unfold cU;simp only[h])
theorem agj {k:Bool->PM S α} (hb:br t0 m=true) (h:S.eP q0=.inr (t,q)):(ep m>>=k) ⟨t0,q0,nd,d⟩=k true ⟨t,q,nd,d⟩:=by
 refine PM.lQ ?_;unfold ep;rw[ED];simp only[hb,if_true];rw[I4 h];rfl
theorem adv {k:Unit->PM S α} (hb:br t0 m=true) (h:S.eP q0=.inr (t,q)):(eL m>>=k) ⟨t0,q0,nd,d⟩=k () ⟨t,q,nd,d⟩:=by
 refine PM.lQ ?_;unfold eL;rw[ED];simp only[hb,if_true];rw[I4 h];rfl
theorem acd {n:Nat} {k:Tok->PM S α} (hb:t0.kind=n) (h:S.eP q0=.inr (t,q)):(me n>>=k) ⟨t0,q0,nd,d⟩=k t0 ⟨t,q,nd,d⟩:=by
 refine PM.lQ ?_;unfold me;rw[agn];simp only[hb,if_true];unfold cU;simp only[h]
end
end Go.Front
end
section
set_option maxRecDepth 100000
namespace Go.Front
section
variable {S:hJ} {len:Nat} {K:og S len} {α β γ:Type} {st ak aX dw:PS S}
structure Kh (K:og S len) (st:PS S) (e:Sm) (a:Nat) (st':PS S):Prop where
 mv:Mv K st st' (e.flat st.nodes.length) 1
 at_:a+1=st.nodes.length+e.size
 aL:e.aL len
 ge:st.tok.at_<=e.at_
 lt:e.at_<st'.tok.at_
 dep:e.dep+st.deep<=40
 els:e.open=true->br st'.tok [101,108,115,101]=false
def zU (K:og S len) (r:Nat) (sm:PM S Nat):Prop:=∀st:PS S,R K st<=r->Inv K st->Tr len sm st λa st'=>∃e,Kh K st e a st'
theorem Ex.abZ {e:Ex} (b:Nat) (h:(e.root b).kind=3\/(e.root b).kind=5):e.y4=true:=by
 cases e<;>simp[Ex.root,Ex.y4]at h|-
structure Cr (K:og S len) (st:PS S) (e:Sm) (a:Nat) (st':PS S):Prop where
 mv:Mv K st st' (e.flat st.nodes.length) 1
 at_:a+1=st.nodes.length+e.size
 aL:e.aL len
 ge:st.tok.at_<=e.at_
 lt:e.at_<st'.tok.at_
 dep:e.dep+st.deep<=41
 els:e.open=true->br st'.tok [101,108,115,101]=false
theorem K7 {sm:PM S Nat} {r n:Nat} (eG:zU K r sm) (hr:R K st<=r+1) (hn:R K st<=n) (hi:Inv K st):
  Tr len (q6 sm n) st λa st'=>∃l,Mv K st st' ((Sm.block st.tok.at_ l).flat st.nodes.length) 1/\a+1=st.nodes.length+Sm.aB l+1/\st.tok.at_<len/\Sm.fm len st.tok.at_ l/\Sm.eV l+st.deep<=40:=by
 unfold q6;refine .bind (.tok (.bind (.dm hi λak hb m1=>?_)));have ha:=(hi.lo (jM hb)).2;have il:=m1.less;have ef:ak.nodes.length=st.nodes.length:=by rw[m1.bP];simp
 refine .bind (Tr.mono (Q:=λacc aX=>(∃l,Mv K st aX (Sm.cR st.nodes.length l) 1/\acc=Sm.roots st.nodes.length l/\Sm.fm len st.tok.at_ l/\Sm.eV l+st.deep<=40)/\br aX.tok [125]=true) ?_ λacc aX ⟨⟨l,h1,h2,h3,h4⟩,bR⟩=>?_)
 ·refine Tr.loop (K:=K) (λacc aX=>R K aX<=r/\∃l,Mv K st aX (Sm.cR st.nodes.length l) 1/\acc=Sm.roots st.nodes.length l/\Sm.fm len st.tok.at_ l/\Sm.eV l+st.deep<=40) ?_ n (by omega) ⟨by omega,[],m1,rfl,trivial,by simp[Sm.eV];exact hi.deep⟩;intro acc aX ⟨sX,l,h1,h2,h3,h4⟩;unfold sq;refine .bind (.is ?_);cases bR:br aX.tok [125]with
  |true=>exact .pure ⟨⟨l,h1,h2,h3,h4⟩,bR⟩
  |false=>
   simp only[aW,if_false];refine .bind ((eG aX sX h1.inv).mono λa dw ⟨e,hg⟩=>?_);have fW:aX.nodes.length=st.nodes.length+Sm.aB l:=by rw[h1.bP,Sm.fk]
   have hl:=hg.mv.less;refine .pure ⟨⟨by omega,l++[e],(h1.trans hg.mv).cast (by rw[Sm.uO,fW]) (by omega),?_,Sm.Be h3 hg.aL (by have:=h1.at_;have:=hg.ge;omega),?_⟩,by omega⟩
   ·rw[Sm.tJ,h2];congr 2;have:=hg.at_;omega
   ·rw[Sm.Al];have:=hg.dep;rw[h1.deep]at this;omega
 ·refine .bind (.cU h1.inv (jM bR) λdw m3=>?_);refine .node m3.inv λiV m4 _=>⟨l,((h1.trans m3).trans m4).cast (by simp[Sm.flat,h2]) (by omega),?_,ha,h3,h4⟩
  rw[m3.bP,h1.bP,Sm.fk];rfl
theorem LL {ex:Nat->PM S Nat} {r:Nat} (hex:oV K r ex) (hr:R K st<=r+1) (hi:Inv K st):
  Tr len (q9 ex) st λa st'=>∃e,mo K st e a st'/\e.dep+st.deep<=40:=by
 unfold q9;refine .bind (.dm hi λak _ m1=>?_);have il:=m1.less;refine .bind ((hex ak 1 (by omega) m1.inv (by omega)).mono λa aX ⟨e,hg,hd,_⟩=>?_);refine .bind (.dm hg.mv.inv λdw _ m3=>?_);have ef:ak.nodes.length=st.nodes.length:=by rw[m1.bP];simp
 refine .pure ⟨e,⟨((m1.trans hg.mv).trans m3).cast (by rw[ef];simp) (by omega),by rw[hg.at_,ef],hg.aL,by have:=m1.at_;have:=hg.ge;omega,by have:=hg.lt;have:=m3.at_;omega⟩,?_⟩;rw[Ex.uD hg.aL,m1.deep]at hd;exact hd
theorem Ru (hi:Inv K st):Tr len rN st λx st'=>Mv K st st' [] 1/\x.1=st.tok.at_/\st.tok.at_<len/\gT x.2.1/\pW x.2.2:=by
 unfold rN;refine .bind (.tok (.bind (.take hi (λak hb m1=>?_) λ_=>?_)))
 ·have ha:=(hi.lo (jM hb)).2;simp only[if_true];refine .bind (.dm m1.inv λaX _ m2=>.bind (.kind m2.inv (by omega) λdw hk m3=>.pure ⟨((m1.trans m2).trans m3).cast rfl (by omega),rfl,ha,m2.inv.tok.name hk,.inr (.inl rfl)⟩))
 ·simp only[aW,if_false];refine .bind (.dm hi λak hb m1=>.bind (.take m1.inv (λaX _ m2=>?_) λ_=>?_))
  ·have ha:=(hi.lo (jM hb)).2;simp only[if_true];refine .bind (.kind m2.inv (by omega) λdw hk m3=>.pure ⟨((m1.trans m2).trans m3).cast rfl (by omega),rfl,ha,m2.inv.tok.name hk,.inr (.inr rfl)⟩)
  ·have ha:=(hi.lo (jM hb)).2;simp only[aW,if_false];refine .bind (.kind m1.inv (by omega) λdw hk m3=>.pure ⟨(m1.trans m3).cast rfl (by omega),rfl,ha,m1.inv.tok.name hk,.inl rfl⟩)
theorem aeG {ex:Nat->PM S Nat} {r:Nat} (hex:oV K r ex) (hr:R K st<=r) (hi:Inv K st):Tr len (tE ex st.tok.at_) st λa st'=>∃e,Cr K st e a st':=by
 unfold tE;refine .bind ((hex st 1 hr hi (by omega)).mono λx ak ⟨e,hg,hd,_⟩=>?_);rw[Ex.uD hg.aL]at hd;have fS:=hg.mv.less;have hx:x=st.nodes.length+e.size-1:=by have:=hg.at_;omega
 have ef:ak.nodes.length=st.nodes.length+e.size:=by rw[hg.mv.bP,Ex.bI]
 refine .bind (.is ?_);cases hb:br ak.tok [61]with
 |true=>
  simp only[if_true];obtain⟨nd,rA,_,hk⟩:=hg.node (.refl hg.mv.inv);refine .bind (.nodeAt rA ?_);by_cases h35:nd.kind=3\/nd.kind=5
  ·rw[if_pos h35];have jJ:e.y4=true:=by rw[hk]at h35;exact Ex.abZ _ h35
   refine .bind (.cU hg.mv.inv (jM hb) λaX m2=>?_);have dj:=m2.less;refine .bind ((hex aX 1 (by omega) m2.inv (by omega)).mono λy dw ⟨ey,hy,Bp,_⟩=>?_);rw[Ex.uD hy.aL,m2.deep,hg.mv.deep]at Bp;refine .bind (.dm hy.mv.inv λiV _ m4=>?_);obtain⟨nd2,abk,qs,_⟩:=hg.node ((m2.trans hy.mv).trans m4);refine .bind (.nodeAt abk ?_);have fW:aX.nodes.length=st.nodes.length+e.size:=by rw[m2.bP,ef];simp
   have uX:iV.nodes.length=st.nodes.length+e.size+ey.size:=by rw[m4.bP,hy.mv.bP,Ex.bI,fW];simp
   have IA:y=st.nodes.length+e.size+ey.size-1:=by have:=hy.at_;omega
   refine .node m4.inv λvH m5 _=>⟨.set e ey,⟨((((hg.mv.trans m2).trans hy.mv).trans m4).trans m5).cast ?_ (by omega),?_,⟨hg.aL,hy.aL,?_,jJ⟩,hg.ge,?_,?_,?_⟩⟩
   ·rw[fW,qs,hx,IA];simp[Sm.flat]
   ·rw[uX];simp only[Sm.size];omega
   ·have:=hg.lt;have:=m2.at_;have:=hy.ge;omega
   ·have:=hg.lt;have:=m2.at_;have:=hy.mv.at_;have:=m4.at_;have:=m5.at_;simp only[Sm.at_];omega
   ·simp only[Sm.dep];omega
   ·simp[Sm.open]
  ·rw[if_neg h35];exact .nW hg.mv.inv
 |false=>
  simp only[aW,if_false];refine .bind (.dm hg.mv.inv λaX _ m2=>?_);have gg:=hg.ge;have ha:st.tok.at_<len:=by have:=Ex.yz hg.aL;omega
  refine .node m2.inv λdw m3 _=>⟨.expr st.tok.at_ e,⟨((hg.mv.trans m2).trans m3).cast ?_ (by omega),?_,⟨ha,hg.aL,gg⟩,aA _,?_,?_,?_⟩⟩
  ·rw[hx];simp[Sm.flat]
  ·rw[m2.bP,ef];simp[Sm.size];omega
  ·have:=hg.mv.at_;have:=m2.at_;have:=m3.at_;simp only[Sm.at_];omega
  ·simp only[Sm.dep];omega
  ·simp[Sm.open]
theorem S5 {ex:Nat->PM S Nat} {r:Nat} (hex:oV K r ex) (hr:R K st<=r+1) (hi:Inv K st) (yC:1<=st.deep):Tr len (pZ ex) st λa st'=>∃e,Cr K st e a st':=by
 have Pj:=hi.deep;unfold pZ;refine .bind ((Ru hi).mono λx ak ⟨m1,vd,ha,kC,eH⟩=>?_);obtain⟨xa,xs,xt⟩:=x;simp only at vd kC eH;subst vd;have fS:=m1.less;have ef:ak.nodes.length=st.nodes.length:=by rw[m1.bP];simp
 refine .bind (.take m1.inv (λaX _ m2=>?_) λ_=>?_)
 ·simp only[if_true];have dj:=m2.less;have fW:aX.nodes.length=st.nodes.length:=by rw[m2.bP,ef];simp
  refine .bind ((hex aX 1 (by omega) m2.inv (by omega)).mono λy dw ⟨e,hg,hd,_⟩=>?_);rw[Ex.uD hg.aL,m2.deep,m1.deep]at hd;refine .bind (.dm hg.mv.inv λiV _ m4=>?_);refine .node m4.inv λvH m5 _=>⟨.vari st.tok.at_ xs xt e,⟨((((m1.trans m2).trans hg.mv).trans m4).trans m5).cast ?_ (by omega),?_,⟨ha,kC,eH,hg.aL,?_⟩,aA _,?_,?_,?_⟩⟩
  ·have:y=st.nodes.length+e.size-1:=by have:=hg.at_;omega
   rw[fW,this];simp[Sm.flat]
  ·rw[m4.bP,hg.mv.bP,Ex.bI,fW];simp[Sm.size];omega
  ·have:=m1.at_;have:=m2.at_;have:=hg.ge;omega
  ·have:=m1.at_;have:=m2.at_;have:=hg.mv.at_;have:=m4.at_;have:=m5.at_;simp only[Sm.at_];omega
  ·simp only[Sm.dep];omega
  ·simp[Sm.open]
 ·simp only[aW,if_false];refine .bind (.dm m1.inv λiV _ m4=>?_);refine .node m4.inv λvH m5 _=>⟨.var st.tok.at_ xs xt,⟨((m1.trans m4).trans m5).cast ?_ (by omega),?_,⟨ha,kC,eH⟩,aA _,?_,?_,?_⟩⟩
  ·simp[Sm.flat]
  ·rw[m4.bP,ef];simp[Sm.size]
  ·have:=m1.at_;have:=m4.at_;have:=m5.at_;simp only[Sm.at_];omega
  ·simp only[Sm.dep];omega
  ·simp[Sm.open]
theorem abN {sm:PM S Nat} {ex:Nat->PM S Nat} {r:Nat} (eG:zU K r sm) (hex:oV K r ex) (hr:R K ak<=r) (m1:Mv K st ak [] 1) (ha:st.tok.at_<len):
  Tr len (wZ sm ex st.tok.at_) ak λa st'=>∃e,Cr K st e a st':=by
 unfold wZ;have ef:ak.nodes.length=st.nodes.length:=by rw[m1.bP];simp
 refine .bind ((LL hex (by omega) m1.inv).mono λc aX ⟨e,hg,hd⟩=>?_);rw[m1.deep]at hd;have dj:=hg.mv.less;have fW:aX.nodes.length=st.nodes.length+e.size:=by rw[hg.mv.bP,Ex.bI,ef]
 refine .bind ((eG aX (by omega) hg.mv.inv).mono λa dw ⟨ea,fQ⟩=>?_);have HQ:=fQ.dep;rw[hg.mv.deep,m1.deep]at HQ;have Bz:=fQ.mv.less;have rz:dw.nodes.length=st.nodes.length+e.size+ea.size:=by rw[fQ.mv.bP,Sm.bI,fW]
 have hc:c=st.nodes.length+e.size-1:=by have:=hg.at_;omega
 have D6:a=st.nodes.length+e.size+ea.size-1:=by have:=fQ.at_;omega
 refine .bind (.take fQ.mv.inv (λiV lZ m4=>?_) λlZ=>?_)
 ·simp only[if_true];have H4:=m4.less;have uX:iV.nodes.length=st.nodes.length+e.size+ea.size:=by rw[m4.bP,rz];simp
  refine .bind ((eG iV (by omega) m4.inv).mono λb vH ⟨eb,jI⟩=>?_);have hdb:=jI.dep;rw[m4.deep,fQ.mv.deep,hg.mv.deep,m1.deep]at hdb;have ie:b=st.nodes.length+e.size+ea.size+eb.size-1:=by have:=jI.at_;omega
  have eF:ea.open=false:=by
   cases ho:ea.open with
   |false=>rfl
   |true=>rw[fQ.els ho]at lZ;cases lZ
  refine .node jI.mv.inv λzB m6 ht=>⟨.if2 st.tok.at_ e ea eb,⟨(((((m1.trans hg.mv).trans fQ.mv).trans m4).trans jI.mv).trans m6).cast ?_ (by omega),?_,⟨ha,hg.aL,?_,fQ.aL,?_,jI.aL,?_,eF⟩,aA _,?_,?_,?_⟩⟩
  ·rw[ef,fW,uX,hc,D6,ie];simp[Sm.flat]
  ·rw[jI.mv.bP,Sm.bI,uX];simp only[Sm.size];omega
  ·have:=m1.at_;have:=hg.ge;omega
  ·have:=m1.at_;have:=hg.mv.at_;have:=fQ.ge;omega
  ·have:=m1.at_;have:=hg.mv.at_;have:=fQ.mv.at_;have:=m4.at_;have:=jI.ge;omega
  ·have:=m1.at_;have:=hg.mv.at_;have:=fQ.mv.at_;have:=m4.at_;have:=jI.mv.at_;have:=m6.at_;simp only[Sm.at_];omega
  ·simp only[Sm.dep];omega
  ·intro ho;rw[ht];exact jI.els ho
 ·simp only[aW,if_false];refine .node fQ.mv.inv λzB m6 ht=>⟨.if1 st.tok.at_ e ea,⟨(((m1.trans hg.mv).trans fQ.mv).trans m6).cast ?_ (by omega),?_,⟨ha,hg.aL,?_,fQ.aL,?_⟩,aA _,?_,?_,?_⟩⟩
  ·rw[ef,fW,hc,D6];simp[Sm.flat]
  ·rw[rz];simp only[Sm.size];omega
  ·have:=m1.at_;have:=hg.ge;omega
  ·have:=m1.at_;have:=hg.mv.at_;have:=fQ.ge;omega
  ·have:=m1.at_;have:=hg.mv.at_;have:=fQ.mv.at_;have:=m6.at_;simp only[Sm.at_];omega
  ·simp only[Sm.dep];omega
  ·intro _;rw[ht];exact lZ
theorem afS {sm:PM S Nat} {ex:Nat->PM S Nat} {r n:Nat} (eG:∀r',r'<r->zU K r' sm) (hex:∀r',r'<=r->oV K r' ex) (hr:R K st<=r) (hn:R K st<=n) (hi:Inv K st) (yC:1<=st.deep):
  Tr len (vI sm ex n st.tok.at_) st λa st'=>∃e,Cr K st e a st':=by
 have Pj:=hi.deep;have dR {m:List UInt8} (hb:br st.tok m=true):1<=R K st:=by unfold R;rw[if_neg (jM hb)];omega
 unfold vI;refine .bind (.is ?_);cases hb:br st.tok [123]with
 |true=>
  have h1:=dR hb;simp only[if_true];refine(K7 (r:=R K st-1) (eG _ (by omega)) (by omega) hn hi).mono λa st' ⟨l,h1,h2,h3,h4,h5⟩=>⟨.block st.tok.at_ l,⟨h1,by simp only[Sm.size];omega,⟨h3,h4⟩,aA _,by have:=h1.at_;simp only[Sm.at_];omega,by simp only[Sm.dep];omega,by simp[Sm.open]⟩⟩
 |false=>
 simp only[aW,if_false];refine .bind (.take hi (λak hb m1=>?_) λ_=>?_)
 ·have h1:=dR hb;have:=m1.less;exact abN (r:=R K st-1) (eG _ (by omega)) (hex _ (by omega)) (by omega) m1 (hi.lo (jM hb)).2
 simp only[aW,if_false];refine .bind (.take hi (λak hb m1=>?_) λ_=>?_)
 ·have h1:=dR hb;have ha:=(hi.lo (jM hb)).2;have fS:=m1.less;simp only[if_true];have ef:ak.nodes.length=st.nodes.length:=by rw[m1.bP];simp
  refine .bind ((LL (r:=R K st-1) (hex _ (by omega)) (by omega) m1.inv).mono λc aX ⟨e,hg,hd⟩=>?_);rw[m1.deep]at hd;have dj:=hg.mv.less;have fW:aX.nodes.length=st.nodes.length+e.size:=by rw[hg.mv.bP,Ex.bI,ef]
  refine .bind ((eG (R K st-1) (by omega) aX (by omega) hg.mv.inv).mono λa dw ⟨ea,fQ⟩=>?_);have HQ:=fQ.dep;rw[hg.mv.deep,m1.deep]at HQ;have rz:dw.nodes.length=st.nodes.length+e.size+ea.size:=by rw[fQ.mv.bP,Sm.bI,fW]
  have hc:c=st.nodes.length+e.size-1:=by have:=hg.at_;omega
  have D6:a=st.nodes.length+e.size+ea.size-1:=by have:=fQ.at_;omega
  refine .node fQ.mv.inv λzB m6 ht=>⟨.while st.tok.at_ e ea,⟨(((m1.trans hg.mv).trans fQ.mv).trans m6).cast ?_ (by omega),?_,⟨ha,hg.aL,?_,fQ.aL,?_⟩,aA _,?_,?_,?_⟩⟩
  ·rw[ef,fW,hc,D6];simp[Sm.flat]
  ·rw[rz];simp only[Sm.size];omega
  ·have:=m1.at_;have:=hg.ge;omega
  ·have:=m1.at_;have:=hg.mv.at_;have:=fQ.ge;omega
  ·have:=m1.at_;have:=hg.mv.at_;have:=fQ.mv.at_;have:=m6.at_;simp only[Sm.at_];omega
  ·simp only[Sm.dep];omega
  ·intro ho;rw[ht];exact fQ.els ho
 simp only[aW,if_false];refine .bind (.take hi (λak hb m1=>?_) λ_=>?_)
 ·have h1:=dR hb;have ha:=(hi.lo (jM hb)).2;have fS:=m1.less;simp only[if_true];have ef:ak.nodes.length=st.nodes.length:=by rw[m1.bP];simp
  refine .bind ((hex (R K st) (by omega) ak 1 (by omega) m1.inv (by omega)).mono λx aX ⟨e,hg,hd,_⟩=>?_);rw[Ex.uD hg.aL,m1.deep]at hd;refine .bind (.dm hg.mv.inv λdw _ m3=>?_);have hx:x=st.nodes.length+e.size-1:=by have:=hg.at_;omega
  refine .node m3.inv λiV m4 _=>⟨.ret st.tok.at_ e,⟨(((m1.trans hg.mv).trans m3).trans m4).cast ?_ (by omega),?_,⟨ha,hg.aL,?_⟩,aA _,?_,?_,?_⟩⟩
  ·rw[ef,hx];simp[Sm.flat]
  ·rw[m3.bP,hg.mv.bP,Ex.bI,ef];simp[Sm.size];omega
  ·have:=m1.at_;have:=hg.ge;omega
  ·have:=m1.at_;have:=hg.mv.at_;have:=m3.at_;have:=m4.at_;simp only[Sm.at_];omega
  ·simp only[Sm.dep];omega
  ·simp[Sm.open]
 simp only[aW,if_false];refine .bind (.take hi (λak hb m1=>?_) λ_=>?_)
 ·have ha:=(hi.lo (jM hb)).2;simp only[if_true];refine .bind (.dm m1.inv λdw _ m3=>?_);refine .node m3.inv λiV m4 _=>⟨.brk st.tok.at_,⟨((m1.trans m3).trans m4).cast (by simp[Sm.flat]) (by omega),?_,ha,aA _,?_,?_,?_⟩⟩
  ·rw[m3.bP,m1.bP];simp[Sm.size]
  ·have:=m1.at_;have:=m3.at_;have:=m4.at_;simp only[Sm.at_];omega
  ·simp only[Sm.dep];omega
  ·simp[Sm.open]
 simp only[aW,if_false];refine .bind (.take hi (λak hb m1=>?_) λ_=>?_)
 ·have ha:=(hi.lo (jM hb)).2;simp only[if_true];refine .bind (.dm m1.inv λdw _ m3=>?_);refine .node m3.inv λiV m4 _=>⟨.next st.tok.at_,⟨((m1.trans m3).trans m4).cast (by simp[Sm.flat]) (by omega),?_,ha,aA _,?_,?_,?_⟩⟩
  ·rw[m3.bP,m1.bP];simp[Sm.size]
  ·have:=m1.at_;have:=m3.at_;have:=m4.at_;simp only[Sm.at_];omega
  ·simp only[Sm.dep];omega
  ·simp[Sm.open]
 simp only[aW,if_false];refine .bind (.is ?_);cases hb:br st.tok [105,110,116]with
 |true=>exact S5 (r:=r) (hex r (aA _)) (by omega) hi yC
 |false=>
 simp only[aW,if_false];refine .bind (.is ?_);cases hb:br st.tok [99,104,97,114]with
 |true=>exact S5 (r:=r) (hex r (aA _)) (by omega) hi yC
 |false=>
 simp only[aW,if_false];exact aeG (hex r (aA _)) hr hi
theorem afY {sm:PM S Nat} {ex:Nat->PM S Nat} {r n:Nat} (eG:∀r',r'<r->zU K r' sm) (hex:∀r',r'<=r->oV K r' ex) (hr:R K st<=r) (hn:R K st<=n) (hi:Inv K st):
  Tr len (tO sm ex n) st λa st'=>∃e,Kh K st e a st':=by
 unfold tO;refine .bind (.down hi λhd=>.bind (.tok ?_));have oG:=hi.down hd;refine .bind ((afS (st:={st with deep:=st.deep+1}) eG hex hr hn oG (by simp only;omega)).mono λa st' ⟨e,hg⟩=>?_);obtain⟨bD,Ic⟩:=hg.mv.L7 hi.deep;refine .bind (.up bD (.pure ⟨e,⟨Ic,hg.at_,hg.aL,hg.ge,hg.lt,by have:=hg.dep;simp only at this;omega,hg.els⟩⟩))
theorem afH:∀(n r:Nat),2*r+3<=n->zU K r (zz (S:=S) n):=by
 intro n
 induction n with
 |zero=>intro r h;omega
 |succ n ih=>
  intro r h st hr hi;exact afY (r:=r) (λr' gy=>ih r' (by omega)) (λr' gy=>(VZ n).2 r' (by omega)) hr (by omega) hi
structure Cq (K:og S len) (st:PS S) (e:Dc) (a:Nat) (st':PS S):Prop where
 mv:Mv K st st' (e.flat st.nodes.length) 1
 at_:a+1=st.nodes.length+e.size
 aL:e.aL len
 ge:st.tok.at_<=e.at_
theorem K9 {n k:Nat} {nm:List UInt8} {ps:List nh} (hn:2*R K ak+3<=n) (hd:st.deep=0) (m1:Mv K st ak (ps.map mf) k) (hk:1<=k) (ha:st.tok.at_<len) (kC:gT nm) (ma:∀x∈ps,st.tok.at_<=x.1/\x.1<len/\gT x.2.1/\pW x.2.2):
  Tr len (np n st.tok.at_ nm (fy st.nodes.length ps.length)) ak λa st'=>∃e,Cq K st e a st':=by
 unfold np;refine .bind ((K7 (afH n (R K ak) hn) (by omega) (by omega) m1.inv).mono λb aX ⟨l,h1,h2,h3,h4,h5⟩=>?_);have ef:ak.nodes.length=st.nodes.length+ps.length:=by rw[m1.bP];simp
 refine .node h1.inv λdw m3 _=>⟨.fn st.tok.at_ nm ps ak.tok.at_ l,⟨((m1.trans h1).trans m3).cast ?_ (by omega),?_,⟨ha,kC,ma,by have:=m1.at_;omega,h3,h4,by omega⟩,aA _⟩⟩
 ·have hb:b=st.nodes.length+ps.length+Sm.aB l:=by omega
  rw[ef,hb];simp[Dc.flat,Sm.flat,List.length_range']
 ·rw[h1.bP,Sm.bI,ef];simp only[Sm.size,Dc.size];omega
theorem aaH {n k:Nat} {nm:List UInt8} (hn:2*R K ak+3<=n) (hd:st.deep=0) (m1:Mv K st ak [] k) (pn:br ak.tok [40]=true) (ha:st.tok.at_<len) (kC:gT nm):
  Tr len (wC n st.tok.at_ nm) ak λa st'=>∃e,Cq K st e a st':=by
 unfold wC;refine .bind (.cU m1.inv (jM pn) λaX m2=>?_);have dj:=m2.less;have m12:=m1.trans m2;refine .bind (.take m2.inv (λdw _ m3=>?_) λ_=>?_)
 ·simp only[if_true];have Bz:=m3.less;exact K9 (ps:=[]) (k:=1) (by omega) hd ((m12.trans m3).cast (by simp) (by omega)) (by omega) ha kC (by simp)
 ·simp only[aW,if_false];refine .bind (Tr.mono (Q:=λacc dw=>∃ps:List nh,Mv K st dw (ps.map mf) 1/\acc=fy st.nodes.length ps.length/\R K dw<=R K aX/\∀x∈ps,st.tok.at_<=x.1/\x.1<len/\gT x.2.1/\pW x.2.2) ?_ λacc dw ⟨ps,h1,h2,h3,h4⟩=>?_)
  ·refine Tr.loop (K:=K) (λacc dw=>∃ps:List nh,Mv K st dw (ps.map mf) 1/\acc=fy st.nodes.length ps.length/\R K dw<=R K aX/\∀x∈ps,st.tok.at_<=x.1/\x.1<len/\gT x.2.1/\pW x.2.2) ?_ n (by omega) ⟨[],m12.cast (by simp) (by omega),rfl,aA _,by simp⟩;intro acc dw ⟨ps,h1,h2,h3,h4⟩;unfold rO;refine .bind ((Ru h1.inv).mono λx iV ⟨m4,vd,hxa,Ev,Qe⟩=>?_);obtain⟨xa,xs,xt⟩:=x;simp only at vd Ev Qe;refine .bind (.node m4.inv λvH m5 _=>?_);have H4:=m4.less;have hl5:=m5.less;have uX:iV.nodes.length=st.nodes.length+ps.length:=by rw[m4.bP,h1.bP];simp
   have ma:∀y∈ps++[(xa,xs,xt)],st.tok.at_<=y.1/\y.1<len/\gT y.2.1/\pW y.2.2:=λy hy=>by
    rcases cX.1 hy with hy|hy
    ·exact h4 y hy
    ·simp at hy;subst hy;exact⟨by simp only;have:=h1.at_;omega,by simp only;omega,Ev,Qe⟩
   have sN:acc++[iV.nodes.length]=fy st.nodes.length (ps++[(xa,xs,xt)]).length:=by
    rw[h2,uX,az,p9,List.range'_1_concat]
   refine .bind (.take m5.inv (λzB _ m6=>?_) λ_=>?_)
   ·have hl6:=m6.less;exact .pure ⟨ps++[(xa,xs,xt)],(((h1.trans m4).trans m5).trans m6).cast (by simp[mf]) (by omega),sN,by omega,ma⟩
   ·simp only[aW,if_false];refine .bind (.dm m5.inv λzB _ m6=>?_);have hl6:=m6.less;exact .pure ⟨⟨ps++[(xa,xs,xt)],(((h1.trans m4).trans m5).trans m6).cast (by simp[mf]) (by omega),sN,by omega,ma⟩,by omega⟩
  ·subst h2;exact K9 (k:=1) (by omega) hd h1 (by omega) ha kC h4
theorem KQ {k:Nat} {nm:List UInt8} {ty:Int} (m1:Mv K st ak [] k) (hk:1<=k) (ha:st.tok.at_<len) (kC:gT nm) (eH:ty=2\/ty=3):Tr len (qX st.tok.at_ nm ty) ak λa st'=>∃e,Cq K st e a st':=by
 unfold qX;refine .bind (.dm m1.inv λaX _ m2=>.bind (.kind m2.inv (by omega) λdw hk3 m3=>.bind (.dm m3.inv λiV _ m4=>.bind (.dm m4.inv λvH _ m5=>?_))));refine .node m5.inv λzB m6 _=>⟨.array st.tok.at_ nm ty aX.tok.n,⟨(((((m1.trans m2).trans m3).trans m4).trans m5).trans m6).cast (by simp[Dc.flat]) (by omega),?_,⟨ha,kC,eH,m2.inv.tok.num hk3⟩,aA _⟩⟩
 rw[m5.bP,m4.bP,m3.bP,m2.bP,m1.bP];simp[Dc.size]
theorem VB {n:Nat} (hn:2*R K st+3<=n) (hd:st.deep=0) (hi:Inv K st):Tr len (sF n) st λa st'=>∃e,Cq K st e a st':=by
 unfold sF;refine .bind (.tok (.bind (.take hi (λak hb m1=>?_) λ_=>?_)))
 ·have ha:=(hi.lo (jM hb)).2;simp only[if_true];refine .bind (.kind m1.inv (by omega) λaX gi m2=>?_);exact KQ ((m1.trans m2).cast (by simp) (aA _)) (by omega) ha (m1.inv.tok.name gi) (.inl rfl)
 ·simp only[aW,if_false];refine .bind (.dm hi λak hb m1=>?_);have ha:=(hi.lo (jM hb)).2;refine .bind (.kind m1.inv (by omega) λaX gi m2=>?_);have kC:=m1.inv.tok.name gi;have m12:Mv K st aX [] 2:=(m1.trans m2).cast (by simp) (aA _);refine .bind (.take m2.inv (λdw _ m3=>?_) λ_=>?_)
  ·simp only[if_true];refine .node m3.inv λiV m4 _=>⟨.var st.tok.at_ ak.tok.text,⟨((m12.trans m3).trans m4).cast (by simp[Dc.flat]) (by omega),?_,⟨ha,kC⟩,aA _⟩⟩
   rw[m3.bP,m2.bP,m1.bP];simp[Dc.size]
  ·simp only[aW,if_false];refine .bind (.is ?_);have hl:=m12.less;cases lZ:br aX.tok [40]with
   |true=>exact aaH (by omega) hd m12 lZ ha kC
   |false=>exact KQ m12 (by omega) ha kC (.inr rfl)
theorem agO {n:Nat} (hn:2*R K st+3<=n) (hd:st.deep=0) (h0:st.nodes=[]) (hi:Inv K st):Tr len (qP n) st λ_ st'=>∃l:List Dc,st'.nodes=bJ l/\(∀x∈l,x.aL len)/\(bJ l).length<=4096:=by
 unfold qP;refine .bind (Tr.mono (Q:=λacc aX=>∃l:List Dc,Mv K st aX (Dc.cR 0 l) 0/\acc=Dc.roots 0 l/\∀x∈l,x.aL len) ?_ λacc aX ⟨l,h1,h2,h3⟩=>?_)
 ·refine Tr.loop (K:=K) (λacc aX=>∃l:List Dc,Mv K st aX (Dc.cR 0 l) 0/\acc=Dc.roots 0 l/\∀x∈l,x.aL len) ?_ n (by omega) ⟨[],(Mv.refl hi).cast rfl (aA _),rfl,by simp⟩;intro acc aX ⟨l,h1,h2,h3⟩;unfold sE;refine .bind (.tok ?_);by_cases hk:aX.tok.kind=0
  ·rw[if_pos hk];exact .pure ⟨l,h1,h2,h3⟩
  ·rw[if_neg hk];have fS:=h1.less;refine .bind ((VB (n:=n) (by omega) (by rw[h1.deep,hd]) h1.inv).mono λa dw ⟨e,hg⟩=>?_);have fW:aX.nodes.length=Dc.aB l:=by rw[h1.bP,h0,Dc.fk];simp
   have Bz:=hg.mv.less;refine .pure ⟨⟨l++[e],(h1.trans hg.mv).cast (by rw[Dc.uO,fW,dI]) (by omega),?_,λx hx=>?_⟩,by omega⟩
   ·rw[Dc.tJ,h2];congr 2;have:=hg.at_;omega
   ·rcases cX.1 hx with hx|hx
    ·exact h3 x hx
    ·simp at hx;subst hx;exact hg.aL
 ·refine .node h1.inv λdw m3 _=>⟨l,?_,h3,?_⟩
  ·rw[m3.nodes,h1.nodes,h0,h2];rfl
  ·have:=m3.inv.nodes;rw[m3.nodes,h1.nodes,h0,h2]at this;exact this
end
end Go.Front
end
section
set_option maxRecDepth 100000
namespace Go.Front
def fZ (m:List UInt8):Tok:=⟨2,0,m,0⟩
def aC (m:List UInt8):Tok:=⟨5,0,m,0⟩
def mT (s:List UInt8):Tok:=⟨1,0,s,0⟩
def vt (n:Int):Tok:=⟨3,0,[],n⟩
def Ch (s:List UInt8):Tok:=⟨4,0,s,0⟩
inductive kW:Tok->Prop
 |kw {m:List UInt8} (h:m∈words):kW (fZ m)
 |mk {m:List UInt8} (h:m∈marks):kW (aC m)
 |nm {s:List UInt8} (h:gT s):kW (mT s)
 |num {n:Int} (h1:0<=n) (h2:n<9223372036854775808):kW (vt n)
 |txt {s:List UInt8} (h:FK s):kW (Ch s)
def Tok.sp (t:Tok):List UInt8:=if t.kind=3 then iZ t.n else if t.kind=4 then xu t.text else t.text
def spell (l:List Tok):List UInt8:=l.flatMap λt=>aK t.sp
theorem gW (t:Tok) (l:List Tok):spell (t::l)=aK t.sp++spell l:=rfl
theorem ju (l r:List Tok):spell (l++r)=spell l++spell r:=by unfold spell;exact List.flatMap_append
@[simp] theorem tN (m:List UInt8):(fZ m).sp=m:=rfl
@[simp] theorem iS (m:List UInt8):(aC m).sp=m:=rfl
@[simp] theorem zA (m:List UInt8):(mT m).sp=m:=rfl
@[simp] theorem JG (n:Int):(vt n).sp=iZ n:=rfl
@[simp] theorem Sj (m:List UInt8):(Ch m).sp=xu m:=rfl
theorem CY {d:Nat} (h:d<10):(UInt8.ofNat (48+d)).toNat=48+d:=by
 rw[UInt8.toNat_ofNat'];omega
theorem LY (u:Nat):∀b∈r7 u,48<=b.toNat/\b.toNat<=57:=by
 induction u using Nat.strongRecOn with
 |_ u ih=>
  intro b hb;rw[r7]at hb;split at hb
  ·next h=>
   rw[oZ]at hb;subst hb;rw[CY h];omega
  ·next h=>
   rcases cX.1 hb with hb|hb
   ·exact ih _ (by omega) b hb
   ·rw[oZ]at hb;subst hb;rw[CY (Nat.mod_lt _ (by decide))];omega
theorem L0 (u:Nat):∃c r,r7 u=c::r/\(c.toNat=48->r=[]):=by
 have key:∀u,u≠0->∃c r,r7 u=c::r/\c.toNat≠48:=by
  intro u
  induction u using Nat.strongRecOn with
  |_ u ih=>
   intro h0;rw[r7];by_cases h:u<10
   ·rw[dif_pos h];exact⟨_,_,rfl,by rw[CY h];omega⟩
   ·rw[dif_neg h];obtain⟨c,r,he,hc⟩:=ih (u/10) (by omega) (by omega);exact⟨c,_,by rw[he,eI],hc⟩
 by_cases h0:u=0
 ·subst h0;rw[r7,dif_pos (by decide)];exact⟨_,_,rfl,λ_=>rfl⟩
 ·obtain⟨c,r,he,hc⟩:=key u h0;exact⟨c,r,he,λh=>absurd h hc⟩
theorem agx (M:Nat) (hM:M<=18446744073709551615):∀(u acc:Nat) (r:List UInt8),acc*10^Lib.nDigits u+u<=M->qW M acc (r7 u++r)=qW M (acc*10^Lib.nDigits u+u) r:=by
 intro u
 induction u using Nat.strongRecOn with
 |_ u ih=>
  intro acc r h1;have step:∀(a d:Nat) (r:List UInt8),d<10->a*10+d<=M->qW M a (UInt8.ofNat (48+d)::r)=qW M (a*10+d) r:=by
   intro a d r hd ha;rw[qW,CY hd,if_pos (by omega),if_neg (by omega),if_neg (by omega)];congr 1;omega
  by_cases h:u<10
  ·rw[Lib.nDigits_small h]at h1|-;rw[r7,dif_pos h,Nat.pow_one]at*;exact step acc u r h h1
  ·rw[Lib.nDigits_big h]at h1|-;rw[r7,dif_neg h,aO];have e:acc*10^(Lib.nDigits (u/10)+1)=acc*10^Lib.nDigits (u/10)*10:=by rw[Nat.pow_succ,Nat.mul_assoc]
   rw[e]at h1|-;rw[ih (u/10) (by omega) acc _ (by omega),eI,fx];rw[step _ _ _ (by omega) (by omega)];congr 1;omega
theorem abY {n:Int} (h1:0<=n) (h2:n<9223372036854775808):jA 64 (iZ n)=.ok n:=by
 unfold iZ;rw[if_neg (by omega)];obtain⟨c,r,he,_⟩:=L0 n.toNat;have hc:=LY n.toNat c (by rw[he];simp);have hu:Lib.parseUintB 64 (c::r)=.ok n.toNat:=by
  unfold Lib.parseUintB;rw[if_neg (by simp),<-he];have:=agx (2^64-1) (by decide) n.toNat 0 [] (by rw[Nat.zero_mul];omega);rw[cg,Nat.zero_mul,dI]at this;rw[this];rfl
 rw[he,jA];rw[if_neg (by omega),hu];have e:(2:Nat)^(64-1)=9223372036854775808:=by decide
 simp only;rw[if_neg (by rw[e];omega),if_neg (λh=>by omega),if_neg (by omega)];congr 1;omega
theorem JS {f:UInt8->Bool} {b:UInt8} {r:List UInt8} (hb:f b=false):∀(s:List UInt8),(∀x∈s,f x=true)->(s++b::r).takeWhile f=s
 | [],_=>by simp[hb]
 |c::s,h=>by rw[eI,List.takeWhile_cons,if_pos (h c (by simp)),JS hb s λx hx=>h x (ua _ hx)]
theorem L6 {c:UInt8} (h:48<=c.toNat/\c.toNat<=57):dK c=false/\isDigit c=true:=by
 constructor
 ·unfold dK;simp;omega
 ·unfold isDigit;simp;omega
theorem SC {b:UInt8} {r:List UInt8}:∀(s:List UInt8) (n:Nat),s.length+n<=100->(∀x∈s,(32<=x.toNat/\x.toNat<=126)\/x=9\/x=10)->dd (cz s++34::b::r) n=some (s,(cz s).length)
 | [],n,_,_=>by
  show dd (34::b::r) n=some ([],0);rw[dd,if_pos (show(34:UInt8).toNat=34 from rfl)]
 |c::s,n,hn,hs=>by
  have ih:=SC (b:=b) (r:=r) s (n+1) (by rw[cr]at hn;omega) λx hx=>hs x (ua _ hx);rw[cr]at hn;have uW:n≠100:=by omega
  have two (d x:UInt8) (hd:fU d=some x) (hx:x≠0):dd (92::d::(cz s++34::b::r)) n=some (x::s,(cz s).length+2):=by
   rw[dd,if_neg (by decide),if_pos (show(92:UInt8).toNat=92 from rfl),hd];simp only;rw[if_neg (by intro h;rcases h with h|h;exact hx h;exact uW h),ih];rfl
  have hc:=hs c (by simp);unfold cz;by_cases h1:c=10
  ·rw[if_pos h1,h1];exact two 110 10 rfl (by decide)
  by_cases h2:c=9
  ·rw[if_neg h1,if_pos h2,h2];exact two 116 9 rfl (by decide)
  by_cases h3:c=92
  ·rw[if_neg h1,if_neg h2,if_pos h3,h3];exact two 92 92 rfl (by decide)
  by_cases h4:c=34
  ·rw[if_neg h1,if_neg h2,if_neg h3,if_pos h4,h4];exact two 34 34 rfl (by decide)
  rw[if_neg h1,if_neg h2,if_neg h3,if_neg h4];have gd:32<=c.toNat/\c.toNat<=126:=by
   rcases hc with h|h|h
   ·exact h
   ·exact absurd h h2
   ·exact absurd h h1
  have n34:c.toNat≠34:=λh=>h4 (ke.1 h);have n92:c.toNat≠92:=λh=>h3 (ke.1 h);obtain⟨d,q,hq⟩:∃d q,cz s++34::b::r=d::q:=by cases hl:cz s with
   |nil=>exact⟨_,_,rfl⟩
   |cons x y=>exact⟨_,_,rfl⟩
  rw[hq]at ih;rw[aO,uf,hq,dd,if_neg n34,if_neg n92,if_pos gd,if_neg uW,ih];rfl
theorem adV {t:Tok} (h:kW t) {b:UInt8} (hb:b=10\/b=32) (r:List UInt8):one (t.sp++b::r)=some (t.kind,t.text,t.n,t.sp.length)/\skip false (t.sp++b::r)=0:=by
 have cw:dK b=false/\isDigit b=false:=by rcases hb with rfl|rfl<;>exact⟨by decide,by decide⟩
 have ahw:b≠47:=by rcases hb with rfl|rfl<;>decide
 have I6:∀(c:UInt8) (l:List UInt8),33<=c.toNat->c.toNat≠47->skip false (c::l)=0:=by
  intro c l h1 h2;rw[skip,if_neg (by omega),if_neg (by omega)]
 cases h with
 | @kw m hm=>
  rcases hb with rfl|rfl
  all_goals
   simp only[words,bS,ec,or_false]at hm;rcases hm with rfl|rfl|rfl|rfl|rfl|rfl|rfl|rfl
   all_goals exact⟨by kernel_rfl,by kernel_rfl⟩
 | @mk m hm=>
  rcases hb with rfl|rfl
  all_goals
   simp only[marks,bS,ec,or_false]at hm;rcases hm with rfl|rfl|rfl|rfl|rfl|rfl|rfl|rfl|rfl|rfl|rfl|rfl|rfl|rfl|rfl|rfl|rfl|rfl|rfl|rfl|rfl|rfl|rfl|rfl|rfl|rfl|rfl|rfl|rfl
   all_goals exact⟨by kernel_rfl,by kernel_rfl⟩
 | @nm s hs=>
  obtain⟨hlen,hw,c,q,rfl,hc,hq⟩:=hs;have hcn:65<=c.toNat:=by
   unfold dK at hc;simp at hc;omega
  constructor
  ·rw[zA,eI];unfold one;dsimp only;rw[if_pos hc,<-eI,JS (f:=λc=>dK c||isDigit c) (by simp[cw]) (c::q) (λx hx=>by
    rcases bS.1 hx with rfl|hx
    ·simp[hc]
    ·simpa using hq x hx)]
   rw[if_neg (by rw[hw];decide),if_pos hlen];rfl
  ·rw[zA,eI];exact I6 c _ (by omega) (by omega)
 | @num n h1 h2=>
  obtain⟨c,q,he,h48⟩:=L0 n.toNat;have hi:iZ n=c::q:=by unfold iZ;rw[if_neg (by omega),he]
  have hd:=LY n.toNat;rw[he]at hd;have Ea:=hd c (by simp);obtain⟨hl,hdg⟩:=L6 Ea;constructor
  ·rw[JG,hi,eI];unfold one;dsimp only;rw[if_neg (by rw[hl];decide),if_pos hdg,<-eI,JS (f:=isDigit) cw.2 (c::q) (λx hx=>(L6 (hd x hx)).2),<-hi,abY h1 h2];unfold numOf;simp only;rw[if_neg (by
    rintro⟨h3,h4⟩;rw[hi,h48 h3]at h4;exact h4 rfl)]
   rfl
  ·rw[JG,hi,eI];by_cases h47:c.toNat=47
   ·omega
   ·exact I6 c _ (by omega) h47
 | @txt s hs=>
  constructor
  ·rw[Sj];show one (34::(cz s++[34])++b::r)=_;rw[eI,aO,uf];unfold one;dsimp only;rw[if_neg (by decide),if_neg (by decide),if_pos (show(34:UInt8).toNat=34 from rfl),SC s 0 (by have:=hs.1;omega) hs.2];simp[Ch,xu]
  ·rw[Sj];exact I6 34 _ (by decide) (by decide)
def vU (S:hJ):S.Pos->List Tok->Prop
 |q,[]=>∃t q',S.eP q=.inr (t,q')/\rU t ⟨0,0,[],0⟩
 |q,t::l=>∃t' q',S.eP q=.inr (t',q')/\rU t' t/\vU S q' l
theorem aeQ (s:List UInt8):∃b:UInt8,(b=10\/b=32)/\aK s=s++[b]:=by
 unfold aK;split
 ·exact⟨10,.inl rfl,rfl⟩
 ·exact⟨32,.inr rfl,rfl⟩
theorem OG {s:List UInt8}:∀(l:List Tok) (a:Nat),(∀t∈l,kW t)->(s.drop a=spell l\/∃b,(b=10\/b=32)/\s.drop a=b::spell l)->vU (ai s) a l
 | [],a,_,h=>by
  have pG:∃k,skip false (s.drop a)=k/\(s.drop a).drop k=[]:=by
   rcases h with h|⟨b,hb,h⟩
   ·exact⟨0,by rw[h];rfl,by rw[h];rfl⟩
   ·refine⟨1,?_,by rw[h];rfl⟩;rw[h];show skip false [b]=1;rw[skip,if_pos (by rcases hb with rfl|rfl<;>decide)];rfl
  obtain⟨k,h1,h2⟩:=pG;have hc:=LU (s:=s) (a:=a) rfl;rw[h1,h2]at hc;exact⟨_,_,Q7 hc,rfl,rfl,rfl⟩
 |t::l,a,hl,h=>by
  obtain⟨b,hb,hp⟩:=aeQ t.sp;obtain⟨ho,P0⟩:=adV (hl t (by simp)) hb (spell l);have he:spell (t::l)=t.sp++b::spell l:=by rw[gW,hp,aO,uf]
  rw[he]at h;have pG:∃k,skip false (s.drop a)=k/\(s.drop a).drop k=t.sp++b::spell l:=by
   rcases h with h|⟨b',bZ,h⟩
   ·exact⟨0,by rw[h,P0],by rw[h];rfl⟩
   ·refine⟨1,?_,by rw[h];rfl⟩;rw[h,skip,if_pos (by rcases bZ with rfl|rfl<;>decide),P0]
  obtain⟨k,h1,h2⟩:=pG;have hc:=LU (s:=s) (a:=a) rfl;rw[h1,h2,ho]at hc;refine⟨_,_,Q7 hc,⟨rfl,rfl,rfl⟩,OG l _ (λx hx=>hl x (ua _ hx)) (.inr ⟨b,hb,?_⟩)⟩;show s.drop (a+k+t.sp.length)=_;rw[<-oX,<-oX,h2];exact List.drop_left
end Go.Front
end
section
set_option maxRecDepth 100000
namespace Go.Front
def db:List Tok->Tok
 | []=>⟨0,0,[],0⟩
 |t::_=>t
structure Cf where
 ts:List Tok
 nd:List Node
 d:Nat
section
variable {S:hJ} {α β:Type}
structure Is (S:hJ) (st:PS S) (A:Cf):Prop where
 tok:rU st.tok (db A.ts)
 rest:A.ts≠[]->vU S st.pos A.ts.tail
 nodes:st.nodes.map Node.strip=A.nd
 deep:st.deep=A.d
def Rb (m:PM S α) (A:Cf) (Q:α->Prop) (C:Cf):Prop:=
 ∀st:PS S,Is S st A->∃a st',m st=some (.ok (a,st'))/\Q a/\Is S st' C
variable {m:PM S α} {k:α->PM S β} {A B C:Cf} {Q:α->Prop} {P:β->Prop} {ts:List Tok} {nd:List Node} {d:Nat} {t:Tok}
theorem Rb.bind (h:Rb m A Q B) (g:∀a,Q a->Rb (k a) B P C):Rb (m>>=k) A P C:=by
 intro st hs;obtain⟨a,st',h1,h2,h3⟩:=h st hs;obtain⟨b,aX,h4,h5,h6⟩:=g a h2 st' h3;exact⟨b,aX,by rw[PM.lQ h1];exact h4,h5,h6⟩
theorem Rb.pure {a:α} (h:Q a):Rb (Pure.pure a:PM S α) A Q A:=λst hs=>⟨a,st,rfl,h,hs⟩
theorem Rb.to {C':Cf} (h:Rb m A Q C) (e:C=C'):Rb m A Q C':=e▸h
theorem Rb.from {A':Cf} (h:Rb m A Q C) (e:A'=A):Rb m A' Q C:=e▸h
theorem Rb.mono {Q':α->Prop} (h:Rb m A Q C) (e:∀a,Q a->Q' a):Rb m A Q' C:=λst hs=>by
 obtain⟨a,st',h1,h2,h3⟩:=h st hs;exact⟨a,st',h1,e a h2,h3⟩
theorem vU.eP {q:S.Pos}:∀{l:List Tok},vU S q l->∃t' q',S.eP q=.inr (t',q')/\rU t' (db l)/\(l≠[]->vU S q' l.tail)
 | [],⟨t,q',h1,h2⟩=>⟨t,q',h1,h2,λh=>absurd rfl h⟩
 |_::_,⟨t,q',h1,h2,h3⟩=>⟨t,q',h1,h2,λ_=>h3⟩
theorem Rb.eB {k:Tok->PM S β} (h:∀t',rU t' (db A.ts)->Rb (k t') A P C):Rb (eB>>=k) A P C:=by
 intro st hs;exact h st.tok hs.tok st hs
theorem Rb.is {w:List UInt8} {k:Bool->PM S β} (h:Rb (k (br (db A.ts) w)) A P C):Rb (jq w>>=k) A P C:=by
 intro st hs;rw[ED,hs.tok.br w];exact h st hs
theorem Rb.cU {k:Tok->PM S β} (h:∀t',rU t' t->Rb (k t') ⟨ts,nd,d⟩ P C):Rb (cU>>=k) ⟨t::ts,nd,d⟩ P C:=by
 intro st hs;obtain⟨t',q',h1,h2,h3⟩:=(hs.rest nofun).eP;obtain⟨tk,ps,ns,dp⟩:=st;rw[I4 h1];exact h tk hs.tok _ ⟨h2,h3,hs.nodes,hs.deep⟩
theorem Rb.xC {w:List UInt8} {k:Bool->PM S β} (hb:br t w=true) (h:Rb (k true) ⟨ts,nd,d⟩ P C):Rb (ep w>>=k) ⟨t::ts,nd,d⟩ P C:=by
 intro st hs;obtain⟨t',q',h1,h2,h3⟩:=(hs.rest nofun).eP;obtain⟨tk,ps,ns,dp⟩:=st;have hw:=hs.tok.br w;rw[agj (hw.trans hb) h1];exact h _ ⟨h2,h3,hs.nodes,hs.deep⟩
theorem Rb.oQ {w:List UInt8} {k:Bool->PM S β} (hb:br (db A.ts) w=false) (h:Rb (k false) A P C):Rb (ep w>>=k) A P C:=by
 intro st hs;have hw:=hs.tok.br w;unfold ep;rw[PM.bind_assoc,ED,hw,hb];exact h st hs
theorem Rb.dm {w:List UInt8} {k:Unit->PM S β} (hb:br t w=true) (h:Rb (k ()) ⟨ts,nd,d⟩ P C):Rb (eL w>>=k) ⟨t::ts,nd,d⟩ P C:=by
 intro st hs;obtain⟨t',q',h1,h2,h3⟩:=(hs.rest nofun).eP;obtain⟨tk,ps,ns,dp⟩:=st;have hw:=hs.tok.br w;rw[adv (hw.trans hb) h1];exact h _ ⟨h2,h3,hs.nodes,hs.deep⟩
theorem Rb.kind {n:Nat} {k:Tok->PM S β} (hb:t.kind=n) (h:∀t',rU t' t->Rb (k t') ⟨ts,nd,d⟩ P C):Rb (me n>>=k) ⟨t::ts,nd,d⟩ P C:=by
 intro st hs;obtain⟨t',q',h1,h2,h3⟩:=(hs.rest nofun).eP;obtain⟨tk,ps,ns,dp⟩:=st;have hw:tk.kind=t.kind:=hs.tok.1;rw[acd (hw.trans hb) h1];exact h tk hs.tok _ ⟨h2,h3,hs.nodes,hs.deep⟩
theorem Rb.node {x:Node} {Q:Nat->Prop} (hn:nd.length<4096) (h:Q nd.length):Rb (cH x:PM S Nat) ⟨ts,nd,d⟩ Q ⟨ts,nd++[x.strip],d⟩:=by
 intro st hs;have hl:st.nodes.length=nd.length:=by have:=congrArg List.length hs.nodes;simpa using this
 refine⟨st.nodes.length,{st with nodes:=st.nodes++[x]},by unfold cH;rw[if_neg (by omega)],by rw[hl];exact h,hs.tok,hs.rest,?_,hs.deep⟩;rw[fi,hs.nodes];rfl
theorem Rb.nodeAt {x:Nat} {k:Node->PM S β} (hx:x<nd.length) (h:∀y,nd[x]? =some y.strip->Rb (k y) ⟨ts,nd,d⟩ P C):Rb (iu x>>=k) ⟨ts,nd,d⟩ P C:=by
 intro st hs;have hn:st.nodes.map Node.strip=nd:=hs.nodes;have hl:st.nodes.length=nd.length:=by have:=congrArg List.length hn;simpa using this
 have hg:st.nodes[x]? =some st.nodes[x]:=List.getElem?_eq_getElem (by omega);have h1:iu x st=some (.ok (st.nodes[x],st)):=by unfold iu;rw[hg]
 rw[PM.lQ h1];refine h _ ?_ st hs;have:=congrArg (·[x]?) hn;simp only[List.getElem?_map,hg]at this;exact this.symm
theorem Rb.down {k:Unit->PM S β} (hd:d<40) (h:Rb (k ()) ⟨ts,nd,d+1⟩ P C):Rb (ql>>=k) ⟨ts,nd,d⟩ P C:=by
 intro st hs;have jk:st.deep=d:=hs.deep;have h1:ql st=some (.ok ((),{st with deep:=st.deep+1})):=by unfold ql;rw[if_neg (by omega)]
 rw[PM.lQ h1];exact h _ ⟨hs.tok,hs.rest,hs.nodes,by rw[<-jk]⟩
theorem Rb.up {k:Unit->PM S β} (h:Rb (k ()) ⟨ts,nd,d⟩ P C):Rb (kO>>=k) ⟨ts,nd,d+1⟩ P C:=by
 intro st hs;have jk:st.deep=d+1:=hs.deep;have h1:kO st=some (.ok ((),{st with deep:=st.deep-1})):=by unfold kO;rw[if_neg (by omega)]
 rw[PM.lQ h1];exact h _ ⟨hs.tok,hs.rest,hs.nodes,by rw[jk];rfl⟩
theorem Rb.y8 {body:α->PM S (Sum α β)} {n:Nat} {a a':α} (h:Rb (body a) A (·=.inl a') B) (g:Rb (dt body n a') B P C):Rb (dt body (n+1) a) A P C:=by
 unfold dt;exact h.bind λr hr=>by subst hr;exact g
theorem Rb.y9 {body:α->PM S (Sum α β)} {n:Nat} {a:α} {b:β} (h:Rb (body a) A (·=.inr b) B) (hp:P b):Rb (dt body (n+1) a) A P B:=by
 unfold dt;exact h.bind λr hr=>by subst hr;exact .pure hp
def jf (is:Bool) (l:List Tok):List Tok:=if is then aC [40]::(l++[aC [41]])else l
mutual
def Ex.tk:Ex->List Tok
 | .num _ n=>[vt n]
 | .text _ s=>[Ch s]
 | .name _ s=>[mT s]
 | .call _ s l=>mT s::aC [40]::((Ex.kM l).tail++[aC [41]])
 | .index x i=>jf x.gD x.tk++aC [91]::(i.tk++[aC [93]])
 | .un _ op x=>aC (fE op)::jf x.kD x.tk
 | .bin op x y=>jf (decide (x.lv<level op)) x.tk++aC (fE op)::jf (decide (y.lv<=level op)) y.tk
def Ex.kM:List Ex->List Tok
 | []=>[]
 |x::l=>aC [44]::(x.tk++Ex.kM l)
end
theorem JI (is:Bool) (l:List Tok):spell (jf is l)=jg is (spell l):=by
 cases is
 ·rfl
 ·show spell (aC [40]::(l++[aC [41]]))=aK [40]++spell l++aK [41];rw[gW,ju,aO];congr 2
mutual
theorem Ex.iU:∀e:Ex,spell e.tk=e.pr
 | .num _ n=>by simp[Ex.tk,spell,Ex.pr]
 | .text _ s=>by simp[Ex.tk,spell,Ex.pr]
 | .name _ s=>by simp[Ex.tk,spell,Ex.pr]
 | .call _ s l=>by
  have h:=Ex.Ss l;simp only[Ex.tk,Ex.pr,gW,ju,zA,iS];cases l with
  |nil=>simp[Ex.kM,Ex.fN,nP,spell]
  |cons x l=>
   simp only[Ex.kM,List.tail_cons,Ex.fN,eU,nP,gW,ju,iS,aO]at h|-;have h2:=List.append_cancel_left h;rw[<-aO (spell x.tk),h2];simp[spell]
 | .index x i=>by simp only[Ex.tk,Ex.pr,ju,gW,JI,Ex.iU x,Ex.iU i,iS,aO];simp[spell]
 | .un _ op x=>by simp only[Ex.tk,Ex.pr,gW,JI,Ex.iU x,iS]
 | .bin op x y=>by simp only[Ex.tk,Ex.pr,ju,gW,JI,Ex.iU x,Ex.iU y,iS,aO]
theorem Ex.Ss:∀l:List Ex,spell (Ex.kM l)=(Ex.fN l).flatMap λy=>aK [44]++y
 | []=>rfl
 |x::l=>by simp only[Ex.kM,Ex.fN,eU,gW,ju,Ex.iU x,Ex.Ss l,iS,aO]
end
theorem Re:∀op:Nat,1<=op->op<=21->fE op∈marks:=λop h1 h2=>(by decide:∀q<22,1<=q->fE q∈marks) op (by omega) h1
theorem CN {b:Bool} {l:List Tok} (h:∀t∈l,kW t):∀t∈jf b l,kW t:=by
 intro t ht;cases b
 ·exact h t ht
 ·simp only[jf,if_true,bS,cX,ec,or_false]at ht;rcases ht with rfl|ht|rfl
  ·exact .mk (by decide)
  ·exact h t ht
  ·exact .mk (by decide)
mutual
theorem Ex.iw {len:Nat}:∀e:Ex,e.aL len->∀t∈e.tk,kW t
 | .num _ n,h,t,ht=>by simp[Ex.tk]at ht;subst ht;exact .num h.2.1 h.2.2
 | .text _ s,h,t,ht=>by simp[Ex.tk]at ht;subst ht;exact .txt h.2
 | .name _ s,h,t,ht=>by simp[Ex.tk]at ht;subst ht;exact .nm h.2
 | .call _ s l,h,t,ht=>by
  simp only[Ex.tk,bS,cX,ec,or_false]at ht;rcases ht with rfl|rfl|ht|rfl
  ·exact .nm h.2.1
  ·exact .mk (by decide)
  ·exact Ex.SM l h.2.2 t (List.mem_of_mem_tail ht)
  ·exact .mk (by decide)
 | .index x i,h,t,ht=>by
  simp only[Ex.tk,bS,cX,ec,or_false]at ht;rcases ht with ht|rfl|ht|rfl
  ·exact CN (Ex.iw x h.1) t ht
  ·exact .mk (by decide)
  ·exact Ex.iw i h.2.1 t ht
  ·exact .mk (by decide)
 | .un _ op x,h,t,ht=>by
  simp only[Ex.tk,bS]at ht;rcases ht with rfl|ht
  ·exact .mk (Re op h.2.2.2.1 (by have:=h.2.2.2.2;omega))
  ·exact CN (Ex.iw x h.2.1) t ht
 | .bin op x y,h,t,ht=>by
  simp only[Ex.tk,bS,cX]at ht;rcases ht with ht|rfl|ht
  ·exact CN (Ex.iw x h.1) t ht
  ·exact .mk (Re op (by have:=h.2.2.2.1;omega) h.2.2.2.2)
  ·exact CN (Ex.iw y h.2.1) t ht
theorem Ex.SM {len a:Nat}:∀l:List Ex,Ex.fm len a l->∀t∈Ex.kM l,kW t
 | [],_,t,ht=>by cases ht
 |x::l,h,t,ht=>by
  simp only[Ex.kM,bS,cX]at ht;rcases ht with rfl|ht|ht
  ·exact .mk (by decide)
  ·exact Ex.iw x h.1 t ht
  ·exact Ex.SM l h.2.2 t ht
end
inductive tX:Tok->Prop
 |num (n:Int):tX (vt n)
 |txt (s:List UInt8):tX (Ch s)
 |nm (s:List UInt8):tX (mT s)
 |mk {m:List UInt8} (h:m∈([[40],[45],[33],[126]]:List (List UInt8))):tX (aC m)
theorem tX.not {t:Tok} (h:tX t) {m:List UInt8} (hm:m∉([[40],[45],[33],[126]]:List (List UInt8))):br t m=false:=by
 cases h with
 |num n=>rfl
 |txt s=>rfl
 |nm s=>rfl
 | @mk m' h=>
  unfold br aC;have:(m'==m)=false:=by rw[beq_eq_false_iff_ne];rintro rfl;exact hm h
  simp only[this,Bool.and_false]
theorem Ex.fst {len:Nat}:∀(e:Ex) (ts:List Tok),e.aL len->tX (db (e.tk++ts))
 | .num _ n,ts,_=>.num n
 | .text _ s,ts,_=>.txt s
 | .name _ s,ts,_=>.nm s
 | .call _ s l,ts,_=>.nm s
 | .index x i,ts,h=>by
  rw[Ex.tk,aO];cases hb:x.gD
  ·exact Ex.fst x _ h.1
  ·exact .mk (by decide)
 | .un _ op x,ts,h=>by
  have:=(by decide:∀q<4,1<=q->fE q∈([[40],[45],[33],[126]]:List (List UInt8))) op (by have:=h.2.2.2.2;omega) h.2.2.2.1;exact .mk this
 | .bin op x y,ts,h=>by
  rw[Ex.tk,aO];cases hb:decide (x.lv<level op)
  ·exact Ex.fst x _ h.1
  ·exact .mk (by decide)
theorem Ex.OX:∀(e:Ex) (ts:List Tok),e.gD=false->br (db (e.tk++ts)) [45]=false/\br (db (e.tk++ts)) [33]=false/\br (db (e.tk++ts)) [126]=false
 | .num _ n,ts,_=>⟨rfl,rfl,rfl⟩
 | .text _ s,ts,_=>⟨rfl,rfl,rfl⟩
 | .name _ s,ts,_=>⟨rfl,rfl,rfl⟩
 | .call _ s l,ts,_=>⟨rfl,rfl,rfl⟩
 | .index x i,ts,_=>by
  rw[Ex.tk,aO];cases hb:x.gD
  ·exact Ex.OX x _ hb
  ·exact⟨rfl,rfl,rfl⟩
 | .un _ _ _,_,h=>by cases h
 | .bin _ _ _,_,h=>by cases h
def fl (b:Nat) (e:Ex):List Node:=(e.flat b).map Node.strip
def qo (b:Nat) (l:List Ex):List Node:=(Ex.cR b l).map Node.strip
theorem dQ (b:Nat) (e:Ex):(fl b e).length=e.size:=by unfold fl;rw[lz,Ex.bI]
theorem OS (b:Nat) (l:List Ex):(qo b l).length=Ex.aB l:=by unfold qo;rw[lz,Ex.fk]
theorem OR (b:Nat) (x:Ex) (l:List Ex):qo b (x::l)=fl b x++qo (b+x.size) l:=by unfold qo fl;rw[Ex.cR,fi]
def calm (t:Tok):Prop:=br t [40]=false/\br t [91]=false
structure ni (n len:Nat) (op:PM S Nat) (ex:Nat->PM S Nat):Prop where
 o:∀(e:Ex) (ts:List Tok) (nd:List Node) (d:Nat),e.kD=false->4*e.size+1<=n->e.aL len->e.dep+d<=40->nd.length+e.size<=4096->calm (db ts)->Rb op ⟨e.tk++ts,nd,d⟩ (·=nd.length+e.size-1) ⟨ts,nd++fl nd.length e,d⟩
 q:∀(e:Ex) (ts:List Tok) (nd:List Node) (d:Nat),4*e.size+3<=n->e.aL len->1+e.dep+d<=40->nd.length+e.size<=4096->calm (db ts)->Rb op ⟨aC [40]::(e.tk++aC [41]::ts),nd,d⟩ (·=nd.length+e.size-1) ⟨ts,nd++fl nd.length e,d⟩
 x:∀(e:Ex) (l:Nat) (ts:List Tok) (nd:List Node) (d:Nat),l<=e.lv->4*e.size+2<=n->e.aL len->e.dep+d<=40->nd.length+e.size<=4096->calm (db ts)->pS l (db ts)->Rb (ex l) ⟨e.tk++ts,nd,d⟩ (·=nd.length+e.size-1) ⟨ts,nd++fl nd.length e,d⟩
 y:∀(e:Ex) (l:Nat) (ts:List Tok) (nd:List Node) (d:Nat),4*e.size+4<=n->e.aL len->1+e.dep+d<=40->nd.length+e.size<=4096->calm (db ts)->pS l (db ts)->Rb (ex l) ⟨aC [40]::(e.tk++aC [41]::ts),nd,d⟩ (·=nd.length+e.size-1) ⟨ts,nd++fl nd.length e,d⟩
section
variable {n len:Nat} {op:PM S Nat} {ex:Nat->PM S Nat}
theorem Gk:calm (aC [41]):=⟨rfl,rfl⟩
theorem zi {l:Nat} {m:List UInt8} (h:binOp m=0):pS l (aC m):=.inl (by unfold gU aC;rw[if_pos rfl];exact h)
theorem Ex.vq {e:Ex} (h:e.aL len):1<=e.lv:=Ex.QW h
theorem QO (he:ni n len op ex):∀(l:List Ex) (x:Ex) (acc:List Nat) (k:Nat) (ts:List Tok) (nd:List Node) (d a:Nat),l.length<k->(∀y∈x::l,4*y.size+2<=n)->Ex.fm len a (x::l)->Ex.eV (x::l)+d<=40->nd.length+Ex.aB (x::l)<=4096->
  Rb (dt (tB ex) k acc) ⟨x.tk++(Ex.kM l++aC [41]::ts),nd,d⟩ (·=acc++Ex.roots nd.length (x::l)) ⟨ts,nd++qo nd.length (x::l),d⟩
 | [],x,acc,0,_,_,_,_,hk,_,_,_,_=>by omega
 | [],x,acc,k+1,ts,nd,d,a,hk,hn,hg,hd,hl=>by
  have hx:=hn x (by simp);simp only[Ex.eV,Ex.aB]at hd hl;refine Rb.to (Rb.y9 (P:=(·=acc++Ex.roots nd.length [x])) (B:=⟨ts,nd++fl nd.length x,d⟩) (b:=acc++[nd.length+x.size-1]) ?_ rfl) ?_
  ·unfold tB;refine Rb.bind (he.x x 1 (aC [41]::ts) nd d (Ex.vq hg.1) hx hg.1 (by omega) (by omega) Gk (zi (by decide))) λy hy=>?_;subst hy;exact .xC rfl (.pure rfl)
  ·rw[OR,show qo (nd.length+x.size) []=[]from rfl,cg]
 |z::l,x,acc,0,_,_,_,_,hk,_,_,_,_=>by omega
 |z::l,x,acc,k+1,ts,nd,d,a,hk,hn,hg,hd,hl=>by
  have hx:=hn x (by simp);have oF:Ex.eV (z::l)+d<=40:=by rw[Ex.eV]at hd;omega
  rw[Ex.eV]at hd;rw[Ex.aB]at hl;have ih:=QO he l z (acc++[nd.length+x.size-1]) k ts (nd++fl nd.length x) d a (by simpa using hk) (λy hy=>hn y (by simp at hy|-;right;exact hy)) hg.2.2 oF (by rw[az,dQ];omega);refine Rb.y8 (a':=acc++[nd.length+x.size-1]) (B:=⟨z.tk++(Ex.kM l++aC [41]::ts),nd++fl nd.length x,d⟩) ?_ ((ih.to ?_).mono ?_)
  ·unfold tB;refine Rb.bind (he.x x 1 (aC [44]::(z.tk++(Ex.kM l++aC [41]::ts))) nd d (Ex.vq hg.1) hx hg.1 (by omega) (by omega) ⟨rfl,rfl⟩ (zi (by decide))|>.from ?_) λy hy=>?_
   ·simp only[Ex.kM,eI,aO]
   ·subst hy;exact .oQ rfl (.dm rfl (.pure rfl))
  ·rw[OR nd.length x,az,dQ,aO]
  ·intro r hr;rw[hr,az,dQ];simp[Ex.roots]
theorem Lg (he:ni n len op ex) (x:Ex) (k:Nat) {ts:List Tok} {nd:List Node} {d:Nat} (hn:4*x.size+2<=n) (hg:x.aL len) (hd:x.dep+d<=40) (hl:nd.length+x.size<=4096):
  Rb (mV ex k) ⟨aC [40]::(x.tk++aC [41]::ts),nd,d⟩ (·=nd.length+x.size-1) ⟨ts,nd++fl nd.length x,d⟩:=by
 unfold mV;refine .eB λt ht=>?_;have hk:t.kind=5:=ht.1;rw[if_neg (by omega),if_neg (by omega),if_neg (by omega)];refine .dm rfl (Rb.bind (he.x x 1 _ nd d (Ex.vq hg) hn hg hd hl Gk (zi (by decide))) λy hy=>?_);subst hy;exact .dm rfl (.pure rfl)
theorem abS (he:ni n len op ex) {x:Nat} (i:Ex) {ts:List Tok} {nd:List Node} {d:Nat} (hx:x<nd.length) (hn:4*i.size+2<=n) (hg:i.aL len) (hd:i.dep+d<=40) (hl:nd.length+i.size+1<=4096):
  Rb (indexB ex x) ⟨aC [91]::(i.tk++aC [93]::ts),nd,d⟩ (·=.inl (nd.length+i.size)) ⟨ts,nd++fl nd.length i++[⟨5,0,[],0,0,[x,nd.length+i.size-1]⟩],d⟩:=by
 unfold indexB;refine .xC rfl (Rb.bind (he.x i 1 _ nd d (Ex.vq hg) hn hg hd (by omega) ⟨rfl,rfl⟩ (zi (by decide))) λy hy=>?_);subst hy;refine .dm rfl (.nodeAt (by rw[az];omega) λa _=>Rb.bind (Rb.node (by rw[az,dQ];omega) rfl) λb hb=>?_);subst hb;refine .pure ?_;rw[az,dQ]
def Ex.gj:Ex->Nat
 | .index x _=>(if x.gD then 0 else x.gj)+1
 |_=>0
theorem Ex.Qs:∀e:Ex,e.gj<e.size
 | .num _ _=>by simp[Ex.gj,Ex.size]
 | .text _ _=>by simp[Ex.gj,Ex.size]
 | .name _ _=>by simp[Ex.gj,Ex.size]
 | .call _ _ _=>by simp[Ex.gj,Ex.size]
 | .un _ _ _=>by simp[Ex.gj,Ex.size]
 | .bin _ _ _=>by simp[Ex.gj,Ex.size]
 | .index x i=>by
  have:=Ex.Qs x;have:=Ex.size_pos i;simp only[Ex.gj,Ex.size];split<;>omega
theorem Ex.size_le:∀(l:List Ex),∀y∈l,y.size<=Ex.aB l
 |x::l,y,hy=>by
  rcases bS.1 hy with rfl|hy
  ·rw[Ex.aB];omega
  ·have:=Ex.size_le l y hy;rw[Ex.aB];omega
theorem RE (he:ni n len op ex):∀(e:Ex) (ts:List Tok) (nd:List Node) (d k m:Nat) (Q:Nat->Prop) (C:Cf),e.gD=false->4*e.size<=n+2->e.size<=k->e.aL len->e.dep+d<=41->nd.length+e.size<=4096->br (db ts) [40]=false->
  Rb (dt (indexB ex) m (nd.length+e.size-1)) ⟨ts,nd++fl nd.length e,d⟩ Q C->Rb (mV ex k>>=λx=>dt (indexB ex) (e.gj+m) x) ⟨e.tk++ts,nd,d⟩ Q C
 | .num a v,ts,nd,d,k,m,Q,C,_,_,_,hg,hd,hl,h40,hc=>by
  refine Rb.bind (Q:=(·=nd.length)) (B:=⟨ts,nd++fl nd.length (.num a v),d⟩) ?_ λr hr=>by
   subst hr;rw[show(Ex.num a v).gj=0 by simp[Ex.gj],dI];exact hc
  unfold mV;refine .eB λt ht=>?_;have hk:t.kind=3:=ht.1;have hv:t.n=v:=ht.2.2;rw[if_pos hk];refine .cU λ_ _=>Rb.to (Rb.node (by simp only[Ex.size]at hl;omega) rfl) ?_;rw[hv];rfl
 | .text a v,ts,nd,d,k,m,Q,C,_,_,_,hg,hd,hl,h40,hc=>by
  refine Rb.bind (Q:=(·=nd.length)) (B:=⟨ts,nd++fl nd.length (.text a v),d⟩) ?_ λr hr=>by
   subst hr;rw[show(Ex.text a v).gj=0 by simp[Ex.gj],dI];exact hc
  unfold mV;refine .eB λt ht=>?_;have hk:t.kind=4:=ht.1;have hv:t.text=v:=ht.2.1;rw[if_neg (by omega),if_pos hk];refine .cU λ_ _=>Rb.to (Rb.node (by simp only[Ex.size]at hl;omega) rfl) ?_;rw[hv];rfl
 | .name a v,ts,nd,d,k,m,Q,C,_,_,_,hg,hd,hl,h40,hc=>by
  refine Rb.bind (Q:=(·=nd.length)) (B:=⟨ts,nd++fl nd.length (.name a v),d⟩) ?_ λr hr=>by
   subst hr;rw[show(Ex.name a v).gj=0 by simp[Ex.gj],dI];exact hc
  unfold mV;refine .eB λt ht=>?_;have hk:t.kind=1:=ht.1;have hv:t.text=v:=ht.2.1;rw[if_neg (by omega),if_neg (by omega),if_pos hk];refine .cU λ_ _=>.is ?_;show Rb (if br (db ts) [40]=true then _ else _) ⟨ts,nd,d⟩ _ _;rw[if_neg (by rw[h40];decide)];refine Rb.to (Rb.node (by simp only[Ex.size]at hl;omega) rfl) ?_;rw[hv];rfl
 | .call a v l,ts,nd,d,k,m,Q,C,_,hn,hk,hg,hd,hl,h40,hc=>by
  refine Rb.bind (Q:=(·=nd.length+(Ex.call a v l).size-1)) (B:=⟨ts,nd++fl nd.length (.call a v l),d⟩) ?_ λr hr=>by
   subst hr;rw[show(Ex.call a v l).gj=0 by simp[Ex.gj],dI];exact hc
  simp only[Ex.size,Ex.dep]at hn hk hd hl;unfold mV;refine .eB λt ht=>?_;have hkd:t.kind=1:=ht.1;have hv:t.text=v:=ht.2.1;rw[if_neg (by omega),if_neg (by omega),if_pos hkd];refine .cU λ_ _=>.is ?_;have h1:br (db (aC [40]::((Ex.kM l).tail++[aC [41]]++ts))) [40]=true:=rfl;show Rb (if br (db (aC [40]::((Ex.kM l).tail++[aC [41]]++ts))) [40]=true then _ else _) ⟨aC [40]::((Ex.kM l).tail++[aC [41]]++ts),nd,d⟩ _ _;rw[if_pos h1];refine .cU λ_ _=>?_;have fin (r:List Nat) (hr:r=Ex.roots nd.length l):Rb (cH ⟨4,t.at_,t.text,0,0,r⟩:PM S Nat) ⟨ts,nd++qo nd.length l,d⟩ (·=nd.length+(Ex.call a v l).size-1) ⟨ts,nd++fl nd.length (.call a v l),d⟩:=by
   subst hr;refine Rb.to (Rb.node (by rw[az,OS];omega) ?_) ?_
   ·rw[az,OS,Ex.size];omega
   ·rw[hv,aO];congr 2;unfold fl qo;rw[Ex.flat,fi];rfl
  cases l with
  |nil=>
   unfold vp;refine Rb.bind (Q:=(·=([]:List Nat))) (B:=⟨ts,nd,d⟩) (.xC rfl (.pure rfl)) λr hr=>?_;have:=fin r hr
   rwa [show qo nd.length []=[]from rfl,cg]at this
  |cons x l=>
   have hf:tX (db (x.tk++(Ex.kM l++aC [41]::ts))):=Ex.fst x _ hg.2.2.1;have hs:=Ex.size_le (x::l);have wL:∀l:List Ex,l.length<=Ex.aB l:=by
    intro l
    induction l with
    |nil=>simp
    |cons z l ih=>have:=Ex.size_pos z;rw[Ex.aB,cr];omega
   unfold vp;refine Rb.bind (Q:=(·=Ex.roots nd.length (x::l))) (B:=⟨ts,nd++qo nd.length (x::l),d⟩) (Rb.from (A:=⟨x.tk++(Ex.kM l++aC [41]::ts),nd,d⟩) (.oQ (hf.not (by decide)) ?_) ?_) fin
   ·simp only[aW,if_false];exact(QO he l x [] k ts nd d a (by have:=wL (x::l);rw[cr]at this;omega) (λy hy=>by have:=hs y hy;omega) hg.2.2 (by omega) (by omega)).mono λr hr=>by rw[hr,fx]
   ·simp only[Ex.kM,List.tail_cons,aO,uf,fx,eI]
 | .un _ _ _,_,_,_,_,_,_,_,h,_,_,_,_,_,_,_=>by cases h
 | .bin _ _ _,_,_,_,_,_,_,_,h,_,_,_,_,_,_,_=>by cases h
 | .index x i,ts,nd,d,k,m,Q,C,_,hn,hk,hg,hd,hl,h40,hc=>by
  simp only[Ex.size,Ex.dep]at hn hk hd hl;have hip:=Ex.size_pos i;have Ew:=Ex.size_pos x;have mb:Rb (dt (indexB ex) (m+1) (nd.length+x.size-1)) ⟨aC [91]::(i.tk++aC [93]::ts),nd++fl nd.length x,d⟩ Q C:=by
   have e1:(nd++fl nd.length x).length+i.size=nd.length+(Ex.index x i).size-1:=by rw[az,dQ,Ex.size];omega
   refine Rb.y8 (Rb.mono (abS he i (by rw[az,dQ];omega) (by omega) hg.2.1 (by omega) (by rw[az,dQ];omega)) λr hr=>hr.trans (congrArg Sum.inl e1)) ?_;refine hc.from ?_;congr 1;rw[az,dQ,aO,aO];congr 1;unfold fl;rw[Ex.flat,fi,fi,aO];rfl
  cases hb:x.gD
  ·have e:(Ex.index x i).gj+m=x.gj+(m+1):=by simp only[Ex.gj,hb,aW,if_false];omega
   rw[e];simp only[hb,aW,if_false]at hd;refine(RE he x _ nd d k (m+1) Q C hb (by omega) (by omega) hg.1 (by omega) (by omega) rfl mb).from ?_;simp only[Ex.tk,hb,jf,aW,if_false,aO,eI,fx]
  ·have e:(Ex.index x i).gj+m=m+1:=by simp only[Ex.gj,hb,if_true];omega
   rw[e];simp only[hb,if_true]at hd;refine Rb.bind (Rb.from (Lg (ts:=aC [91]::(i.tk++aC [93]::ts)) (nd:=nd) (d:=d) he x k (by omega) hg.1 (by omega) (by omega)) ?_) λr hr=>by subst hr;exact mb
   simp only[Ex.tk,hb,jf,if_true,aO,eI,fx,uf]
theorem Qm {k x:Nat} {ts:List Tok} {nd:List Node} {d:Nat} (h:calm (db ts)):Rb (dt (indexB ex) (k+1) x) ⟨ts,nd,d⟩ (·=x) ⟨ts,nd,d⟩:=
 Rb.y9 (by unfold indexB;exact .oQ h.2 (.pure rfl)) rfl
theorem aeo (he:ni n len op ex) (e:Ex) (ts:List Tok) (nd:List Node) (d:Nat) (hb:e.kD=false) (hn:4*e.size+1<=n+1) (hg:e.aL len) (hd:e.dep+d<=40) (hl:nd.length+e.size<=4096) (hc:calm (db ts)):
  Rb (qI op ex n) ⟨e.tk++ts,nd,d⟩ (·=nd.length+e.size-1) ⟨ts,nd++fl nd.length e,d⟩:=by
 have yC:1<=e.dep:=by
  cases e<;>first|(cases hb;done)|(simp only[Ex.dep];first|omega|exact Nat.le_add_right 1 _)
 unfold qI;refine .down (by omega) (.eB λt ht=>Rb.bind (Q:=(·=nd.length+e.size-1)) (B:=⟨ts,nd++fl nd.length e,d+1⟩) ?_ λr hr=>.up (.pure hr));have cm:=Ex.size_pos e;by_cases hu:e.gD=false
 ·obtain⟨h1,h2,h3⟩:=Ex.OX e ts hu;unfold th;refine .oQ h1 ?_;simp only[aW,if_false];refine .oQ h2 ?_;simp only[aW,if_false];refine .oQ h3 ?_;simp only[aW,if_false];have iI:=Ex.Qs e;obtain⟨m,hm⟩:∃m,n=e.gj+(m+1):=⟨n-e.gj-1,by omega⟩
  have:=RE he e ts nd (d+1) n (m+1) (·=nd.length+e.size-1) ⟨ts,nd++fl nd.length e,d+1⟩ hu (by omega) (by omega) hg (by omega) hl hc.1 (Qm hc)
  rwa [<-hm]at this
 ·cases e with
  |un a o x=>
   simp only[Ex.size,Ex.dep]at hn hd hl yC;have ho:=hg.2.2.2;have cE:Rb (pX op t.at_ (o:Int)) ⟨jf x.kD x.tk++ts,nd,d+1⟩ (·=nd.length+(Ex.un a o x).size-1) ⟨ts,nd++fl nd.length (.un a o x),d+1⟩:=by
    unfold pX;refine Rb.bind (Q:=(·=nd.length+x.size-1)) (B:=⟨ts,nd++fl nd.length x,d+1⟩) ?_ λr hr=>?_
    ·cases hx:x.kD
     ·simp only[hx,aW,if_false]at hd;exact he.o x ts nd (d+1) hx (by omega) hg.2.1 (by omega) (by omega) hc
     ·simp only[hx,if_true]at hd;refine(he.q x ts nd (d+1) (by omega) hg.2.1 (by omega) (by omega) hc).from ?_;simp only[jf,if_true,eI,aO,fx]
    ·subst hr;refine Rb.to (Rb.node (by rw[az,dQ];omega) (by rw[az,dQ,Ex.size];omega)) ?_;rw[aO];congr 2;unfold fl;rw[Ex.flat,fi];rfl
   have fg:(Ex.un a o x).tk++ts=aC (fE o)::(jf x.kD x.tk++ts):=rfl;rw[fg];unfold th;have h3:o=1\/o=2\/o=3:=by omega
   rcases h3 with rfl|rfl|rfl
   ·refine .xC rfl ?_;simp only[if_true];exact cE
   ·refine .oQ rfl ?_;simp only[aW,if_false];refine .xC rfl ?_;simp only[if_true];exact cE
   ·refine .oQ rfl ?_;simp only[aW,if_false];refine .oQ rfl ?_;simp only[aW,if_false];refine .xC rfl ?_;simp only[if_true];exact cE
  |bin _ _ _=>cases hb
  |num _ _=>exact absurd rfl hu
  |text _ _=>exact absurd rfl hu
  |name _ _=>exact absurd rfl hu
  |call _ _ _=>exact absurd rfl hu
  |index _ _=>exact absurd rfl hu
theorem aex (he:ni n len op ex) (e:Ex) (ts:List Tok) (nd:List Node) (d:Nat) (hn:4*e.size+3<=n+1) (hg:e.aL len) (hd:1+e.dep+d<=40) (hl:nd.length+e.size<=4096) (hc:calm (db ts)):
  Rb (qI op ex n) ⟨aC [40]::(e.tk++aC [41]::ts),nd,d⟩ (·=nd.length+e.size-1) ⟨ts,nd++fl nd.length e,d⟩:=by
 unfold qI;refine .down (by omega) (.eB λt ht=>Rb.bind (Q:=(·=nd.length+e.size-1)) (B:=⟨ts,nd++fl nd.length e,d+1⟩) ?_ λr hr=>.up (.pure hr));unfold th;refine .oQ rfl ?_;simp only[aW,if_false];refine .oQ rfl ?_;simp only[aW,if_false];refine .oQ rfl ?_;simp only[aW,if_false];refine Rb.bind (Lg he e n (by omega) hg (by omega) hl) λr hr=>?_;subst hr;obtain⟨m,rfl⟩:∃m,n=m+1:=⟨n-1,by omega⟩
 exact Qm hc
def Ex.jU:Ex->Nat
 | .bin op x _=>(if x.lv<level op then 0 else x.jU)+1
 |_=>0
theorem Ex.Su:∀e:Ex,e.jU<e.size
 | .num _ _=>by simp[Ex.jU,Ex.size]
 | .text _ _=>by simp[Ex.jU,Ex.size]
 | .name _ _=>by simp[Ex.jU,Ex.size]
 | .call _ _ _=>by simp[Ex.jU,Ex.size]
 | .un _ _ _=>by simp[Ex.jU,Ex.size]
 | .index _ _=>by simp[Ex.jU,Ex.size]
 | .bin op x y=>by
  have:=Ex.Su x;have:=Ex.size_pos y;simp only[Ex.jU,Ex.size];split<;>omega
theorem KY (o:Nat) (h1:4<=o) (h2:o<=21):binOp (fE o)=o:=(by decide:∀q<22,4<=q->binOp (fE q)=q) o (by omega) h1
theorem KZ (o:Nat) (h1:4<=o) (h2:o<=21):calm (aC (fE o)):=(by decide:∀q<22,4<=q->br (aC (fE q)) [40]=false/\br (aC (fE q)) [91]=false) o (by omega) h1
theorem V3 (he:ni n len op ex) {o l x:Nat} (y:Ex) {ts:List Tok} {nd:List Node} {d:Nat} (h1:4<=o) (h2:o<=21) (PI:l<=level o) (hx:x<nd.length) (hn:4*y.size+4<=n) (hg:y.aL len) (hd:y.km (level o+1)+d<=40) (hl:nd.length+y.size+1<=4096)
  (hc:calm (db ts)) (dW:pS (level o+1) (db ts)):
  Rb (k8 ex l x) ⟨aC (fE o)::(jf (decide (y.lv<=level o)) y.tk++ts),nd,d⟩ (·=.inl (nd.length+y.size)) ⟨ts,nd++fl nd.length y++[⟨7,0,[],o,0,[x,nd.length+y.size-1]⟩],d⟩:=by
 unfold k8;refine .eB λt ht=>?_;have hk:t.kind=5:=ht.1;have yR:t.text=fE o:=ht.2.1;have ho:(if t.kind=5 then binOp t.text else 0)=o:=by rw[if_pos hk,yR,KY o h1 h2]
 simp only[ho];rw[if_neg (by omega),if_neg (by omega)];refine .cU λ_ _=>Rb.bind (Q:=(·=nd.length+y.size-1)) (B:=⟨ts,nd++fl nd.length y,d⟩) ?_ λr hr=>?_
 ·unfold Ex.km at hd;by_cases hy:y.lv<=level o
  ·rw[if_pos (by omega)]at hd;refine(he.y y (level o+1) ts nd d hn hg (by omega) (by omega) hc dW).from ?_;simp only[hy,decide_true,jf,if_true,eI,aO,fx]
  ·rw[if_neg (by omega)]at hd;refine(he.x y (level o+1) ts nd d (by omega) (by omega) hg (by omega) (by omega) hc dW).from ?_;simp only[hy,decide_false,jf,aW,if_false]
 ·subst hr;refine .nodeAt (by rw[az];omega) λa _=>Rb.bind (Rb.node (by rw[az,dQ];omega) rfl) λb hb=>?_;subst hb;refine .pure ?_;rw[az,dQ]
theorem afN (he:ni n len op ex):∀(e:Ex) (l:Nat) (ts:List Tok) (nd:List Node) (d m:Nat) (Q:Nat->Prop) (C:Cf),l<=e.lv->4*e.size+1<=n->e.aL len->e.dep+d<=40->nd.length+e.size<=4096->calm (db ts)->pS (e.lv+1) (db ts)->
  Rb (dt (k8 ex l) m (nd.length+e.size-1)) ⟨ts,nd++fl nd.length e,d⟩ Q C->Rb (op>>=λx=>dt (k8 ex l) (e.jU+m) x) ⟨e.tk++ts,nd,d⟩ Q C:=by
 intro e;have base:∀(e:Ex),e.kD=false->∀(l:Nat) (ts:List Tok) (nd:List Node) (d m:Nat) (Q:Nat->Prop) (C:Cf),4*e.size+1<=n->e.aL len->e.dep+d<=40->nd.length+e.size<=4096->calm (db ts)->
   Rb (dt (k8 ex l) m (nd.length+e.size-1)) ⟨ts,nd++fl nd.length e,d⟩ Q C->Rb (op>>=λx=>dt (k8 ex l) (e.jU+m) x) ⟨e.tk++ts,nd,d⟩ Q C:=by
  intro e hb l ts nd d m Q C hn hg hd hl hc HP;refine Rb.bind (he.o e ts nd d hb hn hg hd hl hc) λr hr=>?_;subst hr;have:e.jU=0:=by cases e<;>first|rfl|cases hb
  rw[this,dI];exact HP
 induction e using Ex.rec (motive_2:=λ_=>True)with
 |num a v=>exactλl ts nd d m Q C _ hn hg hd hl hc _ h=>base _ rfl l ts nd d m Q C hn hg hd hl hc h
 |text a v=>exactλl ts nd d m Q C _ hn hg hd hl hc _ h=>base _ rfl l ts nd d m Q C hn hg hd hl hc h
 |name a v=>exactλl ts nd d m Q C _ hn hg hd hl hc _ h=>base _ rfl l ts nd d m Q C hn hg hd hl hc h
 |call a v l _=>exactλl ts nd d m Q C _ hn hg hd hl hc _ h=>base _ rfl l ts nd d m Q C hn hg hd hl hc h
 |index x i _ _=>exactλl ts nd d m Q C _ hn hg hd hl hc _ h=>base _ rfl l ts nd d m Q C hn hg hd hl hc h
 |un a o x _=>exactλl ts nd d m Q C _ hn hg hd hl hc _ h=>base _ rfl l ts nd d m Q C hn hg hd hl hc h
 |nil=>trivial
 |cons _ _ _ _=>trivial
 |bin o x y BM EB=>
  intro l ts nd d m Q C pD hn hg hd hl hc dW HP;have Ew:=Ex.size_pos x;have hyp:=Ex.size_pos y;simp only[Ex.size]at hn hl;rw[Ex.L4]at hd;have abi:l<=level o:=pD;obtain⟨yH,hgy,_,h1,h2⟩:=hg;have mb:Rb (dt (k8 ex l) (m+1) (nd.length+x.size-1)) ⟨aC (fE o)::(jf (decide (y.lv<=level o)) y.tk++ts),nd++fl nd.length x,d⟩ Q C:=by
   have e1:(nd++fl nd.length x).length+y.size=nd.length+(Ex.bin o x y).size-1:=by rw[az,dQ,Ex.size];omega
   refine Rb.y8 (Rb.mono (V3 he y h1 h2 abi (by rw[az,dQ];omega) (by omega) hgy (by omega) (by rw[az,dQ];omega) hc dW) λr hr=>hr.trans (congrArg Sum.inl e1)) ?_;refine HP.from ?_;congr 1;rw[az,dQ,aO,aO];congr 1;unfold fl;rw[Ex.flat,fi,fi,aO];rfl
  by_cases hx:x.lv<level o
  ·have e:(Ex.bin o x y).jU+m=m+1:=by simp only[Ex.jU,hx,if_true];omega
   rw[e];have yD:1+x.dep+d<=40:=by
    have:x.km (level o)=1+x.dep:=by unfold Ex.km;rw[if_pos hx]
    omega
   refine Rb.bind ((he.q x (aC (fE o)::(jf (decide (y.lv<=level o)) y.tk++ts)) nd d (by omega) yH yD (by omega) (KZ o h1 h2)).from ?_) λr hr=>by subst hr;exact mb
   simp only[Ex.tk,hx,decide_true,jf,if_true,aO,eI,fx]
  ·have e:(Ex.bin o x y).jU+m=x.jU+(m+1):=by simp only[Ex.jU,hx,if_false];omega
   rw[e];have yD:x.dep+d<=40:=by
    have:x.km (level o)=x.dep:=by unfold Ex.km;rw[if_neg hx]
    omega
   refine(BM l (aC (fE o)::(jf (decide (y.lv<=level o)) y.tk++ts)) nd d (m+1) Q C (by omega) (by omega) yH yD (by omega) (KZ o h1 h2) (.inr ?_) mb).from ?_
   ·show level (gU (aC (fE o)))<x.lv+1;have:gU (aC (fE o))=o:=by unfold gU aC;rw[if_pos rfl];exact KY o h1 h2
    rw[this];omega
   ·simp only[Ex.tk,hx,decide_false,jf,aW,if_false,aO,eI,fx]
theorem Mm {l k x:Nat} {ts:List Tok} {nd:List Node} {d:Nat} (h:pS l (db ts)):Rb (dt (k8 ex l) (k+1) x) ⟨ts,nd,d⟩ (·=x) ⟨ts,nd,d⟩:=by
 refine Rb.y9 ?_ rfl;unfold k8;refine .eB λt ht=>?_;have pI:t.kind=(db ts).kind:=ht.1;have yR:t.text=(db ts).text:=ht.2.1;have ho:(if t.kind=5 then binOp t.text else 0)=gU (db ts):=by unfold gU;rw[pI,yR]
 simp only[ho];by_cases h0:gU (db ts)=0
 ·rw[if_pos h0];exact .pure rfl
 ·rw[if_neg h0];rcases h with h|h
  ·exact absurd h h0
  ·rw[if_pos h];exact .pure rfl
theorem V8 (he:ni n len op ex) (e:Ex) (l:Nat) (ts:List Tok) (nd:List Node) (d:Nat) (pD:l<=e.lv) (hn:4*e.size+2<=n+1) (hg:e.aL len) (hd:e.dep+d<=40) (hl:nd.length+e.size<=4096) (hc:calm (db ts)) (dW:pS l (db ts)):
  Rb (qn op ex n l) ⟨e.tk++ts,nd,d⟩ (·=nd.length+e.size-1) ⟨ts,nd++fl nd.length e,d⟩:=by
 unfold qn;have hs:=Ex.Su e;obtain⟨m,hm⟩:∃m,n=e.jU+(m+1):=⟨n-e.jU-1,by omega⟩
 have:=afN he e l ts nd d (m+1) (·=nd.length+e.size-1) ⟨ts,nd++fl nd.length e,d⟩ pD (by omega) hg hd hl hc (dW.imp id λh=>by omega) (Mm dW)
 rwa [<-hm]at this
theorem Wc (he:ni n len op ex) (e:Ex) (l:Nat) (ts:List Tok) (nd:List Node) (d:Nat) (hn:4*e.size+4<=n+1) (hg:e.aL len) (hd:1+e.dep+d<=40) (hl:nd.length+e.size<=4096) (hc:calm (db ts)) (dW:pS l (db ts)):
  Rb (qn op ex n l) ⟨aC [40]::(e.tk++aC [41]::ts),nd,d⟩ (·=nd.length+e.size-1) ⟨ts,nd++fl nd.length e,d⟩:=by
 unfold qn;refine Rb.bind (he.q e ts nd d (by omega) hg hd hl hc) λr hr=>?_;subst hr;obtain⟨m,rfl⟩:∃m,n=m+1:=⟨n-1,by omega⟩
 exact Mm dW
end
theorem At (len:Nat):∀n:Nat,ni (S:=S) n len (ou n none) (λl=>ou n (some l))
 |0=>⟨λ_ _ _ _ _ h=>by omega,λ_ _ _ _ h=>by omega,λ_ _ _ _ _ _ h=>by omega,λ_ _ _ _ _ h=>by omega⟩
 |n+1=>⟨λe ts nd d=>aeo (At len n) e ts nd d,λe ts nd d=>aex (At len n) e ts nd d,λe l ts nd d=>V8 (At len n) e l ts nd d,λe l ts nd d=>Wc (At len n) e l ts nd d⟩
end
end Go.Front
end

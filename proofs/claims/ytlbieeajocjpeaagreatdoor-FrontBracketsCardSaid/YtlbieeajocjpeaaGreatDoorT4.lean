/- The functions, as trees of named steps. -/
import Derived.Test.YtlbieeajocjpeaaGreatDoorAmT
import Derived.Test.YtlbieeajocjpeaaGreatDoorLb
import Derived.Test.YtlbieeajocjpeaaGreatDoorChecked
namespace Go.Proofs
open Go.AM
set_option maxHeartbeats 4000000
variable {L : Leaf} {n m0 n3 z5 n7 z9 n2 z4 n6 z8 n17 z19 n26 z28 n18 z20 n27 z29 m1 n5 z7 : Nat} {σ : St} {s1 s13 s22 s14 s23 s9 s8 s7 s11 s12 s5 s15 : By} {b1 b9 b11 b5 b6 b10 b3 b12 : Bool} {a2 a6 a1 a5 a16 a25 a17 a26 a4 : Ad} {c4 c8 c3 c7 c18 c27 c19 c28 c6 : On} {i10 i11 i12 i14 i15 i20 i21 i23 i24 i13 i16 i22 i25 i2 i3 i4 i1 i5 i7 i8 i6 i9 : Int}
set_option maxRecDepth 100000
noncomputable def f6_t (_ : Leaf) (n : Nat) (σ : St) : Out :=
 callT Tryz.prog Lb n 7 [.str [105, 110, 116, 32, 102, 40, 105, 110, 116, 32, 97, 41, 123, 114, 101, 116, 117, 114, 110, 32, 97, 43, 49, 42, 50, 59, 125]] σ fun v2 σ1 =>
 xTup v2 fun cs3 =>
 unC cs3 fun x4 r5 =>
 xSl x4 fun a6 n7 c8 z9 =>
 unC r5 fun x10 r11 =>
 xInt .i64 x10 fun i12 =>
 unC r11 fun x13 r14 =>
 xInt .i64 x13 fun i15 =>
 nlC r14 <|
 callT Tryz.prog Lb n 8 [.slice a6 n7 c8 z9] σ1 fun v17 σ16 =>
 xTup v17 fun cs18 =>
 unC cs18 fun x19 r20 =>
 xStr x19 fun s21 =>
 unC r20 fun x22 r23 =>
 xInt .i64 x22 fun i24 =>
 nlC r23 <|
 callT Tryz.prog Lb n 7 [.str [105, 110, 116, 32, 102, 40, 41, 123, 49, 61, 50, 59, 125]] σ16 fun v26 σ25 =>
 xTup v26 fun cs27 =>
 unC cs27 fun x28 r29 =>
 xSl x28 fun _ _ _ _ =>
 unC r29 fun x34 r35 =>
 xInt .i64 x34 fun i36 =>
 unC r35 fun x37 r38 =>
 xInt .i64 x37 fun i39 =>
 nlC r38 <|
 callT Tryz.prog Lb n 7 [.str [105, 110, 116, 32, 53]] σ25 fun v41 σ40 =>
 xTup v41 fun cs42 =>
 unC cs42 fun x43 r44 =>
 xSl x43 fun _ _ _ _ =>
 unC r44 fun x49 r50 =>
 xInt .i64 x49 fun i51 =>
 unC r50 fun x52 r53 =>
 xInt .i64 x52 fun i54 =>
 nlC r53 <|
 cond (i12 == (0 : Int)) (cond (i15 == (0 : Int)) (cond ((n7 : Int) == (10 : Int)) (cond (i24 == (0 : Int)) (cond (s21 == [105, 110, 116, 32, 102, 32, 40, 32, 105, 110, 116, 32, 97, 32, 41, 32, 123, 10, 114, 101, 116, 117, 114, 110, 32, 97, 32, 43, 32, 49, 32, 42, 32, 50, 32, 59, 10, 125, 10]) (cond (i36 == (13 : Int)) (cond (i39 == (9 : Int)) (cond (i51 == (13 : Int)) (some (.ret (.bool (i54 == (4 : Int))), σ40)) (some (.ret (.bool false), σ40))) (some (.ret (.bool false), σ40))) (some (.ret (.bool false), σ40))) (some (.ret (.bool false), σ40))) (some (.ret (.bool false), σ40))) (some (.ret (.bool false), σ40))) (some (.ret (.bool false), σ40))) (some (.ret (.bool false), σ40))
theorem f6_g : goT Tryz.prog Lb 6 n L [] [] [] ⟨tm 67 [] 0, [], []⟩ σ = f6_t L n  σ := by kernel_rfl
theorem f6_e : Le (f6_t (pt Tryz.prog Lb 6 n) n  σ) (callP Tryz.prog Lb (n + 1) 6 [] σ) :=
 goT_call f6_g rfl (by kernel_rfl) (by kernel_rfl)
noncomputable def f5_l1 (L : Leaf) (m0 : Nat) (b1 : Bool) (a2 : Ad) (n3 : Nat) (c4 : On) (z5 : Nat) (a6 : Ad) (n7 : Nat) (c8 : On) (z9 : Nat) (i10 i11 : Int) (σ : St) : Out :=
 L [1, 1, 1, 1, 1, 1, 1, 1, 1, 0, 1, 0] [m0] ⟨tm 78 [(2, .v (.bool false)), (3, .v (.bool b1)), (5, .v (.slice a2 n3 c4 z5)), (8, .v (.slice a6 n7 c8 z9)), (11, .v (.int .i64 i10)), (12, .v (.int .i64 i11))] 0, [], []⟩ σ
noncomputable def f5_j2 (L : Leaf) (b1 : Bool) (a2 : Ad) (n3 : Nat) (c4 : On) (z5 : Nat) (a6 : Ad) (n7 : Nat) (c8 : On) (z9 : Nat) (i10 : Int) (σ : St) : Out :=
 L [1, 1, 1, 1, 1, 1, 1, 1, 1, 1] [] ⟨tm 78 [(2, .v (.bool false)), (3, .v (.bool b1)), (5, .v (.slice a2 n3 c4 z5)), (8, .v (.slice a6 n7 c8 z9)), (11, .v (.int .i64 i10))] 0, [], []⟩ σ
noncomputable def f5_t (L : Leaf) (n : Nat) (s1 : By) (σ : St) : Out :=
 callT Tryz.prog Lb n 6 [] σ fun v3 σ2 =>
 xBool v3 fun b4 =>
 cond (decide ((s1.length : Int) > (2000 : Int))) (some (.ret (.bool b4), σ2)) (callT Tryz.prog Lb n 10 [.str s1] σ2 fun v6 σ5 =>
 xSl v6 fun a7 n8 _ z10 =>
 idxK (IntKind.wrap .i64 ((n8 : Int) - (1 : Int))) n8 <|
 derefK a7 fun b11 o12 =>
 szK z10 4 <|
 ldK Tryz.prog 3 σ5 b11 ((o12 + (((IntKind.wrap .i64 ((n8 : Int) - (1 : Int)))).toNat * 4)) + 0) fun x13 =>
 xInt .i64 x13 fun i14 =>
 cond (i14 != (0 : Int)) (some (.ret (.bool b4), σ5)) (catK [105, 110, 116, 32, 102, 40, 41, 123, 114, 101, 116, 117, 114, 110, 32] s1 fun s15 =>
 catK s15 [10, 59, 125] fun s16 =>
 callT Tryz.prog Lb n 7 [.str s16] σ5 fun v18 σ17 =>
 xTup v18 fun cs19 =>
 unC cs19 fun x20 r21 =>
 xSl x20 fun a22 n23 c24 z25 =>
 unC r21 fun x26 r27 =>
 xInt .i64 x26 fun i28 =>
 unC r27 fun x29 r30 =>
 xInt .i64 x29 fun _ =>
 nlC r30 <|
 catK [105, 110, 116, 32, 102, 40, 41, 123, 114, 101, 116, 117, 114, 110, 32, 40] s1 fun s32 =>
 catK s32 [10, 41, 59, 125] fun s33 =>
 callT Tryz.prog Lb n 7 [.str s33] σ17 fun v35 σ34 =>
 xTup v35 fun cs36 =>
 unC cs36 fun x37 r38 =>
 xSl x37 fun a39 n40 c41 z42 =>
 unC r38 fun x43 r44 =>
 xInt .i64 x43 fun i45 =>
 unC r44 fun x46 r47 =>
 xInt .i64 x46 fun _ =>
 nlC r47 <|
 cond (i28 != (0 : Int)) (some (.ret (.bool b4), σ34)) (cond (i45 != (0 : Int)) (some (.ret (.bool b4), σ34)) (f5_l1 L n b4 a22 n23 c24 z25 a39 n40 c41 z42 (0 : Int) (0 : Int) σ34))))
theorem f5_g : goT Tryz.prog Lb 5 n L [] [] [] ⟨tm 78 [(0, .v (.str s1))] 0, [], []⟩ σ = f5_t L n s1 σ := by kernel_rfl
theorem f5_e : Le (f5_t (pt Tryz.prog Lb 5 n) n s1 σ) (callP Tryz.prog Lb (n + 1) 5 [.str s1] σ) :=
 goT_call f5_g rfl (by kernel_rfl) (by kernel_rfl)
noncomputable def f5_l1_t (L : Leaf) (_ m0 : Nat) (b1 : Bool) (a2 : Ad) (n3 : Nat) (c4 : On) (z5 : Nat) (a6 : Ad) (n7 : Nat) (c8 : On) (z9 : Nat) (i10 i11 : Int) (σ : St) : Out :=
 cond (decide (i11 < (n3 : Int))) (idxK i11 n3 <|
 derefK a2 fun b12 o13 =>
 szK z5 6 <|
 ldK Tryz.prog 3 σ b12 ((o13 + ((i11).toNat * 6)) + 0) fun x14 =>
 xInt .i64 x14 fun i15 =>
 cond (i15 == (14 : Int)) (f5_l1 L m0 b1 a2 n3 c4 z5 a6 n7 c8 z9 (IntKind.wrap .i64 (i10 + (1 : Int))) (IntKind.wrap .i64 (i11 + (1 : Int))) σ) (f5_l1 L m0 b1 a2 n3 c4 z5 a6 n7 c8 z9 i10 (IntKind.wrap .i64 (i11 + (1 : Int))) σ)) (f5_j2 L b1 a2 n3 c4 z5 a6 n7 c8 z9 i10 σ)
theorem f5_l1_g : f5_l1 (goT Tryz.prog Lb 5 n L [[1, 1, 1, 1, 1, 1, 1, 1, 1, 1]]) (m0 + 1) b1 a2 n3 c4 z5 a6 n7 c8 z9 i10 i11 σ = f5_l1_t L n m0 b1 a2 n3 c4 z5 a6 n7 c8 z9 i10 i11 σ := by kernel_rfl
theorem f5_l1_e : Le (f5_l1_t (pt Tryz.prog Lb 5 n) n m0 b1 a2 n3 c4 z5 a6 n7 c8 z9 i10 i11 σ) (f5_l1 (pt Tryz.prog Lb 5 n) (m0 + 1) b1 a2 n3 c4 z5 a6 n7 c8 z9 i10 i11 σ) := by
 unfold f5_l1; exact goT_pt f5_l1_g
noncomputable def f5_j2_t (_ : Leaf) (n : Nat) (b1 : Bool) (a2 : Ad) (n3 : Nat) (c4 : On) (z5 : Nat) (a6 : Ad) (n7 : Nat) (c8 : On) (z9 : Nat) (i10 : Int) (σ : St) : Out :=
 callT Tryz.prog Lb n 9 [.slice a2 n3 c4 z5, .slice a6 n7 c8 z9, .bool true] σ fun v12 σ11 =>
 xBool v12 fun b13 =>
 cond b1 (cond b13 (some (.ret (.bool true), σ11)) (some (.ret (.bool (decide (i10 > (1 : Int)))), σ11))) (some (.ret (.bool false), σ11))
theorem f5_j2_g : f5_j2 (goT Tryz.prog Lb 5 n L []) b1 a2 n3 c4 z5 a6 n7 c8 z9 i10 σ = f5_j2_t L n b1 a2 n3 c4 z5 a6 n7 c8 z9 i10 σ := by kernel_rfl
theorem f5_j2_e : Le (f5_j2_t (pt Tryz.prog Lb 5 n) n b1 a2 n3 c4 z5 a6 n7 c8 z9 i10 σ) (f5_j2 (pt Tryz.prog Lb 5 n) b1 a2 n3 c4 z5 a6 n7 c8 z9 i10 σ) := by
 unfold f5_j2; exact goT_pt f5_j2_g
noncomputable def f9_l1 (L : Leaf) (m0 : Nat) (a1 : Ad) (n2 : Nat) (c3 : On) (z4 : Nat) (a5 : Ad) (n6 : Nat) (c7 : On) (z8 : Nat) (b9 : Bool) (i10 : Int) (σ : St) : Out :=
 L [1, 1, 0, 1, 0] [m0] ⟨tm 94 [(0, .v (.slice a1 n2 c3 z4)), (1, .v (.slice a5 n6 c7 z8)), (2, .v (.bool b9)), (6, .v (.bool false)), (7, .v (.int .i64 i10))] 0, [], []⟩ σ
noncomputable def f9_j2 (L : Leaf) (m0 : Nat) (a1 : Ad) (n2 : Nat) (c3 : On) (z4 : Nat) (a5 : Ad) (n6 : Nat) (c7 : On) (z8 : Nat) (b9 : Bool) (i10 i11 i12 : Int) (s13 : By) (i14 i15 : Int) (a16 : Ad) (n17 : Nat) (c18 : On) (z19 : Nat) (i20 i21 : Int) (s22 : By) (i23 i24 : Int) (a25 : Ad) (n26 : Nat) (c27 : On) (z28 : Nat) (σ : St) : Out :=
 L [1, 1, 0, 1, 0, 0, 1, 0, 0, 1, 1, 0, 1] [m0] ⟨tm 94 [(0, .v (.slice a1 n2 c3 z4)), (1, .v (.slice a5 n6 c7 z8)), (2, .v (.bool b9)), (6, .v (.bool false)), (7, .v (.int .i64 i10)), (8, .lp 8 0), (9, .lp 9 0), (75, .v (.bool true))] 0, [(8, [.int .i64 i11, .int .i64 i12, .str s13, .int .i64 i14, .int .i64 i15, .slice a16 n17 c18 z19]), (9, [.int .i64 i20, .int .i64 i21, .str s22, .int .i64 i23, .int .i64 i24, .slice a25 n26 c27 z28])], []⟩ σ
noncomputable def f9_j3 (L : Leaf) (m0 : Nat) (a1 : Ad) (n2 : Nat) (c3 : On) (z4 : Nat) (a5 : Ad) (n6 : Nat) (c7 : On) (z8 : Nat) (b9 : Bool) (i10 : Int) (b11 : Bool) (i12 i13 : Int) (s14 : By) (i15 i16 : Int) (a17 : Ad) (n18 : Nat) (c19 : On) (z20 : Nat) (i21 i22 : Int) (s23 : By) (i24 i25 : Int) (a26 : Ad) (n27 : Nat) (c28 : On) (z29 : Nat) (σ : St) : Out :=
 L [1, 1, 0, 1, 0, 0, 1, 0, 0, 1, 1, 0, 1] [m0] ⟨tm 94 [(0, .v (.slice a1 n2 c3 z4)), (1, .v (.slice a5 n6 c7 z8)), (2, .v (.bool b9)), (6, .v (.bool false)), (7, .v (.int .i64 i10)), (8, .lp 8 0), (9, .lp 9 0), (75, .v (.bool b11))] 0, [(8, [.int .i64 i12, .int .i64 i13, .str s14, .int .i64 i15, .int .i64 i16, .slice a17 n18 c19 z20]), (9, [.int .i64 i21, .int .i64 i22, .str s23, .int .i64 i24, .int .i64 i25, .slice a26 n27 c28 z29])], []⟩ σ
noncomputable def f9_j4 (L : Leaf) (m0 : Nat) (a1 : Ad) (n2 : Nat) (c3 : On) (z4 : Nat) (a5 : Ad) (n6 : Nat) (c7 : On) (z8 : Nat) (b9 : Bool) (i10 i11 i12 : Int) (s13 : By) (i14 i15 : Int) (a16 : Ad) (n17 : Nat) (c18 : On) (z19 : Nat) (i20 i21 : Int) (s22 : By) (i23 i24 : Int) (a25 : Ad) (n26 : Nat) (c27 : On) (z28 : Nat) (σ : St) : Out :=
 L [1, 1, 0, 1, 0, 0, 1, 0, 0, 1, 1, 0, 1] [m0] ⟨tm 94 [(0, .v (.slice a1 n2 c3 z4)), (1, .v (.slice a5 n6 c7 z8)), (2, .v (.bool b9)), (6, .v (.bool false)), (7, .v (.int .i64 i10)), (8, .lp 8 0), (9, .lp 9 0), (75, .v (.bool false))] 0, [(8, [.int .i64 i11, .int .i64 i12, .str s13, .int .i64 i14, .int .i64 i15, .slice a16 n17 c18 z19]), (9, [.int .i64 i20, .int .i64 i21, .str s22, .int .i64 i23, .int .i64 i24, .slice a25 n26 c27 z28])], []⟩ σ
noncomputable def f9_j5 (L : Leaf)  (σ : St) : Out :=
 L [1, 1, 1] [] ⟨tm 94 [(6, .v (.bool false))] 0, [], []⟩ σ
noncomputable def f9_l6 (L : Leaf) (m0 m1 : Nat) (a1 : Ad) (n2 : Nat) (c3 : On) (z4 : Nat) (a5 : Ad) (n6 : Nat) (c7 : On) (z8 : Nat) (b9 : Bool) (i10 i11 i12 i13 : Int) (s14 : By) (i15 i16 : Int) (a17 : Ad) (n18 : Nat) (c19 : On) (z20 : Nat) (i21 i22 : Int) (s23 : By) (i24 i25 : Int) (a26 : Ad) (n27 : Nat) (c28 : On) (z29 : Nat) (σ : St) : Out :=
 L [1, 1, 0, 1, 0, 0, 1, 0, 0, 1, 1, 1, 1, 0] [m0, m1] ⟨tm 94 [(0, .v (.slice a1 n2 c3 z4)), (1, .v (.slice a5 n6 c7 z8)), (2, .v (.bool b9)), (6, .v (.bool false)), (7, .v (.int .i64 i10)), (8, .lp 8 0), (9, .lp 9 0), (10, .v (.int .i64 i11))] 0, [(8, [.int .i64 i12, .int .i64 i13, .str s14, .int .i64 i15, .int .i64 i16, .slice a17 n18 c19 z20]), (9, [.int .i64 i21, .int .i64 i22, .str s23, .int .i64 i24, .int .i64 i25, .slice a26 n27 c28 z29])], []⟩ σ
noncomputable def f9_j7 (L : Leaf) (m0 : Nat) (a1 : Ad) (n2 : Nat) (c3 : On) (z4 : Nat) (a5 : Ad) (n6 : Nat) (c7 : On) (z8 : Nat) (b9 : Bool) (i10 : Int) (σ : St) : Out :=
 L [1, 1, 0, 1, 0, 0, 1, 1] [m0] ⟨tm 94 [(0, .v (.slice a1 n2 c3 z4)), (1, .v (.slice a5 n6 c7 z8)), (2, .v (.bool b9)), (6, .v (.bool false)), (7, .v (.int .i64 i10))] 0, [], []⟩ σ
noncomputable def f9_t (L : Leaf) (n : Nat) (a1 : Ad) (n2 : Nat) (c3 : On) (z4 : Nat) (a5 : Ad) (n6 : Nat) (c7 : On) (z8 : Nat) (b9 : Bool) (σ : St) : Out :=
 cond ((n2 : Int) != (n6 : Int)) (some (.ret (.bool false), σ)) (f9_l1 L n a1 n2 c3 z4 a5 n6 c7 z8 b9 (0 : Int) σ)
theorem f9_g : goT Tryz.prog Lb 9 n L [] [] [] ⟨tm 94 [(0, .v (.slice a1 n2 c3 z4)), (1, .v (.slice a5 n6 c7 z8)), (2, .v (.bool b9))] 0, [], []⟩ σ = f9_t L n a1 n2 c3 z4 a5 n6 c7 z8 b9 σ := by kernel_rfl
theorem f9_e : Le (f9_t (pt Tryz.prog Lb 9 n) n a1 n2 c3 z4 a5 n6 c7 z8 b9 σ) (callP Tryz.prog Lb (n + 1) 9 [.slice a1 n2 c3 z4, .slice a5 n6 c7 z8, .bool b9] σ) :=
 goT_call f9_g rfl (by kernel_rfl) (by kernel_rfl)
noncomputable def f9_l1_t (L : Leaf) (_ m0 : Nat) (a1 : Ad) (n2 : Nat) (c3 : On) (z4 : Nat) (a5 : Ad) (n6 : Nat) (c7 : On) (z8 : Nat) (b9 : Bool) (i10 : Int) (σ : St) : Out :=
 cond (decide (i10 < (n2 : Int))) (idxK i10 n2 <|
 derefK a1 fun b11 o12 =>
 szK z4 6 <|
 ldK Tryz.prog 34 σ b11 (o12 + ((i10).toNat * 6)) fun x13 =>
 xAgg x13 fun cs14 =>
 unC cs14 fun x15 r16 =>
 xInt .i64 x15 fun i17 =>
 unC r16 fun x18 r19 =>
 xInt .i64 x18 fun i20 =>
 unC r19 fun x21 r22 =>
 xStr x21 fun s23 =>
 unC r22 fun x24 r25 =>
 xInt .i64 x24 fun i26 =>
 unC r25 fun x27 r28 =>
 xInt .i64 x27 fun i29 =>
 unC r28 fun x30 r31 =>
 xSl x30 fun a32 n33 c34 z35 =>
 nlC r31 <|
 idxK i10 n6 <|
 derefK a5 fun b36 o37 =>
 szK z8 6 <|
 ldK Tryz.prog 34 σ b36 (o37 + ((i10).toNat * 6)) fun x38 =>
 xAgg x38 fun cs39 =>
 unC cs39 fun x40 r41 =>
 xInt .i64 x40 fun i42 =>
 unC r41 fun x43 r44 =>
 xInt .i64 x43 fun i45 =>
 unC r44 fun x46 r47 =>
 xStr x46 fun s48 =>
 unC r47 fun x49 r50 =>
 xInt .i64 x49 fun i51 =>
 unC r50 fun x52 r53 =>
 xInt .i64 x52 fun i54 =>
 unC r53 fun x55 r56 =>
 xSl x55 fun a57 n58 c59 z60 =>
 nlC r56 <|
 cond (i17 != i42) (f9_j2 L m0 a1 n2 c3 z4 a5 n6 c7 z8 b9 i10 i17 i20 s23 i26 i29 a32 n33 c34 z35 i42 i45 s48 i51 i54 a57 n58 c59 z60 σ) (cond (!(s23 == s48)) (f9_j2 L m0 a1 n2 c3 z4 a5 n6 c7 z8 b9 i10 i17 i20 s23 i26 i29 a32 n33 c34 z35 i42 i45 s48 i51 i54 a57 n58 c59 z60 σ) (cond (i26 != i51) (f9_j2 L m0 a1 n2 c3 z4 a5 n6 c7 z8 b9 i10 i17 i20 s23 i26 i29 a32 n33 c34 z35 i42 i45 s48 i51 i54 a57 n58 c59 z60 σ) (cond (i29 != i54) (f9_j2 L m0 a1 n2 c3 z4 a5 n6 c7 z8 b9 i10 i17 i20 s23 i26 i29 a32 n33 c34 z35 i42 i45 s48 i51 i54 a57 n58 c59 z60 σ) (cond ((n33 : Int) != (n58 : Int)) (f9_j2 L m0 a1 n2 c3 z4 a5 n6 c7 z8 b9 i10 i17 i20 s23 i26 i29 a32 n33 c34 z35 i42 i45 s48 i51 i54 a57 n58 c59 z60 σ) (cond (!b9) (f9_j3 L m0 a1 n2 c3 z4 a5 n6 c7 z8 b9 i10 (i20 != i45) i17 i20 s23 i26 i29 a32 n33 c34 z35 i42 i45 s48 i51 i54 a57 n58 c59 z60 σ) (f9_j4 L m0 a1 n2 c3 z4 a5 n6 c7 z8 b9 i10 i17 i20 s23 i26 i29 a32 n33 c34 z35 i42 i45 s48 i51 i54 a57 n58 c59 z60 σ))))))) (f9_j5 L  σ)
theorem f9_l1_g : f9_l1 (goT Tryz.prog Lb 9 n L [[1, 1, 0, 1, 0, 0, 1, 0, 0, 1, 1, 0, 1], [1, 1, 1]]) (m0 + 1) a1 n2 c3 z4 a5 n6 c7 z8 b9 i10 σ = f9_l1_t L n m0 a1 n2 c3 z4 a5 n6 c7 z8 b9 i10 σ := by kernel_rfl
theorem f9_l1_e : Le (f9_l1_t (pt Tryz.prog Lb 9 n) n m0 a1 n2 c3 z4 a5 n6 c7 z8 b9 i10 σ) (f9_l1 (pt Tryz.prog Lb 9 n) (m0 + 1) a1 n2 c3 z4 a5 n6 c7 z8 b9 i10 σ) := by
 unfold f9_l1; exact goT_pt f9_l1_g
noncomputable def f9_j4_t (L : Leaf) (n m0 : Nat) (a1 : Ad) (n2 : Nat) (c3 : On) (z4 : Nat) (a5 : Ad) (n6 : Nat) (c7 : On) (z8 : Nat) (b9 : Bool) (i10 i11 i12 : Int) (s13 : By) (i14 i15 : Int) (a16 : Ad) (n17 : Nat) (c18 : On) (z19 : Nat) (i20 i21 : Int) (s22 : By) (i23 i24 : Int) (a25 : Ad) (n26 : Nat) (c27 : On) (z28 : Nat) (σ : St) : Out :=
 f9_l6 L m0 n a1 n2 c3 z4 a5 n6 c7 z8 b9 i10 (0 : Int) i11 i12 s13 i14 i15 a16 n17 c18 z19 i20 i21 s22 i23 i24 a25 n26 c27 z28 σ
theorem f9_j4_g : f9_j4 (goT Tryz.prog Lb 9 n L []) m0 a1 n2 c3 z4 a5 n6 c7 z8 b9 i10 i11 i12 s13 i14 i15 a16 n17 c18 z19 i20 i21 s22 i23 i24 a25 n26 c27 z28 σ = f9_j4_t L n m0 a1 n2 c3 z4 a5 n6 c7 z8 b9 i10 i11 i12 s13 i14 i15 a16 n17 c18 z19 i20 i21 s22 i23 i24 a25 n26 c27 z28 σ := by kernel_rfl
theorem f9_j4_e : Le (f9_j4_t (pt Tryz.prog Lb 9 n) n m0 a1 n2 c3 z4 a5 n6 c7 z8 b9 i10 i11 i12 s13 i14 i15 a16 n17 c18 z19 i20 i21 s22 i23 i24 a25 n26 c27 z28 σ) (f9_j4 (pt Tryz.prog Lb 9 n) m0 a1 n2 c3 z4 a5 n6 c7 z8 b9 i10 i11 i12 s13 i14 i15 a16 n17 c18 z19 i20 i21 s22 i23 i24 a25 n26 c27 z28 σ) := by
 unfold f9_j4; exact goT_pt f9_j4_g
noncomputable def f9_j5_t (_ : Leaf) (_ : Nat) (σ : St) : Out :=
 some (.ret (.bool true), σ)
theorem f9_j5_g : f9_j5 (goT Tryz.prog Lb 9 n L [])  σ = f9_j5_t L n  σ := by kernel_rfl
theorem f9_j5_e : Le (f9_j5_t (pt Tryz.prog Lb 9 n) n  σ) (f9_j5 (pt Tryz.prog Lb 9 n)  σ) := by
 unfold f9_j5; exact goT_pt f9_j5_g
noncomputable def f9_l6_t (L : Leaf) (_ m0 m1 : Nat) (a1 : Ad) (n2 : Nat) (c3 : On) (z4 : Nat) (a5 : Ad) (n6 : Nat) (c7 : On) (z8 : Nat) (b9 : Bool) (i10 i11 i12 i13 : Int) (s14 : By) (i15 i16 : Int) (a17 : Ad) (n18 : Nat) (c19 : On) (z20 : Nat) (i21 i22 : Int) (s23 : By) (i24 i25 : Int) (a26 : Ad) (n27 : Nat) (c28 : On) (z29 : Nat) (σ : St) : Out :=
 cond (decide (i11 < (n18 : Int))) (idxK i11 n18 <|
 derefK a17 fun b30 o31 =>
 szK z20 1 <|
 ldK Tryz.prog 3 σ b30 (o31 + ((i11).toNat * 1)) fun x32 =>
 xInt .i64 x32 fun i33 =>
 idxK i11 n27 <|
 derefK a26 fun b34 o35 =>
 szK z29 1 <|
 ldK Tryz.prog 3 σ b34 (o35 + ((i11).toNat * 1)) fun x36 =>
 xInt .i64 x36 fun i37 =>
 cond (i33 != i37) (some (.ret (.bool false), σ)) (f9_l6 L m0 m1 a1 n2 c3 z4 a5 n6 c7 z8 b9 i10 (IntKind.wrap .i64 (i11 + (1 : Int))) i12 i13 s14 i15 i16 a17 n18 c19 z20 i21 i22 s23 i24 i25 a26 n27 c28 z29 σ)) (f9_j7 L m0 a1 n2 c3 z4 a5 n6 c7 z8 b9 i10 σ)
theorem f9_l6_g : f9_l6 (goT Tryz.prog Lb 9 n L [[1, 1, 0, 1, 0, 0, 1, 1]]) m0 (m1 + 1) a1 n2 c3 z4 a5 n6 c7 z8 b9 i10 i11 i12 i13 s14 i15 i16 a17 n18 c19 z20 i21 i22 s23 i24 i25 a26 n27 c28 z29 σ = f9_l6_t L n m0 m1 a1 n2 c3 z4 a5 n6 c7 z8 b9 i10 i11 i12 i13 s14 i15 i16 a17 n18 c19 z20 i21 i22 s23 i24 i25 a26 n27 c28 z29 σ := by kernel_rfl
theorem f9_l6_e : Le (f9_l6_t (pt Tryz.prog Lb 9 n) n m0 m1 a1 n2 c3 z4 a5 n6 c7 z8 b9 i10 i11 i12 i13 s14 i15 i16 a17 n18 c19 z20 i21 i22 s23 i24 i25 a26 n27 c28 z29 σ) (f9_l6 (pt Tryz.prog Lb 9 n) m0 (m1 + 1) a1 n2 c3 z4 a5 n6 c7 z8 b9 i10 i11 i12 i13 s14 i15 i16 a17 n18 c19 z20 i21 i22 s23 i24 i25 a26 n27 c28 z29 σ) := by
 unfold f9_l6; exact goT_pt f9_l6_g
noncomputable def f9_j7_t (L : Leaf) (_ m0 : Nat) (a1 : Ad) (n2 : Nat) (c3 : On) (z4 : Nat) (a5 : Ad) (n6 : Nat) (c7 : On) (z8 : Nat) (b9 : Bool) (i10 : Int) (σ : St) : Out :=
 f9_l1 L m0 a1 n2 c3 z4 a5 n6 c7 z8 b9 (IntKind.wrap .i64 (i10 + (1 : Int))) σ
theorem f9_j7_g : f9_j7 (goT Tryz.prog Lb 9 n L []) m0 a1 n2 c3 z4 a5 n6 c7 z8 b9 i10 σ = f9_j7_t L n m0 a1 n2 c3 z4 a5 n6 c7 z8 b9 i10 σ := by kernel_rfl
theorem f9_j7_e : Le (f9_j7_t (pt Tryz.prog Lb 9 n) n m0 a1 n2 c3 z4 a5 n6 c7 z8 b9 i10 σ) (f9_j7 (pt Tryz.prog Lb 9 n) m0 a1 n2 c3 z4 a5 n6 c7 z8 b9 i10 σ) := by
 unfold f9_j7; exact goT_pt f9_j7_g
noncomputable def f10_l1 (L : Leaf) (m0 : Nat) (s1 : By) (a2 : Ad) (n3 : Nat) (c4 : On) (z5 : Nat) (a6 : Ad) (n7 : Nat) (c8 : On) (z9 : Nat) (i10 : Int) (σ : St) : Out :=
 L [1, 1, 1, 0] [m0] ⟨tm 32 [(0, .v (.str s1)), (2, .v (.slice a2 n3 c4 z5)), (3, .v (.slice a6 n7 c8 z9)), (4, .v (.int .i64 i10))] 0, [], []⟩ σ
noncomputable def f10_t (L : Leaf) (n : Nat) (s1 : By) (σ : St) : Out :=
 f10_l1 L n s1 none 0 (some 0) 0 none 0 (some 0) 0 (0 : Int) σ
theorem f10_g : goT Tryz.prog Lb 10 n L [] [] [] ⟨tm 32 [(0, .v (.str s1))] 0, [], []⟩ σ = f10_t L n s1 σ := by kernel_rfl
theorem f10_e : Le (f10_t (pt Tryz.prog Lb 10 n) n s1 σ) (callP Tryz.prog Lb (n + 1) 10 [.str s1] σ) :=
 goT_call f10_g rfl (by kernel_rfl) (by kernel_rfl)
noncomputable def f10_l1_t (L : Leaf) (n m0 : Nat) (s1 : By) (a2 : Ad) (n3 : Nat) (c4 : On) (z5 : Nat) (a6 : Ad) (n7 : Nat) (_ : On) (z9 : Nat) (i10 : Int) (σ : St) : Out :=
 callT Tryz.prog Lb n 20 [.str s1, .int .i64 i10] σ fun v12 σ11 =>
 xInt .i64 v12 fun i13 =>
 callT Tryz.prog Lb n 21 [.str s1, .int .i64 (IntKind.wrap .i64 (i10 + i13))] σ11 fun v15 σ14 =>
 xTup v15 fun cs16 =>
 unC cs16 fun x17 r18 =>
 xAgg x17 fun cs19 =>
 unC cs19 fun x20 r21 =>
 xInt .i64 x20 fun i22 =>
 unC r21 fun x23 r24 =>
 xInt .i64 x23 fun i25 =>
 unC r24 fun x26 r27 =>
 xStr x26 fun s28 =>
 unC r27 fun x29 r30 =>
 xInt .i64 x29 fun i31 =>
 nlC r30 <|
 unC r18 fun x32 r33 =>
 xInt .i64 x32 fun i34 =>
 nlC r33 <|
 appK σ14 38 4 40 a6 n7 z9 1 [.int .i64 i22, .int .i64 i25, .str s28, .int .i64 i31] fun a35 n36 c37 σ38 =>
 cond (i22 == (0 : Int)) (some (.ret (.slice a35 n36 c37 4), σ38)) (cond (i22 == (6 : Int)) (some (.ret (.slice a35 n36 c37 4), σ38)) (f10_l1 L m0 s1 a2 n3 c4 z5 a35 n36 c37 4 i34 σ38))
theorem f10_l1_g : f10_l1 (goT Tryz.prog Lb 10 n L []) (m0 + 1) s1 a2 n3 c4 z5 a6 n7 c8 z9 i10 σ = f10_l1_t L n m0 s1 a2 n3 c4 z5 a6 n7 c8 z9 i10 σ := by kernel_rfl
theorem f10_l1_e : Le (f10_l1_t (pt Tryz.prog Lb 10 n) n m0 s1 a2 n3 c4 z5 a6 n7 c8 z9 i10 σ) (f10_l1 (pt Tryz.prog Lb 10 n) (m0 + 1) s1 a2 n3 c4 z5 a6 n7 c8 z9 i10 σ) := by
 unfold f10_l1; exact goT_pt f10_l1_g
noncomputable def f20_l1 (L : Leaf) (m0 : Nat) (s1 : By) (i2 i3 i4 : Int) (σ : St) : Out :=
 L [1, 1, 0, 0] [m0] ⟨tm 62 [(0, .v (.str s1)), (1, .v (.int .i64 i2)), (4, .v (.int .i64 i3)), (5, .v (.int .i64 i4))] 0, [], []⟩ σ
noncomputable def f20_j2 (L : Leaf) (m0 : Nat) (s1 : By) (i2 i3 i4 : Int) (σ : St) : Out :=
 L [1, 1, 0, 0, 0, 1, 0, 0, 1] [m0] ⟨tm 62 [(0, .v (.str s1)), (1, .v (.int .i64 i2)), (4, .v (.int .i64 i3)), (5, .v (.int .i64 i4)), (26, .v (.bool true))] 0, [], []⟩ σ
noncomputable def f20_j3 (L : Leaf) (m0 : Nat) (s1 : By) (i2 i3 i4 : Int) (b5 : Bool) (σ : St) : Out :=
 L [1, 1, 0, 0, 0, 1, 0, 0, 1] [m0] ⟨tm 62 [(0, .v (.str s1)), (1, .v (.int .i64 i2)), (4, .v (.int .i64 i3)), (5, .v (.int .i64 i4)), (26, .v (.bool b5))] 0, [], []⟩ σ
noncomputable def f20_j4 (L : Leaf) (i1 i2 i3 : Int) (σ : St) : Out :=
 L [1, 1, 1] [] ⟨tm 62 [(1, .v (.int .i64 i1)), (4, .v (.int .i64 i2)), (5, .v (.int .i64 i3))] 0, [], []⟩ σ
noncomputable def f20_l5 (L : Leaf) (m0 m1 : Nat) (s1 : By) (i2 i3 i4 : Int) (σ : St) : Out :=
 L [1, 1, 0, 0, 0, 1, 0, 1, 1, 0] [m0, m1] ⟨tm 62 [(0, .v (.str s1)), (1, .v (.int .i64 i2)), (4, .v (.int .i64 i3)), (5, .v (.int .i64 i4))] 0, [], []⟩ σ
noncomputable def f20_t (L : Leaf) (n : Nat) (s1 : By) (i2 : Int) (σ : St) : Out :=
 f20_l1 L n s1 i2 (0 : Int) i2 σ
theorem f20_g : goT Tryz.prog Lb 20 n L [] [] [] ⟨tm 62 [(0, .v (.str s1)), (1, .v (.int .i64 i2))] 0, [], []⟩ σ = f20_t L n s1 i2 σ := by kernel_rfl
theorem f20_e : Le (f20_t (pt Tryz.prog Lb 20 n) n s1 i2 σ) (callP Tryz.prog Lb (n + 1) 20 [.str s1, .int .i64 i2] σ) :=
 goT_call f20_g rfl (by kernel_rfl) (by kernel_rfl)
noncomputable def f20_l1_t (L : Leaf) (_ m0 : Nat) (s1 : By) (i2 i3 i4 : Int) (σ : St) : Out :=
 cond (decide (i4 < (s1.length : Int))) (byteK s1 i4 fun u5 =>
 cond ((u5.toNat : Int) == (32 : Int)) (f20_j2 L m0 s1 i2 i3 i4 σ) (byteK s1 i4 fun u6 =>
 cond ((u6.toNat : Int) == (9 : Int)) (f20_j2 L m0 s1 i2 i3 i4 σ) (byteK s1 i4 fun u7 =>
 f20_j3 L m0 s1 i2 i3 i4 ((u7.toNat : Int) == (10 : Int)) σ))) (f20_j4 L i2 i3 i4 σ)
theorem f20_l1_g : f20_l1 (goT Tryz.prog Lb 20 n L [[1, 1, 0, 0, 0, 1, 0, 0, 1], [1, 1, 1]]) (m0 + 1) s1 i2 i3 i4 σ = f20_l1_t L n m0 s1 i2 i3 i4 σ := by kernel_rfl
theorem f20_l1_e : Le (f20_l1_t (pt Tryz.prog Lb 20 n) n m0 s1 i2 i3 i4 σ) (f20_l1 (pt Tryz.prog Lb 20 n) (m0 + 1) s1 i2 i3 i4 σ) := by
 unfold f20_l1; exact goT_pt f20_l1_g
noncomputable def f20_j2_t (L : Leaf) (_ m0 : Nat) (s1 : By) (i2 i3 i4 : Int) (σ : St) : Out :=
 f20_l1 L m0 s1 i2 i3 (IntKind.wrap .i64 (i4 + (1 : Int))) σ
theorem f20_j2_g : f20_j2 (goT Tryz.prog Lb 20 n L []) m0 s1 i2 i3 i4 σ = f20_j2_t L n m0 s1 i2 i3 i4 σ := by kernel_rfl
theorem f20_j2_e : Le (f20_j2_t (pt Tryz.prog Lb 20 n) n m0 s1 i2 i3 i4 σ) (f20_j2 (pt Tryz.prog Lb 20 n) m0 s1 i2 i3 i4 σ) := by
 unfold f20_j2; exact goT_pt f20_j2_g
noncomputable def f20_j3_t (L : Leaf) (n m0 : Nat) (s1 : By) (i2 i3 i4 : Int) (b5 : Bool) (σ : St) : Out :=
 cond b5 (f20_l1 L m0 s1 i2 i3 (IntKind.wrap .i64 (i4 + (1 : Int))) σ) (byteK s1 i4 fun u6 =>
 cond ((u6.toNat : Int) != (47 : Int)) (f20_j4 L i2 i3 i4 σ) (cond (decide ((IntKind.wrap .i64 (i4 + (1 : Int))) ≥ (s1.length : Int))) (f20_j4 L i2 i3 i4 σ) (byteK s1 (IntKind.wrap .i64 (i4 + (1 : Int))) fun u7 =>
 cond ((u7.toNat : Int) != (47 : Int)) (f20_j4 L i2 i3 i4 σ) (f20_l5 L m0 n s1 i2 i3 i4 σ))))
theorem f20_j3_g : f20_j3 (goT Tryz.prog Lb 20 n L [[1, 1, 1]]) m0 s1 i2 i3 i4 b5 σ = f20_j3_t L n m0 s1 i2 i3 i4 b5 σ := by kernel_rfl
theorem f20_j3_e : Le (f20_j3_t (pt Tryz.prog Lb 20 n) n m0 s1 i2 i3 i4 b5 σ) (f20_j3 (pt Tryz.prog Lb 20 n) m0 s1 i2 i3 i4 b5 σ) := by
 unfold f20_j3; exact goT_pt f20_j3_g
noncomputable def f20_j4_t (_ : Leaf) (_ : Nat) (i1 _ i3 : Int) (σ : St) : Out :=
 some (.ret (.int .i64 (IntKind.wrap .i64 (i3 - i1))), σ)
theorem f20_j4_g : f20_j4 (goT Tryz.prog Lb 20 n L []) i1 i2 i3 σ = f20_j4_t L n i1 i2 i3 σ := by kernel_rfl
theorem f20_j4_e : Le (f20_j4_t (pt Tryz.prog Lb 20 n) n i1 i2 i3 σ) (f20_j4 (pt Tryz.prog Lb 20 n) i1 i2 i3 σ) := by
 unfold f20_j4; exact goT_pt f20_j4_g
noncomputable def f20_l5_t (L : Leaf) (_ m0 m1 : Nat) (s1 : By) (i2 i3 i4 : Int) (σ : St) : Out :=
 cond (decide (i4 < (s1.length : Int))) (byteK s1 i4 fun u5 =>
 cond ((u5.toNat : Int) != (10 : Int)) (f20_l5 L m0 m1 s1 i2 i3 (IntKind.wrap .i64 (i4 + (1 : Int))) σ) (f20_l1 L m0 s1 i2 i3 i4 σ)) (f20_l1 L m0 s1 i2 i3 i4 σ)
theorem f20_l5_g : f20_l5 (goT Tryz.prog Lb 20 n L []) m0 (m1 + 1) s1 i2 i3 i4 σ = f20_l5_t L n m0 m1 s1 i2 i3 i4 σ := by kernel_rfl
theorem f20_l5_e : Le (f20_l5_t (pt Tryz.prog Lb 20 n) n m0 m1 s1 i2 i3 i4 σ) (f20_l5 (pt Tryz.prog Lb 20 n) m0 (m1 + 1) s1 i2 i3 i4 σ) := by
 unfold f20_l5; exact goT_pt f20_l5_g
noncomputable def f21_l1 (L : Leaf) (m0 : Nat) (s1 : By) (i2 i3 i4 i5 : Int) (b6 : Bool) (i7 i8 : Int) (s9 : By) (i10 : Int) (σ : St) : Out :=
 L [1, 1, 1, 1, 1, 1, 0, 1, 0, 0, 0] [m0] ⟨tm 162 [(0, .v (.str s1)), (1, .v (.int .i64 i2)), (4, .lp 4 0), (5, .v (.int .i64 i3)), (6, .v (.int .u8 i4)), (7, .v (.int .i64 i5)), (9, .v (.bool b6))] 0, [(4, [.int .i64 i7, .int .i64 i8, .str s9, .int .i64 i10])], []⟩ σ
noncomputable def f21_j2 (L : Leaf) (s1 : By) (i2 i3 i4 i5 : Int) (b6 : Bool) (i7 i8 : Int) (s9 : By) (i10 : Int) (σ : St) : Out :=
 L [1, 1, 1, 1, 1, 1, 1] [] ⟨tm 162 [(0, .v (.str s1)), (1, .v (.int .i64 i2)), (4, .lp 4 0), (5, .v (.int .i64 i3)), (6, .v (.int .u8 i4)), (7, .v (.int .i64 i5)), (9, .v (.bool b6))] 0, [(4, [.int .i64 i7, .int .i64 i8, .str s9, .int .i64 i10])], []⟩ σ
noncomputable def f21_j3 (L : Leaf) (s1 : By) (i2 i3 i4 i5 : Int) (b6 : Bool) (i7 i8 : Int) (s9 : By) (i10 : Int) (σ : St) : Out :=
 L [1, 1, 1, 1, 1, 1, 0, 1, 0, 1] [] ⟨tm 162 [(0, .v (.str s1)), (1, .v (.int .i64 i2)), (4, .lp 4 0), (5, .v (.int .i64 i3)), (6, .v (.int .u8 i4)), (7, .v (.int .i64 i5)), (9, .v (.bool b6))] 0, [(4, [.int .i64 i7, .int .i64 i8, .str s9, .int .i64 i10])], []⟩ σ
noncomputable def f21_l4 (L : Leaf) (m0 : Nat) (s1 : By) (i2 i3 i4 i5 i6 i7 : Int) (s8 : By) (i9 : Int) (σ : St) : Out :=
 L [1, 1, 1, 1, 1, 1, 1, 0, 1, 0, 0, 0] [m0] ⟨tm 162 [(0, .v (.str s1)), (1, .v (.int .i64 i2)), (4, .lp 4 0), (5, .v (.int .i64 i3)), (6, .v (.int .u8 i4)), (7, .v (.int .i64 i5))] 0, [(4, [.int .i64 i6, .int .i64 i7, .str s8, .int .i64 i9])], []⟩ σ
noncomputable def f21_j5 (L : Leaf) (s1 : By) (i2 i3 i4 i5 i6 : Int) (s7 : By) (i8 : Int) (σ : St) : Out :=
 L [1, 1, 1, 1, 1, 1, 1, 1] [] ⟨tm 162 [(0, .v (.str s1)), (1, .v (.int .i64 i2)), (4, .lp 4 0), (5, .v (.int .i64 i3)), (6, .v (.int .u8 i4))] 0, [(4, [.int .i64 i5, .int .i64 i6, .str s7, .int .i64 i8])], []⟩ σ
noncomputable def f21_j6 (L : Leaf) (s1 : By) (i2 i3 i4 i5 i6 i7 : Int) (s8 : By) (i9 : Int) (σ : St) : Out :=
 L [1, 1, 1, 1, 1, 1, 1, 0, 1, 0, 1] [] ⟨tm 162 [(0, .v (.str s1)), (1, .v (.int .i64 i2)), (4, .lp 4 0), (5, .v (.int .i64 i3)), (6, .v (.int .u8 i4)), (7, .v (.int .i64 i5))] 0, [(4, [.int .i64 i6, .int .i64 i7, .str s8, .int .i64 i9])], []⟩ σ
noncomputable def f21_l7 (L : Leaf) (m0 : Nat) (s1 : By) (i2 i3 : Int) (a4 : Ad) (n5 : Nat) (c6 : On) (z7 : Nat) (i8 i9 i10 : Int) (s11 : By) (i12 : Int) (σ : St) : Out :=
 L [1, 1, 1, 1, 1, 1, 1, 1, 1, 1, 0, 1, 0] [m0] ⟨tm 162 [(0, .v (.str s1)), (1, .v (.int .i64 i2)), (4, .lp 4 0), (5, .v (.int .i64 i3)), (13, .v (.slice a4 n5 c6 z7)), (14, .v (.int .i64 i8))] 0, [(4, [.int .i64 i9, .int .i64 i10, .str s11, .int .i64 i12])], []⟩ σ
noncomputable def f21_j8 (L : Leaf) (m0 : Nat) (s1 : By) (i2 i3 : Int) (a4 : Ad) (n5 : Nat) (c6 : On) (z7 : Nat) (i8 i9 : Int) (b10 : Bool) (i11 i12 : Int) (s13 : By) (i14 : Int) (σ : St) : Out :=
 L [1, 1, 1, 1, 1, 1, 1, 1, 1, 1, 0, 1, 0, 0, 1, 0, 0, 1, 1] [m0] ⟨tm 162 [(0, .v (.str s1)), (1, .v (.int .i64 i2)), (4, .lp 4 0), (5, .v (.int .i64 i3)), (13, .v (.slice a4 n5 c6 z7)), (14, .v (.int .i64 i8)), (15, .v (.int .i64 i9)), (149, .v (.bool b10))] 0, [(4, [.int .i64 i11, .int .i64 i12, .str s13, .int .i64 i14])], []⟩ σ
noncomputable def f21_j9 (L : Leaf) (m0 : Nat) (s1 : By) (i2 i3 : Int) (a4 : Ad) (n5 : Nat) (c6 : On) (z7 : Nat) (i8 i9 i10 i11 : Int) (s12 : By) (i13 : Int) (σ : St) : Out :=
 L [1, 1, 1, 1, 1, 1, 1, 1, 1, 1, 0, 1, 0, 0, 1, 0, 0, 1, 1] [m0] ⟨tm 162 [(0, .v (.str s1)), (1, .v (.int .i64 i2)), (4, .lp 4 0), (5, .v (.int .i64 i3)), (13, .v (.slice a4 n5 c6 z7)), (14, .v (.int .i64 i8)), (15, .v (.int .i64 i9)), (149, .v (.bool false))] 0, [(4, [.int .i64 i10, .int .i64 i11, .str s12, .int .i64 i13])], []⟩ σ
noncomputable def f21_j10 (L : Leaf) (i1 i2 i3 i4 : Int) (s5 : By) (i6 : Int) (σ : St) : Out :=
 L [1, 1, 1, 1, 1, 1, 1, 1, 1, 1, 1] [] ⟨tm 162 [(1, .v (.int .i64 i1)), (4, .lp 4 0), (5, .v (.int .i64 i2))] 0, [(4, [.int .i64 i3, .int .i64 i4, .str s5, .int .i64 i6])], []⟩ σ
noncomputable def f21_t (L : Leaf) (n : Nat) (s1 : By) (i2 : Int) (σ : St) : Out :=
 cond (decide (i2 ≥ (s1.length : Int))) (some (.ret (.tuple [.agg [.int .i64 (0 : Int), .int .i64 i2, .str [], .int .i64 (0 : Int)], .int .i64 i2]), σ)) (byteK s1 i2 fun u3 =>
 callT Tryz.prog Lb n 44 [.int .u8 (u3.toNat : Int)] σ fun v5 σ4 =>
 xBool v5 fun b6 =>
 callT Tryz.prog Lb n 45 [.int .u8 (u3.toNat : Int)] σ4 fun v8 σ7 =>
 xBool v8 fun b9 =>
 cond b6 (f21_l1 L n s1 i2 (0 : Int) (u3.toNat : Int) i2 b9 (0 : Int) (0 : Int) [] (0 : Int) σ7) (f21_j2 L s1 i2 (0 : Int) (u3.toNat : Int) i2 b9 (0 : Int) (0 : Int) [] (0 : Int) σ7))
theorem f21_g : goT Tryz.prog Lb 21 n L [[1, 1, 1, 1, 1, 1, 1]] [] [] ⟨tm 162 [(0, .v (.str s1)), (1, .v (.int .i64 i2))] 0, [], []⟩ σ = f21_t L n s1 i2 σ := by kernel_rfl
theorem f21_e : Le (f21_t (pt Tryz.prog Lb 21 n) n s1 i2 σ) (callP Tryz.prog Lb (n + 1) 21 [.str s1, .int .i64 i2] σ) :=
 goT_call f21_g rfl (by kernel_rfl) (by kernel_rfl)
noncomputable def f21_l1_t (L : Leaf) (n m0 : Nat) (s1 : By) (i2 i3 i4 i5 : Int) (b6 : Bool) (i7 i8 : Int) (s9 : By) (i10 : Int) (σ : St) : Out :=
 cond (decide (i5 < (s1.length : Int))) (byteK s1 i5 fun u11 =>
 callT Tryz.prog Lb n 44 [.int .u8 (u11.toNat : Int)] σ fun v13 σ12 =>
 xBool v13 fun b14 =>
 cond b14 (f21_l1 L m0 s1 i2 i3 i4 (IntKind.wrap .i64 (i5 + (1 : Int))) b6 i7 i8 s9 i10 σ12) (byteK s1 i5 fun u15 =>
 callT Tryz.prog Lb n 45 [.int .u8 (u15.toNat : Int)] σ12 fun v17 σ16 =>
 xBool v17 fun b18 =>
 cond b18 (f21_l1 L m0 s1 i2 i3 i4 (IntKind.wrap .i64 (i5 + (1 : Int))) b6 i7 i8 s9 i10 σ16) (f21_j3 L s1 i2 i3 i4 i5 b6 i7 i8 s9 i10 σ16))) (f21_j3 L s1 i2 i3 i4 i5 b6 i7 i8 s9 i10 σ)
theorem f21_l1_g : f21_l1 (goT Tryz.prog Lb 21 n L [[1, 1, 1, 1, 1, 1, 0, 1, 0, 1]]) (m0 + 1) s1 i2 i3 i4 i5 b6 i7 i8 s9 i10 σ = f21_l1_t L n m0 s1 i2 i3 i4 i5 b6 i7 i8 s9 i10 σ := by kernel_rfl
theorem f21_l1_e : Le (f21_l1_t (pt Tryz.prog Lb 21 n) n m0 s1 i2 i3 i4 i5 b6 i7 i8 s9 i10 σ) (f21_l1 (pt Tryz.prog Lb 21 n) (m0 + 1) s1 i2 i3 i4 i5 b6 i7 i8 s9 i10 σ) := by
 unfold f21_l1; exact goT_pt f21_l1_g
noncomputable def f21_j2_t (L : Leaf) (n : Nat) (s1 : By) (i2 i3 i4 i5 : Int) (b6 : Bool) (i7 i8 : Int) (s9 : By) (i10 : Int) (σ : St) : Out :=
 cond b6 (f21_l4 L n s1 i2 i3 i4 i5 i7 i8 s9 i10 σ) (f21_j5 L s1 i2 i3 i4 i7 i8 s9 i10 σ)
theorem f21_j2_g : f21_j2 (goT Tryz.prog Lb 21 n L [[1, 1, 1, 1, 1, 1, 1, 1]]) s1 i2 i3 i4 i5 b6 i7 i8 s9 i10 σ = f21_j2_t L n s1 i2 i3 i4 i5 b6 i7 i8 s9 i10 σ := by kernel_rfl
theorem f21_j2_e : Le (f21_j2_t (pt Tryz.prog Lb 21 n) n s1 i2 i3 i4 i5 b6 i7 i8 s9 i10 σ) (f21_j2 (pt Tryz.prog Lb 21 n) s1 i2 i3 i4 i5 b6 i7 i8 s9 i10 σ) := by
 unfold f21_j2; exact goT_pt f21_j2_g
noncomputable def f21_j3_t (_ : Leaf) (n : Nat) (s1 : By) (i2 _ _ i5 : Int) (_ : Bool) (_ _ : Int) (_ : By) (_ : Int) (σ : St) : Out :=
 callTD Tryz.prog Lb n 47 [] σ fun v12 σ11 =>
 xSl v12 fun a13 n14 c15 z16 =>
 cutK s1 i2 i5 fun s17 =>
 callTD Tryz.prog Lb n 46 [.slice a13 n14 c15 z16, .str s17] σ11 fun v19 σ18 =>
 xBool v19 fun b20 =>
 cond b20 (cutK s1 i2 i5 fun s21 =>
 some (.ret (.tuple [.agg [.int .i64 (2 : Int), .int .i64 i2, .str s21, .int .i64 (0 : Int)], .int .i64 i5]), σ18)) (cond (decide ((IntKind.wrap .i64 (i5 - i2)) > (14 : Int))) (some (.ret (.tuple [.agg [.int .i64 (6 : Int), .int .i64 i2, .str [], .int .i64 (0 : Int)], .int .i64 i5]), σ18)) (cutK s1 i2 i5 fun s22 =>
 some (.ret (.tuple [.agg [.int .i64 (1 : Int), .int .i64 i2, .str s22, .int .i64 (0 : Int)], .int .i64 i5]), σ18)))
theorem f21_j3_g : f21_j3 (goT Tryz.prog Lb 21 n L []) s1 i2 i3 i4 i5 b6 i7 i8 s9 i10 σ = f21_j3_t L n s1 i2 i3 i4 i5 b6 i7 i8 s9 i10 σ := by kernel_rfl
theorem f21_j3_e : Le (f21_j3_t (pt Tryz.prog Lb 21 n) n s1 i2 i3 i4 i5 b6 i7 i8 s9 i10 σ) (f21_j3 (pt Tryz.prog Lb 21 n) s1 i2 i3 i4 i5 b6 i7 i8 s9 i10 σ) := by
 unfold f21_j3; exact goT_pt f21_j3_g
noncomputable def f21_l4_t (L : Leaf) (n m0 : Nat) (s1 : By) (i2 i3 i4 i5 i6 i7 : Int) (s8 : By) (i9 : Int) (σ : St) : Out :=
 cond (decide (i5 < (s1.length : Int))) (byteK s1 i5 fun u10 =>
 callT Tryz.prog Lb n 45 [.int .u8 (u10.toNat : Int)] σ fun v12 σ11 =>
 xBool v12 fun b13 =>
 cond b13 (f21_l4 L m0 s1 i2 i3 i4 (IntKind.wrap .i64 (i5 + (1 : Int))) i6 i7 s8 i9 σ11) (f21_j6 L s1 i2 i3 i4 i5 i6 i7 s8 i9 σ11)) (f21_j6 L s1 i2 i3 i4 i5 i6 i7 s8 i9 σ)
theorem f21_l4_g : f21_l4 (goT Tryz.prog Lb 21 n L [[1, 1, 1, 1, 1, 1, 1, 0, 1, 0, 1]]) (m0 + 1) s1 i2 i3 i4 i5 i6 i7 s8 i9 σ = f21_l4_t L n m0 s1 i2 i3 i4 i5 i6 i7 s8 i9 σ := by kernel_rfl
theorem f21_l4_e : Le (f21_l4_t (pt Tryz.prog Lb 21 n) n m0 s1 i2 i3 i4 i5 i6 i7 s8 i9 σ) (f21_l4 (pt Tryz.prog Lb 21 n) (m0 + 1) s1 i2 i3 i4 i5 i6 i7 s8 i9 σ) := by
 unfold f21_l4; exact goT_pt f21_l4_g
noncomputable def f21_j5_t (L : Leaf) (n : Nat) (s1 : By) (i2 i3 i4 i5 i6 : Int) (s7 : By) (i8 : Int) (σ : St) : Out :=
 cond (i4 == (34 : Int)) (callT Tryz.prog Lb n 49 [.str s1, .int .i64 i2] σ fun v10 σ9 =>
 xTup v10 fun cs11 =>
 unC cs11 fun x12 r13 =>
 xAgg x12 fun cs14 =>
 unC cs14 fun x15 r16 =>
 xInt .i64 x15 fun i17 =>
 unC r16 fun x18 r19 =>
 xInt .i64 x18 fun i20 =>
 unC r19 fun x21 r22 =>
 xStr x21 fun s23 =>
 unC r22 fun x24 r25 =>
 xInt .i64 x24 fun i26 =>
 nlC r25 <|
 unC r13 fun x27 r28 =>
 xInt .i64 x27 fun i29 =>
 nlC r28 <|
 some (.ret (.tuple [.agg [.int .i64 i17, .int .i64 i20, .str s23, .int .i64 i26], .int .i64 i29]), σ9)) (cond (i4 == (39 : Int)) (callT Tryz.prog Lb n 49 [.str s1, .int .i64 i2] σ fun v31 σ30 =>
 xTup v31 fun cs32 =>
 unC cs32 fun x33 r34 =>
 xAgg x33 fun cs35 =>
 unC cs35 fun x36 r37 =>
 xInt .i64 x36 fun i38 =>
 unC r37 fun x39 r40 =>
 xInt .i64 x39 fun i41 =>
 unC r40 fun x42 r43 =>
 xStr x42 fun s44 =>
 unC r43 fun x45 r46 =>
 xInt .i64 x45 fun i47 =>
 nlC r46 <|
 unC r34 fun x48 r49 =>
 xInt .i64 x48 fun i50 =>
 nlC r49 <|
 some (.ret (.tuple [.agg [.int .i64 i38, .int .i64 i41, .str s44, .int .i64 i47], .int .i64 i50]), σ30)) (callT Tryz.prog Lb n 50 [] σ fun v52 σ51 =>
 xSl v52 fun a53 n54 c55 z56 =>
 f21_l7 L n s1 i2 i3 a53 n54 c55 z56 (0 : Int) i5 i6 s7 i8 σ51))
theorem f21_j5_g : f21_j5 (goT Tryz.prog Lb 21 n L []) s1 i2 i3 i4 i5 i6 s7 i8 σ = f21_j5_t L n s1 i2 i3 i4 i5 i6 s7 i8 σ := by kernel_rfl
theorem f21_j5_e : Le (f21_j5_t (pt Tryz.prog Lb 21 n) n s1 i2 i3 i4 i5 i6 s7 i8 σ) (f21_j5 (pt Tryz.prog Lb 21 n) s1 i2 i3 i4 i5 i6 s7 i8 σ) := by
 unfold f21_j5; exact goT_pt f21_j5_g
noncomputable def f21_j6_t (_ : Leaf) (n : Nat) (s1 : By) (i2 _ _ i5 _ _ : Int) (_ : By) (_ : Int) (σ : St) : Out :=
 cutK s1 i2 i5 fun s10 =>
 callT Tryz.prog Lb n 48 [.str s10] σ fun v12 σ11 =>
 xTup v12 fun cs13 =>
 unC cs13 fun x14 r15 =>
 xInt .i64 x14 fun i16 =>
 unC r15 fun x17 r18 =>
 xBool x17 fun b19 =>
 nlC r18 <|
 cond (!b19) (some (.ret (.tuple [.agg [.int .i64 (6 : Int), .int .i64 i2, .str [], .int .i64 (0 : Int)], .int .i64 i5]), σ11)) (some (.ret (.tuple [.agg [.int .i64 (3 : Int), .int .i64 i2, .str [], .int .i64 i16], .int .i64 i5]), σ11))
theorem f21_j6_g : f21_j6 (goT Tryz.prog Lb 21 n L []) s1 i2 i3 i4 i5 i6 i7 s8 i9 σ = f21_j6_t L n s1 i2 i3 i4 i5 i6 i7 s8 i9 σ := by kernel_rfl
theorem f21_j6_e : Le (f21_j6_t (pt Tryz.prog Lb 21 n) n s1 i2 i3 i4 i5 i6 i7 s8 i9 σ) (f21_j6 (pt Tryz.prog Lb 21 n) s1 i2 i3 i4 i5 i6 i7 s8 i9 σ) := by
 unfold f21_j6; exact goT_pt f21_j6_g
noncomputable def f21_l7_t (L : Leaf) (_ m0 : Nat) (s1 : By) (i2 i3 : Int) (a4 : Ad) (n5 : Nat) (c6 : On) (z7 : Nat) (i8 i9 i10 : Int) (s11 : By) (i12 : Int) (σ : St) : Out :=
 cond (decide (i8 < (n5 : Int))) (idxK i8 n5 <|
 derefK a4 fun b13 o14 =>
 szK z7 1 <|
 ldK Tryz.prog 9 σ b13 (o14 + ((i8).toNat * 1)) fun x15 =>
 xStr x15 fun s16 =>
 cond (decide ((IntKind.wrap .i64 (i2 + (s16.length : Int))) ≤ (s1.length : Int))) (cutK s1 i2 (IntKind.wrap .i64 (i2 + (s16.length : Int))) fun s17 =>
 idxK i8 n5 <|
 derefK a4 fun b18 o19 =>
 szK z7 1 <|
 ldK Tryz.prog 9 σ b18 (o19 + ((i8).toNat * 1)) fun x20 =>
 xStr x20 fun s21 =>
 f21_j8 L m0 s1 i2 i3 a4 n5 c6 z7 i8 (s16.length : Int) (s17 == s21) i9 i10 s11 i12 σ) (f21_j9 L m0 s1 i2 i3 a4 n5 c6 z7 i8 (s16.length : Int) i9 i10 s11 i12 σ)) (f21_j10 L i2 i3 i9 i10 s11 i12 σ)
theorem f21_l7_g : f21_l7 (goT Tryz.prog Lb 21 n L [[1, 1, 1, 1, 1, 1, 1, 1, 1, 1, 0, 1, 0, 0, 1, 0, 0, 1, 1], [1, 1, 1, 1, 1, 1, 1, 1, 1, 1, 1]]) (m0 + 1) s1 i2 i3 a4 n5 c6 z7 i8 i9 i10 s11 i12 σ = f21_l7_t L n m0 s1 i2 i3 a4 n5 c6 z7 i8 i9 i10 s11 i12 σ := by kernel_rfl
theorem f21_l7_e : Le (f21_l7_t (pt Tryz.prog Lb 21 n) n m0 s1 i2 i3 a4 n5 c6 z7 i8 i9 i10 s11 i12 σ) (f21_l7 (pt Tryz.prog Lb 21 n) (m0 + 1) s1 i2 i3 a4 n5 c6 z7 i8 i9 i10 s11 i12 σ) := by
 unfold f21_l7; exact goT_pt f21_l7_g
noncomputable def f21_j8_t (L : Leaf) (_ m0 : Nat) (s1 : By) (i2 i3 : Int) (a4 : Ad) (n5 : Nat) (c6 : On) (z7 : Nat) (i8 i9 : Int) (b10 : Bool) (i11 i12 : Int) (s13 : By) (i14 : Int) (σ : St) : Out :=
 cond b10 (idxK i8 n5 <|
 derefK a4 fun b15 o16 =>
 szK z7 1 <|
 ldK Tryz.prog 9 σ b15 (o16 + ((i8).toNat * 1)) fun x17 =>
 xStr x17 fun s18 =>
 some (.ret (.tuple [.agg [.int .i64 (5 : Int), .int .i64 i2, .str s18, .int .i64 (0 : Int)], .int .i64 (IntKind.wrap .i64 (i2 + i9))]), σ)) (f21_l7 L m0 s1 i2 i3 a4 n5 c6 z7 (IntKind.wrap .i64 (i8 + (1 : Int))) i11 i12 s13 i14 σ)
theorem f21_j8_g : f21_j8 (goT Tryz.prog Lb 21 n L []) m0 s1 i2 i3 a4 n5 c6 z7 i8 i9 b10 i11 i12 s13 i14 σ = f21_j8_t L n m0 s1 i2 i3 a4 n5 c6 z7 i8 i9 b10 i11 i12 s13 i14 σ := by kernel_rfl
theorem f21_j8_e : Le (f21_j8_t (pt Tryz.prog Lb 21 n) n m0 s1 i2 i3 a4 n5 c6 z7 i8 i9 b10 i11 i12 s13 i14 σ) (f21_j8 (pt Tryz.prog Lb 21 n) m0 s1 i2 i3 a4 n5 c6 z7 i8 i9 b10 i11 i12 s13 i14 σ) := by
 unfold f21_j8; exact goT_pt f21_j8_g
noncomputable def f21_j9_t (L : Leaf) (_ m0 : Nat) (s1 : By) (i2 i3 : Int) (a4 : Ad) (n5 : Nat) (c6 : On) (z7 : Nat) (i8 _ i10 i11 : Int) (s12 : By) (i13 : Int) (σ : St) : Out :=
 f21_l7 L m0 s1 i2 i3 a4 n5 c6 z7 (IntKind.wrap .i64 (i8 + (1 : Int))) i10 i11 s12 i13 σ
theorem f21_j9_g : f21_j9 (goT Tryz.prog Lb 21 n L []) m0 s1 i2 i3 a4 n5 c6 z7 i8 i9 i10 i11 s12 i13 σ = f21_j9_t L n m0 s1 i2 i3 a4 n5 c6 z7 i8 i9 i10 i11 s12 i13 σ := by kernel_rfl
theorem f21_j9_e : Le (f21_j9_t (pt Tryz.prog Lb 21 n) n m0 s1 i2 i3 a4 n5 c6 z7 i8 i9 i10 i11 s12 i13 σ) (f21_j9 (pt Tryz.prog Lb 21 n) m0 s1 i2 i3 a4 n5 c6 z7 i8 i9 i10 i11 s12 i13 σ) := by
 unfold f21_j9; exact goT_pt f21_j9_g
noncomputable def f21_j10_t (_ : Leaf) (_ : Nat) (i1 _ _ _ : Int) (_ : By) (_ : Int) (σ : St) : Out :=
 some (.ret (.tuple [.agg [.int .i64 (6 : Int), .int .i64 i1, .str [], .int .i64 (0 : Int)], .int .i64 i1]), σ)
theorem f21_j10_g : f21_j10 (goT Tryz.prog Lb 21 n L []) i1 i2 i3 i4 s5 i6 σ = f21_j10_t L n i1 i2 i3 i4 s5 i6 σ := by kernel_rfl
theorem f21_j10_e : Le (f21_j10_t (pt Tryz.prog Lb 21 n) n i1 i2 i3 i4 s5 i6 σ) (f21_j10 (pt Tryz.prog Lb 21 n) i1 i2 i3 i4 s5 i6 σ) := by
 unfold f21_j10; exact goT_pt f21_j10_g
noncomputable def f44_t (_ : Leaf) (_ : Nat) (i1 : Int) (σ : St) : Out :=
 cond (decide (i1 ≥ (97 : Int))) (cond (decide (i1 ≤ (122 : Int))) (some (.ret (.bool true), σ)) (cond (decide (i1 ≥ (65 : Int))) (cond (decide (i1 ≤ (90 : Int))) (some (.ret (.bool true), σ)) (some (.ret (.bool (i1 == (95 : Int))), σ))) (some (.ret (.bool (i1 == (95 : Int))), σ)))) (cond (decide (i1 ≥ (65 : Int))) (cond (decide (i1 ≤ (90 : Int))) (some (.ret (.bool true), σ)) (some (.ret (.bool (i1 == (95 : Int))), σ))) (some (.ret (.bool (i1 == (95 : Int))), σ)))
theorem f44_g : goT Tryz.prog Lb 44 n L [] [] [] ⟨tm 21 [(0, .v (.int .u8 i1))] 0, [], []⟩ σ = f44_t L n i1 σ := by kernel_rfl
theorem f44_e : Le (f44_t (pt Tryz.prog Lb 44 n) n i1 σ) (callP Tryz.prog Lb (n + 1) 44 [.int .u8 i1] σ) :=
 goT_call f44_g rfl (by kernel_rfl) (by kernel_rfl)
noncomputable def f45_t (_ : Leaf) (_ : Nat) (i1 : Int) (σ : St) : Out :=
 cond (decide (i1 ≥ (48 : Int))) (some (.ret (.bool (decide (i1 ≤ (57 : Int)))), σ)) (some (.ret (.bool false), σ))
theorem f45_g : goT Tryz.prog Lb 45 n L [] [] [] ⟨tm 9 [(0, .v (.int .u8 i1))] 0, [], []⟩ σ = f45_t L n i1 σ := by kernel_rfl
theorem f45_e : Le (f45_t (pt Tryz.prog Lb 45 n) n i1 σ) (callP Tryz.prog Lb (n + 1) 45 [.int .u8 i1] σ) :=
 goT_call f45_g rfl (by kernel_rfl) (by kernel_rfl)
noncomputable def f46_l1 (L : Leaf) (m0 : Nat) (a1 : Ad) (n2 : Nat) (c3 : On) (z4 : Nat) (s5 : By) (i6 : Int) (σ : St) : Out :=
 L [1, 0, 1, 0] [m0] ⟨tm 18 [(0, .v (.slice a1 n2 c3 z4)), (1, .v (.str s5)), (4, .v (.bool false)), (5, .v (.int .i64 i6))] 0, [], []⟩ σ
noncomputable def f46_j2 (L : Leaf)  (σ : St) : Out :=
 L [1, 1] [] ⟨tm 18 [(4, .v (.bool false))] 0, [], []⟩ σ
noncomputable def f46_t (L : Leaf) (n : Nat) (a1 : Ad) (n2 : Nat) (c3 : On) (z4 : Nat) (s5 : By) (σ : St) : Out :=
 f46_l1 L n a1 n2 c3 z4 s5 (0 : Int) σ
theorem f46_g : goT Tryz.prog Lb 46 n L [] [] [] ⟨tm 18 [(0, .v (.slice a1 n2 c3 z4)), (1, .v (.str s5))] 0, [], []⟩ σ = f46_t L n a1 n2 c3 z4 s5 σ := by kernel_rfl
theorem f46_e : Le (f46_t (pt Tryz.prog Lb 46 n) n a1 n2 c3 z4 s5 σ) (callP Tryz.prog Lb (n + 1) 46 [.slice a1 n2 c3 z4, .str s5] σ) :=
 goT_call f46_g rfl (by kernel_rfl) (by kernel_rfl)
noncomputable def f46_l1_t (L : Leaf) (_ m0 : Nat) (a1 : Ad) (n2 : Nat) (c3 : On) (z4 : Nat) (s5 : By) (i6 : Int) (σ : St) : Out :=
 cond (decide (i6 < (n2 : Int))) (idxK i6 n2 <|
 derefK a1 fun b7 o8 =>
 szK z4 1 <|
 ldK Tryz.prog 9 σ b7 (o8 + ((i6).toNat * 1)) fun x9 =>
 xStr x9 fun s10 =>
 cond (s10 == s5) (some (.ret (.bool true), σ)) (f46_l1 L m0 a1 n2 c3 z4 s5 (IntKind.wrap .i64 (i6 + (1 : Int))) σ)) (f46_j2 L  σ)
theorem f46_l1_g : f46_l1 (goT Tryz.prog Lb 46 n L [[1, 1]]) (m0 + 1) a1 n2 c3 z4 s5 i6 σ = f46_l1_t L n m0 a1 n2 c3 z4 s5 i6 σ := by kernel_rfl
theorem f46_l1_e : Le (f46_l1_t (pt Tryz.prog Lb 46 n) n m0 a1 n2 c3 z4 s5 i6 σ) (f46_l1 (pt Tryz.prog Lb 46 n) (m0 + 1) a1 n2 c3 z4 s5 i6 σ) := by
 unfold f46_l1; exact goT_pt f46_l1_g
noncomputable def f46_j2_t (_ : Leaf) (_ : Nat) (σ : St) : Out :=
 some (.ret (.bool false), σ)
theorem f46_j2_g : f46_j2 (goT Tryz.prog Lb 46 n L [])  σ = f46_j2_t L n  σ := by kernel_rfl
theorem f46_j2_e : Le (f46_j2_t (pt Tryz.prog Lb 46 n) n  σ) (f46_j2 (pt Tryz.prog Lb 46 n)  σ) := by
 unfold f46_j2; exact goT_pt f46_j2_g
noncomputable def f47_t (_ : Leaf) (_ : Nat) (σ : St) : Out :=
 some (.ret (.slice (some (σ.length, 0)) 8 (some 8) 1), (σ ++ [AObj.cells [.str [105, 110, 116], .str [99, 104, 97, 114], .str [105, 102], .str [101, 108, 115, 101], .str [119, 104, 105, 108, 101], .str [114, 101, 116, 117, 114, 110], .str [98, 114, 101, 97, 107], .str [99, 111, 110, 116, 105, 110, 117, 101]] (.rw (.row 9))] : St))
theorem f47_g : goT Tryz.prog Lb 47 n L [] [] [] ⟨tm 2 [] 0, [], []⟩ σ = f47_t L n  σ := by kernel_rfl
theorem f47_e : Le (f47_t (pt Tryz.prog Lb 47 n) n  σ) (callP Tryz.prog Lb (n + 1) 47 [] σ) :=
 goT_call f47_g rfl (by kernel_rfl) (by kernel_rfl)
noncomputable def f48_j1 (L : Leaf) (s1 : By) (i2 : Int) (σ : St) : Out :=
 L [1, 0, 1] [] ⟨tm 37 [(0, .v (.str s1)), (2, .v (.int .i64 i2)), (3, .v (.bool false)), (18, .v (.bool true))] 0, [], []⟩ σ
noncomputable def f48_j2 (L : Leaf) (s1 : By) (i2 : Int) (b3 : Bool) (σ : St) : Out :=
 L [1, 0, 1] [] ⟨tm 37 [(0, .v (.str s1)), (2, .v (.int .i64 i2)), (3, .v (.bool false)), (18, .v (.bool b3))] 0, [], []⟩ σ
noncomputable def f48_j3 (L : Leaf) (s1 : By) (i2 : Int) (σ : St) : Out :=
 L [1, 0, 1] [] ⟨tm 37 [(0, .v (.str s1)), (2, .v (.int .i64 i2)), (3, .v (.bool false)), (18, .v (.bool false))] 0, [], []⟩ σ
noncomputable def f48_l4 (L : Leaf) (m0 : Nat) (s1 : By) (i2 i3 i4 : Int) (σ : St) : Out :=
 L [1, 1, 1, 0, 1, 0] [m0] ⟨tm 37 [(0, .v (.str s1)), (2, .v (.int .i64 i2)), (3, .v (.bool false)), (4, .v (.int .u64 i3)), (5, .v (.int .i64 i4))] 0, [], []⟩ σ
noncomputable def f48_j5 (L : Leaf) (i1 i2 : Int) (σ : St) : Out :=
 L [1, 1, 1, 1] [] ⟨tm 37 [(2, .v (.int .i64 i1)), (3, .v (.bool false)), (4, .v (.int .u64 i2))] 0, [], []⟩ σ
noncomputable def f48_t (L : Leaf) (_ : Nat) (s1 : By) (σ : St) : Out :=
 cond (decide ((s1.length : Int) > (19 : Int))) (f48_j1 L s1 (0 : Int) σ) (cond (decide ((s1.length : Int) > (1 : Int))) (byteK s1 (0 : Int) fun u2 =>
 f48_j2 L s1 (0 : Int) ((u2.toNat : Int) == (48 : Int)) σ) (f48_j3 L s1 (0 : Int) σ))
theorem f48_g : goT Tryz.prog Lb 48 n L [[1, 0, 1]] [] [] ⟨tm 37 [(0, .v (.str s1))] 0, [], []⟩ σ = f48_t L n s1 σ := by kernel_rfl
theorem f48_e : Le (f48_t (pt Tryz.prog Lb 48 n) n s1 σ) (callP Tryz.prog Lb (n + 1) 48 [.str s1] σ) :=
 goT_call f48_g rfl (by kernel_rfl) (by kernel_rfl)
noncomputable def f48_j1_t (_ : Leaf) (_ : Nat) (_ : By) (_ : Int) (σ : St) : Out :=
 some (.ret (.tuple [.int .i64 (0 : Int), .bool false]), σ)
theorem f48_j1_g : f48_j1 (goT Tryz.prog Lb 48 n L []) s1 i2 σ = f48_j1_t L n s1 i2 σ := by kernel_rfl
theorem f48_j1_e : Le (f48_j1_t (pt Tryz.prog Lb 48 n) n s1 i2 σ) (f48_j1 (pt Tryz.prog Lb 48 n) s1 i2 σ) := by
 unfold f48_j1; exact goT_pt f48_j1_g
noncomputable def f48_j2_t (L : Leaf) (n : Nat) (s1 : By) (i2 : Int) (b3 : Bool) (σ : St) : Out :=
 cond b3 (some (.ret (.tuple [.int .i64 (0 : Int), .bool false]), σ)) (f48_l4 L n s1 i2 (0 : Int) (0 : Int) σ)
theorem f48_j2_g : f48_j2 (goT Tryz.prog Lb 48 n L []) s1 i2 b3 σ = f48_j2_t L n s1 i2 b3 σ := by kernel_rfl
theorem f48_j2_e : Le (f48_j2_t (pt Tryz.prog Lb 48 n) n s1 i2 b3 σ) (f48_j2 (pt Tryz.prog Lb 48 n) s1 i2 b3 σ) := by
 unfold f48_j2; exact goT_pt f48_j2_g
noncomputable def f48_j3_t (L : Leaf) (n : Nat) (s1 : By) (i2 : Int) (σ : St) : Out :=
 f48_l4 L n s1 i2 (0 : Int) (0 : Int) σ
theorem f48_j3_g : f48_j3 (goT Tryz.prog Lb 48 n L []) s1 i2 σ = f48_j3_t L n s1 i2 σ := by kernel_rfl
theorem f48_j3_e : Le (f48_j3_t (pt Tryz.prog Lb 48 n) n s1 i2 σ) (f48_j3 (pt Tryz.prog Lb 48 n) s1 i2 σ) := by
 unfold f48_j3; exact goT_pt f48_j3_g
noncomputable def f48_l4_t (L : Leaf) (_ m0 : Nat) (s1 : By) (i2 i3 i4 : Int) (σ : St) : Out :=
 cond (decide (i4 < (s1.length : Int))) (byteK s1 i4 fun u5 =>
 f48_l4 L m0 s1 i2 (IntKind.wrap .u64 ((IntKind.wrap .u64 (i3 * (10 : Int))) + (IntKind.wrap .u64 (IntKind.wrap .u8 ((u5.toNat : Int) - (48 : Int)))))) (IntKind.wrap .i64 (i4 + (1 : Int))) σ) (f48_j5 L i2 i3 σ)
theorem f48_l4_g : f48_l4 (goT Tryz.prog Lb 48 n L [[1, 1, 1, 1]]) (m0 + 1) s1 i2 i3 i4 σ = f48_l4_t L n m0 s1 i2 i3 i4 σ := by kernel_rfl
theorem f48_l4_e : Le (f48_l4_t (pt Tryz.prog Lb 48 n) n m0 s1 i2 i3 i4 σ) (f48_l4 (pt Tryz.prog Lb 48 n) (m0 + 1) s1 i2 i3 i4 σ) := by
 unfold f48_l4; exact goT_pt f48_l4_g
noncomputable def f48_j5_t (_ : Leaf) (_ : Nat) (_ i2 : Int) (σ : St) : Out :=
 some (.ret (.tuple [.int .i64 (IntKind.wrap .i64 i2), .bool (decide (i2 ≤ (9223372036854775807 : Int)))]), σ)
theorem f48_j5_g : f48_j5 (goT Tryz.prog Lb 48 n L []) i1 i2 σ = f48_j5_t L n i1 i2 σ := by kernel_rfl
theorem f48_j5_e : Le (f48_j5_t (pt Tryz.prog Lb 48 n) n i1 i2 σ) (f48_j5 (pt Tryz.prog Lb 48 n) i1 i2 σ) := by
 unfold f48_j5; exact goT_pt f48_j5_g
noncomputable def f49_l1 (L : Leaf) (m0 : Nat) (s1 : By) (i2 i3 i4 : Int) (a5 : Ad) (n6 : Nat) (c7 : On) (z8 : Nat) (i9 i10 i11 : Int) (s12 : By) (i13 : Int) (σ : St) : Out :=
 L [1, 1, 1, 1, 0, 0] [m0] ⟨tm 95 [(0, .v (.str s1)), (1, .v (.int .i64 i2)), (4, .lp 4 0), (5, .v (.int .i64 i3)), (6, .v (.int .u8 i4)), (7, .v (.slice a5 n6 c7 z8)), (8, .v (.int .i64 i9))] 0, [(4, [.int .i64 i10, .int .i64 i11, .str s12, .int .i64 i13])], []⟩ σ
noncomputable def f49_j2 (L : Leaf) (m0 : Nat) (s1 : By) (i2 i3 i4 : Int) (a5 : Ad) (n6 : Nat) (c7 : On) (z8 : Nat) (i9 i10 i11 i12 i13 : Int) (s14 : By) (i15 : Int) (σ : St) : Out :=
 L [1, 1, 1, 1, 0, 0, 0, 1, 0, 1, 0, 1] [m0] ⟨tm 95 [(0, .v (.str s1)), (1, .v (.int .i64 i2)), (4, .lp 4 0), (5, .v (.int .i64 i3)), (6, .v (.int .u8 i4)), (7, .v (.slice a5 n6 c7 z8)), (8, .v (.int .i64 i9)), (9, .v (.int .u8 i10)), (10, .v (.int .i64 i11)), (43, .v (.bool true))] 0, [(4, [.int .i64 i12, .int .i64 i13, .str s14, .int .i64 i15])], []⟩ σ
noncomputable def f49_j3 (L : Leaf) (m0 : Nat) (s1 : By) (i2 i3 i4 : Int) (a5 : Ad) (n6 : Nat) (c7 : On) (z8 : Nat) (i9 i10 i11 : Int) (b12 : Bool) (i13 i14 : Int) (s15 : By) (i16 : Int) (σ : St) : Out :=
 L [1, 1, 1, 1, 0, 0, 0, 1, 0, 1, 0, 1] [m0] ⟨tm 95 [(0, .v (.str s1)), (1, .v (.int .i64 i2)), (4, .lp 4 0), (5, .v (.int .i64 i3)), (6, .v (.int .u8 i4)), (7, .v (.slice a5 n6 c7 z8)), (8, .v (.int .i64 i9)), (9, .v (.int .u8 i10)), (10, .v (.int .i64 i11)), (43, .v (.bool b12))] 0, [(4, [.int .i64 i13, .int .i64 i14, .str s15, .int .i64 i16])], []⟩ σ
noncomputable def f49_j4 (L : Leaf) (m0 : Nat) (s1 : By) (i2 i3 i4 : Int) (a5 : Ad) (n6 : Nat) (c7 : On) (z8 : Nat) (i9 i10 i11 i12 i13 : Int) (s14 : By) (i15 : Int) (σ : St) : Out :=
 L [1, 1, 1, 1, 0, 0, 0, 1, 0, 1, 0, 1] [m0] ⟨tm 95 [(0, .v (.str s1)), (1, .v (.int .i64 i2)), (4, .lp 4 0), (5, .v (.int .i64 i3)), (6, .v (.int .u8 i4)), (7, .v (.slice a5 n6 c7 z8)), (8, .v (.int .i64 i9)), (9, .v (.int .u8 i10)), (10, .v (.int .i64 i11)), (43, .v (.bool false))] 0, [(4, [.int .i64 i12, .int .i64 i13, .str s14, .int .i64 i15])], []⟩ σ
noncomputable def f49_j5 (L : Leaf) (s1 : By) (i2 i3 i4 : Int) (a5 : Ad) (n6 : Nat) (c7 : On) (z8 : Nat) (i9 i10 i11 : Int) (s12 : By) (i13 : Int) (σ : St) : Out :=
 L [1, 1, 1, 1, 1] [] ⟨tm 95 [(0, .v (.str s1)), (1, .v (.int .i64 i2)), (4, .lp 4 0), (5, .v (.int .i64 i3)), (6, .v (.int .u8 i4)), (7, .v (.slice a5 n6 c7 z8)), (8, .v (.int .i64 i9))] 0, [(4, [.int .i64 i10, .int .i64 i11, .str s12, .int .i64 i13])], []⟩ σ
noncomputable def f49_j6 (L : Leaf) (i1 i2 i3 : Int) (a4 : Ad) (n5 : Nat) (c6 : On) (z7 : Nat) (i8 i9 i10 : Int) (s11 : By) (i12 : Int) (σ : St) : Out :=
 L [1, 1, 1, 1, 1, 0, 1] [] ⟨tm 95 [(1, .v (.int .i64 i1)), (4, .lp 4 0), (5, .v (.int .i64 i2)), (6, .v (.int .u8 i3)), (7, .v (.slice a4 n5 c6 z7)), (8, .v (.int .i64 i8)), (75, .v (.bool true))] 0, [(4, [.int .i64 i9, .int .i64 i10, .str s11, .int .i64 i12])], []⟩ σ
noncomputable def f49_j7 (L : Leaf) (i1 i2 i3 : Int) (a4 : Ad) (n5 : Nat) (c6 : On) (z7 : Nat) (i8 : Int) (b9 : Bool) (i10 i11 : Int) (s12 : By) (i13 : Int) (σ : St) : Out :=
 L [1, 1, 1, 1, 1, 0, 1] [] ⟨tm 95 [(1, .v (.int .i64 i1)), (4, .lp 4 0), (5, .v (.int .i64 i2)), (6, .v (.int .u8 i3)), (7, .v (.slice a4 n5 c6 z7)), (8, .v (.int .i64 i8)), (75, .v (.bool b9))] 0, [(4, [.int .i64 i10, .int .i64 i11, .str s12, .int .i64 i13])], []⟩ σ
noncomputable def f49_j8 (L : Leaf) (i1 i2 i3 : Int) (a4 : Ad) (n5 : Nat) (c6 : On) (z7 : Nat) (i8 i9 i10 : Int) (s11 : By) (i12 : Int) (σ : St) : Out :=
 L [1, 1, 1, 1, 1, 0, 1] [] ⟨tm 95 [(1, .v (.int .i64 i1)), (4, .lp 4 0), (5, .v (.int .i64 i2)), (6, .v (.int .u8 i3)), (7, .v (.slice a4 n5 c6 z7)), (8, .v (.int .i64 i8)), (75, .v (.bool false))] 0, [(4, [.int .i64 i9, .int .i64 i10, .str s11, .int .i64 i12])], []⟩ σ
noncomputable def f49_t (L : Leaf) (n : Nat) (s1 : By) (i2 : Int) (σ : St) : Out :=
 byteK s1 i2 fun u3 =>
 f49_l1 L n s1 i2 (0 : Int) (u3.toNat : Int) none 0 (some 0) 0 (IntKind.wrap .i64 (i2 + (1 : Int))) (0 : Int) (0 : Int) [] (0 : Int) σ
theorem f49_g : goT Tryz.prog Lb 49 n L [] [] [] ⟨tm 95 [(0, .v (.str s1)), (1, .v (.int .i64 i2))] 0, [], []⟩ σ = f49_t L n s1 i2 σ := by kernel_rfl
theorem f49_e : Le (f49_t (pt Tryz.prog Lb 49 n) n s1 i2 σ) (callP Tryz.prog Lb (n + 1) 49 [.str s1, .int .i64 i2] σ) :=
 goT_call f49_g rfl (by kernel_rfl) (by kernel_rfl)
noncomputable def f49_l1_t (L : Leaf) (n m0 : Nat) (s1 : By) (i2 i3 i4 : Int) (a5 : Ad) (n6 : Nat) (c7 : On) (z8 : Nat) (i9 i10 i11 : Int) (s12 : By) (i13 : Int) (σ : St) : Out :=
 cond (decide (i9 < (s1.length : Int))) (byteK s1 i9 fun u14 =>
 cond ((u14.toNat : Int) != i4) (callT Tryz.prog Lb n 67 [.str s1, .int .i64 i9, .int .u8 i4] σ fun v16 σ15 =>
 xTup v16 fun cs17 =>
 unC cs17 fun x18 r19 =>
 xInt .u8 x18 fun i20 =>
 unC r19 fun x21 r22 =>
 xInt .i64 x21 fun i23 =>
 nlC r22 <|
 cond (i23 == (0 : Int)) (f49_j2 L m0 s1 i2 i3 i4 a5 n6 c7 z8 i9 i20 i23 i10 i11 s12 i13 σ15) (cond (i4 == (34 : Int)) (f49_j3 L m0 s1 i2 i3 i4 a5 n6 c7 z8 i9 i20 i23 (i20 == (0 : Int)) i10 i11 s12 i13 σ15) (f49_j4 L m0 s1 i2 i3 i4 a5 n6 c7 z8 i9 i20 i23 i10 i11 s12 i13 σ15))) (f49_j5 L s1 i2 i3 i4 a5 n6 c7 z8 i9 i10 i11 s12 i13 σ)) (f49_j5 L s1 i2 i3 i4 a5 n6 c7 z8 i9 i10 i11 s12 i13 σ)
theorem f49_l1_g : f49_l1 (goT Tryz.prog Lb 49 n L [[1, 1, 1, 1, 0, 0, 0, 1, 0, 1, 0, 1], [1, 1, 1, 1, 1]]) (m0 + 1) s1 i2 i3 i4 a5 n6 c7 z8 i9 i10 i11 s12 i13 σ = f49_l1_t L n m0 s1 i2 i3 i4 a5 n6 c7 z8 i9 i10 i11 s12 i13 σ := by kernel_rfl
theorem f49_l1_e : Le (f49_l1_t (pt Tryz.prog Lb 49 n) n m0 s1 i2 i3 i4 a5 n6 c7 z8 i9 i10 i11 s12 i13 σ) (f49_l1 (pt Tryz.prog Lb 49 n) (m0 + 1) s1 i2 i3 i4 a5 n6 c7 z8 i9 i10 i11 s12 i13 σ) := by
 unfold f49_l1; exact goT_pt f49_l1_g
noncomputable def f49_j2_t (_ : Leaf) (_ _ : Nat) (_ : By) (i2 _ _ : Int) (_ : Ad) (_ : Nat) (_ : On) (_ : Nat) (i9 _ _ _ _ : Int) (_ : By) (_ : Int) (σ : St) : Out :=
 some (.ret (.tuple [.agg [.int .i64 (6 : Int), .int .i64 i2, .str [], .int .i64 (0 : Int)], .int .i64 i9]), σ)
theorem f49_j2_g : f49_j2 (goT Tryz.prog Lb 49 n L []) m0 s1 i2 i3 i4 a5 n6 c7 z8 i9 i10 i11 i12 i13 s14 i15 σ = f49_j2_t L n m0 s1 i2 i3 i4 a5 n6 c7 z8 i9 i10 i11 i12 i13 s14 i15 σ := by kernel_rfl
theorem f49_j2_e : Le (f49_j2_t (pt Tryz.prog Lb 49 n) n m0 s1 i2 i3 i4 a5 n6 c7 z8 i9 i10 i11 i12 i13 s14 i15 σ) (f49_j2 (pt Tryz.prog Lb 49 n) m0 s1 i2 i3 i4 a5 n6 c7 z8 i9 i10 i11 i12 i13 s14 i15 σ) := by
 unfold f49_j2; exact goT_pt f49_j2_g
noncomputable def f49_j3_t (L : Leaf) (_ m0 : Nat) (s1 : By) (i2 i3 i4 : Int) (a5 : Ad) (n6 : Nat) (_ : On) (z8 : Nat) (i9 i10 i11 : Int) (b12 : Bool) (i13 i14 : Int) (s15 : By) (i16 : Int) (σ : St) : Out :=
 cond b12 (some (.ret (.tuple [.agg [.int .i64 (6 : Int), .int .i64 i2, .str [], .int .i64 (0 : Int)], .int .i64 i9]), σ)) (appK σ 5 1 1 a5 n6 z8 1 [.int .u8 i10] fun a17 n18 c19 σ20 =>
 f49_l1 L m0 s1 i2 i3 i4 a17 n18 c19 1 (IntKind.wrap .i64 (i9 + i11)) i13 i14 s15 i16 σ20)
theorem f49_j3_g : f49_j3 (goT Tryz.prog Lb 49 n L []) m0 s1 i2 i3 i4 a5 n6 c7 z8 i9 i10 i11 b12 i13 i14 s15 i16 σ = f49_j3_t L n m0 s1 i2 i3 i4 a5 n6 c7 z8 i9 i10 i11 b12 i13 i14 s15 i16 σ := by kernel_rfl
theorem f49_j3_e : Le (f49_j3_t (pt Tryz.prog Lb 49 n) n m0 s1 i2 i3 i4 a5 n6 c7 z8 i9 i10 i11 b12 i13 i14 s15 i16 σ) (f49_j3 (pt Tryz.prog Lb 49 n) m0 s1 i2 i3 i4 a5 n6 c7 z8 i9 i10 i11 b12 i13 i14 s15 i16 σ) := by
 unfold f49_j3; exact goT_pt f49_j3_g
noncomputable def f49_j4_t (L : Leaf) (_ m0 : Nat) (s1 : By) (i2 i3 i4 : Int) (a5 : Ad) (n6 : Nat) (_ : On) (z8 : Nat) (i9 i10 i11 i12 i13 : Int) (s14 : By) (i15 : Int) (σ : St) : Out :=
 appK σ 5 1 1 a5 n6 z8 1 [.int .u8 i10] fun a16 n17 c18 σ19 =>
 f49_l1 L m0 s1 i2 i3 i4 a16 n17 c18 1 (IntKind.wrap .i64 (i9 + i11)) i12 i13 s14 i15 σ19
theorem f49_j4_g : f49_j4 (goT Tryz.prog Lb 49 n L []) m0 s1 i2 i3 i4 a5 n6 c7 z8 i9 i10 i11 i12 i13 s14 i15 σ = f49_j4_t L n m0 s1 i2 i3 i4 a5 n6 c7 z8 i9 i10 i11 i12 i13 s14 i15 σ := by kernel_rfl
theorem f49_j4_e : Le (f49_j4_t (pt Tryz.prog Lb 49 n) n m0 s1 i2 i3 i4 a5 n6 c7 z8 i9 i10 i11 i12 i13 s14 i15 σ) (f49_j4 (pt Tryz.prog Lb 49 n) m0 s1 i2 i3 i4 a5 n6 c7 z8 i9 i10 i11 i12 i13 s14 i15 σ) := by
 unfold f49_j4; exact goT_pt f49_j4_g
noncomputable def f49_j5_t (L : Leaf) (_ : Nat) (s1 : By) (i2 i3 i4 : Int) (a5 : Ad) (n6 : Nat) (c7 : On) (z8 : Nat) (i9 i10 i11 : Int) (s12 : By) (i13 : Int) (σ : St) : Out :=
 cond (decide (i9 ≥ (s1.length : Int))) (f49_j6 L i2 i3 i4 a5 n6 c7 z8 i9 i10 i11 s12 i13 σ) (cond (i4 == (34 : Int)) (cond (decide ((n6 : Int) > (100 : Int))) (f49_j6 L i2 i3 i4 a5 n6 c7 z8 i9 i10 i11 s12 i13 σ) (cond (i4 == (39 : Int)) (f49_j7 L i2 i3 i4 a5 n6 c7 z8 i9 ((n6 : Int) != (1 : Int)) i10 i11 s12 i13 σ) (f49_j8 L i2 i3 i4 a5 n6 c7 z8 i9 i10 i11 s12 i13 σ))) (cond (i4 == (39 : Int)) (f49_j7 L i2 i3 i4 a5 n6 c7 z8 i9 ((n6 : Int) != (1 : Int)) i10 i11 s12 i13 σ) (f49_j8 L i2 i3 i4 a5 n6 c7 z8 i9 i10 i11 s12 i13 σ)))
theorem f49_j5_g : f49_j5 (goT Tryz.prog Lb 49 n L [[1, 1, 1, 1, 1, 0, 1]]) s1 i2 i3 i4 a5 n6 c7 z8 i9 i10 i11 s12 i13 σ = f49_j5_t L n s1 i2 i3 i4 a5 n6 c7 z8 i9 i10 i11 s12 i13 σ := by kernel_rfl
theorem f49_j5_e : Le (f49_j5_t (pt Tryz.prog Lb 49 n) n s1 i2 i3 i4 a5 n6 c7 z8 i9 i10 i11 s12 i13 σ) (f49_j5 (pt Tryz.prog Lb 49 n) s1 i2 i3 i4 a5 n6 c7 z8 i9 i10 i11 s12 i13 σ) := by
 unfold f49_j5; exact goT_pt f49_j5_g
noncomputable def f49_j6_t (_ : Leaf) (_ : Nat) (i1 _ _ : Int) (_ : Ad) (_ : Nat) (_ : On) (_ : Nat) (i8 _ _ : Int) (_ : By) (_ : Int) (σ : St) : Out :=
 some (.ret (.tuple [.agg [.int .i64 (6 : Int), .int .i64 i1, .str [], .int .i64 (0 : Int)], .int .i64 i8]), σ)
theorem f49_j6_g : f49_j6 (goT Tryz.prog Lb 49 n L []) i1 i2 i3 a4 n5 c6 z7 i8 i9 i10 s11 i12 σ = f49_j6_t L n i1 i2 i3 a4 n5 c6 z7 i8 i9 i10 s11 i12 σ := by kernel_rfl
theorem f49_j6_e : Le (f49_j6_t (pt Tryz.prog Lb 49 n) n i1 i2 i3 a4 n5 c6 z7 i8 i9 i10 s11 i12 σ) (f49_j6 (pt Tryz.prog Lb 49 n) i1 i2 i3 a4 n5 c6 z7 i8 i9 i10 s11 i12 σ) := by
 unfold f49_j6; exact goT_pt f49_j6_g
noncomputable def f49_j7_t (_ : Leaf) (_ : Nat) (i1 _ i3 : Int) (a4 : Ad) (n5 : Nat) (_ : On) (z7 : Nat) (i8 : Int) (b9 : Bool) (_ _ : Int) (_ : By) (_ : Int) (σ : St) : Out :=
 cond b9 (some (.ret (.tuple [.agg [.int .i64 (6 : Int), .int .i64 i1, .str [], .int .i64 (0 : Int)], .int .i64 i8]), σ)) (cond (i3 == (34 : Int)) (bytsK σ a4 n5 z7 fun s14 =>
 some (.ret (.tuple [.agg [.int .i64 (4 : Int), .int .i64 i1, .str s14, .int .i64 (0 : Int)], .int .i64 (IntKind.wrap .i64 (i8 + (1 : Int)))]), σ)) (idxK (0 : Int) n5 <|
 derefK a4 fun b15 o16 =>
 szK z7 1 <|
 ldK Tryz.prog 5 σ b15 (o16 + 0) fun x17 =>
 xInt .u8 x17 fun i18 =>
 some (.ret (.tuple [.agg [.int .i64 (3 : Int), .int .i64 i1, .str [], .int .i64 (IntKind.wrap .i64 i18)], .int .i64 (IntKind.wrap .i64 (i8 + (1 : Int)))]), σ)))
theorem f49_j7_g : f49_j7 (goT Tryz.prog Lb 49 n L []) i1 i2 i3 a4 n5 c6 z7 i8 b9 i10 i11 s12 i13 σ = f49_j7_t L n i1 i2 i3 a4 n5 c6 z7 i8 b9 i10 i11 s12 i13 σ := by kernel_rfl
theorem f49_j7_e : Le (f49_j7_t (pt Tryz.prog Lb 49 n) n i1 i2 i3 a4 n5 c6 z7 i8 b9 i10 i11 s12 i13 σ) (f49_j7 (pt Tryz.prog Lb 49 n) i1 i2 i3 a4 n5 c6 z7 i8 b9 i10 i11 s12 i13 σ) := by
 unfold f49_j7; exact goT_pt f49_j7_g
noncomputable def f49_j8_t (_ : Leaf) (_ : Nat) (i1 _ i3 : Int) (a4 : Ad) (n5 : Nat) (_ : On) (z7 : Nat) (i8 _ _ : Int) (_ : By) (_ : Int) (σ : St) : Out :=
 cond (i3 == (34 : Int)) (bytsK σ a4 n5 z7 fun s13 =>
 some (.ret (.tuple [.agg [.int .i64 (4 : Int), .int .i64 i1, .str s13, .int .i64 (0 : Int)], .int .i64 (IntKind.wrap .i64 (i8 + (1 : Int)))]), σ)) (idxK (0 : Int) n5 <|
 derefK a4 fun b14 o15 =>
 szK z7 1 <|
 ldK Tryz.prog 5 σ b14 (o15 + 0) fun x16 =>
 xInt .u8 x16 fun i17 =>
 some (.ret (.tuple [.agg [.int .i64 (3 : Int), .int .i64 i1, .str [], .int .i64 (IntKind.wrap .i64 i17)], .int .i64 (IntKind.wrap .i64 (i8 + (1 : Int)))]), σ))
theorem f49_j8_g : f49_j8 (goT Tryz.prog Lb 49 n L []) i1 i2 i3 a4 n5 c6 z7 i8 i9 i10 s11 i12 σ = f49_j8_t L n i1 i2 i3 a4 n5 c6 z7 i8 i9 i10 s11 i12 σ := by kernel_rfl
theorem f49_j8_e : Le (f49_j8_t (pt Tryz.prog Lb 49 n) n i1 i2 i3 a4 n5 c6 z7 i8 i9 i10 s11 i12 σ) (f49_j8 (pt Tryz.prog Lb 49 n) i1 i2 i3 a4 n5 c6 z7 i8 i9 i10 s11 i12 σ) := by
 unfold f49_j8; exact goT_pt f49_j8_g
noncomputable def f50_t (_ : Leaf) (_ : Nat) (σ : St) : Out :=
 some (.ret (.slice (some (σ.length, 0)) 29 (some 29) 1), (σ ++ [AObj.cells [.str [60, 60], .str [62, 62], .str [60, 61], .str [62, 61], .str [61, 61], .str [33, 61], .str [38, 38], .str [124, 124], .str [40], .str [41], .str [123], .str [125], .str [91], .str [93], .str [59], .str [44], .str [42], .str [47], .str [37], .str [43], .str [45], .str [60], .str [62], .str [38], .str [94], .str [124], .str [61], .str [33], .str [126]] (.rw (.row 9))] : St))
theorem f50_g : goT Tryz.prog Lb 50 n L [] [] [] ⟨tm 2 [] 0, [], []⟩ σ = f50_t L n  σ := by kernel_rfl
theorem f50_e : Le (f50_t (pt Tryz.prog Lb 50 n) n  σ) (callP Tryz.prog Lb (n + 1) 50 [] σ) :=
 goT_call f50_g rfl (by kernel_rfl) (by kernel_rfl)
noncomputable def f67_j1 (L : Leaf) (s1 : By) (i2 i3 i4 i5 : Int) (σ : St) : Out :=
 L [1, 1, 1, 0, 1, 0, 0, 1] [] ⟨tm 53 [(0, .v (.str s1)), (1, .v (.int .i64 i2)), (6, .v (.int .u8 i3)), (7, .v (.int .i64 i4)), (8, .v (.int .u8 i5)), (28, .v (.bool true))] 0, [], []⟩ σ
noncomputable def f67_j2 (L : Leaf) (s1 : By) (i2 i3 i4 i5 : Int) (b6 : Bool) (σ : St) : Out :=
 L [1, 1, 1, 0, 1, 0, 0, 1] [] ⟨tm 53 [(0, .v (.str s1)), (1, .v (.int .i64 i2)), (6, .v (.int .u8 i3)), (7, .v (.int .i64 i4)), (8, .v (.int .u8 i5)), (28, .v (.bool b6))] 0, [], []⟩ σ
noncomputable def f67_j3 (L : Leaf) (s1 : By) (i2 i3 i4 : Int) (σ : St) : Out :=
 L [1, 1, 1, 1, 1, 0, 1, 0, 1, 1, 1, 1, 1, 1, 1] [] ⟨tm 53 [(0, .v (.str s1)), (1, .v (.int .i64 i2)), (6, .v (.int .u8 i3)), (7, .v (.int .i64 i4)), (45, .v (.bool true))] 0, [], []⟩ σ
noncomputable def f67_j4 (L : Leaf) (s1 : By) (i2 i3 i4 : Int) (b5 : Bool) (σ : St) : Out :=
 L [1, 1, 1, 1, 1, 0, 1, 0, 1, 1, 1, 1, 1, 1, 1] [] ⟨tm 53 [(0, .v (.str s1)), (1, .v (.int .i64 i2)), (6, .v (.int .u8 i3)), (7, .v (.int .i64 i4)), (45, .v (.bool b5))] 0, [], []⟩ σ
noncomputable def f67_t (L : Leaf) (_ : Nat) (s1 : By) (i2 i3 : Int) (σ : St) : Out :=
 cond (decide (i2 ≥ (s1.length : Int))) (some (.ret (.tuple [.int .u8 (0 : Int), .int .i64 (0 : Int)]), σ)) (byteK s1 i2 fun u4 =>
 cond ((u4.toNat : Int) != (92 : Int)) (cond (decide ((u4.toNat : Int) < (32 : Int))) (f67_j1 L s1 i2 (0 : Int) (0 : Int) (u4.toNat : Int) σ) (cond (decide ((u4.toNat : Int) > (126 : Int))) (f67_j1 L s1 i2 (0 : Int) (0 : Int) (u4.toNat : Int) σ) (f67_j2 L s1 i2 (0 : Int) (0 : Int) (u4.toNat : Int) ((u4.toNat : Int) == i3) σ))) (cond (decide ((IntKind.wrap .i64 (i2 + (1 : Int))) ≥ (s1.length : Int))) (some (.ret (.tuple [.int .u8 (0 : Int), .int .i64 (0 : Int)]), σ)) (byteK s1 (IntKind.wrap .i64 (i2 + (1 : Int))) fun u5 =>
 cond ((u5.toNat : Int) == (110 : Int)) (some (.ret (.tuple [.int .u8 (10 : Int), .int .i64 (2 : Int)]), σ)) (cond ((u5.toNat : Int) == (116 : Int)) (some (.ret (.tuple [.int .u8 (9 : Int), .int .i64 (2 : Int)]), σ)) (cond ((u5.toNat : Int) == (48 : Int)) (some (.ret (.tuple [.int .u8 (0 : Int), .int .i64 (2 : Int)]), σ)) (cond ((u5.toNat : Int) == (92 : Int)) (f67_j3 L s1 i2 (0 : Int) (0 : Int) σ) (cond ((u5.toNat : Int) == (39 : Int)) (f67_j3 L s1 i2 (0 : Int) (0 : Int) σ) (f67_j4 L s1 i2 (0 : Int) (0 : Int) ((u5.toNat : Int) == (34 : Int)) σ))))))))
theorem f67_g : goT Tryz.prog Lb 67 n L [[1, 1, 1, 0, 1, 0, 0, 1], [1, 1, 1, 1, 1, 0, 1, 0, 1, 1, 1, 1, 1, 1, 1]] [] [] ⟨tm 53 [(0, .v (.str s1)), (1, .v (.int .i64 i2)), (2, .v (.int .u8 i3))] 0, [], []⟩ σ = f67_t L n s1 i2 i3 σ := by kernel_rfl
theorem f67_e : Le (f67_t (pt Tryz.prog Lb 67 n) n s1 i2 i3 σ) (callP Tryz.prog Lb (n + 1) 67 [.str s1, .int .i64 i2, .int .u8 i3] σ) :=
 goT_call f67_g rfl (by kernel_rfl) (by kernel_rfl)
noncomputable def f67_j1_t (_ : Leaf) (_ : Nat) (_ : By) (_ _ _ _ : Int) (σ : St) : Out :=
 some (.ret (.tuple [.int .u8 (0 : Int), .int .i64 (0 : Int)]), σ)
theorem f67_j1_g : f67_j1 (goT Tryz.prog Lb 67 n L []) s1 i2 i3 i4 i5 σ = f67_j1_t L n s1 i2 i3 i4 i5 σ := by kernel_rfl
theorem f67_j1_e : Le (f67_j1_t (pt Tryz.prog Lb 67 n) n s1 i2 i3 i4 i5 σ) (f67_j1 (pt Tryz.prog Lb 67 n) s1 i2 i3 i4 i5 σ) := by
 unfold f67_j1; exact goT_pt f67_j1_g
noncomputable def f67_j2_t (_ : Leaf) (_ : Nat) (_ : By) (_ _ _ i5 : Int) (b6 : Bool) (σ : St) : Out :=
 cond b6 (some (.ret (.tuple [.int .u8 (0 : Int), .int .i64 (0 : Int)]), σ)) (some (.ret (.tuple [.int .u8 i5, .int .i64 (1 : Int)]), σ))
theorem f67_j2_g : f67_j2 (goT Tryz.prog Lb 67 n L []) s1 i2 i3 i4 i5 b6 σ = f67_j2_t L n s1 i2 i3 i4 i5 b6 σ := by kernel_rfl
theorem f67_j2_e : Le (f67_j2_t (pt Tryz.prog Lb 67 n) n s1 i2 i3 i4 i5 b6 σ) (f67_j2 (pt Tryz.prog Lb 67 n) s1 i2 i3 i4 i5 b6 σ) := by
 unfold f67_j2; exact goT_pt f67_j2_g
noncomputable def f67_j3_t (_ : Leaf) (_ : Nat) (s1 : By) (i2 _ _ : Int) (σ : St) : Out :=
 byteK s1 (IntKind.wrap .i64 (i2 + (1 : Int))) fun u5 =>
 some (.ret (.tuple [.int .u8 (u5.toNat : Int), .int .i64 (2 : Int)]), σ)
theorem f67_j3_g : f67_j3 (goT Tryz.prog Lb 67 n L []) s1 i2 i3 i4 σ = f67_j3_t L n s1 i2 i3 i4 σ := by kernel_rfl
theorem f67_j3_e : Le (f67_j3_t (pt Tryz.prog Lb 67 n) n s1 i2 i3 i4 σ) (f67_j3 (pt Tryz.prog Lb 67 n) s1 i2 i3 i4 σ) := by
 unfold f67_j3; exact goT_pt f67_j3_g
noncomputable def f67_j4_t (_ : Leaf) (_ : Nat) (s1 : By) (i2 _ _ : Int) (b5 : Bool) (σ : St) : Out :=
 cond b5 (byteK s1 (IntKind.wrap .i64 (i2 + (1 : Int))) fun u6 =>
 some (.ret (.tuple [.int .u8 (u6.toNat : Int), .int .i64 (2 : Int)]), σ)) (some (.ret (.tuple [.int .u8 (0 : Int), .int .i64 (0 : Int)]), σ))
theorem f67_j4_g : f67_j4 (goT Tryz.prog Lb 67 n L []) s1 i2 i3 i4 b5 σ = f67_j4_t L n s1 i2 i3 i4 b5 σ := by kernel_rfl
theorem f67_j4_e : Le (f67_j4_t (pt Tryz.prog Lb 67 n) n s1 i2 i3 i4 b5 σ) (f67_j4 (pt Tryz.prog Lb 67 n) s1 i2 i3 i4 b5 σ) := by
 unfold f67_j4; exact goT_pt f67_j4_g
end Go.Proofs

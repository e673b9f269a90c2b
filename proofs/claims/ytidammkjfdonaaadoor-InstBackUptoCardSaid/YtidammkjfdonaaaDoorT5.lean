/- The functions, as trees of named steps. -/
import Derived.Test.YtidammkjfdonaaaDoorAmT
import Derived.Test.YtidammkjfdonaaaDoorLb
import Derived.Test.YtidammkjfdonaaaDoorChecked
namespace Go.Proofs
open Go.AM
set_option maxHeartbeats 4000000
/-! ### binnacle/inst.guess(x, form, l) -/
noncomputable def f41_j1 (L : Leaf) (b1 o2 b3 o4 : Nat) (σ : St) : Out :=
  L [1, 1, 1, 1, 0, 1, 1, 1, 1, 1, 0, 1, 1, 1] [] ⟨tm 166 [(3, .v (.ptr (some (b1, o2)))), (5, .v (.ptr (some (b3, o4))))] 0, []⟩ σ
noncomputable def f41_t (L : Leaf) (n : Nat) (a1 : Option (Nat × Nat)) (i2 : Int) (a3 : Option (Nat × Nat)) (n4 : Nat) (c5 : Option Nat) (z6 : Nat) (σ : St) : Out :=
 ldK Tryd.prog 85 ((σ ++ [AObj.cells [.ptr a1] (.rw none)] : St) ++ [AObj.cells [.slice a3 n4 c5 z6] (.rw none)] : St) σ.length 0 fun x7 =>
 xPtr x7 fun a8 =>
 derefK a8 fun b9 o10 =>
 ldK Tryd.prog 3 ((σ ++ [AObj.cells [.ptr a1] (.rw none)] : St) ++ [AObj.cells [.slice a3 n4 c5 z6] (.rw none)] : St) b9 (o10 + 0) fun x11 =>
 xInt .i64 x11 fun i12 =>
 cond (i12 == (4 : Int)) (cond (i2 == (1 : Int)) (ldK Tryd.prog 85 ((σ ++ [AObj.cells [.ptr a1] (.rw none)] : St) ++ [AObj.cells [.slice a3 n4 c5 z6] (.rw none)] : St) σ.length 0 fun x13 =>
   xPtr x13 fun a14 =>
   derefK a14 fun b15 o16 =>
   callT Tryd.prog Lb n 57 [.slice (some (((σ ++ [AObj.cells [.ptr a1] (.rw none)] : St) ++ [AObj.cells [.slice a3 n4 c5 z6] (.rw none)] : St).length, 0)) 1 (some 1) 1, .ptr (some ((σ ++ [AObj.cells [.ptr a1] (.rw none)] : St).length, 0))] (((σ ++ [AObj.cells [.ptr a1] (.rw none)] : St) ++ [AObj.cells [.slice a3 n4 c5 z6] (.rw none)] : St) ++ [AObj.cells [.ptr (some (b15, (o16 + 1)))] (.rw (some 112))] : St) fun _ σ17 =>
   callT Tryd.prog Lb n 58 [.ptr (some ((σ ++ [AObj.cells [.ptr a1] (.rw none)] : St).length, 0)), .ptr (some (σ.length, 0))] σ17 fun _ σ19 =>
   some (.ret (.tuple []), σ19)) (cond (i2 == (2 : Int)) (ldK Tryd.prog 85 ((σ ++ [AObj.cells [.ptr a1] (.rw none)] : St) ++ [AObj.cells [.slice a3 n4 c5 z6] (.rw none)] : St) σ.length 0 fun x21 =>
    xPtr x21 fun a22 =>
    derefK a22 fun b23 o24 =>
    callT Tryd.prog Lb n 57 [.slice (some (((σ ++ [AObj.cells [.ptr a1] (.rw none)] : St) ++ [AObj.cells [.slice a3 n4 c5 z6] (.rw none)] : St).length, 0)) 1 (some 1) 1, .ptr (some ((σ ++ [AObj.cells [.ptr a1] (.rw none)] : St).length, 0))] (((σ ++ [AObj.cells [.ptr a1] (.rw none)] : St) ++ [AObj.cells [.slice a3 n4 c5 z6] (.rw none)] : St) ++ [AObj.cells [.ptr (some (b23, (o24 + 1)))] (.rw (some 112))] : St) fun _ σ25 =>
    callT Tryd.prog Lb n 58 [.ptr (some ((σ ++ [AObj.cells [.ptr a1] (.rw none)] : St).length, 0)), .ptr (some (σ.length, 0))] σ25 fun _ σ27 =>
    some (.ret (.tuple []), σ27)) (cond (i2 == (4 : Int)) (ldK Tryd.prog 85 ((σ ++ [AObj.cells [.ptr a1] (.rw none)] : St) ++ [AObj.cells [.slice a3 n4 c5 z6] (.rw none)] : St) σ.length 0 fun x29 =>
     xPtr x29 fun a30 =>
     derefK a30 fun b31 o32 =>
     ldK Tryd.prog 85 ((σ ++ [AObj.cells [.ptr a1] (.rw none)] : St) ++ [AObj.cells [.slice a3 n4 c5 z6] (.rw none)] : St) σ.length 0 fun x33 =>
     xPtr x33 fun a34 =>
     derefK a34 fun b35 o36 =>
     callTD Tryd.prog Lb n 57 [.slice (some (((σ ++ [AObj.cells [.ptr a1] (.rw none)] : St) ++ [AObj.cells [.slice a3 n4 c5 z6] (.rw none)] : St).length, 0)) 2 (some 2) 1, .ptr (some ((σ ++ [AObj.cells [.ptr a1] (.rw none)] : St).length, 0))] (((σ ++ [AObj.cells [.ptr a1] (.rw none)] : St) ++ [AObj.cells [.slice a3 n4 c5 z6] (.rw none)] : St) ++ [AObj.cells [.ptr (some (b31, (o32 + 2))), .ptr (some (b35, (o36 + 3)))] (.rw (some 112))] : St) fun _ σ37 =>
     callT Tryd.prog Lb n 58 [.ptr (some ((σ ++ [AObj.cells [.ptr a1] (.rw none)] : St).length, 0)), .ptr (some (σ.length, 0))] σ37 fun _ σ39 =>
     some (.ret (.tuple []), σ39)) (cond (i2 == (5 : Int)) (stK (((σ ++ [AObj.cells [.ptr a1] (.rw none)] : St) ++ [AObj.cells [.slice a3 n4 c5 z6] (.rw none)] : St) ++ [AObj.cells [.int .i64 (0 : Int)] (.rw none)] : St) ((σ ++ [AObj.cells [.ptr a1] (.rw none)] : St) ++ [AObj.cells [.slice a3 n4 c5 z6] (.rw none)] : St).length 0 [.int .i64 (0 : Int)] fun σ41 =>
      ldK Tryd.prog 85 σ41 σ.length 0 fun x42 =>
      xPtr x42 fun a43 =>
      derefK a43 fun b44 o45 =>
      ldK Tryd.prog 85 σ41 σ.length 0 fun x46 =>
      xPtr x46 fun a47 =>
      derefK a47 fun b48 o49 =>
      callTD Tryd.prog Lb n 57 [.slice (some (σ41.length, 0)) 3 (some 3) 1, .ptr (some ((σ ++ [AObj.cells [.ptr a1] (.rw none)] : St).length, 0))] (σ41 ++ [AObj.cells [.ptr (some (b44, (o45 + 1))), .ptr (some (((σ ++ [AObj.cells [.ptr a1] (.rw none)] : St) ++ [AObj.cells [.slice a3 n4 c5 z6] (.rw none)] : St).length, 0)), .ptr (some (b48, (o49 + 2)))] (.rw (some 112))] : St) fun _ σ50 =>
      cond (i2 == (5 : Int)) (ldK Tryd.prog 85 σ50 σ.length 0 fun x52 =>
       xPtr x52 fun a53 =>
       ldK Tryd.prog 85 σ50 σ.length 0 fun x54 =>
       xPtr x54 fun a55 =>
       ldK Tryd.prog 85 σ50 σ.length 0 fun x56 =>
       xPtr x56 fun a57 =>
       derefK a57 fun b58 o59 =>
       ldK Tryd.prog 3 σ50 b58 (o59 + 1) fun x60 =>
       xInt .i64 x60 fun i61 =>
       derefK a53 fun b62 o63 =>
       apK [(σ.length, b62)] <|
       stK σ50 b62 (o63 + 1) [.int .i64 (0 : Int)] fun σ64 =>
       derefK a55 fun b65 o66 =>
       stK σ64 b65 (o66 + 3) [.int .i64 i61] fun σ67 =>
       f41_j1 L σ.length 0 ((σ ++ [AObj.cells [.ptr a1] (.rw none)] : St).length) 0 σ67) (f41_j1 L σ.length 0 ((σ ++ [AObj.cells [.ptr a1] (.rw none)] : St).length) 0 σ50)) (stK (((σ ++ [AObj.cells [.ptr a1] (.rw none)] : St) ++ [AObj.cells [.slice a3 n4 c5 z6] (.rw none)] : St) ++ [AObj.cells [.int .i64 (0 : Int)] (.rw none)] : St) ((σ ++ [AObj.cells [.ptr a1] (.rw none)] : St) ++ [AObj.cells [.slice a3 n4 c5 z6] (.rw none)] : St).length 0 [.int .i64 (0 : Int)] fun σ68 =>
      ldK Tryd.prog 85 σ68 σ.length 0 fun x69 =>
      xPtr x69 fun a70 =>
      derefK a70 fun b71 o72 =>
      ldK Tryd.prog 85 σ68 σ.length 0 fun x73 =>
      xPtr x73 fun a74 =>
      derefK a74 fun b75 o76 =>
      callTD Tryd.prog Lb n 57 [.slice (some (σ68.length, 0)) 3 (some 3) 1, .ptr (some ((σ ++ [AObj.cells [.ptr a1] (.rw none)] : St).length, 0))] (σ68 ++ [AObj.cells [.ptr (some (b71, (o72 + 1))), .ptr (some (((σ ++ [AObj.cells [.ptr a1] (.rw none)] : St) ++ [AObj.cells [.slice a3 n4 c5 z6] (.rw none)] : St).length, 0)), .ptr (some (b75, (o76 + 2)))] (.rw (some 112))] : St) fun _ σ77 =>
      cond (i2 == (5 : Int)) (ldK Tryd.prog 85 σ77 σ.length 0 fun x79 =>
       xPtr x79 fun a80 =>
       ldK Tryd.prog 85 σ77 σ.length 0 fun x81 =>
       xPtr x81 fun a82 =>
       ldK Tryd.prog 85 σ77 σ.length 0 fun x83 =>
       xPtr x83 fun a84 =>
       derefK a84 fun b85 o86 =>
       ldK Tryd.prog 3 σ77 b85 (o86 + 1) fun x87 =>
       xInt .i64 x87 fun i88 =>
       derefK a80 fun b89 o90 =>
       apK [(σ.length, b89)] <|
       stK σ77 b89 (o90 + 1) [.int .i64 (0 : Int)] fun σ91 =>
       derefK a82 fun b92 o93 =>
       stK σ91 b92 (o93 + 3) [.int .i64 i88] fun σ94 =>
       f41_j1 L σ.length 0 ((σ ++ [AObj.cells [.ptr a1] (.rw none)] : St).length) 0 σ94) (f41_j1 L σ.length 0 ((σ ++ [AObj.cells [.ptr a1] (.rw none)] : St).length) 0 σ77)))))) (ldK Tryd.prog 85 ((σ ++ [AObj.cells [.ptr a1] (.rw none)] : St) ++ [AObj.cells [.slice a3 n4 c5 z6] (.rw none)] : St) σ.length 0 fun x95 =>
  xPtr x95 fun a96 =>
  derefK a96 fun b97 o98 =>
  ldK Tryd.prog 3 ((σ ++ [AObj.cells [.ptr a1] (.rw none)] : St) ++ [AObj.cells [.slice a3 n4 c5 z6] (.rw none)] : St) b97 (o98 + 0) fun x99 =>
  xInt .i64 x99 fun i100 =>
  cond (decide (i100 ≥ (11 : Int))) (ldK Tryd.prog 85 ((σ ++ [AObj.cells [.ptr a1] (.rw none)] : St) ++ [AObj.cells [.slice a3 n4 c5 z6] (.rw none)] : St) σ.length 0 fun x101 =>
   xPtr x101 fun a102 =>
   derefK a102 fun b103 o104 =>
   ldK Tryd.prog 3 ((σ ++ [AObj.cells [.ptr a1] (.rw none)] : St) ++ [AObj.cells [.slice a3 n4 c5 z6] (.rw none)] : St) b103 (o104 + 0) fun x105 =>
   xInt .i64 x105 fun i106 =>
   cond (i2 == (1 : Int)) (ldK Tryd.prog 85 ((σ ++ [AObj.cells [.ptr a1] (.rw none)] : St) ++ [AObj.cells [.slice a3 n4 c5 z6] (.rw none)] : St) σ.length 0 fun x107 =>
    xPtr x107 fun a108 =>
    derefK a108 fun b109 o110 =>
    callT Tryd.prog Lb n 57 [.slice (some (((σ ++ [AObj.cells [.ptr a1] (.rw none)] : St) ++ [AObj.cells [.slice a3 n4 c5 z6] (.rw none)] : St).length, 0)) 1 (some 1) 1, .ptr (some ((σ ++ [AObj.cells [.ptr a1] (.rw none)] : St).length, 0))] (((σ ++ [AObj.cells [.ptr a1] (.rw none)] : St) ++ [AObj.cells [.slice a3 n4 c5 z6] (.rw none)] : St) ++ [AObj.cells [.ptr (some (b109, (o110 + 1)))] (.rw (some 112))] : St) fun _ σ111 =>
    callT Tryd.prog Lb n 58 [.ptr (some ((σ ++ [AObj.cells [.ptr a1] (.rw none)] : St).length, 0)), .ptr (some (σ.length, 0))] σ111 fun _ σ113 =>
    some (.ret (.tuple []), σ113)) (cond (i2 == (2 : Int)) (ldK Tryd.prog 85 ((σ ++ [AObj.cells [.ptr a1] (.rw none)] : St) ++ [AObj.cells [.slice a3 n4 c5 z6] (.rw none)] : St) σ.length 0 fun x115 =>
     xPtr x115 fun a116 =>
     derefK a116 fun b117 o118 =>
     callT Tryd.prog Lb n 57 [.slice (some (((σ ++ [AObj.cells [.ptr a1] (.rw none)] : St) ++ [AObj.cells [.slice a3 n4 c5 z6] (.rw none)] : St).length, 0)) 1 (some 1) 1, .ptr (some ((σ ++ [AObj.cells [.ptr a1] (.rw none)] : St).length, 0))] (((σ ++ [AObj.cells [.ptr a1] (.rw none)] : St) ++ [AObj.cells [.slice a3 n4 c5 z6] (.rw none)] : St) ++ [AObj.cells [.ptr (some (b117, (o118 + 1)))] (.rw (some 112))] : St) fun _ σ119 =>
     callT Tryd.prog Lb n 58 [.ptr (some ((σ ++ [AObj.cells [.ptr a1] (.rw none)] : St).length, 0)), .ptr (some (σ.length, 0))] σ119 fun _ σ121 =>
     some (.ret (.tuple []), σ121)) (cond (i2 == (4 : Int)) (ldK Tryd.prog 85 ((σ ++ [AObj.cells [.ptr a1] (.rw none)] : St) ++ [AObj.cells [.slice a3 n4 c5 z6] (.rw none)] : St) σ.length 0 fun x123 =>
      xPtr x123 fun a124 =>
      derefK a124 fun b125 o126 =>
      ldK Tryd.prog 85 ((σ ++ [AObj.cells [.ptr a1] (.rw none)] : St) ++ [AObj.cells [.slice a3 n4 c5 z6] (.rw none)] : St) σ.length 0 fun x127 =>
      xPtr x127 fun a128 =>
      derefK a128 fun b129 o130 =>
      callTD Tryd.prog Lb n 57 [.slice (some (((σ ++ [AObj.cells [.ptr a1] (.rw none)] : St) ++ [AObj.cells [.slice a3 n4 c5 z6] (.rw none)] : St).length, 0)) 2 (some 2) 1, .ptr (some ((σ ++ [AObj.cells [.ptr a1] (.rw none)] : St).length, 0))] (((σ ++ [AObj.cells [.ptr a1] (.rw none)] : St) ++ [AObj.cells [.slice a3 n4 c5 z6] (.rw none)] : St) ++ [AObj.cells [.ptr (some (b125, (o126 + 2))), .ptr (some (b129, (o130 + 3)))] (.rw (some 112))] : St) fun _ σ131 =>
      callT Tryd.prog Lb n 58 [.ptr (some ((σ ++ [AObj.cells [.ptr a1] (.rw none)] : St).length, 0)), .ptr (some (σ.length, 0))] σ131 fun _ σ133 =>
      some (.ret (.tuple []), σ133)) (cond (i2 == (5 : Int)) (stK (((σ ++ [AObj.cells [.ptr a1] (.rw none)] : St) ++ [AObj.cells [.slice a3 n4 c5 z6] (.rw none)] : St) ++ [AObj.cells [.int .i64 (0 : Int)] (.rw none)] : St) ((σ ++ [AObj.cells [.ptr a1] (.rw none)] : St) ++ [AObj.cells [.slice a3 n4 c5 z6] (.rw none)] : St).length 0 [.int .i64 (0 : Int)] fun σ135 =>
       ldK Tryd.prog 85 σ135 σ.length 0 fun x136 =>
       xPtr x136 fun a137 =>
       derefK a137 fun b138 o139 =>
       ldK Tryd.prog 85 σ135 σ.length 0 fun x140 =>
       xPtr x140 fun a141 =>
       derefK a141 fun b142 o143 =>
       callTD Tryd.prog Lb n 57 [.slice (some (σ135.length, 0)) 3 (some 3) 1, .ptr (some ((σ ++ [AObj.cells [.ptr a1] (.rw none)] : St).length, 0))] (σ135 ++ [AObj.cells [.ptr (some (b138, (o139 + 1))), .ptr (some (((σ ++ [AObj.cells [.ptr a1] (.rw none)] : St) ++ [AObj.cells [.slice a3 n4 c5 z6] (.rw none)] : St).length, 0)), .ptr (some (b142, (o143 + 2)))] (.rw (some 112))] : St) fun _ σ144 =>
       cond (i2 == (5 : Int)) (ldK Tryd.prog 85 σ144 σ.length 0 fun x146 =>
        xPtr x146 fun a147 =>
        ldK Tryd.prog 85 σ144 σ.length 0 fun x148 =>
        xPtr x148 fun a149 =>
        ldK Tryd.prog 85 σ144 σ.length 0 fun x150 =>
        xPtr x150 fun a151 =>
        derefK a151 fun b152 o153 =>
        ldK Tryd.prog 3 σ144 b152 (o153 + 1) fun x154 =>
        xInt .i64 x154 fun i155 =>
        derefK a147 fun b156 o157 =>
        apK [(σ.length, b156)] <|
        stK σ144 b156 (o157 + 1) [.int .i64 (0 : Int)] fun σ158 =>
        derefK a149 fun b159 o160 =>
        stK σ158 b159 (o160 + 3) [.int .i64 i155] fun σ161 =>
        f41_j1 L σ.length 0 ((σ ++ [AObj.cells [.ptr a1] (.rw none)] : St).length) 0 σ161) (f41_j1 L σ.length 0 ((σ ++ [AObj.cells [.ptr a1] (.rw none)] : St).length) 0 σ144)) (cond (decide (i106 ≤ (17 : Int))) (stK (((σ ++ [AObj.cells [.ptr a1] (.rw none)] : St) ++ [AObj.cells [.slice a3 n4 c5 z6] (.rw none)] : St) ++ [AObj.cells [.int .i64 (0 : Int)] (.rw none)] : St) ((σ ++ [AObj.cells [.ptr a1] (.rw none)] : St) ++ [AObj.cells [.slice a3 n4 c5 z6] (.rw none)] : St).length 0 [.int .i64 (0 : Int)] fun σ162 =>
        ldK Tryd.prog 85 σ162 σ.length 0 fun x163 =>
        xPtr x163 fun a164 =>
        derefK a164 fun b165 o166 =>
        ldK Tryd.prog 85 σ162 σ.length 0 fun x167 =>
        xPtr x167 fun a168 =>
        derefK a168 fun b169 o170 =>
        callTD Tryd.prog Lb n 57 [.slice (some (σ162.length, 0)) 3 (some 3) 1, .ptr (some ((σ ++ [AObj.cells [.ptr a1] (.rw none)] : St).length, 0))] (σ162 ++ [AObj.cells [.ptr (some (b165, (o166 + 1))), .ptr (some (((σ ++ [AObj.cells [.ptr a1] (.rw none)] : St) ++ [AObj.cells [.slice a3 n4 c5 z6] (.rw none)] : St).length, 0)), .ptr (some (b169, (o170 + 2)))] (.rw (some 112))] : St) fun _ σ171 =>
        cond (i2 == (5 : Int)) (ldK Tryd.prog 85 σ171 σ.length 0 fun x173 =>
         xPtr x173 fun a174 =>
         ldK Tryd.prog 85 σ171 σ.length 0 fun x175 =>
         xPtr x175 fun a176 =>
         ldK Tryd.prog 85 σ171 σ.length 0 fun x177 =>
         xPtr x177 fun a178 =>
         derefK a178 fun b179 o180 =>
         ldK Tryd.prog 3 σ171 b179 (o180 + 1) fun x181 =>
         xInt .i64 x181 fun i182 =>
         derefK a174 fun b183 o184 =>
         apK [(σ.length, b183)] <|
         stK σ171 b183 (o184 + 1) [.int .i64 (0 : Int)] fun σ185 =>
         derefK a176 fun b186 o187 =>
         stK σ185 b186 (o187 + 3) [.int .i64 i182] fun σ188 =>
         f41_j1 L σ.length 0 ((σ ++ [AObj.cells [.ptr a1] (.rw none)] : St).length) 0 σ188) (f41_j1 L σ.length 0 ((σ ++ [AObj.cells [.ptr a1] (.rw none)] : St).length) 0 σ171)) (cond (i2 == (8 : Int)) (ldK Tryd.prog 85 ((σ ++ [AObj.cells [.ptr a1] (.rw none)] : St) ++ [AObj.cells [.slice a3 n4 c5 z6] (.rw none)] : St) σ.length 0 fun x189 =>
         xPtr x189 fun a190 =>
         derefK a190 fun b191 o192 =>
         ldK Tryd.prog 85 ((σ ++ [AObj.cells [.ptr a1] (.rw none)] : St) ++ [AObj.cells [.slice a3 n4 c5 z6] (.rw none)] : St) σ.length 0 fun x193 =>
         xPtr x193 fun a194 =>
         derefK a194 fun b195 o196 =>
         ldK Tryd.prog 85 ((σ ++ [AObj.cells [.ptr a1] (.rw none)] : St) ++ [AObj.cells [.slice a3 n4 c5 z6] (.rw none)] : St) σ.length 0 fun x197 =>
         xPtr x197 fun a198 =>
         derefK a198 fun b199 o200 =>
         callTD Tryd.prog Lb n 57 [.slice (some (((σ ++ [AObj.cells [.ptr a1] (.rw none)] : St) ++ [AObj.cells [.slice a3 n4 c5 z6] (.rw none)] : St).length, 0)) 3 (some 3) 1, .ptr (some ((σ ++ [AObj.cells [.ptr a1] (.rw none)] : St).length, 0))] (((σ ++ [AObj.cells [.ptr a1] (.rw none)] : St) ++ [AObj.cells [.slice a3 n4 c5 z6] (.rw none)] : St) ++ [AObj.cells [.ptr (some (b191, (o192 + 1))), .ptr (some (b195, (o196 + 2))), .ptr (some (b199, (o200 + 3)))] (.rw (some 112))] : St) fun _ σ201 =>
         some (.ret (.tuple []), σ201)) (cond (i2 == (9 : Int)) (ldK Tryd.prog 85 ((σ ++ [AObj.cells [.ptr a1] (.rw none)] : St) ++ [AObj.cells [.slice a3 n4 c5 z6] (.rw none)] : St) σ.length 0 fun x203 =>
          xPtr x203 fun a204 =>
          derefK a204 fun b205 o206 =>
          ldK Tryd.prog 3 ((σ ++ [AObj.cells [.ptr a1] (.rw none)] : St) ++ [AObj.cells [.slice a3 n4 c5 z6] (.rw none)] : St) b205 (o206 + 0) fun x207 =>
          xInt .i64 x207 fun i208 =>
          cond (i208 == (66 : Int)) (ldK Tryd.prog 85 ((σ ++ [AObj.cells [.ptr a1] (.rw none)] : St) ++ [AObj.cells [.slice a3 n4 c5 z6] (.rw none)] : St) σ.length 0 fun x209 =>
           xPtr x209 fun a210 =>
           derefK a210 fun b211 o212 =>
           ldK Tryd.prog 85 ((σ ++ [AObj.cells [.ptr a1] (.rw none)] : St) ++ [AObj.cells [.slice a3 n4 c5 z6] (.rw none)] : St) σ.length 0 fun x213 =>
           xPtr x213 fun a214 =>
           derefK a214 fun b215 o216 =>
           callTD Tryd.prog Lb n 57 [.slice (some (((σ ++ [AObj.cells [.ptr a1] (.rw none)] : St) ++ [AObj.cells [.slice a3 n4 c5 z6] (.rw none)] : St).length, 0)) 2 (some 2) 1, .ptr (some ((σ ++ [AObj.cells [.ptr a1] (.rw none)] : St).length, 0))] (((σ ++ [AObj.cells [.ptr a1] (.rw none)] : St) ++ [AObj.cells [.slice a3 n4 c5 z6] (.rw none)] : St) ++ [AObj.cells [.ptr (some (b211, (o212 + 1))), .ptr (some (b215, (o216 + 2)))] (.rw (some 112))] : St) fun _ σ217 =>
           some (.ret (.tuple []), σ217)) (ldK Tryd.prog 85 ((σ ++ [AObj.cells [.ptr a1] (.rw none)] : St) ++ [AObj.cells [.slice a3 n4 c5 z6] (.rw none)] : St) σ.length 0 fun x219 =>
           xPtr x219 fun a220 =>
           derefK a220 fun b221 o222 =>
           ldK Tryd.prog 3 ((σ ++ [AObj.cells [.ptr a1] (.rw none)] : St) ++ [AObj.cells [.slice a3 n4 c5 z6] (.rw none)] : St) b221 (o222 + 0) fun x223 =>
           xInt .i64 x223 fun i224 =>
           cond (i224 == (77 : Int)) (ldK Tryd.prog 85 ((σ ++ [AObj.cells [.ptr a1] (.rw none)] : St) ++ [AObj.cells [.slice a3 n4 c5 z6] (.rw none)] : St) σ.length 0 fun x225 =>
            xPtr x225 fun a226 =>
            derefK a226 fun b227 o228 =>
            ldK Tryd.prog 85 ((σ ++ [AObj.cells [.ptr a1] (.rw none)] : St) ++ [AObj.cells [.slice a3 n4 c5 z6] (.rw none)] : St) σ.length 0 fun x229 =>
            xPtr x229 fun a230 =>
            derefK a230 fun b231 o232 =>
            callTD Tryd.prog Lb n 57 [.slice (some (((σ ++ [AObj.cells [.ptr a1] (.rw none)] : St) ++ [AObj.cells [.slice a3 n4 c5 z6] (.rw none)] : St).length, 0)) 2 (some 2) 1, .ptr (some ((σ ++ [AObj.cells [.ptr a1] (.rw none)] : St).length, 0))] (((σ ++ [AObj.cells [.ptr a1] (.rw none)] : St) ++ [AObj.cells [.slice a3 n4 c5 z6] (.rw none)] : St) ++ [AObj.cells [.ptr (some (b227, (o228 + 1))), .ptr (some (b231, (o232 + 2)))] (.rw (some 112))] : St) fun _ σ233 =>
            some (.ret (.tuple []), σ233)) (cond (i2 == (9 : Int)) (ldK Tryd.prog 85 ((σ ++ [AObj.cells [.ptr a1] (.rw none)] : St) ++ [AObj.cells [.slice a3 n4 c5 z6] (.rw none)] : St) σ.length 0 fun x235 =>
            xPtr x235 fun a236 =>
            derefK a236 fun b237 o238 =>
            ldK Tryd.prog 85 ((σ ++ [AObj.cells [.ptr a1] (.rw none)] : St) ++ [AObj.cells [.slice a3 n4 c5 z6] (.rw none)] : St) σ.length 0 fun x239 =>
            xPtr x239 fun a240 =>
            derefK a240 fun b241 o242 =>
            ldK Tryd.prog 85 ((σ ++ [AObj.cells [.ptr a1] (.rw none)] : St) ++ [AObj.cells [.slice a3 n4 c5 z6] (.rw none)] : St) σ.length 0 fun x243 =>
            xPtr x243 fun a244 =>
            derefK a244 fun b245 o246 =>
            callTD Tryd.prog Lb n 57 [.slice (some (((σ ++ [AObj.cells [.ptr a1] (.rw none)] : St) ++ [AObj.cells [.slice a3 n4 c5 z6] (.rw none)] : St).length, 0)) 3 (some 3) 1, .ptr (some ((σ ++ [AObj.cells [.ptr a1] (.rw none)] : St).length, 0))] (((σ ++ [AObj.cells [.ptr a1] (.rw none)] : St) ++ [AObj.cells [.slice a3 n4 c5 z6] (.rw none)] : St) ++ [AObj.cells [.ptr (some (b237, (o238 + 1))), .ptr (some (b241, (o242 + 3))), .ptr (some (b245, (o246 + 2)))] (.rw (some 112))] : St) fun _ σ247 =>
            some (.ret (.tuple []), σ247)) (cond (i2 != (10 : Int)) (ldK Tryd.prog 85 ((σ ++ [AObj.cells [.ptr a1] (.rw none)] : St) ++ [AObj.cells [.slice a3 n4 c5 z6] (.rw none)] : St) σ.length 0 fun x249 =>
            xPtr x249 fun a250 =>
            derefK a250 fun b251 o252 =>
            ldK Tryd.prog 85 ((σ ++ [AObj.cells [.ptr a1] (.rw none)] : St) ++ [AObj.cells [.slice a3 n4 c5 z6] (.rw none)] : St) σ.length 0 fun x253 =>
            xPtr x253 fun a254 =>
            derefK a254 fun b255 o256 =>
            callTD Tryd.prog Lb n 57 [.slice (some (((σ ++ [AObj.cells [.ptr a1] (.rw none)] : St) ++ [AObj.cells [.slice a3 n4 c5 z6] (.rw none)] : St).length, 0)) 2 (some 2) 1, .ptr (some ((σ ++ [AObj.cells [.ptr a1] (.rw none)] : St).length, 0))] (((σ ++ [AObj.cells [.ptr a1] (.rw none)] : St) ++ [AObj.cells [.slice a3 n4 c5 z6] (.rw none)] : St) ++ [AObj.cells [.ptr (some (b251, (o252 + 1))), .ptr (some (b255, (o256 + 2)))] (.rw (some 112))] : St) fun _ σ257 =>
            callT Tryd.prog Lb n 58 [.ptr (some ((σ ++ [AObj.cells [.ptr a1] (.rw none)] : St).length, 0)), .ptr (some (σ.length, 0))] σ257 fun _ σ259 =>
            some (.ret (.tuple []), σ259)) (some (.ret (.tuple []), ((σ ++ [AObj.cells [.ptr a1] (.rw none)] : St) ++ [AObj.cells [.slice a3 n4 c5 z6] (.rw none)] : St))))))) (cond (i2 == (9 : Int)) (ldK Tryd.prog 85 ((σ ++ [AObj.cells [.ptr a1] (.rw none)] : St) ++ [AObj.cells [.slice a3 n4 c5 z6] (.rw none)] : St) σ.length 0 fun x261 =>
           xPtr x261 fun a262 =>
           derefK a262 fun b263 o264 =>
           ldK Tryd.prog 85 ((σ ++ [AObj.cells [.ptr a1] (.rw none)] : St) ++ [AObj.cells [.slice a3 n4 c5 z6] (.rw none)] : St) σ.length 0 fun x265 =>
           xPtr x265 fun a266 =>
           derefK a266 fun b267 o268 =>
           ldK Tryd.prog 85 ((σ ++ [AObj.cells [.ptr a1] (.rw none)] : St) ++ [AObj.cells [.slice a3 n4 c5 z6] (.rw none)] : St) σ.length 0 fun x269 =>
           xPtr x269 fun a270 =>
           derefK a270 fun b271 o272 =>
           callTD Tryd.prog Lb n 57 [.slice (some (((σ ++ [AObj.cells [.ptr a1] (.rw none)] : St) ++ [AObj.cells [.slice a3 n4 c5 z6] (.rw none)] : St).length, 0)) 3 (some 3) 1, .ptr (some ((σ ++ [AObj.cells [.ptr a1] (.rw none)] : St).length, 0))] (((σ ++ [AObj.cells [.ptr a1] (.rw none)] : St) ++ [AObj.cells [.slice a3 n4 c5 z6] (.rw none)] : St) ++ [AObj.cells [.ptr (some (b263, (o264 + 1))), .ptr (some (b267, (o268 + 3))), .ptr (some (b271, (o272 + 2)))] (.rw (some 112))] : St) fun _ σ273 =>
           some (.ret (.tuple []), σ273)) (cond (i2 != (10 : Int)) (ldK Tryd.prog 85 ((σ ++ [AObj.cells [.ptr a1] (.rw none)] : St) ++ [AObj.cells [.slice a3 n4 c5 z6] (.rw none)] : St) σ.length 0 fun x275 =>
            xPtr x275 fun a276 =>
            derefK a276 fun b277 o278 =>
            ldK Tryd.prog 85 ((σ ++ [AObj.cells [.ptr a1] (.rw none)] : St) ++ [AObj.cells [.slice a3 n4 c5 z6] (.rw none)] : St) σ.length 0 fun x279 =>
            xPtr x279 fun a280 =>
            derefK a280 fun b281 o282 =>
            callTD Tryd.prog Lb n 57 [.slice (some (((σ ++ [AObj.cells [.ptr a1] (.rw none)] : St) ++ [AObj.cells [.slice a3 n4 c5 z6] (.rw none)] : St).length, 0)) 2 (some 2) 1, .ptr (some ((σ ++ [AObj.cells [.ptr a1] (.rw none)] : St).length, 0))] (((σ ++ [AObj.cells [.ptr a1] (.rw none)] : St) ++ [AObj.cells [.slice a3 n4 c5 z6] (.rw none)] : St) ++ [AObj.cells [.ptr (some (b277, (o278 + 1))), .ptr (some (b281, (o282 + 2)))] (.rw (some 112))] : St) fun _ σ283 =>
            callT Tryd.prog Lb n 58 [.ptr (some ((σ ++ [AObj.cells [.ptr a1] (.rw none)] : St).length, 0)), .ptr (some (σ.length, 0))] σ283 fun _ σ285 =>
            some (.ret (.tuple []), σ285)) (some (.ret (.tuple []), ((σ ++ [AObj.cells [.ptr a1] (.rw none)] : St) ++ [AObj.cells [.slice a3 n4 c5 z6] (.rw none)] : St)))))))))))) (cond (i2 == (1 : Int)) (ldK Tryd.prog 85 ((σ ++ [AObj.cells [.ptr a1] (.rw none)] : St) ++ [AObj.cells [.slice a3 n4 c5 z6] (.rw none)] : St) σ.length 0 fun x287 =>
    xPtr x287 fun a288 =>
    derefK a288 fun b289 o290 =>
    callT Tryd.prog Lb n 57 [.slice (some (((σ ++ [AObj.cells [.ptr a1] (.rw none)] : St) ++ [AObj.cells [.slice a3 n4 c5 z6] (.rw none)] : St).length, 0)) 1 (some 1) 1, .ptr (some ((σ ++ [AObj.cells [.ptr a1] (.rw none)] : St).length, 0))] (((σ ++ [AObj.cells [.ptr a1] (.rw none)] : St) ++ [AObj.cells [.slice a3 n4 c5 z6] (.rw none)] : St) ++ [AObj.cells [.ptr (some (b289, (o290 + 1)))] (.rw (some 112))] : St) fun _ σ291 =>
    callT Tryd.prog Lb n 58 [.ptr (some ((σ ++ [AObj.cells [.ptr a1] (.rw none)] : St).length, 0)), .ptr (some (σ.length, 0))] σ291 fun _ σ293 =>
    some (.ret (.tuple []), σ293)) (cond (i2 == (2 : Int)) (ldK Tryd.prog 85 ((σ ++ [AObj.cells [.ptr a1] (.rw none)] : St) ++ [AObj.cells [.slice a3 n4 c5 z6] (.rw none)] : St) σ.length 0 fun x295 =>
     xPtr x295 fun a296 =>
     derefK a296 fun b297 o298 =>
     callT Tryd.prog Lb n 57 [.slice (some (((σ ++ [AObj.cells [.ptr a1] (.rw none)] : St) ++ [AObj.cells [.slice a3 n4 c5 z6] (.rw none)] : St).length, 0)) 1 (some 1) 1, .ptr (some ((σ ++ [AObj.cells [.ptr a1] (.rw none)] : St).length, 0))] (((σ ++ [AObj.cells [.ptr a1] (.rw none)] : St) ++ [AObj.cells [.slice a3 n4 c5 z6] (.rw none)] : St) ++ [AObj.cells [.ptr (some (b297, (o298 + 1)))] (.rw (some 112))] : St) fun _ σ299 =>
     callT Tryd.prog Lb n 58 [.ptr (some ((σ ++ [AObj.cells [.ptr a1] (.rw none)] : St).length, 0)), .ptr (some (σ.length, 0))] σ299 fun _ σ301 =>
     some (.ret (.tuple []), σ301)) (cond (i2 == (4 : Int)) (ldK Tryd.prog 85 ((σ ++ [AObj.cells [.ptr a1] (.rw none)] : St) ++ [AObj.cells [.slice a3 n4 c5 z6] (.rw none)] : St) σ.length 0 fun x303 =>
      xPtr x303 fun a304 =>
      derefK a304 fun b305 o306 =>
      ldK Tryd.prog 85 ((σ ++ [AObj.cells [.ptr a1] (.rw none)] : St) ++ [AObj.cells [.slice a3 n4 c5 z6] (.rw none)] : St) σ.length 0 fun x307 =>
      xPtr x307 fun a308 =>
      derefK a308 fun b309 o310 =>
      callTD Tryd.prog Lb n 57 [.slice (some (((σ ++ [AObj.cells [.ptr a1] (.rw none)] : St) ++ [AObj.cells [.slice a3 n4 c5 z6] (.rw none)] : St).length, 0)) 2 (some 2) 1, .ptr (some ((σ ++ [AObj.cells [.ptr a1] (.rw none)] : St).length, 0))] (((σ ++ [AObj.cells [.ptr a1] (.rw none)] : St) ++ [AObj.cells [.slice a3 n4 c5 z6] (.rw none)] : St) ++ [AObj.cells [.ptr (some (b305, (o306 + 2))), .ptr (some (b309, (o310 + 3)))] (.rw (some 112))] : St) fun _ σ311 =>
      callT Tryd.prog Lb n 58 [.ptr (some ((σ ++ [AObj.cells [.ptr a1] (.rw none)] : St).length, 0)), .ptr (some (σ.length, 0))] σ311 fun _ σ313 =>
      some (.ret (.tuple []), σ313)) (cond (i2 == (5 : Int)) (stK (((σ ++ [AObj.cells [.ptr a1] (.rw none)] : St) ++ [AObj.cells [.slice a3 n4 c5 z6] (.rw none)] : St) ++ [AObj.cells [.int .i64 (0 : Int)] (.rw none)] : St) ((σ ++ [AObj.cells [.ptr a1] (.rw none)] : St) ++ [AObj.cells [.slice a3 n4 c5 z6] (.rw none)] : St).length 0 [.int .i64 (0 : Int)] fun σ315 =>
       ldK Tryd.prog 85 σ315 σ.length 0 fun x316 =>
       xPtr x316 fun a317 =>
       derefK a317 fun b318 o319 =>
       ldK Tryd.prog 85 σ315 σ.length 0 fun x320 =>
       xPtr x320 fun a321 =>
       derefK a321 fun b322 o323 =>
       callTD Tryd.prog Lb n 57 [.slice (some (σ315.length, 0)) 3 (some 3) 1, .ptr (some ((σ ++ [AObj.cells [.ptr a1] (.rw none)] : St).length, 0))] (σ315 ++ [AObj.cells [.ptr (some (b318, (o319 + 1))), .ptr (some (((σ ++ [AObj.cells [.ptr a1] (.rw none)] : St) ++ [AObj.cells [.slice a3 n4 c5 z6] (.rw none)] : St).length, 0)), .ptr (some (b322, (o323 + 2)))] (.rw (some 112))] : St) fun _ σ324 =>
       cond (i2 == (5 : Int)) (ldK Tryd.prog 85 σ324 σ.length 0 fun x326 =>
        xPtr x326 fun a327 =>
        ldK Tryd.prog 85 σ324 σ.length 0 fun x328 =>
        xPtr x328 fun a329 =>
        ldK Tryd.prog 85 σ324 σ.length 0 fun x330 =>
        xPtr x330 fun a331 =>
        derefK a331 fun b332 o333 =>
        ldK Tryd.prog 3 σ324 b332 (o333 + 1) fun x334 =>
        xInt .i64 x334 fun i335 =>
        derefK a327 fun b336 o337 =>
        apK [(σ.length, b336)] <|
        stK σ324 b336 (o337 + 1) [.int .i64 (0 : Int)] fun σ338 =>
        derefK a329 fun b339 o340 =>
        stK σ338 b339 (o340 + 3) [.int .i64 i335] fun σ341 =>
        f41_j1 L σ.length 0 ((σ ++ [AObj.cells [.ptr a1] (.rw none)] : St).length) 0 σ341) (f41_j1 L σ.length 0 ((σ ++ [AObj.cells [.ptr a1] (.rw none)] : St).length) 0 σ324)) (cond (i2 == (8 : Int)) (ldK Tryd.prog 85 ((σ ++ [AObj.cells [.ptr a1] (.rw none)] : St) ++ [AObj.cells [.slice a3 n4 c5 z6] (.rw none)] : St) σ.length 0 fun x342 =>
        xPtr x342 fun a343 =>
        derefK a343 fun b344 o345 =>
        ldK Tryd.prog 85 ((σ ++ [AObj.cells [.ptr a1] (.rw none)] : St) ++ [AObj.cells [.slice a3 n4 c5 z6] (.rw none)] : St) σ.length 0 fun x346 =>
        xPtr x346 fun a347 =>
        derefK a347 fun b348 o349 =>
        ldK Tryd.prog 85 ((σ ++ [AObj.cells [.ptr a1] (.rw none)] : St) ++ [AObj.cells [.slice a3 n4 c5 z6] (.rw none)] : St) σ.length 0 fun x350 =>
        xPtr x350 fun a351 =>
        derefK a351 fun b352 o353 =>
        callTD Tryd.prog Lb n 57 [.slice (some (((σ ++ [AObj.cells [.ptr a1] (.rw none)] : St) ++ [AObj.cells [.slice a3 n4 c5 z6] (.rw none)] : St).length, 0)) 3 (some 3) 1, .ptr (some ((σ ++ [AObj.cells [.ptr a1] (.rw none)] : St).length, 0))] (((σ ++ [AObj.cells [.ptr a1] (.rw none)] : St) ++ [AObj.cells [.slice a3 n4 c5 z6] (.rw none)] : St) ++ [AObj.cells [.ptr (some (b344, (o345 + 1))), .ptr (some (b348, (o349 + 2))), .ptr (some (b352, (o353 + 3)))] (.rw (some 112))] : St) fun _ σ354 =>
        some (.ret (.tuple []), σ354)) (cond (i2 == (9 : Int)) (ldK Tryd.prog 85 ((σ ++ [AObj.cells [.ptr a1] (.rw none)] : St) ++ [AObj.cells [.slice a3 n4 c5 z6] (.rw none)] : St) σ.length 0 fun x356 =>
         xPtr x356 fun a357 =>
         derefK a357 fun b358 o359 =>
         ldK Tryd.prog 3 ((σ ++ [AObj.cells [.ptr a1] (.rw none)] : St) ++ [AObj.cells [.slice a3 n4 c5 z6] (.rw none)] : St) b358 (o359 + 0) fun x360 =>
         xInt .i64 x360 fun i361 =>
         cond (i361 == (66 : Int)) (ldK Tryd.prog 85 ((σ ++ [AObj.cells [.ptr a1] (.rw none)] : St) ++ [AObj.cells [.slice a3 n4 c5 z6] (.rw none)] : St) σ.length 0 fun x362 =>
          xPtr x362 fun a363 =>
          derefK a363 fun b364 o365 =>
          ldK Tryd.prog 85 ((σ ++ [AObj.cells [.ptr a1] (.rw none)] : St) ++ [AObj.cells [.slice a3 n4 c5 z6] (.rw none)] : St) σ.length 0 fun x366 =>
          xPtr x366 fun a367 =>
          derefK a367 fun b368 o369 =>
          callTD Tryd.prog Lb n 57 [.slice (some (((σ ++ [AObj.cells [.ptr a1] (.rw none)] : St) ++ [AObj.cells [.slice a3 n4 c5 z6] (.rw none)] : St).length, 0)) 2 (some 2) 1, .ptr (some ((σ ++ [AObj.cells [.ptr a1] (.rw none)] : St).length, 0))] (((σ ++ [AObj.cells [.ptr a1] (.rw none)] : St) ++ [AObj.cells [.slice a3 n4 c5 z6] (.rw none)] : St) ++ [AObj.cells [.ptr (some (b364, (o365 + 1))), .ptr (some (b368, (o369 + 2)))] (.rw (some 112))] : St) fun _ σ370 =>
          some (.ret (.tuple []), σ370)) (ldK Tryd.prog 85 ((σ ++ [AObj.cells [.ptr a1] (.rw none)] : St) ++ [AObj.cells [.slice a3 n4 c5 z6] (.rw none)] : St) σ.length 0 fun x372 =>
          xPtr x372 fun a373 =>
          derefK a373 fun b374 o375 =>
          ldK Tryd.prog 3 ((σ ++ [AObj.cells [.ptr a1] (.rw none)] : St) ++ [AObj.cells [.slice a3 n4 c5 z6] (.rw none)] : St) b374 (o375 + 0) fun x376 =>
          xInt .i64 x376 fun i377 =>
          cond (i377 == (77 : Int)) (ldK Tryd.prog 85 ((σ ++ [AObj.cells [.ptr a1] (.rw none)] : St) ++ [AObj.cells [.slice a3 n4 c5 z6] (.rw none)] : St) σ.length 0 fun x378 =>
           xPtr x378 fun a379 =>
           derefK a379 fun b380 o381 =>
           ldK Tryd.prog 85 ((σ ++ [AObj.cells [.ptr a1] (.rw none)] : St) ++ [AObj.cells [.slice a3 n4 c5 z6] (.rw none)] : St) σ.length 0 fun x382 =>
           xPtr x382 fun a383 =>
           derefK a383 fun b384 o385 =>
           callTD Tryd.prog Lb n 57 [.slice (some (((σ ++ [AObj.cells [.ptr a1] (.rw none)] : St) ++ [AObj.cells [.slice a3 n4 c5 z6] (.rw none)] : St).length, 0)) 2 (some 2) 1, .ptr (some ((σ ++ [AObj.cells [.ptr a1] (.rw none)] : St).length, 0))] (((σ ++ [AObj.cells [.ptr a1] (.rw none)] : St) ++ [AObj.cells [.slice a3 n4 c5 z6] (.rw none)] : St) ++ [AObj.cells [.ptr (some (b380, (o381 + 1))), .ptr (some (b384, (o385 + 2)))] (.rw (some 112))] : St) fun _ σ386 =>
           some (.ret (.tuple []), σ386)) (cond (i2 == (9 : Int)) (ldK Tryd.prog 85 ((σ ++ [AObj.cells [.ptr a1] (.rw none)] : St) ++ [AObj.cells [.slice a3 n4 c5 z6] (.rw none)] : St) σ.length 0 fun x388 =>
            xPtr x388 fun a389 =>
            derefK a389 fun b390 o391 =>
            ldK Tryd.prog 85 ((σ ++ [AObj.cells [.ptr a1] (.rw none)] : St) ++ [AObj.cells [.slice a3 n4 c5 z6] (.rw none)] : St) σ.length 0 fun x392 =>
            xPtr x392 fun a393 =>
            derefK a393 fun b394 o395 =>
            ldK Tryd.prog 85 ((σ ++ [AObj.cells [.ptr a1] (.rw none)] : St) ++ [AObj.cells [.slice a3 n4 c5 z6] (.rw none)] : St) σ.length 0 fun x396 =>
            xPtr x396 fun a397 =>
            derefK a397 fun b398 o399 =>
            callTD Tryd.prog Lb n 57 [.slice (some (((σ ++ [AObj.cells [.ptr a1] (.rw none)] : St) ++ [AObj.cells [.slice a3 n4 c5 z6] (.rw none)] : St).length, 0)) 3 (some 3) 1, .ptr (some ((σ ++ [AObj.cells [.ptr a1] (.rw none)] : St).length, 0))] (((σ ++ [AObj.cells [.ptr a1] (.rw none)] : St) ++ [AObj.cells [.slice a3 n4 c5 z6] (.rw none)] : St) ++ [AObj.cells [.ptr (some (b390, (o391 + 1))), .ptr (some (b394, (o395 + 3))), .ptr (some (b398, (o399 + 2)))] (.rw (some 112))] : St) fun _ σ400 =>
            some (.ret (.tuple []), σ400)) (cond (i2 != (10 : Int)) (ldK Tryd.prog 85 ((σ ++ [AObj.cells [.ptr a1] (.rw none)] : St) ++ [AObj.cells [.slice a3 n4 c5 z6] (.rw none)] : St) σ.length 0 fun x402 =>
            xPtr x402 fun a403 =>
            derefK a403 fun b404 o405 =>
            ldK Tryd.prog 85 ((σ ++ [AObj.cells [.ptr a1] (.rw none)] : St) ++ [AObj.cells [.slice a3 n4 c5 z6] (.rw none)] : St) σ.length 0 fun x406 =>
            xPtr x406 fun a407 =>
            derefK a407 fun b408 o409 =>
            callTD Tryd.prog Lb n 57 [.slice (some (((σ ++ [AObj.cells [.ptr a1] (.rw none)] : St) ++ [AObj.cells [.slice a3 n4 c5 z6] (.rw none)] : St).length, 0)) 2 (some 2) 1, .ptr (some ((σ ++ [AObj.cells [.ptr a1] (.rw none)] : St).length, 0))] (((σ ++ [AObj.cells [.ptr a1] (.rw none)] : St) ++ [AObj.cells [.slice a3 n4 c5 z6] (.rw none)] : St) ++ [AObj.cells [.ptr (some (b404, (o405 + 1))), .ptr (some (b408, (o409 + 2)))] (.rw (some 112))] : St) fun _ σ410 =>
            callT Tryd.prog Lb n 58 [.ptr (some ((σ ++ [AObj.cells [.ptr a1] (.rw none)] : St).length, 0)), .ptr (some (σ.length, 0))] σ410 fun _ σ412 =>
            some (.ret (.tuple []), σ412)) (some (.ret (.tuple []), ((σ ++ [AObj.cells [.ptr a1] (.rw none)] : St) ++ [AObj.cells [.slice a3 n4 c5 z6] (.rw none)] : St))))))) (cond (i2 == (9 : Int)) (ldK Tryd.prog 85 ((σ ++ [AObj.cells [.ptr a1] (.rw none)] : St) ++ [AObj.cells [.slice a3 n4 c5 z6] (.rw none)] : St) σ.length 0 fun x414 =>
          xPtr x414 fun a415 =>
          derefK a415 fun b416 o417 =>
          ldK Tryd.prog 85 ((σ ++ [AObj.cells [.ptr a1] (.rw none)] : St) ++ [AObj.cells [.slice a3 n4 c5 z6] (.rw none)] : St) σ.length 0 fun x418 =>
          xPtr x418 fun a419 =>
          derefK a419 fun b420 o421 =>
          ldK Tryd.prog 85 ((σ ++ [AObj.cells [.ptr a1] (.rw none)] : St) ++ [AObj.cells [.slice a3 n4 c5 z6] (.rw none)] : St) σ.length 0 fun x422 =>
          xPtr x422 fun a423 =>
          derefK a423 fun b424 o425 =>
          callTD Tryd.prog Lb n 57 [.slice (some (((σ ++ [AObj.cells [.ptr a1] (.rw none)] : St) ++ [AObj.cells [.slice a3 n4 c5 z6] (.rw none)] : St).length, 0)) 3 (some 3) 1, .ptr (some ((σ ++ [AObj.cells [.ptr a1] (.rw none)] : St).length, 0))] (((σ ++ [AObj.cells [.ptr a1] (.rw none)] : St) ++ [AObj.cells [.slice a3 n4 c5 z6] (.rw none)] : St) ++ [AObj.cells [.ptr (some (b416, (o417 + 1))), .ptr (some (b420, (o421 + 3))), .ptr (some (b424, (o425 + 2)))] (.rw (some 112))] : St) fun _ σ426 =>
          some (.ret (.tuple []), σ426)) (cond (i2 != (10 : Int)) (ldK Tryd.prog 85 ((σ ++ [AObj.cells [.ptr a1] (.rw none)] : St) ++ [AObj.cells [.slice a3 n4 c5 z6] (.rw none)] : St) σ.length 0 fun x428 =>
           xPtr x428 fun a429 =>
           derefK a429 fun b430 o431 =>
           ldK Tryd.prog 85 ((σ ++ [AObj.cells [.ptr a1] (.rw none)] : St) ++ [AObj.cells [.slice a3 n4 c5 z6] (.rw none)] : St) σ.length 0 fun x432 =>
           xPtr x432 fun a433 =>
           derefK a433 fun b434 o435 =>
           callTD Tryd.prog Lb n 57 [.slice (some (((σ ++ [AObj.cells [.ptr a1] (.rw none)] : St) ++ [AObj.cells [.slice a3 n4 c5 z6] (.rw none)] : St).length, 0)) 2 (some 2) 1, .ptr (some ((σ ++ [AObj.cells [.ptr a1] (.rw none)] : St).length, 0))] (((σ ++ [AObj.cells [.ptr a1] (.rw none)] : St) ++ [AObj.cells [.slice a3 n4 c5 z6] (.rw none)] : St) ++ [AObj.cells [.ptr (some (b430, (o431 + 1))), .ptr (some (b434, (o435 + 2)))] (.rw (some 112))] : St) fun _ σ436 =>
           callT Tryd.prog Lb n 58 [.ptr (some ((σ ++ [AObj.cells [.ptr a1] (.rw none)] : St).length, 0)), .ptr (some (σ.length, 0))] σ436 fun _ σ438 =>
           some (.ret (.tuple []), σ438)) (some (.ret (.tuple []), ((σ ++ [AObj.cells [.ptr a1] (.rw none)] : St) ++ [AObj.cells [.slice a3 n4 c5 z6] (.rw none)] : St))))))))))))
theorem f41_g (L : Leaf) (n : Nat) (a1 : Option (Nat × Nat)) (i2 : Int) (a3 : Option (Nat × Nat)) (n4 : Nat) (c5 : Option Nat) (z6 : Nat) (σ : St) : goT Tryd.prog Lb 41 n L [[1, 1, 1, 1, 0, 1, 1, 1, 1, 1, 0, 1, 1, 1]] [] [] ⟨tm 166 [(0, .v (.ptr a1)), (1, .v (.int .u32 i2)), (2, .v (.slice a3 n4 c5 z6))] 0, []⟩ σ = f41_t L n a1 i2 a3 n4 c5 z6 σ := by kernel_rfl
theorem f41_e {n : Nat} {a1 : Option (Nat × Nat)} {i2 : Int} {a3 : Option (Nat × Nat)} {n4 : Nat} {c5 : Option Nat} {z6 : Nat} {σ : St} : Le (f41_t (pt Tryd.prog Lb 41 n) n a1 i2 a3 n4 c5 z6 σ) (callP Tryd.prog Lb (n + 1) 41 [.ptr a1, .int .u32 i2, .slice a3 n4 c5 z6] σ) :=
  goT_call (f41_g _ n a1 i2 a3 n4 c5 z6 σ) rfl (by kernel_rfl) (by kernel_rfl)
noncomputable def f41_j1_t (_ : Leaf) (_ b1 o2 b3 o4 : Nat) (σ : St) : Out :=
 ldK Tryd.prog 77 σ b3 o4 fun x5 =>
 xSl x5 fun _ n7 _ _ =>
 cond (decide ((n7 : Int) > (1 : Int))) (ldK Tryd.prog 85 σ b1 o2 fun x10 =>
  xPtr x10 fun a11 =>
  ldK Tryd.prog 77 σ b3 o4 fun x12 =>
  xSl x12 fun a13 n14 _ z16 =>
  idxK (1 : Int) n14 <|
  derefK a13 fun b17 o18 =>
  szK z16 1 <|
  ldK Tryd.prog 2 σ b17 (o18 + 1) fun x19 =>
  xInt .i64 x19 fun i20 =>
  derefK a11 fun b21 o22 =>
  stK σ b21 (o22 + 4) [.int .i64 i20] fun σ23 =>
  some (.ret (.tuple []), σ23)) (some (.ret (.tuple []), σ))
theorem f41_j1_g (L : Leaf) (n : Nat) (b1 o2 b3 o4 : Nat) (σ : St) : goT Tryd.prog Lb 41 n L [] [1, 1, 1, 1, 0, 1, 1, 1, 1, 1, 0, 1, 1, 1] [] ⟨tm 166 [(3, .v (.ptr (some (b1, o2)))), (5, .v (.ptr (some (b3, o4))))] 0, []⟩ σ = f41_j1_t L n b1 o2 b3 o4 σ := by kernel_rfl
theorem f41_j1_e {n : Nat} {b1 o2 b3 o4 : Nat} {σ : St} : Le (f41_j1_t (pt Tryd.prog Lb 41 n) n b1 o2 b3 o4 σ) (f41_j1 (pt Tryd.prog Lb 41 n) b1 o2 b3 o4 σ) := by
  unfold f41_j1; exact goT_pt (f41_j1_g _ n b1 o2 b3 o4 σ)
end Go.Proofs

/- What a replacer's table makes of a text: (*byteStringReplacer).Replace. -/
import Derived.Test.YtlbieeajocjpeaaGreatDoorWk13
import Derived.Test.YtlbieeajocjpeaaGreatDoorT9
import Derived.Lib.Bytealg
set_option linter.unusedSimpArgs false
set_option linter.unusedVariables false
namespace Go.Front
open Go.AM Go.Proofs
def nilS:AV:=.slice none 0 (some 0) 0
def rep (c:UInt8):Option (List UInt8):=if c = 10 then some [92,110] else if c = 9 then some [92,116] else if c = 92 then some [92,92] else if c = 34 then some [92,34] else none
theorem rep_cases (c:UInt8):(c = 10 ∧ rep c = some [92,110]) ∨ (c = 9 ∧ rep c = some [92,116]) ∨ (c = 92 ∧ rep c = some [92,92]) ∨ (c = 34 ∧ rep c = some [92,34]) ∨ (c ≠ 10 ∧ c ≠ 9 ∧ c ≠ 92 ∧ c ≠ 34 ∧ rep c = none):=by
 unfold rep
 by_cases h1:c = 10
 ·exact .inl ⟨h1,by rw [if_pos h1]⟩
 by_cases h2:c = 9
 ·exact .inr (.inl ⟨h2,by rw [if_neg h1,if_pos h2]⟩)
 by_cases h3:c = 92
 ·exact .inr (.inr (.inl ⟨h3,by rw [if_neg h1,if_neg h2,if_pos h3]⟩))
 by_cases h4:c = 34
 ·exact .inr (.inr (.inr (.inl ⟨h4,by rw [if_neg h1,if_neg h2,if_neg h3,if_pos h4]⟩)))
 ·exact .inr (.inr (.inr (.inr ⟨h1,h2,h3,h4,by rw [if_neg h1,if_neg h2,if_neg h3,if_neg h4]⟩)))
theorem rep_len {c:UInt8} {l:List UInt8} (h:rep c = some l):l.length = 2:=by
 rcases rep_cases c with ⟨_,h1⟩ | ⟨_,h1⟩ | ⟨_,h1⟩ | ⟨_,h1⟩ | ⟨_,_,_,_,h1⟩ <;> rw [h1] at h <;> cases h <;> rfl
theorem escS_cons (c:UInt8) (r:List UInt8):escS (c :: r) = (rep c).getD [c] ++ escS r:=by
 rw [escS]
 congr 1
 rcases rep_cases c with ⟨h,h1⟩ | ⟨h,h1⟩ | ⟨h,h1⟩ | ⟨h,h1⟩ | ⟨n1,n2,n3,n4,h1⟩ <;> rw [h1]
 ·subst h;rfl
 ·subst h;rfl
 ·subst h;rfl
 ·subst h;rfl
 ·rw [if_neg n1,if_neg n2,if_neg n3,if_neg n4];rfl
theorem escS_app:∀ (a b:List UInt8),escS (a ++ b) = escS a ++ escS b
 | [],b=>rfl
 | c :: a,b=>by rw [List.cons_append,escS_cons,escS_cons,escS_app a b,List.append_assoc]
def spc (s:List UInt8):Nat:=s.countP fun c=>(rep c).isSome
theorem escS_len:∀ s:List UInt8,(escS s).length = s.length + spc s
 | []=>rfl
 | c :: s=>by
  have ih:=escS_len s
  rw [escS_cons,List.length_append,ih,List.length_cons]
  unfold spc
  rw [List.countP_cons]
  cases h:rep c with
  | none=>simp;omega
  | some l=>have:=rep_len h;simp;omega
theorem escS_id:∀ s:List UInt8,spc s = 0 → escS s = s
 | [],_=>rfl
 | c :: s,h=>by
  unfold spc at h
  rw [List.countP_cons] at h
  cases hr:rep c with
  | none=>
   rw [hr] at h
   rw [escS_cons,hr,escS_id s (by unfold spc;simpa using h)];rfl
  | some l=>rw [hr] at h;simp at h
def SP:List UInt8:=[34,92,9,10]
def cnts (s:List UInt8) (l:List UInt8):Nat:=(l.map fun c=>Lib.countByte s c).sum
theorem spc_eq:∀ s:List UInt8,spc s = cnts s SP
 | []=>rfl
 | c :: s=>by
  have ih:=spc_eq s
  have e (d:UInt8):Lib.countByte (c :: s) d = Lib.countByte s d + if c == d then 1 else 0:=by unfold Lib.countByte;rw [List.count_cons]
  unfold spc at ih ⊢
  rw [List.countP_cons,ih]
  simp only [cnts,SP,List.map_cons,List.map_nil,List.sum_cons,List.sum_nil,e]
  rcases rep_cases c with ⟨h,h1⟩ | ⟨h,h1⟩ | ⟨h,h1⟩ | ⟨h,h1⟩ | ⟨n1,n2,n3,n4,h1⟩ <;> rw [h1]
  ·subst h;simp;omega
  ·subst h;simp;omega
  ·subst h;simp;omega
  ·subst h;simp;omega
  ·have f (d:UInt8) (h:c ≠ d):(c == d) = false:=by simpa using h
   simp [f _ n1,f _ n2,f _ n3,f _ n4]
structure Tab (σ:St) (q:Nat):Prop where
 box:∃ cs,cellsAt σ q = some cs ∧ (∀ c,rep c = none → cs[c.toNat]? = some nilS) ∧ (∀ c l,rep c = some l → ∃ p k,cs[c.toNat]? = some (.slice (some (p,0)) 2 k 1) ∧ cellsAt σ p = some (bytesAV l)) ∧
  ∃ h k,cs[256]? = some (.slice (some (h,0)) 4 k 1) ∧ cellsAt σ h = some (SP.map fun c=>AV.str [c])
theorem Tab.up {σ σ':St} {q:Nat} (h:Tab σ q) (hu:Up σ σ'):Tab σ' q:=by
 obtain ⟨cs,h1,h2,h3,g,k,h4,h5⟩:=h.box
 exact ⟨cs,hu.cells h1,h2,fun c l hc=>let ⟨p,k,a,b⟩:=h3 c l hc;⟨p,k,a,hu.cells b⟩,g,k,h4,hu.cells h5⟩
theorem agg68:aggO Tryz.prog 68 = some false:=by kernel_rfl
theorem und53:Tryz.prog.underlying 53 = some (.slice 5):=by kernel_rfl
theorem eqS53 {a:Option (Nat × Nat)} {n z:Nat} {c:Option Nat} {f:Bool → Out}:eqK Tryz.prog 53 (.slice a n c z) (.slice none 0 (some 0) 0) f = f a.isNone:=by
 unfold eqK eqFree
 rw [und53]
 simp only [if_true]
 unfold eqIn
 rw [und53]
 cases a <;> rfl
section
variable {Q:Post} {σ:St} {q:Nat} {s:List UInt8}
theorem Tab.ldL (h:Tab σ q):∃ g k,(∀ f:AV → Out,ldK Tryz.prog 68 σ q (0 + 256) f = f (.slice (some (g,0)) 4 k 1)) ∧ cellsAt σ g = some (SP.map fun c=>AV.str [c]):=by
 obtain ⟨cs,h1,_,_,g,k,h4,h5⟩:=h.box
 exact ⟨g,k,fun f=>ldc h1 agg68 h4,h5⟩
theorem Tab.ldN (h:Tab σ q) {c:UInt8} (hc:rep c = none) (f:AV → Out):ldK Tryz.prog 53 σ q ((0 + 0) + (((c.toNat:Int)).toNat * 1)) f = f nilS:=by
 obtain ⟨cs,h1,h2,_⟩:=h.box
 exact ldc h1 agg53 (by have:=h2 c hc;simpa using this)
theorem Tab.ldR (h:Tab σ q) {c:UInt8} {l:List UInt8} (hc:rep c = some l):∃ p k,(∀ f:AV → Out,ldK Tryz.prog 53 σ q ((0 + 0) + (((c.toNat:Int)).toNat * 1)) f = f (.slice (some (p,0)) 2 k 1)) ∧ cellsAt σ p = some (bytesAV l):=by
 obtain ⟨cs,h1,_,h3,_⟩:=h.box
 obtain ⟨p,k,a,b⟩:=h3 c l hc
 exact ⟨p,k,fun f=>ldc h1 agg53 (by simpa using a),b⟩
theorem idx256 (c:UInt8) {x:Out}:idxK (c.toNat:Int) 256 x = x:=idxK_ok ⟨by omega,by have:=c.toNat_lt;omega⟩
theorem count_fn (c:UInt8):Fw Tryz.prog Lb 200 [.str s,.str [c]] σ fun r σ'=>r = .ret (.int .i64 (Lib.countByte s c:Nat)) ∧ σ' = σ:=by
 refine Fw.enter (fun n=>f200_e) ?_
 simp only [f200_t]
 refine Wp.neg rfl (Wp.pos rfl ?_)
 simp only [byteK_ok (s:=[c]) (i:=0) (b:=c) (by decide) rfl]
 refine Wp.call (Qf:=fun r σ'=>r = .ret (.int .i64 (Lib.countByte s c:Nat)) ∧ σ' = σ) (Fw.lib (r:=.ret (.int .i64 (Lib.countByte s c:Nat))) (σ':=σ) ?_ ⟨rfl,rfl⟩) (fun v σ' hv=>?_) fun v σ' hv=>by cases hv.1
 ·simp only [Lb,lbCount]
  have:((c.toNat:Int)).toNat.toUInt8 = c:=by simp
  rw [this]
 ·obtain ⟨hv,rfl⟩:=hv
  cases hv
  simp only [xInt_i]
  exact Wp.ret ⟨rfl,rfl⟩
noncomputable abbrev L198 (n:Nat):Leaf:=pt Tryz.prog Lb 198 n
theorem count_le (c:UInt8):Lib.countByte s c ≤ s.length:=List.count_le_length
theorem sp_get {i:Nat} (hi:i < 4):∃ c l,SP[i]? = some c ∧ rep c = some l:=by
 have:i = 0 ∨ i = 1 ∨ i = 2 ∨ i = 3:=by omega
 rcases this with rfl | rfl | rfl | rfl <;> exact ⟨_,_,rfl,rfl⟩
theorem cnts_snoc {i:Nat} {c:UInt8} (h:SP[i]? = some c):cnts s (SP.take (i + 1)) = cnts s (SP.take i) + Lib.countByte s c:=by
 have hi:i < 4:=(List.getElem?_eq_some_iff.1 h).1
 have:i = 0 ∨ i = 1 ∨ i = 2 ∨ i = 3:=by omega
 rcases this with rfl | rfl | rfl | rfl <;> (simp [SP] at h;subst h;simp [cnts,SP]) <;> omega
theorem l3_all (ht:Tab σ q) (hs:s.length ≤ 1000000) {g:Nat} {k:Option Nat} {s3:List UInt8} (hg:cellsAt σ g = some (SP.map fun c=>AV.str [c])) (hk:Wp Q fun u=>f198_j6 (L198 u.n) (some (q,0)) s s3 ((s.length + cnts s SP:Nat):Int) σ) :
  ∀ (m i:Nat),i + m = 4 → Wp Q fun u=>f198_l3 (L198 u.n) u.m1 (some (q,0)) s s3 ((s.length + cnts s (SP.take i):Nat):Int) (some (g,0)) 4 k 1 (4:Int) (i:Int) σ:=by
 intro m
 induction m with
 | zero=>
  intro i hi
  obtain rfl:i = 4:=by omega
  refine Wp.round1 (F:=fun n m=>f198_l3 (L198 n) m (some (q,0)) s s3 ((s.length + cnts s (SP.take 4):Nat):Int) (some (g,0)) 4 k 1 (4:Int) ((4:Nat):Int) σ) (fun n m=>f198_l3_e) ?_
  simp only [f198_l3_t]
  exact Wp.neg rfl hk
 | succ m ih=>
  intro i hi
  have ih:=ih (i + 1) (by omega)
  obtain ⟨c,l,hc,hr⟩:=sp_get (i:=i) (by omega)
  rw [cnts_snoc hc] at ih
  have hcl:=count_le (s:=s) c
  have hcs:cnts s (SP.take i) ≤ 4 * s.length:=by
   have b:∀ l:List UInt8,cnts s l ≤ l.length * s.length:=by
    intro l
    induction l with
    | nil=>simp [cnts]
    | cons d l ih=>
     have:=count_le (s:=s) d
     simp only [cnts,List.map_cons,List.sum_cons,List.length_cons,Nat.succ_mul] at ih ⊢
     omega
   have:=b (SP.take i)
   have h4:(SP.take i).length ≤ 4:=by simp [SP];omega
   exact Nat.le_trans this (Nat.mul_le_mul_right _ h4)
  refine Wp.round1 (F:=fun n m=>f198_l3 (L198 n) m (some (q,0)) s s3 ((s.length + cnts s (SP.take i):Nat):Int) (some (g,0)) 4 k 1 (4:Int) (i:Int) σ) (fun n m=>f198_l3_e) ?_
  have hld (f:AV → Out):ldK Tryz.prog 9 σ g (0 + (((i:Int)).toNat * 1)) f = f (.str [c]):=ldc hg agg9 (by
   rw [List.getElem?_map];simp only [Int.toNat_natCast,Nat.zero_add,Nat.mul_one,hc];rfl)
  simp only [f198_l3_t,idxK_ok (show (0:Int) ≤ (i:Int) ∧ (i:Int) < ((4:Nat):Int) from ⟨by omega,by omega⟩),derefK_s,szK_s,hld,xStr_s]
  refine Wp.pos (by simp;omega) (Wp.call (count_fn (s:=s) c) (fun v σ' hv=>?_) fun v σ' hv=>by cases hv.1)
  obtain ⟨hv,rfl⟩:=hv
  cases hv
  obtain ⟨p,kp,hl2,_⟩:=ht.ldR hr
  have w1:IntKind.wrap .i64 ((i:Int) + 1) = ((i + 1:Nat):Int):=by rw [wrap64 (by omega) (by omega)];omega
  simp only [xInt_i,byteK_ok (s:=[c]) (i:=0) (b:=c) (by decide) rfl,idx256,hl2,xSl_s,w1]
  refine Wp.ite (fun _=>?_) fun h0=>?_
  ·have w2:IntKind.wrap .i64 (((2:Nat):Int) - 1) = 1:=by rw [wrap64 (by omega) (by omega)];omega
   have w3:IntKind.wrap .i64 (((Lib.countByte s c:Nat):Int) * 1) = ((Lib.countByte s c:Nat):Int):=by rw [Int.mul_one,wrap64 (by omega) (by omega)]
   have w4:IntKind.wrap .i64 (((s.length + cnts s (SP.take i):Nat):Int) + ((Lib.countByte s c:Nat):Int)) = ((s.length + (cnts s (SP.take i) + Lib.countByte s c):Nat):Int):=by rw [wrap64 (by omega) (by omega)];omega
   rw [w2,w3,w4]
   exact ih
  ·have h0':Lib.countByte s c = 0:=by simpa using h0
   rw [h0',Nat.add_zero] at ih
   exact ih
theorem l1_all (ht:Tab σ q) (hs:s.length ≤ 1000000) {g:Nat} {k:Option Nat} {s3:List UInt8} (hg:cellsAt σ g = some (SP.map fun c=>AV.str [c])) (hk:Wp Q fun u=>f198_j6 (L198 u.n) (some (q,0)) s s3 ((s.length + cnts s SP:Nat):Int) σ)
  (hk0:cnts s SP = 0 → Wp Q fun u=>f198_j4 (L198 u.n) (some (q,0)) s s3 (s.length:Int) σ) :
  ∀ (m i:Nat),i + m = 4 → cnts s (SP.take i) = 0 → Wp Q fun u=>f198_l1 (L198 u.n) u.m1 (some (q,0)) s s3 (s.length:Int) (some (g,0)) 4 k 1 (4:Int) (i:Int) σ:=by
 intro m
 induction m with
 | zero=>
  intro i hi h0
  obtain rfl:i = 4:=by omega
  refine Wp.round1 (F:=fun n m=>f198_l1 (L198 n) m (some (q,0)) s s3 (s.length:Int) (some (g,0)) 4 k 1 (4:Int) ((4:Nat):Int) σ) (fun n m=>f198_l1_e) ?_
  simp only [f198_l1_t]
  exact Wp.neg rfl (hk0 h0)
 | succ m ih=>
  intro i hi h0
  have ih:=ih (i + 1) (by omega)
  obtain ⟨c,l,hc,hr⟩:=sp_get (i:=i) (by omega)
  have h3:=l3_all ht hs (k:=k) hg hk m (i + 1) (by omega)
  rw [cnts_snoc hc] at ih h3
  have hcl:=count_le (s:=s) c
  refine Wp.round1 (F:=fun n m=>f198_l1 (L198 n) m (some (q,0)) s s3 (s.length:Int) (some (g,0)) 4 k 1 (4:Int) (i:Int) σ) (fun n m=>f198_l1_e) ?_
  have hld (f:AV → Out):ldK Tryz.prog 9 σ g (0 + (((i:Int)).toNat * 1)) f = f (.str [c]):=ldc hg agg9 (by
   rw [List.getElem?_map];simp only [Int.toNat_natCast,Nat.zero_add,Nat.mul_one,hc];rfl)
  simp only [f198_l1_t,idxK_ok (show (0:Int) ≤ (i:Int) ∧ (i:Int) < ((4:Nat):Int) from ⟨by omega,by omega⟩),derefK_s,szK_s,hld,xStr_s]
  refine Wp.pos (by simp;omega) (Wp.call (count_fn (s:=s) c) (fun v σ' hv=>?_) fun v σ' hv=>by cases hv.1)
  obtain ⟨hv,rfl⟩:=hv
  cases hv
  obtain ⟨p,kp,hl2,_⟩:=ht.ldR hr
  have w1:IntKind.wrap .i64 ((i:Int) + 1) = ((i + 1:Nat):Int):=by rw [wrap64 (by omega) (by omega)];omega
  simp only [xInt_i,byteK_ok (s:=[c]) (i:=0) (b:=c) (by decide) rfl,idx256,hl2,xSl_s,w1]
  refine Wp.ite (fun _=>?_) fun h0'=>?_
  ·have w2:IntKind.wrap .i64 (((2:Nat):Int) - 1) = 1:=by rw [wrap64 (by omega) (by omega)];omega
   have w3:IntKind.wrap .i64 (((Lib.countByte s c:Nat):Int) * 1) = ((Lib.countByte s c:Nat):Int):=by rw [Int.mul_one,wrap64 (by omega) (by omega)]
   have w4:IntKind.wrap .i64 ((s.length:Int) + ((Lib.countByte s c:Nat):Int)) = ((s.length + (cnts s (SP.take i) + Lib.countByte s c):Nat):Int):=by rw [h0,Nat.zero_add,wrap64 (by omega) (by omega)];omega
   rw [w2,w3,w4]
   exact h3
  ·have h0':Lib.countByte s c = 0:=by simpa using h0'
   exact ih (by rw [h0,h0'])
theorem spc_snoc {i:Nat} {c:UInt8} (h:s[i]? = some c):spc (s.take (i + 1)) = spc (s.take i) + if (rep c).isSome then 1 else 0:=by
 have:s.take (i + 1) = s.take i ++ [c]:=by rw [List.take_add_one,h];rfl
 rw [this]
 unfold spc
 rw [List.countP_append,List.countP_singleton]
theorem spc_le (l:List UInt8):spc l ≤ l.length:=List.countP_le_length
theorem l5_all (ht:Tab σ q) (hs:s.length ≤ 1000000) {s3:List UInt8} (hk:Wp Q fun u=>f198_j6 (L198 u.n) (some (q,0)) s s3 ((s.length + spc s:Nat):Int) σ) :
  ∀ (m i:Nat),i + m = s.length → Wp Q fun u=>f198_l5 (L198 u.n) u.m1 (some (q,0)) s s3 ((s.length + spc (s.take i):Nat):Int) (i:Int) σ:=by
 intro m
 induction m with
 | zero=>
  intro i hi
  obtain rfl:i = s.length:=by omega
  refine Wp.round1 (F:=fun n m=>f198_l5 (L198 n) m (some (q,0)) s s3 ((s.length + spc (s.take s.length):Nat):Int) ((s.length:Nat):Int) σ) (fun n m=>f198_l5_e) ?_
  simp only [f198_l5_t]
  refine Wp.neg (by simp) ?_
  rw [List.take_length];exact hk
 | succ m ih=>
  intro i hi
  have ih:=ih (i + 1) (by omega)
  obtain ⟨c,hc⟩:∃ c,s[i]? = some c:=⟨s[i]'(by omega),List.getElem?_eq_getElem (by omega)⟩
  rw [spc_snoc hc] at ih
  have hsl:=spc_le (s.take i)
  rw [List.length_take] at hsl
  have w1:IntKind.wrap .i64 ((i:Int) + 1) = ((i + 1:Nat):Int):=by rw [wrap64 (by omega) (by omega)];omega
  refine Wp.round1 (F:=fun n m=>f198_l5 (L198 n) m (some (q,0)) s s3 ((s.length + spc (s.take i):Nat):Int) (i:Int) σ) (fun n m=>f198_l5_e) ?_
  have hb:s[((i:Int)).toNat]? = some c:=by simpa using hc
  simp only [f198_l5_t,byteK_ok (by omega) hb,derefK_s,idx256,w1]
  refine Wp.pos (by simp;omega) ?_
  cases hr:rep c with
  | none=>
   simp only [ht.ldN hr,nilS,xSl_s,eqS53]
   rw [hr] at ih
   exact Wp.neg rfl ih
  | some l=>
   obtain ⟨p,kp,hl2,_⟩:=ht.ldR hr
   have w2:IntKind.wrap .i64 (((2:Nat):Int) - 1) = 1:=by rw [wrap64 (by omega) (by omega)];omega
   have w4:IntKind.wrap .i64 (((s.length + spc (s.take i):Nat):Int) + 1) = ((s.length + (spc (s.take i) + 1):Nat):Int):=by rw [wrap64 (by omega) (by omega)];omega
   simp only [hl2,xSl_s,eqS53,w2,w4]
   rw [hr] at ih
   exact Wp.pos rfl ih
theorem l2_all (ht:Tab σ q) (hs:s.length ≤ 1000000) {s3:List UInt8} (hk:Wp Q fun u=>f198_j6 (L198 u.n) (some (q,0)) s s3 ((s.length + spc s:Nat):Int) σ) (hk0:spc s = 0 → Wp Q fun u=>f198_j4 (L198 u.n) (some (q,0)) s s3 (s.length:Int) σ) :
  ∀ (m i:Nat),i + m = s.length → spc (s.take i) = 0 → Wp Q fun u=>f198_l2 (L198 u.n) u.m1 (some (q,0)) s s3 (s.length:Int) (i:Int) σ:=by
 intro m
 induction m with
 | zero=>
  intro i hi h0
  obtain rfl:i = s.length:=by omega
  refine Wp.round1 (F:=fun n m=>f198_l2 (L198 n) m (some (q,0)) s s3 (s.length:Int) ((s.length:Nat):Int) σ) (fun n m=>f198_l2_e) ?_
  simp only [f198_l2_t]
  rw [List.take_length] at h0
  exact Wp.neg (by simp) (hk0 h0)
 | succ m ih=>
  intro i hi h0
  have ih:=ih (i + 1) (by omega)
  obtain ⟨c,hc⟩:∃ c,s[i]? = some c:=⟨s[i]'(by omega),List.getElem?_eq_getElem (by omega)⟩
  have h5:=l5_all ht hs hk m (i + 1) (by omega)
  rw [spc_snoc hc] at ih h5
  have w1:IntKind.wrap .i64 ((i:Int) + 1) = ((i + 1:Nat):Int):=by rw [wrap64 (by omega) (by omega)];omega
  refine Wp.round1 (F:=fun n m=>f198_l2 (L198 n) m (some (q,0)) s s3 (s.length:Int) (i:Int) σ) (fun n m=>f198_l2_e) ?_
  have hb:s[((i:Int)).toNat]? = some c:=by simpa using hc
  simp only [f198_l2_t,byteK_ok (by omega) hb,derefK_s,idx256,w1]
  refine Wp.pos (by simp;omega) ?_
  cases hr:rep c with
  | none=>
   simp only [ht.ldN hr,nilS,xSl_s,eqS53]
   rw [hr] at ih
   exact Wp.neg rfl (ih (by rw [h0];rfl))
  | some l=>
   obtain ⟨p,kp,hl2,_⟩:=ht.ldR hr
   have w2:IntKind.wrap .i64 (((2:Nat):Int) - 1) = 1:=by rw [wrap64 (by omega) (by omega)];omega
   have w4:IntKind.wrap .i64 ((s.length:Int) + 1) = ((s.length + (spc (s.take i) + 1):Nat):Int):=by rw [h0,wrap64 (by omega) (by omega)];omega
   simp only [hl2,xSl_s,eqS53,w2,w4]
   rw [hr] at h5
   exact Wp.pos rfl h5
theorem bytesOf_b:∀ l:List UInt8,bytesOf (bytesAV l) = some l
 | []=>rfl
 | c :: l=>by
  have:=bytesOf_b l
  unfold bytesAV at this ⊢
  simp [bytesOf,this]
theorem setMany_at {A Z ys:List AV} (h:ys.length ≤ Z.length):setMany (A ++ Z) A.length ys = A ++ ys ++ Z.drop ys.length:=by
 have:=setMany_append_right ys A Z 0
 rw [Nat.add_zero] at this
 rw [this,List.append_assoc]
 congr 1
 conv=>lhs;rw [← List.take_append_drop ys.length Z]
 rw [setMany_append_left _ _ _ _ (by rw [List.length_take];omega),setMany_all _ _ (by rw [List.length_take];omega)]
theorem l7_all {τ:St} {s3:List UInt8} (ht:Tab τ q) (hs:s.length ≤ 1000000) (hk:Wp Q fun u=>f198_j8 (L198 u.n) s3 (some (τ.length,0)) (escS s).length (some (escS s).length) 1 (τ ++ [AObj.cells (bytesAV (escS s)) (.rw (.row 5))])) :
  ∀ (m i:Nat) (Z:List AV),i + m = s.length → (escS (s.take i)).length + Z.length = (escS s).length →
   Wp Q fun u=>f198_l7 (L198 u.n) u.m1 (some (q,0)) s s3 (some (τ.length,0)) (escS s).length (some (escS s).length) 1 ((escS (s.take i)).length:Int) (i:Int) (τ ++ [AObj.cells (bytesAV (escS (s.take i)) ++ Z) (.rw (.row 5))]):=by
 have hE:=escS_len s
 have hsp:=spc_le s
 intro m
 induction m with
 | zero=>
  intro i Z hi hZ
  obtain rfl:i = s.length:=by omega
  rw [List.take_length] at hZ ⊢
  have:Z = []:=List.eq_nil_of_length_eq_zero (by omega)
  subst this
  rw [List.append_nil]
  refine Wp.round1 (F:=fun n m=>f198_l7 (L198 n) m (some (q,0)) s s3 (some (τ.length,0)) (escS s).length (some (escS s).length) 1 ((escS s).length:Int) ((s.length:Nat):Int) (τ ++ [AObj.cells (bytesAV (escS s)) (.rw (.row 5))])) (fun n m=>f198_l7_e) ?_
  simp only [f198_l7_t]
  exact Wp.neg (by simp) hk
 | succ m ih=>
  intro i Z hi hZ
  obtain ⟨c,hc⟩:∃ c,s[i]? = some c:=⟨s[i]'(by omega),List.getElem?_eq_getElem (by omega)⟩
  have htk:s.take (i + 1) = s.take i ++ [c]:=by rw [List.take_add_one,hc];rfl
  have he1:escS (s.take (i + 1)) = escS (s.take i) ++ (rep c).getD [c]:=by rw [htk,escS_app,escS_cons];simp [escS]
  have hle:(escS (s.take (i + 1))).length ≤ (escS s).length:=by
   have:escS s = escS (s.take (i + 1)) ++ escS (s.drop (i + 1)):=by rw [← escS_app,List.take_append_drop]
   rw [this,List.length_append];omega
  rw [he1,List.length_append] at hle
  have w1:IntKind.wrap .i64 ((i:Int) + 1) = ((i + 1:Nat):Int):=by rw [wrap64 (by omega) (by omega)];omega
  have hb:s[((i:Int)).toNat]? = some c:=by simpa using hc
  generalize hA:escS (s.take i) = A at *
  generalize hN:(escS s).length = N at *
  have ht':Tab (τ ++ [AObj.cells (bytesAV A ++ Z) (.rw (.row 5))]) q:=ht.up (Up.app _)
  have hget (x:AObj):(τ ++ [x])[τ.length]? = some x:=by rw [List.getElem?_append_right (Nat.le_refl _)];simp
  have hset (x y:AObj):(τ ++ [x]).set τ.length y = τ ++ [y]:=by rw [List.set_append_right _ _ (Nat.le_refl _)];simp
  refine Wp.round1 (F:=fun n m=>f198_l7 (L198 n) m (some (q,0)) s s3 (some (τ.length,0)) N (some N) 1 (A.length:Int) (i:Int) (τ ++ [AObj.cells (bytesAV A ++ Z) (.rw (.row 5))])) (fun n m=>f198_l7_e) ?_
  simp only [f198_l7_t,byteK_ok (by omega) hb,derefK_s,idx256,w1]
  refine Wp.pos (by simp;omega) ?_
  cases hr:rep c with
  | none=>
   rw [hr] at he1 hle
   simp only [Option.getD_none,List.length_singleton] at he1 hle
   have w2:IntKind.wrap .i64 ((A.length:Int) + 1) = ((A.length + 1:Nat):Int):=by rw [wrap64 (by omega) (by omega)];omega
   simp only [ht'.ldN hr,nilS,xSl_s,eqS53,idxK_ok (show (0:Int) ≤ (A.length:Int) ∧ (A.length:Int) < (N:Int) from ⟨by omega,by omega⟩),szK_s,w2]
   refine Wp.neg rfl ?_
   have hsm:=setMany_at (A:=bytesAV A) (Z:=Z) (ys:=[.int .u8 (c.toNat:Int)]) (by simp only [List.length_singleton];omega)
   rw [bytesAV_len] at hsm
   refine Wp.st (hget _) (by simp only [Int.toNat_natCast,Nat.mul_one,List.length_singleton,List.length_append,bytesAV_len];omega) ?_
   simp only [Int.toNat_natCast,Nat.mul_one,Nat.zero_add,hset,hsm,List.length_singleton]
   have:=ih (i + 1) (Z.drop 1) (by omega) (by rw [he1,List.length_append,List.length_drop];simp;omega)
   rw [he1,bytesAV_app,List.length_append] at this
   exact this
  | some l=>
   have hl2:=rep_len hr
   rw [hr] at he1 hle
   simp only [Option.getD_some] at he1 hle
   obtain ⟨p,kp,hld,hp⟩:=ht'.ldR hr
   have hrs (f:Option (Nat × Nat) → Nat → Option Nat → Out):resliceK (some (τ.length,0)) N (some N) 1 1 (A.length:Int) (N:Int) f = f (some (τ.length,A.length)) (N - A.length) (some (N - A.length)):=by
    unfold resliceK
    simp only
    rw [if_pos trivial,if_pos ⟨by omega,by omega,by simp⟩]
    simp
   simp only [hld,xSl_s,eqS53,hrs]
   refine Wp.pos rfl (Wp.span1 hp (by rw [bytesAV_len];omega) ?_)
   have htake:((bytesAV l).drop 0).take (2 * 1) = bytesAV l:=by rw [List.drop_zero,List.take_of_length_le (by rw [bytesAV_len];omega)]
   rw [htake]
   have hmin:min 2 (N - A.length) = 2:=by omega
   have hsm:=setMany_at (A:=bytesAV A) (Z:=Z) (ys:=bytesAV l) (by rw [bytesAV_len];omega)
   rw [bytesAV_len,bytesAV_len] at hsm
   have hcp (f:Int → St → Out):cpyK (τ ++ [AObj.cells (bytesAV A ++ Z) (.rw (.row 5))]) 1 (some (τ.length,A.length)) (N - A.length) 1 2 (bytesAV l) f = f ((2:Nat):Int) (τ ++ [AObj.cells (bytesAV A ++ bytesAV l ++ Z.drop l.length) (.rw (.row 5))]):=by
    unfold cpyK
    simp only
    rw [if_pos trivial,hget]
    simp only
    rw [hmin,if_pos (by simp only [List.length_append,bytesAV_len];omega),hset,List.take_of_length_le (by rw [bytesAV_len];omega),hsm]
   have w2:IntKind.wrap .i64 ((A.length:Int) + ((2:Nat):Int)) = ((A.length + l.length:Nat):Int):=by rw [wrap64 (by omega) (by omega)];omega
   simp only [hcp,w2]
   have:=ih (i + 1) (Z.drop l.length) (by omega) (by rw [he1,List.length_append,List.length_drop];omega)
   rw [he1,bytesAV_app,List.length_append] at this
   exact this
theorem zero5:zeroOf Tryz.prog 5 = some (.int .u8 0):=by kernel_rfl
theorem bytes5:bytesOfT Tryz.prog 5 = 1:=by kernel_rfl
theorem zeros_len {z:AV}:∀ n:Nat,(zeros [z] n).length = n
 | 0=>rfl
 | n + 1=>by simp [zeros,zeros_len n]
theorem replace_fn (ht:Tab σ q) (hs:s.length ≤ 1000000):Fw Tryz.prog Lb 198 [.ptr (some (q,0)),.str s] σ fun r σ'=>r = .ret (.str (escS s)) ∧ Up σ σ':=by
 refine Fw.enter (fun n=>f198_e) ?_
 obtain ⟨g,k,hl,hg⟩:=ht.ldL
 simp only [f198_t,derefK_s,hl,xSl_s]
 have hE:=escS_len s
 have hsp:=spc_le s
 have j6:Wp (fun r σ'=>r = .ret (.str (escS s)) ∧ Up σ σ') fun u=>f198_j6 (L198 u.n) (some (q,0)) s [] ((s.length + spc s:Nat):Int) σ:=by
  rw [← hE]
  refine Wp.le (F:=fun u=>f198_j6_t (L198 u.n) u.n (some (q,0)) s [] _ σ) ?_ fun u=>f198_j6_e
  simp only [f198_j6_t,Int.toNat_natCast]
  have hmk (f:St → Out):makeK Tryz.prog 5 1 ((escS s).length:Int) ((escS s).length:Int) σ f = f (σ ++ [AObj.cells (zeros [.int .u8 0] (escS s).length) (.rw (.row 5))]):=by
   unfold makeK
   rw [zero5]
   simp only [bytes5]
   rw [if_pos ⟨rfl,⟨by omega,by omega,by omega,by simp;omega⟩,rfl⟩]
   simp [AV.cells]
  simp only [hmk]
  have:=l7_all (Q:=fun r σ'=>r = .ret (.str (escS s)) ∧ Up σ σ') (s3:=[]) ht hs ?_ s.length 0 (zeros [.int .u8 0] (escS s).length) (by omega) (by rw [zeros_len];simp [escS])
  ·simp only [List.take_zero,escS,List.length_nil,bytesAV,List.map_nil,List.nil_append] at this
   exact Wp.fresh1 (F:=fun n m=>f198_l7 (L198 n) m (some (q,0)) s [] (some (σ.length,0)) (escS s).length (some (escS s).length) 1 (0:Int) (0:Int) _) this
  ·refine Wp.le (F:=fun u=>f198_j8_t (L198 u.n) u.n [] (some (σ.length,0)) _ _ 1 _) ?_ fun u=>f198_j8_e
   simp only [f198_j8_t]
   have hby (f:List UInt8 → Out):bytsK (σ ++ [AObj.cells (bytesAV (escS s)) (.rw (.row 5))]) (some (σ.length,0)) (escS s).length 1 f = f (escS s):=by
    unfold bytsK
    simp only
    have:cellsAt (σ ++ [AObj.cells (bytesAV (escS s)) (.rw (.row 5))]) σ.length = some (bytesAV (escS s)):=by
     unfold cellsAt
     rw [List.getElem?_append_right (Nat.le_refl _)];simp
    rw [if_pos trivial,this]
    simp only
    rw [if_pos (by rw [bytesAV_len];omega),List.drop_zero,List.take_of_length_le (by rw [bytesAV_len];omega),bytesOf_b]
   simp only [hby]
   exact Wp.ret ⟨rfl,Up.app _⟩
 have j4 (h0:spc s = 0):Wp (fun r σ'=>r = .ret (.str (escS s)) ∧ Up σ σ') fun u=>f198_j4 (L198 u.n) (some (q,0)) s [] (s.length:Int) σ:=by
  refine Wp.le (F:=fun u=>f198_j4_t (L198 u.n) u.n (some (q,0)) s [] _ σ) ?_ fun u=>f198_j4_e
  simp only [f198_j4_t]
  rw [escS_id s h0]
  exact Wp.ret ⟨rfl,Up.refl _⟩
 refine Wp.ite (fun _=>?_) fun _=>?_
 ·rw [spc_eq] at j6
  have h1:=l1_all ht hs (k:=k) hg j6 (fun h=>j4 (by rw [spc_eq];exact h)) 4 0 rfl rfl
  exact Wp.fresh1 (F:=fun n m=>f198_l1 (L198 n) m (some (q,0)) s [] (s.length:Int) (some (g,0)) 4 k 1 (4:Int) (0:Int) σ) h1
 ·have h2:=l2_all ht hs j6 j4 s.length 0 (by omega) rfl
  exact Wp.fresh1 (F:=fun n m=>f198_l2 (L198 n) m (some (q,0)) s [] (s.length:Int) (0:Int) σ) h2
end
end Go.Front

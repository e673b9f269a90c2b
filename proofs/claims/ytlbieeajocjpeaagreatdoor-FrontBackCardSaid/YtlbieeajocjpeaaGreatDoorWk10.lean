/- Trees in the heap: how they are read; sort, kinds. -/
import Derived.Test.YtlbieeajocjpeaaGreatDoorWk6
import Derived.Test.YtlbieeajocjpeaaGreatDoorPl
import Derived.Test.YtlbieeajocjpeaaGreatDoorT5
set_option linter.unusedSimpArgs false
set_option linter.unusedVariables false
namespace Go.Front
open Go.AM Go.Proofs
theorem agg34:aggO Tryz.prog 34 = some true:=by kernel_rfl
theorem sz34:szOf Tryz.prog 34 = 6:=by kernel_rfl
theorem agg32:aggO Tryz.prog 32 = some false:=by kernel_rfl
theorem scal3:scalarT Tryz.prog 3 = true:=by kernel_rfl
theorem scal4:scalarT Tryz.prog 4 = true:=by kernel_rfl
theorem eqI3 {a b:Int}:eqIn Tryz.prog 100 3 (.int .i64 a) (.int .i64 b) = some (a == b):=by kernel_rfl
theorem eqB4 {a b:Bool}:eqIn Tryz.prog 100 4 (.bool a) (.bool b) = some (a == b):=by kernel_rfl
theorem zero9:zeroOf Tryz.prog 9 = some (.str []):=by kernel_rfl
def Src (σ:St) (tb:Nat) (nd:List Node):Prop:=∃ l:List (Node × AV),l.map Prod.fst = nd ∧ cellsAt σ tb = some (l.flatMap ncell) ∧ ∀ x ∈ l,KAt σ x.2 x.1.kids
theorem SrcAt.src {σ:St} {v:AV} {nd:List Node} (h:SrcAt σ v nd) (hne:nd ≠ []):∃ tb c,v = .slice (some (tb,0)) nd.length c 6 ∧ Src σ tb nd:=by
 cases h with
 | zero z=>exact absurd rfl hne
 | one tb c l hb hk=>exact ⟨tb,c,by rw [List.length_map],l,rfl,hb,hk⟩
theorem Src.up {σ σ':St} {tb:Nat} {nd:List Node} (h:Src σ tb nd) (hu:Up σ σ'):Src σ' tb nd:=by
 obtain ⟨l,h1,h2,h3⟩:=h
 exact ⟨l,h1,hu.cells h2,fun x hx=>(h3 x hx).up hu⟩
section
variable {σ:St} {tb i:Nat} {nd:List Node} {y:Node}
theorem Src.cell {ty j:Nat} {w:AV} (h:Src σ tb nd) (hy:nd[i]? = some y) (hj:j < 5) (ht:aggO Tryz.prog ty = some false) (hw:∀ k,(ncell (y,k))[j]? = some w) (f:AV → Out) :
  ldK Tryz.prog ty σ tb ((0 + ((i:Int)).toNat * 6) + j) f = f w:=by
 obtain ⟨l,rfl,h2,h3⟩:=h
 rw [List.getElem?_map] at hy
 obtain ⟨⟨y',k⟩,hy2,he⟩:=Option.map_eq_some_iff.1 hy
 simp only at he;subst he
 refine ldc h2 ht ?_
 have:=flat_get (enc:=ncell) (s:=6) ncell_len hy2 (j:=j) (by omega)
 rw [show 0 + ((i:Int)).toNat * 6 + j = i * 6 + j from by omega,this,hw]
theorem Src.kind (h:Src σ tb nd) (hy:nd[i]? = some y) (f:AV → Out):ldK Tryz.prog 3 σ tb ((0 + ((i:Int)).toNat * 6) + 0) f = f (.int .i64 y.kind):=h.cell hy (by decide) agg3 (fun _=>rfl) f
theorem Src.num (h:Src σ tb nd) (hy:nd[i]? = some y) (f:AV → Out):ldK Tryz.prog 2 σ tb ((0 + ((i:Int)).toNat * 6) + 3) f = f (.int .i64 y.n):=h.cell hy (by decide) agg2 (fun _=>rfl) f
theorem Src.kids (h:Src σ tb nd) (hy:nd[i]? = some y):∃ kv,KAt σ kv y.kids ∧ (∀ f,ldK Tryz.prog 32 σ tb ((0 + ((i:Int)).toNat * 6) + 5) f = f kv) ∧
  ∀ f,ldK Tryz.prog 34 σ tb (0 + ((i:Int)).toNat * 6) f = f (.agg [.int .i64 y.kind,.int .i64 y.at_,.str y.text,.int .i64 y.n,.int .i64 y.m,kv]):=by
 obtain ⟨l,rfl,h2,h3⟩:=h
 rw [List.getElem?_map] at hy
 obtain ⟨⟨y',k⟩,hy2,he⟩:=Option.map_eq_some_iff.1 hy
 simp only at he;subst he
 refine ⟨k,h3 _ (List.mem_of_getElem? hy2),fun f=>?_,fun f=>?_⟩
 ·refine ldc h2 agg32 ?_
  have:=flat_get (enc:=ncell) (s:=6) ncell_len hy2 (j:=5) (by omega)
  rw [show 0 + ((i:Int)).toNat * 6 + 5 = i * 6 + 5 from by omega,this];rfl
 ·unfold ldK;rw [h2];simp only
  exact partK_part (enc:=ncell) ncell_len agg34 sz34 hy2 (by omega)
theorem Src.kidsU (h:Src σ tb nd) (hy:nd[i]? = some y):∃ kv,KAt σ kv y.kids ∧ ∀ σ',Up σ σ' → (∀ f,ldK Tryz.prog 32 σ' tb ((0 + ((i:Int)).toNat * 6) + 5) f = f kv) ∧
  ∀ f,ldK Tryz.prog 34 σ' tb (0 + ((i:Int)).toNat * 6) f = f (.agg [.int .i64 y.kind,.int .i64 y.at_,.str y.text,.int .i64 y.n,.int .i64 y.m,kv]):=by
 obtain ⟨l,rfl,h2,h3⟩:=h
 rw [List.getElem?_map] at hy
 obtain ⟨⟨y',k⟩,hy2,he⟩:=Option.map_eq_some_iff.1 hy
 simp only at he;subst he
 refine ⟨k,h3 _ (List.mem_of_getElem? hy2),fun σ' hu=>⟨fun f=>?_,fun f=>?_⟩⟩
 ·refine ldc (hu.cells h2) agg32 ?_
  have:=flat_get (enc:=ncell) (s:=6) ncell_len hy2 (j:=5) (by omega)
  rw [show 0 + ((i:Int)).toNat * 6 + 5 = i * 6 + 5 from by omega,this];rfl
 ·unfold ldK;rw [hu.cells h2];simp only
  exact partK_part (enc:=ncell) ncell_len agg34 sz34 hy2 (by omega)
theorem KAt.slice {kv:AV} {ks:List Nat} (h:KAt σ kv ks):∃ a c z,kv = .slice a ks.length c z:=by
 cases h with
 | zero z=>exact ⟨_,_,_,rfl⟩
 | one b c hc hb=>exact ⟨_,_,_,rfl⟩
theorem KAt.kid {kv:AV} {ks:List Nat} {j k:Nat} (h:KAt σ kv ks) (hk:ks[j]? = some k):∃ b c,kv = .slice (some (b,0)) ks.length c 1 ∧ cellsAt σ b = some (kidsL ks):=by
 cases h with
 | zero z=>simp at hk
 | one b c hc hb=>exact ⟨b,c,rfl,hb⟩
theorem ldKid {b j k:Nat} {ks:List Nat} (h:cellsAt σ b = some (kidsL ks)) (hk:ks[j]? = some k) (f:AV → Out):ldK Tryz.prog 3 σ b (0 + ((j:Int)).toNat * 1) f = f (.int .i64 (k:Int)):=
 ldc h agg3 (by simp [kidsL,hk])
end
def encE (l:List (Int × List UInt8)):List (AV × AV):=l.map fun x=>(.int .i64 x.1,.str x.2)
def findE:List (Int × List UInt8) → Int → Option (List UInt8)
 | [],_=>none
 | (x,v) :: r,a=>if a = x then some v else findE r a
theorem mapFindI (a:Int):∀ (l:List (Int × List UInt8)) (i:Nat),(findE l a = none → mapFind Tryz.prog 3 (.int .i64 a) (encE l) i = some none) ∧ ∀ v,findE l a = some v → ∃ j,mapFind Tryz.prog 3 (.int .i64 a) (encE l) i = some (some (j,.str v))
 | [],i=>⟨fun _=>rfl,fun v h=>by cases h⟩
 | (x,v) :: l,i=>by
  obtain ⟨h1,h2⟩:=mapFindI a l (i + 1)
  have he:encE ((x,v) :: l) = (.int .i64 x,.str v) :: encE l:=rfl
  simp only [he,mapFind,findE]
  by_cases hx:a = x
  ·subst hx
   simp only [eqI3,beq_self_eq_true,if_true]
   exact ⟨nofun,fun v' h=>by cases h;exact ⟨i,rfl⟩⟩
  ·have:(a == x) = false:=by simpa using hx
   simp only [eqI3,this,if_neg hx]
   exact ⟨h1,h2⟩
section
variable {Q:Post} {σ:St}
theorem Wp.updH {l:List (Int × List UInt8)} {a:Int} {s:List UInt8} {k:Fu → St → Out} (h:findE l a = none) (hk:Wp Q fun u=>k u (σ ++ [AObj.map (encE (l ++ [(a,s)]))])) :
  Wp Q fun u=>updK Tryz.prog 3 (σ ++ [AObj.map (encE l)]) (.v (.map (some σ.length))) (.int .i64 a) (.str s) (k u):=by
 refine hk.eq fun u=>?_
 unfold updK
 rw [scal3]
 simp only [if_true]
 rw [List.getElem?_append_right (Nat.le_refl _)]
 simp only [Nat.sub_self,List.getElem?_cons_zero]
 rw [(mapFindI a l 0).1 h]
 simp only
 rw [List.set_append_right _ _ (Nat.le_refl _)]
 simp [encE,insB]
theorem Wp.lkH {m:Nat} {l:List (Int × List UInt8)} {a:Int} {k:Fu → AV → Bool → Out} (hm:σ[m]? = some (.map (encE l))) (hk:Wp Q fun u=>k u (.str ((findE l a).getD [])) (findE l a).isSome) :
  Wp Q fun u=>lkK Tryz.prog 3 9 σ (some m) (.int .i64 a) (k u):=by
 refine hk.eq fun u=>?_
 unfold lkK lookK
 rw [scal3]
 simp only [if_true,hm]
 cases hf:findE l a with
 | none=>rw [(mapFindI a l 0).1 hf,zero9];rfl
 | some v=>obtain ⟨j,hj⟩:=(mapFindI a l 0).2 v hf;rw [hj];rfl
end
def sortN (k:Int):Int:=if 1 ≤ k ∧ k ≤ 7 then 1 else if 10 ≤ k ∧ k ≤ 18 then 2 else if 20 ≤ k ∧ k ≤ 22 then 3 else if k = 23 then 4 else 0
theorem sort_itoa (k:Int):Lib.itoa (sortN k) = [sortB k]:=by
 unfold sortN sortB
 repeat' split
 all_goals simp [Lib.itoa,Lib.decDigits]
theorem sort_fn {σ:St} (k:Int):Fw Tryz.prog Lb 62 [.int .i64 k] σ fun r σ'=>r = .ret (.int .i64 (sortN k)) ∧ σ' = σ:=by
 refine Fw.enter (fun n=>f62_e) ?_
 have j6 (h1:¬ (1 ≤ k ∧ k ≤ 7)) (h2:¬ (10 ≤ k ∧ k ≤ 18)) (h3:¬ (20 ≤ k ∧ k ≤ 22)):Wp (fun r σ'=>r = .ret (.int .i64 (sortN k)) ∧ σ' = σ) fun u=>f62_j6 (pt Tryz.prog Lb 62 u.n) k 0 σ:=by
  refine Wp.le (F:=fun u=>f62_j6_t (pt Tryz.prog Lb 62 u.n) u.n k 0 σ) ?_ fun u=>f62_j6_e
  simp only [f62_j6_t]
  unfold sortN
  rw [if_neg h1,if_neg h2,if_neg h3]
  refine Wp.ite (fun h=>?_) fun h=>?_
  ·rw [if_pos (by simpa using h)];exact Wp.ret ⟨rfl,rfl⟩
  ·rw [if_neg (by simpa using h)];exact Wp.ret ⟨rfl,rfl⟩
 have j4 (h1:¬ (1 ≤ k ∧ k ≤ 7)) (h2:¬ (10 ≤ k ∧ k ≤ 18)):Wp (fun r σ'=>r = .ret (.int .i64 (sortN k)) ∧ σ' = σ) fun u=>f62_j4 (pt Tryz.prog Lb 62 u.n) k 0 σ:=by
  refine Wp.le (F:=fun u=>f62_j4_t (pt Tryz.prog Lb 62 u.n) u.n k 0 σ) ?_ fun u=>f62_j4_e
  simp only [f62_j4_t]
  refine Wp.ite (fun h=>?_) fun h=>j6 h1 h2 (by simp at h;omega)
  refine Wp.le (F:=fun u=>f62_j5_t (pt Tryz.prog Lb 62 u.n) u.n k 0 (decide (k ≤ 22)) σ) ?_ fun u=>f62_j5_e
  simp only [f62_j5_t]
  refine Wp.ite (fun h'=>?_) fun h'=>?_
  ·unfold sortN
   rw [if_neg h1,if_neg h2,if_pos (by simp at h h';omega)];exact Wp.ret ⟨rfl,rfl⟩
  ·have:=j6 h1 h2 (by simp at h h';omega)
   unfold sortN
   rw [if_neg h1,if_neg h2,if_neg (by simp at h h';omega)]
   refine Wp.ite (fun h=>?_) fun h=>?_
   ·rw [if_pos (by simpa using h)];exact Wp.ret ⟨rfl,rfl⟩
   ·rw [if_neg (by simpa using h)];exact Wp.ret ⟨rfl,rfl⟩
 have j3 (h1:¬ (1 ≤ k ∧ k ≤ 7)) (hk:k ≥ 10):Wp (fun r σ'=>r = .ret (.int .i64 (sortN k)) ∧ σ' = σ) fun u=>f62_j3 (pt Tryz.prog Lb 62 u.n) k 0 (decide (k ≤ 18)) σ:=by
  refine Wp.le (F:=fun u=>f62_j3_t (pt Tryz.prog Lb 62 u.n) u.n k 0 (decide (k ≤ 18)) σ) ?_ fun u=>f62_j3_e
  simp only [f62_j3_t]
  refine Wp.ite (fun h=>?_) fun h=>?_
  ·unfold sortN
   rw [if_neg h1,if_pos (by simp at h;omega)];exact Wp.ret ⟨rfl,rfl⟩
  ·have:=j4 h1 (by simp at h;omega)
   have h2:¬ (10 ≤ k ∧ k ≤ 18):=by simp at h;omega
   refine Wp.ite (fun h'=>?_) fun h'=>j6 h1 h2 (by simp at h';omega)
   refine Wp.le (F:=fun u=>f62_j5_t (pt Tryz.prog Lb 62 u.n) u.n k 0 (decide (k ≤ 22)) σ) ?_ fun u=>f62_j5_e
   simp only [f62_j5_t]
   unfold sortN
   rw [if_neg h1,if_neg h2]
   refine Wp.ite (fun h3=>?_) fun h3=>?_
   ·rw [if_pos (by simp at h' h3;omega)];exact Wp.ret ⟨rfl,rfl⟩
   ·rw [if_neg (by simp at h' h3;omega)]
    refine Wp.ite (fun h=>?_) fun h=>?_
    ·rw [if_pos (by simpa using h)];exact Wp.ret ⟨rfl,rfl⟩
    ·rw [if_neg (by simpa using h)];exact Wp.ret ⟨rfl,rfl⟩
 simp only [f62_t]
 refine Wp.ite (fun h=>?_) fun h=>?_
 ·refine Wp.le (F:=fun u=>f62_j1_t (pt Tryz.prog Lb 62 u.n) u.n k 0 (decide (k ≤ 7)) σ) ?_ fun u=>f62_j1_e
  simp only [f62_j1_t]
  refine Wp.ite (fun h7=>?_) fun h7=>?_
  ·unfold sortN
   rw [if_pos (by simp at h h7;omega)];exact Wp.ret ⟨rfl,rfl⟩
  ·have h1:¬ (1 ≤ k ∧ k ≤ 7):=by simp at h7;omega
   exact Wp.ite (fun h10=>j3 h1 (by simpa using h10)) fun h10=>j4 h1 (by simp at h10;omega)
 ·have h1:¬ (1 ≤ k ∧ k ≤ 7):=by simp at h;omega
  refine Wp.le (F:=fun u=>f62_j2_t (pt Tryz.prog Lb 62 u.n) u.n k 0 σ) ?_ fun u=>f62_j2_e
  simp only [f62_j2_t]
  exact Wp.ite (fun h10=>j3 h1 (by simpa using h10)) fun h10=>j4 h1 (by simp at h10;omega)
end Go.Front
/- kinds,shaped. -/
set_option linter.unusedSimpArgs false
set_option linter.unusedVariables false
namespace Go.Front
open Go.AM Go.Proofs
def want:List (Int × List UInt8):=[(1,[]),(2,[]),(3,[]),(5,[49,49]),(6,[49]),(7,[49,49]),(10,[49]),(11,[49,49]),(13,[49,50]),(14,[49]),(15,[]),(16,[]),(20,[]),(21,[])]
theorem dropWhile_all:∀ {l:List UInt8} {c:UInt8},(∀ x ∈ l,x = c) → l.dropWhile (· == c) = []
 | [],_,_=>rfl
 | x :: l,c,h=>by
  have hx:=h x (by simp)
  subst hx
  rw [List.dropWhile_cons,if_pos (by simp)]
  exact dropWhile_all fun y hy=>h y (by simp [hy])
theorem trim_all {l:List UInt8} {c:UInt8} (h:∀ x ∈ l,x = c):Lib.trimB l c = []:=by
 have h1:Lib.trimRightB l c = []:=by
  unfold Lib.trimRightB
  rw [dropWhile_all fun x hx=>h x (List.mem_reverse.1 hx)];rfl
 unfold Lib.trimB;rw [h1];rfl
section
variable {Q:Post} {σ:St} {tb:Nat} {t:List Node} {nd:Node}
theorem trim_fn {s:List UInt8} {c:UInt8} (hc:c.toNat < 128) (hs:s.length ≤ 4611686018427387904):Fw Tryz.prog Lb 63 [.str s,.str [c]] σ fun r σ'=>r = .ret (.str (Lib.trimB s c)) ∧ σ' = σ:=by
 refine Fw.lib (r:=.ret (.str (Lib.trimB s c))) (σ':=σ) ?_ ⟨rfl,rfl⟩
 simp only [Lb,lbTrim]
 rw [if_pos ⟨hc,hs⟩]
theorem itoa_fn (hk:Kn σ) {n:Int} (hn:-9223372036854775808 ≤ n ∧ n ≤ 9223372036854775807):Fw Tryz.prog Lb 61 [.int .i64 n] σ fun r σ'=>r = .ret (.str (Lib.itoa n)) ∧ σ' = σ:=by
 refine Fw.lib (r:=.ret (.str (Lib.itoa n))) (σ':=σ) ?_ ⟨rfl,rfl⟩
 simp only [Lb,lbItoa]
 rw [if_pos ⟨hk.pow,hn⟩]
def trueQ (σ:St):Post:=fun r σ'=>r = .ret (.bool true) ∧ σ' = σ
theorem got_len:(got t nd).length = nd.kids.length:=by simp [got]
noncomputable abbrev L37 (n:Nat):Leaf:=pt Tryz.prog Lb 37 n
theorem kinds_tail (hs:Src σ tb t) {kv:AV} (hkv:KAt σ kv nd.kids) (hk:∀ k ∈ nd.kids,∃ y,t[k]? = some y) (hok:KOk t nd) (hl:nd.kids.length ≤ 4096) {a:Option (Nat × Nat)} {n z:Nat} {c c2:Option Nat} (he:kv = .slice a n c z) :
  Wp (trueQ σ) fun u=>f37_j5_t (L37 u.n) u.n (some (tb,0)) t.length c2 6 (got t nd) ((findE want nd.kind).getD []) (findE want nd.kind).isSome nd.kind nd.at_ nd.text nd.n nd.m a n c z σ:=by
 have hgl:=got_len (t:=t) (nd:=nd)
 simp only [f37_j5_t]
 have fixed {k:Int} {w:List UInt8} (h:nd.kind = k) (hw:findE want k = some w) (hg:got t nd = w) {F:Fu → Out}:Wp (trueQ σ) fun u=>cond (findE want nd.kind).isSome (some (.ret (.bool (got t nd == (findE want nd.kind).getD [])),σ)) (F u):=by
  rw [h,hw,hg]
  refine Wp.pos rfl (Wp.ret ⟨by simp,rfl⟩)
 have trims {x:UInt8} (hx:x.toNat < 128) (hg:∀ y ∈ got t nd,y = x) {K:Fu → AV → St → Out} (hK:Wp (trueQ σ) fun u=>K u (.str []) σ):Wp (trueQ σ) fun u=>callT Tryz.prog Lb u.n 63 [.str (got t nd),.str [x]] σ (K u):=by
  refine Wp.call (trim_fn hx (by omega)) (fun v σ' hv=>?_) fun v σ' hv=>by cases hv.1
  obtain ⟨hv,rfl⟩:=hv
  cases hv
  rw [trim_all hg]
  exact hK
 cases hok with
 | leaf h hg=>rcases h with h | h | h | h | h | h | h <;> exact fixed h rfl hg
 | index h hg=>exact fixed h rfl hg
 | un h hg hn=>exact fixed h rfl hg
 | bin h hg hn=>exact fixed h rfl hg
 | one h hg=>rcases h with h | h <;> exact fixed h rfl hg
 | set h hg=>exact fixed h rfl hg
 | «while» h hg=>exact fixed h rfl hg
 | call h hg=>
  rw [h]
  refine Wp.neg rfl (Wp.pos (by decide) (trims (by decide) hg ?_))
  simp only [xStr_s]
  exact Wp.ret ⟨rfl,rfl⟩
 | cond h hg=>
  rw [h]
  refine Wp.neg rfl (Wp.neg (by decide) (Wp.pos (by decide) ?_))
  rcases hg with hg | hg
  ·rw [hg];exact Wp.pos (by decide) (Wp.ret ⟨rfl,rfl⟩)
  ·rw [hg];exact Wp.neg (by decide) (Wp.ret ⟨rfl,rfl⟩)
 | block h hg=>
  rw [h]
  refine Wp.neg rfl (Wp.neg (by decide) (Wp.neg (by decide) (Wp.pos (by decide) (trims (by decide) hg ?_))))
  simp only [xStr_s]
  exact Wp.ret ⟨rfl,rfl⟩
 | var h hg=>
  rw [h]
  refine Wp.neg rfl (Wp.neg (by decide) (Wp.neg (by decide) (Wp.neg (by decide) (Wp.pos (by decide) ?_))))
  rcases hg with hg | hg
  ·rw [hg];exact Wp.pos (by decide) (Wp.ret ⟨rfl,rfl⟩)
  ·rw [hg];exact Wp.neg (by decide) (Wp.ret ⟨rfl,rfl⟩)
 | fn h hg m k hm hkl hkm hb=>
  rw [h,hm]
  obtain ⟨b,c',hkv2,hbl⟩:=hkv.kid hkm
  rw [hkv2] at he
  cases he
  obtain ⟨y,hy⟩:=hk k (List.mem_of_getElem? hkm)
  have hyl:k < t.length:=(List.getElem?_eq_some_iff.1 hy).1
  have hw:IntKind.wrap .i64 ((m:Int) + 1) = ((m + 1:Nat):Int):=by rw [wrap64 (by omega) (by omega)];omega
  refine Wp.neg rfl (Wp.neg (by decide) (Wp.neg (by decide) (Wp.neg (by decide) (Wp.neg (by decide) (Wp.pos (by decide) (Wp.pos (by simp) (Wp.pos ?_ (trims (by decide) hg ?_))))))))
  ·rw [hw,hgl,hkl];simp
  ·simp only [xStr_s]
   refine Wp.pos rfl ?_
   have hy17:y.kind = 17:=by unfold kindAt at hb;rw [hy] at hb;exact hb
   simp only [derefK_s,szK_s,ldKid hbl hkm,xInt_i,hs.kind hy,idxK_ok (show (0:Int) ≤ (m:Int) ∧ (m:Int) < (nd.kids.length:Int) from ⟨by omega,by omega⟩),idxK_ok (show (0:Int) ≤ (k:Int) ∧ (k:Int) < (t.length:Int) from ⟨by omega,by omega⟩)]
   exact Wp.ret ⟨by rw [hy17];rfl,rfl⟩
 | all h hg=>
  rw [h]
  refine Wp.neg rfl (Wp.neg (by decide) (Wp.neg (by decide) (Wp.neg (by decide) (Wp.neg (by decide) (Wp.neg (by decide) (Wp.pos (by decide) (trims (by decide) hg ?_)))))))
  simp only [xStr_s]
  exact Wp.ret ⟨rfl,rfl⟩
theorem kinds_j2 (hs:Src σ tb t) {kv:AV} (hkv:KAt σ kv nd.kids) (hk:∀ k ∈ nd.kids,∃ y,t[k]? = some y) (hok:KOk t nd) (hl:nd.kids.length ≤ 4096) {a:Option (Nat × Nat)} {n z m:Nat} {c c2:Option Nat} (he:kv = .slice a n c z) (hm:σ[m]? = some (.map (encE want))) :
  Wp (trueQ σ) fun u=>f37_j2 (L37 u.n) (some (tb,0)) t.length c2 6 (some m) (got t nd) nd.kind nd.at_ nd.text nd.n nd.m a n c z σ:=by
 refine Wp.le (F:=fun u=>f37_j2_t (L37 u.n) u.n (some (tb,0)) t.length c2 6 (some m) (got t nd) nd.kind nd.at_ nd.text nd.n nd.m a n c z σ) ?_ fun u=>f37_j2_e
 simp only [f37_j2_t]
 refine Wp.lkH hm ?_
 simp only [xStr_s]
 have tail:=kinds_tail (c2:=c2) hs hkv hk hok hl he
 have j5:Wp (trueQ σ) fun u=>f37_j5 (L37 u.n) (some (tb,0)) t.length c2 6 (got t nd) ((findE want nd.kind).getD []) (findE want nd.kind).isSome nd.kind nd.at_ nd.text nd.n nd.m a n c z σ:=Wp.le tail fun u=>f37_j5_e
 by_cases h6:nd.kind = 6
 ·have hn:1 ≤ nd.n ∧ nd.n ≤ 3:=by
   cases hok with
   | un h hg hn=>exact hn
   | leaf h hg=>rcases h with h | h | h | h | h | h | h <;> (rw [h6] at h;exact absurd h (by decide))
   | one h hg=>rcases h with h | h <;> (rw [h6] at h;exact absurd h (by decide))
   | fn h hg m k hm hl hk hb=>rw [h6] at h;exact absurd h (by decide)
   | index h hg=>rw [h6] at h;exact absurd h (by decide)
   | bin h hg hn=>rw [h6] at h;exact absurd h (by decide)
   | set h hg=>rw [h6] at h;exact absurd h (by decide)
   | «while» h hg=>rw [h6] at h;exact absurd h (by decide)
   | call h hg=>rw [h6] at h;exact absurd h (by decide)
   | cond h hg=>rw [h6] at h;exact absurd h (by decide)
   | block h hg=>rw [h6] at h;exact absurd h (by decide)
   | var h hg=>rw [h6] at h;exact absurd h (by decide)
   | all h hg=>rw [h6] at h;exact absurd h (by decide)
  refine Wp.pos (by rw [h6];decide) (Wp.neg (by simp;omega) (Wp.neg (by simp;omega) (Wp.neg (by rw [h6];decide) j5)))
 ·refine Wp.neg (by simpa using h6) ?_
  by_cases h7:nd.kind = 7
  ·have hn:4 ≤ nd.n ∧ nd.n ≤ 21:=by
    cases hok with
    | bin h hg hn=>exact hn
    | leaf h hg=>rcases h with h | h | h | h | h | h | h <;> (rw [h7] at h;exact absurd h (by decide))
    | one h hg=>rcases h with h | h <;> (rw [h7] at h;exact absurd h (by decide))
    | fn h hg m k hm hl hk hb=>rw [h7] at h;exact absurd h (by decide)
    | index h hg=>rw [h7] at h;exact absurd h (by decide)
    | un h hg hn=>rw [h7] at h;exact absurd h (by decide)
    | set h hg=>rw [h7] at h;exact absurd h (by decide)
    | «while» h hg=>rw [h7] at h;exact absurd h (by decide)
    | call h hg=>rw [h7] at h;exact absurd h (by decide)
    | cond h hg=>rw [h7] at h;exact absurd h (by decide)
    | block h hg=>rw [h7] at h;exact absurd h (by decide)
    | var h hg=>rw [h7] at h;exact absurd h (by decide)
    | all h hg=>rw [h7] at h;exact absurd h (by decide)
   refine Wp.pos (by rw [h7];decide) (Wp.neg (by simp;omega) ?_)
   refine Wp.le (F:=fun u=>f37_j4_t (L37 u.n) u.n (some (tb,0)) t.length c2 6 (got t nd) ((findE want nd.kind).getD []) (findE want nd.kind).isSome (decide (nd.n > 21)) nd.kind nd.at_ nd.text nd.n nd.m a n c z σ) ?_ fun u=>f37_j4_e
   simp only [f37_j4_t]
   simp only [f37_j5_t] at tail
   exact Wp.neg (by simp;omega) tail
  ·exact Wp.neg (by simpa using h7) j5
theorem kinds_loop (hs:Src σ tb t) (hkn:Kn σ) {kv:AV} (hkv:KAt σ kv nd.kids) (hk:∀ k ∈ nd.kids,∃ y,t[k]? = some y) (hok:KOk t nd) (hl:nd.kids.length ≤ 4096) {a:Option (Nat × Nat)} {n z m:Nat} {c c2:Option Nat} (he:kv = .slice a n c z) (hm:σ[m]? = some (.map (encE want))) :
  ∀ (k i:Nat),i + k = nd.kids.length → Wp (trueQ σ) fun u=>f37_l1 (L37 u.n) u.m1 (some (tb,0)) t.length c2 6 (some m) ((got t nd).take i) a n c z n i nd.kind nd.at_ nd.text nd.n nd.m a n c z σ:=by
 have hgl:=got_len (t:=t) (nd:=nd)
 intro k
 induction k with
 | zero=>
  intro i hi
  obtain ⟨_,_,_,he2⟩:=hkv.slice
  rw [he2] at he
  cases he
  refine Wp.round1 (F:=fun n m'=>f37_l1 (L37 n) m' (some (tb,0)) t.length c2 6 (some m) ((got t nd).take i) _ nd.kids.length _ _ nd.kids.length i nd.kind nd.at_ nd.text nd.n nd.m _ nd.kids.length _ _ σ) (fun n m=>f37_l1_e) ?_
  simp only [f37_l1_t]
  refine Wp.neg (by simp;omega) ?_
  rw [List.take_of_length_le (by omega)]
  exact kinds_j2 hs hkv hk hok hl he2 hm
 | succ k ih=>
  intro i hi
  obtain ⟨x,hx⟩:∃ x,nd.kids[i]? = some x:=⟨nd.kids[i],List.getElem?_eq_getElem (by omega)⟩
  obtain ⟨y,hy⟩:=hk x (List.mem_of_getElem? hx)
  have hyl:x < t.length:=(List.getElem?_eq_some_iff.1 hy).1
  obtain ⟨b,c',hkv2,hbl⟩:=hkv.kid hx
  rw [hkv2] at he
  cases he
  have hw:IntKind.wrap .i64 ((i:Int) + 1) = ((i + 1:Nat):Int):=by rw [wrap64 (by omega) (by omega)];omega
  refine Wp.round1 (F:=fun n m'=>f37_l1 (L37 n) m' (some (tb,0)) t.length c2 6 (some m) ((got t nd).take i) (some (b,0)) nd.kids.length c 1 nd.kids.length i nd.kind nd.at_ nd.text nd.n nd.m (some (b,0)) nd.kids.length c 1 σ) (fun n m=>f37_l1_e) ?_
  simp only [f37_l1_t,derefK_s,szK_s,ldKid hbl hx,xInt_i,hs.kind hy,hw,idxK_ok (show (0:Int) ≤ (i:Int) ∧ (i:Int) < (nd.kids.length:Int) from ⟨by omega,by omega⟩),idxK_ok (show (0:Int) ≤ (x:Int) ∧ (x:Int) < (t.length:Int) from ⟨by omega,by omega⟩)]
  refine Wp.pos (by simp;omega) ?_
  refine Wp.call (sort_fn y.kind) (fun v σ' hv=>?_) fun v σ' hv=>by cases hv.1
  obtain ⟨hv,rfl⟩:=hv
  cases hv
  simp only [xInt_i]
  have hsn:-9223372036854775808 ≤ sortN y.kind ∧ sortN y.kind ≤ 9223372036854775807:=by unfold sortN;(repeat' split) <;> decide
  refine Wp.call (itoa_fn hkn hsn) (fun v σ' hv=>?_) fun v σ' hv=>by cases hv.1
  obtain ⟨hv,rfl⟩:=hv
  cases hv
  rw [sort_itoa]
  simp only [xStr_s,catK_ok (show ((got t nd).take i).length + [sortB y.kind].length ≤ 4611686018427387904 from by simp;omega)]
  have hti:(got t nd).take i ++ [sortB y.kind] = (got t nd).take (i + 1):=by
   rw [List.take_add_one]
   congr 1
   unfold got
   rw [List.getElem?_map,hx]
   simp only [Option.map_some,Option.toList_some]
   unfold kindAt;rw [hy]
  rw [hti]
  exact ih (i + 1) (by omega)
theorem kinds_fn (hs:Src σ tb t) (hkn:Kn σ) {kv:AV} (hkv:KAt σ kv nd.kids) (hk:∀ k ∈ nd.kids,∃ y,t[k]? = some y) (hok:KOk t nd) (hl:nd.kids.length ≤ 4096) {c2:Option Nat} :
  Fw Tryz.prog Lb 37 [.slice (some (tb,0)) t.length c2 6,.agg [.int .i64 nd.kind,.int .i64 nd.at_,.str nd.text,.int .i64 nd.n,.int .i64 nd.m,kv]] σ fun r σ'=>r = .ret (.bool true) ∧ Up σ σ':=by
 obtain ⟨a,c,z,rfl⟩:=hkv.slice
 refine Fw.enter (fun n=>f37_e) ?_
 simp only [f37_t]
 refine Wp.updH (l:=[]) rfl ?_
 refine Wp.updH (l:=[(1,[])]) rfl ?_
 refine Wp.updH (l:=[(1,[]),(2,[])]) rfl ?_
 refine Wp.updH (l:=[(1,[]),(2,[]),(3,[])]) rfl ?_
 refine Wp.updH (l:=[(1,[]),(2,[]),(3,[]),(5,[49,49])]) rfl ?_
 refine Wp.updH (l:=[(1,[]),(2,[]),(3,[]),(5,[49,49]),(6,[49])]) rfl ?_
 refine Wp.updH (l:=[(1,[]),(2,[]),(3,[]),(5,[49,49]),(6,[49]),(7,[49,49])]) rfl ?_
 refine Wp.updH (l:=[(1,[]),(2,[]),(3,[]),(5,[49,49]),(6,[49]),(7,[49,49]),(10,[49])]) rfl ?_
 refine Wp.updH (l:=[(1,[]),(2,[]),(3,[]),(5,[49,49]),(6,[49]),(7,[49,49]),(10,[49]),(11,[49,49])]) rfl ?_
 refine Wp.updH (l:=[(1,[]),(2,[]),(3,[]),(5,[49,49]),(6,[49]),(7,[49,49]),(10,[49]),(11,[49,49]),(13,[49,50])]) rfl ?_
 refine Wp.updH (l:=[(1,[]),(2,[]),(3,[]),(5,[49,49]),(6,[49]),(7,[49,49]),(10,[49]),(11,[49,49]),(13,[49,50]),(14,[49])]) rfl ?_
 refine Wp.updH (l:=[(1,[]),(2,[]),(3,[]),(5,[49,49]),(6,[49]),(7,[49,49]),(10,[49]),(11,[49,49]),(13,[49,50]),(14,[49]),(15,[])]) rfl ?_
 refine Wp.updH (l:=[(1,[]),(2,[]),(3,[]),(5,[49,49]),(6,[49]),(7,[49,49]),(10,[49]),(11,[49,49]),(13,[49,50]),(14,[49]),(15,[]),(16,[])]) rfl ?_
 refine Wp.updH (l:=[(1,[]),(2,[]),(3,[]),(5,[49,49]),(6,[49]),(7,[49,49]),(10,[49]),(11,[49,49]),(13,[49,50]),(14,[49]),(15,[]),(16,[]),(20,[])]) rfl ?_
 have hu:Up σ (σ ++ [AObj.map (encE want)]):=Up.app _
 have hm:(σ ++ [AObj.map (encE want)])[σ.length]? = some (.map (encE want)):=by rw [List.getElem?_append_right (Nat.le_refl _)];simp
 have h0:=kinds_loop (c2:=c2) (hs.up hu) (hkn.up hu) (hkv.up hu) hk hok hl rfl hm nd.kids.length 0 (by omega)
 rw [show ((0:Nat):Int) = 0 from rfl,List.take_zero] at h0
 refine Wp.fresh1 (F:=fun n m'=>f37_l1 (L37 n) m' (some (tb,0)) t.length c2 6 (some σ.length) [] a nd.kids.length c z nd.kids.length 0 nd.kind nd.at_ nd.text nd.n nd.m a nd.kids.length c z (σ ++ [AObj.map (encE want)])) ?_
 exact h0.mono fun r σ' ⟨h1,h2⟩=>⟨h1,by rw [h2];exact hu⟩
end
end Go.Front
/- shaped,same. -/
set_option linter.unusedSimpArgs false
set_option linter.unusedVariables false
namespace Go.Front
open Go.AM Go.Proofs
theorem zero3:zeroOf Tryz.prog 3 = some (.int .i64 0):=by kernel_rfl
theorem bytes3:bytesOfT Tryz.prog 3 = 8:=by kernel_rfl
def cellsF (F:Nat → Nat) (i n:Nat):List AV:=(List.range n).map fun j=>AV.int .i64 (if j < i then ((F j:Nat):Int) else 0)
theorem cellsF_len {F:Nat → Nat} {i n:Nat}:(cellsF F i n).length = n:=by simp [cellsF]
theorem cellsF_zero {F:Nat → Nat} {n:Nat}:cellsF F 0 n = List.replicate n (.int .i64 0):=by
 simp [cellsF,List.map_const']
theorem cellsF_get {F:Nat → Nat} {i n j:Nat} (hj:j < i) (hn:j < n):(cellsF F i n)[j]? = some (.int .i64 (F j:Int)):=by
 simp [cellsF,hn,hj]
theorem cellsF_set {F:Nat → Nat} {i n:Nat} (hn:i < n):(cellsF F i n).set i (.int .i64 (F i:Int)) = cellsF F (i + 1) n:=by
 apply List.ext_getElem?
 intro j
 by_cases hj:j = i
 ·subst hj
  rw [List.getElem?_set_self (by rw [cellsF_len];exact hn),cellsF_get (by omega) hn]
 ·rw [List.getElem?_set_ne (Ne.symm hj)]
  simp only [cellsF,List.getElem?_map]
  by_cases hjn:j < n
  ·simp only [List.getElem?_range hjn,Option.map_some]
   congr 2
   by_cases h:j < i
   ·rw [if_pos h,if_pos (by omega)]
   ·rw [if_neg h,if_neg (by omega)]
  ·rw [List.getElem?_eq_none (by simp;omega)];rfl
section
variable {Q:Post} {σ σ0:St} {tb:Nat} {t:List Node} {nd:Node}
theorem Wp.make3 {n:Nat} (hn:n ≤ 4096) {k:Fu → St → Out} (h:Wp Q fun u=>k u (σ ++ [AObj.cells (List.replicate n (.int .i64 0)) (.rw (.row 3))])):Wp Q fun u=>makeK Tryz.prog 3 1 (n:Int) (n:Int) σ (k u):=by
 refine h.eq fun u=>?_
 unfold makeK
 rw [zero3,bytes3]
 simp only
 rw [if_pos ⟨rfl,⟨by omega,Int.le_refl _,by omega,by rw [Int.toNat_natCast];omega⟩,rfl⟩]
 have hz:∀ n:Nat,zeros [AV.int .i64 0] n = List.replicate n (.int .i64 0):=by
  intro n
  induction n with
  | zero=>rfl
  | succ n ih=>simp only [zeros,List.singleton_append,ih,List.replicate_succ]
 have e:zeros (AV.cells (.int .i64 0)) ((n:Int)).toNat = List.replicate n (.int .i64 0):=by rw [Int.toNat_natCast];exact hz n
 rw [e]
structure Sh (σ0 σ:St) (fb:Nat) (F:Nat → Nat) (i n:Nat):Prop where
 up:Up σ0 σ
 ge:σ0.length ≤ fb
 row:σ[fb]? = some (.cells (cellsF F i n) (.rw (.row 3)))
theorem Sh.ld {fb i n j:Nat} {F:Nat → Nat} (h:Sh σ0 σ fb F i n) (hj:j < i) (hn:j < n) (f:AV → Out):ldK Tryz.prog 3 σ fb (0 + ((j:Int)).toNat * 1) f = f (.int .i64 (F j:Int)):=
 ldc (cs:=cellsF F i n) (by unfold cellsAt;rw [h.row]) agg3 (by rw [show 0 + ((j:Int)).toNat * 1 = j from by omega];exact cellsF_get hj hn)
theorem Sh.st {fb i n:Nat} {F:Nat → Nat} (h:Sh σ0 σ fb F i n) (hn:i < n) (f:St → Out):stK σ fb (0 + ((i:Int)).toNat * 1) [.int .i64 (F i:Int)] f = f (σ.set fb (.cells (cellsF F (i + 1) n) (.rw (.row 3)))):=by
 unfold stK;rw [h.row];simp only
 rw [show 0 + ((i:Int)).toNat * 1 = i from by omega,if_pos (by rw [cellsF_len];simp;omega)]
 simp only [setMany]
 rw [cellsF_set hn]
theorem Sh.next {fb i n:Nat} {F:Nat → Nat} (h:Sh σ0 σ fb F i n):Sh σ0 (σ.set fb (.cells (cellsF F (i + 1) n) (.rw (.row 3)))) fb F (i + 1) n:=
 ⟨⟨by simpa using h.up.len,fun x hx=>by rw [List.getElem?_set_ne (by have:=h.ge;omega)];exact h.up.same x hx⟩,h.ge,List.getElem?_set_self (lt_of h.row)⟩
theorem Sh.up' {σ':St} {fb i n:Nat} {F:Nat → Nat} (h:Sh σ0 σ fb F i n) (hu:Up σ σ'):Sh σ0 σ' fb F i n:=
 ⟨h.up.trans hu,h.ge,by rw [hu.same fb (lt_of h.row)];exact h.row⟩
noncomputable abbrev L15 (n:Nat):Leaf:=pt Tryz.prog Lb 15 n
theorem shaped_kids {len fb i:Nat} {F:Nat → Nat} {a:Option (Nat × Nat)} {z:Nat} {c c2:Option Nat} (hf:Fine len t F i nd) (hS:Sh σ0 σ fb F i t.length) (htl:t.length ≤ 4096) (hkv:KAt σ (.slice a nd.kids.length c z) nd.kids) (hkl:nd.kids.length ≤ 4096) :
  ∀ (j from_:Nat),j ≤ nd.kids.length → chain F from_ (nd.kids.take j).reverse = some (F i) → (∀ k ∈ nd.kids.take j,k < i) →
  (Wp Q fun u=>f15_j4 (L15 u.n) u.m1 (some (tb,0)) t.length c2 6 (some (fb,0)) t.length (some t.length) 1 i (F i) (some (tb,0)) t.length c2 6 t.length i nd.kind nd.at_ nd.text nd.n nd.m a nd.kids.length c z σ) →
  Wp Q fun u=>f15_l2 (L15 u.n) u.m1 u.m2 (some (tb,0)) t.length c2 6 (some (fb,0)) t.length (some t.length) 1 i from_ ((j:Int) - 1) (some (tb,0)) t.length c2 6 t.length i nd.kind nd.at_ nd.text nd.n nd.m a nd.kids.length c z σ:=by
 intro j
 have hil:i < t.length:=(List.getElem?_eq_some_iff.1 hf.at_).1
 induction j with
 | zero=>
  intro from_ hj hc hlt hk
  rw [List.take_zero,List.reverse_nil] at hc
  simp only [chain,Option.some.injEq] at hc
  subst hc
  refine Wp.round2 (F:=fun n m1 m2=>f15_l2 (L15 n) m1 m2 (some (tb,0)) t.length c2 6 (some (fb,0)) t.length (some t.length) 1 i (F i) (((0:Nat):Int) - 1) (some (tb,0)) t.length c2 6 t.length i nd.kind nd.at_ nd.text nd.n nd.m a nd.kids.length c z σ) (fun n m1 m2=>f15_l2_e) ?_
  simp only [f15_l2_t]
  exact Wp.neg (by simp) hk
 | succ j ih=>
  intro from_ hj hc hlt hk
  obtain ⟨k,hkj⟩:∃ k,nd.kids[j]? = some k:=⟨nd.kids[j],List.getElem?_eq_getElem (by omega)⟩
  have hkm:k ∈ nd.kids.take (j + 1):=by rw [List.take_add_one,hkj];simp
  have hki:=hlt k hkm
  rw [List.take_add_one,hkj,Option.toList_some,List.reverse_append,List.reverse_singleton,List.singleton_append] at hc
  simp only [chain] at hc
  have hfrom:k + 1 = from_:=by
   by_cases h:k + 1 = from_
   ·exact h
   ·rw [if_neg h] at hc;cases hc
  rw [if_pos hfrom] at hc
  subst hfrom
  obtain ⟨b,c',hkv2,hbl⟩:=hkv.kid hkj
  cases hkv2
  have hw1:IntKind.wrap .i64 (((k + 1:Nat):Int) - 1) = (k:Int):=by rw [wrap64 (by omega) (by omega)];omega
  have hw2:IntKind.wrap .i64 ((((j + 1:Nat):Int) - 1) - 1) = ((j:Nat):Int) - 1:=by rw [wrap64 (by omega) (by omega)];omega
  have hj1:(((j + 1:Nat):Int) - 1) = ((j:Nat):Int):=by omega
  refine Wp.round2 (F:=fun n m1 m2=>f15_l2 (L15 n) m1 m2 (some (tb,0)) t.length c2 6 (some (fb,0)) t.length (some t.length) 1 i (k + 1:Nat) (((j + 1:Nat):Int) - 1) (some (tb,0)) t.length c2 6 t.length i nd.kind nd.at_ nd.text nd.n nd.m (some (b,0)) nd.kids.length c 1 σ) (fun n m1 m2=>f15_l2_e) ?_
  simp only [f15_l2_t,hw1,hw2]
  rw [hj1]
  refine Wp.pos (by simp) ?_
  simp only [derefK_s,szK_s,ldKid hbl hkj,xInt_i,idxK_ok (show (0:Int) ≤ (j:Int) ∧ (j:Int) < (nd.kids.length:Int) from ⟨by omega,by omega⟩)]
  refine Wp.neg (by simp) (Wp.neg (by simp;omega) ?_)
  simp only [idxK_ok (show (0:Int) ≤ (k:Int) ∧ (k:Int) < (t.length:Int) from ⟨by omega,by omega⟩),hS.ld hki (by omega),xInt_i]
  exact ih (F k) (by omega) hc (fun x hx=>hlt x (by rw [List.take_add_one];exact List.mem_append_left _ hx)) hk
theorem shaped_loop {len fb:Nat} {F:Nat → Nat} {c2:Option Nat} (hkn:Kn σ0) (hs:Src σ0 tb t) (htl:t.length ≤ 4096) (hpos:0 < t.length) (hfine:FineSeg len t F 0 t.length) (h0:F (t.length - 1) = 0) :
  ∀ (k i:Nat) {σ:St},i + k = t.length → Sh σ0 σ fb F i t.length →
  Wp (fun r σ'=>r = .ret (.bool true) ∧ Up σ0 σ') fun u=>f15_l1 (L15 u.n) u.m1 (some (tb,0)) t.length c2 6 (some (fb,0)) t.length (some t.length) 1 (some (tb,0)) t.length c2 6 t.length i σ:=by
 intro k
 induction k with
 | zero=>
  intro i σ hi hS
  have hi:i = t.length:=by omega
  subst hi
  refine Wp.round1 (F:=fun n m=>f15_l1 (L15 n) m (some (tb,0)) t.length c2 6 (some (fb,0)) t.length (some t.length) 1 (some (tb,0)) t.length c2 6 t.length t.length σ) (fun n m=>f15_l1_e) ?_
  simp only [f15_l1_t]
  refine Wp.neg (by simp) ?_
  refine Wp.le (F:=fun u=>f15_j3_t (L15 u.n) u.n (some (tb,0)) t.length c2 6 (some (fb,0)) t.length (some t.length) 1 σ) ?_ fun u=>f15_j3_e
  have hw:IntKind.wrap .i64 ((t.length:Int) - 1) = ((t.length - 1:Nat):Int):=by rw [wrap64 (by omega) (by omega)];omega
  simp only [f15_j3_t,hw,derefK_s,szK_s,idxK_ok (show (0:Int) ≤ ((t.length - 1:Nat):Int) ∧ ((t.length - 1:Nat):Int) < (t.length:Int) from ⟨by omega,by omega⟩),hS.ld (show t.length - 1 < t.length by omega) (by omega),xInt_i,h0]
  exact Wp.ret ⟨rfl,hS.up⟩
 | succ k ih=>
  intro i σ hi hS
  obtain ⟨nd,hf⟩:=hfine i (Nat.zero_le _) (by omega)
  have hsσ:=hs.up hS.up
  obtain ⟨kv,hkv0,hload⟩:=hs.kidsU hf.at_
  have hkv:=hkv0.up hS.up
  obtain ⟨_,hnode⟩:=hload σ hS.up
  obtain ⟨a,c,z,rfl⟩:=hkv.slice
  have hkl:nd.kids.length ≤ 4096:=by
   have hle:∀ x ∈ nd.kids.reverse,F x ≤ x:=fun x hx=>by
    obtain ⟨h1,kd,h2,_⟩:=hf.kids x (List.mem_reverse.1 hx)
    obtain ⟨nd',hf'⟩:=hfine x (Nat.zero_le _) (by omega)
    exact hf'.le
   have:=chain_len _ _ _ hf.ch hle
   rw [List.length_reverse] at this
   omega
  have hw:IntKind.wrap .i64 ((nd.kids.length:Int) - 1) = (nd.kids.length:Int) - 1:=wrap64 (by omega) (by omega)
  have hwi:IntKind.wrap .i64 ((i:Int) + 1) = ((i + 1:Nat):Int):=by rw [wrap64 (by omega) (by omega)];omega
  refine Wp.round1 (F:=fun n m=>f15_l1 (L15 n) m (some (tb,0)) t.length c2 6 (some (fb,0)) t.length (some t.length) 1 (some (tb,0)) t.length c2 6 t.length i σ) (fun n m=>f15_l1_e) ?_
  simp only [f15_l1_t,derefK_s,szK_s,hnode,xAgg_a,unC_c,xInt_i,xStr_s,xSl_s,nlC_n,hw,idxK_ok (show (0:Int) ≤ (i:Int) ∧ (i:Int) < (t.length:Int) from ⟨by omega,by omega⟩)]
  refine Wp.pos (by simp;omega) ?_
  refine Wp.fresh2 (F:=fun n m1 m2=>f15_l2 (L15 n) m1 m2 (some (tb,0)) t.length c2 6 (some (fb,0)) t.length (some t.length) 1 i i ((nd.kids.length:Int) - 1) (some (tb,0)) t.length c2 6 t.length i nd.kind nd.at_ nd.text nd.n nd.m a nd.kids.length c z σ) ?_
  refine shaped_kids hf hS htl hkv hkl nd.kids.length i (Nat.le_refl _) (by rw [List.take_length];exact hf.ch) (fun x hx=>(hf.kids x (by rw [List.take_length] at hx;exact hx)).1) ?_
  refine Wp.le (F:=fun u=>f15_j4_t (L15 u.n) u.n u.m1 (some (tb,0)) t.length c2 6 (some (fb,0)) t.length (some t.length) 1 i (F i) (some (tb,0)) t.length c2 6 t.length i nd.kind nd.at_ nd.text nd.n nd.m a nd.kids.length c z σ) ?_ fun u=>f15_j4_e
  simp only [f15_j4_t,derefK_s,szK_s,hS.st (show i < t.length by omega),idxK_ok (show (0:Int) ≤ (i:Int) ∧ (i:Int) < (t.length:Int) from ⟨by omega,by omega⟩)]
  have hS1:=hS.next
  have hs1:=hs.up hS1.up
  have hkv2:=hkv0.up hS1.up
  refine Wp.call (kinds_fn hs1 (hkn.up hS1.up) hkv2 (fun x hx=>⟨_,(hf.kids x hx).2.choose_spec.1⟩) hf.ok hkl) (fun v σ' hv=>?_) fun v σ' hv=>by cases hv.1
  obtain ⟨hv,hu⟩:=hv
  cases hv
  simp only [xBool_b]
  refine Wp.neg rfl ?_
  refine Wp.le (F:=fun u=>f15_j5_t (L15 u.n) u.n u.m1 (some (tb,0)) t.length c2 6 (some (fb,0)) t.length (some t.length) 1 (some (tb,0)) t.length c2 6 t.length i σ') ?_ fun u=>f15_j5_e
  simp only [f15_j5_t,hwi]
  exact ih (i + 1) (by omega) (hS1.up' hu)
theorem shaped_fn {len:Nat} {F:Nat → Nat} {c2:Option Nat} (hkn:Kn σ0) (hs:Src σ0 tb t) (htl:t.length ≤ 4096) (hpos:0 < t.length) (hfine:FineSeg len t F 0 t.length) (h0:F (t.length - 1) = 0) (h23:∃ nd,t[t.length - 1]? = some nd ∧ nd.kind = 23) :
  Fw Tryz.prog Lb 15 [.slice (some (tb,0)) t.length c2 6] σ0 fun r σ'=>r = .ret (.bool true) ∧ Up σ0 σ':=by
 obtain ⟨nd,hnd,hk⟩:=h23
 refine Fw.enter (fun n=>f15_e) ?_
 have hw:IntKind.wrap .i64 ((t.length:Int) - 1) = ((t.length - 1:Nat):Int):=by rw [wrap64 (by omega) (by omega)];omega
 simp only [f15_t,hw,derefK_s,szK_s,hs.kind hnd,xInt_i,idxK_ok (show (0:Int) ≤ ((t.length - 1:Nat):Int) ∧ ((t.length - 1:Nat):Int) < (t.length:Int) from ⟨by omega,by omega⟩)]
 refine Wp.neg (by rw [beq_eq_false_iff_ne];omega) (Wp.neg (by rw [decide_eq_false_iff_not];omega) (Wp.neg (by rw [hk];rfl) (Wp.make3 htl ?_)))
 simp only [Int.toNat_natCast]
 have hS:Sh σ0 (σ0 ++ [AObj.cells (List.replicate t.length (.int .i64 0)) (.rw (.row 3))]) σ0.length F 0 t.length:=
  ⟨Up.app _,Nat.le_refl _,by rw [List.getElem?_append_right (Nat.le_refl _),cellsF_zero];simp⟩
 have h:=shaped_loop (c2:=c2) hkn hs htl hpos hfine h0 t.length 0 (by omega) hS
 rw [show ((0:Nat):Int) = 0 from rfl] at h
 refine Wp.fresh1 (F:=fun n m=>f15_l1 (L15 n) m (some (tb,0)) t.length c2 6 (some (σ0.length,0)) t.length (some t.length) 1 (some (tb,0)) t.length c2 6 t.length 0 (σ0 ++ [AObj.cells (List.replicate t.length (.int .i64 0)) (.rw (.row 3))])) ?_
 exact h
end
end Go.Front
/- same;whole. -/
set_option linter.unusedSimpArgs false
set_option linter.unusedVariables false
namespace Go.Front
open Go.AM Go.Proofs
noncomputable abbrev L19 (n:Nat):Leaf:=pt Tryz.prog Lb 19 n
section
variable {Q:Post} {σ σ0:St} {ta tb:Nat} {a b:List Node} {nd:Node}
theorem same_kids {ks:List Nat} {a1 a5 aa ab:Option (Nat × Nat)} {n2 n6 z4 z8 za zb:Nat} {c3 c7 ca cb:Option Nat} {i9 i10 k1 k2 n1 n3 m1 m2 at1 at2:Int} {s1 s2:List UInt8} (hl:ks.length ≤ 1000000000) (ha:KAt σ (.slice aa ks.length ca za) ks) (hb:KAt σ (.slice ab ks.length cb zb) ks)
  (hk:Wp Q fun u=>f19_j6 (L19 u.n) u.m1 a1 n2 c3 z4 a5 n6 c7 z8 i9 i10 σ) :
  ∀ (k j:Nat),j + k = ks.length → Wp Q fun u=>f19_l5 (L19 u.n) u.m1 u.m2 a1 n2 c3 z4 a5 n6 c7 z8 i9 i10 ks.length j k1 at1 s1 n1 m1 aa ks.length ca za k2 at2 s2 n3 m2 ab ks.length cb zb σ:=by
 intro k
 induction k with
 | zero=>
  intro j hj
  refine Wp.round2 (F:=fun n q1 q2=>f19_l5 (L19 n) q1 q2 a1 n2 c3 z4 a5 n6 c7 z8 i9 i10 ks.length j k1 at1 s1 n1 m1 aa ks.length ca za k2 at2 s2 n3 m2 ab ks.length cb zb σ) (fun n q1 q2=>f19_l5_e) ?_
  simp only [f19_l5_t]
  exact Wp.neg (by rw [decide_eq_false_iff_not];omega) hk
 | succ k ih=>
  intro j hj
  obtain ⟨x,hx⟩:∃ x,ks[j]? = some x:=⟨ks[j],List.getElem?_eq_getElem (by omega)⟩
  obtain ⟨b1,c1,e1,h1⟩:=ha.kid hx
  obtain ⟨b2,c2,e2,h2⟩:=hb.kid hx
  cases e1;cases e2
  have hw:IntKind.wrap .i64 ((j:Int) + 1) = ((j + 1:Nat):Int):=by rw [wrap64 (by omega) (by omega)];omega
  refine Wp.round2 (F:=fun n q1 q2=>f19_l5 (L19 n) q1 q2 a1 n2 c3 z4 a5 n6 c7 z8 i9 i10 ks.length j k1 at1 s1 n1 m1 (some (b1,0)) ks.length ca 1 k2 at2 s2 n3 m2 (some (b2,0)) ks.length cb 1 σ) (fun n q1 q2=>f19_l5_e) ?_
  simp only [f19_l5_t,derefK_s,szK_s,ldKid h1 hx,ldKid h2 hx,xInt_i,hw,idxK_ok (show (0:Int) ≤ (j:Int) ∧ (j:Int) < (ks.length:Int) from ⟨by omega,by omega⟩)]
  refine Wp.pos (by rw [decide_eq_true_eq];omega) (Wp.neg (by simp) ?_)
  exact ih (j + 1) (by omega)
theorem same_loop {ca cb:Option Nat} (hsa:Src σ ta a) (hsb:Src σ tb b) (hab:a.map Node.strip = b.map Node.strip) (hl:a.length ≤ 1000000000) (hkl:∀ x ∈ a,x.kids.length ≤ 1000000000) :
  ∀ (k i:Nat),i + k = a.length → Wp (trueQ σ) fun u=>f19_l1 (L19 u.n) u.m1 (some (ta,0)) a.length ca 6 (some (tb,0)) b.length cb 6 a.length i σ:=by
 have hlab:a.length = b.length:=by have:=congrArg List.length hab;simpa using this
 intro k
 induction k with
 | zero=>
  intro i hi
  refine Wp.round1 (F:=fun n m=>f19_l1 (L19 n) m (some (ta,0)) a.length ca 6 (some (tb,0)) b.length cb 6 a.length i σ) (fun n m=>f19_l1_e) ?_
  simp only [f19_l1_t]
  refine Wp.neg (by rw [decide_eq_false_iff_not];omega) (Wp.le (F:=fun u=>f19_j4_t (L19 u.n) u.n σ) ?_ fun u=>f19_j4_e)
  simp only [f19_j4_t]
  exact Wp.ret ⟨rfl,rfl⟩
 | succ k ih=>
  intro i hi
  obtain ⟨x,hx⟩:∃ x,a[i]? = some x:=⟨a[i],List.getElem?_eq_getElem (by omega)⟩
  obtain ⟨y,hy⟩:∃ y,b[i]? = some y:=⟨b[i],List.getElem?_eq_getElem (by omega)⟩
  have hxy:x.strip = y.strip:=by
   have:=congrArg (fun l=>l[i]?) hab
   simpa [hx,hy] using this
  obtain ⟨e1,e2,e3,e4,e5⟩:=strip_eq hxy
  obtain ⟨kva,hka,_,hna⟩:=hsa.kids hx
  obtain ⟨kvb,hkb,_,hnb⟩:=hsb.kids hy
  obtain ⟨aa,caa,za,rfl⟩:=hka.slice
  obtain ⟨ab,cab,zb,rfl⟩:=hkb.slice
  have hxl:=hkl x (List.mem_of_getElem? hx)
  have hw:IntKind.wrap .i64 ((i:Int) + 1) = ((i + 1:Nat):Int):=by rw [wrap64 (by omega) (by omega)];omega
  refine Wp.round1 (F:=fun n m=>f19_l1 (L19 n) m (some (ta,0)) a.length ca 6 (some (tb,0)) b.length cb 6 a.length i σ) (fun n m=>f19_l1_e) ?_
  simp only [f19_l1_t,derefK_s,szK_s,hna,hnb,xAgg_a,unC_c,xInt_i,xStr_s,xSl_s,nlC_n,idxK_ok (show (0:Int) ≤ (i:Int) ∧ (i:Int) < (a.length:Int) from ⟨by omega,by omega⟩),idxK_ok (show (0:Int) ≤ (i:Int) ∧ (i:Int) < (b.length:Int) from ⟨by omega,by omega⟩)]
  refine Wp.pos (by rw [decide_eq_true_eq];omega) (Wp.neg (by rw [e1];simp) (Wp.neg (by rw [e2];simp) (Wp.neg (by rw [e3];simp) (Wp.neg (by rw [e4];simp) ?_))))
  rw [← e5] at hkb ⊢
  refine Wp.le (F:=fun u=>f19_j3_t (L19 u.n) u.n u.m1 (some (ta,0)) a.length ca 6 (some (tb,0)) b.length cb 6 a.length i ((x.kids.length:Int) != (x.kids.length:Int)) x.kind x.at_ x.text x.n x.m aa x.kids.length caa za y.kind y.at_ y.text y.n y.m ab x.kids.length cab zb σ) ?_ fun u=>f19_j3_e
  simp only [f19_j3_t]
  refine Wp.neg (by simp) ?_
  have hj6:Wp (trueQ σ) fun u=>f19_j6 (L19 u.n) u.m1 (some (ta,0)) a.length ca 6 (some (tb,0)) b.length cb 6 a.length i σ:=by
   refine Wp.le (F:=fun u=>f19_j6_t (L19 u.n) u.n u.m1 (some (ta,0)) a.length ca 6 (some (tb,0)) b.length cb 6 a.length i σ) ?_ fun u=>f19_j6_e
   simp only [f19_j6_t,hw]
   exact ih (i + 1) (by omega)
  have h0:=same_kids (k1:=x.kind) (at1:=x.at_) (s1:=x.text) (n1:=x.n) (m1:=x.m) (k2:=y.kind) (at2:=y.at_) (s2:=y.text) (n3:=y.n) (m2:=y.m) hxl hka hkb hj6 x.kids.length 0 (by omega)
  rw [show ((0:Nat):Int) = 0 from rfl] at h0
  refine Wp.fresh2 (F:=fun n q1 q2=>f19_l5 (L19 n) q1 q2 (some (ta,0)) a.length ca 6 (some (tb,0)) b.length cb 6 a.length i x.kids.length 0 x.kind x.at_ x.text x.n x.m aa x.kids.length caa za y.kind y.at_ y.text y.n y.m ab x.kids.length cab zb σ) ?_
  exact h0
theorem same_fn {ca cb:Option Nat} (hsa:Src σ ta a) (hsb:Src σ tb b) (hab:a.map Node.strip = b.map Node.strip) (hl:a.length ≤ 1000000000) (hkl:∀ x ∈ a,x.kids.length ≤ 1000000000) :
  Fw Tryz.prog Lb 19 [.slice (some (ta,0)) a.length ca 6,.slice (some (tb,0)) b.length cb 6] σ (trueQ σ):=by
 have hlab:a.length = b.length:=by have:=congrArg List.length hab;simpa using this
 refine Fw.enter (fun n=>f19_e) ?_
 simp only [f19_t]
 refine Wp.neg (by rw [hlab];simp) ?_
 have h0:=same_loop (ca:=ca) (cb:=cb) hsa hsb hab hl hkl a.length 0 (by omega)
 rw [show ((0:Nat):Int) = 0 from rfl] at h0
 refine Wp.fresh1 (F:=fun n m=>f19_l1 (L19 n) m (some (ta,0)) a.length ca 6 (some (tb,0)) b.length cb 6 a.length 0 σ) ?_
 exact h0
end
def boxesW (σ:St) (s:List UInt8):St:=σ ++ [AObj.cells [.str s,.int .i64 (0:Int),.int .i64 (0:Int),.int .i64 (0:Int),.str [],.int .i64 (0:Int),.slice none 0 (some 0) 0,.int .i64 (0:Int)] (.rw (.box 46))] ++ [AObj.cells [.slice none 0 (some 0) 0] (.rw (.box 24))] ++ [AObj.cells [.bool false] (.rw (.box 4))]
def frW (σ:St) (s:List UInt8):Fr:=fun b=>if b = σ.length then none else (boxesW σ s)[b]?
def wholeQ (σ:St) (o:Except Flt (List Node)):Post:=fun r σ'=>Up σ σ' ∧
 match o with
 | .ok nd=>∃ v,r = .ret (.tuple [v,.bool true]) ∧ SrcAt σ' v nd
 | .error e=>r = .ret (.tuple [.slice none 0 (some 0) 0,.bool false])
noncomputable abbrev L18 (n:Nat):Leaf:=pt Tryz.prog Lb 18 n
section
variable {s:List UInt8} {σ0 σ σ':St} {st:PS (strm s)} {d:Int}
structure Res2 (σ0 σ':St) (t e:AV):Prop where
 up:Up σ0 σ'
 ht:σ'[σ0.length + 1]? = some (.cells [t] (.rw (.box 24)))
 he:σ'[σ0.length + 2]? = some (.cells [e] (.rw (.box 4)))
theorem bw_len:(boxesW σ0 s).length = σ0.length + 3:=by simp [boxesW]
theorem bw_old {b:Nat} (hb:b < σ0.length):(boxesW σ0 s)[b]? = σ0[b]?:=by
 simp only [boxesW,List.append_assoc];rw [List.getElem?_append_left hb]
theorem bw_r:(boxesW σ0 s)[σ0.length]? = some (AObj.cells [.str s,.int .i64 (0:Int),.int .i64 (0:Int),.int .i64 (0:Int),.str [],.int .i64 (0:Int),.slice none 0 (some 0) 0,.int .i64 (0:Int)] (.rw (.box 46))):=by
 simp only [boxesW,List.append_assoc];rw [List.getElem?_append_right (by omega)];simp
theorem bw_t:(boxesW σ0 s)[σ0.length + 1]? = some (.cells [.slice none 0 (some 0) 0] (.rw (.box 24))):=by
 simp only [boxesW,List.append_assoc];rw [List.getElem?_append_right (by omega)];simp
theorem bw_e:(boxesW σ0 s)[σ0.length + 2]? = some (.cells [.bool false] (.rw (.box 4))):=by
 simp only [boxesW,List.append_assoc];rw [List.getElem?_append_right (by omega)];simp
theorem frW_t:frW σ0 s (σ0.length + 1) = some (.cells [.slice none 0 (some 0) 0] (.rw (.box 24))):=by unfold frW;rw [if_neg (by omega)];exact bw_t
theorem frW_e:frW σ0 s (σ0.length + 2) = some (.cells [.bool false] (.rw (.box 4))):=by unfold frW;rw [if_neg (by omega)];exact bw_e
theorem res2_of (h:RdX s (frW σ0 s) σ σ0.length st d):Res2 σ0 σ (.slice none 0 (some 0) 0) (.bool false):=by
 refine ⟨⟨?_,fun x hx=>?_⟩,h.keep _ _ frW_t,h.keep _ _ frW_e⟩
 ·have:=lt_of (h.keep _ _ frW_e);omega
 ·obtain ⟨o,ho⟩:∃ o,σ0[x]? = some o:=⟨σ0[x],List.getElem?_eq_getElem hx⟩
  rw [ho]
  exact h.keep x o (by unfold frW;rw [if_neg (by omega),bw_old hx];exact ho)
theorem Res2.setT {t e:AV} (h:Res2 σ0 σ t e) (t':AV):Res2 σ0 (σ.set (σ0.length + 1) (.cells [t'] (.rw (.box 24)))) t' e:=
 ⟨⟨by simpa using h.up.len,fun x hx=>by rw [List.getElem?_set_ne (by omega)];exact h.up.same x hx⟩,List.getElem?_set_self (lt_of h.ht),by rw [List.getElem?_set_ne (by omega)];exact h.he⟩
theorem Res2.setE {t e:AV} (h:Res2 σ0 σ t e) (e':AV):Res2 σ0 (σ.set (σ0.length + 2) (.cells [e'] (.rw (.box 4)))) t e':=
 ⟨⟨by simpa using h.up.len,fun x hx=>by rw [List.getElem?_set_ne (by omega)];exact h.up.same x hx⟩,by rw [List.getElem?_set_ne (by omega)];exact h.ht,List.getElem?_set_self (lt_of h.he)⟩
theorem Res2.ldT {t e:AV} (h:Res2 σ0 σ t e) (f:AV → Out):ldK Tryz.prog 24 σ (σ0.length + 1) 0 f = f t:=ldc (cs:=[t]) (by unfold cellsAt;rw [h.ht]) agg24 rfl
theorem Res2.ldE {t e:AV} (h:Res2 σ0 σ t e) (f:AV → Out):ldK Tryz.prog 4 σ (σ0.length + 2) 0 f = f e:=ldc (cs:=[e]) (by unfold cellsAt;rw [h.he]) agg4 rfl
theorem whole_pan {e:Flt} (h:Res2 σ0 σ (.slice none 0 (some 0) 0) (.bool false)) :
  Wp (wholeQ σ0 (.error e)) fun u=>dfT Tryz.prog Lb u.n 43 [.ptr (some (σ0.length + 1,0)),.ptr (some (σ0.length + 2,0))] (some (faultAV e.1 e.2)) σ fun u6 σ7=>
   lvK u6 (fun v8=>some (.pan v8,σ7)) (ldK Tryz.prog 24 σ7 (σ0.length + 1) 0 fun x9=>ldK Tryz.prog 4 σ7 (σ0.length + 2) 0 fun x10=>some (.ret (.tuple [x9,x10]),σ7)):=by
 have r1:=h.setT (.slice none 0 (some 0) 0)
 have r2:=r1.setE (.bool false)
 refine Wp.df (x':=none) (σ':=_) ⟨0,fun n _=>f43_d (y:=.tuple []) (σ':=((σ.set (σ0.length + 1) (.cells [.slice none 0 (some 0) 0] (.rw (.box 24)))).set (σ0.length + 2) (.cells [.bool false] (.rw (.box 4))))) ?_⟩ (Wp.lv0 ?_)
 ·simp only [f43_dt,Option.getD_some,faultAV,astK,if_true,xAgg_a,unC_c,xInt_i,nlC_n,set1 h.ht,set1 r1.he]
 ·simp only [r2.ldT,r2.ldE]
  exact Wp.ret ⟨r2.up,rfl⟩
theorem whole_end {a:Option (Nat × Nat)} {k z:Nat} {c:Option Nat} {kids:List Nat} {o:Except Flt (Nat × PS (strm s))} (h:KR s (frW σ0 s) σ σ0.length st (.slice a k c z) kids) (ho:nodeP ⟨23,0,[],0,0,kids⟩ st = some o) :
  Wp (wholeQ σ0 (parR o)) fun u=>f18_j2 (L18 u.n) (some (σ0.length,0)) (σ0.length + 1) 0 (σ0.length + 2) 0 a k c z (σ0.length + 1) 0 (σ0.length + 2) 0 σ:=by
 refine Wp.le (F:=fun u=>f18_j2_t (L18 u.n) u.n (some (σ0.length,0)) (σ0.length + 1) 0 (σ0.length + 2) 0 a k c z (σ0.length + 1) 0 (σ0.length + 2) 0 σ) ?_ fun u=>f18_j2_e
 simp only [f18_j2_t]
 refine KR.nodex h ho rfl (fun e he σ' hx=>?_) fun x st1 σ1 h he=>?_
 ·subst he
  obtain ⟨st2,d2,hx⟩:=hx
  exact whole_pan (res2_of hx)
 ·subst he
  obtain ⟨tv,hc,hn⟩:=h.1.c
  obtain ⟨ta,tc,tz,htv⟩:=nodes_len hn
  have r0:=res2_of h.1
  have r1:=r0.setT tv
  have r2:=r1.setE (.bool true)
  simp only [natE,xInt_i,derefK_s,hc.nodes]
  rw [htv] at r1 r2 hn ⊢
  simp only [xSl_s,set1 r0.ht,set1 r1.he]
  refine Wp.df (x':=none) (σ':=_) ⟨0,fun n _=>f43_d (y:=.tuple []) (by simp only [f43_dt,Option.getD_none,astK];rfl)⟩ (Wp.lv0 ?_)
  simp only [r2.ldT,r2.ldE]
  refine Wp.ret ⟨r2.up,_,rfl,NodesAt.src (fr:=frW σ0 s) (p:=σ0.length) (hn.mono2 fun b hb hf hp=>?_)⟩
  rw [List.getElem?_set_ne (fun e=>by subst e;rw [frW_e] at hf;cases hf),List.getElem?_set_ne (fun e=>by subst e;rw [frW_t] at hf;cases hf)]
theorem whole_loop {N:Nat} (hN:N ≤ 1000000000):∀ (n:Nat) {acc:List Nat} {σ:St} {st:PS (strm s)} {a:Option (Nat × Nat)} {k z:Nat} {c:Option Nat} {o:Except Flt (Nat × PS (strm s))},
  acc.length + n ≤ 1000000000 → KR s (frW σ0 s) σ σ0.length st (.slice a k c z) acc → (loopP (declB N) n acc >>= fun kids=>nodeP ⟨23,0,[],0,0,kids⟩) st = some o →
  Wp (wholeQ σ0 (parR o)) fun u=>f18_l1 (L18 u.n) u.m1 (some (σ0.length,0)) (σ0.length + 1) 0 (σ0.length + 2) 0 a k c z (σ0.length + 1) 0 (σ0.length + 2) 0 σ:=by
 intro n
 induction n with
 | zero=>intro acc σ st a k z c o _ _ ho;rw [PM.bind_none rfl] at ho;cases ho
 | succ n ih=>
  intro acc σ st a k z c o hl h ho
  refine Wp.round1 (F:=fun n m=>f18_l1 (L18 n) m (some (σ0.length,0)) (σ0.length + 1) 0 (σ0.length + 2) 0 a k c z (σ0.length + 1) 0 (σ0.length + 2) 0 σ) (fun n m=>f18_l1_e) ?_
  have hr:=h.rd
  have e00:((st.tok.kind:Int) == (0:Int)) = decide (st.tok.kind = 0):=natInt (b:=0)
  have e0:((st.tok.kind:Int) != (0:Int)) = !decide (st.tok.kind = 0):=by rw [bne,e00]
  simp only [f18_l1_t,derefK_s,hr.kind,xInt_i,e0]
  rw [loopP_succ] at ho
  simp only [declB,PM.bind_assoc,PM.ite_bind,PM.pure_bind,loopK_inl,loopK_inr] at ho
  rw [tokP_bind] at ho
  refine Wp.ite (fun hb=>?_) fun hb=>?_
  ·have hb:¬ st.tok.kind = 0:=by simpa using hb
   rw [if_neg hb] at ho
   refine KR.callx (decl_sp hN) h ho (fun e he σ' hx=>?_) fun x st1 σ1 h ho=>?_
   ·subst he
    obtain ⟨st2,d2,hx⟩:=hx
    exact whole_pan (res2_of hx)
   ·simp only [natE,xInt_i]
    refine h.app rfl (by omega) fun b σ2 h=>?_
    exact ih (by simp;omega) h ho
  ·have hb:st.tok.kind = 0:=by simpa using hb
   rw [if_pos hb] at ho
   exact whole_end h ho
theorem whole_fn (hk:Kn σ0) (hs:s.length ≤ 1000000000) {n:Nat} (hn:n ≤ 1000000000) {o:Except Flt (List Node)} (ho:readP (strm s) (0:Nat) n = some o) :
  Fw Tryz.prog Lb 18 [.ptr (some (σ0.length,0))] (σ0 ++ [AObj.cells [.str s,.int .i64 (0:Int),.int .i64 (0:Int),.int .i64 (0:Int),.str [],.int .i64 (0:Int),.slice none 0 (some 0) 0,.int .i64 (0:Int)] (.rw (.box 46))]) (wholeQ σ0 o):=by
 refine Fw.enter (fun n=>f18_e) ?_
 have l1 (x:AObj):(σ0 ++ [x]).length = σ0.length + 1:=by simp
 have l2 (x y:AObj):(σ0 ++ [x] ++ [y]).length = σ0.length + 2:=by simp
 have hbx:(σ0 ++ [AObj.cells [.str s,.int .i64 (0:Int),.int .i64 (0:Int),.int .i64 (0:Int),.str [],.int .i64 (0:Int),.slice none 0 (some 0) 0,.int .i64 (0:Int)] (.rw (.box 46))] ++ [AObj.cells [.slice none 0 (some 0) 0] (.rw (.box 24))] ++ [AObj.cells [.bool false] (.rw (.box 4))]:St) = boxesW σ0 s:=rfl
 simp only [f18_t,l1,l2,hbx]
 unfold readP at ho
 have hnx:(strm s).nxt (0:Nat) = match cut s 0 with | (f,none)=>.inl f | (_,some (t,q))=>.inr (t,q):=rfl
 rw [hnx] at ho
 have h0:RdC (boxesW σ0 s) σ0.length s 0 ⟨0,0,[],0⟩ (.slice none 0 (some 0) 0) 0:=⟨bw_r⟩
 have hu:Up σ0 (boxesW σ0 s):=⟨by rw [bw_len];omega,fun x hx=>bw_old hx⟩
 have kn1:=hk.up hu
 have hp4:4 ≤ σ0.length:=hk.len
 have hfr:KnF (frW σ0 s):=by
  have q {x:Nat} (hx:x < 4):frW σ0 s x = (boxesW σ0 s)[x]?:=by unfold frW;rw [if_neg (by omega)]
  exact ⟨by rw [q (by omega)];exact kn1.asc,by rw [q (by omega)];exact kn1.pow,by rw [q (by omega)];exact kn1.syn,by rw [q (by omega)];exact kn1.rng⟩
 have hcut:=cut_fn (at_:=0) hs kn1 hp4 (Nat.zero_le _) h0
 have hle:=@cut_le s 0 (Nat.zero_le _)
 have hrd {σ':St} (hkp:Kp (boxesW σ0 s).length σ0.length (boxesW σ0 s) σ') {t:Tok} {q:Nat} (hc:RdC σ' σ0.length s q t (.slice none 0 (some 0) 0) 0):RdX s (frW σ0 s) σ' σ0.length (⟨t,q,[],0⟩:PS (strm s)) 0:=by
  refine ⟨hs,hfr,fun b o hbo=>?_,by unfold frW;rw [if_pos rfl],by simp,_,hc,.zero 0⟩
  unfold frW at hbo
  split at hbo
  ·cases hbo
  ·rw [hkp.same b (lt_of hbo) (by assumption)];exact hbo
 generalize cut s 0 = ct at *
 obtain ⟨f,ct⟩:=ct
 cases ct with
 | none=>
  simp only at ho;cases ho
  refine Wp.calle hcut (fun v σ' hv=>by cases hv.1) fun v σ' hv=>?_
  obtain ⟨hv,hkp,q,hc⟩:=hv
  cases hv
  exact whole_pan (e:=(13,f)) (res2_of (hrd hkp hc))
 | some x=>
  obtain ⟨t,q⟩:=x
  simp only at ho
  have ho2:∃ o2,wholeP (S:=strm s) n ⟨t,q,[],0⟩ = some o2 ∧ o = parR o2:=by
   cases hw:wholeP (S:=strm s) n ⟨t,q,[],0⟩ with
   | none=>rw [hw] at ho;cases ho
   | some r=>
    rw [hw] at ho
    cases r with
    | error e=>cases ho;exact ⟨_,rfl,rfl⟩
    | ok x=>cases ho;exact ⟨_,rfl,rfl⟩
  obtain ⟨o2,ho2,rfl⟩:=ho2
  refine Wp.calle hcut (fun v σ' hv=>?_) fun v σ' hv=>by cases hv.1
  obtain ⟨hv,hc,hkp⟩:=hv
  cases hv
  simp only [Tok.av,Tok.cells,xAgg_a,unC_c,xInt_i,xStr_s,nlC_n,derefK_s]
  have hst (f:St → Out):stK σ' σ0.length (0 + 2) [.int .i64 t.kind,.int .i64 t.at_,.str t.text,.int .i64 t.n] f = _:=hc.stTok t f
  simp only [hst]
  have hc2:RdC (σ'.set σ0.length (.cells (rc s q t (.slice none 0 (some 0) 0) 0) (.rw (.box 46)))) σ0.length s q t (.slice none 0 (some 0) 0) 0:=hc.put
  have h2:=hrd (hkp.trans Kp.set) hc2
  refine Wp.fresh1 (F:=fun n m=>f18_l1 (L18 n) m (some (σ0.length,0)) (σ0.length + 1) 0 (σ0.length + 2) 0 none 0 (some 0) 0 (σ0.length + 1) 0 (σ0.length + 2) 0 (σ'.set σ0.length (.cells (rc s q t (.slice none 0 (some 0) 0) 0) (.rw (.box 46))))) ?_
  exact whole_loop hn n (by simp;omega) (.zero 0 ⟨h2,Nat.zero_le _,hle rfl⟩) ho2
end
end Go.Front

/- quote: a string as a token is written so. -/
import Derived.Test.YtlbieeajocjpeaaGreatDoorQt2
import Derived.Test.YtlbieeajocjpeaaGreatDoorShown
import Derived.Test.YtlbieeajocjpeaaGreatDoorBk1
import Derived.Test.YtlbieeajocjpeaaGreatDoorAmT
import Derived.Test.YtlbieeajocjpeaaGreatDoorBuilder
import Derived.Test.YtlbieeajocjpeaaGreatDoorChecked
set_option linter.unusedSimpArgs false
set_option linter.unusedVariables false
namespace Go.Front
open Go.AM Go.Proofs
theorem find198 (rv:Value) (w:World):(method (Tryz.prog.types.size + Made.depth) 210 rv "Replace").run Tryz.prog w = .ok (198,rv) w:=by kernel_rfl
theorem meth198:methF Tryz.prog 210 "Replace" = some 198:=by
 unfold methF
 have h:∃ f,∀ (rv:Value) (w:World),(method (Tryz.prog.types.size + Made.depth) 210 rv "Replace").run Tryz.prog w = .ok (f,rv) w:=⟨198,find198⟩
 rw [dif_pos h]
 have h1:=h.choose_spec (.bool true) default
 rw [find198] at h1
 have:(198,Value.bool true) = (h.choose,Value.bool true):=by injection h1
 exact congrArg some (congrArg Prod.fst this).symm
section
variable {Q:Post} {σ:St} {b g:Nat}
theorem load_fn {cs:List AV} {wr:Wr} {x:Int} (hb:σ[b]? = some (.cells cs wr)) (hx:cs[0]? = some (.int .u32 x)):Fw Tryz.prog Lb 135 [.ptr (some (b,0))] σ fun r σ'=>r = .ret (.bool (x != 0)) ∧ σ' = σ:=by
 refine Fw.enter (fun n=>f135_e) ?_
 simp only [f135_t,derefK_s]
 refine Wp.call (Qf:=fun r σ'=>r = .ret (.int .u32 x) ∧ σ' = σ) (Fw.lib (r:=.ret (.int .u32 x)) (σ':=σ) ?_ ⟨rfl,rfl⟩) (fun v σ' hv=>?_) fun v σ' hv=>by cases hv.1
 ·simp only [Lb,lbLoad32,hb,Nat.zero_add,hx]
 ·obtain ⟨hv,rfl⟩:=hv
  cases hv
  simp only [xInt_i]
  exact Wp.ret ⟨rfl,rfl⟩
theorem word_lib {cs:List AV} {m:Mk} {x y:Int} {o:Nat} (hb:σ[b]? = some (.cells cs (.rw m))) (ho:cs[o]? = some (.int .i32 x)):lbWord x y [.ptr (some (b,o))] σ = some (.ret (.tuple []),σ.set b (.cells (cs.set o (.int .i32 y)) (.rw m))):=by
 unfold lbWord
 simp only [hb]
 rw [if_pos ho]
theorem put_of {F:Nat → Out} {X:St} (h:Wp (fun r σ'=>r = .ret (.tuple []) ∧ σ' = X) fun u=>F u.n):∃ N,∀ n,N ≤ n → F n = some (.ret (.tuple []),X):=by
 obtain ⟨N,r,σ',⟨rfl,rfl⟩,h2⟩:=h
 exact ⟨N,fun n hn=>h2 ⟨n,n,n,n⟩ ⟨hn,hn,hn,hn⟩⟩
theorem store_d {cs:List AV} {m:Mk} {u:Option AV} (hb:σ[b]? = some (.cells cs (.rw m))) (hl:0 < cs.length) :
  ∃ N,∀ n,N ≤ n → runD Tryz.prog (callP Tryz.prog Lb n) n 142 [.ptr (some (b,0)),.bool true] u σ = some (u,σ.set b (.cells (cs.set 0 (.int .u32 1)) (.rw m))):=by
 obtain ⟨N,h⟩:=put_of (F:=fun n=>f142_dt n (some (b,0)) true σ) (X:=σ.set b (.cells (cs.set 0 (.int .u32 1)) (.rw m))) (by
  simp only [f142_dt,derefK_s]
  refine Wp.calld (Qf:=fun r σ'=>r = .ret (.int .u32 1) ∧ σ' = σ) (Fw.enter (fun n=>f148_e) ?_) (fun v σ' hv=>?_) fun v σ' hv=>by cases hv.1
  ·simp only [f148_t]
   exact Wp.pos rfl (Wp.ret ⟨rfl,rfl⟩)
  ·obtain ⟨hv,rfl⟩:=hv
   cases hv
   simp only [xInt_i]
   refine Wp.calld (Qf:=fun r σ''=>r = .ret (.tuple []) ∧ σ'' = σ'.set b (.cells (cs.set 0 (.int .u32 1)) (.rw m))) (Fw.lib (r:=.ret (.tuple [])) (σ':=σ'.set b (.cells (cs.set 0 (.int .u32 1)) (.rw m))) ?_ ⟨rfl,rfl⟩) (fun v σ2 hv=>?_) fun v σ' hv=>by cases hv.1
   ·simp only [Lb,lbStore32,hb,Nat.zero_add]
    exact if_pos hl
   ·exact Wp.ret ⟨rfl,hv.2⟩)
 exact ⟨N,fun n hn=>f142_d u (h n hn)⟩
theorem unlock_d {cs:List AV} {m:Mk} {u:Option AV} (hb:σ[b]? = some (.cells cs (.rw m))) (h1:cs[1]? = some (.int .i32 1)) :
  ∃ N,∀ n,N ≤ n → runD Tryz.prog (callP Tryz.prog Lb n) n 141 [.ptr (some (b,0 + 1))] u σ = some (u,σ.set b (.cells (cs.set 1 (.int .i32 0)) (.rw m))):=by
 obtain ⟨N,h⟩:=put_of (F:=fun n=>f141_dt n (some (b,0 + 1)) σ) (X:=σ.set b (.cells (cs.set 1 (.int .i32 0)) (.rw m))) (by
  simp only [f141_dt,derefK_s]
  refine Wp.calld (Qf:=fun r σ''=>r = .ret (.tuple []) ∧ σ'' = σ.set b (.cells (cs.set 1 (.int .i32 0)) (.rw m))) (Fw.lib (r:=.ret (.tuple [])) (σ':=σ.set b (.cells (cs.set 1 (.int .i32 0)) (.rw m))) ?_ ⟨rfl,rfl⟩) (fun v σ2 hv=>?_) fun v σ' hv=>by cases hv.1
  ·show lbWord 1 0 [.ptr (some (b,0 + 1 + 0))] σ = _
   exact word_lib hb h1
  ·exact Wp.ret ⟨rfl,hv.2⟩)
 exact ⟨N,fun n hn=>f141_d u (h n hn)⟩
def rep0 (g:Nat):List AV:=[.int .u32 0,.int .i32 0,.int .u32 0,.nilIface,.slice (some (g,0)) 8 none 1]
def rep1 (q:Nat):List AV:=[.int .u32 1,.int .i32 0,.int .u32 0,.iface 210 (.ptr (some (q,0))),nilS]
def OnceQ (σ:St) (b:Nat) (m:Mk):Post:=fun r σ'=>r = .ret (.tuple []) ∧ ∃ q,σ.length ≤ σ'.length ∧ (∀ x,x < σ.length → x ≠ b → σ'[x]? = σ[x]?) ∧ σ'[b]? = some (.cells (rep1 q) (.rw m)) ∧ Tab σ' q
theorem slow_fn {m:Mk} (hb:σ[b]? = some (.cells (rep0 g) (.rw m))) (hg:cellsAt σ g = some (olds.map .str)) (hgb:g ≠ b) :
  Fw Tryz.prog Lb 136 [.ptr (some (b,0)),.func (.func 130) [.ptr (some (b,0))] []] σ (OnceQ σ b m):=by
 refine Fw.enter (fun n=>f136_e) ?_
 simp only [f136_t,derefK_s]
 have hbl:=lt_of hb
 refine Wp.call (Qf:=fun r σ'=>r = .ret (.tuple []) ∧ σ' = σ.set b (.cells ((rep0 g).set 1 (.int .i32 1)) (.rw m))) (Fw.lib (r:=.ret (.tuple [])) (σ':=σ.set b (.cells ((rep0 g).set 1 (.int .i32 1)) (.rw m))) ?_ ⟨rfl,rfl⟩) (fun v σ1 hv=>?_) fun v σ' hv=>by cases hv.1
 ·show lbWord 0 1 [.ptr (some (b,0 + 1))] σ = _
  exact word_lib hb rfl
 obtain ⟨_,hσ1⟩:=hv
 have b1:σ1[b]? = some (.cells ((rep0 g).set 1 (.int .i32 1)) (.rw m)):=by rw [hσ1];exact List.getElem?_set_self hbl
 have s1:∀ x,x ≠ b → σ1[x]? = σ[x]?:=fun x hx=>by rw [hσ1];exact List.getElem?_set_ne (Ne.symm hx)
 have l1:σ1.length = σ.length:=by rw [hσ1];simp
 refine Wp.calle (load_fn b1 rfl) (fun v σ2 hv=>?_) fun v σ' hv=>by cases hv.1
 obtain ⟨hv,rfl⟩:=hv
 cases hv
 simp only [xBool_b]
 refine Wp.pos rfl ?_
 have hg1:cellsAt σ2 g = some (olds.map .str):=by unfold cellsAt at hg ⊢;rw [s1 g hgb];exact hg
 have hO:=buildOnce_fn (x0:=.int .u32 0) (x1:=.int .i32 1) (x2:=.int .u32 0) (x3:=.nilIface) (kg:=none) (m:=m) b1 hg1
 refine (Wp.calle (P:=Tryz.prog) (B:=Lb) (f:=130) (args:=[.ptr (some (b,0))]) (σ:=σ2) hO (fun v σ3 hv=>?_) (fun v σ' hv=>by cases hv.1) :)
 obtain ⟨_,q,l3,s3,b3,t3⟩:=hv
 have hbl3:=lt_of b3
 refine Wp.df (x':=none) (store_d b3 (by simp)) ?_
 have b4:=List.getElem?_set_self (a:=AObj.cells (([.int .u32 0,.int .i32 1,.int .u32 0,.iface 210 (.ptr (some (q,0))),nilS]:List AV).set 0 (.int .u32 1)) (.rw m)) hbl3
 refine Wp.df (x':=none) (unlock_d b4 rfl) (Wp.lv0 (Wp.ret ⟨rfl,q,by simp;omega,fun x hx hne=>?_,?_,?_⟩))
 ·rw [List.set_set,List.getElem?_set_ne (Ne.symm hne),s3 x (by omega) hne,s1 x hne]
 ·rw [List.set_set,List.getElem?_set_self hbl3];rfl
 ·rw [List.set_set];exact t3.set5 b3 rfl
theorem once_fn {m:Mk} (hb:σ[b]? = some (.cells (rep0 g) (.rw m))) (hg:cellsAt σ g = some (olds.map .str)) (hgb:g ≠ b) :
  Fw Tryz.prog Lb 129 [.ptr (some (b,0)),.func (.func 130) [.ptr (some (b,0))] []] σ (OnceQ σ b m):=by
 refine Fw.enter (fun n=>f129_e) ?_
 simp only [f129_t,derefK_s]
 refine Wp.call (load_fn hb rfl) (fun v σ1 hv=>?_) fun v σ' hv=>by cases hv.1
 obtain ⟨hv,rfl⟩:=hv
 cases hv
 simp only [xBool_b]
 refine Wp.pos rfl (Wp.call (slow_fn hb hg hgb) (fun v σ2 hv=>?_) fun v σ' hv=>by cases hv.1)
 exact Wp.ret ⟨rfl,hv.2⟩
theorem agg181:aggO Tryz.prog 181 = some false:=by kernel_rfl
theorem Wp.callj {t:TypeId} {v:AV} {f:FuncId} {name:String} {args:List AV} {Qf:Post} {k:Fu → AV → St → Out} (hm:methF Tryz.prog t name = some f) (hf:Fw Tryz.prog Lb f (v :: args) σ Qf) (hk:∀ v σ',Qf (.ret v) σ' → Wp Q fun u=>k u v σ') (hp:∀ v σ',Qf (.pan v) σ' → Q (.pan v) σ') :
  Wp Q fun u=>callJ Tryz.prog Lb u.n (.iface t v) name args σ (k u):=by
 refine (Wp.call hf hk hp).eq fun u=>?_
 unfold callJ callI
 simp only [hm]
 rfl
theorem repl_fn {m:Mk} {s:List UInt8} (hs:s.length ≤ 1000000) (hb:σ[b]? = some (.cells (rep0 g) (.rw m))) (hg:cellsAt σ g = some (olds.map .str)) (hgb:g ≠ b) :
  Fw Tryz.prog Lb 118 [.ptr (some (b,0)),.str s] σ fun r σ'=>r = .ret (.str (escS s)) ∧ σ.length ≤ σ'.length ∧ ∀ x,x < σ.length → x ≠ b → σ'[x]? = σ[x]?:=by
 refine Fw.enter (fun n=>f118_e) ?_
 simp only [f118_t,derefK_s]
 refine Wp.call (once_fn hb hg hgb) (fun v σ1 hv=>?_) fun v σ' hv=>by cases hv.1
 obtain ⟨_,q,l1,s1,b1,t1⟩:=hv
 have hl (f:AV → Out):ldK Tryz.prog 181 σ1 b (0 + 3) f = f (.iface 210 (.ptr (some (q,0)))):=ldc (cs:=rep1 q) (by unfold cellsAt;rw [b1]) agg181 rfl
 simp only [hl]
 refine Wp.callj meth198 (replace_fn t1 hs) (fun v σ2 hv=>?_) fun v σ' hv=>by cases hv.1
 obtain ⟨hv,hu⟩:=hv
 cases hv
 simp only [xStr_s]
 exact Wp.ret ⟨rfl,Nat.le_trans l1 hu.len,fun x hx hne=>(hu.same x (by omega)).trans (s1 x hx hne)⟩
theorem new_fn (σ:St):Fw Tryz.prog Lb 117 [.slice (some (σ.length,0)) 8 (some 8) 1] (σ ++ [AObj.cells (olds.map .str) (.rw (.row 9))]) fun r σ'=>
  r = .ret (.ptr (some (σ.length + 2,0))) ∧ σ' = σ ++ [AObj.cells (olds.map .str) (.rw (.row 9))] ++ [AObj.cells (olds.map .str) (.rw (.row 9))] ++ [AObj.cells (rep0 (σ.length + 1)) (.rw (.box 183))]:=by
 refine Fw.enter (fun n=>f117_e) ?_
 simp only [f117_t]
 refine Wp.neg (by decide) (Wp.span1 (cs:=olds.map .str) (by unfold cellsAt;rw [List.getElem?_append_right (Nat.le_refl _),Nat.sub_self];rfl) (by decide) ?_)
 rw [show ((olds.map AV.str).drop 0).take (8 * 1) = olds.map AV.str from rfl]
 refine Wp.app0 (by decide) ⟨by decide,by decide⟩ ?_
 refine Wp.ret ⟨by simp,?_⟩
 simp [rep0]
theorem quote_holds:QuoteS:=by
 intro σ s hk hs
 refine Fw.enter (fun n=>f91_e) ?_
 simp only [f91_t]
 have hlen:=escS_len s
 have hsp:=spc_le s
 have h100:=hs.1
 refine Wp.call (new_fn σ) (fun v σ1 hv=>?_) fun v σ' hv=>by cases hv.1
 obtain ⟨hv,hσ1⟩:=hv
 cases hv
 have l1:σ1.length = σ.length + 3:=by rw [hσ1];simp
 have b1:σ1[σ.length + 2]? = some (.cells (rep0 (σ.length + 1)) (.rw (.box 183))):=by
  rw [hσ1,List.getElem?_append_right (by simp)];simp
 have g1:cellsAt σ1 (σ.length + 1) = some (olds.map .str):=by
  unfold cellsAt
  rw [hσ1,List.getElem?_append_left (by simp),List.getElem?_append_right (by simp)];simp
 have s1:∀ x,x < σ.length → σ1[x]? = σ[x]?:=fun x hx=>by
  rw [hσ1,List.append_assoc,List.append_assoc];exact List.getElem?_append_left hx
 simp only [xPtr_p]
 refine Wp.call (repl_fn (s:=s) (by omega) b1 g1 (by omega)) (fun v σ2 hv=>?_) fun v σ' hv=>by cases hv.1
 obtain ⟨hv,l2,s2⟩:=hv
 cases hv
 simp only [xStr_s,catK_ok (a:=[34]) (b:=escS s) (by simp only [List.length_singleton];omega),catK_ok (a:=[34] ++ escS s) (b:=[34]) (by simp only [List.length_append,List.length_singleton];omega)]
 exact Wp.ret ⟨rfl,by omega,fun x hx=>(s2 x (by omega) (by omega)).trans (s1 x hx)⟩
end
end Go.Front
set_option linter.unusedSimpArgs false
set_option linter.unusedVariables false
namespace Go.Front
open Go.Proofs
section
variable {S:Strm} {α:Type} {t0 t:Tok} {q0 q:S.Pos} {nd:List Node} {d:Nat} {m:List UInt8} {st:PS S} {r:α × PS S}
end
def p1:List UInt8:=[105,110,116,32,102,40,41,123,114,101,116,117,114,110,32]
def p2:List UInt8:=[105,110,116,32,102,40,41,123,114,101,116,117,114,110,32,40]
end Go.Front
namespace Go.Front
open Go.AM Go.Proofs
theorem Wp.le' {Q:Post} {F G:Fu → Out} (hl:∀ u,Le (F u) (G u)) (h:Wp Q F):Wp Q G:=h.le hl
section
variable {Q:Post} {σ σ0:St} {s:List UInt8}
end
end Go.Front
namespace Go.Front
open Go.AM Go.Proofs
noncomputable abbrev L9 (n:Nat):Leaf:=pt Tryz.prog Lb 9 n
section
variable {Q:Post} {σ σ0:St} {ta tb:Nat} {a b:List Node} {nd:Node}
theorem same9_kids {ks:List Nat} {a1 a5 aa ab:Option (Nat × Nat)} {n2 n6 z4 z8 za zb:Nat} {c3 c7 ca cb:Option Nat} {i10 k1 k2 n1 n3 m1 m2 at1 at2:Int} {s1 s2:List UInt8} (hl:ks.length ≤ 1000000000) (ha:KAt σ (.slice aa ks.length ca za) ks) (hb:KAt σ (.slice ab ks.length cb zb) ks)
  (hk:Wp Q fun u=>f9_j7 (L9 u.n) u.m1 a1 n2 c3 z4 a5 n6 c7 z8 true i10 σ) :
  ∀ (k j:Nat),j + k = ks.length → Wp Q fun u=>f9_l6 (L9 u.n) u.m1 u.m2 a1 n2 c3 z4 a5 n6 c7 z8 true i10 j k1 at1 s1 n1 m1 aa ks.length ca za k2 at2 s2 n3 m2 ab ks.length cb zb σ:=by
 intro k
 induction k with
 | zero=>
  intro j hj
  refine Wp.round2 (F:=fun n q1 q2=>f9_l6 (L9 n) q1 q2 a1 n2 c3 z4 a5 n6 c7 z8 true i10 j k1 at1 s1 n1 m1 aa ks.length ca za k2 at2 s2 n3 m2 ab ks.length cb zb σ) (fun n q1 q2=>f9_l6_e) ?_
  simp only [f9_l6_t]
  exact Wp.neg (by rw [decide_eq_false_iff_not];omega) hk
 | succ k ih=>
  intro j hj
  obtain ⟨x,hx⟩:∃ x,ks[j]? = some x:=⟨ks[j],List.getElem?_eq_getElem (by omega)⟩
  obtain ⟨b1,c1,e1,h1⟩:=ha.kid hx
  obtain ⟨b2,c2,e2,h2⟩:=hb.kid hx
  cases e1;cases e2
  have hw:IntKind.wrap .i64 ((j:Int) + 1) = ((j + 1:Nat):Int):=by rw [wrap64 (by omega) (by omega)];omega
  refine Wp.round2 (F:=fun n q1 q2=>f9_l6 (L9 n) q1 q2 a1 n2 c3 z4 a5 n6 c7 z8 true i10 j k1 at1 s1 n1 m1 (some (b1,0)) ks.length ca 1 k2 at2 s2 n3 m2 (some (b2,0)) ks.length cb 1 σ) (fun n q1 q2=>f9_l6_e) ?_
  simp only [f9_l6_t,derefK_s,szK_s,ldKid h1 hx,ldKid h2 hx,xInt_i,hw,idxK_ok (show (0:Int) ≤ (j:Int) ∧ (j:Int) < (ks.length:Int) from ⟨by omega,by omega⟩)]
  exact Wp.pos (by rw [decide_eq_true_eq];omega) (Wp.neg (by simp) (ih (j + 1) (by omega)))
theorem same9_loop {ca cb:Option Nat} (hsa:Src σ ta a) (hsb:Src σ tb b) (hab:a.map Node.strip = b.map Node.strip) (hl:a.length ≤ 1000000000) (hkl:∀ x ∈ a,x.kids.length ≤ 1000000000) :
  ∀ (k i:Nat),i + k = a.length → Wp (trueQ σ) fun u=>f9_l1 (L9 u.n) u.m1 (some (ta,0)) a.length ca 6 (some (tb,0)) b.length cb 6 true i σ:=by
 have hlab:a.length = b.length:=by have:=congrArg List.length hab;simpa using this
 intro k
 induction k with
 | zero=>
  intro i hi
  refine Wp.round1 (F:=fun n m=>f9_l1 (L9 n) m (some (ta,0)) a.length ca 6 (some (tb,0)) b.length cb 6 true i σ) (fun n m=>f9_l1_e) ?_
  simp only [f9_l1_t]
  refine Wp.neg (by rw [decide_eq_false_iff_not];omega) (Wp.le' (fun u=>f9_j5_e) ?_)
  simp only [f9_j5_t]
  exact Wp.ret ⟨rfl,rfl⟩
 | succ k ih=>
  intro i hi
  obtain ⟨x,hx⟩:∃ x,a[i]? = some x:=⟨a[i],List.getElem?_eq_getElem (by omega)⟩
  obtain ⟨y,hy⟩:∃ y,b[i]? = some y:=⟨b[i],List.getElem?_eq_getElem (by omega)⟩
  have hxy:x.strip = y.strip:=by
   have:=congrArg (fun l=>l[i]?) hab
   simpa [hx,hy] using this
  obtain ⟨e1,e2,e3,e4,e5⟩:=strip_eq hxy
  obtain ⟨kva,hka,_,hna⟩:=hsa.kids hx
  obtain ⟨kvb,hkb,_,hnb⟩:=hsb.kids hy
  obtain ⟨aa,caa,za,rfl⟩:=hka.slice
  obtain ⟨ab,cab,zb,rfl⟩:=hkb.slice
  have hxl:=hkl x (List.mem_of_getElem? hx)
  have hw:IntKind.wrap .i64 ((i:Int) + 1) = ((i + 1:Nat):Int):=by rw [wrap64 (by omega) (by omega)];omega
  refine Wp.round1 (F:=fun n m=>f9_l1 (L9 n) m (some (ta,0)) a.length ca 6 (some (tb,0)) b.length cb 6 true i σ) (fun n m=>f9_l1_e) ?_
  simp only [f9_l1_t,derefK_s,szK_s,hna,hnb,xAgg_a,unC_c,xInt_i,xStr_s,xSl_s,nlC_n,idxK_ok (show (0:Int) ≤ (i:Int) ∧ (i:Int) < (a.length:Int) from ⟨by omega,by omega⟩),idxK_ok (show (0:Int) ≤ (i:Int) ∧ (i:Int) < (b.length:Int) from ⟨by omega,by omega⟩)]
  refine Wp.pos (by rw [decide_eq_true_eq];omega) (Wp.neg (by rw [e1];simp) (Wp.neg (by rw [e2];simp) (Wp.neg (by rw [e3];simp) (Wp.neg (by rw [e4];simp) ?_))))
  rw [← e5] at hkb ⊢
  refine Wp.neg (by simp) (Wp.neg rfl (Wp.le' (fun u=>f9_j4_e) ?_))
  simp only [f9_j4_t]
  have hj7:Wp (trueQ σ) fun u=>f9_j7 (L9 u.n) u.m1 (some (ta,0)) a.length ca 6 (some (tb,0)) b.length cb 6 true i σ:=by
   refine Wp.le' (fun u=>f9_j7_e) ?_
   simp only [f9_j7_t,hw]
   exact ih (i + 1) (by omega)
  have h0:=same9_kids (k1:=x.kind) (at1:=x.at_) (s1:=x.text) (n1:=x.n) (m1:=x.m) (k2:=y.kind) (at2:=y.at_) (s2:=y.text) (n3:=y.n) (m2:=y.m) hxl hka hkb hj7 x.kids.length 0 (by omega)
  rw [show ((0:Nat):Int) = 0 from rfl] at h0
  refine Wp.fresh2 (F:=fun n q1 q2=>f9_l6 (L9 n) q1 q2 (some (ta,0)) a.length ca 6 (some (tb,0)) b.length cb 6 true i 0 x.kind x.at_ x.text x.n x.m aa x.kids.length caa za y.kind y.at_ y.text y.n y.m ab x.kids.length cab zb σ) ?_
  exact h0
theorem same9 {ca cb:Option Nat} (hsa:Src σ ta a) (hsb:Src σ tb b) (hab:a.map Node.strip = b.map Node.strip) (hl:a.length ≤ 1000000000) (hkl:∀ x ∈ a,x.kids.length ≤ 1000000000) :
  Fw Tryz.prog Lb 9 [.slice (some (ta,0)) a.length ca 6,.slice (some (tb,0)) b.length cb 6,.bool true] σ (trueQ σ):=by
 have hlab:a.length = b.length:=by have:=congrArg List.length hab;simpa using this
 refine Fw.enter (fun n=>f9_e) ?_
 simp only [f9_t]
 refine Wp.neg (by rw [hlab];simp) ?_
 have h0:=same9_loop (ca:=ca) (cb:=cb) hsa hsb hab hl hkl a.length 0 (by omega)
 rw [show ((0:Nat):Int) = 0 from rfl] at h0
 exact Wp.fresh1 (F:=fun n m=>f9_l1 (L9 n) m (some (ta,0)) a.length ca 6 (some (tb,0)) b.length cb 6 true 0 σ) h0
end
theorem kids_le {l:List Dc} {len:Nat} (hg:∀ x ∈ l,x.good len) (hl:(allNodes l).length ≤ 4096):∀ x ∈ allNodes l,x.kids.length ≤ 1000000000:=by
 obtain ⟨hfine,_,_⟩:=all_fine l hg
 intro x hx
 obtain ⟨i,hi,hx⟩:=List.getElem_of_mem hx
 obtain ⟨nd,hf⟩:=hfine i (Nat.zero_le _) (by omega)
 have he:nd = x:=by
  have:=hf.at_
  rw [List.getElem?_eq_getElem hi,hx] at this
  exact (Option.some.inj this).symm
 subst he
 have hle:∀ x ∈ nd.kids.reverse,Fof (allFirsts l) x ≤ x:=fun x hx=>by
  obtain ⟨h1,kd,h2,_⟩:=hf.kids x (List.mem_reverse.1 hx)
  obtain ⟨nd',hf'⟩:=hfine x (Nat.zero_le _) (by omega)
  exact hf'.le
 have:=chain_len _ _ _ hf.ch hle
 rw [List.length_reverse] at this
 omega
theorem shape {o:Except Flt (List Node)} {v:AV} {σ σ':St} {len:Nat} (hc:Came len o) (h:parseQ σ o (.ret v) σ') :
  ∃ ad n c z e1 e2,v = .tuple [.slice ad n c z,.int .i64 e1,.int .i64 e2] ∧ ((∃ nd tb,o = .ok nd ∧ e1 = 0 ∧ ad = some (tb,0) ∧ n = nd.length ∧ z = 6 ∧ Src σ' tb nd) ∨ e1 ≠ 0):=by
 obtain ⟨_,h⟩:=h
 cases o with
 | error e=>
  cases h
  exact ⟨_,_,_,_,_,_,rfl,.inr (by rcases hc.2 with h | h <;> rw [h] <;> decide)⟩
 | ok nd=>
  obtain ⟨w,h,hs⟩:=h
  cases h
  obtain ⟨l,rfl,_,_⟩:=hc
  obtain ⟨tb,c,rfl,hs2⟩:=hs.src (by simp [allNodes])
  exact ⟨_,_,_,_,_,_,rfl,.inl ⟨_,tb,rfl,rfl,rfl,rfl,rfl,hs2⟩⟩
end Go.Front
namespace Go.Proofs
open Go.AM
set_option maxHeartbeats 4000000
variable {L:Leaf} {n:Nat} {s1:By} {σ:St}
set_option maxRecDepth 100000
noncomputable def f3_t (_:Leaf) (n:Nat) (s1:By) (σ:St):Out:=
 callT Tryz.prog Lb n 6 [] σ fun v3 σ2=>
 xBool v3 fun b4=>
 callT Tryz.prog Lb n 7 [.str s1] σ2 fun v6 σ5=>
 xTup v6 fun cs7=>
 unC cs7 fun x8 r9=>
 xSl x8 fun a10 n11 c12 z13=>
 unC r9 fun x14 r15=>
 xInt .i64 x14 fun i16=>
 unC r15 fun x17 r18=>
 xInt .i64 x17 fun _=>
 nlC r18 <|
 cond (i16 != (0:Int)) (some (.ret (.bool b4),σ5)) (callT Tryz.prog Lb n 8 [.slice a10 n11 c12 z13] σ5 fun v21 σ20=>
 xTup v21 fun cs22=>
 unC cs22 fun x23 r24=>
 xStr x23 fun s25=>
 unC r24 fun x26 r27=>
 xInt .i64 x26 fun i28=>
 nlC r27 <|
 cond (i28 != (0:Int)) (cond b4 (some (.ret (.bool (i28 == (15:Int))),σ20)) (some (.ret (.bool false),σ20))) (callT Tryz.prog Lb n 7 [.str s25] σ20 fun v30 σ29=>
 xTup v30 fun cs31=>
 unC cs31 fun x32 r33=>
 xSl x32 fun a34 n35 c36 z37=>
 unC r33 fun x38 r39=>
 xInt .i64 x38 fun i40=>
 unC r39 fun x41 r42=>
 xInt .i64 x41 fun _=>
 nlC r42 <|
 callT Tryz.prog Lb n 9 [.slice a10 n11 c12 z13,.slice a34 n35 c36 z37,.bool true] σ29 fun v45 σ44=>
 xBool v45 fun b46=>
 callT Tryz.prog Lb n 8 [.slice a34 n35 c36 z37] σ44 fun v48 σ47=>
 xTup v48 fun cs49=>
 unC cs49 fun x50 r51=>
 xStr x50 fun s52=>
 unC r51 fun x53 r54=>
 xInt .i64 x53 fun i55=>
 nlC r54 <|
 cond b4 (cond (i40 == (0:Int)) (cond b46 (cond (i55 == (0:Int)) (some (.ret (.bool (s52 == s25)),σ47)) (some (.ret (.bool false),σ47))) (some (.ret (.bool false),σ47))) (some (.ret (.bool false),σ47))) (some (.ret (.bool false),σ47))))
theorem f3_g:goT Tryz.prog Lb 3 n L [] [] [] ⟨tm 68 [(0,.v (.str s1))] 0,[],[]⟩ σ = f3_t L n s1 σ:=by kernel_rfl
theorem f3_e:Le (f3_t (pt Tryz.prog Lb 3 n) n s1 σ) (callP Tryz.prog Lb (n + 1) 3 [.str s1] σ):=
 goT_call f3_g rfl (by kernel_rfl) (by kernel_rfl)
end Go.Proofs

/- expr: an expression is written. -/
import Derived.Test.YtlbieeajocjpeaaGreatDoorWk12
set_option linter.unusedSimpArgs false
set_option linter.unusedVariables false
namespace Go.Front
open Go.AM Go.Proofs
def QuoteS:Prop:=∀ (σ:St) (s:List UInt8),Kn σ → textOk s → Fw Tryz.prog Lb 91 [.str s] σ fun r σ'=>r = .ret (.str (quoteS s)) ∧ Up σ σ'
theorem Ex.flats_sub {t:List Node}:∀ (l:List Ex) (b:Nat),Seg t b (Ex.flats b l) → ∀ (j:Nat) (x:Ex),l[j]? = some x → ∃ bj,Seg t bj (x.flat bj) ∧ (Ex.roots b l)[j]? = some (bj + x.size - 1)
 | [],b,h,j,x,hj=>by simp at hj
 | y :: l,b,h,0,x,hj=>by
  simp only [List.getElem?_cons_zero,Option.some.injEq] at hj;subst hj
  exact ⟨b,h.app.1,rfl⟩
 | y :: l,b,h,j + 1,x,hj=>by
  rw [List.getElem?_cons_succ] at hj
  have h2:=h.app.2
  rw [Ex.flat_len] at h2
  obtain ⟨bj,h3,h4⟩:=Ex.flats_sub l (b + y.size) h2 j x hj
  exact ⟨bj,h3,by simp only [Ex.roots,List.getElem?_cons_succ];exact h4⟩
theorem Ex.sizes_mem:∀ {l:List Ex} {x:Ex},x ∈ l → x.size ≤ Ex.sizes l
 | y :: l,x,h=>by
  cases h with
  | head=>simp [Ex.sizes]
  | tail _ h=>have:=Ex.sizes_mem h;simp [Ex.sizes];omega
theorem Ex.roots_len:∀ (l:List Ex) (b:Nat),(Ex.roots b l).length = l.length
 | [],b=>rfl
 | x :: l,b=>by simp [Ex.roots,Ex.roots_len l]
theorem Ex.sizes_len:∀ (l:List Ex),l.length ≤ Ex.sizes l
 | []=>by simp [Ex.sizes]
 | x :: l=>by have:=Ex.sizes_len l;have:=Ex.size_pos x;simp [Ex.sizes];omega
theorem rootGet {t:List Node} {e:Ex} {b:Nat} (h:Seg t b (e.flat b)):t[b + e.size - 1]? = some (e.root b):=by
 have:=h _ _ (Ex.flat_root e b)
 have hp:=Ex.size_pos e
 rwa [show b + (e.size - 1) = b + e.size - 1 from by omega] at this
section
variable {σ0:St} {w tb:Nat} {t:List Node} {c2:Option Nat}
theorem format_wp {Q:Post} {σ:St} (hk:Kn σ) {n:Int} (hn:-9223372036854775808 ≤ n ∧ n ≤ 9223372036854775807) {K:Fu → AV → Out} (h:Wp Q fun u=>K u (.str (Lib.itoa n))) :
  Wp Q fun u=>callQ Tryz.prog Lb u.n 39 [.int .i64 n,.int .i64 10] σ (K u):=by
 obtain ⟨N,r,σ',h1,h2⟩:=h
 refine ⟨N + 1,r,σ',h1,fun u hu=>?_⟩
 show pureK (callP Tryz.prog Lb u.n) 39 _ σ (K u) = _
 unfold pureK
 rw [hk.pow]
 simp only
 obtain ⟨m,hm⟩:∃ m,u.n = m + 1:=⟨u.n - 1,by have:=hu.1;omega⟩
 have hc:callP Tryz.prog Lb u.n 39 [.int .i64 n,.int .i64 10] [.dead,.know 4 KPow] = some (.ret (.str (Lib.itoa n)),[.dead,.know 4 KPow]):=by
  rw [hm]
  refine callP_lib ?_
  simp only [Lb,lbFormatInt]
  exact if_pos ⟨rfl,rfl,hn⟩
 rw [hc]
 simp only
 rw [if_pos ⟨rfl,rfl⟩]
 exact h2 u (hu.mono (by omega))
theorem keeps_same {Q:Post} {F:Fu → Out} {l:List (St × St × Nat)} (hl:∀ p ∈ l,p.1 = p.2.1) (h:Wp Q F):Wp Q fun u=>keepsK l (F u):=
 Wp.keeps (fun p hp=>by rw [hl p hp]) h
theorem expr_fn (hs:Src σ0 tb t) (htl:t.length ≤ 4096) (len:Nat):∀ (N:Nat) (e:Ex) (b:Nat),e.size ≤ N → e.good len → Seg t b (e.flat b) → (e.hasText = true → QuoteS) → ExS σ0 w (.slice (some (tb,0)) t.length c2 6) e (b + e.size - 1):=by
 intro N
 induction N with
 | zero=>intro e b hN;have:=Ex.size_pos e;omega
 | succ N ih=>
  intro e b hN hg hseg hq fr σ l h hl
  refine Fw.enter (fun n=>f66_e) ?_
  have hroot:=rootGet hseg
  have hxl:=(List.getElem?_eq_some_iff.1 hroot).1
  have hsize:=Ex.size_pos e
  obtain ⟨kv,hkv,hload⟩:=hs.kidsU hroot
  have l1 (x:AObj):(σ ++ [x]).length = σ.length + 1:=by simp
  have l2 (x y:AObj):(σ ++ [x] ++ [y]).length = σ.length + 2:=by simp
  have hA:(AObj.cells [AV.ptr (some (w,0))] (.rw (.box 51))) = boxA w:=rfl
  have h1:=h.newBlock (boxA w)
  have hld1 (f:AV → Out):ldK Tryz.prog 51 (σ ++ [boxA w]) σ.length 0 f = f (.ptr (some (w,0))):=
   ldc (cs:=[.ptr (some (w,0))]) (by unfold cellsAt;rw [List.getElem?_append_right (Nat.le_refl _)];simp [boxA]) agg51 rfl
  obtain ⟨_,hnode⟩:=hload _ h1.up
  obtain ⟨ka,kc,kz,hke⟩:=hkv.slice
  have stB (f:St → Out):stK (σ ++ [boxA w] ++ [AObj.cells [.int .i64 (0:Int),.int .i64 (0:Int),.str [],.int .i64 (0:Int),.int .i64 (0:Int),.slice none 0 (some 0) 0] (.rw (.box 34))]) (σ.length + 1) 0 (nodeC (e.root b) kv) f = f (σ ++ [boxA w] ++ [boxB (e.root b) kv]):=by
   have:=stNew (τ:=σ ++ [boxA w]) (cs:=[.int .i64 (0:Int),.int .i64 (0:Int),.str [],.int .i64 (0:Int),.int .i64 (0:Int),.slice none 0 (some 0) 0]) (ys:=nodeC (e.root b) kv) (m:=.box 34) (f:=f) rfl
   rw [l1] at this;exact this
  have stC (f:St → Out):stK (σ ++ [boxA w] ++ [boxB (e.root b) kv] ++ [AObj.cells [.nilFunc] (.rw (.box 95))]) (σ.length + 2) 0 [.func (.func 90) [] [.ptr (some (σ.length,0)),.ptr (some (σ.length + 1,0))]] f = f (σ ++ [boxA w] ++ [boxB (e.root b) kv] ++ [boxC σ.length]):=by
   have:=stNew (τ:=σ ++ [boxA w] ++ [boxB (e.root b) kv]) (cs:=[.nilFunc]) (ys:=[.func (.func 90) [] [.ptr (some (σ.length,0)),.ptr (some (σ.length + 1,0))]]) (m:=.box 95) (f:=f) rfl
   rw [l2] at this;exact this
  unfold nodeC at stB
  rw [hke] at stB stC
  simp only [f66_t,hA,l1,hld1,xPtr_p,derefK_s,h1.tree,xSl_s,szK_s,idxK_ok (show (0:Int) ≤ ((b + e.size - 1:Nat):Int) ∧ ((b + e.size - 1:Nat):Int) < (t.length:Int) from ⟨by omega,by omega⟩),hnode,xAgg_a,unC_c,xInt_i,xStr_s,nlC_n,hke,stB,l2,stC]
  rw [← hke]
  have h2:=(h1.newBlock (boxB (e.root b) kv)).newBlock (boxC σ.length)
  rw [l1,l2] at h2
  -- back to the frame that was
  have back {τ:St} {l':List UInt8} (hp:Pw σ0 (ins (ins (ins fr σ.length (boxA w)) (σ.length + 1) (boxB (e.root b) kv)) (σ.length + 2) (boxC σ.length)) τ w (.slice (some (tb,0)) t.length c2 6) l'):Pw σ0 fr τ w (.slice (some (tb,0)) t.length c2 6) l':=by
   have f0:=h.fnone (Nat.le_refl σ.length)
   have f1:=h.fnone (show σ.length ≤ σ.length + 1 by omega)
   have f2:=h.fnone (show σ.length ≤ σ.length + 2 by omega)
   have b1:∀ x o,σ0[x]? = some o → ins fr σ.length (boxA w) x = some o:=fun x o hx=>ins_le f0 (h.base x o hx)
   have g1:ins fr σ.length (boxA w) (σ.length + 1) = none:=by rw [ins_ne (by omega)];exact f1
   have b2:∀ x o,σ0[x]? = some o → ins (ins fr σ.length (boxA w)) (σ.length + 1) (boxB (e.root b) kv) x = some o:=fun x o hx=>ins_le g1 (b1 x o hx)
   have g2:ins (ins fr σ.length (boxA w)) (σ.length + 1) (boxB (e.root b) kv) (σ.length + 2) = none:=by rw [ins_ne (by omega),ins_ne (by omega)];exact f2
   exact ((hp.weak g2 b2).weak g1 b1).weak f0 h.base
  have box {τ:St} {l':List UInt8} (hp:Pw σ0 (ins (ins (ins fr σ.length (boxA w)) (σ.length + 1) (boxB (e.root b) kv)) (σ.length + 2) (boxC σ.length)) τ w (.slice (some (tb,0)) t.length c2 6) l'):Box τ σ.length w (e.root b) kv:=
   ⟨hp.keep _ _ (by rw [ins_ne (by omega),ins_ne (by omega),ins_self]),hp.keep _ _ (by rw [ins_ne (by omega),ins_self]),hp.keep _ _ ins_self⟩
  generalize ins (ins (ins fr σ.length (boxA w)) (σ.length + 1) (boxB (e.root b) kv)) (σ.length + 2) (boxC σ.length) = fr3 at *
  generalize σ ++ [boxA w] ++ [boxB (e.root b) kv] ++ [boxC σ.length] = σ3 at *
  clear stB stC hnode hld1 h1
  have hb3:=box h2
  generalize σ.length = n0 at *
  refine Wp.mono (Q:=PwQ σ0 fr3 w (.slice (some (tb,0)) t.length c2 6) (l ++ e.pr)) ?_ fun r σ' hr=>⟨hr.1,back hr.2⟩
  simp only [hb3.ldK0,xInt_i]
  cases e with
  | num a n=>
   refine Wp.pos rfl ?_
   simp only [hb3.ldW,hb3.ldN,xPtr_p,xInt_i]
   obtain ⟨_,hn1,hn2⟩:=hg
   refine format_wp (h2.kn.up h2.up) (n:=n) (by omega) ?_
   simp only [xStr_s]
   refine Wp.keeps (by intro p hp;simp at hp;subst hp;exact List.getElem?_append_left (lt_of hb3.a)) ?_
   exact h2.putd [Lib.itoa n] rfl rfl rfl (by simp) (by simpa [Ex.pr] using hl) fun σ' h3=>Wp.ret ⟨rfl,by simpa [Ex.pr] using h3⟩
  | text a s=>
   refine Wp.neg rfl (Wp.pos rfl ?_)
   simp only [hb3.ldW,hb3.ldT,xPtr_p,xStr_s]
   refine Wp.calld (hq rfl σ3 s (h2.kn.up h2.up) hg.2) (fun v σ' hv=>?_) fun v σ' hv=>by cases hv.1
   obtain ⟨hv,hu⟩:=hv
   cases hv
   have h3:=h2.grow hu
   have hb':=box h3
   simp only [xStr_s]
   refine Wp.keeps (by intro p hp;simp at hp;subst hp;rw [hb'.a,hb3.a]) (Wp.keeps (by intro p hp;simp at hp;subst hp;exact List.getElem?_append_left (lt_of hb'.a)) ?_)
   exact h3.putd [quoteS s] rfl rfl rfl (by simp) (by simpa [Ex.pr] using hl) fun σ' h3=>Wp.ret ⟨rfl,by simpa [Ex.pr] using h3⟩
  | name a s=>
   refine Wp.neg rfl (Wp.neg rfl (Wp.pos rfl ?_))
   simp only [hb3.ldW,hb3.ldT,xPtr_p,xStr_s]
   exact h2.put [s] rfl rfl rfl (by simp) (by simpa [Ex.pr] using hl) fun σ' h3=>Wp.ret ⟨rfl,by simpa [Ex.pr] using h3⟩
  | call a s args=>
   refine Wp.neg rfl (Wp.neg rfl (Wp.neg rfl (Wp.pos rfl ?_)))
   simp only [hb3.ldW,hb3.ldT,xPtr_p,xStr_s]
   have hpr:(Ex.call a s args).pr = [s,[40]].flatMap putS ++ joinC (Ex.prs args) ++ [[41]].flatMap putS:=by simp [Ex.pr]
   rw [hpr,← List.append_assoc,← List.append_assoc] at hl ⊢
   refine h2.put [s,[40]] rfl rfl rfl (by simp) (by simp only [List.length_append] at hl ⊢;omega) fun σ4 h4=>?_
   have hb4:=box h4
   simp only [hb4.ldW,hb4.ldKids,xPtr_p,hke,xSl_s]
   rw [← hke]
   have hsz:Ex.sizes args ≤ N:=by simp only [Ex.size] at hN;omega
   have hcommas:=commas_fn (f:=66) (ks:=Ex.roots b args) (outs:=Ex.prs args) (σ0:=σ0) (fr:=fr3) (w:=w) (tv:=.slice (some (tb,0)) t.length c2 6) (by rw [Ex.prs_map,List.length_map,Ex.roots_len]) (by rw [Ex.roots_len];have:=Ex.sizes_len args;simp only [Ex.size] at hxl;omega) hkv.kp (fun j k out hk ho fr' σ' l' hp hl'=>by
    rw [Ex.prs_map,List.getElem?_map] at ho
    obtain ⟨x,hx,rfl⟩:=Option.map_eq_some_iff.1 ho
    obtain ⟨bj,hseg',hr⟩:=Ex.flats_sub args b hseg.app.1 j x hx
    rw [hr] at hk
    cases hk
    have hxm:=List.mem_of_getElem? hx
    exact ih x bj (by have:=Ex.sizes_mem hxm;omega) (Ex.goods_all hg.2.2 x hxm).1 hseg' (fun ht=>hq (Ex.haveText_mem hxm ht)) fr' σ' l' hp hl') h4 (by simp only [List.length_append] at hl ⊢;omega)
   refine Wp.call hcommas (fun v σ5 hv=>?_) fun v σ' hv=>by cases hv.1
   have h5:=hv.2
   have hb5:=box h5
   simp only [hb5.ldW,xPtr_p]
   exact h5.put [[41]] rfl rfl rfl (by simp) hl fun σ' h6=>Wp.ret ⟨rfl,h6⟩
  | index x i=>
   refine Wp.neg rfl (Wp.neg rfl (Wp.neg rfl (Wp.neg rfl (Wp.pos rfl ?_))))
   have hk0:((Ex.index x i).root b).kids[0]? = some (b + x.size - 1):=rfl
   have hk1:((Ex.index x i).root b).kids[1]? = some (b + x.size + i.size - 1):=rfl
   have hsx:Seg t b (x.flat b):=hseg.app.1.app.1
   have hsi:Seg t (b + x.size) (i.flat (b + x.size)):=by have:=hseg.app.1.app.2;rwa [Ex.flat_len] at this
   have hX:=ih x b (by simp only [Ex.size] at hN;omega) hg.1 hsx fun ht=>hq (by simp [Ex.hasText,ht])
   have hI:=ih i (b + x.size) (by simp only [Ex.size] at hN;omega) hg.2.1 hsi fun ht=>hq (by simp [Ex.hasText,ht])
   obtain ⟨kb,kc',hkv2,hbl⟩:=hkv.kid hk0
   have hpr:(Ex.index x i).pr = brack x.isUB x.pr ++ [[91]].flatMap putS ++ i.pr ++ [[93]].flatMap putS:=by simp [Ex.pr]
   rw [hpr,← List.append_assoc,← List.append_assoc,← List.append_assoc] at hl ⊢
   have hz:=rootGet hsx
   have hkl:=h2.up.cells hbl
   have hlen:((Ex.index x i).root b).kids.length = 2:=rfl
   have i0 (z:Out):idxK (0:Int) ((Ex.index x i).root b).kids.length z = z:=idxK_ok ⟨by omega,by rw [hlen];decide⟩
   have i1 (z:Out):idxK (1:Int) ((Ex.index x i).root b).kids.length z = z:=idxK_ok ⟨by omega,by rw [hlen];decide⟩
   simp only [hb3.ldW,hb3.ldKids,hb3.ldF,xPtr_p,hkv2,xSl_s,derefK_s,szK_s,i0,ldKid0 hkl hk0,xInt_i]
   have fin {τ:St} (h4:Pw σ0 fr3 τ w (.slice (some (tb,0)) t.length c2 6) (l ++ brack x.isUB x.pr)) :
     Wp (PwQ σ0 fr3 w (.slice (some (tb,0)) t.length c2 6) (l ++ brack x.isUB x.pr ++ [[91]].flatMap putS ++ i.pr ++ [[93]].flatMap putS)) fun u=>f66_j1 (pt Tryz.prog Lb 66 u.n) n0 0 (n0 + 1) 0 τ:=by
    refine Wp.le (F:=fun u=>f66_j1_t (pt Tryz.prog Lb 66 u.n) u.n n0 0 (n0 + 1) 0 τ) ?_ fun u=>f66_j1_e
    have hb4:=box h4
    simp only [f66_j1_t,hb4.ldW,xPtr_p]
    refine h4.put [[91]] rfl rfl rfl (by simp) (by simp only [List.length_append] at hl ⊢;omega) fun σ5 h5=>?_
    have hb5:=box h5
    simp only [hb5.ldW,hb5.ldKids',xPtr_p,hkv2,xSl_s,derefK_s,szK_s,i1,ldKid1 (h5.up.cells hbl) hk1,xInt_i]
    refine Wp.calld (hI _ _ _ h5 (by simp only [List.length_append] at hl ⊢;omega)) (fun v σ6 hv=>?_) fun v σ' hv=>by cases hv.1
    have h6:=hv.2
    have hb6:=box h6
    simp only [hb6.ldW,xPtr_p]
    exact h6.put [[93]] rfl rfl rfl (by simp) hl fun σ7 h7=>Wp.ret ⟨rfl,h7⟩
   rw [hkv2] at hkv hb3 box
   refine Wp.callfd (Wp.calld (kind_cl (i:=0) h2 hb3 hkv hs hk0 hz) (fun v σ4 hv=>?_) fun v σ' hv=>by cases hv.1)
   obtain ⟨hv,rfl⟩:=hv
   cases hv
   simp only [xInt_i]
   refine keeps_same (by intro p hp;simp only [List.mem_cons,List.not_mem_nil,or_false] at hp;rcases hp with rfl | rfl | rfl <;> rfl) ?_
   have hub:=Ex.root_ub x b
   refine Wp.ite (fun h6=>?_) fun h6=>?_
   ·have h6:(x.root b).kind = 6:=by simpa using h6
    have hubt:x.isUB = true:=hub.1 (.inl h6)
    refine keeps_same (by intro p hp;simp only [List.mem_cons,List.not_mem_nil,or_false] at hp;rcases hp with rfl | rfl | rfl <;> rfl) ?_
    rw [hubt] at fin hl ⊢
    refine Wp.calld (within_fn (is:=true) hX h2 (by simp only [List.length_append] at hl ⊢;omega)) (fun v σ5 hv=>?_) fun v σ' hv=>by cases hv.1
    exact fin hv.2
   ·have h6:¬ (x.root b).kind = 6:=by simpa using h6
    simp only [hb3.ldF]
    refine Wp.callfd (Wp.calld (kind_cl (i:=0) h2 hb3 hkv hs hk0 hz) (fun v σ5 hv=>?_) fun v σ' hv=>by cases hv.1)
    obtain ⟨hv,rfl⟩:=hv
    cases hv
    simp only [xInt_i]
    refine keeps_same (by intro p hp;simp only [List.mem_cons,List.not_mem_nil,or_false] at hp;rcases hp with rfl | rfl | rfl <;> rfl) ?_
    have hubt:x.isUB = ((x.root b).kind == 7):=by
     rw [Bool.eq_iff_iff,← hub]
     simp only [beq_iff_eq]
     exact ⟨fun h=>by rcases h with h | h;exact absurd h h6;exact h,.inr⟩
    rw [hubt] at fin hl ⊢
    refine Wp.calld (within_fn (is:=(x.root b).kind == 7) hX h2 (by simp only [List.length_append] at hl ⊢;omega)) (fun v σ5 hv=>?_) fun v σ' hv=>by cases hv.1
    exact fin hv.2
  | un a op x=>
   refine Wp.neg rfl (Wp.neg rfl (Wp.neg rfl (Wp.neg rfl (Wp.neg rfl (Wp.pos rfl ?_)))))
   have hk0:((Ex.un a op x).root b).kids[0]? = some (b + x.size - 1):=rfl
   have hsx:Seg t b (x.flat b):=hseg.app.1
   have hX:=ih x b (by simp only [Ex.size] at hN;omega) hg.2.1 hsx fun ht=>hq (by simp [Ex.hasText,ht])
   obtain ⟨kb,kc',hkv2,hbl⟩:=hkv.kid hk0
   have hpr:(Ex.un a op x).pr = [opName op].flatMap putS ++ brack x.isBin x.pr:=by simp [Ex.pr]
   rw [hpr,← List.append_assoc] at hl ⊢
   have hz:=rootGet hsx
   have hlen:((Ex.un a op x).root b).kids.length = 1:=rfl
   have i0 (z:Out):idxK (0:Int) ((Ex.un a op x).root b).kids.length z = z:=idxK_ok ⟨by omega,by rw [hlen];decide⟩
   have hnn:((Ex.un a op x).root b).n = (op:Int):=rfl
   simp only [hb3.ldW,hb3.ldN,xPtr_p,xInt_i,hnn]
   refine Wp.calld (op_fn (h2.kn.up h2.up) hg.2.2.2.1 (by have:=hg.2.2.2.2;omega)) (fun v σ4 hv=>?_) fun v σ' hv=>by cases hv.1
   obtain ⟨hv,rfl⟩:=hv
   cases hv
   have h3:=h2.grow (Up.app [.cells (opNames.map .str) .ro])
   have hb':=box h3
   simp only [xStr_s]
   refine Wp.keeps (by intro p hp;simp at hp;subst hp;rw [hb'.a,hb3.a]) (Wp.keeps (by intro p hp;simp only [List.mem_cons,List.not_mem_nil,or_false] at hp;subst hp;exact List.getElem?_append_left (lt_of hb'.a)) ?_)
   refine h3.putd [opName op] rfl rfl rfl (by simp) (by simp only [List.length_append] at hl ⊢;omega) fun σ5 h5=>?_
   have hb5:=box h5
   simp only [hb5.ldW,hb5.ldKids,hb5.ldF,xPtr_p,hkv2,xSl_s,derefK_s,szK_s,i0,ldKid0 (h5.up.cells hbl) hk0,xInt_i]
   rw [hkv2] at hkv hb5
   refine Wp.callfd (Wp.calld (kind_cl (i:=0) h5 hb5 hkv hs hk0 hz) (fun v σ6 hv=>?_) fun v σ' hv=>by cases hv.1)
   obtain ⟨hv,rfl⟩:=hv
   cases hv
   simp only [xInt_i]
   refine keeps_same (by intro p hp;simp only [List.mem_cons,List.not_mem_nil,or_false] at hp;rcases hp with rfl | rfl | rfl <;> rfl) ?_
   have hbt:x.isBin = ((x.root b).kind == 7):=by
    rw [Bool.eq_iff_iff,← Ex.root_bin x b];simp
   rw [hbt] at hl ⊢
   refine Wp.calld (within_fn (is:=(x.root b).kind == 7) hX h5 hl) (fun v σ7 hv=>?_) fun v σ' hv=>by cases hv.1
   exact Wp.ret ⟨rfl,hv.2⟩
  | bin op x y=>
   refine Wp.neg rfl (Wp.neg rfl (Wp.neg rfl (Wp.neg rfl (Wp.neg rfl (Wp.neg rfl (Wp.pos rfl ?_))))))
   have hk0:((Ex.bin op x y).root b).kids[0]? = some (b + x.size - 1):=rfl
   have hk1:((Ex.bin op x y).root b).kids[1]? = some (b + x.size + y.size - 1):=rfl
   have hsx:Seg t b (x.flat b):=hseg.app.1.app.1
   have hsy:Seg t (b + x.size) (y.flat (b + x.size)):=by have:=hseg.app.1.app.2;rwa [Ex.flat_len] at this
   have hX:=ih x b (by simp only [Ex.size] at hN;omega) hg.1 hsx fun ht=>hq (by simp [Ex.hasText,ht])
   have hY:=ih y (b + x.size) (by simp only [Ex.size] at hN;omega) hg.2.1 hsy fun ht=>hq (by simp [Ex.hasText,ht])
   obtain ⟨kb,kc',hkv2,hbl⟩:=hkv.kid hk0
   have hpr:(Ex.bin op x y).pr = brack (decide (x.lv < level op)) x.pr ++ [opName op].flatMap putS ++ brack (decide (y.lv ≤ level op)) y.pr:=by simp [Ex.pr]
   rw [hpr,← List.append_assoc,← List.append_assoc] at hl ⊢
   have hzx:=rootGet hsx
   have hzy:=rootGet hsy
   have hlen:((Ex.bin op x y).root b).kids.length = 2:=rfl
   have i0 (z:Out):idxK (0:Int) ((Ex.bin op x y).root b).kids.length z = z:=idxK_ok ⟨by omega,by rw [hlen];decide⟩
   have i1 (z:Out):idxK (1:Int) ((Ex.bin op x y).root b).kids.length z = z:=idxK_ok ⟨by omega,by rw [hlen];decide⟩
   have hnn:((Ex.bin op x y).root b).n = (op:Int):=rfl
   have dlt (a c:Nat):decide ((a:Int) < (c:Int)) = decide (a < c):=by rw [decide_eq_decide];omega
   have dle (a c:Nat):decide ((a:Int) ≤ (c:Int)) = decide (a ≤ c):=by rw [decide_eq_decide];omega
   have hkl:=h2.up.cells hbl
   rw [hkv2] at hkv
   have hb3':=hb3
   rw [hkv2] at hb3'
   simp only [hb3.ldW,hb3.ldKids,xPtr_p,hkv2,xSl_s,derefK_s,szK_s,i0,ldKid0 hkl hk0,xInt_i]
   refine Wp.calld (level_cl (i:=0) h2 hb3' hkv hs hk0 hzx) (fun v σ4 hv=>?_) fun v σ' hv=>by cases hv.1
   obtain ⟨hv,rfl⟩:=hv
   cases hv
   simp only [xInt_i]
   refine keeps_same (by intro p hp;simp only [List.mem_cons,List.not_mem_nil,or_false] at hp;rcases hp with rfl | rfl | rfl <;> rfl) ?_
   simp only [hb3.ldN,xInt_i,hnn]
   refine keeps_same (by intro p hp;simp only [List.mem_cons,List.not_mem_nil,or_false] at hp;subst hp;rfl) ?_
   refine Wp.calld (level_fn op) (fun v σ4 hv=>?_) fun v σ' hv=>by cases hv.1
   obtain ⟨hv,rfl⟩:=hv
   cases hv
   simp only [xInt_i]
   refine keeps_same (by intro p hp;simp only [List.mem_cons,List.not_mem_nil,or_false] at hp;rcases hp with rfl | rfl | rfl <;> rfl) ?_
   rw [dlt]
   refine Wp.calld (within_fn (is:=decide (x.lv < level op)) hX h2 (by simp only [List.length_append] at hl ⊢;omega)) (fun v σ5 hv=>?_) fun v σ' hv=>by cases hv.1
   have h5:=hv.2
   have hb5:=box h5
   simp only [hb5.ldW,hb5.ldN,xPtr_p,xInt_i,hnn]
   refine Wp.calld (op_fn (h5.kn.up h5.up) (by have:=hg.2.2.2.1;omega) hg.2.2.2.2) (fun v σ6 hv=>?_) fun v σ' hv=>by cases hv.1
   obtain ⟨hv,rfl⟩:=hv
   cases hv
   have h6:=h5.grow (Up.app [.cells (opNames.map .str) .ro])
   have hb6:=box h6
   simp only [xStr_s]
   refine Wp.keeps (by intro p hp;simp at hp;subst hp;rw [hb6.a,hb5.a]) (Wp.keeps (by intro p hp;simp only [List.mem_cons,List.not_mem_nil,or_false] at hp;subst hp;exact List.getElem?_append_left (lt_of hb6.a)) ?_)
   refine h6.putd [opName op] rfl rfl rfl (by simp) (by simp only [List.length_append] at hl ⊢;omega) fun σ7 h7=>?_
   have hb7:=box h7
   have hb7':=hb7
   rw [hkv2] at hb7'
   simp only [hb7.ldW,hb7.ldKids,xPtr_p,hkv2,xSl_s,derefK_s,szK_s,i1,ldKid1 (h7.up.cells hbl) hk1,xInt_i]
   refine Wp.calld (level_cl (i:=1) h7 hb7' hkv hs hk1 hzy) (fun v σ8 hv=>?_) fun v σ' hv=>by cases hv.1
   obtain ⟨hv,rfl⟩:=hv
   cases hv
   simp only [xInt_i]
   refine keeps_same (by intro p hp;simp only [List.mem_cons,List.not_mem_nil,or_false] at hp;rcases hp with rfl | rfl | rfl <;> rfl) ?_
   simp only [hb7.ldN,xInt_i,hnn]
   refine keeps_same (by intro p hp;simp only [List.mem_cons,List.not_mem_nil,or_false] at hp;subst hp;rfl) ?_
   refine Wp.calld (level_fn op) (fun v σ9 hv=>?_) fun v σ' hv=>by cases hv.1
   obtain ⟨hv,rfl⟩:=hv
   cases hv
   simp only [xInt_i]
   refine keeps_same (by intro p hp;simp only [List.mem_cons,List.not_mem_nil,or_false] at hp;rcases hp with rfl | rfl | rfl <;> rfl) ?_
   rw [dle]
   refine Wp.calld (within_fn (is:=decide (y.lv ≤ level op)) hY h7 hl) (fun v σ9 hv=>?_) fun v σ' hv=>by cases hv.1
   exact Wp.ret ⟨rfl,hv.2⟩
end
end Go.Front

/- Statements and declarations: the plain parser ends, and what it answers is a tree. -/
import Derived.Test.YtlbieeajocjpeaaGreatDoorTr
set_option linter.unusedSimpArgs false
set_option linter.unusedVariables false
namespace Go.Front
section
variable {S:Strm} {len:Nat} {K:StrmOk S len} {α β γ:Type} {st st1 st2 st3:PS S}
structure GotS (K:StrmOk S len) (st:PS S) (e:Sm) (a:Nat) (st':PS S):Prop where
 mv:Mv K st st' (e.flat st.nodes.length) 1
 at_:a + 1 = st.nodes.length + e.size
 good:e.good len
 ge:st.tok.at_ ≤ e.at_
 lt:e.at_ < st'.tok.at_
 dep:e.dep + st.deep ≤ 40
 els:e.open = true → isB st'.tok [101,108,115,101] = false
def SmIH (K:StrmOk S len) (r:Nat) (sm:PM S Nat):Prop:=∀ st:PS S,R K st ≤ r → Inv K st → Tr len sm st fun a st'=>∃ e,GotS K st e a st'
theorem Ex.isPlace_kind {e:Ex} (b:Nat) (h:(e.root b).kind = 3 ∨ (e.root b).kind = 5):e.isPlace = true:=by
 cases e <;> simp [Ex.root,Ex.isPlace] at h ⊢
structure GotI (K:StrmOk S len) (st:PS S) (e:Sm) (a:Nat) (st':PS S):Prop where
 mv:Mv K st st' (e.flat st.nodes.length) 1
 at_:a + 1 = st.nodes.length + e.size
 good:e.good len
 ge:st.tok.at_ ≤ e.at_
 lt:e.at_ < st'.tok.at_
 dep:e.dep + st.deep ≤ 41
 els:e.open = true → isB st'.tok [101,108,115,101] = false
theorem block_tr {sm:PM S Nat} {r n:Nat} (hsm:SmIH K r sm) (hr:R K st ≤ r + 1) (hn:R K st ≤ n) (hi:Inv K st) :
  Tr len (blockP sm n) st fun a st'=>∃ l,Mv K st st' ((Sm.block st.tok.at_ l).flat st.nodes.length) 1 ∧ a + 1 = st.nodes.length + Sm.sizes l + 1 ∧ st.tok.at_ < len ∧ Sm.goods len st.tok.at_ l ∧ Sm.deps l + st.deep ≤ 40:=by
 unfold blockP
 refine .bind (.tok (.bind (.must hi fun st1 hb m1=>?_)))
 have ha:=(hi.lo (isB_kind hb)).2
 have hr1:=m1.less
 have hn1:st1.nodes.length = st.nodes.length:=by rw [m1.nlen];simp
 refine .bind (Tr.mono (Q:=fun acc st2=>(∃ l,Mv K st st2 (Sm.flats st.nodes.length l) 1 ∧ acc = Sm.roots st.nodes.length l ∧ Sm.goods len st.tok.at_ l ∧ Sm.deps l + st.deep ≤ 40) ∧ isB st2.tok [125] = true) ?_ fun acc st2 ⟨⟨l,h1,h2,h3,h4⟩,hb2⟩=>?_)
 ·refine Tr.loop (K:=K) (fun acc st2=>R K st2 ≤ r ∧ ∃ l,Mv K st st2 (Sm.flats st.nodes.length l) 1 ∧ acc = Sm.roots st.nodes.length l ∧ Sm.goods len st.tok.at_ l ∧ Sm.deps l + st.deep ≤ 40) ?_ n (by omega) ⟨by omega,[],m1,rfl,trivial,by simp [Sm.deps];exact hi.deep⟩
  intro acc st2 ⟨hr2,l,h1,h2,h3,h4⟩
  unfold blockB
  refine .bind (.is ?_)
  cases hb2:isB st2.tok [125] with
  | true=>exact .pure ⟨⟨l,h1,h2,h3,h4⟩,hb2⟩
  | false=>
   simp only [Bool.false_eq_true,if_false]
   refine .bind ((hsm st2 hr2 h1.inv).mono fun a st3 ⟨e,hg⟩=>?_)
   have hn2:st2.nodes.length = st.nodes.length + Sm.sizes l:=by rw [h1.nlen,Sm.flats_len]
   have hl:=hg.mv.less
   refine .pure ⟨⟨by omega,l ++ [e],(h1.trans hg.mv).cast (by rw [Sm.flats_app,hn2]) (by omega),?_,Sm.goods_app h3 hg.good (by have:=h1.at_;have:=hg.ge;omega),?_⟩,by omega⟩
   ·rw [Sm.roots_app,h2];congr 2;have:=hg.at_;omega
   ·rw [Sm.deps_app];have:=hg.dep;rw [h1.deep] at this;omega
 ·refine .bind (.nextP h1.inv (isB_kind hb2) fun st3 m3=>?_)
  refine .node m3.inv fun st4 m4 _=>⟨l,((h1.trans m3).trans m4).cast (by simp [Sm.flat,h2]) (by omega),?_,ha,h3,h4⟩
  rw [m3.nlen,h1.nlen,Sm.flats_len];rfl
theorem condition_tr {ex:Nat → PM S Nat} {r:Nat} (hex:ExIH K r ex) (hr:R K st ≤ r + 1) (hi:Inv K st) :
  Tr len (conditionP ex) st fun a st'=>∃ e,Got K st e a st' ∧ e.dep + st.deep ≤ 40:=by
 unfold conditionP
 refine .bind (.must hi fun st1 _ m1=>?_)
 have hr1:=m1.less
 refine .bind ((hex st1 1 (by omega) m1.inv (by omega)).mono fun a st2 ⟨e,hg,hd,_⟩=>?_)
 refine .bind (.must hg.mv.inv fun st3 _ m3=>?_)
 have hn1:st1.nodes.length = st.nodes.length:=by rw [m1.nlen];simp
 refine .pure ⟨e,⟨((m1.trans hg.mv).trans m3).cast (by rw [hn1];simp) (by omega),by rw [hg.at_,hn1],hg.good,by have:=m1.at_;have:=hg.ge;omega,by have:=hg.lt;have:=m3.at_;omega⟩,?_⟩
 rw [Ex.depL1 hg.good,m1.deep] at hd
 exact hd
theorem param_tr (hi:Inv K st):Tr len paramP st fun x st'=>Mv K st st' [] 1 ∧ x.1 = st.tok.at_ ∧ st.tok.at_ < len ∧ nameOk x.2.1 ∧ tyOk x.2.2:=by
 unfold paramP
 refine .bind (.tok (.bind (.take hi (fun st1 hb m1=>?_) fun _=>?_)))
 ·have ha:=(hi.lo (isB_kind hb)).2
  simp only [if_true]
  refine .bind (.must m1.inv fun st2 _ m2=>.bind (.kind m2.inv (by omega) fun st3 hk m3=>.pure ⟨((m1.trans m2).trans m3).cast rfl (by omega),rfl,ha,m2.inv.tok.name hk,.inr (.inl rfl)⟩))
 ·simp only [Bool.false_eq_true,if_false]
  refine .bind (.must hi fun st1 hb m1=>.bind (.take m1.inv (fun st2 _ m2=>?_) fun _=>?_))
  ·have ha:=(hi.lo (isB_kind hb)).2
   simp only [if_true]
   refine .bind (.kind m2.inv (by omega) fun st3 hk m3=>.pure ⟨((m1.trans m2).trans m3).cast rfl (by omega),rfl,ha,m2.inv.tok.name hk,.inr (.inr rfl)⟩)
  ·have ha:=(hi.lo (isB_kind hb)).2
   simp only [Bool.false_eq_true,if_false]
   refine .bind (.kind m1.inv (by omega) fun st3 hk m3=>.pure ⟨(m1.trans m3).cast rfl (by omega),rfl,ha,m1.inv.tok.name hk,.inl rfl⟩)
theorem plain_tr {ex:Nat → PM S Nat} {r:Nat} (hex:ExIH K r ex) (hr:R K st ≤ r) (hi:Inv K st):Tr len (plainP ex st.tok.at_) st fun a st'=>∃ e,GotI K st e a st':=by
 unfold plainP
 refine .bind ((hex st 1 hr hi (by omega)).mono fun x st1 ⟨e,hg,hd,_⟩=>?_)
 rw [Ex.depL1 hg.good] at hd
 have hl1:=hg.mv.less
 have hx:x = st.nodes.length + e.size - 1:=by have:=hg.at_;omega
 have hn1:st1.nodes.length = st.nodes.length + e.size:=by rw [hg.mv.nlen,Ex.flat_len]
 refine .bind (.is ?_)
 cases hb:isB st1.tok [61] with
 | true=>
  simp only [if_true]
  obtain ⟨nd,hnd,_,hk⟩:=hg.node (.refl hg.mv.inv)
  refine .bind (.nodeAt hnd ?_)
  by_cases h35:nd.kind = 3 ∨ nd.kind = 5
  ·rw [if_pos h35]
   have hpl:e.isPlace = true:=by rw [hk] at h35;exact Ex.isPlace_kind _ h35
   refine .bind (.nextP hg.mv.inv (isB_kind hb) fun st2 m2=>?_)
   have hl2:=m2.less
   refine .bind ((hex st2 1 (by omega) m2.inv (by omega)).mono fun y st3 ⟨ey,hy,hdy,_⟩=>?_)
   rw [Ex.depL1 hy.good,m2.deep,hg.mv.deep] at hdy
   refine .bind (.must hy.mv.inv fun st4 _ m4=>?_)
   obtain ⟨nd2,hnd2,hat,_⟩:=hg.node ((m2.trans hy.mv).trans m4)
   refine .bind (.nodeAt hnd2 ?_)
   have hn2:st2.nodes.length = st.nodes.length + e.size:=by rw [m2.nlen,hn1];simp
   have hn4:st4.nodes.length = st.nodes.length + e.size + ey.size:=by rw [m4.nlen,hy.mv.nlen,Ex.flat_len,hn2];simp
   have hyy:y = st.nodes.length + e.size + ey.size - 1:=by have:=hy.at_;omega
   refine .node m4.inv fun st5 m5 _=>⟨.set e ey,⟨((((hg.mv.trans m2).trans hy.mv).trans m4).trans m5).cast ?_ (by omega),?_,⟨hg.good,hy.good,?_,hpl⟩,hg.ge,?_,?_,?_⟩⟩
   ·rw [hn2,hat,hx,hyy];simp [Sm.flat]
   ·rw [hn4];simp only [Sm.size];omega
   ·have:=hg.lt;have:=m2.at_;have:=hy.ge;omega
   ·have:=hg.lt;have:=m2.at_;have:=hy.mv.at_;have:=m4.at_;have:=m5.at_;simp only [Sm.at_];omega
   ·simp only [Sm.dep];omega
   ·simp [Sm.open]
  ·rw [if_neg h35];exact .wrong hg.mv.inv
 | false=>
  simp only [Bool.false_eq_true,if_false]
  refine .bind (.must hg.mv.inv fun st2 _ m2=>?_)
  have hge:=hg.ge
  have ha:st.tok.at_ < len:=by have:=Ex.good_at hg.good;omega
  refine .node m2.inv fun st3 m3 _=>⟨.expr st.tok.at_ e,⟨((hg.mv.trans m2).trans m3).cast ?_ (by omega),?_,⟨ha,hg.good,hge⟩,Nat.le_refl _,?_,?_,?_⟩⟩
  ·rw [hx];simp [Sm.flat]
  ·rw [m2.nlen,hn1];simp [Sm.size];omega
  ·have:=hg.mv.at_;have:=m2.at_;have:=m3.at_;simp only [Sm.at_];omega
  ·simp only [Sm.dep];omega
  ·simp [Sm.open]
theorem var_tr {ex:Nat → PM S Nat} {r:Nat} (hex:ExIH K r ex) (hr:R K st ≤ r + 1) (hi:Inv K st) (hd1:1 ≤ st.deep):Tr len (varP ex) st fun a st'=>∃ e,GotI K st e a st':=by
 have hd40:=hi.deep
 unfold varP
 refine .bind ((param_tr hi).mono fun x st1 ⟨m1,hx1,ha,hnm,hty⟩=>?_)
 obtain ⟨xa,xs,xt⟩:=x
 simp only at hx1 hnm hty
 subst hx1
 have hl1:=m1.less
 have hn1:st1.nodes.length = st.nodes.length:=by rw [m1.nlen];simp
 refine .bind (.take m1.inv (fun st2 _ m2=>?_) fun _=>?_)
 ·simp only [if_true]
  have hl2:=m2.less
  have hn2:st2.nodes.length = st.nodes.length:=by rw [m2.nlen,hn1];simp
  refine .bind ((hex st2 1 (by omega) m2.inv (by omega)).mono fun y st3 ⟨e,hg,hd,_⟩=>?_)
  rw [Ex.depL1 hg.good,m2.deep,m1.deep] at hd
  refine .bind (.must hg.mv.inv fun st4 _ m4=>?_)
  refine .node m4.inv fun st5 m5 _=>⟨.vari st.tok.at_ xs xt e,⟨((((m1.trans m2).trans hg.mv).trans m4).trans m5).cast ?_ (by omega),?_,⟨ha,hnm,hty,hg.good,?_⟩,Nat.le_refl _,?_,?_,?_⟩⟩
  ·have:y = st.nodes.length + e.size - 1:=by have:=hg.at_;omega
   rw [hn2,this];simp [Sm.flat]
  ·rw [m4.nlen,hg.mv.nlen,Ex.flat_len,hn2];simp [Sm.size];omega
  ·have:=m1.at_;have:=m2.at_;have:=hg.ge;omega
  ·have:=m1.at_;have:=m2.at_;have:=hg.mv.at_;have:=m4.at_;have:=m5.at_;simp only [Sm.at_];omega
  ·simp only [Sm.dep];omega
  ·simp [Sm.open]
 ·simp only [Bool.false_eq_true,if_false]
  refine .bind (.must m1.inv fun st4 _ m4=>?_)
  refine .node m4.inv fun st5 m5 _=>⟨.var st.tok.at_ xs xt,⟨((m1.trans m4).trans m5).cast ?_ (by omega),?_,⟨ha,hnm,hty⟩,Nat.le_refl _,?_,?_,?_⟩⟩
  ·simp [Sm.flat]
  ·rw [m4.nlen,hn1];simp [Sm.size]
  ·have:=m1.at_;have:=m4.at_;have:=m5.at_;simp only [Sm.at_];omega
  ·simp only [Sm.dep];omega
  ·simp [Sm.open]
theorem if_tr {sm:PM S Nat} {ex:Nat → PM S Nat} {r:Nat} (hsm:SmIH K r sm) (hex:ExIH K r ex) (hr:R K st1 ≤ r) (m1:Mv K st st1 [] 1) (ha:st.tok.at_ < len) :
  Tr len (ifP sm ex st.tok.at_) st1 fun a st'=>∃ e,GotI K st e a st':=by
 unfold ifP
 have hn1:st1.nodes.length = st.nodes.length:=by rw [m1.nlen];simp
 refine .bind ((condition_tr hex (by omega) m1.inv).mono fun c st2 ⟨e,hg,hd⟩=>?_)
 rw [m1.deep] at hd
 have hl2:=hg.mv.less
 have hn2:st2.nodes.length = st.nodes.length + e.size:=by rw [hg.mv.nlen,Ex.flat_len,hn1]
 refine .bind ((hsm st2 (by omega) hg.mv.inv).mono fun a st3 ⟨ea,hga⟩=>?_)
 have hda:=hga.dep
 rw [hg.mv.deep,m1.deep] at hda
 have hl3:=hga.mv.less
 have hn3:st3.nodes.length = st.nodes.length + e.size + ea.size:=by rw [hga.mv.nlen,Sm.flat_len,hn2]
 have hc:c = st.nodes.length + e.size - 1:=by have:=hg.at_;omega
 have haa:a = st.nodes.length + e.size + ea.size - 1:=by have:=hga.at_;omega
 refine .bind (.take hga.mv.inv (fun st4 hb4 m4=>?_) fun hb4=>?_)
 ·simp only [if_true]
  have hl4:=m4.less
  have hn4:st4.nodes.length = st.nodes.length + e.size + ea.size:=by rw [m4.nlen,hn3];simp
  refine .bind ((hsm st4 (by omega) m4.inv).mono fun b st5 ⟨eb,hgb⟩=>?_)
  have hdb:=hgb.dep
  rw [m4.deep,hga.mv.deep,hg.mv.deep,m1.deep] at hdb
  have hbb:b = st.nodes.length + e.size + ea.size + eb.size - 1:=by have:=hgb.at_;omega
  have hop:ea.open = false:=by
   cases ho:ea.open with
   | false=>rfl
   | true=>rw [hga.els ho] at hb4;cases hb4
  refine .node hgb.mv.inv fun st6 m6 ht=>⟨.if2 st.tok.at_ e ea eb,⟨(((((m1.trans hg.mv).trans hga.mv).trans m4).trans hgb.mv).trans m6).cast ?_ (by omega),?_,⟨ha,hg.good,?_,hga.good,?_,hgb.good,?_,hop⟩,Nat.le_refl _,?_,?_,?_⟩⟩
  ·rw [hn1,hn2,hn4,hc,haa,hbb];simp [Sm.flat]
  ·rw [hgb.mv.nlen,Sm.flat_len,hn4];simp only [Sm.size];omega
  ·have:=m1.at_;have:=hg.ge;omega
  ·have:=m1.at_;have:=hg.mv.at_;have:=hga.ge;omega
  ·have:=m1.at_;have:=hg.mv.at_;have:=hga.mv.at_;have:=m4.at_;have:=hgb.ge;omega
  ·have:=m1.at_;have:=hg.mv.at_;have:=hga.mv.at_;have:=m4.at_;have:=hgb.mv.at_;have:=m6.at_;simp only [Sm.at_];omega
  ·simp only [Sm.dep];omega
  ·intro ho;rw [ht];exact hgb.els ho
 ·simp only [Bool.false_eq_true,if_false]
  refine .node hga.mv.inv fun st6 m6 ht=>⟨.if1 st.tok.at_ e ea,⟨(((m1.trans hg.mv).trans hga.mv).trans m6).cast ?_ (by omega),?_,⟨ha,hg.good,?_,hga.good,?_⟩,Nat.le_refl _,?_,?_,?_⟩⟩
  ·rw [hn1,hn2,hc,haa];simp [Sm.flat]
  ·rw [hn3];simp only [Sm.size];omega
  ·have:=m1.at_;have:=hg.ge;omega
  ·have:=m1.at_;have:=hg.mv.at_;have:=hga.ge;omega
  ·have:=m1.at_;have:=hg.mv.at_;have:=hga.mv.at_;have:=m6.at_;simp only [Sm.at_];omega
  ·simp only [Sm.dep];omega
  ·intro _;rw [ht];exact hb4
theorem step_tr {sm:PM S Nat} {ex:Nat → PM S Nat} {r n:Nat} (hsm:∀ r',r' < r → SmIH K r' sm) (hex:∀ r',r' ≤ r → ExIH K r' ex) (hr:R K st ≤ r) (hn:R K st ≤ n) (hi:Inv K st) (hd1:1 ≤ st.deep) :
  Tr len (stepP sm ex n st.tok.at_) st fun a st'=>∃ e,GotI K st e a st':=by
 have hd40:=hi.deep
 have hpos {m:List UInt8} (hb:isB st.tok m = true):1 ≤ R K st:=by unfold R;rw [if_neg (isB_kind hb)];omega
 unfold stepP
 refine .bind (.is ?_)
 cases hb:isB st.tok [123] with
 | true=>
  have h1:=hpos hb
  simp only [if_true]
  refine (block_tr (r:=R K st - 1) (hsm _ (by omega)) (by omega) hn hi).mono fun a st' ⟨l,h1,h2,h3,h4,h5⟩=>⟨.block st.tok.at_ l,⟨h1,by simp only [Sm.size];omega,⟨h3,h4⟩,Nat.le_refl _,by have:=h1.at_;simp only [Sm.at_];omega,by simp only [Sm.dep];omega,by simp [Sm.open]⟩⟩
 | false=>
 simp only [Bool.false_eq_true,if_false]
 refine .bind (.take hi (fun st1 hb m1=>?_) fun _=>?_)
 ·have h1:=hpos hb
  have:=m1.less
  exact if_tr (r:=R K st - 1) (hsm _ (by omega)) (hex _ (by omega)) (by omega) m1 (hi.lo (isB_kind hb)).2
 simp only [Bool.false_eq_true,if_false]
 refine .bind (.take hi (fun st1 hb m1=>?_) fun _=>?_)
 ·have h1:=hpos hb
  have ha:=(hi.lo (isB_kind hb)).2
  have hl1:=m1.less
  simp only [if_true]
  have hn1:st1.nodes.length = st.nodes.length:=by rw [m1.nlen];simp
  refine .bind ((condition_tr (r:=R K st - 1) (hex _ (by omega)) (by omega) m1.inv).mono fun c st2 ⟨e,hg,hd⟩=>?_)
  rw [m1.deep] at hd
  have hl2:=hg.mv.less
  have hn2:st2.nodes.length = st.nodes.length + e.size:=by rw [hg.mv.nlen,Ex.flat_len,hn1]
  refine .bind ((hsm (R K st - 1) (by omega) st2 (by omega) hg.mv.inv).mono fun a st3 ⟨ea,hga⟩=>?_)
  have hda:=hga.dep
  rw [hg.mv.deep,m1.deep] at hda
  have hn3:st3.nodes.length = st.nodes.length + e.size + ea.size:=by rw [hga.mv.nlen,Sm.flat_len,hn2]
  have hc:c = st.nodes.length + e.size - 1:=by have:=hg.at_;omega
  have haa:a = st.nodes.length + e.size + ea.size - 1:=by have:=hga.at_;omega
  refine .node hga.mv.inv fun st6 m6 ht=>⟨.while st.tok.at_ e ea,⟨(((m1.trans hg.mv).trans hga.mv).trans m6).cast ?_ (by omega),?_,⟨ha,hg.good,?_,hga.good,?_⟩,Nat.le_refl _,?_,?_,?_⟩⟩
  ·rw [hn1,hn2,hc,haa];simp [Sm.flat]
  ·rw [hn3];simp only [Sm.size];omega
  ·have:=m1.at_;have:=hg.ge;omega
  ·have:=m1.at_;have:=hg.mv.at_;have:=hga.ge;omega
  ·have:=m1.at_;have:=hg.mv.at_;have:=hga.mv.at_;have:=m6.at_;simp only [Sm.at_];omega
  ·simp only [Sm.dep];omega
  ·intro ho;rw [ht];exact hga.els ho
 simp only [Bool.false_eq_true,if_false]
 refine .bind (.take hi (fun st1 hb m1=>?_) fun _=>?_)
 ·have h1:=hpos hb
  have ha:=(hi.lo (isB_kind hb)).2
  have hl1:=m1.less
  simp only [if_true]
  have hn1:st1.nodes.length = st.nodes.length:=by rw [m1.nlen];simp
  refine .bind ((hex (R K st) (by omega) st1 1 (by omega) m1.inv (by omega)).mono fun x st2 ⟨e,hg,hd,_⟩=>?_)
  rw [Ex.depL1 hg.good,m1.deep] at hd
  refine .bind (.must hg.mv.inv fun st3 _ m3=>?_)
  have hx:x = st.nodes.length + e.size - 1:=by have:=hg.at_;omega
  refine .node m3.inv fun st4 m4 _=>⟨.ret st.tok.at_ e,⟨(((m1.trans hg.mv).trans m3).trans m4).cast ?_ (by omega),?_,⟨ha,hg.good,?_⟩,Nat.le_refl _,?_,?_,?_⟩⟩
  ·rw [hn1,hx];simp [Sm.flat]
  ·rw [m3.nlen,hg.mv.nlen,Ex.flat_len,hn1];simp [Sm.size];omega
  ·have:=m1.at_;have:=hg.ge;omega
  ·have:=m1.at_;have:=hg.mv.at_;have:=m3.at_;have:=m4.at_;simp only [Sm.at_];omega
  ·simp only [Sm.dep];omega
  ·simp [Sm.open]
 simp only [Bool.false_eq_true,if_false]
 refine .bind (.take hi (fun st1 hb m1=>?_) fun _=>?_)
 ·have ha:=(hi.lo (isB_kind hb)).2
  simp only [if_true]
  refine .bind (.must m1.inv fun st3 _ m3=>?_)
  refine .node m3.inv fun st4 m4 _=>⟨.brk st.tok.at_,⟨((m1.trans m3).trans m4).cast (by simp [Sm.flat]) (by omega),?_,ha,Nat.le_refl _,?_,?_,?_⟩⟩
  ·rw [m3.nlen,m1.nlen];simp [Sm.size]
  ·have:=m1.at_;have:=m3.at_;have:=m4.at_;simp only [Sm.at_];omega
  ·simp only [Sm.dep];omega
  ·simp [Sm.open]
 simp only [Bool.false_eq_true,if_false]
 refine .bind (.take hi (fun st1 hb m1=>?_) fun _=>?_)
 ·have ha:=(hi.lo (isB_kind hb)).2
  simp only [if_true]
  refine .bind (.must m1.inv fun st3 _ m3=>?_)
  refine .node m3.inv fun st4 m4 _=>⟨.next st.tok.at_,⟨((m1.trans m3).trans m4).cast (by simp [Sm.flat]) (by omega),?_,ha,Nat.le_refl _,?_,?_,?_⟩⟩
  ·rw [m3.nlen,m1.nlen];simp [Sm.size]
  ·have:=m1.at_;have:=m3.at_;have:=m4.at_;simp only [Sm.at_];omega
  ·simp only [Sm.dep];omega
  ·simp [Sm.open]
 simp only [Bool.false_eq_true,if_false]
 refine .bind (.is ?_)
 cases hb:isB st.tok [105,110,116] with
 | true=>exact var_tr (r:=r) (hex r (Nat.le_refl _)) (by omega) hi hd1
 | false=>
 simp only [Bool.false_eq_true,if_false]
 refine .bind (.is ?_)
 cases hb:isB st.tok [99,104,97,114] with
 | true=>exact var_tr (r:=r) (hex r (Nat.le_refl _)) (by omega) hi hd1
 | false=>
 simp only [Bool.false_eq_true,if_false]
 exact plain_tr (hex r (Nat.le_refl _)) hr hi
theorem stmt_tr {sm:PM S Nat} {ex:Nat → PM S Nat} {r n:Nat} (hsm:∀ r',r' < r → SmIH K r' sm) (hex:∀ r',r' ≤ r → ExIH K r' ex) (hr:R K st ≤ r) (hn:R K st ≤ n) (hi:Inv K st) :
  Tr len (stmtP sm ex n) st fun a st'=>∃ e,GotS K st e a st':=by
 unfold stmtP
 refine .bind (.down hi fun hd=>.bind (.tok ?_))
 have hi1:=hi.down hd
 refine .bind ((step_tr (st:={ st with deep:=st.deep + 1 }) hsm hex hr hn hi1 (by simp only;omega)).mono fun a st' ⟨e,hg⟩=>?_)
 obtain ⟨hne,hmv⟩:=hg.mv.downUp hi.deep
 refine .bind (.up hne (.pure ⟨e,⟨hmv,hg.at_,hg.good,hg.ge,hg.lt,by have:=hg.dep;simp only at this;omega,hg.els⟩⟩))
theorem sm_tr:∀ (n r:Nat),2 * r + 3 ≤ n → SmIH K r (smP (S:=S) n):=by
 intro n
 induction n with
 | zero=>intro r h;omega
 | succ n ih=>
  intro r h st hr hi
  exact stmt_tr (r:=r) (fun r' hr'=>ih r' (by omega)) (fun r' hr'=>(ex_tr n).2 r' (by omega)) hr (by omega) hi
structure GotD (K:StrmOk S len) (st:PS S) (e:Dc) (a:Nat) (st':PS S):Prop where
 mv:Mv K st st' (e.flat st.nodes.length) 1
 at_:a + 1 = st.nodes.length + e.size
 good:e.good len
 ge:st.tok.at_ ≤ e.at_
theorem body_tr {n k:Nat} {nm:List UInt8} {ps:List Par} (hn:2 * R K st1 + 3 ≤ n) (hd:st.deep = 0) (m1:Mv K st st1 (ps.map parNode) k) (hk:1 ≤ k) (ha:st.tok.at_ < len) (hnm:nameOk nm) (hps:∀ x ∈ ps,st.tok.at_ ≤ x.1 ∧ x.1 < len ∧ nameOk x.2.1 ∧ tyOk x.2.2) :
  Tr len (bodyP n st.tok.at_ nm (List.range' st.nodes.length ps.length)) st1 fun a st'=>∃ e,GotD K st e a st':=by
 unfold bodyP
 refine .bind ((block_tr (sm_tr n (R K st1) hn) (by omega) (by omega) m1.inv).mono fun b st2 ⟨l,h1,h2,h3,h4,h5⟩=>?_)
 have hn1:st1.nodes.length = st.nodes.length + ps.length:=by rw [m1.nlen];simp
 refine .node h1.inv fun st3 m3 _=>⟨.fn st.tok.at_ nm ps st1.tok.at_ l,⟨((m1.trans h1).trans m3).cast ?_ (by omega),?_,⟨ha,hnm,hps,by have:=m1.at_;omega,h3,h4,by omega⟩,Nat.le_refl _⟩⟩
 ·have hb:b = st.nodes.length + ps.length + Sm.sizes l:=by omega
  rw [hn1,hb];simp [Dc.flat,Sm.flat,List.length_range']
 ·rw [h1.nlen,Sm.flat_len,hn1];simp only [Sm.size,Dc.size];omega
theorem function_tr {n k:Nat} {nm:List UInt8} (hn:2 * R K st1 + 3 ≤ n) (hd:st.deep = 0) (m1:Mv K st st1 [] k) (hb0:isB st1.tok [40] = true) (ha:st.tok.at_ < len) (hnm:nameOk nm) :
  Tr len (functionP n st.tok.at_ nm) st1 fun a st'=>∃ e,GotD K st e a st':=by
 unfold functionP
 refine .bind (.nextP m1.inv (isB_kind hb0) fun st2 m2=>?_)
 have hl2:=m2.less
 have m12:=m1.trans m2
 refine .bind (.take m2.inv (fun st3 _ m3=>?_) fun _=>?_)
 ·simp only [if_true]
  have hl3:=m3.less
  exact body_tr (ps:=[]) (k:=1) (by omega) hd ((m12.trans m3).cast (by simp) (by omega)) (by omega) ha hnm (by simp)
 ·simp only [Bool.false_eq_true,if_false]
  refine .bind (Tr.mono (Q:=fun acc st3=>∃ ps:List Par,Mv K st st3 (ps.map parNode) 1 ∧ acc = List.range' st.nodes.length ps.length ∧ R K st3 ≤ R K st2 ∧ ∀ x ∈ ps,st.tok.at_ ≤ x.1 ∧ x.1 < len ∧ nameOk x.2.1 ∧ tyOk x.2.2) ?_ fun acc st3 ⟨ps,h1,h2,h3,h4⟩=>?_)
  ·refine Tr.loop (K:=K) (fun acc st3=>∃ ps:List Par,Mv K st st3 (ps.map parNode) 1 ∧ acc = List.range' st.nodes.length ps.length ∧ R K st3 ≤ R K st2 ∧ ∀ x ∈ ps,st.tok.at_ ≤ x.1 ∧ x.1 < len ∧ nameOk x.2.1 ∧ tyOk x.2.2) ?_ n (by omega) ⟨[],m12.cast (by simp) (by omega),rfl,Nat.le_refl _,by simp⟩
   intro acc st3 ⟨ps,h1,h2,h3,h4⟩
   unfold paramsB
   refine .bind ((param_tr h1.inv).mono fun x st4 ⟨m4,hx1,hxa,hxn,hxt⟩=>?_)
   obtain ⟨xa,xs,xt⟩:=x
   simp only at hx1 hxn hxt
   refine .bind (.node m4.inv fun st5 m5 _=>?_)
   have hl4:=m4.less
   have hl5:=m5.less
   have hn4:st4.nodes.length = st.nodes.length + ps.length:=by rw [m4.nlen,h1.nlen];simp
   have hps:∀ y ∈ ps ++ [(xa,xs,xt)],st.tok.at_ ≤ y.1 ∧ y.1 < len ∧ nameOk y.2.1 ∧ tyOk y.2.2:=fun y hy=>by
    rcases List.mem_append.1 hy with hy | hy
    ·exact h4 y hy
    ·simp at hy;subst hy;exact ⟨by simp only;have:=h1.at_;omega,by simp only;omega,hxn,hxt⟩
   have hacc:acc ++ [st4.nodes.length] = List.range' st.nodes.length (ps ++ [(xa,xs,xt)]).length:=by
    rw [h2,hn4,List.length_append,List.length_singleton,List.range'_1_concat]
   refine .bind (.take m5.inv (fun st6 _ m6=>?_) fun _=>?_)
   ·have hl6:=m6.less
    exact .pure ⟨ps ++ [(xa,xs,xt)],(((h1.trans m4).trans m5).trans m6).cast (by simp [parNode]) (by omega),hacc,by omega,hps⟩
   ·simp only [Bool.false_eq_true,if_false]
    refine .bind (.must m5.inv fun st6 _ m6=>?_)
    have hl6:=m6.less
    exact .pure ⟨⟨ps ++ [(xa,xs,xt)],(((h1.trans m4).trans m5).trans m6).cast (by simp [parNode]) (by omega),hacc,by omega,hps⟩,by omega⟩
  ·subst h2
   exact body_tr (k:=1) (by omega) hd h1 (by omega) ha hnm h4
theorem array_tr {k:Nat} {nm:List UInt8} {ty:Int} (m1:Mv K st st1 [] k) (hk:1 ≤ k) (ha:st.tok.at_ < len) (hnm:nameOk nm) (hty:ty = 2 ∨ ty = 3):Tr len (arrayP st.tok.at_ nm ty) st1 fun a st'=>∃ e,GotD K st e a st':=by
 unfold arrayP
 refine .bind (.must m1.inv fun st2 _ m2=>.bind (.kind m2.inv (by omega) fun st3 hk3 m3=>.bind (.must m3.inv fun st4 _ m4=>.bind (.must m4.inv fun st5 _ m5=>?_))))
 refine .node m5.inv fun st6 m6 _=>⟨.array st.tok.at_ nm ty st2.tok.n,⟨(((((m1.trans m2).trans m3).trans m4).trans m5).trans m6).cast (by simp [Dc.flat]) (by omega),?_,⟨ha,hnm,hty,m2.inv.tok.num hk3⟩,Nat.le_refl _⟩⟩
 rw [m5.nlen,m4.nlen,m3.nlen,m2.nlen,m1.nlen];simp [Dc.size]
theorem decl_tr {n:Nat} (hn:2 * R K st + 3 ≤ n) (hd:st.deep = 0) (hi:Inv K st):Tr len (declP n) st fun a st'=>∃ e,GotD K st e a st':=by
 unfold declP
 refine .bind (.tok (.bind (.take hi (fun st1 hb m1=>?_) fun _=>?_)))
 ·have ha:=(hi.lo (isB_kind hb)).2
  simp only [if_true]
  refine .bind (.kind m1.inv (by omega) fun st2 hk2 m2=>?_)
  exact array_tr ((m1.trans m2).cast (by simp) (Nat.le_refl _)) (by omega) ha (m1.inv.tok.name hk2) (.inl rfl)
 ·simp only [Bool.false_eq_true,if_false]
  refine .bind (.must hi fun st1 hb m1=>?_)
  have ha:=(hi.lo (isB_kind hb)).2
  refine .bind (.kind m1.inv (by omega) fun st2 hk2 m2=>?_)
  have hnm:=m1.inv.tok.name hk2
  have m12:Mv K st st2 [] 2:=(m1.trans m2).cast (by simp) (Nat.le_refl _)
  refine .bind (.take m2.inv (fun st3 _ m3=>?_) fun _=>?_)
  ·simp only [if_true]
   refine .node m3.inv fun st4 m4 _=>⟨.var st.tok.at_ st1.tok.text,⟨((m12.trans m3).trans m4).cast (by simp [Dc.flat]) (by omega),?_,⟨ha,hnm⟩,Nat.le_refl _⟩⟩
   rw [m3.nlen,m2.nlen,m1.nlen];simp [Dc.size]
  ·simp only [Bool.false_eq_true,if_false]
   refine .bind (.is ?_)
   have hl:=m12.less
   cases hb4:isB st2.tok [40] with
   | true=>exact function_tr (by omega) hd m12 hb4 ha hnm
   | false=>exact array_tr m12 (by omega) ha hnm (.inr rfl)
theorem whole_tr {n:Nat} (hn:2 * R K st + 3 ≤ n) (hd:st.deep = 0) (h0:st.nodes = []) (hi:Inv K st):Tr len (wholeP n) st fun _ st'=>∃ l:List Dc,st'.nodes = allNodes l ∧ (∀ x ∈ l,x.good len) ∧ (allNodes l).length ≤ 4096:=by
 unfold wholeP
 refine .bind (Tr.mono (Q:=fun acc st2=>∃ l:List Dc,Mv K st st2 (Dc.flats 0 l) 0 ∧ acc = Dc.roots 0 l ∧ ∀ x ∈ l,x.good len) ?_ fun acc st2 ⟨l,h1,h2,h3⟩=>?_)
 ·refine Tr.loop (K:=K) (fun acc st2=>∃ l:List Dc,Mv K st st2 (Dc.flats 0 l) 0 ∧ acc = Dc.roots 0 l ∧ ∀ x ∈ l,x.good len) ?_ n (by omega) ⟨[],(Mv.refl hi).cast rfl (Nat.le_refl _),rfl,by simp⟩
  intro acc st2 ⟨l,h1,h2,h3⟩
  unfold declB
  refine .bind (.tok ?_)
  by_cases hk:st2.tok.kind = 0
  ·rw [if_pos hk];exact .pure ⟨l,h1,h2,h3⟩
  ·rw [if_neg hk]
   have hl1:=h1.less
   refine .bind ((decl_tr (n:=n) (by omega) (by rw [h1.deep,hd]) h1.inv).mono fun a st3 ⟨e,hg⟩=>?_)
   have hn2:st2.nodes.length = Dc.sizes l:=by rw [h1.nlen,h0,Dc.flats_len];simp
   have hl3:=hg.mv.less
   refine .pure ⟨⟨l ++ [e],(h1.trans hg.mv).cast (by rw [Dc.flats_app,hn2,Nat.zero_add]) (by omega),?_,fun x hx=>?_⟩,by omega⟩
   ·rw [Dc.roots_app,h2];congr 2;have:=hg.at_;omega
   ·rcases List.mem_append.1 hx with hx | hx
    ·exact h3 x hx
    ·simp at hx;subst hx;exact hg.good
 ·refine .node h1.inv fun st3 m3 _=>⟨l,?_,h3,?_⟩
  ·rw [m3.nodes,h1.nodes,h0,h2];rfl
  ·have:=m3.inv.nodes
   rw [m3.nodes,h1.nodes,h0,h2] at this
   exact this
end
end Go.Front

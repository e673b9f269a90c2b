/- The plain parser ends, and what it answers is a tree. -/
import Derived.Test.YtlbieeajocjpeaaGreatDoorAst
set_option linter.unusedSimpArgs false
set_option linter.unusedVariables false
namespace Go.Front
structure TokOk (t:Tok):Prop where
 name:t.kind = 1 → nameOk t.text
 num:t.kind = 3 → 0 ≤ t.n ∧ t.n < 9223372036854775808
 text:t.kind = 4 → textOk t.text
structure StrmOk (S:Strm) (len:Nat) where
 val:S.Pos → Prop
 lo:S.Pos → Nat
 left:S.Pos → Nat
 ok:∀ q t q',val q → S.nxt q = .inr (t,q') → TokOk t ∧ lo q ≤ t.at_ ∧ t.at_ ≤ len ∧ (t.kind ≠ 0 → t.at_ < lo q' ∧ t.at_ < len ∧ left q' < left q) ∧ val q'
 bad:∀ q f,val q → S.nxt q = .inl f → f ≤ len
section
variable {S:Strm} {len:Nat} {K:StrmOk S len} {α β γ:Type} {st st1 st2 st3:PS S}
structure Inv (K:StrmOk S len) (st:PS S):Prop where
 tok:TokOk st.tok
 at_:st.tok.at_ ≤ len
 lo:st.tok.kind ≠ 0 → st.tok.at_ < K.lo st.pos ∧ st.tok.at_ < len
 deep:st.deep ≤ 40
 nodes:st.nodes.length ≤ 4096
 val:K.val st.pos
def R (K:StrmOk S len) (st:PS S):Nat:=if st.tok.kind = 0 then 0 else K.left st.pos + 1
structure Mv (K:StrmOk S len) (st st':PS S) (l:List Node) (k:Nat):Prop where
 inv:Inv K st'
 deep:st'.deep = st.deep
 less:R K st' + k ≤ R K st
 at_:st.tok.at_ + k ≤ st'.tok.at_
 nodes:st'.nodes = st.nodes ++ l
theorem Mv.refl (h:Inv K st):Mv K st st [] 0:=⟨h,rfl,Nat.le_refl _,Nat.le_refl _,by simp⟩
theorem Mv.trans {l1 l2:List Node} {k1 k2:Nat} (h:Mv K st st1 l1 k1) (g:Mv K st1 st2 l2 k2):Mv K st st2 (l1 ++ l2) (k1 + k2):=
 ⟨g.inv,g.deep.trans h.deep,by have:=h.less;have:=g.less;omega,by have:=h.at_;have:=g.at_;omega,by rw [g.nodes,h.nodes,List.append_assoc]⟩
theorem Mv.weak {l:List Node} {k k':Nat} (h:Mv K st st1 l k) (hk:k' ≤ k):Mv K st st1 l k':=⟨h.inv,h.deep,by have:=h.less;omega,by have:=h.at_;omega,h.nodes⟩
theorem Mv.cast {l l':List Node} {k k':Nat} (h:Mv K st st1 l k) (hl:l = l') (hk:k' ≤ k):Mv K st st1 l' k':=hl ▸ h.weak hk
theorem Mv.nlen {l:List Node} {k:Nat} (h:Mv K st st1 l k):st1.nodes.length = st.nodes.length + l.length:=by rw [h.nodes,List.length_append]
def Tr (len:Nat) (m:PM S α) (st:PS S) (Q:α → PS S → Prop):Prop:=
 match m st with
 | none=>False
 | some (.error e)=>e.2 ≤ len ∧ (e.1 = 13 ∨ e.1 = 15)
 | some (.ok (a,st'))=>Q a st'
theorem Tr.bind {m:PM S α} {k:α → PM S β} {Q:β → PS S → Prop} (h:Tr len m st fun a st'=>Tr len (k a) st' Q):Tr len (m >>= k) st Q:=by
 unfold Tr at h ⊢
 cases hm:m st with
 | none=>rw [hm] at h;exact h.elim
 | some r=>
  rw [hm] at h
  cases r with
  | error e=>rw [PM.bind_err hm];exact h
  | ok p=>obtain ⟨a,st'⟩:=p;rw [PM.bind_ok hm];exact h
theorem Tr.mono {m:PM S α} {Q Q':α → PS S → Prop} (h:Tr len m st Q) (hq:∀ a st',Q a st' → Q' a st'):Tr len m st Q':=by
 unfold Tr at h ⊢
 split at h
 ·exact h.elim
 ·exact h
 ·exact hq _ _ h
theorem Tr.pure {a:α} {Q:α → PS S → Prop} (h:Q a st):Tr len (Pure.pure a:PM S α) st Q:=h
theorem Tr.tok {Q:Tok → PS S → Prop} (h:Q st.tok st):Tr len tokP st Q:=h
theorem Tr.is {m:List UInt8} {Q:Bool → PS S → Prop} (h:Q (isB st.tok m) st):Tr len (isP m) st Q:=h
theorem Tr.wrong {Q:α → PS S → Prop} (hi:Inv K st):Tr len (wrongP 13:PM S α) st Q:=⟨hi.at_,.inl rfl⟩
theorem Tr.nextP {Q:Tok → PS S → Prop} (hi:Inv K st) (hk:st.tok.kind ≠ 0) (h:∀ st',Mv K st st' [] 1 → Q st.tok st'):Tr len Front.nextP st Q:=by
 unfold Tr Front.nextP
 cases hn:S.nxt st.pos with
 | inl f=>exact ⟨K.bad _ _ hi.val hn,.inl rfl⟩
 | inr x=>
  obtain ⟨t,q⟩:=x
  simp only
  obtain ⟨h1,h2,h3,h4,hv⟩:=K.ok _ _ _ hi.val hn
  obtain ⟨h5,h6⟩:=hi.lo hk
  refine h _ ⟨⟨h1,h3,fun hk=>⟨(h4 hk).1,(h4 hk).2.1⟩,hi.deep,hi.nodes,hv⟩,rfl,?_,by simp only;omega,by simp⟩
  unfold R
  rw [if_neg hk]
  simp only
  split
  ·omega
  ·rename_i hk'
   have:=(h4 hk').2.2
   omega
theorem isB_kind {t:Tok} {m:List UInt8} (h:isB t m = true):t.kind ≠ 0:=by
 unfold isB at h
 intro e
 simp [e] at h
theorem Tr.take {m:List UInt8} {Q:Bool → PS S → Prop} (hi:Inv K st) (h1:∀ st',isB st.tok m = true → Mv K st st' [] 1 → Q true st') (h0:isB st.tok m = false → Q false st):Tr len (takeP m) st Q:=by
 unfold takeP
 refine .bind (.is ?_)
 cases hb:isB st.tok m with
 | true=>exact .bind (.nextP hi (isB_kind hb) fun st' h=>h1 st' hb h)
 | false=>exact h0 hb
theorem Tr.must {m:List UInt8} {Q:Unit → PS S → Prop} (hi:Inv K st) (h1:∀ st',isB st.tok m = true → Mv K st st' [] 1 → Q () st'):Tr len (mustP m) st Q:=by
 unfold mustP
 refine .bind (.is ?_)
 cases hb:isB st.tok m with
 | true=>exact .bind (.nextP hi (isB_kind hb) fun st' h=>h1 st' hb h)
 | false=>exact .wrong hi
theorem Tr.kind {k:Nat} {Q:Tok → PS S → Prop} (hi:Inv K st) (hk:k ≠ 0) (h1:∀ st',st.tok.kind = k → Mv K st st' [] 1 → Q st.tok st'):Tr len (kindP k) st Q:=by
 unfold kindP
 refine .bind (.tok ?_)
 by_cases h:st.tok.kind = k
 ·rw [if_pos h];exact .nextP hi (by rw [h];exact hk) fun st' hm=>h1 st' h hm
 ·rw [if_neg h];exact .wrong hi
theorem Tr.node {x:Node} {Q:Nat → PS S → Prop} (hi:Inv K st) (h:∀ st',Mv K st st' [x] 0 → st'.tok = st.tok → Q st.nodes.length st'):Tr len (nodeP x) st Q:=by
 unfold Tr nodeP
 by_cases hl:st.nodes.length = 4096
 ·rw [if_pos hl];exact ⟨hi.at_,.inr rfl⟩
 ·rw [if_neg hl]
  exact h _ ⟨⟨hi.tok,hi.at_,hi.lo,hi.deep,by have:=hi.nodes;simp only [List.length_append,List.length_singleton];omega,hi.val⟩,rfl,Nat.le_refl _,Nat.le_refl _,rfl⟩ rfl
theorem Tr.nodeAt {x:Nat} {y:Node} {Q:Node → PS S → Prop} (hx:st.nodes[x]? = some y) (h:Q y st):Tr len (nodeAtP x) st Q:=by
 unfold Tr nodeAtP;rw [hx];exact h
theorem Tr.down {Q:Unit → PS S → Prop} (hi:Inv K st) (h:st.deep < 40 → Q () { st with deep:=st.deep + 1 }):Tr len downP st Q:=by
 unfold Tr downP
 by_cases hd:st.deep = 40
 ·rw [if_pos hd];exact ⟨hi.at_,.inr rfl⟩
 ·rw [if_neg hd];exact h (by have:=hi.deep;omega)
theorem Tr.up {Q:Unit → PS S → Prop} (hd:st.deep ≠ 0) (h:Q () { st with deep:=st.deep - 1 }):Tr len upP st Q:=by
 unfold Tr upP;rw [if_neg hd];exact h
def onSum (P:α → Prop) (Q:β → Prop):Sum α β → Prop
 | .inl a=>P a
 | .inr b=>Q b
theorem Tr.loop {body:α → PM S (Sum α β)} {Q:β → PS S → Prop} (I:α → PS S → Prop) (hb:∀ a st,I a st → Tr len (body a) st fun r st'=>onSum (fun a'=>I a' st' ∧ R K st' < R K st) (fun b=>Q b st') r) :
  ∀ (n:Nat) {a:α} {st:PS S},R K st < n → I a st → Tr len (loopP body n a) st Q:=by
 intro n
 induction n with
 | zero=>intro a st h;omega
 | succ n ih=>
  intro a st hn hi
  unfold loopP
  refine .bind ((hb a st hi).mono fun r st' hr=>?_)
  cases r with
  | inl a'=>exact ih (by have:=hr.2;omega) hr.1
  | inr b=>exact hr
def opTok (t:Tok):Nat:=if t.kind = 5 then binOp t.text else 0
def noOp (l:Nat) (t:Tok):Prop:=opTok t = 0 ∨ level (opTok t) < l
theorem opOf_le:∀ (l:List (List UInt8)) (k:Nat) (s:List UInt8),opOf l k s = 0 ∨ (k ≤ opOf l k s ∧ opOf l k s < k + l.length)
 | [],k,s=>.inl rfl
 | x :: l,k,s=>by
  simp only [opOf]
  split
  ·right;simp
  ·rcases opOf_le l (k + 1) s with h | h
   ·exact .inl h
   ·right;simp only [List.length_cons];omega
theorem binOp_le (s:List UInt8) (h:binOp s ≠ 0):4 ≤ binOp s ∧ binOp s ≤ 21:=by
 rcases opOf_le ops 4 s with h' | h'
 ·exact absurd h' h
 ·have:ops.length = 18:=rfl
  unfold binOp;omega
theorem level_le (o:Nat):level o ≤ 10:=by
 rcases Nat.lt_or_ge o 22 with hq | hq
 ·exact (by decide:∀ q < 22,level q ≤ 10) o hq
 ·unfold level
  rw [List.getD_eq_getElem?_getD,List.getElem?_eq_none (by simp;omega)];simp
theorem level_pos {o:Nat} (h1:4 ≤ o) (h2:o ≤ 21):1 ≤ level o:=(by decide:∀ q < 22,4 ≤ q → 1 ≤ level q) o (by omega) h1
theorem Ex.lv_pos {e:Ex} (h:e.good len):1 ≤ e.lv:=by
 cases e <;> simp only [Ex.lv] <;> try omega
 obtain ⟨_,_,_,h1,h2⟩:=h
 exact level_pos h1 h2
theorem Ex.depL1 {e:Ex} (h:e.good len):e.depL 1 = e.dep:=by
 unfold Ex.depL;rw [if_neg (by have:=Ex.lv_pos h;omega)]
theorem Ex.depL_le {e:Ex} (l:Nat) (hl:l ≤ 99):e.depL l ≤ e.depO:=by
 have key:e.lv < l → e.isBin = true:=by cases e <;> simp only [Ex.lv,Ex.isBin] <;> first | omega | simp
 unfold Ex.depL Ex.depO
 by_cases h:e.lv < l
 ·rw [if_pos h,if_pos (key h)];exact Nat.le_refl _
 ·rw [if_neg h];split <;> omega
theorem Ex.depO_le {e:Ex}:e.depO ≤ e.depP:=by
 unfold Ex.depO Ex.depP
 cases e <;> simp [Ex.isBin,Ex.isUB]
theorem Ex.depP_le {e:Ex}:e.depP ≤ 1 + e.dep:=by unfold Ex.depP;split <;> omega
structure Got (K:StrmOk S len) (st:PS S) (e:Ex) (a:Nat) (st':PS S):Prop where
 mv:Mv K st st' (e.flat st.nodes.length) 1
 at_:a + 1 = st.nodes.length + e.size
 good:e.good len
 ge:st.tok.at_ ≤ e.at_
 lt:e.at_ < st'.tok.at_
theorem Got.node {e:Ex} {a:Nat} (h:Got K st e a st1) {l:List Node} {k:Nat} (g:Mv K st1 st2 l k):∃ nd,st2.nodes[a]? = some nd ∧ nd.at_ = e.at_ ∧ nd.kind = (e.root st.nodes.length).kind:=by
 have hp:=Ex.size_pos e
 refine ⟨e.root st.nodes.length,?_,Ex.root_at _ _,rfl⟩
 rw [g.nodes,h.mv.nodes,List.append_assoc,List.getElem?_append_right (by have:=h.at_;omega),List.getElem?_append_left (by have:=h.at_;rw [Ex.flat_len];omega)]
 rw [show a - st.nodes.length = e.size - 1 from by have:=h.at_;omega]
 exact Ex.flat_root _ _
theorem Mv.downUp {l:List Node} {k:Nat} (h:Mv K { st with deep:=st.deep + 1 } st1 l k) (hd:st.deep ≤ 40):st1.deep ≠ 0 ∧ Mv K st { st1 with deep:=st1.deep - 1 } l k:=by
 have e:st1.deep = st.deep + 1:=h.deep
 exact ⟨by omega,⟨h.inv.tok,h.inv.at_,h.inv.lo,by simp only;omega,h.inv.nodes,h.inv.val⟩,by simp only;omega,h.less,h.at_,h.nodes⟩
theorem Inv.down (h:Inv K st) (hd:st.deep < 40):Inv K { st with deep:=st.deep + 1 }:=⟨h.tok,h.at_,h.lo,by simp only;omega,h.nodes,h.val⟩
def ExIH (K:StrmOk S len) (r:Nat) (ex:Nat → PM S Nat):Prop:=∀ (st:PS S) (l:Nat),R K st ≤ r → Inv K st → l ≤ 11 → Tr len (ex l) st fun a st'=>∃ e,Got K st e a st' ∧ e.depL l + st.deep ≤ 40 ∧ noOp l st'.tok
def OpIH (K:StrmOk S len) (r:Nat) (op:PM S Nat):Prop:=∀ st:PS S,R K st ≤ r → Inv K st → Tr len op st fun a st'=>∃ e,Got K st e a st' ∧ e.depO + st.deep ≤ 40
theorem list_tr {ex:Nat → PM S Nat} {r n:Nat} (hex:ExIH K r ex) (hr:R K st ≤ r) (hn:R K st < n) (hi:Inv K st) :
  Tr len (listP ex n) st fun a st'=>∃ l,Mv K st st' (Ex.flats st.nodes.length l) 1 ∧ a = Ex.roots st.nodes.length l ∧ Ex.goods len st.tok.at_ l ∧ Ex.deps l + st.deep ≤ 40:=by
 unfold listP
 refine .bind (.take hi (fun st' _ h=>?_) fun _=>?_)
 ·exact .pure ⟨[],h,rfl,trivial,by simp [Ex.deps];exact hi.deep⟩
 ·simp only [Bool.false_eq_true,if_false]
  refine Tr.loop (K:=K) (fun acc st2=>∃ l k,Mv K st st2 (Ex.flats st.nodes.length l) k ∧ acc = Ex.roots st.nodes.length l ∧ Ex.goods len st.tok.at_ l ∧ Ex.deps l + st.deep ≤ 40) ?_ n hn ⟨[],0,.refl hi,rfl,trivial,by simp [Ex.deps];exact hi.deep⟩
  intro acc st2 ⟨l,k,h1,h2,h3,h4⟩
  subst h2
  unfold listB
  refine .bind ((hex st2 1 (by have:=h1.less;omega) h1.inv (by omega)).mono fun a st3 ⟨e,hg,hd,_⟩=>?_)
  have hnl:st2.nodes.length = st.nodes.length + Ex.sizes l:=by rw [h1.nlen,Ex.flats_len]
  have hroot:a = st.nodes.length + Ex.sizes l + e.size - 1:=by have:=hg.at_;omega
  have hfl:Ex.flats st.nodes.length l ++ Ex.flat st2.nodes.length e = Ex.flats st.nodes.length (l ++ [e]):=by rw [Ex.flats_app,hnl]
  have hdd:Ex.deps (l ++ [e]) + st.deep ≤ 40:=by
   rw [Ex.deps_app]
   rw [Ex.depL1 hg.good,h1.deep] at hd
   omega
  have hgd:Ex.goods len st.tok.at_ (l ++ [e]):=Ex.goods_app h3 hg.good (by have:=h1.at_;have:=hg.ge;omega)
  refine .bind (.take hg.mv.inv (fun st4 _ h5=>?_) fun _=>?_)
  ·refine .pure ⟨l ++ [e],((h1.trans hg.mv).trans h5).cast (by rw [List.append_nil];exact hfl) (by omega),by rw [Ex.roots_app,hroot],hgd,hdd⟩
  ·simp only [Bool.false_eq_true,if_false]
   refine .bind (.must hg.mv.inv fun st4 _ h5=>?_)
   refine .pure ⟨⟨l ++ [e],k,((h1.trans hg.mv).trans h5).cast (by rw [List.append_nil];exact hfl) (by omega),by rw [Ex.roots_app,hroot],hgd,hdd⟩,?_⟩
   have:=hg.mv.less;have:=h5.less;omega
theorem primary_tr {ex:Nat → PM S Nat} {r n:Nat} (hex:ExIH K r ex) (hr:R K st ≤ r + 1) (hn:R K st ≤ n) (hi:Inv K st) :
  Tr len (primaryP ex n) st fun a st'=>∃ e,Got K st e a st' ∧ e.depP + st.deep ≤ 41:=by
 have hd40:=hi.deep
 unfold primaryP
 refine .bind (.tok ?_)
 by_cases h3:st.tok.kind = 3
 ·rw [if_pos h3]
  refine .bind (.nextP hi (by omega) fun st1 h1=>?_)
  have ha:=(hi.lo (by omega)).2
  refine .node h1.inv fun st2 h2 _=>⟨.num st.tok.at_ st.tok.n,⟨(h1.trans h2).cast rfl (by omega),by rw [h1.nlen];rfl,⟨ha,hi.tok.num h3⟩,Nat.le_refl _,by have:=h1.at_;have:=h2.at_;simp only [Ex.at_];omega⟩,by simp [Ex.depP,Ex.isUB,Ex.dep];omega⟩
 rw [if_neg h3]
 by_cases h4:st.tok.kind = 4
 ·rw [if_pos h4]
  refine .bind (.nextP hi (by omega) fun st1 h1=>?_)
  have ha:=(hi.lo (by omega)).2
  refine .node h1.inv fun st2 h2 _=>⟨.text st.tok.at_ st.tok.text,⟨(h1.trans h2).cast rfl (by omega),by rw [h1.nlen];rfl,⟨ha,hi.tok.text h4⟩,Nat.le_refl _,by have:=h1.at_;have:=h2.at_;simp only [Ex.at_];omega⟩,by simp [Ex.depP,Ex.isUB,Ex.dep];omega⟩
 rw [if_neg h4]
 by_cases h1:st.tok.kind = 1
 ·rw [if_pos h1]
  have ha:=(hi.lo (by omega)).2
  refine .bind (.nextP hi (by omega) fun st1 m1=>?_)
  refine .bind (.is ?_)
  cases hb:isB st1.tok [40] with
  | false=>
   simp only [Bool.false_eq_true,if_false]
   refine .node m1.inv fun st2 h2 _=>⟨.name st.tok.at_ st.tok.text,⟨(m1.trans h2).cast rfl (by omega),by rw [m1.nlen];rfl,⟨ha,hi.tok.name h1⟩,Nat.le_refl _,by have:=m1.at_;have:=h2.at_;simp only [Ex.at_];omega⟩,by simp [Ex.depP,Ex.isUB,Ex.dep];omega⟩
  | true=>
   simp only [if_true]
   refine .bind (.nextP m1.inv (isB_kind hb) fun st2 m2=>?_)
   have hr2:=m1.less
   have hr3:=m2.less
   refine .bind ((list_tr hex (by omega) (by omega) m2.inv).mono fun kids st3 ⟨l,m3,hk,hg,hdp⟩=>?_)
   refine .node m3.inv fun st4 m4 _=>?_
   have hn2:st2.nodes.length = st.nodes.length:=by rw [m2.nlen,m1.nlen];simp
   rw [hn2] at m3 hk
   subst hk
   refine ⟨.call st.tok.at_ st.tok.text l,⟨(((m1.trans m2).trans m3).trans m4).cast (by simp [Ex.flat]) (by omega),by rw [m3.nlen,hn2,Ex.flats_len];rfl,⟨ha,hi.tok.name h1,?_⟩,Nat.le_refl _,by have:=m1.at_;have:=m2.at_;have:=m3.at_;have:=m4.at_;simp only [Ex.at_];omega⟩,?_⟩
   ·have:st.tok.at_ ≤ st2.tok.at_:=by have:=m1.at_;have:=m2.at_;omega
    exact Ex.goods_le this hg
   ·have hd2:st2.deep = st.deep:=by rw [m2.deep,m1.deep]
    simp only [Ex.depP,Ex.isUB,Ex.dep,Bool.false_eq_true,if_false];omega
 rw [if_neg h1]
 refine .bind (.must hi fun st1 _ m1=>?_)
 have hr1:=m1.less
 refine .bind ((hex st1 1 (by omega) m1.inv (by omega)).mono fun a st2 ⟨e,hg,hd,_⟩=>?_)
 refine .bind (.must hg.mv.inv fun st3 _ m3=>?_)
 have hn1:st1.nodes.length = st.nodes.length:=by rw [m1.nlen];simp
 refine .pure ⟨e,⟨((m1.trans hg.mv).trans m3).cast (by rw [hn1];simp) (by omega),by rw [hg.at_,hn1],hg.good,by have:=m1.at_;have:=hg.ge;omega,by have:=hg.lt;have:=m3.at_;omega⟩,?_⟩
 rw [Ex.depL1 hg.good,m1.deep] at hd
 have:=Ex.depP_le (e:=e)
 omega
theorem index_tr {ex:Nat → PM S Nat} {r n x:Nat} {e:Ex} (hex:ExIH K r ex) (hr:R K st1 ≤ r) (hn:R K st1 < n) (hg:Got K st e x st1) (hd:e.depP + st.deep ≤ 41) :
  Tr len (loopP (indexB ex) n x) st1 fun a st'=>∃ e,Got K st e a st' ∧ e.depP + st.deep ≤ 41:=by
 refine Tr.loop (K:=K) (fun x st2=>R K st2 ≤ r ∧ ∃ e,Got K st e x st2 ∧ e.depP + st.deep ≤ 41) ?_ n hn ⟨hr,e,hg,hd⟩
 intro x st2 ⟨hr2,e,hg,hd⟩
 unfold indexB
 refine .bind (.take hg.mv.inv (fun st3 _ m3=>?_) fun _=>?_)
 ·simp only [if_true]
  have hr3:=m3.less
  refine .bind ((hex st3 1 (by omega) m3.inv (by omega)).mono fun i st4 ⟨ei,hi,hdi,_⟩=>?_)
  refine .bind (.must hi.mv.inv fun st5 _ m5=>?_)
  obtain ⟨nd,hnd,hat,_⟩:=hg.node ((m3.trans hi.mv).trans m5)
  refine .bind (.nodeAt hnd ?_)
  refine .bind (.node m5.inv fun st6 m6 _=>?_)
  have hn3:st3.nodes.length = st.nodes.length + e.size:=by rw [m3.nlen,hg.mv.nlen,Ex.flat_len];simp
  have hn5:st5.nodes.length = st.nodes.length + e.size + ei.size:=by rw [m5.nlen,hi.mv.nlen,Ex.flat_len,hn3];simp
  have hx:x = st.nodes.length + e.size - 1:=by have:=hg.at_;omega
  have hii:i = st.nodes.length + e.size + ei.size - 1:=by have:=hi.at_;omega
  refine .pure ⟨⟨by have:=hi.mv.less;have:=m5.less;have:=m6.less;omega,.index e ei,⟨((((hg.mv.trans m3).trans hi.mv).trans m5).trans m6).cast ?_ (by omega),?_,⟨hg.good,hi.good,?_⟩,hg.ge,?_⟩,?_⟩,?_⟩
  ·rw [hn3,hat,hx,hii];simp [Ex.flat]
  ·rw [hn5];simp only [Ex.size];omega
  ·have:=hg.lt;have:=m3.at_;have:=hi.ge;omega
  ·have:=hg.lt;have:=m3.at_;have:=hi.mv.at_;have:=m5.at_;have:=m6.at_;simp only [Ex.at_];omega
  ·rw [Ex.depL1 hi.good,m3.deep,hg.mv.deep] at hdi
   rw [Ex.depP_index]
   omega
  ·have:=hi.mv.less;have:=m5.less;have:=m6.less;omega
 ·exact .pure ⟨e,hg,hd⟩
theorem unary_tr {op:PM S Nat} {r:Nat} {k:Nat} (hop:OpIH K r op) (hr:R K st1 ≤ r) (m1:Mv K st st1 [] 1) (ha:st.tok.at_ < len) (hk:1 ≤ k ∧ k ≤ 3) (hd0:1 ≤ st.deep) :
  Tr len (unaryP op st.tok.at_ (k:Int)) st1 fun a st'=>∃ e,Got K st e a st' ∧ e.depO + st.deep ≤ 41:=by
 unfold unaryP
 refine .bind ((hop st1 hr m1.inv).mono fun x st2 ⟨e,hg,hd⟩=>?_)
 have hn1:st1.nodes.length = st.nodes.length:=by rw [m1.nlen];simp
 refine .node hg.mv.inv fun st3 m3 _=>⟨.un st.tok.at_ k e,⟨((m1.trans hg.mv).trans m3).cast ?_ (by omega),?_,⟨ha,hg.good,?_,hk.1,hk.2⟩,Nat.le_refl _,?_⟩,?_⟩
 ·have hx:x = st.nodes.length + e.size - 1:=by have:=hg.at_;omega
  rw [hn1,hx];simp [Ex.flat]
 ·rw [hg.mv.nlen,hn1,Ex.flat_len];simp only [Ex.size];omega
 ·have:=m1.at_;have:=hg.ge;omega
 ·have:=m1.at_;have:=hg.mv.at_;have:=m3.at_;simp only [Ex.at_];omega
 ·rw [m1.deep] at hd
  rw [Ex.depO_un]
  omega
theorem operand_tr {op:PM S Nat} {ex:Nat → PM S Nat} {r n:Nat} (hop:∀ r',r' < r → OpIH K r' op) (hex:∀ r',r' < r → ExIH K r' ex) (hr:R K st ≤ r) (hn:R K st ≤ n) (hi:Inv K st) (hr0:R K st = 0 → st.tok.kind = 0) :
  Tr len (operandP op ex n) st fun a st'=>∃ e,Got K st e a st' ∧ e.depO + st.deep ≤ 40:=by
 unfold operandP
 refine .bind (.down hi fun hd=>.bind (.tok ?_))
 have hi1:=hi.down hd
 refine .bind (Tr.mono (Q:=fun a st'=>∃ e,Got K { st with deep:=st.deep + 1 } e a st' ∧ e.depO + (st.deep + 1) ≤ 41) ?_ fun a st' ⟨e,hg,hde⟩=>?_)
 ·unfold innerP
  have un {k:Nat} {m:List UInt8} (hk:1 ≤ k ∧ k ≤ 3) (st':PS S) (hb:isB st.tok m = true) (m1:Mv K { st with deep:=st.deep + 1 } st' [] 1):Tr len (unaryP op st.tok.at_ (k:Int)) st' fun a st'=>∃ e,Got K { st with deep:=st.deep + 1 } e a st' ∧ e.depO + (st.deep + 1) ≤ 41:=by
   have hlt:R K st' < R K st:=m1.less
   exact unary_tr (hop (R K st') (by omega)) (Nat.le_refl _) m1 (hi.lo (isB_kind hb)).2 hk (by simp only;omega)
  refine .bind (.take hi1 (fun st' hb m1=>un (k:=1) (by omega) st' hb m1) fun _=>?_)
  simp only [Bool.false_eq_true,if_false]
  refine .bind (.take hi1 (fun st' hb m1=>un (k:=2) (by omega) st' hb m1) fun _=>?_)
  simp only [Bool.false_eq_true,if_false]
  refine .bind (.take hi1 (fun st' hb m1=>un (k:=3) (by omega) st' hb m1) fun _=>?_)
  simp only [Bool.false_eq_true,if_false]
  by_cases h0:st.tok.kind = 0
  ·-- at the end
   have hnb (m:List UInt8):isB st.tok m = false:=by unfold isB;rw [h0];simp
   refine .bind ?_
   unfold primaryP
   refine .bind (.tok ?_)
   rw [if_neg (by simp only;omega),if_neg (by simp only;omega),if_neg (by simp only;omega)]
   refine .bind (.must hi1 fun st' hb _=>?_)
   rw [hnb] at hb;cases hb
  ·have hpos:R K st ≠ 0:=fun h=>h0 (hr0 h)
   have hRe:R K { st with deep:=st.deep + 1 } = R K st:=rfl
   refine .bind ((primary_tr (r:=R K st - 1) (n:=n) (hex (R K st - 1) (by omega)) (by rw [hRe];omega) (by rw [hRe];exact hn) hi1).mono fun x st1 ⟨e,hg,hde⟩=>?_)
   have hl:=hg.mv.less
   rw [hRe] at hl
   refine (index_tr (r:=R K st - 1) (hex (R K st - 1) (by omega)) (by omega) (by omega) hg hde).mono fun a st' ⟨e,hg,hde⟩=>⟨e,hg,?_⟩
   have:=Ex.depO_le (e:=e)
   simp only at hde
   omega
 ·obtain ⟨hne,hmv⟩:=hg.mv.downUp hi.deep
  refine .bind (.up hne (.pure ⟨e,⟨hmv,hg.at_,hg.good,hg.ge,hg.lt⟩,by omega⟩))
theorem expr_tr {op:PM S Nat} {ex:Nat → PM S Nat} {r n l:Nat} (hop:OpIH K r op) (hex:∀ r',r' < r → ExIH K r' ex) (hr:R K st ≤ r) (hn:R K st ≤ n) (hi:Inv K st) (hl:l ≤ 11) :
  Tr len (exprP op ex n l) st fun a st'=>∃ e,Got K st e a st' ∧ e.depL l + st.deep ≤ 40 ∧ noOp l st'.tok:=by
 unfold exprP
 refine .bind ((hop st hr hi).mono fun x st1 ⟨e,hg,hd⟩=>?_)
 have hl1:=hg.mv.less
 refine Tr.loop (K:=K) (fun x st2=>R K st2 < r ∧ ∃ e,Got K st e x st2 ∧ (e.depO + st.deep ≤ 40 ∨ (e.dep + st.deep ≤ 40 ∧ l ≤ e.lv ∧ noOp (e.lv + 1) st2.tok))) ?_ n (by omega) ⟨by omega,e,hg,.inl hd⟩
 intro x st2 ⟨hr2,e,hg,hd⟩
 unfold exprB
 refine .bind (.tok ?_)
 have eo:(if st2.tok.kind = 5 then binOp st2.tok.text else 0) = opTok st2.tok:=rfl
 simp only [eo]
 have hdl:e.depL l + st.deep ≤ 40:=by
  rcases hd with hd | ⟨hd,hle,_⟩
  ·have:=Ex.depL_le (e:=e) l (by omega);omega
  ·unfold Ex.depL;rw [if_neg (by omega)];exact hd
 by_cases h0:opTok st2.tok = 0
 ·rw [if_pos h0];exact .pure ⟨e,hg,hdl,.inl h0⟩
 rw [if_neg h0]
 by_cases hlt:level (opTok st2.tok) < l
 ·rw [if_pos hlt];exact .pure ⟨e,hg,hdl,.inr hlt⟩
 rw [if_neg hlt]
 have hk5:st2.tok.kind = 5:=by unfold opTok at h0;split at h0;assumption;exact absurd rfl h0
 have hop:4 ≤ opTok st2.tok ∧ opTok st2.tok ≤ 21:=by
  have:opTok st2.tok = binOp st2.tok.text:=by unfold opTok;rw [if_pos hk5]
  rw [this] at h0 ⊢
  exact binOp_le _ h0
 have hdx:e.depL (level (opTok st2.tok)) + st.deep ≤ 40:=by
  rcases hd with hd | ⟨hd,_,hno⟩
  ·have:=Ex.depL_le (e:=e) (level (opTok st2.tok)) (by have:=level_le (opTok st2.tok);omega);omega
  ·unfold Ex.depL;rw [if_neg (by rcases hno with h | h <;> omega)];exact hd
 refine .bind (.nextP hg.mv.inv (by omega) fun st3 m3=>?_)
 have hl3:=m3.less
 refine .bind ((hex (R K st3) (by omega) st3 (level (opTok st2.tok) + 1) (Nat.le_refl _) m3.inv (by have:=level_le (opTok st2.tok);omega)).mono fun y st4 ⟨ey,hy,hdy,hnoy⟩=>?_)
 obtain ⟨nd,hnd,hat,_⟩:=hg.node (m3.trans hy.mv)
 refine .bind (.nodeAt hnd ?_)
 refine .bind (.node hy.mv.inv fun st5 m5 htok=>?_)
 have hn3:st3.nodes.length = st.nodes.length + e.size:=by rw [m3.nlen,hg.mv.nlen,Ex.flat_len];simp
 have hn4:st4.nodes.length = st.nodes.length + e.size + ey.size:=by rw [hy.mv.nlen,Ex.flat_len,hn3]
 have hx:x = st.nodes.length + e.size - 1:=by have:=hg.at_;omega
 have hyy:y = st.nodes.length + e.size + ey.size - 1:=by have:=hy.at_;omega
 refine .pure ⟨⟨by have:=hy.mv.less;have:=m5.less;omega,.bin (opTok st2.tok) e ey,⟨(((hg.mv.trans m3).trans hy.mv).trans m5).cast ?_ (by omega),?_,⟨hg.good,hy.good,?_,hop⟩,hg.ge,?_⟩,.inr ⟨?_,?_,?_⟩⟩,?_⟩
 ·rw [hn3,hat,hx,hyy];simp [Ex.flat]
 ·rw [hn4];simp only [Ex.size];omega
 ·have:=hg.lt;have:=m3.at_;have:=hy.ge;omega
 ·have:=hg.lt;have:=m3.at_;have:=hy.mv.at_;have:=m5.at_;simp only [Ex.at_];omega
 ·rw [m3.deep,hg.mv.deep] at hdy
  rw [Ex.dep_bin]
  omega
 ·simp only [Ex.lv];omega
 ·rw [htok];exact hnoy
 ·have:=hy.mv.less;have:=m5.less;omega
theorem ex_tr:∀ (n:Nat),(∀ r,2 * r + 1 ≤ n → OpIH K r (exP (S:=S) n none)) ∧ ∀ r,2 * r + 2 ≤ n → ExIH K r fun l=>exP (S:=S) n (some l):=by
 intro n
 induction n with
 | zero=>exact ⟨fun r h=>by omega,fun r h=>by omega⟩
 | succ n ih=>
  refine ⟨fun r h st hr hi=>?_,fun r h st l hr hi hl=>?_⟩
  ·exact operand_tr (r:=r) (fun r' hr'=>ih.1 r' (by omega)) (fun r' hr'=>ih.2 r' (by omega)) hr (by omega) hi fun h0=>by
    unfold R at h0;split at h0;assumption;omega
  ·exact expr_tr (r:=r) (ih.1 r (by omega)) (fun r' hr'=>ih.2 r' (by omega)) hr (by omega) hi hl
end
end Go.Front

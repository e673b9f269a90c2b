/- A stream that gives an expression's tokens is parsed to that expression. -/
import Derived.Test.YtlbieeajocjpeaaGreatDoorBk1
import Derived.Test.YtlbieeajocjpeaaGreatDoorTr2
set_option linter.unusedSimpArgs false
set_option linter.unusedVariables false
namespace Go.Front
def hdT:List Tok → Tok
 | []=>⟨0,0,[],0⟩
 | t :: _=>t
structure Cf where
 ts:List Tok
 nd:List Node
 d:Nat
section
variable {S:Strm} {α β:Type}
structure Is (S:Strm) (st:PS S) (A:Cf):Prop where
 tok:tokEq st.tok (hdT A.ts)
 rest:A.ts ≠ [] → Feeds S st.pos A.ts.tail
 nodes:st.nodes.map Node.strip = A.nd
 deep:st.deep = A.d
def Rb (m:PM S α) (A:Cf) (Q:α → Prop) (C:Cf):Prop:=
 ∀ st:PS S,Is S st A → ∃ a st',m st = some (.ok (a,st')) ∧ Q a ∧ Is S st' C
variable {m:PM S α} {k:α → PM S β} {A B C:Cf} {Q:α → Prop} {P:β → Prop} {ts:List Tok} {nd:List Node} {d:Nat} {t:Tok}
theorem Rb.bind (h:Rb m A Q B) (g:∀ a,Q a → Rb (k a) B P C):Rb (m >>= k) A P C:=by
 intro st hs
 obtain ⟨a,st',h1,h2,h3⟩:=h st hs
 obtain ⟨b,st2,h4,h5,h6⟩:=g a h2 st' h3
 exact ⟨b,st2,by rw [PM.bind_ok h1];exact h4,h5,h6⟩
theorem Rb.pure {a:α} (h:Q a):Rb (Pure.pure a:PM S α) A Q A:=fun st hs=>⟨a,st,rfl,h,hs⟩
theorem Rb.to {C':Cf} (h:Rb m A Q C) (e:C = C'):Rb m A Q C':=e ▸ h
theorem Rb.from {A':Cf} (h:Rb m A Q C) (e:A' = A):Rb m A' Q C:=e ▸ h
theorem Rb.mono {Q':α → Prop} (h:Rb m A Q C) (e:∀ a,Q a → Q' a):Rb m A Q' C:=fun st hs=>by
 obtain ⟨a,st',h1,h2,h3⟩:=h st hs
 exact ⟨a,st',h1,e a h2,h3⟩
theorem Feeds.nxt {q:S.Pos}:∀ {l:List Tok},Feeds S q l → ∃ t' q',S.nxt q = .inr (t',q') ∧ tokEq t' (hdT l) ∧ (l ≠ [] → Feeds S q' l.tail)
 | [],⟨t,q',h1,h2⟩=>⟨t,q',h1,h2,fun h=>absurd rfl h⟩
 | _ :: _,⟨t,q',h1,h2,h3⟩=>⟨t,q',h1,h2,fun _=>h3⟩
theorem Rb.tokP {k:Tok → PM S β} (h:∀ t',tokEq t' (hdT A.ts) → Rb (k t') A P C):Rb (tokP >>= k) A P C:=by
 intro st hs
 exact h st.tok hs.tok st hs
theorem Rb.is {w:List UInt8} {k:Bool → PM S β} (h:Rb (k (isB (hdT A.ts) w)) A P C):Rb (isP w >>= k) A P C:=by
 intro st hs
 rw [is_st,hs.tok.isB w]
 exact h st hs
theorem Rb.nextP {k:Tok → PM S β} (h:∀ t',tokEq t' t → Rb (k t') ⟨ts,nd,d⟩ P C):Rb (nextP >>= k) ⟨t :: ts,nd,d⟩ P C:=by
 intro st hs
 obtain ⟨t',q',h1,h2,h3⟩:=(hs.rest nofun).nxt
 obtain ⟨tk,ps,ns,dp⟩:=st
 rw [next_st h1]
 exact h tk hs.tok _ ⟨h2,h3,hs.nodes,hs.deep⟩
theorem Rb.take1 {w:List UInt8} {k:Bool → PM S β} (hb:isB t w = true) (h:Rb (k true) ⟨ts,nd,d⟩ P C):Rb (takeP w >>= k) ⟨t :: ts,nd,d⟩ P C:=by
 intro st hs
 obtain ⟨t',q',h1,h2,h3⟩:=(hs.rest nofun).nxt
 obtain ⟨tk,ps,ns,dp⟩:=st
 have hw:=hs.tok.isB w
 rw [take_yes (hw.trans hb) h1]
 exact h _ ⟨h2,h3,hs.nodes,hs.deep⟩
theorem Rb.take0 {w:List UInt8} {k:Bool → PM S β} (hb:isB (hdT A.ts) w = false) (h:Rb (k false) A P C):Rb (takeP w >>= k) A P C:=by
 intro st hs
 have hw:=hs.tok.isB w
 unfold takeP
 rw [PM.bind_assoc,is_st,hw,hb]
 exact h st hs
theorem Rb.must {w:List UInt8} {k:Unit → PM S β} (hb:isB t w = true) (h:Rb (k ()) ⟨ts,nd,d⟩ P C):Rb (mustP w >>= k) ⟨t :: ts,nd,d⟩ P C:=by
 intro st hs
 obtain ⟨t',q',h1,h2,h3⟩:=(hs.rest nofun).nxt
 obtain ⟨tk,ps,ns,dp⟩:=st
 have hw:=hs.tok.isB w
 rw [must_yes (hw.trans hb) h1]
 exact h _ ⟨h2,h3,hs.nodes,hs.deep⟩
theorem Rb.kind {n:Nat} {k:Tok → PM S β} (hb:t.kind = n) (h:∀ t',tokEq t' t → Rb (k t') ⟨ts,nd,d⟩ P C):Rb (kindP n >>= k) ⟨t :: ts,nd,d⟩ P C:=by
 intro st hs
 obtain ⟨t',q',h1,h2,h3⟩:=(hs.rest nofun).nxt
 obtain ⟨tk,ps,ns,dp⟩:=st
 have hw:tk.kind = t.kind:=hs.tok.1
 rw [kind_yes (hw.trans hb) h1]
 exact h tk hs.tok _ ⟨h2,h3,hs.nodes,hs.deep⟩
theorem Rb.node {x:Node} {Q:Nat → Prop} (hn:nd.length < 4096) (h:Q nd.length):Rb (nodeP x:PM S Nat) ⟨ts,nd,d⟩ Q ⟨ts,nd ++ [x.strip],d⟩:=by
 intro st hs
 have hl:st.nodes.length = nd.length:=by have:=congrArg List.length hs.nodes;simpa using this
 refine ⟨st.nodes.length,{ st with nodes:=st.nodes ++ [x] },by unfold nodeP;rw [if_neg (by omega)],by rw [hl];exact h,hs.tok,hs.rest,?_,hs.deep⟩
 rw [List.map_append,hs.nodes];rfl
theorem Rb.nodeAt {x:Nat} {k:Node → PM S β} (hx:x < nd.length) (h:∀ y,nd[x]? = some y.strip → Rb (k y) ⟨ts,nd,d⟩ P C):Rb (nodeAtP x >>= k) ⟨ts,nd,d⟩ P C:=by
 intro st hs
 have hn:st.nodes.map Node.strip = nd:=hs.nodes
 have hl:st.nodes.length = nd.length:=by have:=congrArg List.length hn;simpa using this
 have hg:st.nodes[x]? = some st.nodes[x]:=List.getElem?_eq_getElem (by omega)
 have h1:nodeAtP x st = some (.ok (st.nodes[x],st)):=by unfold nodeAtP;rw [hg]
 rw [PM.bind_ok h1]
 refine h _ ?_ st hs
 have:=congrArg (·[x]?) hn
 simp only [List.getElem?_map,hg] at this
 exact this.symm
theorem Rb.down {k:Unit → PM S β} (hd:d < 40) (h:Rb (k ()) ⟨ts,nd,d + 1⟩ P C):Rb (downP >>= k) ⟨ts,nd,d⟩ P C:=by
 intro st hs
 have hdd:st.deep = d:=hs.deep
 have h1:downP st = some (.ok ((),{ st with deep:=st.deep + 1 })):=by unfold downP;rw [if_neg (by omega)]
 rw [PM.bind_ok h1]
 exact h _ ⟨hs.tok,hs.rest,hs.nodes,by rw [← hdd]⟩
theorem Rb.up {k:Unit → PM S β} (h:Rb (k ()) ⟨ts,nd,d⟩ P C):Rb (upP >>= k) ⟨ts,nd,d + 1⟩ P C:=by
 intro st hs
 have hdd:st.deep = d + 1:=hs.deep
 have h1:upP st = some (.ok ((),{ st with deep:=st.deep - 1 })):=by unfold upP;rw [if_neg (by omega)]
 rw [PM.bind_ok h1]
 exact h _ ⟨hs.tok,hs.rest,hs.nodes,by rw [hdd];rfl⟩
theorem Rb.loopI {body:α → PM S (Sum α β)} {n:Nat} {a a':α} (h:Rb (body a) A (· = .inl a') B) (g:Rb (loopP body n a') B P C):Rb (loopP body (n + 1) a) A P C:=by
 unfold loopP
 exact h.bind fun r hr=>by subst hr;exact g
theorem Rb.loopR {body:α → PM S (Sum α β)} {n:Nat} {a:α} {b:β} (h:Rb (body a) A (· = .inr b) B) (hp:P b):Rb (loopP body (n + 1) a) A P B:=by
 unfold loopP
 exact h.bind fun r hr=>by subst hr;exact .pure hp
def brT (is:Bool) (l:List Tok):List Tok:=if is then mkT [40] :: (l ++ [mkT [41]]) else l
mutual
def Ex.tk:Ex → List Tok
 | .num _ n=>[numT n]
 | .text _ s=>[txtT s]
 | .name _ s=>[nmT s]
 | .call _ s l=>nmT s :: mkT [40] :: ((Ex.tkr l).tail ++ [mkT [41]])
 | .index x i=>brT x.isUB x.tk ++ mkT [91] :: (i.tk ++ [mkT [93]])
 | .un _ op x=>mkT (opName op) :: brT x.isBin x.tk
 | .bin op x y=>brT (decide (x.lv < level op)) x.tk ++ mkT (opName op) :: brT (decide (y.lv ≤ level op)) y.tk
def Ex.tkr:List Ex → List Tok
 | []=>[]
 | x :: l=>mkT [44] :: (x.tk ++ Ex.tkr l)
end
theorem spell_br (is:Bool) (l:List Tok):spell (brT is l) = brack is (spell l):=by
 cases is
 ·rfl
 ·show spell (mkT [40] :: (l ++ [mkT [41]])) = putS [40] ++ spell l ++ putS [41]
  rw [spell_cons,spell_app,List.append_assoc]
  congr 2
mutual
theorem Ex.spell_tk:∀ e:Ex,spell e.tk = e.pr
 | .num _ n=>by simp [Ex.tk,spell,Ex.pr]
 | .text _ s=>by simp [Ex.tk,spell,Ex.pr]
 | .name _ s=>by simp [Ex.tk,spell,Ex.pr]
 | .call _ s l=>by
  have h:=Ex.spell_tkr l
  simp only [Ex.tk,Ex.pr,spell_cons,spell_app,sp_nm,sp_mk]
  cases l with
  | nil=>simp [Ex.tkr,Ex.prs,joinC,spell]
  | cons x l=>
   simp only [Ex.tkr,List.tail_cons,Ex.prs,List.flatMap_cons,joinC,spell_cons,spell_app,sp_mk,List.append_assoc] at h ⊢
   have h2:=List.append_cancel_left h
   rw [← List.append_assoc (spell x.tk),h2]
   simp [spell]
 | .index x i=>by simp only [Ex.tk,Ex.pr,spell_app,spell_cons,spell_br,Ex.spell_tk x,Ex.spell_tk i,sp_mk,List.append_assoc];simp [spell]
 | .un _ op x=>by simp only [Ex.tk,Ex.pr,spell_cons,spell_br,Ex.spell_tk x,sp_mk]
 | .bin op x y=>by simp only [Ex.tk,Ex.pr,spell_app,spell_cons,spell_br,Ex.spell_tk x,Ex.spell_tk y,sp_mk,List.append_assoc]
theorem Ex.spell_tkr:∀ l:List Ex,spell (Ex.tkr l) = (Ex.prs l).flatMap fun y=>putS [44] ++ y
 | []=>rfl
 | x :: l=>by simp only [Ex.tkr,Ex.prs,List.flatMap_cons,spell_cons,spell_app,Ex.spell_tk x,Ex.spell_tkr l,sp_mk,List.append_assoc]
end
theorem opName_mark:∀ op:Nat,1 ≤ op → op ≤ 21 → opName op ∈ marks:=fun op h1 h2=>(by decide:∀ q < 22,1 ≤ q → opName q ∈ marks) op (by omega) h1
theorem brT_ok {b:Bool} {l:List Tok} (h:∀ t ∈ l,TkOk t):∀ t ∈ brT b l,TkOk t:=by
 intro t ht
 cases b
 ·exact h t ht
 ·simp only [brT,if_true,List.mem_cons,List.mem_append,List.not_mem_nil,or_false] at ht
  rcases ht with rfl | ht | rfl
  ·exact .mk (by decide)
  ·exact h t ht
  ·exact .mk (by decide)
mutual
theorem Ex.tk_ok {len:Nat}:∀ e:Ex,e.good len → ∀ t ∈ e.tk,TkOk t
 | .num _ n,h,t,ht=>by simp [Ex.tk] at ht;subst ht;exact .num h.2.1 h.2.2
 | .text _ s,h,t,ht=>by simp [Ex.tk] at ht;subst ht;exact .txt h.2
 | .name _ s,h,t,ht=>by simp [Ex.tk] at ht;subst ht;exact .nm h.2
 | .call _ s l,h,t,ht=>by
  simp only [Ex.tk,List.mem_cons,List.mem_append,List.not_mem_nil,or_false] at ht
  rcases ht with rfl | rfl | ht | rfl
  ·exact .nm h.2.1
  ·exact .mk (by decide)
  ·exact Ex.tkr_ok l h.2.2 t (List.mem_of_mem_tail ht)
  ·exact .mk (by decide)
 | .index x i,h,t,ht=>by
  simp only [Ex.tk,List.mem_cons,List.mem_append,List.not_mem_nil,or_false] at ht
  rcases ht with ht | rfl | ht | rfl
  ·exact brT_ok (Ex.tk_ok x h.1) t ht
  ·exact .mk (by decide)
  ·exact Ex.tk_ok i h.2.1 t ht
  ·exact .mk (by decide)
 | .un _ op x,h,t,ht=>by
  simp only [Ex.tk,List.mem_cons] at ht
  rcases ht with rfl | ht
  ·exact .mk (opName_mark op h.2.2.2.1 (by have:=h.2.2.2.2;omega))
  ·exact brT_ok (Ex.tk_ok x h.2.1) t ht
 | .bin op x y,h,t,ht=>by
  simp only [Ex.tk,List.mem_cons,List.mem_append] at ht
  rcases ht with ht | rfl | ht
  ·exact brT_ok (Ex.tk_ok x h.1) t ht
  ·exact .mk (opName_mark op (by have:=h.2.2.2.1;omega) h.2.2.2.2)
  ·exact brT_ok (Ex.tk_ok y h.2.1) t ht
theorem Ex.tkr_ok {len a:Nat}:∀ l:List Ex,Ex.goods len a l → ∀ t ∈ Ex.tkr l,TkOk t
 | [],_,t,ht=>by cases ht
 | x :: l,h,t,ht=>by
  simp only [Ex.tkr,List.mem_cons,List.mem_append] at ht
  rcases ht with rfl | ht | ht
  ·exact .mk (by decide)
  ·exact Ex.tk_ok x h.1 t ht
  ·exact Ex.tkr_ok l h.2.2 t ht
end
inductive Fst:Tok → Prop
 | num (n:Int):Fst (numT n)
 | txt (s:List UInt8):Fst (txtT s)
 | nm (s:List UInt8):Fst (nmT s)
 | mk {m:List UInt8} (h:m ∈ ([[40],[45],[33],[126]]:List (List UInt8))):Fst (mkT m)
theorem Fst.not {t:Tok} (h:Fst t) {m:List UInt8} (hm:m ∉ ([[40],[45],[33],[126]]:List (List UInt8))):isB t m = false:=by
 cases h with
 | num n=>rfl
 | txt s=>rfl
 | nm s=>rfl
 | @mk m' h=>
  unfold isB mkT
  have:(m' == m) = false:=by rw [beq_eq_false_iff_ne];rintro rfl;exact hm h
  simp only [this,Bool.and_false]
theorem Ex.fst {len:Nat}:∀ (e:Ex) (ts:List Tok),e.good len → Fst (hdT (e.tk ++ ts))
 | .num _ n,ts,_=>.num n
 | .text _ s,ts,_=>.txt s
 | .name _ s,ts,_=>.nm s
 | .call _ s l,ts,_=>.nm s
 | .index x i,ts,h=>by
  rw [Ex.tk,List.append_assoc]
  cases hb:x.isUB
  ·exact Ex.fst x _ h.1
  ·exact .mk (by decide)
 | .un _ op x,ts,h=>by
  have:=(by decide:∀ q < 4,1 ≤ q → opName q ∈ ([[40],[45],[33],[126]]:List (List UInt8))) op (by have:=h.2.2.2.2;omega) h.2.2.2.1
  exact .mk this
 | .bin op x y,ts,h=>by
  rw [Ex.tk,List.append_assoc]
  cases hb:decide (x.lv < level op)
  ·exact Ex.fst x _ h.1
  ·exact .mk (by decide)
theorem Ex.fst0:∀ (e:Ex) (ts:List Tok),e.isUB = false → isB (hdT (e.tk ++ ts)) [45] = false ∧ isB (hdT (e.tk ++ ts)) [33] = false ∧ isB (hdT (e.tk ++ ts)) [126] = false
 | .num _ n,ts,_=>⟨rfl,rfl,rfl⟩
 | .text _ s,ts,_=>⟨rfl,rfl,rfl⟩
 | .name _ s,ts,_=>⟨rfl,rfl,rfl⟩
 | .call _ s l,ts,_=>⟨rfl,rfl,rfl⟩
 | .index x i,ts,_=>by
  rw [Ex.tk,List.append_assoc]
  cases hb:x.isUB
  ·exact Ex.fst0 x _ hb
  ·exact ⟨rfl,rfl,rfl⟩
 | .un _ _ _,_,h=>by cases h
 | .bin _ _ _,_,h=>by cases h
def fl (b:Nat) (e:Ex):List Node:=(e.flat b).map Node.strip
def fls (b:Nat) (l:List Ex):List Node:=(Ex.flats b l).map Node.strip
theorem fl_len (b:Nat) (e:Ex):(fl b e).length = e.size:=by unfold fl;rw [List.length_map,Ex.flat_len]
theorem fls_len (b:Nat) (l:List Ex):(fls b l).length = Ex.sizes l:=by unfold fls;rw [List.length_map,Ex.flats_len]
theorem fls_cons (b:Nat) (x:Ex) (l:List Ex):fls b (x :: l) = fl b x ++ fls (b + x.size) l:=by unfold fls fl;rw [Ex.flats,List.map_append]
def calm (t:Tok):Prop:=isB t [40] = false ∧ isB t [91] = false
structure RdE (n len:Nat) (op:PM S Nat) (ex:Nat → PM S Nat):Prop where
 o:∀ (e:Ex) (ts:List Tok) (nd:List Node) (d:Nat),e.isBin = false → 4 * e.size + 1 ≤ n → e.good len → e.dep + d ≤ 40 → nd.length + e.size ≤ 4096 → calm (hdT ts) → Rb op ⟨e.tk ++ ts,nd,d⟩ (· = nd.length + e.size - 1) ⟨ts,nd ++ fl nd.length e,d⟩
 q:∀ (e:Ex) (ts:List Tok) (nd:List Node) (d:Nat),4 * e.size + 3 ≤ n → e.good len → 1 + e.dep + d ≤ 40 → nd.length + e.size ≤ 4096 → calm (hdT ts) → Rb op ⟨mkT [40] :: (e.tk ++ mkT [41] :: ts),nd,d⟩ (· = nd.length + e.size - 1) ⟨ts,nd ++ fl nd.length e,d⟩
 x:∀ (e:Ex) (l:Nat) (ts:List Tok) (nd:List Node) (d:Nat),l ≤ e.lv → 4 * e.size + 2 ≤ n → e.good len → e.dep + d ≤ 40 → nd.length + e.size ≤ 4096 → calm (hdT ts) → noOp l (hdT ts) → Rb (ex l) ⟨e.tk ++ ts,nd,d⟩ (· = nd.length + e.size - 1) ⟨ts,nd ++ fl nd.length e,d⟩
 y:∀ (e:Ex) (l:Nat) (ts:List Tok) (nd:List Node) (d:Nat),4 * e.size + 4 ≤ n → e.good len → 1 + e.dep + d ≤ 40 → nd.length + e.size ≤ 4096 → calm (hdT ts) → noOp l (hdT ts) → Rb (ex l) ⟨mkT [40] :: (e.tk ++ mkT [41] :: ts),nd,d⟩ (· = nd.length + e.size - 1) ⟨ts,nd ++ fl nd.length e,d⟩
section
variable {n len:Nat} {op:PM S Nat} {ex:Nat → PM S Nat}
theorem calm_close:calm (mkT [41]):=⟨rfl,rfl⟩
theorem noOp_mk {l:Nat} {m:List UInt8} (h:binOp m = 0):noOp l (mkT m):=.inl (by unfold opTok mkT;rw [if_pos rfl];exact h)
theorem Ex.lv1 {e:Ex} (h:e.good len):1 ≤ e.lv:=Ex.lv_pos h
theorem list_rd (he:RdE n len op ex):∀ (l:List Ex) (x:Ex) (acc:List Nat) (k:Nat) (ts:List Tok) (nd:List Node) (d a:Nat),l.length < k → (∀ y ∈ x :: l,4 * y.size + 2 ≤ n) → Ex.goods len a (x :: l) → Ex.deps (x :: l) + d ≤ 40 → nd.length + Ex.sizes (x :: l) ≤ 4096 →
  Rb (loopP (listB ex) k acc) ⟨x.tk ++ (Ex.tkr l ++ mkT [41] :: ts),nd,d⟩ (· = acc ++ Ex.roots nd.length (x :: l)) ⟨ts,nd ++ fls nd.length (x :: l),d⟩
 | [],x,acc,0,_,_,_,_,hk,_,_,_,_=>by omega
 | [],x,acc,k + 1,ts,nd,d,a,hk,hn,hg,hd,hl=>by
  have hx:=hn x (by simp)
  simp only [Ex.deps,Ex.sizes] at hd hl
  refine Rb.to (Rb.loopR (P:=(· = acc ++ Ex.roots nd.length [x])) (B:=⟨ts,nd ++ fl nd.length x,d⟩) (b:=acc ++ [nd.length + x.size - 1]) ?_ rfl) ?_
  ·unfold listB
   refine Rb.bind (he.x x 1 (mkT [41] :: ts) nd d (Ex.lv1 hg.1) hx hg.1 (by omega) (by omega) calm_close (noOp_mk (by decide))) fun y hy=>?_
   subst hy
   exact .take1 rfl (.pure rfl)
  ·rw [fls_cons,show fls (nd.length + x.size) [] = [] from rfl,List.append_nil]
 | z :: l,x,acc,0,_,_,_,_,hk,_,_,_,_=>by omega
 | z :: l,x,acc,k + 1,ts,nd,d,a,hk,hn,hg,hd,hl=>by
  have hx:=hn x (by simp)
  have hd':Ex.deps (z :: l) + d ≤ 40:=by rw [Ex.deps] at hd;omega
  rw [Ex.deps] at hd
  rw [Ex.sizes] at hl
  have ih:=list_rd he l z (acc ++ [nd.length + x.size - 1]) k ts (nd ++ fl nd.length x) d a (by simpa using hk) (fun y hy=>hn y (by simp at hy ⊢;right;exact hy)) hg.2.2 hd' (by rw [List.length_append,fl_len];omega)
  refine Rb.loopI (a':=acc ++ [nd.length + x.size - 1]) (B:=⟨z.tk ++ (Ex.tkr l ++ mkT [41] :: ts),nd ++ fl nd.length x,d⟩) ?_ ((ih.to ?_).mono ?_)
  ·unfold listB
   refine Rb.bind (he.x x 1 (mkT [44] :: (z.tk ++ (Ex.tkr l ++ mkT [41] :: ts))) nd d (Ex.lv1 hg.1) hx hg.1 (by omega) (by omega) ⟨rfl,rfl⟩ (noOp_mk (by decide)) |>.from ?_) fun y hy=>?_
   ·simp only [Ex.tkr,List.cons_append,List.append_assoc]
   ·subst hy
    exact .take0 rfl (.must rfl (.pure rfl))
  ·rw [fls_cons nd.length x,List.length_append,fl_len,List.append_assoc]
  ·intro r hr
   rw [hr,List.length_append,fl_len]
   simp [Ex.roots]
theorem brk_rd (he:RdE n len op ex) (x:Ex) (k:Nat) {ts:List Tok} {nd:List Node} {d:Nat} (hn:4 * x.size + 2 ≤ n) (hg:x.good len) (hd:x.dep + d ≤ 40) (hl:nd.length + x.size ≤ 4096) :
  Rb (primaryP ex k) ⟨mkT [40] :: (x.tk ++ mkT [41] :: ts),nd,d⟩ (· = nd.length + x.size - 1) ⟨ts,nd ++ fl nd.length x,d⟩:=by
 unfold primaryP
 refine .tokP fun t ht=>?_
 have hk:t.kind = 5:=ht.1
 rw [if_neg (by omega),if_neg (by omega),if_neg (by omega)]
 refine .must rfl (Rb.bind (he.x x 1 _ nd d (Ex.lv1 hg) hn hg hd hl calm_close (noOp_mk (by decide))) fun y hy=>?_)
 subst hy
 exact .must rfl (.pure rfl)
theorem index_rd (he:RdE n len op ex) {x:Nat} (i:Ex) {ts:List Tok} {nd:List Node} {d:Nat} (hx:x < nd.length) (hn:4 * i.size + 2 ≤ n) (hg:i.good len) (hd:i.dep + d ≤ 40) (hl:nd.length + i.size + 1 ≤ 4096) :
  Rb (indexB ex x) ⟨mkT [91] :: (i.tk ++ mkT [93] :: ts),nd,d⟩ (· = .inl (nd.length + i.size)) ⟨ts,nd ++ fl nd.length i ++ [⟨5,0,[],0,0,[x,nd.length + i.size - 1]⟩],d⟩:=by
 unfold indexB
 refine .take1 rfl (Rb.bind (he.x i 1 _ nd d (Ex.lv1 hg) hn hg hd (by omega) ⟨rfl,rfl⟩ (noOp_mk (by decide))) fun y hy=>?_)
 subst hy
 refine .must rfl (.nodeAt (by rw [List.length_append];omega) fun a _=>Rb.bind (Rb.node (by rw [List.length_append,fl_len];omega) rfl) fun b hb=>?_)
 subst hb
 refine .pure ?_
 rw [List.length_append,fl_len]
def Ex.ixs:Ex → Nat
 | .index x _=>(if x.isUB then 0 else x.ixs) + 1
 | _=>0
theorem Ex.ixs_le:∀ e:Ex,e.ixs < e.size
 | .num _ _=>by simp [Ex.ixs,Ex.size]
 | .text _ _=>by simp [Ex.ixs,Ex.size]
 | .name _ _=>by simp [Ex.ixs,Ex.size]
 | .call _ _ _=>by simp [Ex.ixs,Ex.size]
 | .un _ _ _=>by simp [Ex.ixs,Ex.size]
 | .bin _ _ _=>by simp [Ex.ixs,Ex.size]
 | .index x i=>by
  have:=Ex.ixs_le x
  have:=Ex.size_pos i
  simp only [Ex.ixs,Ex.size]
  split <;> omega
theorem Ex.size_le:∀ (l:List Ex),∀ y ∈ l,y.size ≤ Ex.sizes l
 | x :: l,y,hy=>by
  rcases List.mem_cons.1 hy with rfl | hy
  ·rw [Ex.sizes];omega
  ·have:=Ex.size_le l y hy
   rw [Ex.sizes];omega
theorem prim_rd (he:RdE n len op ex):∀ (e:Ex) (ts:List Tok) (nd:List Node) (d k m:Nat) (Q:Nat → Prop) (C:Cf),e.isUB = false → 4 * e.size ≤ n + 2 → e.size ≤ k → e.good len → e.dep + d ≤ 41 → nd.length + e.size ≤ 4096 → isB (hdT ts) [40] = false →
  Rb (loopP (indexB ex) m (nd.length + e.size - 1)) ⟨ts,nd ++ fl nd.length e,d⟩ Q C → Rb (primaryP ex k >>= fun x=>loopP (indexB ex) (e.ixs + m) x) ⟨e.tk ++ ts,nd,d⟩ Q C
 | .num a v,ts,nd,d,k,m,Q,C,_,_,_,hg,hd,hl,h40,hc=>by
  refine Rb.bind (Q:=(· = nd.length)) (B:=⟨ts,nd ++ fl nd.length (.num a v),d⟩) ?_ fun r hr=>by
   subst hr
   rw [show (Ex.num a v).ixs = 0 by simp [Ex.ixs],Nat.zero_add]
   exact hc
  unfold primaryP
  refine .tokP fun t ht=>?_
  have hk:t.kind = 3:=ht.1
  have hv:t.n = v:=ht.2.2
  rw [if_pos hk]
  refine .nextP fun _ _=>Rb.to (Rb.node (by simp only [Ex.size] at hl;omega) rfl) ?_
  rw [hv];rfl
 | .text a v,ts,nd,d,k,m,Q,C,_,_,_,hg,hd,hl,h40,hc=>by
  refine Rb.bind (Q:=(· = nd.length)) (B:=⟨ts,nd ++ fl nd.length (.text a v),d⟩) ?_ fun r hr=>by
   subst hr
   rw [show (Ex.text a v).ixs = 0 by simp [Ex.ixs],Nat.zero_add]
   exact hc
  unfold primaryP
  refine .tokP fun t ht=>?_
  have hk:t.kind = 4:=ht.1
  have hv:t.text = v:=ht.2.1
  rw [if_neg (by omega),if_pos hk]
  refine .nextP fun _ _=>Rb.to (Rb.node (by simp only [Ex.size] at hl;omega) rfl) ?_
  rw [hv];rfl
 | .name a v,ts,nd,d,k,m,Q,C,_,_,_,hg,hd,hl,h40,hc=>by
  refine Rb.bind (Q:=(· = nd.length)) (B:=⟨ts,nd ++ fl nd.length (.name a v),d⟩) ?_ fun r hr=>by
   subst hr
   rw [show (Ex.name a v).ixs = 0 by simp [Ex.ixs],Nat.zero_add]
   exact hc
  unfold primaryP
  refine .tokP fun t ht=>?_
  have hk:t.kind = 1:=ht.1
  have hv:t.text = v:=ht.2.1
  rw [if_neg (by omega),if_neg (by omega),if_pos hk]
  refine .nextP fun _ _=>.is ?_
  show Rb (if isB (hdT ts) [40] = true then _ else _) ⟨ts,nd,d⟩ _ _
  rw [if_neg (by rw [h40];decide)]
  refine Rb.to (Rb.node (by simp only [Ex.size] at hl;omega) rfl) ?_
  rw [hv];rfl
 | .call a v l,ts,nd,d,k,m,Q,C,_,hn,hk,hg,hd,hl,h40,hc=>by
  refine Rb.bind (Q:=(· = nd.length + (Ex.call a v l).size - 1)) (B:=⟨ts,nd ++ fl nd.length (.call a v l),d⟩) ?_ fun r hr=>by
   subst hr
   rw [show (Ex.call a v l).ixs = 0 by simp [Ex.ixs],Nat.zero_add]
   exact hc
  simp only [Ex.size,Ex.dep] at hn hk hd hl
  unfold primaryP
  refine .tokP fun t ht=>?_
  have hkd:t.kind = 1:=ht.1
  have hv:t.text = v:=ht.2.1
  rw [if_neg (by omega),if_neg (by omega),if_pos hkd]
  refine .nextP fun _ _=>.is ?_
  have h1:isB (hdT (mkT [40] :: ((Ex.tkr l).tail ++ [mkT [41]] ++ ts))) [40] = true:=rfl
  show Rb (if isB (hdT (mkT [40] :: ((Ex.tkr l).tail ++ [mkT [41]] ++ ts))) [40] = true then _ else _) ⟨mkT [40] :: ((Ex.tkr l).tail ++ [mkT [41]] ++ ts),nd,d⟩ _ _
  rw [if_pos h1]
  refine .nextP fun _ _=>?_
  have fin (r:List Nat) (hr:r = Ex.roots nd.length l):Rb (nodeP ⟨4,t.at_,t.text,0,0,r⟩:PM S Nat) ⟨ts,nd ++ fls nd.length l,d⟩ (· = nd.length + (Ex.call a v l).size - 1) ⟨ts,nd ++ fl nd.length (.call a v l),d⟩:=by
   subst hr
   refine Rb.to (Rb.node (by rw [List.length_append,fls_len];omega) ?_) ?_
   ·rw [List.length_append,fls_len,Ex.size];omega
   ·rw [hv,List.append_assoc]
    congr 2
    unfold fl fls
    rw [Ex.flat,List.map_append];rfl
  cases l with
  | nil=>
   unfold listP
   refine Rb.bind (Q:=(· = ([]:List Nat))) (B:=⟨ts,nd,d⟩) (.take1 rfl (.pure rfl)) fun r hr=>?_
   have:=fin r hr
   rwa [show fls nd.length [] = [] from rfl,List.append_nil] at this
  | cons x l=>
   have hf:Fst (hdT (x.tk ++ (Ex.tkr l ++ mkT [41] :: ts))):=Ex.fst x _ hg.2.2.1
   have hs:=Ex.size_le (x :: l)
   have hll:∀ l:List Ex,l.length ≤ Ex.sizes l:=by
    intro l
    induction l with
    | nil=>simp
    | cons z l ih=>have:=Ex.size_pos z;rw [Ex.sizes,List.length_cons];omega
   unfold listP
   refine Rb.bind (Q:=(· = Ex.roots nd.length (x :: l))) (B:=⟨ts,nd ++ fls nd.length (x :: l),d⟩) (Rb.from (A:=⟨x.tk ++ (Ex.tkr l ++ mkT [41] :: ts),nd,d⟩) (.take0 (hf.not (by decide)) ?_) ?_) fin
   ·simp only [Bool.false_eq_true,if_false]
    exact (list_rd he l x [] k ts nd d a (by have:=hll (x :: l);rw [List.length_cons] at this;omega) (fun y hy=>by have:=hs y hy;omega) hg.2.2 (by omega) (by omega)).mono fun r hr=>by rw [hr,List.nil_append]
   ·simp only [Ex.tkr,List.tail_cons,List.append_assoc,List.singleton_append,List.nil_append,List.cons_append]
 | .un _ _ _,_,_,_,_,_,_,_,h,_,_,_,_,_,_,_=>by cases h
 | .bin _ _ _,_,_,_,_,_,_,_,h,_,_,_,_,_,_,_=>by cases h
 | .index x i,ts,nd,d,k,m,Q,C,_,hn,hk,hg,hd,hl,h40,hc=>by
  simp only [Ex.size,Ex.dep] at hn hk hd hl
  have hip:=Ex.size_pos i
  have hxp:=Ex.size_pos x
  have hstep:Rb (loopP (indexB ex) (m + 1) (nd.length + x.size - 1)) ⟨mkT [91] :: (i.tk ++ mkT [93] :: ts),nd ++ fl nd.length x,d⟩ Q C:=by
   have e1:(nd ++ fl nd.length x).length + i.size = nd.length + (Ex.index x i).size - 1:=by rw [List.length_append,fl_len,Ex.size];omega
   refine Rb.loopI (Rb.mono (index_rd he i (by rw [List.length_append,fl_len];omega) (by omega) hg.2.1 (by omega) (by rw [List.length_append,fl_len];omega)) fun r hr=>hr.trans (congrArg Sum.inl e1)) ?_
   refine hc.from ?_
   congr 1
   rw [List.length_append,fl_len,List.append_assoc,List.append_assoc]
   congr 1
   unfold fl
   rw [Ex.flat,List.map_append,List.map_append,List.append_assoc];rfl
  cases hb:x.isUB
  ·have e:(Ex.index x i).ixs + m = x.ixs + (m + 1):=by simp only [Ex.ixs,hb,Bool.false_eq_true,if_false];omega
   rw [e]
   simp only [hb,Bool.false_eq_true,if_false] at hd
   refine (prim_rd he x _ nd d k (m + 1) Q C hb (by omega) (by omega) hg.1 (by omega) (by omega) rfl hstep).from ?_
   simp only [Ex.tk,hb,brT,Bool.false_eq_true,if_false,List.append_assoc,List.cons_append,List.nil_append]
  ·have e:(Ex.index x i).ixs + m = m + 1:=by simp only [Ex.ixs,hb,if_true];omega
   rw [e]
   simp only [hb,if_true] at hd
   refine Rb.bind (Rb.from (brk_rd (ts:=mkT [91] :: (i.tk ++ mkT [93] :: ts)) (nd:=nd) (d:=d) he x k (by omega) hg.1 (by omega) (by omega)) ?_) fun r hr=>by subst hr;exact hstep
   simp only [Ex.tk,hb,brT,if_true,List.append_assoc,List.cons_append,List.nil_append,List.singleton_append]
theorem indexEnd {k x:Nat} {ts:List Tok} {nd:List Node} {d:Nat} (h:calm (hdT ts)):Rb (loopP (indexB ex) (k + 1) x) ⟨ts,nd,d⟩ (· = x) ⟨ts,nd,d⟩:=
 Rb.loopR (by unfold indexB;exact .take0 h.2 (.pure rfl)) rfl
theorem op_rd (he:RdE n len op ex) (e:Ex) (ts:List Tok) (nd:List Node) (d:Nat) (hb:e.isBin = false) (hn:4 * e.size + 1 ≤ n + 1) (hg:e.good len) (hd:e.dep + d ≤ 40) (hl:nd.length + e.size ≤ 4096) (hc:calm (hdT ts)) :
  Rb (operandP op ex n) ⟨e.tk ++ ts,nd,d⟩ (· = nd.length + e.size - 1) ⟨ts,nd ++ fl nd.length e,d⟩:=by
 have hd1:1 ≤ e.dep:=by
  cases e <;> first | (cases hb;done) | (simp only [Ex.dep];first | omega | exact Nat.le_add_right 1 _)
 unfold operandP
 refine .down (by omega) (.tokP fun t ht=>Rb.bind (Q:=(· = nd.length + e.size - 1)) (B:=⟨ts,nd ++ fl nd.length e,d + 1⟩) ?_ fun r hr=>.up (.pure hr))
 have hsz:=Ex.size_pos e
 by_cases hu:e.isUB = false
 ·obtain ⟨h1,h2,h3⟩:=Ex.fst0 e ts hu
  unfold innerP
  refine .take0 h1 ?_
  simp only [Bool.false_eq_true,if_false]
  refine .take0 h2 ?_
  simp only [Bool.false_eq_true,if_false]
  refine .take0 h3 ?_
  simp only [Bool.false_eq_true,if_false]
  have hix:=Ex.ixs_le e
  obtain ⟨m,hm⟩:∃ m,n = e.ixs + (m + 1):=⟨n - e.ixs - 1,by omega⟩
  have:=prim_rd he e ts nd (d + 1) n (m + 1) (· = nd.length + e.size - 1) ⟨ts,nd ++ fl nd.length e,d + 1⟩ hu (by omega) (by omega) hg (by omega) hl hc.1 (indexEnd hc)
  rwa [← hm] at this
 ·cases e with
  | un a o x=>
   simp only [Ex.size,Ex.dep] at hn hd hl hd1
   have ho:=hg.2.2.2
   have hin:Rb (unaryP op t.at_ (o:Int)) ⟨brT x.isBin x.tk ++ ts,nd,d + 1⟩ (· = nd.length + (Ex.un a o x).size - 1) ⟨ts,nd ++ fl nd.length (.un a o x),d + 1⟩:=by
    unfold unaryP
    refine Rb.bind (Q:=(· = nd.length + x.size - 1)) (B:=⟨ts,nd ++ fl nd.length x,d + 1⟩) ?_ fun r hr=>?_
    ·cases hx:x.isBin
     ·simp only [hx,Bool.false_eq_true,if_false] at hd
      exact he.o x ts nd (d + 1) hx (by omega) hg.2.1 (by omega) (by omega) hc
     ·simp only [hx,if_true] at hd
      refine (he.q x ts nd (d + 1) (by omega) hg.2.1 (by omega) (by omega) hc).from ?_
      simp only [brT,if_true,List.cons_append,List.append_assoc,List.nil_append]
    ·subst hr
     refine Rb.to (Rb.node (by rw [List.length_append,fl_len];omega) (by rw [List.length_append,fl_len,Ex.size];omega)) ?_
     rw [List.append_assoc]
     congr 2
     unfold fl
     rw [Ex.flat,List.map_append];rfl
   have htk:(Ex.un a o x).tk ++ ts = mkT (opName o) :: (brT x.isBin x.tk ++ ts):=rfl
   rw [htk]
   unfold innerP
   have h3:o = 1 ∨ o = 2 ∨ o = 3:=by omega
   rcases h3 with rfl | rfl | rfl
   ·refine .take1 rfl ?_
    simp only [if_true]
    exact hin
   ·refine .take0 rfl ?_
    simp only [Bool.false_eq_true,if_false]
    refine .take1 rfl ?_
    simp only [if_true]
    exact hin
   ·refine .take0 rfl ?_
    simp only [Bool.false_eq_true,if_false]
    refine .take0 rfl ?_
    simp only [Bool.false_eq_true,if_false]
    refine .take1 rfl ?_
    simp only [if_true]
    exact hin
  | bin _ _ _=>cases hb
  | num _ _=>exact absurd rfl hu
  | text _ _=>exact absurd rfl hu
  | name _ _=>exact absurd rfl hu
  | call _ _ _=>exact absurd rfl hu
  | index _ _=>exact absurd rfl hu
theorem opq_rd (he:RdE n len op ex) (e:Ex) (ts:List Tok) (nd:List Node) (d:Nat) (hn:4 * e.size + 3 ≤ n + 1) (hg:e.good len) (hd:1 + e.dep + d ≤ 40) (hl:nd.length + e.size ≤ 4096) (hc:calm (hdT ts)) :
  Rb (operandP op ex n) ⟨mkT [40] :: (e.tk ++ mkT [41] :: ts),nd,d⟩ (· = nd.length + e.size - 1) ⟨ts,nd ++ fl nd.length e,d⟩:=by
 unfold operandP
 refine .down (by omega) (.tokP fun t ht=>Rb.bind (Q:=(· = nd.length + e.size - 1)) (B:=⟨ts,nd ++ fl nd.length e,d + 1⟩) ?_ fun r hr=>.up (.pure hr))
 unfold innerP
 refine .take0 rfl ?_
 simp only [Bool.false_eq_true,if_false]
 refine .take0 rfl ?_
 simp only [Bool.false_eq_true,if_false]
 refine .take0 rfl ?_
 simp only [Bool.false_eq_true,if_false]
 refine Rb.bind (brk_rd he e n (by omega) hg (by omega) hl) fun r hr=>?_
 subst hr
 obtain ⟨m,rfl⟩:∃ m,n = m + 1:=⟨n - 1,by omega⟩
 exact indexEnd hc
def Ex.sps:Ex → Nat
 | .bin op x _=>(if x.lv < level op then 0 else x.sps) + 1
 | _=>0
theorem Ex.sps_le:∀ e:Ex,e.sps < e.size
 | .num _ _=>by simp [Ex.sps,Ex.size]
 | .text _ _=>by simp [Ex.sps,Ex.size]
 | .name _ _=>by simp [Ex.sps,Ex.size]
 | .call _ _ _=>by simp [Ex.sps,Ex.size]
 | .un _ _ _=>by simp [Ex.sps,Ex.size]
 | .index _ _=>by simp [Ex.sps,Ex.size]
 | .bin op x y=>by
  have:=Ex.sps_le x
  have:=Ex.size_pos y
  simp only [Ex.sps,Ex.size]
  split <;> omega
theorem bin_back (o:Nat) (h1:4 ≤ o) (h2:o ≤ 21):binOp (opName o) = o:=(by decide:∀ q < 22,4 ≤ q → binOp (opName q) = q) o (by omega) h1
theorem bin_calm (o:Nat) (h1:4 ≤ o) (h2:o ≤ 21):calm (mkT (opName o)):=(by decide:∀ q < 22,4 ≤ q → isB (mkT (opName q)) [40] = false ∧ isB (mkT (opName q)) [91] = false) o (by omega) h1
theorem exprStep (he:RdE n len op ex) {o l x:Nat} (y:Ex) {ts:List Tok} {nd:List Node} {d:Nat} (h1:4 ≤ o) (h2:o ≤ 21) (hlo:l ≤ level o) (hx:x < nd.length) (hn:4 * y.size + 4 ≤ n) (hg:y.good len) (hd:y.depL (level o + 1) + d ≤ 40) (hl:nd.length + y.size + 1 ≤ 4096)
  (hc:calm (hdT ts)) (hno:noOp (level o + 1) (hdT ts)) :
  Rb (exprB ex l x) ⟨mkT (opName o) :: (brT (decide (y.lv ≤ level o)) y.tk ++ ts),nd,d⟩ (· = .inl (nd.length + y.size)) ⟨ts,nd ++ fl nd.length y ++ [⟨7,0,[],o,0,[x,nd.length + y.size - 1]⟩],d⟩:=by
 unfold exprB
 refine .tokP fun t ht=>?_
 have hk:t.kind = 5:=ht.1
 have ht2:t.text = opName o:=ht.2.1
 have ho:(if t.kind = 5 then binOp t.text else 0) = o:=by rw [if_pos hk,ht2,bin_back o h1 h2]
 simp only [ho]
 rw [if_neg (by omega),if_neg (by omega)]
 refine .nextP fun _ _=>Rb.bind (Q:=(· = nd.length + y.size - 1)) (B:=⟨ts,nd ++ fl nd.length y,d⟩) ?_ fun r hr=>?_
 ·unfold Ex.depL at hd
  by_cases hy:y.lv ≤ level o
  ·rw [if_pos (by omega)] at hd
   refine (he.y y (level o + 1) ts nd d hn hg (by omega) (by omega) hc hno).from ?_
   simp only [hy,decide_true,brT,if_true,List.cons_append,List.append_assoc,List.nil_append]
  ·rw [if_neg (by omega)] at hd
   refine (he.x y (level o + 1) ts nd d (by omega) (by omega) hg (by omega) (by omega) hc hno).from ?_
   simp only [hy,decide_false,brT,Bool.false_eq_true,if_false]
 ·subst hr
  refine .nodeAt (by rw [List.length_append];omega) fun a _=>Rb.bind (Rb.node (by rw [List.length_append,fl_len];omega) rfl) fun b hb=>?_
  subst hb
  refine .pure ?_
  rw [List.length_append,fl_len]
theorem spine_rd (he:RdE n len op ex):∀ (e:Ex) (l:Nat) (ts:List Tok) (nd:List Node) (d m:Nat) (Q:Nat → Prop) (C:Cf),l ≤ e.lv → 4 * e.size + 1 ≤ n → e.good len → e.dep + d ≤ 40 → nd.length + e.size ≤ 4096 → calm (hdT ts) → noOp (e.lv + 1) (hdT ts) →
  Rb (loopP (exprB ex l) m (nd.length + e.size - 1)) ⟨ts,nd ++ fl nd.length e,d⟩ Q C → Rb (op >>= fun x=>loopP (exprB ex l) (e.sps + m) x) ⟨e.tk ++ ts,nd,d⟩ Q C:=by
 intro e
 have base:∀ (e:Ex),e.isBin = false → ∀ (l:Nat) (ts:List Tok) (nd:List Node) (d m:Nat) (Q:Nat → Prop) (C:Cf),4 * e.size + 1 ≤ n → e.good len → e.dep + d ≤ 40 → nd.length + e.size ≤ 4096 → calm (hdT ts) →
   Rb (loopP (exprB ex l) m (nd.length + e.size - 1)) ⟨ts,nd ++ fl nd.length e,d⟩ Q C → Rb (op >>= fun x=>loopP (exprB ex l) (e.sps + m) x) ⟨e.tk ++ ts,nd,d⟩ Q C:=by
  intro e hb l ts nd d m Q C hn hg hd hl hc hcont
  refine Rb.bind (he.o e ts nd d hb hn hg hd hl hc) fun r hr=>?_
  subst hr
  have:e.sps = 0:=by cases e <;> first | rfl | cases hb
  rw [this,Nat.zero_add]
  exact hcont
 induction e using Ex.rec (motive_2:=fun _=>True) with
 | num a v=>exact fun l ts nd d m Q C _ hn hg hd hl hc _ h=>base _ rfl l ts nd d m Q C hn hg hd hl hc h
 | text a v=>exact fun l ts nd d m Q C _ hn hg hd hl hc _ h=>base _ rfl l ts nd d m Q C hn hg hd hl hc h
 | name a v=>exact fun l ts nd d m Q C _ hn hg hd hl hc _ h=>base _ rfl l ts nd d m Q C hn hg hd hl hc h
 | call a v l _=>exact fun l ts nd d m Q C _ hn hg hd hl hc _ h=>base _ rfl l ts nd d m Q C hn hg hd hl hc h
 | index x i _ _=>exact fun l ts nd d m Q C _ hn hg hd hl hc _ h=>base _ rfl l ts nd d m Q C hn hg hd hl hc h
 | un a o x _=>exact fun l ts nd d m Q C _ hn hg hd hl hc _ h=>base _ rfl l ts nd d m Q C hn hg hd hl hc h
 | nil=>trivial
 | cons _ _ _ _=>trivial
 | bin o x y ihx ihy=>
  intro l ts nd d m Q C hlv hn hg hd hl hc hno hcont
  have hxp:=Ex.size_pos x
  have hyp:=Ex.size_pos y
  simp only [Ex.size] at hn hl
  rw [Ex.dep_bin] at hd
  have hlv':l ≤ level o:=hlv
  obtain ⟨hgx,hgy,_,h1,h2⟩:=hg
  have hstep:Rb (loopP (exprB ex l) (m + 1) (nd.length + x.size - 1)) ⟨mkT (opName o) :: (brT (decide (y.lv ≤ level o)) y.tk ++ ts),nd ++ fl nd.length x,d⟩ Q C:=by
   have e1:(nd ++ fl nd.length x).length + y.size = nd.length + (Ex.bin o x y).size - 1:=by rw [List.length_append,fl_len,Ex.size];omega
   refine Rb.loopI (Rb.mono (exprStep he y h1 h2 hlv' (by rw [List.length_append,fl_len];omega) (by omega) hgy (by omega) (by rw [List.length_append,fl_len];omega) hc hno) fun r hr=>hr.trans (congrArg Sum.inl e1)) ?_
   refine hcont.from ?_
   congr 1
   rw [List.length_append,fl_len,List.append_assoc,List.append_assoc]
   congr 1
   unfold fl
   rw [Ex.flat,List.map_append,List.map_append,List.append_assoc];rfl
  by_cases hx:x.lv < level o
  ·have e:(Ex.bin o x y).sps + m = m + 1:=by simp only [Ex.sps,hx,if_true];omega
   rw [e]
   have hdx:1 + x.dep + d ≤ 40:=by
    have:x.depL (level o) = 1 + x.dep:=by unfold Ex.depL;rw [if_pos hx]
    omega
   refine Rb.bind ((he.q x (mkT (opName o) :: (brT (decide (y.lv ≤ level o)) y.tk ++ ts)) nd d (by omega) hgx hdx (by omega) (bin_calm o h1 h2)).from ?_) fun r hr=>by subst hr;exact hstep
   simp only [Ex.tk,hx,decide_true,brT,if_true,List.append_assoc,List.cons_append,List.nil_append]
  ·have e:(Ex.bin o x y).sps + m = x.sps + (m + 1):=by simp only [Ex.sps,hx,if_false];omega
   rw [e]
   have hdx:x.dep + d ≤ 40:=by
    have:x.depL (level o) = x.dep:=by unfold Ex.depL;rw [if_neg hx]
    omega
   refine (ihx l (mkT (opName o) :: (brT (decide (y.lv ≤ level o)) y.tk ++ ts)) nd d (m + 1) Q C (by omega) (by omega) hgx hdx (by omega) (bin_calm o h1 h2) (.inr ?_) hstep).from ?_
   ·show level (opTok (mkT (opName o))) < x.lv + 1
    have:opTok (mkT (opName o)) = o:=by unfold opTok mkT;rw [if_pos rfl];exact bin_back o h1 h2
    rw [this];omega
   ·simp only [Ex.tk,hx,decide_false,brT,Bool.false_eq_true,if_false,List.append_assoc,List.cons_append,List.nil_append]
theorem exprEnd {l k x:Nat} {ts:List Tok} {nd:List Node} {d:Nat} (h:noOp l (hdT ts)):Rb (loopP (exprB ex l) (k + 1) x) ⟨ts,nd,d⟩ (· = x) ⟨ts,nd,d⟩:=by
 refine Rb.loopR ?_ rfl
 unfold exprB
 refine .tokP fun t ht=>?_
 have ht1:t.kind = (hdT ts).kind:=ht.1
 have ht2:t.text = (hdT ts).text:=ht.2.1
 have ho:(if t.kind = 5 then binOp t.text else 0) = opTok (hdT ts):=by unfold opTok;rw [ht1,ht2]
 simp only [ho]
 by_cases h0:opTok (hdT ts) = 0
 ·rw [if_pos h0];exact .pure rfl
 ·rw [if_neg h0]
  rcases h with h | h
  ·exact absurd h h0
  ·rw [if_pos h];exact .pure rfl
theorem expr_rd (he:RdE n len op ex) (e:Ex) (l:Nat) (ts:List Tok) (nd:List Node) (d:Nat) (hlv:l ≤ e.lv) (hn:4 * e.size + 2 ≤ n + 1) (hg:e.good len) (hd:e.dep + d ≤ 40) (hl:nd.length + e.size ≤ 4096) (hc:calm (hdT ts)) (hno:noOp l (hdT ts)) :
  Rb (exprP op ex n l) ⟨e.tk ++ ts,nd,d⟩ (· = nd.length + e.size - 1) ⟨ts,nd ++ fl nd.length e,d⟩:=by
 unfold exprP
 have hs:=Ex.sps_le e
 obtain ⟨m,hm⟩:∃ m,n = e.sps + (m + 1):=⟨n - e.sps - 1,by omega⟩
 have:=spine_rd he e l ts nd d (m + 1) (· = nd.length + e.size - 1) ⟨ts,nd ++ fl nd.length e,d⟩ hlv (by omega) hg hd hl hc (hno.imp id fun h=>by omega) (exprEnd hno)
 rwa [← hm] at this
theorem exprq_rd (he:RdE n len op ex) (e:Ex) (l:Nat) (ts:List Tok) (nd:List Node) (d:Nat) (hn:4 * e.size + 4 ≤ n + 1) (hg:e.good len) (hd:1 + e.dep + d ≤ 40) (hl:nd.length + e.size ≤ 4096) (hc:calm (hdT ts)) (hno:noOp l (hdT ts)) :
  Rb (exprP op ex n l) ⟨mkT [40] :: (e.tk ++ mkT [41] :: ts),nd,d⟩ (· = nd.length + e.size - 1) ⟨ts,nd ++ fl nd.length e,d⟩:=by
 unfold exprP
 refine Rb.bind (he.q e ts nd d (by omega) hg hd hl hc) fun r hr=>?_
 subst hr
 obtain ⟨m,rfl⟩:∃ m,n = m + 1:=⟨n - 1,by omega⟩
 exact exprEnd hno
end
theorem ex_rd (len:Nat):∀ n:Nat,RdE (S:=S) n len (exP n none) (fun l=>exP n (some l))
 | 0=>⟨fun _ _ _ _ _ h=>by omega,fun _ _ _ _ h=>by omega,fun _ _ _ _ _ _ h=>by omega,fun _ _ _ _ _ h=>by omega⟩
 | n + 1=>⟨fun e ts nd d=>op_rd (ex_rd len n) e ts nd d,fun e ts nd d=>opq_rd (ex_rd len n) e ts nd d,fun e l ts nd d=>expr_rd (ex_rd len n) e l ts nd d,fun e l ts nd d=>exprq_rd (ex_rd len n) e l ts nd d⟩
end
end Go.Front

/- The reader in the heap against the plain one: a step of the one is a step of the other. -/
import Derived.Test.YtlbieeajocjpeaaGreatDoorRd7
set_option linter.unusedSimpArgs false
set_option linter.unusedVariables false
namespace Go.Front
open Go.AM Go.Proofs
abbrev Fr:=Nat → Option AObj
def ins (fr:Fr) (b:Nat) (o:AObj):Fr:=fun x=>if x = b then some o else fr x
theorem ins_self {fr:Fr} {b:Nat} {o:AObj}:ins fr b o b = some o:=if_pos rfl
theorem ins_ne {fr:Fr} {b x:Nat} {o:AObj} (h:x ≠ b):ins fr b o x = fr x:=if_neg h
def kidsL (kids:List Nat):List AV:=kids.map fun (k:Nat)=>AV.int .i64 (k:Int)
def kidsO (kids:List Nat):AObj:=.cells (kidsL kids) (.rw (.row 3))
theorem kidsL_app (k1 k2:List Nat):kidsL (k1 ++ k2) = kidsL k1 ++ kidsL k2:=by unfold kidsL;exact List.map_append
theorem kidsL_len (k:List Nat):(kidsL k).length = k.length:=by simp [kidsL]
inductive KV (fr:Fr) (σ:St) (p tb:Nat):AV → List Nat → Prop
 | zero (z:Nat):KV fr σ p tb (.slice none 0 (some 0) z) []
 | one {kids:List Nat} (b:Nat) (c:Option Nat) (hc:∀ x,c = some x → kids.length ≤ x) (hb:σ[b]? = some (kidsO kids)) (hf:fr b = none) (hp:b ≠ p) (ht:b ≠ tb):KV fr σ p tb (.slice (some (b,0)) kids.length c 1) kids
def ncell (x:Node × AV):List AV:=[.int .i64 x.1.kind,.int .i64 x.1.at_,.str x.1.text,.int .i64 x.1.n,.int .i64 x.1.m,x.2]
theorem ncell_len (x:Node × AV):(ncell x).length = 6:=rfl
inductive NodesAt (fr:Fr) (σ:St) (p:Nat):AV → List Node → Prop
 | zero (z:Nat):NodesAt fr σ p (.slice none 0 (some 0) z) []
 | one (tb:Nat) (l:List (Node × AV)) (hb:σ[tb]? = some (.cells (l.flatMap ncell) (.rw (.row 34)))) (hf:fr tb = none) (hp:tb ≠ p) (hk:∀ x ∈ l,KV fr σ p tb x.2 x.1.kids) :
  NodesAt fr σ p (.slice (some (tb,0)) l.length none 6) (l.map Prod.fst)
structure KnF (fr:Fr):Prop where
 asc:fr 0 = some (.know 0 KAsc)
 pow:fr 1 = some (.know 4 KPow)
 syn:fr 2 = some (.know 2 KErr)
 rng:fr 3 = some (.know 3 KErr)
def PS.posN {s:List UInt8} (st:PS (strm s)):Nat:=st.pos
structure RdX (s:List UInt8) (fr:Fr) (σ:St) (p:Nat) (st:PS (strm s)) (d:Int):Prop where
 hs:s.length ≤ 1000000000
 kf:KnF fr
 keep:∀ b o,fr b = some o → σ[b]? = some o
 pf:fr p = none
 nlen:st.nodes.length ≤ 4096
 c:∃ tv,RdC σ p s st.posN st.tok tv d ∧ NodesAt fr σ p tv st.nodes
def Rd (s:List UInt8) (fr:Fr) (σ:St) (p:Nat) (st:PS (strm s)):Prop:=RdX s fr σ p st st.deep ∧ st.deep ≤ 40 ∧ st.posN ≤ s.length
section
variable {s:List UInt8} {fr:Fr} {σ σ':St} {p:Nat} {st st':PS (strm s)} {d d':Int} {tv v:AV} {kids:List Nat}
theorem KV.mono {tb:Nat} (h:KV fr σ p tb v kids) (hs:∀ b,b < σ.length → b ≠ p → b ≠ tb → σ'[b]? = σ[b]?):KV fr σ' p tb v kids:=by
 cases h with
 | zero z=>exact .zero z
 | one b c hc hb hf hp ht=>exact .one b c hc (by rw [hs b (lt_of hb) hp ht];exact hb) hf hp ht
theorem NodesAt.mono {nd:List Node} (h:NodesAt fr σ p tv nd) (hs:∀ b,b < σ.length → b ≠ p → σ'[b]? = σ[b]?):NodesAt fr σ' p tv nd:=by
 cases h with
 | zero z=>exact .zero z
 | one tb l hb hf hp hk=>exact .one tb l (by rw [hs tb (lt_of hb) hp];exact hb) hf hp fun x hx=>(hk x hx).mono fun b h1 h2 h3=>hs b h1 h2
theorem RdX.kn (h:RdX s fr σ p st d):Kn σ:=⟨h.keep _ _ h.kf.asc,h.keep _ _ h.kf.pow,h.keep _ _ h.kf.syn,h.keep _ _ h.kf.rng⟩
theorem RdX.p4 (h:RdX s fr σ p st d):4 ≤ p:=by
 have hf:=h.pf
 rcases Nat.lt_or_ge p 4 with hp | hp
 ·obtain rfl | rfl | rfl | rfl:p = 0 ∨ p = 1 ∨ p = 2 ∨ p = 3:=by omega
  ·rw [h.kf.asc] at hf;cases hf
  ·rw [h.kf.pow] at hf;cases hf
  ·rw [h.kf.syn] at hf;cases hf
  ·rw [h.kf.rng] at hf;cases hf
 ·exact hp
theorem RdX.lt (h:RdX s fr σ p st d):p < σ.length:=let ⟨_,hc,_⟩:=h.c;hc.lt
theorem RdX.go (h:RdX s fr σ p st d) (hs:∀ b,b < σ.length → b ≠ p → σ'[b]? = σ[b]?) (hn:st'.nodes = st.nodes)
  (hc:∀ tv,RdC σ p s st.posN st.tok tv d → RdC σ' p s st'.posN st'.tok tv d'):RdX s fr σ' p st' d':=by
 obtain ⟨tv,h1,h2⟩:=h.c
 refine ⟨h.hs,h.kf,fun b o hb=>?_,h.pf,by rw [hn];exact h.nlen,tv,hc tv h1,by rw [hn];exact h2.mono hs⟩
 rw [hs b (lt_of (h.keep b o hb)) (fun e=>by subst e;rw [h.pf] at hb;cases hb)]
 exact h.keep b o hb
theorem RdX.app (h:RdX s fr σ p st d) (τ:St):RdX s fr (σ ++ τ) p st d:=
 h.go (fun b hb _=>List.getElem?_append_left hb) rfl fun tv hc=>hc.app
theorem Rd.app (h:Rd s fr σ p st) (τ:St):Rd s fr (σ ++ τ) p st:=⟨h.1.app τ,h.2⟩
theorem Rd.kn (h:Rd s fr σ p st):Kn σ:=h.1.kn
theorem RdX.fnone (h:RdX s fr σ p st d) {b:Nat} (hb:σ.length ≤ b):fr b = none:=by
 cases hf:fr b with
 | none=>rfl
 | some o=>have:=lt_of (h.keep b o hf);omega
theorem Rd.tat (h:Rd s fr σ p st) (f:AV → Out):ldK Tryz.prog 3 σ p (0 + 2 + 1) f = f (.int .i64 st.tok.at_):=let ⟨_,hc,_⟩:=h.1.c;hc.tat f
theorem Rd.kind (h:Rd s fr σ p st) (f:AV → Out):ldK Tryz.prog 3 σ p (0 + 2 + 0) f = f (.int .i64 st.tok.kind):=let ⟨_,hc,_⟩:=h.1.c;hc.kind f
theorem Rd.text (h:Rd s fr σ p st) (f:AV → Out):ldK Tryz.prog 9 σ p (0 + 2 + 2) f = f (.str st.tok.text):=let ⟨_,hc,_⟩:=h.1.c;hc.text f
theorem Rd.tok (h:Rd s fr σ p st) (f:AV → Out):ldK Tryz.prog 44 σ p (0 + 2) f = f st.tok.av:=let ⟨_,hc,_⟩:=h.1.c;hc.tok f
theorem Rd.deep_ (h:Rd s fr σ p st) (f:AV → Out):ldK Tryz.prog 3 σ p (0 + 7) f = f (.int .i64 (st.deep:Int)):=let ⟨_,hc,_⟩:=h.1.c;hc.deep_ f
theorem NodesAt.cell {nd:List Node} {x j ty:Nat} {y:Node} {w:AV} (hn:NodesAt fr σ p tv nd) (hx:nd[x]? = some y) (hj:j < 5) (ht:aggO Tryz.prog ty = some false) (hw:∀ k,(ncell (y,k))[j]? = some w) (f:AV → Out) :
  (xSl tv fun a n _ z=>idxK (x:Int) n <| derefK a fun b o=>szK z 6 <| ldK Tryz.prog ty σ b ((o + ((x:Int)).toNat * 6) + j) f) = f w:=by
 cases hn with
 | zero z=>simp at hx
 | one tb l hb hf hp hk=>
  have hlt:x < l.length:=by have:=(List.getElem?_eq_some_iff.1 hx).1;simpa using this
  rw [List.getElem?_map] at hx
  obtain ⟨⟨y',k⟩,hy,he⟩:=Option.map_eq_some_iff.1 hx
  simp only at he;subst he
  simp only [xSl_s,derefK_s,szK_s,idxK_ok (show (0:Int) ≤ (x:Int) ∧ (x:Int) < (l.length:Int) from ⟨by omega,by omega⟩)]
  refine ldc (cs:=l.flatMap ncell) (by unfold cellsAt;rw [hb]) ht ?_
  have:=flat_get (enc:=ncell) (s:=6) ncell_len hy (j:=j) (by omega)
  rw [show 0 + ((x:Int)).toNat * 6 + j = x * 6 + j from by omega,this,hw]
theorem Rd.nodeAt {x:Nat} {y:Node} (h:Rd s fr σ p st) (hx:st.nodes[x]? = some y) (f:AV → Out) :
  (ldK Tryz.prog 24 σ p (0 + 6) fun w=>xSl w fun a n _ z=>idxK (x:Int) n <| derefK a fun b o=>szK z 6 <| ldK Tryz.prog 3 σ b ((o + ((x:Int)).toNat * 6) + 1) f) = f (.int .i64 y.at_):=by
 obtain ⟨tv,hc,hn⟩:=h.1.c
 rw [hc.nodes]
 exact hn.cell hx (by decide) agg3 (fun k=>rfl) f
theorem Rd.nodeKind {x:Nat} {y:Node} (h:Rd s fr σ p st) (hx:st.nodes[x]? = some y) (f:AV → Out) :
  (ldK Tryz.prog 24 σ p (0 + 6) fun w=>xSl w fun a n _ z=>idxK (x:Int) n <| derefK a fun b o=>szK z 6 <| ldK Tryz.prog 3 σ b ((o + ((x:Int)).toNat * 6) + 0) f) = f (.int .i64 y.kind):=by
 obtain ⟨tv,hc,hn⟩:=h.1.c
 rw [hc.nodes]
 exact hn.cell hx (by decide) agg3 (fun k=>rfl) f
end
def PQ {α:Type} (s:List UInt8) (fr:Fr) (p:Nat) (enc:α → AV) (o:Except Flt (α × PS (strm s))):Post:=fun r σ'=>
 match o with
 | .ok (a,st)=>r = .ret (enc a) ∧ Rd s fr σ' p st
 | .error e=>r = .pan (faultAV e.1 e.2) ∧ ∃ st d,RdX s fr σ' p st d
def Sp {α:Type} (s:List UInt8) (f:FuncId) (xs:List AV) (enc:α → AV) (m:PM (strm s) α):Prop:=
 ∀ (fr:Fr) (σ:St) (p:Nat) (st:PS (strm s)) (o:Except Flt (α × PS (strm s))),Rd s fr σ p st → m st = some o → Fw Tryz.prog Lb f (.ptr (some (p,0)) :: xs) σ (PQ s fr p enc o)
def natE (n:Nat):AV:=.int .i64 (n:Int)
def boolE (b:Bool):AV:=.bool b
def unitE (_:Unit):AV:=.tuple []
section
variable {s:List UInt8} {fr fr':Fr} {σ σ':St} {p:Nat} {st st':PS (strm s)} {d d':Int} {α β γ:Type} {enc:α → AV} {enc':β → AV} {f:FuncId} {xs:List AV}
theorem Rd.callF {Q:Post} {m:PM (strm s) α} {k:α → PM (strm s) β} {o:Except Flt (β × PS (strm s))} {K:Fu → AV → St → Out} (hf:Sp s f xs enc m) (h:Rd s fr' σ p st) (ho:(m >>= k) st = some o)
  (hp:∀ e,o = .error e → ∀ σ',(∃ st d,RdX s fr' σ' p st d) → Q (.pan (faultAV e.1 e.2)) σ') (hk:∀ a st1 σ1,Rd s fr' σ1 p st1 → k a st1 = some o → Wp Q fun u=>K u (enc a) σ1) :
  Wp Q fun u=>callT Tryz.prog Lb u.n f (.ptr (some (p,0)) :: xs) σ (K u):=by
 rcases PM.bind_some ho with ⟨e,h1,h2⟩ | ⟨a,st1,h1,h2⟩
 ·refine Wp.call (hf fr' σ p st _ h h1) (fun v σ' hv=>by cases hv.1) fun v σ' hv=>?_
  obtain ⟨hv,hx⟩:=hv
  cases hv
  exact hp e h2 σ' hx
 ·refine Wp.call (hf fr' σ p st _ h h1) (fun v σ' hv=>?_) fun v σ' hv=>by cases hv.1
  obtain ⟨hv,hx⟩:=hv
  cases hv
  exact hk a st1 σ' hx h2
theorem Rd.call {m:PM (strm s) α} {k:α → PM (strm s) β} {o:Except Flt (β × PS (strm s))} {K:Fu → AV → St → Out} (hf:Sp s f xs enc m) (h:Rd s fr σ p st) (ho:(m >>= k) st = some o)
  (hk:∀ a st1 σ1,Rd s fr σ1 p st1 → k a st1 = some o → Wp (PQ s fr p enc' o) fun u=>K u (enc a) σ1) :
  Wp (PQ s fr p enc' o) fun u=>callT Tryz.prog Lb u.n f (.ptr (some (p,0)) :: xs) σ (K u):=
 Rd.callF hf h ho (fun e he σ' hx=>by subst he;exact ⟨rfl,hx⟩) hk
theorem Rd.last {m:PM (strm s) α} {o:Except Flt (α × PS (strm s))} {K:Fu → AV → St → Out} (hf:Sp s f xs enc m) (h:Rd s fr σ p st) (ho:m st = some o) (hk:∀ u a σ1,K u (enc a) σ1 = some (.ret (enc a),σ1)) :
  Wp (PQ s fr p enc o) fun u=>callT Tryz.prog Lb u.n f (.ptr (some (p,0)) :: xs) σ (K u):=by
 cases o with
 | error e=>
  refine Wp.call (hf fr σ p st _ h ho) (fun v σ' hv=>by cases hv.1) fun v σ' hv=>?_
  exact hv
 | ok x=>
  obtain ⟨a,st1⟩:=x
  refine Wp.call (hf fr σ p st _ h ho) (fun v σ' hv=>?_) fun v σ' hv=>by cases hv.1
  obtain ⟨hv,hx⟩:=hv
  cases hv
  simp only [hk]
  exact Wp.ret ⟨rfl,hx⟩
theorem Rd.ret {a:α} {o:Except Flt (α × PS (strm s))} (h:Rd s fr σ p st) (ho:(pure a:PM (strm s) α) st = some o):Wp (PQ s fr p enc o) fun _=>some (.ret (enc a),σ):=by
 rw [PM.pure_ap] at ho;cases ho
 exact Wp.ret ⟨rfl,h⟩
theorem Rd.wrong {e:Int} {o:Except Flt (α × PS (strm s))} {K:Fu → AV → St → Out} (h:Rd s fr σ p st) (ho:(wrongP e:PM (strm s) α) st = some o) :
  Wp (PQ s fr p enc o) fun u=>callT Tryz.prog Lb u.n 27 [.int .i64 e,.int .i64 st.tok.at_] σ (K u):=by
 unfold wrongP at ho;cases ho
 exact wrong_wp ⟨rfl,st,st.deep,h.1⟩
theorem RdX.up (h:RdX s fr σ p st d):∃ σ',(∀ (n:Nat) (u:Option AV),runD Tryz.prog (callP Tryz.prog Lb n) n 104 [.ptr (some (p,0))] u σ = some (u,σ')) ∧ RdX s fr σ' p st (IntKind.wrap .i64 (d - 1)):=by
 obtain ⟨tv,hc,hn⟩:=h.c
 refine ⟨σ.set p (.cells (rc s st.posN st.tok tv (IntKind.wrap .i64 (d - 1))) (.rw (.box 46))),fun n u=>f104_d (y:=.tuple []) u ?_,?_⟩
 ·simp only [f104_dt,derefK_s,hc.deep_,xInt_i,hc.stDeep]
 ·refine h.go (fun b _ hb=>List.getElem?_set_ne (Ne.symm hb)) rfl fun tv' hc'=>?_
  have e:tv' = tv:=by have:=hc'.h;rw [hc.h] at this;simp [rc] at this;exact this.symm
  subst e
  exact hc.put
theorem RdX.upPan {Q:Post} {e:Flt} {R:Fu → St → Out} (h:RdX s fr σ p st d) (hq:∀ σ',(∃ st d,RdX s fr σ' p st d) → Q (.pan (faultAV e.1 e.2)) σ') :
  Wp Q fun u=>dfT Tryz.prog Lb u.n 104 [.ptr (some (p,0))] (some (faultAV e.1 e.2)) σ fun x σ'=>lvK x (fun v=>some (.pan v,σ')) (R u σ'):=by
 obtain ⟨σ',h1,h2⟩:=h.up
 refine Wp.df ⟨0,fun n _=>h1 n (some (faultAV e.1 e.2))⟩ (Wp.lv1 (Wp.ret (hq σ' ⟨st,_,h2⟩)))
theorem Rd.upRet {a:α} {o:Except Flt (α × PS (strm s))} (h:Rd s fr σ p st) (ho:(upP >>= fun _=>(pure a:PM (strm s) α)) st = some o) :
  Wp (PQ s fr p enc o) fun u=>dfT Tryz.prog Lb u.n 104 [.ptr (some (p,0))] none σ fun x σ'=>lvK x (fun v=>some (.pan v,σ')) (some (.ret (enc a),σ')):=by
 by_cases h0:st.deep = 0
 ·rw [PM.bind_none (by unfold upP;rw [if_pos h0])] at ho;cases ho
 ·rw [PM.bind_ok (st':={ st with deep:=st.deep - 1 }) (by unfold upP;rw [if_neg h0])] at ho
  rw [PM.pure_ap] at ho;cases ho
  obtain ⟨σ',h1,h2⟩:=h.1.up
  refine Wp.df ⟨0,fun n _=>h1 n none⟩ (Wp.lv0 (Wp.ret ⟨rfl,?_,by have:=h.2.1;simp only;omega,h.2.2⟩))
  have hd:=h.2.1
  rw [wrap64 (by omega) (by omega),show (st.deep:Int) - 1 = ((st.deep - 1:Nat):Int) from by omega] at h2
  exact ⟨h2.hs,h2.kf,h2.keep,h2.pf,h2.nlen,h2.c⟩
theorem Rd.calleF {Q:Post} {m:PM (strm s) α} {k:α → PM (strm s) β} {o:Except Flt (β × PS (strm s))} {K:Fu → AV → St → Out} {R:Fu → St → Out} (hf:Sp s f xs enc m) (h:Rd s fr' σ p st) (ho:(m >>= k) st = some o)
  (hp:∀ e,o = .error e → ∀ σ',(∃ st d,RdX s fr' σ' p st d) → Q (.pan (faultAV e.1 e.2)) σ') (hk:∀ a st1 σ1,Rd s fr' σ1 p st1 → k a st1 = some o → Wp Q fun u=>K u (enc a) σ1) :
  Wp Q fun u=>callE Tryz.prog Lb u.n f (.ptr (some (p,0)) :: xs) σ (K u) fun v σ=>dfT Tryz.prog Lb u.n 104 [.ptr (some (p,0))] (some v) σ fun x σ'=>lvK x (fun v'=>some (.pan v',σ')) (R u σ'):=by
 rcases PM.bind_some ho with ⟨e,h1,h2⟩ | ⟨a,st1,h1,h2⟩
 ·refine Wp.calle (hf fr' σ p st _ h h1) (fun v σ' hv=>by cases hv.1) fun v σ' hv=>?_
  obtain ⟨hv,st2,d2,hx⟩:=hv
  cases hv
  exact hx.upPan (hp e h2)
 ·refine Wp.calle (hf fr' σ p st _ h h1) (fun v σ' hv=>?_) fun v σ' hv=>by cases hv.1
  obtain ⟨hv,hx⟩:=hv
  cases hv
  exact hk a st1 σ' hx h2
theorem Rd.calle {m:PM (strm s) α} {k:α → PM (strm s) β} {o:Except Flt (β × PS (strm s))} {K:Fu → AV → St → Out} {R:Fu → St → Out} (hf:Sp s f xs enc m) (h:Rd s fr σ p st) (ho:(m >>= k) st = some o)
  (hk:∀ a st1 σ1,Rd s fr σ1 p st1 → k a st1 = some o → Wp (PQ s fr p enc' o) fun u=>K u (enc a) σ1) :
  Wp (PQ s fr p enc' o) fun u=>callE Tryz.prog Lb u.n f (.ptr (some (p,0)) :: xs) σ (K u) fun v σ=>dfT Tryz.prog Lb u.n 104 [.ptr (some (p,0))] (some v) σ fun x σ'=>lvK x (fun v'=>some (.pan v',σ')) (R u σ'):=
 Rd.calleF hf h ho (fun e he σ' hx=>by subst he;exact ⟨rfl,hx⟩) hk
inductive KR (s:List UInt8) (fr:Fr) (σ:St) (p:Nat) (st:PS (strm s)):AV → List Nat → Prop
 | zero (z:Nat) (h:Rd s fr σ p st):KR s fr σ p st (.slice none 0 (some 0) z) []
 | one {kids:List Nat} (b:Nat) (c:Option Nat) (hc:∀ x,c = some x → kids.length ≤ x) (hf:fr b = none) (kf:KnF fr) (h:Rd s (ins fr b (kidsO kids)) σ p st):KR s fr σ p st (.slice (some (b,0)) kids.length c 1) kids
theorem ins_le {b:Nat} {o:AObj} (hf:fr b = none) {x:Nat} {y:AObj} (hx:fr x = some y):ins fr b o x = some y:=by
 rw [ins_ne (fun e=>by subst e;rw [hf] at hx;cases hx)];exact hx
theorem ins_ge {b:Nat} {o:AObj} (hf:fr b = none) {x:Nat} (hx:ins fr b o x = none):fr x = none:=by
 by_cases e:x = b
 ·subst e;exact hf
 ·rw [ins_ne e] at hx;exact hx
theorem KV.weak {b tb:Nat} {o:AObj} {v:AV} {kids:List Nat} (h:KV (ins fr b o) σ p tb v kids) (hf:fr b = none):KV fr σ p tb v kids:=by
 cases h with
 | zero z=>exact .zero z
 | one b c hc hb hf' hp ht=>exact .one b c hc hb (ins_ge hf hf') hp ht
theorem NodesAt.weak {b:Nat} {o:AObj} {tv:AV} {nd:List Node} (h:NodesAt (ins fr b o) σ p tv nd) (hf:fr b = none):NodesAt fr σ p tv nd:=by
 cases h with
 | zero z=>exact .zero z
 | one tb l hb hf' hp hk=>exact .one tb l hb (ins_ge hf hf') hp fun x hx=>(hk x hx).weak hf
theorem RdX.weak {b:Nat} {o:AObj} (h:RdX s (ins fr b o) σ p st d) (hf:fr b = none) (kf:KnF fr):RdX s fr σ p st d:=by
 obtain ⟨tv,hc,hn⟩:=h.c
 exact ⟨h.hs,kf,fun x y hx=>h.keep x y (ins_le hf hx),ins_ge hf h.pf,h.nlen,tv,hc,hn.weak hf⟩
theorem KR.rd {v:AV} {kids:List Nat} (h:KR s fr σ p st v kids):Rd s fr σ p st:=by
 cases h with
 | zero z h=>exact h
 | one b c hc hf kf h=>exact ⟨h.1.weak hf kf,h.2⟩
theorem KR.lend {v:AV} {kids:List Nat} (h:KR s fr σ p st v kids):∃ fr',Rd s fr' σ p st ∧ (∀ σ' st',Rd s fr' σ' p st' → KR s fr σ' p st' v kids) ∧ ∀ σ' st' d,RdX s fr' σ' p st' d → RdX s fr σ' p st' d:=by
 cases h with
 | zero z h=>exact ⟨fr,h,fun σ' st' h'=>.zero z h',fun _ _ _ h'=>h'⟩
 | one b c hc hf kf h=>exact ⟨_,h,fun σ' st' h'=>.one b c hc hf kf h',fun _ _ _ h'=>h'.weak hf kf⟩
theorem KV.to {b tb:Nat} {o:AObj} {v:AV} {kids:List Nat} (h:KV fr σ p tb v kids) (hb:σ.length ≤ b):KV (ins fr b o) σ p tb v kids:=by
 cases h with
 | zero z=>exact .zero z
 | one x c hc hx hf hp ht=>exact .one x c hc hx (by rw [ins_ne (by have:=lt_of hx;omega)];exact hf) hp ht
theorem NodesAt.to {b:Nat} {o:AObj} {tv:AV} {nd:List Node} (h:NodesAt fr σ p tv nd) (hb:σ.length ≤ b):NodesAt (ins fr b o) σ p tv nd:=by
 cases h with
 | zero z=>exact .zero z
 | one tb l hx hf hp hk=>exact .one tb l hx (by rw [ins_ne (by have:=lt_of hx;omega)];exact hf) hp fun x hx=>(hk x hx).to hb
theorem RdX.newBlock (h:RdX s fr σ p st d) (o:AObj):RdX s (ins fr σ.length o) (σ ++ [o]) p st d:=by
 obtain ⟨tv,hc,hn⟩:=h.c
 have hf:=h.fnone (Nat.le_refl σ.length)
 refine ⟨h.hs,⟨ins_le hf h.kf.asc,ins_le hf h.kf.pow,ins_le hf h.kf.syn,ins_le hf h.kf.rng⟩,fun x y hx=>?_,by rw [ins_ne (by have:=h.lt;omega)];exact h.pf,h.nlen,tv,hc.app,?_⟩
 ·by_cases e:x = σ.length
  ·subst e;rw [ins_self] at hx;cases hx
   rw [List.getElem?_append_right (Nat.le_refl _)];simp
  ·rw [ins_ne e] at hx
   have:=h.keep x y hx
   rw [List.getElem?_append_left (lt_of this)];exact this
 ·exact (hn.to (Nat.le_refl _)).mono fun b hb _=>List.getElem?_append_left hb
theorem Rd.new (h:Rd s fr σ p st) {b n:Nat} {c:Option Nat} {l:List AV} (kids:List Nat) (hb:b = σ.length) (hl:l = kidsL kids) (hn:n = kids.length) (hc:∀ x,c = some x → kids.length ≤ x:=by intro _ h;cases h <;> simp):KR s fr (σ ++ [AObj.cells l (.rw (.row 3))]) p st (.slice (some (b,0)) n c 1) kids:=by
 subst hn
 subst hb;subst hl
 exact .one σ.length _ hc (h.1.fnone (Nat.le_refl _)) h.1.kf ⟨h.1.newBlock _,h.2⟩
theorem RdX.kill {b:Nat} {o:AObj} (h:RdX s (ins fr b o) σ p st d) (hf:fr b = none) (kf:KnF fr):RdX s fr (σ.set b .dead) p st d:=by
 obtain ⟨tv,hc,hn⟩:=h.c
 have hp:b ≠ p:=fun e=>by subst e;have:=h.pf;rw [ins_self] at this;cases this
 refine ⟨h.hs,kf,fun x y hx=>?_,ins_ge hf h.pf,h.nlen,tv,⟨by rw [List.getElem?_set_ne hp];exact hc.h⟩,?_⟩
 ·have:=h.keep x y (ins_le hf hx)
  rw [List.getElem?_set_ne (fun e=>by subst e;rw [hf] at hx;cases hx)];exact this
 ·have hx {x:Nat} (hx:ins fr b o x = none):b ≠ x:=fun e=>by subst e;rw [ins_self] at hx;cases hx
  generalize st.nodes = nd at hn
  cases hn with
  | zero z=>exact .zero z
  | one tb l hb hf' hp hk=>
   refine .one tb l (by rw [List.getElem?_set_ne (hx hf')];exact hb) (ins_ge hf hf') hp fun y hy=>?_
   have:=hk y hy
   revert this
   generalize y.2 = v
   generalize y.1.kids = kids
   intro this
   cases this with
   | zero z=>exact .zero z
   | one b' c hc hb hf'' hp ht=>exact .one b' c hc (by rw [List.getElem?_set_ne (hx hf'')];exact hb) (ins_ge hf hf'') hp ht
theorem KR.app {Q:Post} {kids:List Nat} {a:Option (Nat × Nat)} {n z:Nat} {c:Option Nat} {x:Nat} {y:AV} {K:Fu → Option (Nat × Nat) → Nat → Option Nat → St → Out} (h:KR s fr σ p st (.slice a n c z) kids) (hy:y = .int .i64 (x:Int)) (hl:kids.length ≤ 1000000000)
  (hk:∀ b σ',KR s fr σ' p st (.slice (some (b,0)) (kids.length + 1) none 1) (kids ++ [x]) → Wp Q fun u=>K u (some (b,0)) (kids.length + 1) none σ') :
  Wp Q fun u=>appK σ 3 1 8 a n z 1 [y] (K u):=by
 subst hy
 cases h with
 | zero z h=>
  exact Wp.app0 (by decide) (by decide) (hk σ.length _ (h.new [x] rfl rfl rfl))
 | one b c hc hf kf h=>
  have hb:=h.1.keep b _ ins_self
  refine Wp.app1 hb (by rw [kidsL_len];omega) (by omega) ?_
  have hd:Rd s fr (σ.set b .dead) p st:=⟨h.1.kill hf kf,h.2⟩
  have e:((kidsL kids).drop 0).take (kids.length * 1) = kidsL kids:=by rw [List.drop_zero,Nat.mul_one,← kidsL_len,List.take_length]
  rw [e]
  exact hk σ.length _ (hd.new (kids ++ [x]) (by simp) (kidsL_app kids [x]).symm (by simp))
end
end Go.Front

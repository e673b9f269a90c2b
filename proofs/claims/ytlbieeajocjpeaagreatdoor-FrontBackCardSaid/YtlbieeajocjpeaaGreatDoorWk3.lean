/- Expressions: list, primary, operand, expr. -/
import Derived.Test.YtlbieeajocjpeaaGreatDoorWk2
set_option linter.unusedSimpArgs false
set_option linter.unusedVariables false
namespace Go.Front
open Go.AM Go.Proofs
def LQ (s:List UInt8) (fr:Fr) (p:Nat) (o:Except Flt (List Nat × PS (strm s))):Post:=fun r σ'=>
 match o with
 | .ok (kids,st)=>∃ v,r = .ret v ∧ KR s fr σ' p st v kids
 | .error e=>r = .pan (faultAV e.1 e.2) ∧ ∃ st d,RdX s fr σ' p st d
def loopK {S:Strm} {α β:Type} (go:α → PM S β):Sum α β → PM S β
 | .inl a=>go a
 | .inr b=>pure b
theorem loopP_succ {S:Strm} {α β:Type} (body:α → PM S (Sum α β)) (n:Nat) (a:α):loopP body (n + 1) a = body a >>= loopK (loopP body n):=by
 show (body a >>= _) = _
 congr 1
theorem loopK_inl {S:Strm} {α β:Type} {go:α → PM S β} {a:α}:loopK go (.inl a) = go a:=rfl
theorem loopK_inr {S:Strm} {α β:Type} {go:α → PM S β} {b:β}:loopK go (.inr b) = pure b:=rfl
section
variable {s:List UInt8} {fr fr':Fr} {σ σ':St} {p:Nat} {st st':PS (strm s)} {d d':Int} {α β γ:Type} {enc:α → AV} {enc':β → AV} {f:FuncId} {xs:List AV} {v:AV} {kids:List Nat}
theorem KR.call {Q:Post} {m:PM (strm s) α} {k:α → PM (strm s) β} {o:Except Flt (β × PS (strm s))} {K:Fu → AV → St → Out} (hf:Sp s f xs enc m) (h:KR s fr σ p st v kids) (ho:(m >>= k) st = some o)
  (hp:∀ e,o = .error e → ∀ σ',(∃ st d,RdX s fr σ' p st d) → Q (.pan (faultAV e.1 e.2)) σ') (hk:∀ a st1 σ1,KR s fr σ1 p st1 v kids → k a st1 = some o → Wp Q fun u=>K u (enc a) σ1) :
  Wp Q fun u=>callT Tryz.prog Lb u.n f (.ptr (some (p,0)) :: xs) σ (K u):=by
 obtain ⟨fr',h1,h2,h3⟩:=h.lend
 exact Rd.callF hf h1 ho (fun e he σ' hx=>by obtain ⟨st,d,hx⟩:=hx;exact hp e he σ' ⟨st,d,h3 σ' st d hx⟩) fun a st1 σ1 h4 h5=>hk a st1 σ1 (h2 σ1 st1 h4) h5
theorem KR.calle {Q:Post} {m:PM (strm s) α} {k:α → PM (strm s) β} {o:Except Flt (β × PS (strm s))} {K:Fu → AV → St → Out} {R:Fu → St → Out} (hf:Sp s f xs enc m) (h:KR s fr σ p st v kids) (ho:(m >>= k) st = some o)
  (hp:∀ e,o = .error e → ∀ σ',(∃ st d,RdX s fr σ' p st d) → Q (.pan (faultAV e.1 e.2)) σ') (hk:∀ a st1 σ1,KR s fr σ1 p st1 v kids → k a st1 = some o → Wp Q fun u=>K u (enc a) σ1) :
  Wp Q fun u=>callE Tryz.prog Lb u.n f (.ptr (some (p,0)) :: xs) σ (K u) fun v σ=>dfT Tryz.prog Lb u.n 104 [.ptr (some (p,0))] (some v) σ fun x σ'=>lvK x (fun v'=>some (.pan v',σ')) (R u σ'):=by
 obtain ⟨fr',h1,h2,h3⟩:=h.lend
 exact Rd.calleF hf h1 ho (fun e he σ' hx=>by obtain ⟨st,d,hx⟩:=hx;exact hp e he σ' ⟨st,d,h3 σ' st d hx⟩) fun a st1 σ1 h4 h5=>hk a st1 σ1 (h2 σ1 st1 h4) h5
theorem PQ.err {o:Except Flt (α × PS (strm s))}:∀ e,o = .error e → ∀ σ',(∃ st d,RdX s fr σ' p st d) → PQ s fr p enc o (.pan (faultAV e.1 e.2)) σ':=fun e he σ' hx=>by subst he;exact ⟨rfl,hx⟩
theorem LQ.err {o:Except Flt (List Nat × PS (strm s))}:∀ e,o = .error e → ∀ σ',(∃ st d,RdX s fr σ' p st d) → LQ s fr p o (.pan (faultAV e.1 e.2)) σ':=fun e he σ' hx=>by subst he;exact ⟨rfl,hx⟩
theorem KR.nodeLast {x:Node} {o:Except Flt (Nat × PS (strm s))} {K:Fu → AV → St → Out} {args:List AV} (h:KR s fr σ p st v x.kids) (ho:nodeP x st = some o)
  (ha:args = [.ptr (some (p,0)),.agg [.int .i64 x.kind,.int .i64 x.at_,.str x.text,.int .i64 x.n,.int .i64 x.m,v]]) (hk:∀ u a σ1,K u (natE a) σ1 = some (.ret (natE a),σ1)) :
  Wp (PQ s fr p natE o) fun u=>callT Tryz.prog Lb u.n 14 args σ (K u):=by
 subst ha
 have hf:=node_fn h ho
 cases o with
 | error e=>exact Wp.call hf (fun v σ' hv=>by cases hv.1) fun v σ' hv=>hv
 | ok x=>
  refine Wp.call hf (fun v σ' hv=>?_) fun v σ' hv=>by cases hv.1
  obtain ⟨hv,hx⟩:=hv
  cases hv
  simp only [hk]
  exact Wp.ret ⟨rfl,hx⟩
theorem KR.node {Q:Post} {x:Node} {k:Nat → PM (strm s) β} {o:Except Flt (β × PS (strm s))} {K:Fu → AV → St → Out} {args:List AV} (h:KR s fr σ p st v x.kids) (ho:(nodeP x >>= k) st = some o)
  (ha:args = [.ptr (some (p,0)),.agg [.int .i64 x.kind,.int .i64 x.at_,.str x.text,.int .i64 x.n,.int .i64 x.m,v]])
  (hp:∀ e,o = .error e → ∀ σ',(∃ st d,RdX s fr σ' p st d) → Q (.pan (faultAV e.1 e.2)) σ') (hk:∀ a st1 σ1,Rd s fr σ1 p st1 → k a st1 = some o → Wp Q fun u=>K u (natE a) σ1) :
  Wp Q fun u=>callT Tryz.prog Lb u.n 14 args σ (K u):=by
 subst ha
 rcases PM.bind_some ho with ⟨e,h1,h2⟩ | ⟨a,st1,h1,h2⟩
 ·exact Wp.call (node_fn h h1) (fun v σ' hv=>by cases hv.1) fun v σ' hv=>by obtain ⟨hv,hx⟩:=hv;cases hv;exact hp e h2 σ' hx
 ·refine Wp.call (node_fn h h1) (fun v σ' hv=>?_) fun v σ' hv=>by cases hv.1
  obtain ⟨hv,hx⟩:=hv
  cases hv
  exact hk a st1 σ' hx h2
theorem KR.nodee {Q:Post} {x:Node} {k:Nat → PM (strm s) β} {o:Except Flt (β × PS (strm s))} {K:Fu → AV → St → Out} {R:Fu → St → Out} {args:List AV} (h:KR s fr σ p st v x.kids) (ho:(nodeP x >>= k) st = some o)
  (ha:args = [.ptr (some (p,0)),.agg [.int .i64 x.kind,.int .i64 x.at_,.str x.text,.int .i64 x.n,.int .i64 x.m,v]])
  (hp:∀ e,o = .error e → ∀ σ',(∃ st d,RdX s fr σ' p st d) → Q (.pan (faultAV e.1 e.2)) σ') (hk:∀ a st1 σ1,Rd s fr σ1 p st1 → k a st1 = some o → Wp Q fun u=>K u (natE a) σ1) :
  Wp Q fun u=>callE Tryz.prog Lb u.n 14 args σ (K u) fun v σ=>dfT Tryz.prog Lb u.n 104 [.ptr (some (p,0))] (some v) σ fun x σ'=>lvK x (fun v'=>some (.pan v',σ')) (R u σ'):=by
 subst ha
 rcases PM.bind_some ho with ⟨e,h1,h2⟩ | ⟨a,st1,h1,h2⟩
 ·exact Wp.calle (node_fn h h1) (fun v σ' hv=>by cases hv.1) fun v σ' hv=>by obtain ⟨hv,st2,d2,hx⟩:=hv;cases hv;exact hx.upPan (hp e h2)
 ·refine Wp.calle (node_fn h h1) (fun v σ' hv=>?_) fun v σ' hv=>by cases hv.1
  obtain ⟨hv,hx⟩:=hv
  cases hv
  exact hk a st1 σ' hx h2
theorem list_loop {ex:Nat → PM (strm s) Nat} (hex:∀ l:Nat,Sp s 106 [.int .i64 (l:Int)] natE (ex l)):∀ (n:Nat) {acc:List Nat} {σ:St} {st:PS (strm s)} {a:Option (Nat × Nat)} {k z:Nat} {c:Option Nat} {o:Except Flt (List Nat × PS (strm s))},
  acc.length + n ≤ 1000000000 → KR s fr σ p st (.slice a k c z) acc → loopP (listB ex) n acc st = some o →
  Wp (LQ s fr p o) fun u=>f138_l1 (pt Tryz.prog Lb 138 u.n) u.m1 (some (p,0)) none 0 (some 0) 0 a k c z σ:=by
 intro n
 induction n with
 | zero=>intro acc σ st a k z c o _ _ ho;cases ho
 | succ n ih=>
  intro acc σ st a k z c o hl h ho
  refine Wp.round1 (F:=fun n m=>f138_l1 (pt Tryz.prog Lb 138 n) m (some (p,0)) none 0 (some 0) 0 a k c z σ) (fun n m=>f138_l1_e) ?_
  simp only [f138_l1_t]
  rw [loopP_succ] at ho
  simp only [listB,PM.bind_assoc,PM.ite_bind,PM.pure_bind,loopK_inl,loopK_inr] at ho
  refine KR.call (hex 1) h ho LQ.err fun x st1 σ1 h ho=>?_
  simp only [natE,xInt_i]
  refine h.app rfl (by omega) fun b σ2 h=>?_
  refine KR.call (take_sp [41]) h ho LQ.err fun y st1 σ1 h ho=>?_
  simp only [boolE,xBool_b]
  refine Wp.ite (fun hb=>?_) fun hb=>?_
  ·simp only [hb,if_true] at ho
   rw [PM.pure_ap] at ho;cases ho
   exact Wp.ret ⟨_,rfl,h⟩
  ·simp only [hb,Bool.false_eq_true,if_false] at ho
   refine KR.call (must_sp [44]) h ho LQ.err fun y st1 σ1 h ho=>?_
   exact ih (by simp;omega) h ho
theorem list_fn {ex:Nat → PM (strm s) Nat} (hex:∀ l:Nat,Sp s 106 [.int .i64 (l:Int)] natE (ex l)) {n:Nat} (hn:n ≤ 1000000000) {o:Except Flt (List Nat × PS (strm s))} (h:Rd s fr σ p st) (ho:listP ex n st = some o) :
  Fw Tryz.prog Lb 138 [.ptr (some (p,0))] σ (LQ s fr p o):=by
 refine Fw.enter (fun n=>f138_e) ?_
 simp only [f138_t]
 unfold listP at ho
 refine Rd.callF (take_sp [41]) h ho LQ.err fun y st1 σ1 h ho=>?_
 simp only [boolE,xBool_b]
 refine Wp.ite (fun hb=>?_) fun hb=>?_
 ·simp only [hb,if_true] at ho
  rw [PM.pure_ap] at ho;cases ho
  exact Wp.ret ⟨_,rfl,.zero 0 h⟩
 ·simp only [hb,Bool.false_eq_true,if_false] at ho
  refine Wp.fresh1 (F:=fun n m=>f138_l1 (pt Tryz.prog Lb 138 n) m (some (p,0)) none 0 (some 0) 0 none 0 (some 0) 0 σ1) ?_
  exact list_loop hex n (by simp;omega) (.zero 0 h) ho
theorem primary_sp {ex:Nat → PM (strm s) Nat} (hex:∀ l:Nat,Sp s 106 [.int .i64 (l:Int)] natE (ex l)) {n:Nat} (hn:n ≤ 1000000000):Sp s 131 [] natE (primaryP ex n):=by
 intro fr σ p st o h ho
 refine Fw.enter (fun n=>f131_e) ?_
 unfold primaryP at ho
 rw [tokP_bind] at ho
 generalize ht:st.tok = t at *
 have e3:((t.kind:Int) == (3:Int)) = decide (t.kind = 3):=natInt (b:=3)
 have e4:((t.kind:Int) == (4:Int)) = decide (t.kind = 4):=natInt (b:=4)
 have e1:((t.kind:Int) == (1:Int)) = decide (t.kind = 1):=natInt (b:=1)
 simp only [f131_t,derefK_s,h.tok,ht,Tok.av,Tok.cells,xAgg_a,unC_c,xInt_i,xStr_s,nlC_n,e3,e4,e1]
 refine Wp.ite (fun hb=>?_) fun hb=>Wp.ite (fun hb2=>?_) fun hb2=>Wp.ite (fun hb3=>?_) fun hb3=>?_
 ·rw [if_pos (of_decide_eq_true hb)] at ho
  refine Rd.call next_sp h ho fun _ st1 σ1 h ho=>?_
  simp only [Tok.av,Tok.cells,xAgg_a,unC_c,xInt_i,xStr_s,nlC_n]
  exact KR.nodeLast (.zero 0 h) ho rfl fun u a σ1=>by simp only [natE,xInt_i]
 ·rw [if_neg (of_decide_eq_false hb),if_pos (of_decide_eq_true hb2)] at ho
  refine Rd.call next_sp h ho fun _ st1 σ1 h ho=>?_
  simp only [Tok.av,Tok.cells,xAgg_a,unC_c,xInt_i,xStr_s,nlC_n]
  exact KR.nodeLast (.zero 0 h) ho rfl fun u a σ1=>by simp only [natE,xInt_i]
 ·rw [if_neg (of_decide_eq_false hb),if_neg (of_decide_eq_false hb2),if_pos (of_decide_eq_true hb3)] at ho
  refine Rd.call next_sp h ho fun _ st1 σ1 h ho=>?_
  simp only [Tok.av,Tok.cells,xAgg_a,unC_c,xInt_i,xStr_s,nlC_n]
  refine Rd.call (is_sp [40]) h ho fun b st1 σ1 h ho=>?_
  simp only [boolE,xBool_b]
  refine Wp.ite (fun hb=>?_) fun hb=>?_
  ·have hb:b = false:=by simpa using hb
   simp only [hb,Bool.false_eq_true,if_false] at ho
   exact KR.nodeLast (.zero 0 h) ho rfl fun u a σ1=>by simp only [natE,xInt_i]
  ·have hb:b = true:=by simpa using hb
   simp only [hb,if_true] at ho
   refine Rd.call next_sp h ho fun _ st1 σ1 h ho=>?_
   simp only [Tok.av,Tok.cells,xAgg_a,unC_c,xInt_i,xStr_s,nlC_n]
   rcases PM.bind_some ho with ⟨e,h1,h2⟩ | ⟨l,st2,h1,h2⟩
   ·subst h2
    exact Wp.call (list_fn hex hn h h1) (fun v σ' hv=>by obtain ⟨hv,_⟩:=hv;cases hv) fun v σ' hv=>hv
   ·refine Wp.call (list_fn hex hn h h1) (fun v σ' hv=>?_) fun v σ' hv=>by obtain ⟨_,hv,_⟩:=hv;cases hv
    obtain ⟨v',hv,hkr⟩:=hv
    cases hv
    obtain ⟨a,n,c,z,rfl⟩:=hkr.slice
    simp only [xSl_s]
    exact KR.nodeLast hkr h2 rfl fun u a σ1=>by simp only [natE,xInt_i]
 ·rw [if_neg (of_decide_eq_false hb),if_neg (of_decide_eq_false hb2),if_neg (of_decide_eq_false hb3)] at ho
  refine Rd.call (must_sp [40]) h ho fun _ st1 σ1 h ho=>?_
  refine Rd.call (hex 1) h ho fun x st1 σ1 h ho=>?_
  simp only [natE,xInt_i]
  refine Rd.call (must_sp [41]) h ho fun _ st1 σ1 h ho=>?_
  exact Rd.ret (enc:=natE) h ho
noncomputable abbrev L122 (n:Nat):Leaf:=pt Tryz.prog Lb 122 n
theorem unary_wp {op:PM (strm s) Nat} (hop:Sp s 122 [] natE op) {at_:Nat} {k:Int} {o:Except Flt (Nat × PS (strm s))} (h:Rd s fr σ p st) (ho:(unaryP op at_ k >>= fun x=>upP >>= fun _=>pure x) st = some o) :
  Wp (PQ s fr p natE o) fun u=>f122_j2 (L122 u.n) u.m1 (some (p,0)) 0 at_ k [] [45] [33] [126] k true (some (p,0)) σ:=by
 refine Wp.le (F:=fun u=>f122_j2_t (L122 u.n) u.n u.m1 (some (p,0)) 0 at_ k [] [45] [33] [126] k true (some (p,0)) σ) ?_ fun u=>f122_j2_e
 simp only [f122_j2_t]
 unfold unaryP at ho
 simp only [PM.bind_assoc] at ho
 refine Wp.pos rfl ?_
 refine Rd.calle hop h ho fun x st1 σ1 h ho=>?_
 simp only [natE,xInt_i]
 refine KR.nodee (h.new [x] rfl rfl rfl) ho rfl PQ.err fun y st1 σ1 h ho=>?_
 simp only [natE,xInt_i]
 exact Rd.upRet h ho
theorem index_loop {ex:Nat → PM (strm s) Nat} (hex:∀ l:Nat,Sp s 106 [.int .i64 (l:Int)] natE (ex l)):∀ (n:Nat) {x:Nat} {σ:St} {st:PS (strm s)} {o:Except Flt (Nat × PS (strm s))},
  Rd s fr σ p st → (loopP (indexB ex) n x >>= fun x=>upP >>= fun _=>pure x) st = some o →
  Wp (PQ s fr p natE o) fun u=>f122_l5 (L122 u.n) u.m1 (some (p,0)) 0 x (some (p,0)) σ:=by
 intro n
 induction n with
 | zero=>intro x σ st o _ ho;rw [PM.bind_none rfl] at ho;cases ho
 | succ n ih=>
  intro x σ st o h ho
  refine Wp.round1 (F:=fun n m=>f122_l5 (L122 n) m (some (p,0)) 0 x (some (p,0)) σ) (fun n m=>f122_l5_e) ?_
  simp only [f122_l5_t]
  rw [loopP_succ] at ho
  simp only [indexB,PM.bind_assoc,PM.ite_bind,PM.pure_bind,loopK_inl,loopK_inr] at ho
  refine Rd.calle (take_sp [91]) h ho fun b st1 σ1 h ho=>?_
  simp only [boolE,xBool_b]
  refine Wp.ite (fun hb=>?_) fun hb=>?_
  ·simp only [hb,if_true] at ho
   refine Rd.calle (hex 1) h ho fun i st1 σ1 h ho=>?_
   simp only [natE,xInt_i]
   refine Rd.calle (must_sp [93]) h ho fun _ st1 σ1 h ho=>?_
   obtain ⟨y,hy,ho⟩:=nodeAt_some ho
   simp only [derefK_s,h.nodeAt hy,xInt_i]
   refine KR.nodee (h.new [x,i] rfl rfl rfl) ho rfl PQ.err fun y st1 σ1 h ho=>?_
   simp only [natE,xInt_i]
   exact ih h ho
  ·simp only [hb,Bool.false_eq_true,if_false] at ho
   refine Wp.le (F:=fun u=>f122_j6_t (L122 u.n) u.n 0 x (some (p,0)) σ1) ?_ fun u=>f122_j6_e
   simp only [f122_j6_t]
   exact Rd.upRet (a:=x) h ho
theorem operand_sp {op:PM (strm s) Nat} {ex:Nat → PM (strm s) Nat} (hop:Sp s 122 [] natE op) (hex:∀ l:Nat,Sp s 106 [.int .i64 (l:Int)] natE (ex l)) {n:Nat} (hn:n ≤ 1000000000):Sp s 122 [] natE (operandP op ex n):=by
 intro fr σ p st o h ho
 refine Fw.enter (fun n=>f122_e) ?_
 unfold operandP at ho
 simp only [f122_t]
 refine Rd.call down_sp h ho fun _ st1 σ1 h ho=>?_
 rw [tokP_bind] at ho
 simp only [derefK_s,h.tat,xInt_i]
 generalize st1.tok.at_ = at_ at ho ⊢
 unfold innerP at ho
 simp only [PM.bind_assoc,PM.ite_bind] at ho
 have p0 (f:AV → Out):partK Tryz.prog 9 [.str [],.str [45],.str [33],.str [126]] ((0:Int).toNat * 1) f = f (.str []):=partK_s agg9 rfl
 have p1 (f:AV → Out):partK Tryz.prog 9 [.str [],.str [45],.str [33],.str [126]] ((1:Int).toNat * 1) f = f (.str [45]):=partK_s agg9 rfl
 have p2 (f:AV → Out):partK Tryz.prog 9 [.str [],.str [45],.str [33],.str [126]] ((2:Int).toNat * 1) f = f (.str [33]):=partK_s agg9 rfl
 have p3 (f:AV → Out):partK Tryz.prog 9 [.str [],.str [45],.str [33],.str [126]] ((3:Int).toNat * 1) f = f (.str [126]):=partK_s agg9 rfl
 have w0:IntKind.wrap .i64 ((0:Int) + 1) = 1:=by decide
 have w1:IntKind.wrap .i64 ((1:Int) + 1) = 2:=by decide
 have w2:IntKind.wrap .i64 ((2:Int) + 1) = 3:=by decide
 have w3:IntKind.wrap .i64 ((3:Int) + 1) = 4:=by decide
 -- a round
 have enter {i:Int} {st:PS (strm s)} {σ:St} (hr:Wp (PQ s fr p natE o) fun u=>f122_l1_t (L122 u.n) u.n u.m1 (some (p,0)) 0 at_ [] [45] [33] [126] i (some (p,0)) σ):Wp (PQ s fr p natE o) fun u=>f122_l1 (L122 u.n) u.m1 (some (p,0)) 0 at_ [] [45] [33] [126] i (some (p,0)) σ:=
  Wp.round1 (F:=fun n m=>f122_l1 (L122 n) m (some (p,0)) 0 at_ [] [45] [33] [126] i (some (p,0)) σ) (fun n m=>f122_l1_e) hr
 have skip {i j:Int} {σ:St} (hw:IntKind.wrap .i64 (i + 1) = j) (hr:Wp (PQ s fr p natE o) fun u=>f122_l1 (L122 u.n) u.m1 (some (p,0)) 0 at_ [] [45] [33] [126] j (some (p,0)) σ):Wp (PQ s fr p natE o) fun u=>f122_j2 (L122 u.n) u.m1 (some (p,0)) 0 at_ i [] [45] [33] [126] i false (some (p,0)) σ:=by
  refine Wp.le (F:=fun u=>f122_j2_t (L122 u.n) u.n u.m1 (some (p,0)) 0 at_ i [] [45] [33] [126] i false (some (p,0)) σ) ?_ fun u=>f122_j2_e
  simp only [f122_j2_t,hw]
  exact Wp.neg rfl hr
 refine Wp.fresh1 (F:=fun n m=>f122_l1 (L122 n) m (some (p,0)) 0 at_ [] [45] [33] [126] 0 (some (p,0)) σ1) (enter (st:=st1) ?_)
 simp only [f122_l1_t,p0,xStr_s,idxK_ok (show (0:Int) ≤ 0 ∧ (0:Int) < ((4:Nat):Int) from by decide)]
 refine Wp.pos (by decide) (Wp.neg (by decide) ?_)
 refine Wp.le (F:=fun u=>f122_j3_t (L122 u.n) u.n u.m1 (some (p,0)) 0 at_ 0 [] [45] [33] [126] 0 (some (p,0)) σ1) ?_ fun u=>f122_j3_e
 simp only [f122_j3_t,w0]
 refine enter (st:=st1) ?_
 simp only [f122_l1_t,p1,xStr_s,idxK_ok (show (0:Int) ≤ 1 ∧ (1:Int) < ((4:Nat):Int) from by decide)]
 refine Wp.pos (by decide) (Wp.pos (by decide) ?_)
 refine Rd.calle (take_sp [45]) h ho fun b st1 σ1 h ho=>?_
 simp only [boolE,xBool_b]
 cases b
 case true=>simp only [if_true] at ho;exact unary_wp hop h ho
 simp only [Bool.false_eq_true,if_false] at ho
 refine skip w1 (enter (st:=st1) ?_)
 simp only [f122_l1_t,p2,xStr_s,idxK_ok (show (0:Int) ≤ 2 ∧ (2:Int) < ((4:Nat):Int) from by decide)]
 refine Wp.pos (by decide) (Wp.pos (by decide) ?_)
 refine Rd.calle (take_sp [33]) h ho fun b st1 σ1 h ho=>?_
 simp only [boolE,xBool_b]
 cases b
 case true=>simp only [if_true] at ho;exact unary_wp hop h ho
 simp only [Bool.false_eq_true,if_false] at ho
 refine skip w2 (enter (st:=st1) ?_)
 simp only [f122_l1_t,p3,xStr_s,idxK_ok (show (0:Int) ≤ 3 ∧ (3:Int) < ((4:Nat):Int) from by decide)]
 refine Wp.pos (by decide) (Wp.pos (by decide) ?_)
 refine Rd.calle (take_sp [126]) h ho fun b st1 σ1 h ho=>?_
 simp only [boolE,xBool_b]
 cases b
 case true=>simp only [if_true] at ho;exact unary_wp hop h ho
 simp only [Bool.false_eq_true,if_false] at ho
 refine skip w3 (enter (st:=st1) ?_)
 simp only [f122_l1_t]
 refine Wp.neg (by decide) ?_
 refine Wp.le (F:=fun u=>f122_j4_t (L122 u.n) u.n (some (p,0)) 0 (some (p,0)) σ1) ?_ fun u=>f122_j4_e
 simp only [f122_j4_t]
 refine Rd.calle (primary_sp hex hn) h ho fun x st1 σ1 h ho=>?_
 simp only [natE,xInt_i]
 refine Wp.fresh1 (F:=fun n m=>f122_l5 (L122 n) m (some (p,0)) 0 x (some (p,0)) σ1) ?_
 exact index_loop hex n h ho
noncomputable abbrev L106 (n:Nat):Leaf:=pt Tryz.prog Lb 106 n
theorem expr_loop {ex:Nat → PM (strm s) Nat} (hex:∀ l:Nat,Sp s 106 [.int .i64 (l:Int)] natE (ex l)) {lvl:Nat}:∀ (n:Nat) {x:Nat} {σ:St} {st:PS (strm s)} {o:Except Flt (Nat × PS (strm s))},
  Rd s fr σ p st → loopP (exprB ex lvl) n x st = some o → Wp (PQ s fr p natE o) fun u=>f106_l1 (L106 u.n) u.m1 (some (p,0)) lvl 0 x σ:=by
 intro n
 induction n with
 | zero=>intro x σ st o _ ho;cases ho
 | succ n ih=>
  intro x σ st o h ho
  refine Wp.round1 (F:=fun n m=>f106_l1 (L106 n) m (some (p,0)) lvl 0 x σ) (fun n m=>f106_l1_e) ?_
  have e5:((st.tok.kind:Int) == (5:Int)) = decide (st.tok.kind = 5):=natInt (b:=5)
  simp only [f106_l1_t,derefK_s,h.kind,h.text,xInt_i,xStr_s,e5]
  rw [loopP_succ] at ho
  simp only [exprB,PM.bind_assoc,PM.ite_bind,PM.pure_bind,loopK_inl,loopK_inr] at ho
  rw [tokP_bind] at ho
  have go {q:Nat} {σ:St} (h:Rd s fr σ p st) (ho:(if q = 0 then pure x else if level q < lvl then pure x else nextP >>= fun _=>ex (level q + 1) >>= fun y=>nodeAtP x >>= fun a=>nodeP ⟨7,a.at_,[],q,0,[x,y]⟩ >>= fun z=>loopP (exprB ex lvl) n z:PM (strm s) Nat) st = some o) :
    Wp (PQ s fr p natE o) fun u=>f106_j2 (L106 u.n) u.m1 (some (p,0)) lvl 0 x q σ:=by
   refine Wp.le (F:=fun u=>f106_j2_t (L106 u.n) u.n u.m1 (some (p,0)) lvl 0 x q σ) ?_ fun u=>f106_j2_e
   have e0:((q:Int) == (0:Int)) = decide (q = 0):=natInt (b:=0)
   simp only [f106_j2_t,e0]
   refine Wp.ite (fun hb=>?_) fun hb=>?_
   ·rw [if_pos (of_decide_eq_true hb)] at ho
    exact Rd.ret (enc:=natE) h ho
   ·rw [if_neg (of_decide_eq_false hb)] at ho
    refine Wp.call (level_fn q) (fun v σ' hv=>?_) fun v σ' hv=>by cases hv.1
    obtain ⟨hv,rfl⟩:=hv
    cases hv
    have elt:decide (((level q:Nat):Int) < (lvl:Int)) = decide (level q < lvl):=by rw [decide_eq_decide];omega
    simp only [xInt_i,elt]
    refine Wp.ite (fun hb2=>?_) fun hb2=>?_
    ·rw [if_pos (of_decide_eq_true hb2)] at ho
     exact Rd.ret (enc:=natE) h ho
    ·rw [if_neg (of_decide_eq_false hb2)] at ho
     refine Rd.call next_sp h ho fun _ st1 σ1 h ho=>?_
     simp only [Tok.av,Tok.cells,xAgg_a,unC_c,xInt_i,xStr_s,nlC_n]
     refine Wp.call (level_fn q) (fun v σ' hv=>?_) fun v σ' hv=>by cases hv.1
     obtain ⟨hv,rfl⟩:=hv
     cases hv
     have hlv:level q ≤ 10:=by
      rcases Nat.lt_or_ge q 22 with hq | hq
      ·exact (by decide:∀ q < 22,level q ≤ 10) q hq
      ·unfold level
       rw [List.getD_eq_getElem?_getD,List.getElem?_eq_none (by simp;omega)];simp
     have hw:IntKind.wrap .i64 (((level q:Nat):Int) + 1) = ((level q + 1:Nat):Int):=by rw [wrap64 (by omega) (by omega)];omega
     simp only [xInt_i,hw]
     refine Rd.call (hex (level q + 1)) h ho fun y st1 σ1 h ho=>?_
     simp only [natE,xInt_i]
     obtain ⟨d,hd,ho⟩:=nodeAt_some ho
     simp only [derefK_s,h.nodeAt hd,xInt_i]
     refine KR.node (h.new [x,y] rfl rfl rfl) ho rfl PQ.err fun z st1 σ1 h ho=>?_
     simp only [natE,xInt_i]
     exact ih h ho
  refine Wp.ite (fun hb=>?_) fun hb=>?_
  ·rw [if_pos (of_decide_eq_true hb)] at ho
   refine Wp.call (binary_fn h.kn st.tok.text) (fun v σ' hv=>?_) fun v σ' hv=>by cases hv.1
   obtain ⟨hv,rfl⟩:=hv
   cases hv
   simp only [xInt_i]
   exact go (h.app _) ho
  ·rw [if_neg (of_decide_eq_false hb)] at ho
   exact go (q:=0) h ho
theorem expr_sp {op:PM (strm s) Nat} {ex:Nat → PM (strm s) Nat} (hop:Sp s 122 [] natE op) (hex:∀ l:Nat,Sp s 106 [.int .i64 (l:Int)] natE (ex l)) {n:Nat} (lvl:Nat):Sp s 106 [.int .i64 (lvl:Int)] natE (exprP op ex n lvl):=by
 intro fr σ p st o h ho
 refine Fw.enter (fun n=>f106_e) ?_
 unfold exprP at ho
 simp only [f106_t]
 refine Rd.call hop h ho fun x st1 σ1 h ho=>?_
 simp only [natE,xInt_i]
 refine Wp.fresh1 (F:=fun n m=>f106_l1 (L106 n) m (some (p,0)) lvl 0 x σ1) ?_
 exact expr_loop hex n h ho
theorem ex_sp:∀ (n:Nat),n ≤ 1000000000 → Sp s 122 [] natE (exP n none) ∧ ∀ l:Nat,Sp s 106 [.int .i64 (l:Int)] natE (exP n (some l)):=by
 intro n
 induction n with
 | zero=>
  intro _
  refine ⟨?_,fun l=>?_⟩
  ·intro fr σ p st o h ho;cases ho
  ·intro fr σ p st o h ho;cases ho
 | succ n ih=>
  intro hn
  obtain ⟨h1,h2⟩:=ih (by omega)
  exact ⟨operand_sp h1 h2 (by omega),fun l=>expr_sp h1 h2 l⟩
end
end Go.Front

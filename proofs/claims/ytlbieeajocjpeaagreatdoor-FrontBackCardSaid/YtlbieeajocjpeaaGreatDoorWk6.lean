/- Statements: param, block, condition, plain, stmt. -/
import Derived.Test.YtlbieeajocjpeaaGreatDoorWk3
set_option linter.unusedSimpArgs false
set_option linter.unusedVariables false
namespace Go.Front
open Go.AM Go.Proofs
def parE (x:Nat × List UInt8 × Int):AV:=.agg [.int .i64 18,.int .i64 (x.1:Int),.str x.2.1,.int .i64 0,.int .i64 x.2.2,.slice none 0 (some 0) 0]
section
variable {s:List UInt8} {fr fr':Fr} {σ σ':St} {p:Nat} {st st':PS (strm s)} {d d':Int} {α β γ:Type} {enc:α → AV} {enc':β → AV} {f:FuncId} {xs:List AV} {v:AV} {kids:List Nat}
theorem param_sp:Sp s 59 [] parE paramP:=by
 intro fr σ p st o h ho
 refine Fw.enter (fun n=>f59_e) ?_
 unfold paramP at ho
 rw [tokP_bind] at ho
 simp only [f59_t,derefK_s,h.tat,xInt_i]
 generalize st.tok.at_ = a at ho ⊢
 have fin {ty:Int} {σ:St} {st:PS (strm s)} (h:Rd s fr σ p st) (ho:(kindP 1 >>= fun nm=>(pure (a,nm.text,ty):PM (strm s) _)) st = some o) :
   Wp (PQ s fr p parE o) fun u=>f59_j1 (pt Tryz.prog Lb 59 u.n) (some (p,0)) a ty 0 0 [] 0 0 none 0 (some 0) 0 σ:=by
  refine Wp.le (F:=fun u=>f59_j1_t (pt Tryz.prog Lb 59 u.n) u.n (some (p,0)) a ty 0 0 [] 0 0 none 0 (some 0) 0 σ) ?_ fun u=>f59_j1_e
  simp only [f59_j1_t]
  refine Rd.call (kind_sp 1) h ho fun t st1 σ1 h ho=>?_
  simp only [Tok.av,Tok.cells,xAgg_a,unC_c,xInt_i,xStr_s,nlC_n]
  exact Rd.ret (enc:=parE) h ho
 refine Rd.call (take_sp [99,104,97,114]) h ho fun b st1 σ1 h ho=>?_
 simp only [boolE,xBool_b]
 refine Wp.ite (fun hb=>?_) fun hb=>?_
 ·simp only [hb,if_true] at ho
  refine Rd.call (must_sp [42]) h ho fun _ st1 σ1 h ho=>?_
  exact fin h ho
 ·simp only [hb,Bool.false_eq_true,if_false] at ho
  refine Rd.call (must_sp [105,110,116]) h ho fun _ st1 σ1 h ho=>?_
  refine Rd.call (take_sp [42]) h ho fun b st1 σ1 h ho=>?_
  simp only [boolE,xBool_b]
  refine Wp.ite (fun hb=>?_) fun hb=>?_
  ·simp only [hb,if_true] at ho
   exact fin h ho
  ·simp only [hb,Bool.false_eq_true,if_false] at ho
   exact fin h ho
theorem condition_sp {ex:Nat → PM (strm s) Nat} (hex:∀ l:Nat,Sp s 106 [.int .i64 (l:Int)] natE (ex l)):Sp s 105 [] natE (conditionP ex):=by
 intro fr σ p st o h ho
 refine Fw.enter (fun n=>f105_e) ?_
 unfold conditionP at ho
 simp only [f105_t]
 refine Rd.call (must_sp [40]) h ho fun _ st1 σ1 h ho=>?_
 refine Rd.call (hex 1) h ho fun x st1 σ1 h ho=>?_
 simp only [natE,xInt_i]
 refine Rd.call (must_sp [41]) h ho fun _ st1 σ1 h ho=>?_
 exact Rd.ret (enc:=natE) h ho
theorem block_loop {sm:PM (strm s) Nat} (hsm:Sp s 77 [] natE sm) {at_:Nat}:∀ (n:Nat) {acc:List Nat} {σ:St} {st:PS (strm s)} {a:Option (Nat × Nat)} {k z:Nat} {c:Option Nat} {o:Except Flt (Nat × PS (strm s))},
  acc.length + n ≤ 1000000000 → KR s fr σ p st (.slice a k c z) acc → (loopP (blockB sm) n acc >>= fun kids=>nextP >>= fun _=>nodeP ⟨17,at_,[],0,0,kids⟩) st = some o →
  Wp (PQ s fr p natE o) fun u=>f60_l1 (pt Tryz.prog Lb 60 u.n) u.m1 (some (p,0)) 0 at_ a k c z σ:=by
 intro n
 induction n with
 | zero=>intro acc σ st a k z c o _ _ ho;rw [PM.bind_none rfl] at ho;cases ho
 | succ n ih=>
  intro acc σ st a k z c o hl h ho
  refine Wp.round1 (F:=fun n m=>f60_l1 (pt Tryz.prog Lb 60 n) m (some (p,0)) 0 at_ a k c z σ) (fun n m=>f60_l1_e) ?_
  simp only [f60_l1_t]
  rw [loopP_succ] at ho
  simp only [blockB,PM.bind_assoc,PM.ite_bind,PM.pure_bind,loopK_inl,loopK_inr] at ho
  refine KR.call (is_sp [125]) h ho PQ.err fun b st1 σ1 h ho=>?_
  simp only [boolE,xBool_b]
  refine Wp.ite (fun hb=>?_) fun hb=>?_
  ·have hb:b = false:=by simpa using hb
   simp only [hb,Bool.false_eq_true,if_false] at ho
   refine KR.call hsm h ho PQ.err fun x st1 σ1 h ho=>?_
   simp only [natE,xInt_i]
   refine h.app rfl (by omega) fun b σ2 h=>?_
   exact ih (by simp;omega) h ho
  ·have hb:b = true:=by simpa using hb
   simp only [hb,if_true] at ho
   refine Wp.le (F:=fun u=>f60_j2_t (pt Tryz.prog Lb 60 u.n) u.n (some (p,0)) 0 at_ a k c z σ1) ?_ fun u=>f60_j2_e
   simp only [f60_j2_t]
   refine KR.call next_sp h ho PQ.err fun _ st1 σ1 h ho=>?_
   simp only [Tok.av,Tok.cells,xAgg_a,unC_c,xInt_i,xStr_s,nlC_n]
   exact KR.nodeLast h ho rfl fun u a σ1=>by simp only [natE,xInt_i]
theorem block_sp {sm:PM (strm s) Nat} (hsm:Sp s 77 [] natE sm) {n:Nat} (hn:n ≤ 1000000000):Sp s 60 [] natE (blockP sm n):=by
 intro fr σ p st o h ho
 refine Fw.enter (fun n=>f60_e) ?_
 unfold blockP at ho
 rw [tokP_bind] at ho
 simp only [f60_t,derefK_s,h.tat,xInt_i]
 generalize st.tok.at_ = at_ at ho ⊢
 refine Rd.call (must_sp [123]) h ho fun _ st1 σ1 h ho=>?_
 refine Wp.fresh1 (F:=fun n m=>f60_l1 (pt Tryz.prog Lb 60 n) m (some (p,0)) 0 at_ none 0 (some 0) 0 σ1) ?_
 exact block_loop hsm n (by simp;omega) (.zero 0 h) ho
theorem plain_sp {ex:Nat → PM (strm s) Nat} (hex:∀ l:Nat,Sp s 106 [.int .i64 (l:Int)] natE (ex l)) (at_:Nat):Sp s 107 [.int .i64 (at_:Int)] natE (plainP ex at_):=by
 intro fr σ p st o h ho
 refine Fw.enter (fun n=>f107_e) ?_
 unfold plainP at ho
 simp only [f107_t]
 refine Rd.call (hex 1) h ho fun x st1 σ1 h ho=>?_
 simp only [natE,xInt_i]
 refine Rd.call (is_sp [61]) h ho fun b st1 σ1 h ho=>?_
 simp only [boolE,xBool_b]
 refine Wp.ite (fun hb=>?_) fun hb=>?_
 ·simp only [hb,if_true] at ho
  obtain ⟨y,hy,ho⟩:=nodeAt_some ho
  have e3:(y.kind != (3:Int)) = !decide (y.kind = 3):=by rw [bne];rfl
  have e5:(y.kind != (5:Int)) = !decide (y.kind = 5):=by rw [bne];rfl
  simp only [derefK_s,h.nodeKind hy,xInt_i,e3,e5]
  have go (ho:(nextP >>= fun _=>ex 1 >>= fun y=>mustP [59] >>= fun _=>nodeAtP x >>= fun a=>nodeP ⟨11,a.at_,[],0,0,[x,y]⟩:PM (strm s) Nat) st1 = some o) :
    Wp (PQ s fr p natE o) fun u=>f107_j1 (pt Tryz.prog Lb 107 u.n) (some (p,0)) at_ 0 x σ1:=by
   refine Wp.le (F:=fun u=>f107_j1_t (pt Tryz.prog Lb 107 u.n) u.n (some (p,0)) at_ 0 x σ1) ?_ fun u=>f107_j1_e
   simp only [f107_j1_t]
   refine Rd.call next_sp h ho fun _ st1 σ1 h ho=>?_
   simp only [Tok.av,Tok.cells,xAgg_a,unC_c,xInt_i,xStr_s,nlC_n]
   refine Rd.call (hex 1) h ho fun y st1 σ1 h ho=>?_
   simp only [natE,xInt_i]
   refine Rd.call (must_sp [59]) h ho fun _ st1 σ1 h ho=>?_
   obtain ⟨d,hd,ho⟩:=nodeAt_some ho
   simp only [derefK_s,h.nodeAt hd,xInt_i]
   exact KR.nodeLast (x:=⟨11,d.at_,[],0,0,[x,y]⟩) (h.new (n:=2) (c:=some 2) [x,y] rfl rfl rfl) ho rfl fun u a σ1=>by simp only [natE,xInt_i]
  refine Wp.ite (fun hb3=>?_) fun hb3=>?_
  ·have hb3:¬ y.kind = 3:=by simpa using hb3
   refine Wp.ite (fun hb5=>?_) fun hb5=>?_
   ·have hb5:¬ y.kind = 5:=by simpa using hb5
    rw [if_neg (by omega)] at ho
    simp only [h.tat,xInt_i]
    exact Rd.wrong h ho
   ·have hb5:y.kind = 5:=by simpa using hb5
    rw [if_pos (.inr hb5)] at ho
    exact go ho
  ·have hb3:y.kind = 3:=by simpa using hb3
   rw [if_pos (.inl hb3)] at ho
   exact go ho
 ·simp only [hb,Bool.false_eq_true,if_false] at ho
  refine Rd.call (must_sp [59]) h ho fun _ st1 σ1 h ho=>?_
  exact KR.nodeLast (x:=⟨10,at_,[],0,0,[x]⟩) (h.new (n:=1) (c:=some 1) [x] rfl rfl rfl) ho rfl fun u a σ1=>by simp only [natE,xInt_i]
noncomputable abbrev L77 (n:Nat):Leaf:=pt Tryz.prog Lb 77 n
theorem var_wp {ex:Nat → PM (strm s) Nat} (hex:∀ l:Nat,Sp s 106 [.int .i64 (l:Int)] natE (ex l)) {i3:Int} {o:Except Flt (Nat × PS (strm s))} (h:Rd s fr σ p st) (ho:(varP ex >>= fun x=>upP >>= fun _=>pure x) st = some o) :
  Wp (PQ s fr p natE o) fun u=>f77_j1_t (L77 u.n) u.n (some (p,0)) 0 i3 (some (p,0)) σ:=by
 simp only [f77_j1_t]
 unfold varP at ho
 simp only [PM.bind_assoc,PM.ite_bind] at ho
 refine Rd.calle param_sp h ho fun x st1 σ1 h ho=>?_
 simp only [parE,xAgg_a,unC_c,xInt_i,xStr_s,xSl_s,nlC_n]
 refine Rd.calle (take_sp [61]) h ho fun b st1 σ1 h ho=>?_
 simp only [boolE,xBool_b]
 refine Wp.ite (fun hb=>?_) fun hb=>?_
 ·simp only [hb,if_true] at ho
  refine Rd.calle (hex 1) h ho fun y st1 σ1 h ho=>?_
  simp only [natE,xInt_i]
  refine KR.calle (must_sp [59]) (h.new (n:=1) (c:=some 1) [y] rfl rfl rfl) ho PQ.err fun _ st1 σ1 h ho=>?_
  refine KR.nodee h ho rfl PQ.err fun y st1 σ1 h ho=>?_
  simp only [natE,xInt_i]
  exact Rd.upRet h ho
 ·simp only [hb,Bool.false_eq_true,if_false] at ho
  refine Rd.calle (must_sp [59]) h ho fun _ st1 σ1 h ho=>?_
  refine KR.nodee (.zero 0 h) ho rfl PQ.err fun y st1 σ1 h ho=>?_
  simp only [natE,xInt_i]
  exact Rd.upRet h ho
theorem stmt_sp {sm:PM (strm s) Nat} {ex:Nat → PM (strm s) Nat} (hsm:Sp s 77 [] natE sm) (hex:∀ l:Nat,Sp s 106 [.int .i64 (l:Int)] natE (ex l)) {n:Nat} (hn:n ≤ 1000000000):Sp s 77 [] natE (stmtP sm ex n):=by
 intro fr σ p st o h ho
 refine Fw.enter (fun n=>f77_e) ?_
 unfold stmtP at ho
 simp only [f77_t]
 refine Rd.call down_sp h ho fun _ st1 σ1 h ho=>?_
 rw [tokP_bind] at ho
 simp only [derefK_s,h.tat,xInt_i]
 generalize st1.tok.at_ = at_ at ho ⊢
 unfold stepP at ho
 simp only [PM.bind_assoc,PM.ite_bind] at ho
 refine Rd.calle (is_sp [123]) h ho fun b st1 σ1 h ho=>?_
 simp only [boolE,xBool_b]
 refine Wp.ite (fun hb=>?_) fun hb=>?_
 ·simp only [hb,if_true] at ho
  refine Rd.calle (block_sp hsm hn) h ho fun x st1 σ1 h ho=>?_
  simp only [natE,xInt_i]
  exact Rd.upRet h ho
 simp only [hb,Bool.false_eq_true,if_false] at ho
 clear hb
 refine Rd.calle (take_sp [105,102]) h ho fun b st1 σ1 h ho=>?_
 simp only [boolE,xBool_b]
 refine Wp.ite (fun hb=>?_) fun hb=>?_
 ·simp only [hb,if_true] at ho
  unfold ifP at ho
  simp only [PM.bind_assoc,PM.ite_bind] at ho
  refine Rd.calle (condition_sp hex) h ho fun c st1 σ1 h ho=>?_
  simp only [natE,xInt_i]
  refine KR.calle hsm (h.new (n:=1) (c:=some 1) [c] rfl rfl rfl) ho PQ.err fun a st1 σ1 h ho=>?_
  simp only [natE,xInt_i]
  refine h.app rfl (by simp) fun b σ2 h=>?_
  refine KR.calle (take_sp [101,108,115,101]) h ho PQ.err fun y st1 σ1 h ho=>?_
  simp only [boolE,xBool_b]
  refine Wp.ite (fun hb=>?_) fun hb=>?_
  ·simp only [hb,if_true] at ho
   refine KR.calle hsm h ho PQ.err fun e st1 σ1 h ho=>?_
   simp only [natE,xInt_i]
   refine h.app rfl (by simp) fun b σ2 h=>?_
   refine KR.nodee h ho rfl PQ.err fun y st1 σ1 h ho=>?_
   simp only [natE,xInt_i]
   exact Rd.upRet h ho
  ·simp only [hb,Bool.false_eq_true,if_false] at ho
   refine KR.nodee h ho rfl PQ.err fun y st1 σ1 h ho=>?_
   simp only [natE,xInt_i]
   exact Rd.upRet h ho
 simp only [hb,Bool.false_eq_true,if_false] at ho
 clear hb
 refine Rd.calle (take_sp [119,104,105,108,101]) h ho fun b st1 σ1 h ho=>?_
 simp only [boolE,xBool_b]
 refine Wp.ite (fun hb=>?_) fun hb=>?_
 ·simp only [hb,if_true] at ho
  refine Rd.calle (condition_sp hex) h ho fun c st1 σ1 h ho=>?_
  simp only [natE,xInt_i]
  refine Rd.calle hsm h ho fun a st1 σ1 h ho=>?_
  simp only [natE,xInt_i]
  refine KR.nodee (h.new (n:=2) (c:=some 2) [c,a] rfl rfl rfl) ho rfl PQ.err fun y st1 σ1 h ho=>?_
  simp only [natE,xInt_i]
  exact Rd.upRet h ho
 simp only [hb,Bool.false_eq_true,if_false] at ho
 clear hb
 refine Rd.calle (take_sp [114,101,116,117,114,110]) h ho fun b st1 σ1 h ho=>?_
 simp only [boolE,xBool_b]
 refine Wp.ite (fun hb=>?_) fun hb=>?_
 ·simp only [hb,if_true] at ho
  refine Rd.calle (hex 1) h ho fun c st1 σ1 h ho=>?_
  simp only [natE,xInt_i]
  refine Rd.calle (must_sp [59]) h ho fun _ st1 σ1 h ho=>?_
  refine KR.nodee (h.new (n:=1) (c:=some 1) [c] rfl rfl rfl) ho rfl PQ.err fun y st1 σ1 h ho=>?_
  simp only [natE,xInt_i]
  exact Rd.upRet h ho
 simp only [hb,Bool.false_eq_true,if_false] at ho
 clear hb
 refine Rd.calle (take_sp [98,114,101,97,107]) h ho fun b st1 σ1 h ho=>?_
 simp only [boolE,xBool_b]
 refine Wp.ite (fun hb=>?_) fun hb=>?_
 ·simp only [hb,if_true] at ho
  refine Rd.calle (must_sp [59]) h ho fun _ st1 σ1 h ho=>?_
  refine KR.nodee (.zero 0 h) ho rfl PQ.err fun y st1 σ1 h ho=>?_
  simp only [natE,xInt_i]
  exact Rd.upRet h ho
 simp only [hb,Bool.false_eq_true,if_false] at ho
 clear hb
 refine Rd.calle (take_sp [99,111,110,116,105,110,117,101]) h ho fun b st1 σ1 h ho=>?_
 simp only [boolE,xBool_b]
 refine Wp.ite (fun hb=>?_) fun hb=>?_
 ·simp only [hb,if_true] at ho
  refine Rd.calle (must_sp [59]) h ho fun _ st1 σ1 h ho=>?_
  refine KR.nodee (.zero 0 h) ho rfl PQ.err fun y st1 σ1 h ho=>?_
  simp only [natE,xInt_i]
  exact Rd.upRet h ho
 simp only [hb,Bool.false_eq_true,if_false] at ho
 clear hb
 refine Rd.calle (is_sp [105,110,116]) h ho fun b st1 σ1 h ho=>?_
 simp only [boolE,xBool_b]
 refine Wp.ite (fun hb=>?_) fun hb=>?_
 ·simp only [hb,if_true] at ho
  refine Wp.le (F:=fun u=>f77_j1_t (L77 u.n) u.n (some (p,0)) 0 at_ (some (p,0)) σ1) ?_ fun u=>f77_j1_e
  exact var_wp hex h ho
 simp only [hb,Bool.false_eq_true,if_false] at ho
 clear hb
 refine Rd.calle (is_sp [99,104,97,114]) h ho fun b st1 σ1 h ho=>?_
 simp only [boolE,xBool_b]
 refine Wp.le (F:=fun u=>f77_j2_t (L77 u.n) u.n (some (p,0)) 0 at_ b (some (p,0)) σ1) ?_ fun u=>f77_j2_e
 simp only [f77_j2_t]
 refine Wp.ite (fun hb=>?_) fun hb=>?_
 ·simp only [hb,if_true] at ho
  have:=var_wp hex (i3:=at_) h ho
  simp only [f77_j1_t] at this
  exact this
 simp only [hb,Bool.false_eq_true,if_false] at ho
 refine Rd.calle (plain_sp hex at_) h ho fun x st1 σ1 h ho=>?_
 simp only [natE,xInt_i]
 exact Rd.upRet h ho
theorem sm_sp:∀ (n:Nat),n ≤ 1000000000 → Sp s 77 [] natE (smP n):=by
 intro n
 induction n with
 | zero=>intro _ fr σ p st o h ho;cases ho
 | succ n ih=>intro hn;exact stmt_sp (ih (by omega)) (ex_sp n (by omega)).2 (by omega)
end
end Go.Front
/- Declarations: function,declaration. -/
set_option linter.unusedSimpArgs false
set_option linter.unusedVariables false
namespace Go.Front
open Go.AM Go.Proofs
section
variable {s:List UInt8} {fr fr':Fr} {σ σ':St} {p:Nat} {st st':PS (strm s)} {d d':Int} {α β γ:Type} {enc:α → AV} {enc':β → AV} {f:FuncId} {xs:List AV} {v:AV} {kids:List Nat}
theorem KR.len {a:Option (Nat × Nat)} {n z:Nat} {c:Option Nat} (h:KR s fr σ p st (.slice a n c z) kids):n = kids.length:=by
 cases h <;> rfl
theorem KR.nodeIn {Q:Post} {x:Node} {k:Nat → PM (strm s) β} {o:Except Flt (β × PS (strm s))} {K:Fu → AV → St → Out} {args:List AV} (h:KR s fr σ p st v kids) (ho:(nodeP x >>= k) st = some o) {z:Nat} (hx:x.kids = [])
  (ha:args = [.ptr (some (p,0)),.agg [.int .i64 x.kind,.int .i64 x.at_,.str x.text,.int .i64 x.n,.int .i64 x.m,.slice none 0 (some 0) z]])
  (hp:∀ e,o = .error e → ∀ σ',(∃ st d,RdX s fr σ' p st d) → Q (.pan (faultAV e.1 e.2)) σ') (hk:∀ a st1 σ1,KR s fr σ1 p st1 v kids → k a st1 = some o → Wp Q fun u=>K u (natE a) σ1) :
  Wp Q fun u=>callT Tryz.prog Lb u.n 14 args σ (K u):=by
 obtain ⟨fr',h1,h2,h3⟩:=h.lend
 exact KR.node (x:=x) (v:=.slice none 0 (some 0) z) (by rw [hx];exact .zero z h1) ho ha (fun e he σ' hx=>by obtain ⟨st,d,hx⟩:=hx;exact hp e he σ' ⟨st,d,h3 σ' st d hx⟩) fun a st1 σ1 h4 h5=>hk a st1 σ1 (h2 σ1 st1 h4) h5
noncomputable abbrev L36 (n:Nat):Leaf:=pt Tryz.prog Lb 36 n
theorem body_wp {n at_:Nat} {nm:List UInt8} (hn:n ≤ 1000000000) {a:Option (Nat × Nat)} {k z:Nat} {c:Option Nat} {o:Except Flt (Nat × PS (strm s))} (hl:kids.length ≤ 1000000000) (h:KR s fr σ p st (.slice a k c z) kids) (ho:bodyP n at_ nm kids st = some o) :
  Wp (PQ s fr p natE o) fun u=>f36_j2 (L36 u.n) (some (p,0)) at_ nm 0 a k c z σ:=by
 obtain rfl:=h.len
 refine Wp.le (F:=fun u=>f36_j2_t (L36 u.n) u.n (some (p,0)) at_ nm 0 a kids.length c z σ) ?_ fun u=>f36_j2_e
 simp only [f36_j2_t]
 unfold bodyP at ho
 refine KR.call (block_sp (sm_sp n hn) hn) h ho PQ.err fun b st1 σ1 h ho=>?_
 simp only [natE,xInt_i]
 refine h.app rfl hl fun b σ2 h=>?_
 exact KR.nodeLast h ho rfl fun u a σ1=>by simp only [natE,xInt_i]
theorem params_loop {N at_:Nat} {nm:List UInt8} (hN:N ≤ 1000000000):∀ (n:Nat) {acc:List Nat} {σ:St} {st:PS (strm s)} {a:Option (Nat × Nat)} {k z:Nat} {c:Option Nat} {o:Except Flt (Nat × PS (strm s))},
  acc.length + n ≤ 1000000000 → KR s fr σ p st (.slice a k c z) acc → (loopP paramsB n acc >>= fun kids=>bodyP N at_ nm kids) st = some o →
  Wp (PQ s fr p natE o) fun u=>f36_l1 (L36 u.n) u.m1 (some (p,0)) at_ nm 0 a k c z σ:=by
 intro n
 induction n with
 | zero=>intro acc σ st a k z c o _ _ ho;rw [PM.bind_none rfl] at ho;cases ho
 | succ n ih=>
  intro acc σ st a k z c o hl h ho
  refine Wp.round1 (F:=fun n m=>f36_l1 (L36 n) m (some (p,0)) at_ nm 0 a k c z σ) (fun n m=>f36_l1_e) ?_
  simp only [f36_l1_t]
  rw [loopP_succ] at ho
  simp only [paramsB,PM.bind_assoc,PM.ite_bind,PM.pure_bind,loopK_inl,loopK_inr] at ho
  refine KR.call param_sp h ho PQ.err fun x st1 σ1 h ho=>?_
  simp only [parE,xAgg_a,unC_c,xInt_i,xStr_s,xSl_s,nlC_n]
  refine KR.nodeIn h ho rfl rfl PQ.err fun y st1 σ1 h ho=>?_
  simp only [natE,xInt_i]
  refine h.app rfl (by omega) fun b σ2 h=>?_
  refine KR.call (take_sp [41]) h ho PQ.err fun b st1 σ1 h ho=>?_
  simp only [boolE,xBool_b]
  refine Wp.ite (fun hb=>?_) fun hb=>?_
  ·simp only [hb,if_true] at ho
   exact body_wp hN (by simp;omega) h ho
  ·simp only [hb,Bool.false_eq_true,if_false] at ho
   refine KR.call (must_sp [44]) h ho PQ.err fun _ st1 σ1 h ho=>?_
   exact ih (by simp;omega) h ho
theorem function_sp {n at_:Nat} {nm:List UInt8} (hn:n ≤ 1000000000):Sp s 36 [.int .i64 (at_:Int),.str nm] natE (functionP n at_ nm):=by
 intro fr σ p st o h ho
 refine Fw.enter (fun n=>f36_e) ?_
 unfold functionP at ho
 simp only [f36_t]
 refine Rd.call next_sp h ho fun _ st1 σ1 h ho=>?_
 simp only [Tok.av,Tok.cells,xAgg_a,unC_c,xInt_i,xStr_s,nlC_n]
 refine Rd.call (take_sp [41]) h ho fun b st1 σ1 h ho=>?_
 simp only [boolE,xBool_b]
 refine Wp.ite (fun hb=>?_) fun hb=>?_
 ·have hb:b = false:=by simpa using hb
  simp only [hb,Bool.false_eq_true,if_false] at ho
  refine Wp.fresh1 (F:=fun n m=>f36_l1 (L36 n) m (some (p,0)) at_ nm 0 none 0 (some 0) 0 σ1) ?_
  exact params_loop hn n (by simp;omega) (.zero 0 h) ho
 ·have hb:b = true:=by simpa using hb
  simp only [hb,if_true] at ho
  exact body_wp hn (by simp) (.zero 0 h) ho
noncomputable abbrev L13 (n:Nat):Leaf:=pt Tryz.prog Lb 13 n
theorem array_wp {at_:Nat} {nm:List UInt8} {ty:Int} {o:Except Flt (Nat × PS (strm s))} (h:Rd s fr σ p st) (ho:arrayP at_ nm ty st = some o) :
  Wp (PQ s fr p natE o) fun u=>f13_j4 (L13 u.n) (some (p,0)) 0 at_ ty nm σ:=by
 refine Wp.le (F:=fun u=>f13_j4_t (L13 u.n) u.n (some (p,0)) 0 at_ ty nm σ) ?_ fun u=>f13_j4_e
 simp only [f13_j4_t]
 unfold arrayP at ho
 refine Rd.call (must_sp [91]) h ho fun _ st1 σ1 h ho=>?_
 refine Rd.call (kind_sp 3) h ho fun k st1 σ1 h ho=>?_
 simp only [Tok.av,Tok.cells,xAgg_a,unC_c,xInt_i,xStr_s,nlC_n]
 refine Rd.call (must_sp [93]) h ho fun _ st1 σ1 h ho=>?_
 refine Rd.call (must_sp [59]) h ho fun _ st1 σ1 h ho=>?_
 exact KR.nodeLast (.zero 0 h) ho rfl fun u a σ1=>by simp only [natE,xInt_i]
theorem decl_sp {n:Nat} (hn:n ≤ 1000000000):Sp s 13 [] natE (declP n):=by
 intro fr σ p st o h ho
 refine Fw.enter (fun n=>f13_e) ?_
 unfold declP at ho
 rw [tokP_bind] at ho
 simp only [f13_t,derefK_s,h.tat,xInt_i]
 generalize st.tok.at_ = at_ at ho ⊢
 refine Rd.call (take_sp [99,104,97,114]) h ho fun b st1 σ1 h ho=>?_
 simp only [boolE,xBool_b]
 refine Wp.ite (fun hb=>?_) fun hb=>?_
 ·simp only [hb,if_true] at ho
  refine Wp.le (F:=fun u=>f13_j1_t (L13 u.n) u.n (some (p,0)) 0 at_ 2 σ1) ?_ fun u=>f13_j1_e
  simp only [f13_j1_t]
  refine Rd.call (kind_sp 1) h ho fun k st1 σ1 h ho=>?_
  simp only [Tok.av,Tok.cells,xAgg_a,unC_c,xInt_i,xStr_s,nlC_n]
  refine Wp.neg (by decide) ?_
  refine Wp.le (F:=fun u=>f13_j3_t (L13 u.n) u.n (some (p,0)) 0 at_ 2 k.text σ1) ?_ fun u=>f13_j3_e
  simp only [f13_j3_t]
  exact Wp.neg (by decide) (array_wp h ho)
 ·simp only [hb,Bool.false_eq_true,if_false] at ho
  refine Rd.call (must_sp [105,110,116]) h ho fun _ st1 σ1 h ho=>?_
  refine Wp.le (F:=fun u=>f13_j1_t (L13 u.n) u.n (some (p,0)) 0 at_ 3 σ1) ?_ fun u=>f13_j1_e
  simp only [f13_j1_t]
  refine Rd.call (kind_sp 1) h ho fun k st1 σ1 h ho=>?_
  simp only [Tok.av,Tok.cells,xAgg_a,unC_c,xInt_i,xStr_s,nlC_n]
  refine Wp.pos (by decide) ?_
  refine Rd.call (take_sp [59]) h ho fun b st1 σ1 h ho=>?_
  simp only [boolE,xBool_b]
  refine Wp.le (F:=fun u=>f13_j2_t (L13 u.n) u.n (some (p,0)) 0 at_ 3 k.text b σ1) ?_ fun u=>f13_j2_e
  simp only [f13_j2_t]
  refine Wp.ite (fun hb=>?_) fun hb=>?_
  ·simp only [hb,if_true] at ho
   exact KR.nodeLast (.zero 0 h) ho rfl fun u a σ1=>by simp only [natE,xInt_i]
  ·simp only [hb,Bool.false_eq_true,if_false] at ho
   refine Wp.pos (by decide) ?_
   refine Rd.call (is_sp [40]) h ho fun b st1 σ1 h ho=>?_
   simp only [boolE,xBool_b]
   refine Wp.ite (fun hb=>?_) fun hb=>?_
   ·simp only [hb,if_true] at ho
    exact Rd.last (function_sp hn) h ho fun u a σ1=>by simp only [natE,xInt_i]
   ·simp only [hb,Bool.false_eq_true,if_false] at ho
    exact array_wp h ho
theorem KR.callx {Q:Post} {m:PM (strm s) α} {k:α → PM (strm s) β} {o:Except Flt (β × PS (strm s))} {K KP:Fu → AV → St → Out} (hf:Sp s f xs enc m) (h:KR s fr σ p st v kids) (ho:(m >>= k) st = some o)
  (hp:∀ e,o = .error e → ∀ σ',(∃ st d,RdX s fr σ' p st d) → Wp Q fun u=>KP u (faultAV e.1 e.2) σ') (hk:∀ a st1 σ1,KR s fr σ1 p st1 v kids → k a st1 = some o → Wp Q fun u=>K u (enc a) σ1) :
  Wp Q fun u=>callE Tryz.prog Lb u.n f (.ptr (some (p,0)) :: xs) σ (K u) (KP u):=by
 obtain ⟨fr',h1,h2,h3⟩:=h.lend
 rcases PM.bind_some ho with ⟨e,h4,h5⟩ | ⟨a,st1,h4,h5⟩
 ·refine Wp.calle (hf fr' σ p st _ h1 h4) (fun v σ' hv=>by cases hv.1) fun v σ' hv=>?_
  obtain ⟨hv,st2,d2,hx⟩:=hv
  cases hv
  exact hp e h5 σ' ⟨st2,d2,h3 σ' st2 d2 hx⟩
 ·refine Wp.calle (hf fr' σ p st _ h1 h4) (fun v σ' hv=>?_) fun v σ' hv=>by cases hv.1
  obtain ⟨hv,hx⟩:=hv
  cases hv
  exact hk a st1 σ' (h2 σ' st1 hx) h5
theorem KR.nodex {Q:Post} {x:Node} {o:Except Flt (Nat × PS (strm s))} {K KP:Fu → AV → St → Out} {args:List AV} (h:KR s fr σ p st v x.kids) (ho:nodeP x st = some o)
  (ha:args = [.ptr (some (p,0)),.agg [.int .i64 x.kind,.int .i64 x.at_,.str x.text,.int .i64 x.n,.int .i64 x.m,v]])
  (hp:∀ e,o = .error e → ∀ σ',(∃ st d,RdX s fr σ' p st d) → Wp Q fun u=>KP u (faultAV e.1 e.2) σ') (hk:∀ a st1 σ1,Rd s fr σ1 p st1 → o = .ok (a,st1) → Wp Q fun u=>K u (natE a) σ1) :
  Wp Q fun u=>callE Tryz.prog Lb u.n 14 args σ (K u) (KP u):=by
 subst ha
 cases o with
 | error e=>exact Wp.calle (node_fn h ho) (fun v σ' hv=>by cases hv.1) fun v σ' hv=>by obtain ⟨hv,hx⟩:=hv;cases hv;exact hp e rfl σ' hx
 | ok y=>
  obtain ⟨a,st1⟩:=y
  refine Wp.calle (node_fn h ho) (fun v σ' hv=>?_) fun v σ' hv=>by cases hv.1
  obtain ⟨hv,hx⟩:=hv
  cases hv
  exact hk a st1 σ' hx rfl
end
inductive KAt (σ:St):AV → List Nat → Prop
 | zero (z:Nat):KAt σ (.slice none 0 (some 0) z) []
 | one {kids:List Nat} (b:Nat) (c:Option Nat) (hc:∀ x,c = some x → kids.length ≤ x) (hb:cellsAt σ b = some (kidsL kids)):KAt σ (.slice (some (b,0)) kids.length c 1) kids
inductive SrcAt (σ:St):AV → List Node → Prop
 | zero (z:Nat):SrcAt σ (.slice none 0 (some 0) z) []
 | one (tb:Nat) (c:Option Nat) (l:List (Node × AV)) (hb:cellsAt σ tb = some (l.flatMap ncell)) (hk:∀ x ∈ l,KAt σ x.2 x.1.kids):SrcAt σ (.slice (some (tb,0)) l.length c 6) (l.map Prod.fst)
def Up (σ σ':St):Prop:=Low σ.length σ σ'
theorem Up.refl (σ:St):Up σ σ:=Low.refl _ _
theorem Up.trans {σ σ1 σ2:St} (h:Up σ σ1) (g:Up σ1 σ2):Up σ σ2:=⟨Nat.le_trans h.len g.len,fun x hx=>(g.same x (Nat.lt_of_lt_of_le hx h.len)).trans (h.same x hx)⟩
theorem Up.app {σ:St} (τ:St):Up σ (σ ++ τ):=Low.app (Nat.le_refl _)
theorem Up.cells {σ σ':St} (h:Up σ σ') {b:Nat} {cs:List AV} (hc:cellsAt σ b = some cs):cellsAt σ' b = some cs:=by
 unfold cellsAt at hc ⊢
 cases hb:σ[b]? with
 | none=>rw [hb] at hc;cases hc
 | some o=>rw [h.same b (lt_of hb)];exact hc
theorem KAt.up {σ σ':St} (h:Up σ σ') {v:AV} {kids:List Nat} (hk:KAt σ v kids):KAt σ' v kids:=by
 cases hk with
 | zero z=>exact .zero z
 | one b c hc hb=>exact .one b c hc (h.cells hb)
theorem _root_.Go.Proofs.Kn.up {σ σ':St} (hk:Kn σ) (h:Up σ σ'):Kn σ':=by
 have hl:=hk.len
 refine ⟨?_,?_,?_,?_⟩ <;> rw [h.same _ (by omega)]
 ·exact hk.asc
 ·exact hk.pow
 ·exact hk.syn
 ·exact hk.rng
theorem NodesAt.src {fr:Fr} {σ:St} {p:Nat} {tv:AV} {nd:List Node} (h:NodesAt fr σ p tv nd):SrcAt σ tv nd:=by
 cases h with
 | zero z=>exact .zero z
 | one tb l hb hf hp hk=>
  refine .one tb _ l (by unfold cellsAt;rw [hb]) fun x hx=>?_
  have:=hk x hx
  revert this
  generalize x.2 = v
  generalize x.1.kids = kids
  intro this
  cases this with
  | zero z=>exact .zero z
  | one b c hc hb hf hp ht=>exact .one b c hc (by unfold cellsAt;rw [hb];rfl)
end Go.Front
/- Parse,and whole. -/
set_option linter.unusedSimpArgs false
set_option linter.unusedVariables false
namespace Go.Front
open Go.AM Go.Proofs
theorem agg25:aggO Tryz.prog 25 = some false:=by kernel_rfl
theorem agg4:aggO Tryz.prog 4 = some false:=by kernel_rfl
def parseO (s:List UInt8) (n:Nat):Option (Except Flt (List Node)):=if s.length > 8192 then some (.error (15,0)) else readP (strm s) (0:Nat) n
def parseQ (σ:St) (o:Except Flt (List Node)):Post:=fun r σ'=>Up σ σ' ∧
 match o with
 | .ok nd=>∃ v,r = .ret (.tuple [v,.int .i64 0,.int .i64 0]) ∧ SrcAt σ' v nd
 | .error e=>r = .ret (.tuple [.slice none 0 (some 0) 0,.int .i64 e.1,.int .i64 e.2])
noncomputable abbrev L7 (n:Nat):Leaf:=pt Tryz.prog Lb 7 n
def boxes3 (σ:St) (t e a:AV):St:=σ ++ [AObj.cells [t] (.rw (.box 24))] ++ [AObj.cells [e] (.rw (.box 25))] ++ [AObj.cells [a] (.rw (.box 3))]
def frB (σ:St):Fr:=fun b=>σ[b]?
section
variable {s:List UInt8} {σ0 σ σ':St} {p:Nat} {st:PS (strm s)} {d:Int}
structure Res3 (σ0 σ':St) (t e a:AV):Prop where
 up:Up σ0 σ'
 ht:σ'[σ0.length]? = some (.cells [t] (.rw (.box 24)))
 he:σ'[σ0.length + 1]? = some (.cells [e] (.rw (.box 25)))
 ha:σ'[σ0.length + 2]? = some (.cells [a] (.rw (.box 3)))
theorem boxes_len (t e a:AV):(boxes3 σ0 t e a).length = σ0.length + 3:=by simp [boxes3]
theorem boxes_t (t e a:AV):(boxes3 σ0 t e a)[σ0.length]? = some (.cells [t] (.rw (.box 24))):=by simp [boxes3,List.append_assoc]
theorem boxes_e (t e a:AV):(boxes3 σ0 t e a)[σ0.length + 1]? = some (.cells [e] (.rw (.box 25))):=by
 simp only [boxes3,List.append_assoc]
 rw [List.getElem?_append_right (by omega)];simp
theorem boxes_a (t e a:AV):(boxes3 σ0 t e a)[σ0.length + 2]? = some (.cells [a] (.rw (.box 3))):=by
 simp only [boxes3,List.append_assoc]
 rw [List.getElem?_append_right (by omega)];simp
theorem boxes_old (t e a:AV) {b:Nat} (hb:b < σ0.length):(boxes3 σ0 t e a)[b]? = σ0[b]?:=by
 simp only [boxes3,List.append_assoc]
 rw [List.getElem?_append_left hb]
theorem res3_of {fr:Fr} (h:RdX s (frB (boxes3 σ0 (.slice none 0 (some 0) 0) (.int .i64 0) (.int .i64 0))) σ p st d):Res3 σ0 σ (.slice none 0 (some 0) 0) (.int .i64 0) (.int .i64 0):=by
 refine ⟨⟨?_,fun x hx=>?_⟩,h.keep _ _ (boxes_t _ _ _),h.keep _ _ (boxes_e _ _ _),h.keep _ _ (boxes_a _ _ _)⟩
 ·have:=lt_of (h.keep _ _ (boxes_a _ _ _));omega
 ·obtain ⟨o,ho⟩:∃ o,σ0[x]? = some o:=⟨σ0[x],List.getElem?_eq_getElem hx⟩
  rw [ho]
  exact h.keep x o (by unfold frB;rw [boxes_old _ _ _ hx];exact ho)
theorem set1 {b:Nat} {t:AV} {m:Mk} {y:AV} {f:St → Out} (h:σ[b]? = some (.cells [t] (.rw m))):stK σ b 0 [y] f = f (σ.set b (.cells [y] (.rw m))):=by
 unfold stK;rw [h];simp only;rw [if_pos (by simp)];rfl
theorem Res3.setT {t e a:AV} (h:Res3 σ0 σ t e a) (t':AV):Res3 σ0 (σ.set σ0.length (.cells [t'] (.rw (.box 24)))) t' e a:=
 ⟨⟨by simpa using h.up.len,fun x hx=>by rw [List.getElem?_set_ne (by omega)];exact h.up.same x hx⟩,List.getElem?_set_self (lt_of h.ht),by rw [List.getElem?_set_ne (by omega)];exact h.he,by rw [List.getElem?_set_ne (by omega)];exact h.ha⟩
theorem Res3.setE {t e a:AV} (h:Res3 σ0 σ t e a) (e':AV):Res3 σ0 (σ.set (σ0.length + 1) (.cells [e'] (.rw (.box 25)))) t e' a:=
 ⟨⟨by simpa using h.up.len,fun x hx=>by rw [List.getElem?_set_ne (by omega)];exact h.up.same x hx⟩,by rw [List.getElem?_set_ne (by omega)];exact h.ht,List.getElem?_set_self (lt_of h.he),by rw [List.getElem?_set_ne (by omega)];exact h.ha⟩
theorem Res3.setA {t e a:AV} (h:Res3 σ0 σ t e a) (a':AV):Res3 σ0 (σ.set (σ0.length + 2) (.cells [a'] (.rw (.box 3)))) t e a':=
 ⟨⟨by simpa using h.up.len,fun x hx=>by rw [List.getElem?_set_ne (by omega)];exact h.up.same x hx⟩,by rw [List.getElem?_set_ne (by omega)];exact h.ht,by rw [List.getElem?_set_ne (by omega)];exact h.he,List.getElem?_set_self (lt_of h.ha)⟩
theorem Res3.ldT {t e a:AV} (h:Res3 σ0 σ t e a) (f:AV → Out):ldK Tryz.prog 24 σ σ0.length 0 f = f t:=ldc (cs:=[t]) (by unfold cellsAt;rw [h.ht]) agg24 rfl
theorem Res3.ldE {t e a:AV} (h:Res3 σ0 σ t e a) (f:AV → Out):ldK Tryz.prog 25 σ (σ0.length + 1) 0 f = f e:=ldc (cs:=[e]) (by unfold cellsAt;rw [h.he]) agg25 rfl
theorem Res3.ldA {t e a:AV} (h:Res3 σ0 σ t e a) (f:AV → Out):ldK Tryz.prog 3 σ (σ0.length + 2) 0 f = f a:=ldc (cs:=[a]) (by unfold cellsAt;rw [h.ha]) agg3 rfl
theorem parse_pan {e:Flt} (h:Res3 σ0 σ (.slice none 0 (some 0) 0) (.int .i64 0) (.int .i64 0)) {b1 b2:Nat} (h1:b1 = σ0.length + 1) (h2:b2 = σ0.length + 2) :
  Wp (parseQ σ0 (.error e)) fun u=>dfT Tryz.prog Lb u.n 11 [.ptr (some (σ0.length,0)),.ptr (some (b1,0)),.ptr (some (b2,0))] (some (faultAV e.1 e.2)) σ fun u6 σ7=>
   lvK u6 (fun v8=>some (.pan v8,σ7)) (ldK Tryz.prog 24 σ7 σ0.length 0 fun x9=>ldK Tryz.prog 25 σ7 b1 0 fun x10=>ldK Tryz.prog 3 σ7 b2 0 fun x11=>some (.ret (.tuple [x9,x10,x11]),σ7)):=by
 subst h1;subst h2
 have r1:=h.setT (.slice none 0 (some 0) 0)
 have r2:=r1.setE (.int .i64 e.1)
 have r3:=r2.setA (.int .i64 e.2)
 refine Wp.df (x':=none) (σ':=_) ⟨0,fun n _=>f11_d (y:=.tuple []) (σ':=(((σ.set σ0.length (.cells [.slice none 0 (some 0) 0] (.rw (.box 24)))).set (σ0.length + 1) (.cells [.int .i64 e.1] (.rw (.box 25)))).set (σ0.length + 2) (.cells [.int .i64 (e.2:Int)] (.rw (.box 3))))) ?_⟩ (Wp.lv0 ?_)
 ·simp only [f11_dt,Option.getD_some,faultAV,astK,if_true,xAgg_a,unC_c,xInt_i,nlC_n,set1 h.ht,set1 r1.he,set1 r2.ha]
 ·simp only [r3.ldT,r3.ldE,r3.ldA]
  exact Wp.ret ⟨r3.up,rfl⟩
theorem NodesAt.mono2 {fr:Fr} {tv:AV} {nd:List Node} (h:NodesAt fr σ p tv nd) (hs:∀ b,b < σ.length → fr b = none → b ≠ p → σ'[b]? = σ[b]?):NodesAt fr σ' p tv nd:=by
 cases h with
 | zero z=>exact .zero z
 | one tb l hb hf hp hk=>
  refine .one tb l (by rw [hs tb (lt_of hb) hf hp];exact hb) hf hp fun x hx=>?_
  have:=hk x hx
  revert this
  generalize x.2 = v
  generalize x.1.kids = kids
  intro this
  cases this with
  | zero z=>exact .zero z
  | one b c hc hb hf hp ht=>exact .one b c hc (by rw [hs b (lt_of hb) hf hp];exact hb) hf hp ht
def parR (o:Except Flt (Nat × PS (strm s))):Except Flt (List Node):=
 match o with
 | .error e=>.error e
 | .ok x=>.ok x.2.nodes
abbrev frP (σ0:St):Fr:=frB (boxes3 σ0 (.slice none 0 (some 0) 0) (.int .i64 0) (.int .i64 0))
theorem parse_end {a:Option (Nat × Nat)} {k z:Nat} {c:Option Nat} {kids:List Nat} {o:Except Flt (Nat × PS (strm s))} (h:KR s (frP σ0) σ p st (.slice a k c z) kids) (ho:nodeP ⟨23,0,[],0,0,kids⟩ st = some o) :
  Wp (parseQ σ0 (parR o)) fun u=>f7_j2 (L7 u.n) σ0.length 0 (σ0.length + 1) 0 (σ0.length + 2) 0 p 0 a k c z σ0.length 0 (σ0.length + 1) 0 (σ0.length + 2) 0 σ:=by
 refine Wp.le (F:=fun u=>f7_j2_t (L7 u.n) u.n σ0.length 0 (σ0.length + 1) 0 (σ0.length + 2) 0 p 0 a k c z σ0.length 0 (σ0.length + 1) 0 (σ0.length + 2) 0 σ) ?_ fun u=>f7_j2_e
 simp only [f7_j2_t]
 refine KR.nodex h ho rfl (fun e he σ' hx=>?_) fun x st1 σ1 h he=>?_
 ·subst he
  obtain ⟨st2,d2,hx⟩:=hx
  exact parse_pan (res3_of (fr:=frP σ0) hx) rfl rfl
 ·subst he
  obtain ⟨tv,hc,hn⟩:=h.1.c
  obtain ⟨ta,tc,tz,htv⟩:=nodes_len hn
  have r0:=res3_of (fr:=frP σ0) h.1
  have r1:=r0.setT tv
  have r2:=r1.setE (.int .i64 0)
  have r3:=r2.setA (.int .i64 0)
  simp only [natE,xInt_i,hc.nodes]
  rw [htv] at r1 r2 r3 hn ⊢
  simp only [xSl_s,set1 r0.ht,set1 r1.he,set1 r2.ha]
  refine Wp.df (x':=none) (σ':=_) ⟨0,fun n _=>f11_d (y:=.tuple []) (by simp only [f11_dt,Option.getD_none,astK];rfl)⟩ (Wp.lv0 ?_)
  simp only [r3.ldT,r3.ldE,r3.ldA]
  refine Wp.ret ⟨r3.up,_,rfl,NodesAt.src (fr:=frP σ0) (p:=p) (hn.mono2 fun b hb hf hp=>?_)⟩
  have nb {x:Nat} {o:AObj} (hx:(boxes3 σ0 (.slice none 0 (some 0) 0) (.int .i64 0) (.int .i64 0))[x]? = some o):x ≠ b:=fun e=>by
   subst e;unfold frP frB at hf;rw [hx] at hf;cases hf
  rw [List.getElem?_set_ne (nb (boxes_a _ _ _)),List.getElem?_set_ne (nb (boxes_e _ _ _)),List.getElem?_set_ne (nb (boxes_t _ _ _))]
theorem parse_loop {N:Nat} (hN:N ≤ 1000000000):∀ (n:Nat) {acc:List Nat} {σ:St} {st:PS (strm s)} {a:Option (Nat × Nat)} {k z:Nat} {c:Option Nat} {o:Except Flt (Nat × PS (strm s))},
  acc.length + n ≤ 1000000000 → KR s (frP σ0) σ p st (.slice a k c z) acc → (loopP (declB N) n acc >>= fun kids=>nodeP ⟨23,0,[],0,0,kids⟩) st = some o →
  Wp (parseQ σ0 (parR o)) fun u=>f7_l1 (L7 u.n) u.m1 σ0.length 0 (σ0.length + 1) 0 (σ0.length + 2) 0 p 0 a k c z σ0.length 0 (σ0.length + 1) 0 (σ0.length + 2) 0 σ:=by
 intro n
 induction n with
 | zero=>intro acc σ st a k z c o _ _ ho;rw [PM.bind_none rfl] at ho;cases ho
 | succ n ih=>
  intro acc σ st a k z c o hl h ho
  refine Wp.round1 (F:=fun n m=>f7_l1 (L7 n) m σ0.length 0 (σ0.length + 1) 0 (σ0.length + 2) 0 p 0 a k c z σ0.length 0 (σ0.length + 1) 0 (σ0.length + 2) 0 σ) (fun n m=>f7_l1_e) ?_
  have hr:=h.rd
  have e00:((st.tok.kind:Int) == (0:Int)) = decide (st.tok.kind = 0):=natInt (b:=0)
  have e0:((st.tok.kind:Int) != (0:Int)) = !decide (st.tok.kind = 0):=by rw [bne,e00]
  simp only [f7_l1_t,hr.kind,xInt_i,e0]
  rw [loopP_succ] at ho
  simp only [declB,PM.bind_assoc,PM.ite_bind,PM.pure_bind,loopK_inl,loopK_inr] at ho
  rw [tokP_bind] at ho
  refine Wp.ite (fun hb=>?_) fun hb=>?_
  ·have hb:¬ st.tok.kind = 0:=by simpa using hb
   rw [if_neg hb] at ho
   refine KR.callx (decl_sp hN) h ho (fun e he σ' hx=>?_) fun x st1 σ1 h ho=>?_
   ·subst he
    obtain ⟨st2,d2,hx⟩:=hx
    exact parse_pan (res3_of (fr:=frP σ0) hx) rfl rfl
   ·simp only [natE,xInt_i]
    refine h.app rfl (by omega) fun b σ2 h=>?_
    exact ih (by simp;omega) h ho
  ·have hb:st.tok.kind = 0:=by simpa using hb
   rw [if_pos hb] at ho
   exact parse_end h ho
theorem parse_fn (hk:Kn σ0) {n:Nat} (hn:n ≤ 1000000000) {o:Except Flt (List Node)} (ho:parseO s n = some o):Fw Tryz.prog Lb 7 [.str s] σ0 (parseQ σ0 o):=by
 refine Fw.enter (fun n=>f7_e) ?_
 have l1 (x:AObj):(σ0 ++ [x]).length = σ0.length + 1:=by simp
 have l2 (x y:AObj):(σ0 ++ [x] ++ [y]).length = σ0.length + 2:=by simp
 have hbx:(σ0 ++ [AObj.cells [.slice none 0 (some 0) 0] (.rw (.box 24))] ++ [AObj.cells [.int .i64 0] (.rw (.box 25))] ++ [AObj.cells [.int .i64 0] (.rw (.box 3))]:St) = boxes3 σ0 (.slice none 0 (some 0) 0) (.int .i64 0) (.int .i64 0):=rfl
 simp only [f7_t,l1,l2,hbx]
 unfold parseO at ho
 have hu:Up σ0 (boxes3 σ0 (.slice none 0 (some 0) 0) (.int .i64 0) (.int .i64 0)):=⟨by rw [boxes_len];omega,fun x hx=>boxes_old _ _ _ hx⟩
 have r0:Res3 σ0 (boxes3 σ0 (.slice none 0 (some 0) 0) (.int .i64 0) (.int .i64 0)) _ _ _:=⟨hu,boxes_t _ _ _,boxes_e _ _ _,boxes_a _ _ _⟩
 refine Wp.ite (fun hb=>?_) fun hb=>?_
 ·have hb:s.length > 8192:=by simp at hb;omega
  rw [if_pos hb] at ho
  cases ho
  have r1:=r0.setT (.slice none 0 (some 0) 0)
  have r2:=r1.setE (.int .i64 15)
  have r3:=r2.setA (.int .i64 0)
  simp only [set1 r0.ht,set1 r1.he,set1 r2.ha,r3.ldT,r3.ldE,r3.ldA]
  exact Wp.ret ⟨r3.up,rfl⟩
 ·have hb:¬ s.length > 8192:=by simp at hb;omega
  rw [if_neg hb] at ho
  unfold readP at ho
  have hnx:(strm s).nxt (0:Nat) = match cut s 0 with | (f,none)=>.inl f | (_,some (t,q))=>.inr (t,q):=rfl
  rw [hnx] at ho
  have h0:RdC (boxes3 σ0 (.slice none 0 (some 0) 0) (.int .i64 0) (.int .i64 0) ++ [AObj.cells [.str s,.int .i64 (0:Int),.int .i64 (0:Int),.int .i64 (0:Int),.str [],.int .i64 (0:Int),.slice none 0 (some 0) 0,.int .i64 (0:Int)] (.rw (.box 46))])
    (boxes3 σ0 (.slice none 0 (some 0) 0) (.int .i64 0) (.int .i64 0)).length s 0 ⟨0,0,[],0⟩ (.slice none 0 (some 0) 0) 0:=⟨by rw [List.getElem?_append_right (Nat.le_refl _)];simp [rc]⟩
  have hu0:=hu
  generalize hB:boxes3 σ0 (.slice none 0 (some 0) 0) (.int .i64 0) (.int .i64 0) = B at *
  have hu1:Up σ0 (B ++ [AObj.cells [.str s,.int .i64 (0:Int),.int .i64 (0:Int),.int .i64 (0:Int),.str [],.int .i64 (0:Int),.slice none 0 (some 0) 0,.int .i64 (0:Int)] (.rw (.box 46))]):=hu.trans (Up.app _)
  have hold:∀ b o,B[b]? = some o → (B ++ [AObj.cells [.str s,.int .i64 (0:Int),.int .i64 (0:Int),.int .i64 (0:Int),.str [],.int .i64 (0:Int),.slice none 0 (some 0) 0,.int .i64 (0:Int)] (.rw (.box 46))])[b]? = some o:=fun b o hb=>by
   rw [List.getElem?_append_left (lt_of hb)];exact hb
  have hp4:4 ≤ B.length:=Nat.le_trans hk.len hu.len
  have kn1:=hk.up hu1
  have hfr:KnF (frP σ0):=by
   have hq:=hk.up hu0
   unfold frP;rw [hB]
   exact ⟨hq.asc,hq.pow,hq.syn,hq.rng⟩
  have hcut:=cut_fn (at_:=0) (by omega) kn1 hp4 (Nat.zero_le _) h0
  have hle:=@cut_le s 0 (Nat.zero_le _)
  -- whatever comes: the old ones stay
  have hrd {σ':St} (hkp:Kp (B ++ [AObj.cells [.str s,.int .i64 (0:Int),.int .i64 (0:Int),.int .i64 (0:Int),.str [],.int .i64 (0:Int),.slice none 0 (some 0) 0,.int .i64 (0:Int)] (.rw (.box 46))]).length B.length (B ++ [AObj.cells [.str s,.int .i64 (0:Int),.int .i64 (0:Int),.int .i64 (0:Int),.str [],.int .i64 (0:Int),.slice none 0 (some 0) 0,.int .i64 (0:Int)] (.rw (.box 46))]) σ')
    {t:Tok} {q:Nat} (hc:RdC σ' B.length s q t (.slice none 0 (some 0) 0) 0):RdX s (frP σ0) σ' B.length (⟨t,q,[],0⟩:PS (strm s)) 0:=by
   refine ⟨by omega,hfr,fun b o hbo=>?_,?_,by simp,_,hc,.zero 0⟩
   ·unfold frP frB at hbo;rw [hB] at hbo
    rw [hkp.same b (by simp;have:=lt_of hbo;omega) (by have:=lt_of hbo;omega)]
    exact hold b o hbo
   ·unfold frP frB;rw [hB];exact List.getElem?_eq_none (Nat.le_refl _)
  generalize cut s 0 = ct at *
  obtain ⟨f,ct⟩:=ct
  cases ct with
  | none=>
   simp only at ho;cases ho
   refine Wp.calle hcut (fun v σ' hv=>by cases hv.1) fun v σ' hv=>?_
   obtain ⟨hv,hkp,q,hc⟩:=hv
   cases hv
   exact parse_pan (e:=(13,f)) (res3_of (fr:=frP σ0) (hrd hkp hc)) rfl rfl
  | some x=>
   obtain ⟨t,q⟩:=x
   simp only at ho
   have ho2:∃ o2,wholeP (S:=strm s) n ⟨t,q,[],0⟩ = some o2 ∧ o = parR o2:=by
    cases hw:wholeP (S:=strm s) n ⟨t,q,[],0⟩ with
    | none=>rw [hw] at ho;cases ho
    | some r=>
     rw [hw] at ho
     cases r with
     | error e=>cases ho;exact ⟨_,rfl,rfl⟩
     | ok x=>cases ho;exact ⟨_,rfl,rfl⟩
   obtain ⟨o2,ho2,rfl⟩:=ho2
   refine Wp.calle hcut (fun v σ' hv=>?_) fun v σ' hv=>by cases hv.1
   obtain ⟨hv,hc,hkp⟩:=hv
   cases hv
   simp only [Tok.av,Tok.cells,xAgg_a,unC_c,xInt_i,xStr_s,nlC_n]
   have hst (f:St → Out):stK σ' B.length 2 [.int .i64 t.kind,.int .i64 t.at_,.str t.text,.int .i64 t.n] f = _:=hc.stTok t f
   simp only [hst]
   have hc2:RdC (σ'.set B.length (.cells (rc s q t (.slice none 0 (some 0) 0) 0) (.rw (.box 46)))) B.length s q t (.slice none 0 (some 0) 0) 0:=hc.put
   have h2:=hrd (hkp.trans Kp.set) hc2
   refine Wp.fresh1 (F:=fun n m=>f7_l1 (L7 n) m σ0.length 0 (σ0.length + 1) 0 (σ0.length + 2) 0 B.length 0 none 0 (some 0) 0 σ0.length 0 (σ0.length + 1) 0 (σ0.length + 2) 0 (σ'.set B.length (.cells (rc s q t (.slice none 0 (some 0) 0) 0) (.rw (.box 46))))) ?_
   exact parse_loop hn n (by simp;omega) (.zero 0 ⟨h2,Nat.zero_le _,hle rfl⟩) ho2
end
end Go.Front

/- The reader's small functions are the plain ones. -/
import Derived.Test.YtlbieeajocjpeaaGreatDoorWk
import Derived.Test.YtlbieeajocjpeaaGreatDoorT3
set_option linter.unusedSimpArgs false
set_option linter.unusedVariables false
namespace Go.Front
open Go.AM Go.Proofs
section
variable {s:List UInt8} {fr fr':Fr} {σ σ':St} {p:Nat} {st st':PS (strm s)} {d d':Int} {α β γ:Type} {enc:α → AV} {enc':β → AV} {f:FuncId} {xs:List AV}
theorem is_sp (m:List UInt8):Sp s 35 [.str m] boolE (isP m):=by
 intro fr σ p st o h ho
 unfold isP at ho;cases ho
 obtain ⟨tv,hc,hn⟩:=h.1.c
 exact (is_fn hc m).mono fun r σ' ⟨h1,h2⟩=>⟨h1,by rw [h2];exact h⟩
theorem strBody_le:∀ (m:Nat) (l:List UInt8) (n:Nat) {b:List UInt8} {k:Nat},l.length ≤ m → strBody l n = some (b,k) → k + 1 ≤ l.length:=by
 intro m
 induction m with
 | zero=>intro l n b k hl h;cases l with | nil=>simp [strBody] at h | cons _ _=>simp at hl
 | succ m ih=>
  intro l n b k hl h
  match l with
  | []=>simp [strBody] at h
  | [c]=>
   simp only [strBody] at h
   split at h
   ·simp only [Option.some.injEq,Prod.mk.injEq] at h;simp;omega
   ·cases h
  | c :: d :: r=>
   simp only [strBody] at h
   simp only [List.length_cons] at hl ⊢
   split at h
   ·simp only [Option.some.injEq,Prod.mk.injEq] at h;omega
   split at h
   ·cases he:esc d with
    | none=>rw [he] at h;cases h
    | some x=>
     rw [he] at h
     simp only at h
     split at h
     ·cases h
     ·obtain ⟨⟨b',k'⟩,h1,h2⟩:=Option.map_eq_some_iff.1 h
      have:=ih r (n + 1) (by omega) h1
      simp only [Prod.mk.injEq] at h2;omega
   split at h
   ·split at h
    ·cases h
    ·obtain ⟨⟨b',k'⟩,h1,h2⟩:=Option.map_eq_some_iff.1 h
     have:=ih (d :: r) (n + 1) (by simp;omega) h1
     simp only [Prod.mk.injEq,List.length_cons] at h2 this;omega
   ·cases h
theorem one_le {l:List UInt8} {k:Nat} {t:List UInt8} {n:Int} {q:Nat} (h:one l = some (k,t,n,q)):q ≤ l.length:=by
 cases l with
 | nil=>simp [one] at h;omega
 | cons c r=>
  simp only [one] at h
  split at h
  ·have hl:=(List.takeWhile_prefix (fun c=>isLetter c || isDigit c) (l:=c :: r)).length_le
   split at h
   ·simp only [Option.some.injEq,Prod.mk.injEq] at h;omega
   ·split at h
    ·simp only [Option.some.injEq,Prod.mk.injEq] at h;omega
    ·cases h
  split at h
  ·have hl:=(List.takeWhile_prefix isDigit (l:=c :: r)).length_le
   cases hp:Lib.parseIntB 64 (List.takeWhile isDigit (c :: r))
   case ok v=>
    rw [hp] at h
    simp only [numOf] at h
    split at h
    ·cases h
    ·simp only [Option.some.injEq,Prod.mk.injEq] at h;omega
   all_goals rw [hp] at h;cases h
  split at h
  ·cases hb:strBody r 0 with
   | none=>rw [hb] at h;cases h
   | some x=>
    obtain ⟨b,k'⟩:=x
    rw [hb] at h
    have:=strBody_le r.length r 0 (Nat.le_refl _) hb
    simp only [Option.map_some,Option.some.injEq,Prod.mk.injEq,List.length_cons] at h ⊢;omega
  split at h
  ·cases he:escape 39 r with
   | none=>rw [he] at h;cases h
   | some x=>
    obtain ⟨b,k'⟩:=x
    rw [he] at h
    simp only at h
    split at h
    ·rename_i hh
     simp only [Option.some.injEq,Prod.mk.injEq,List.length_cons] at h ⊢
     rw [List.head?_drop] at hh
     have:=(List.getElem?_eq_some_iff.1 hh).1
     omega
    ·cases h
  ·cases hf:marks.find? fun m=>m.isPrefixOf (c :: r) with
   | none=>rw [hf] at h;cases h
   | some m=>
    rw [hf] at h
    have hpre:=List.find?_some (p:=fun m:List UInt8=>m.isPrefixOf (c :: r)) hf
    have:=(List.isPrefixOf_iff_prefix.1 hpre).length_le
    simp only [Option.map_some,Option.some.injEq,Prod.mk.injEq] at h;omega
theorem skip_le (l:List UInt8):skip false l ≤ l.length ∧ skip true l ≤ l.length:=by
 induction l with
 | nil=>simp [skip]
 | cons c r ih=>simp only [skip,List.length_cons];(repeat' split) <;> omega
theorem cut_le (s:List UInt8) (a:Nat) (h:a ≤ s.length) {t:Tok} {q:Nat} (hc:(cut s a).2 = some (t,q)):q ≤ s.length:=by
 unfold cut at hc
 simp only at hc
 obtain ⟨⟨k,tx,n,l⟩,h1,h2⟩:=Option.map_eq_some_iff.1 hc
 have:=one_le h1
 have hs:=(skip_le (s.drop a)).1
 simp only [Prod.mk.injEq] at h2
 rw [List.length_drop] at this hs
 omega
theorem next_sp:Sp s 58 [] Tok.av nextP:=by
 intro fr σ p st o h ho
 refine Fw.enter (fun n=>f58_e) ?_
 obtain ⟨tv,hc,hn⟩:=h.1.c
 simp only [f58_t,derefK_s,hc.tok,Tok.av,Tok.cells,xAgg_a,unC_c,xInt_i,xStr_s,nlC_n]
 have hcut:=cut_fn h.1.hs h.1.kn h.1.p4 h.2.2 hc
 unfold nextP at ho
 have hnx:(strm s).nxt st.pos = match cut s st.posN with | (f,none)=>.inl f | (_,some (t,q))=>.inr (t,q):=rfl
 rw [hnx] at ho
 have hle:=@cut_le s st.posN h.2.2
 generalize cut s st.posN = c at *
 obtain ⟨f,c⟩:=c
 cases c with
 | none=>
  simp only at ho
  cases ho
  refine Wp.call hcut (fun v σ' hv=>by cases hv.1) fun v σ' hv=>?_
  obtain ⟨hv,hk,n,hr⟩:=hv
  cases hv
  refine ⟨rfl,{ st with pos:=n },st.deep,h.1.go (fun b hb hp=>hk.same b hb hp) rfl fun tv' hc'=>?_⟩
  have e:tv' = tv:=by have:=hc'.h;rw [hc.h] at this;simp [rc] at this;exact this.symm
  subst e
  exact hr
 | some x=>
  obtain ⟨t,q⟩:=x
  simp only at ho
  cases ho
  refine Wp.call hcut (fun v σ' hv=>?_) fun v σ' hv=>by cases hv.1
  obtain ⟨hv,hr,hk⟩:=hv
  cases hv
  simp only [Tok.av,Tok.cells,xAgg_a,unC_c,xInt_i,xStr_s,nlC_n]
  have hst:=hr.stTok t
  unfold Tok.cells at hst
  simp only [hst]
  refine Wp.ret ⟨rfl,?_,h.2.1,hle rfl⟩
  refine h.1.go (st':={ st with tok:=t,pos:=q }) (fun b hb hp=>?_) rfl fun tv' hc'=>?_
  ·rw [List.getElem?_set_ne (Ne.symm hp)];exact hk.same b hb hp
  ·have e:tv' = tv:=by have:=hc'.h;rw [hc.h] at this;simp [rc] at this;exact this.symm
   subst e
   exact hr.put
theorem tokP_bind {k:Tok → PM (strm s) β}:(tokP >>= k) st = k st.tok st:=PM.bind_ok rfl
theorem nodeAt_some {x:Nat} {k:Node → PM (strm s) β} {o:Except Flt (β × PS (strm s))} (h:(nodeAtP x >>= k) st = some o):∃ y,st.nodes[x]? = some y ∧ k y st = some o:=by
 cases hx:st.nodes[x]? with
 | none=>rw [PM.bind_none (by unfold nodeAtP;rw [hx])] at h;cases h
 | some y=>rw [PM.bind_ok (st':=st) (a:=y) (by unfold nodeAtP;rw [hx])] at h;exact ⟨y,rfl,h⟩
theorem take_sp (m:List UInt8):Sp s 32 [.str m] boolE (takeP m):=by
 intro fr σ p st o h ho
 refine Fw.enter (fun n=>f32_e) ?_
 simp only [f32_t]
 unfold takeP at ho
 refine Rd.call (is_sp m) h ho fun b st1 σ1 h ho=>?_
 simp only [boolE,xBool_b]
 refine Wp.ite (fun hb=>?_) fun hb=>?_
 ·simp only [hb,if_true] at ho
  refine Rd.call next_sp h ho fun t st2 σ2 h ho=>?_
  simp only [Tok.av,Tok.cells,xAgg_a,unC_c,xInt_i,xStr_s,nlC_n]
  exact Rd.ret h ho
 ·simp only [hb,Bool.false_eq_true,if_false] at ho
  exact Rd.ret h ho
theorem must_sp (m:List UInt8):Sp s 33 [.str m] unitE (mustP m):=by
 intro fr σ p st o h ho
 refine Fw.enter (fun n=>f33_e) ?_
 simp only [f33_t]
 unfold mustP at ho
 refine Rd.call (is_sp m) h ho fun b st1 σ1 h ho=>?_
 simp only [boolE,xBool_b]
 refine Wp.ite (fun hb=>?_) fun hb=>?_
 ·have hb:b = false:=by simpa using hb
  simp only [hb,Bool.false_eq_true,if_false] at ho
  simp only [derefK_s,h.tat,xInt_i]
  exact Rd.wrong h ho
 ·have hb:b = true:=by simpa using hb
  simp only [hb,if_true] at ho
  refine Rd.call next_sp h ho fun t st2 σ2 h ho=>?_
  simp only [Tok.av,Tok.cells,xAgg_a,unC_c,xInt_i,xStr_s,nlC_n]
  exact Rd.ret (enc:=unitE) h ho
theorem kind_sp (k:Nat):Sp s 34 [.int .i64 k] Tok.av (kindP k):=by
 intro fr σ p st o h ho
 refine Fw.enter (fun n=>f34_e) ?_
 unfold kindP at ho
 rw [tokP_bind] at ho
 have hk:((st.tok.kind:Int) != (k:Int)) = !decide (st.tok.kind = k):=by
  rw [bne,natInt];congr 1
 simp only [f34_t,derefK_s,h.kind,xInt_i,hk]
 refine Wp.ite (fun hb=>?_) fun hb=>?_
 ·have hb:¬ st.tok.kind = k:=by simpa using hb
  simp only [hb,if_false] at ho
  simp only [h.tat,xInt_i]
  exact Rd.wrong h ho
 ·have hb:st.tok.kind = k:=by simpa using hb
  simp only [hb,if_true] at ho
  exact Rd.last next_sp h ho fun u a σ1=>by simp only [Tok.av,Tok.cells,xAgg_a,unC_c,xInt_i,xStr_s,nlC_n]
theorem down_sp:Sp s 103 [] unitE downP:=by
 intro fr σ p st o h ho
 refine Fw.enter (fun n=>f103_e) ?_
 have hk:((st.deep:Int) == (40:Int)) = (st.deep == 40):=natInt (b:=40)
 obtain ⟨tv,hc,hn⟩:=h.1.c
 have h40:=h.2.1
 have hw:IntKind.wrap .i64 ((st.deep:Int) + 1) = ((st.deep + 1:Nat):Int):=by rw [wrap64 (by omega) (by omega)];omega
 simp only [f103_t,derefK_s,h.deep_,xInt_i,hk,hw]
 unfold downP at ho
 refine Wp.ite (fun hb=>?_) fun hb=>?_
 ·have hb:st.deep = 40:=by simpa using hb
  rw [if_pos hb] at ho
  simp only [h.tat,xInt_i]
  cases ho
  exact wrong_wp ⟨rfl,st,st.deep,h.1⟩
 ·have hb:¬ st.deep = 40:=by simpa using hb
  rw [if_neg hb] at ho
  cases ho
  simp only [hc.stDeep]
  refine Wp.ret ⟨rfl,?_,by simp only;omega,h.2.2⟩
  refine h.1.go (st':={ st with deep:=st.deep + 1 }) (fun b hb hp=>List.getElem?_set_ne (Ne.symm hp)) rfl fun tv' hc'=>?_
  have e:tv' = tv:=by have:=hc'.h;rw [hc.h] at this;simp [rc] at this;exact this.symm
  subst e
  exact hc.put
def levels:List Nat:=[10,10,10,9,9,8,8,7,7,7,7,6,6,5,4,3,2,1]
theorem level_fn (op:Nat):Fw Tryz.prog Lb 95 [.int .i64 op] σ fun r σ'=>r = .ret (.int .i64 (level op)) ∧ σ' = σ:=by
 refine Fw.enter (fun n=>f95_e) ?_
 simp only [f95_t]
 refine Wp.ite (fun hb=>?_) fun hb=>Wp.ite (fun hb2=>?_) fun hb2=>?_
 ·have hb:op < 4:=by simp at hb;omega
  refine Wp.ret ⟨?_,rfl⟩
  have:∀ k < 4,level k = 0:=by decide
  rw [this op hb];rfl
 ·have hb:21 < op:=by simp at hb2;omega
  refine Wp.ret ⟨?_,rfl⟩
  unfold level
  rw [List.getD_eq_getElem?_getD,List.getElem?_eq_none (by simp;omega)];rfl
 ·have h1:4 ≤ op:=by simp at hb;omega
  have h2:op ≤ 21:=by simp at hb2;omega
  have hw:IntKind.wrap .i64 ((op:Int) - 4) = ((op - 4:Nat):Int):=by rw [wrap64 (by omega) (by omega)];omega
  have hlv:∀ k < 18,levels[k]? = some (level (k + 4)):=by decide
  have hx:=hlv (op - 4) (by omega)
  rw [show op - 4 + 4 = op from by omega] at hx
  simp only [hw,idxK_ok (show (0:Int) ≤ ((op - 4:Nat):Int) ∧ ((op - 4:Nat):Int) < ((18:Nat):Int) from ⟨by omega,by omega⟩),Int.toNat_natCast,Nat.mul_one]
  have hp (f:AV → Out):partK Tryz.prog 3 (levels.map fun (k:Nat)=>AV.int .i64 (k:Int)) (op - 4) f = f (.int .i64 (level op)):=partK_s agg3 (by rw [List.getElem?_map,hx];rfl)
  have hp':=fun f=>(hp f)
  simp only [levels,List.map_cons,List.map_nil] at hp'
  refine Wp.eq (F:=fun _=>some (.ret (.int .i64 (level op)),σ)) (Wp.ret ⟨rfl,rfl⟩) fun u=>?_
  refine Eq.trans (hp' _) ?_
  simp only [xInt_i]
theorem binary_fn (hk:Kn σ) (x:List UInt8):Fw Tryz.prog Lb 123 [.str x] σ fun r σ'=>r = .ret (.int .i64 (binOp x)) ∧ σ' = σ ++ [.cells (ops.map .str) .ro]:=by
 refine Fw.enter (fun n=>f123_e) ?_
 simp only [f123_t]
 refine Wp.call (fields_fn hk (l:=ops) (by decide) (by kernel_rfl)) (fun v σ' hv=>?_) fun v σ' hv=>by cases hv.1
 obtain ⟨hv,rfl⟩:=hv
 cases hv
 simp only [xSl_s]
 have hc:cellsAt (σ ++ [AObj.cells (ops.map .str) .ro]) σ.length = some (ops.map .str):=by unfold cellsAt;rw [List.getElem?_append_right (Nat.le_refl _)];simp
 generalize σ ++ [AObj.cells (ops.map .str) .ro] = σ1 at *
 have hlen:ops.length = 18:=rfl
 have key:∀ (k i:Nat),i + k = ops.length → Wp (fun r σ'=>r = .ret (.int .i64 (opOf (ops.drop i) (4 + i) x)) ∧ σ' = σ1) fun u=>f123_l1 (pt Tryz.prog Lb 123 u.n) u.m1 x 0 (some (σ.length,0)) ops.length (some ops.length) 1 ops.length i σ1:=by
  intro k
  induction k with
  | zero=>
   intro i hi
   refine Wp.round1 (F:=fun n m=>f123_l1 (pt Tryz.prog Lb 123 n) m x 0 (some (σ.length,0)) ops.length (some ops.length) 1 ops.length i σ1) (fun n m=>f123_l1_e) ?_
   simp only [f123_l1_t]
   refine Wp.neg (by simp;omega) (Wp.le (F:=fun u=>f123_j2_t (pt Tryz.prog Lb 123 u.n) u.n 0 σ1) ?_ fun u=>f123_j2_e)
   simp only [f123_j2_t]
   refine Wp.ret ⟨?_,rfl⟩
   rw [List.drop_eq_nil_of_le (by omega)];rfl
  | succ k ih=>
   intro i hi
   obtain ⟨y,hy⟩:∃ y,ops[i]? = some y:=⟨ops[i],List.getElem?_eq_getElem (by omega)⟩
   have hw:IntKind.wrap .i64 ((i:Int) + 1) = ((i + 1:Nat):Int):=by rw [wrap64 (by omega) (by omega)];omega
   have hw4:IntKind.wrap .i64 (4 + (i:Int)) = ((4 + i:Nat):Int):=by rw [wrap64 (by omega) (by omega)];omega
   refine Wp.round1 (F:=fun n m=>f123_l1 (pt Tryz.prog Lb 123 n) m x 0 (some (σ.length,0)) ops.length (some ops.length) 1 ops.length i σ1) (fun n m=>f123_l1_e) ?_
   simp only [f123_l1_t,derefK_s,szK_s,ldStr hc hy,xStr_s,hw,hw4]
   refine Wp.pos (by simp;omega) ?_
   simp only [idxK_ok (show (0:Int) ≤ (i:Int) ∧ (i:Int) < (ops.length:Int) from ⟨by omega,by omega⟩)]
   rw [drop_cons hy]
   simp only [opOf]
   refine Wp.ite (fun h=>?_) fun h=>?_
   ·have:y = x:=by simpa using h
    rw [if_pos this]
    exact Wp.ret ⟨rfl,rfl⟩
   ·have:¬ y = x:=by simpa using h
    rw [if_neg this]
    exact ih (i + 1) (by omega)
 have h0:=key ops.length 0 (by omega)
 rw [show ((0:Nat):Int) = 0 from rfl] at h0
 generalize ops.length = ml at h0 ⊢
 refine Wp.fresh1 (F:=fun n m=>f123_l1 (pt Tryz.prog Lb 123 n) m x 0 (some (σ.length,0)) ml (some ml) 1 ml (0:Int) σ1) ?_
 exact h0
theorem KR.slice {v:AV} {kids:List Nat} (h:KR s fr σ p st v kids):∃ a n c z,v = .slice a n c z:=by cases h <;> exact ⟨_,_,_,_,rfl⟩
theorem nodes_len {nd:List Node} {tv:AV} (hn:NodesAt fr σ p tv nd):∃ a c z,tv = .slice a nd.length c z:=by
 cases hn with
 | zero z=>exact ⟨_,_,_,rfl⟩
 | one tb l hb hf hp hk=>exact ⟨_,_,_,by rw [List.length_map]⟩
theorem nodes_app {Q:Post} {nd:List Node} {tv v:AV} {x:Node} {a:Option (Nat × Nat)} {n z:Nat} {c:Option Nat} {K:Fu → Option (Nat × Nat) → Nat → Option Nat → St → Out} (hn:NodesAt fr σ p tv nd) (htv:tv = .slice a n c z) (hl:nd.length ≤ 4096)
  (hpl:p < σ.length) (hfr:∀ b o,fr b = some o → σ[b]? = some o)
  (kv:∀ tb,(∃ n c z,tv = .slice (some (tb,0)) n c z) ∨ σ.length ≤ tb → KV fr σ p tb v x.kids)
  (hk:∀ b σ',(∀ b' o,fr b' = some o → σ'[b']? = some o) → σ'[p]? = σ[p]? → NodesAt fr σ' p (.slice (some (b,0)) (nd.length + 1) none 6) (nd ++ [x]) → Wp Q fun u=>K u (some (b,0)) (nd.length + 1) none σ') :
  Wp Q fun u=>appK σ 34 6 72 a n z 1 [.int .i64 x.kind,.int .i64 x.at_,.str x.text,.int .i64 x.n,.int .i64 x.m,v] (K u):=by
 have fnone {b:Nat} (hb:σ.length ≤ b):fr b = none:=by
  cases hf:fr b with
  | none=>rfl
  | some o=>have:=lt_of (hfr b o hf);omega
 cases hn with
 | zero z'=>
  cases htv
  refine Wp.app0 (by decide) (by decide) (hk σ.length _ (fun b o hb=>?_) ?_ ?_)
  ·rw [List.getElem?_append_left (lt_of (hfr b o hb))];exact hfr b o hb
  ·rw [List.getElem?_append_left hpl]
  ·have hnew:=kv σ.length (.inr (Nat.le_refl _))
   refine NodesAt.one σ.length [(x,v)] ?_ (fnone (Nat.le_refl _)) (by omega) fun y hy=>?_
   ·rw [List.getElem?_append_right (Nat.le_refl _)];simp [ncell]
   ·simp at hy;subst hy
    exact hnew.mono fun b hb _ _=>List.getElem?_append_left hb
 | one tb l hb hf hp hkv=>
  cases htv
  have htl:=lt_of hb
  rw [List.length_map] at hl hk
  refine Wp.app1 hb (by rw [flat_length ncell_len];omega) (by omega) (hk σ.length _ (fun b o hbo=>?_) ?_ ?_)
  ·have hne:tb ≠ b:=fun e=>by subst e;rw [hf] at hbo;cases hbo
   rw [List.getElem?_append_left (by simpa using lt_of (hfr b o hbo)),List.getElem?_set_ne hne];exact hfr b o hbo
  ·rw [List.getElem?_append_left (by simpa using hpl),List.getElem?_set_ne hp]
  ·have hnew:=kv tb (.inl ⟨_,_,_,rfl⟩)
   have hsame:∀ b,b < σ.length → b ≠ tb → (σ.set tb .dead ++ [AObj.cells (((l.flatMap ncell).drop 0).take (l.length * 6) ++ [.int .i64 x.kind,.int .i64 x.at_,.str x.text,.int .i64 x.n,.int .i64 x.m,v]) (.rw (joinW (.row 34) 34))])[b]? = σ[b]?:=fun b hb hne=>by
    rw [List.getElem?_append_left (by simpa using hb),List.getElem?_set_ne (Ne.symm hne)]
   have mv {w:AV} {ks:List Nat} (hw:KV fr σ p tb w ks):KV fr (σ.set tb .dead ++ [AObj.cells (((l.flatMap ncell).drop 0).take (l.length * 6) ++ [.int .i64 x.kind,.int .i64 x.at_,.str x.text,.int .i64 x.n,.int .i64 x.m,v]) (.rw (joinW (.row 34) 34))]) p σ.length w ks:=by
    cases hw with
    | zero z=>exact .zero z
    | one b c hc hb hf hp ht=>exact .one b c hc (by rw [hsame b (lt_of hb) ht];exact hb) hf hp (by have:=lt_of hb;omega)
   have:=NodesAt.one (fr:=fr) (p:=p) (σ:=σ.set tb .dead ++ [AObj.cells (((l.flatMap ncell).drop 0).take (l.length * 6) ++ [.int .i64 x.kind,.int .i64 x.at_,.str x.text,.int .i64 x.n,.int .i64 x.m,v]) (.rw (joinW (.row 34) 34))]) σ.length (l ++ [(x,v)]) ?_ (fnone (Nat.le_refl _)) (by omega) fun y hy=>?_
   ·rw [List.length_append,List.length_singleton,List.map_append] at this
    exact this
   ·rw [List.getElem?_append_right (by simp)]
    simp only [List.length_set,Nat.sub_self,List.getElem?_cons_zero,Option.some.injEq]
    have e:((l.flatMap ncell).drop 0).take (l.length * 6) = l.flatMap ncell:=by rw [List.drop_zero,← flat_length ncell_len l,List.take_length]
    rw [e,List.flatMap_append]
    rfl
   ·rcases List.mem_append.1 hy with hy | hy
    ·exact mv (hkv y hy)
    ·simp at hy;subst hy;exact mv hnew
theorem KR.kv {v tv:AV} {kids:List Nat} (h:KR s fr σ p st v kids) (hc:RdC σ p s st.posN st.tok tv d) (tb:Nat) (ht:(∃ n c z,tv = .slice (some (tb,0)) n c z) ∨ σ.length ≤ tb):KV fr σ p tb v kids:=by
 cases h with
 | zero z h=>exact .zero z
 | one b c hc' hf kf h=>
  have hb:=h.1.keep b _ ins_self
  refine .one b c hc' hb hf (fun e=>?_) fun e=>?_
  ·subst e;have:=h.1.pf;rw [ins_self] at this;cases this
  ·subst e
   rcases ht with ⟨n,c',z,rfl⟩ | ht
   ·obtain ⟨tv2,hc2,hn⟩:=h.1.c
    have e:tv2 = .slice (some (b,0)) n c' z:=by have:=hc2.h;rw [hc.h] at this;simp [rc] at this;exact this.1.symm
    generalize st.nodes = nd at hn
    cases hn with
    | zero z=>cases e
    | one tb l hb hf hp hk=>cases e;rw [ins_self] at hf;cases hf
   ·have:=lt_of hb;omega
theorem node_fn {x:Node} {v:AV} {o:Except Flt (Nat × PS (strm s))} (h:KR s fr σ p st v x.kids) (ho:nodeP x st = some o) :
  Fw Tryz.prog Lb 14 [.ptr (some (p,0)),.agg [.int .i64 x.kind,.int .i64 x.at_,.str x.text,.int .i64 x.n,.int .i64 x.m,v]] σ (PQ s fr p natE o):=by
 obtain ⟨a,n,c,z,rfl⟩:=h.slice
 refine Fw.enter (fun n=>f14_e) ?_
 have hr:=h.rd
 obtain ⟨tv,hc,hn⟩:=hr.1.c
 have hl:=hr.1.nlen
 have hlen:=nodes_len hn
 obtain ⟨ta,tc,tz,htv⟩:=hlen
 have hk:((st.nodes.length:Int) == (4096:Int)) = (st.nodes.length == 4096):=natInt (b:=4096)
 simp only [f14_t,derefK_s,hc.nodes,htv,xSl_s,hk]
 unfold nodeP at ho
 refine Wp.ite (fun hb=>?_) fun hb=>?_
 ·have hb:st.nodes.length = 4096:=by simpa using hb
  rw [if_pos hb] at ho;cases ho
  simp only [hr.tat,xInt_i]
  exact wrong_wp ⟨rfl,st,st.deep,hr.1⟩
 ·have hb:¬ st.nodes.length = 4096:=by simpa using hb
  rw [if_neg hb] at ho;cases ho
  refine Wp.le (F:=fun u=>f14_j1_t (pt Tryz.prog Lb 14 u.n) u.n (some (p,0)) 0 x.kind x.at_ x.text x.n x.m a n c z σ) ?_ fun u=>f14_j1_e
  simp only [f14_j1_t,derefK_s,hc.nodes,htv,xSl_s]
  refine nodes_app hn htv hl hr.1.lt hr.1.keep (fun tb ht=>h.kv hc tb ht) fun b σ' h1 h2 h3=>?_
  have hc1:RdC σ' p s st.posN st.tok tv st.deep:=⟨by rw [h2];exact hc.h⟩
  have hw:IntKind.wrap .i64 (((st.nodes.length + 1:Nat):Int) - 1) = (st.nodes.length:Int):=by rw [wrap64 (by omega) (by omega)];omega
  simp only [hc1.stNodes]
  have hc2:RdC (σ'.set p (.cells (rc s st.posN st.tok (.slice (some (b,0)) (st.nodes.length + 1) none 6) st.deep) (.rw (.box 46)))) p s st.posN st.tok (.slice (some (b,0)) (st.nodes.length + 1) none 6) st.deep:=hc1.put
  simp only [hc2.nodes,xSl_s,hw]
  refine Wp.ret ⟨rfl,⟨hr.1.hs,hr.1.kf,fun x y hx=>?_,hr.1.pf,by simp;omega,_,hc2,h3.mono fun b hb hp=>List.getElem?_set_ne (Ne.symm hp)⟩,hr.2⟩
  rw [List.getElem?_set_ne (fun e=>by subst e;rw [hr.1.pf] at hx;cases hx)]
  exact h1 x y hx
end
end Go.Front

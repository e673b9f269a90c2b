/- Part of a proof over an abstract machine. -/
import Derived.Test.YtjjhefdfjagkaaaGreatDoorAmOp7
import Derived.Recover
import Derived.LoopN
import Derived.ChangeMade
import Derived.ProofKit
import Derived.SizedLaws
import Derived.Test.YtjjhefdfjagkaaaGreatDoorProg
import Derived.Lib.Space
import Derived.Lib.ItoaNum
import Derived.Lib.ParseIntB
import Derived.Lib.Fields
import Derived.Lib.TrimByte
import Derived.Lib.Bytealg
import Derived.Shelf.Strings.Builder1
import Derived.Test.YtjjhefdfjagkaaaGreatDoorChecked
set_option linter.all false
open Nat renaming lt_or_ge→gu,lt_of_lt_of_le→uk,add_assoc→eD,add_comm→uj,add_zero→mw,le_refl→aA,add_mul→jc,one_mul→sg,zero_add→dI,mul_le_mul_right→vX,le_trans→ng
open List renaming getElem?_eq_none→fP,getElem?_set_self→cM,getElem?_set_ne→aD,all_eq_true→mq,getD_eq_getElem?_getD→gq,getElem?_append_left→bO,getElem?_append_right→bQ,mem_cons→bS,map_cons→dO,mem_map→nZ,mem_append→cX,map_append→fi,range→r9,range'→fy,mem_of_getElem?→fF,length_cons→cr,replicate→bL,append_assoc→aO,append_nil→cg,flatMap_cons→eU,length_append→az,getElem?_eq_some_iff→bl,drop_drop→oX,getElem?_eq_getElem→bk
open Array renaming getD_eq_getD_getElem?→rX,getElem?_toList→p5,getElem?_eq_some_iff→qQ,getElem?_setIfInBounds_ne→vT
open Go.Deferred renaming ofValue→Ke
open Go.Region renaming wanted→sh,binds→o9
open Bool renaming and_eq_true→gH
open Ne renaming symm→cY
open Option renaming map_some→je,getD_some→qb,bind_eq_some_iff→qa,isSome_iff_exists→od,map_eq_some_iff→my
open List.Sublist renaming append→ahm,refl→ahn
open Go.Sem renaming run_bind→bG,run_pure→dh
open Go.Result renaming andThen_ok→bF
open Go.Instr renaming sureAddr→r6
open Go.Made renaming infoAt→oa
open Option.some renaming injEq→dP
open Go.IntKind renaming wrap→ah
open Go.DataW renaming trod→qS,TrodAll→tW
open Go.Value renaming cells→qe
open Go.Lib renaming itoa→iZ,parseIntB→jA,fields→p8
open Go.Proofs.Tryz renaming prog→ae,underlying90→wa,underlying4→uq
open Go.Extern.AbiNoEscape renaming same→ag5
section
namespace Go.AM
open Go.RowKit
section
variable {P:Program} {V0 V:aM} {w0 w:World} {lam:j7} {env:Env} {U:St} {a:Act} {Q:Exit->Act->World->Prop} {out:fH×St} {kp:AV->Env->St->Out} {call:bU} {lm:Nat}
theorem J7 {o:Oper} {next:Act->World->Prop} {k:TV->Env->St->Out} (hP:fz P) (eN:kT P call) (H:aR V0 w0 V lam env U a w) (hk:cQ V0 w0 a o.dst next out k) (dN:qV V0 w0 Q out kp)
  (hx:aw P lm call env U o k kp=some out):o.wp P a w next Q:=by
 cases ho:o.op with
 |move x=>simp only[aw,ho]at hx;exact Rm H hk (.inl ho) hx
 |assign x=>simp only[aw,ho]at hx;exact Rm H hk (.inr ho) hx
 |pick c x y=>simp only[aw,ho]at hx;exact aem H hk ho hx
 |alloc t=>simp only[aw,ho]at hx;exact adX H hk ho hx
 |box t x=>simp only[aw,ho]at hx;exact ad0 H hk ho hx
 |build t parts=>simp only[aw,ho]at hx;exact ad1 hP H hk ho hx
 |buildSlice t n parts=>simp only[aw,ho]at hx;exact ad2 H hk ho hx
 |load t x=>simp only[aw,ho]at hx;exact aed H hk ho hx
 |store t x y=>simp only[aw,ho]at hx;exact aer H hk ho hx
 |nilCheck x=>simp only[aw,ho]at hx;exact aek H hk ho hx
 |binOp op t x y t2=>simp only[aw,ho]at hx;exact adZ hP H hk ho hx
 |unOp op t x=>simp only[aw,ho]at hx;exact aet H hk ho hx
 |convert s d x=>
  simp only[aw,ho]at hx;split at hx
  ·rename_i e hs;exact aep H hk ho hs hx
  ·exact ad5 H hk ho hx
 |makeFunc fn first captured=>simp only[aw,ho]at hx;exact aef H hk ho hx
 |makeSlice t l c=>simp only[aw,ho]at hx;exact aei H hk ho hx
 |range t x=>simp only[aw,ho]at hx;exact aen H hk ho hx
 |next it s=>
  cases s with
  |true=>simp only[aw,ho]at hx;exact aej H hk ho hx
  |false=>simp only[aw,ho]at hx;cases hx
 |slice t x lo hi mx=>
  cases mx with
  |none=>
   simp only[aw,ho]at hx;split at hx
   ·rename_i n e hs;exact adY hP H hk ho hs hx
   ·exact aeq hP H hk ho hx
  |some m=>simp only[aw,ho]at hx;cases hx
 |fieldAddr s x f=>simp only[aw,ho]at hx;exact ad8 hP H hk ho hx
 |field s x f=>simp only[aw,ho]at hx;exact ad7 H hk ho hx
 |indexAddr t x ix=>simp only[aw,ho]at hx;exact aea hP H hk ho hx
 |index t x ix=>simp only[aw,ho]at hx;exact ad9 hP H hk ho hx
 |extract x i=>simp only[aw,ho]at hx;exact ad6 H hk ho hx
 |makeInterface t x=>simp only[aw,ho]at hx;exact aeg H hk ho hx
 |call c=>
  simp only[aw,ho]at hx;split at hx
  ·rename_i f hc;exact ad3 hP eN H hk dN ho hc hx
  ·rename_i x name hc;exact aeb hP eN H hk dN ho hc hx
  ·rename_i hc;split at hx
   ·rename_i t ts x xs ht ha;exact aec H hk ho hc ht ha hx
   ·cases hx
  ·rename_i hc;split at hx
   ·rename_i t t2 s x ht ha;split at hx
    ·rename_i e hu;split at hx
     ·rename_i e' dk;split at hx
      ·rename_i hz;exact Ri H hk ho hc ht ha hu hz (.inl ⟨rfl,e',dk⟩) hx
      ·cases hx
     ·rename_i dk;split at hx
      ·rename_i hz;exact Ri H hk ho hc ht ha hu hz (.inr ⟨rfl,dk⟩) hx
      ·cases hx
     ·cases hx
    ·cases hx
   ·cases hx
  ·rename_i hc;split at hx
   ·rename_i t ts x xs ht ha;exact ad4 H hk ho hc ht ha hx
   ·cases hx
  ·rename_i hc;split at hx
   ·rename_i t t2 ts d x xs ht ha;split at hx
    ·rename_i e hu;split at hx
     ·rename_i e' dk;split at hx
      ·rename_i hz;exact Rj H hk ho hc ht ha hu hz (.inl ⟨rfl,e',dk⟩) hx
      ·cases hx
     ·rename_i dk;split at hx
      ·rename_i hz;exact Rj H hk ho hc ht ha hu hz (.inr ⟨rfl,dk⟩) hx
      ·cases hx
     ·cases hx
    ·cases hx
   ·cases hx
  ·rename_i hc;exact Rl (mn:=true) H hk ho hc hx
  ·rename_i hc;exact Rl (mn:=false) H hk ho hc hx
  ·cases hx
 |panic x=>simp only[aw,ho]at hx;exact ael H dN ho hx
 |makeMap t r=>simp only[aw,ho]at hx;exact aeh H hk ho hx
 |lookup t x ix b=>simp only[aw,ho]at hx;exact aee hP H hk ho hx
 |mapUpdate t m ix x=>simp only[aw,ho]at hx;exact Rn hP H hk (.inl ho) hx
 |insert t m ix x=>simp only[aw,ho]at hx;exact Rn hP H hk (.inr ho) hx
 |typeAssert x t ty b=>simp only[aw,ho]at hx;exact aes H hk ho hx
 |_=>simp only[aw,ho]at hx;cases hx
theorem aR.EY (H:aR V0 w0 V lam env U a w) {d:Nat} {b:Bool} (hd:a.tmps.getD d undef=.bool b):aR V0 w0 V lam {env with tmps:=env.tmps.set d (.v (.bool b))} U a w:=by
 refine{H with size:=by simp[H.size],tmps:=λi t hi=>?_,locs:=H.locs};by_cases he:d=i
 ·subst he;have al:d<env.tmps.length:=by
   rcases gu d env.tmps.length with h|h
   ·exact h
   ·rw[fP (by simpa using h)]at hi;cases hi
  rw[cM al]at hi;cases hi;rw[hd];exact .v _ _ (.bool b)
 ·rw[aD he]at hi;exact H.tmps i t hi
theorem aR.slot (H:aR V0 w0 V lam env U a w) (d:Nat):fI V lam (env.tmps.getD d .no) (a.tmps.getD d undef):=H.get (.tmp d)
theorem Tg {ops:Array Oper} {j d:Nat} {b:Bool} (hj:(ops[j]?).bind (·.dst)=some d) (h:a.tmps.getD d undef=.bool b):yielded ops a.tmps j=some b:=by
 unfold yielded;rw[hj];simp only[Option.bind_some];rw[rX]at h;cases ht:a.tmps[d]? with
 |none=>rw[ht]at h;simp[undef]at h
 |some v=>rw[ht]at h;simp at h;subst h;rfl
theorem Th {ops:Array Oper} {j d:Nat} (hj:(ops[j]?).bind (·.dst)=some d) (h:a.tmps.getD d undef=.tuple #[]):yielded ops a.tmps j=none:=by
 unfold yielded;rw[hj];simp only[Option.bind_some];rw[rX]at h;cases ht:a.tmps[d]? with
 |none=>rfl
 |some v=>rw[ht]at h;simp at h;subst h;rfl
theorem agU {o:Oper} {next:Act->World->Prop} {k:TV->Env->St->Out} (hP:fz P) (eN:kT P call) (H:aR V0 w0 V lam env U a w) (hk:∀a,cQ V0 w0 a o.dst next out k) (dN:qV V0 w0 Q out kp)
  (hx:vR P lm call env U o k kp=some out):o.wp P a w next Q:=by
 unfold vR at hx;split at hx
 ·rename_i c ho;split at hx
  ·rename_i f hc;have hf:=H.get f;split at hx
   ·rename_i jF first captured heq
    rw[heq]at hf;have hv:=hf.val;generalize Br:a.eval f=fv at hv;split at hx
    ·rename_i args iF;have wE:=xH iF H;cases hv with
     |func _ _ _ l' c' hl l6=>
      have iE:aQ V (first++args++captured) (l'++c.args.map a.eval++c').toList:=by
       simp only[Array.toList_append,Array.toList_map];exact(hl.append wE).append l6
      have bA:(execOp a.eval o).run P w=.ok (.defer {target:=.fn (.func jF) c',args:=l'++c.args.map a.eval}) w:=by
       simp[execOp,ho,resolve,hc,Br,Ke]
      unfold Oper.wp;rw[bA];exact hk {a with defers:={target:=.fn (.func jF) c',args:=l'++c.args.map a.eval}::a.defers} .no {env with defs:=(jF,first++args++captured)::env.defs} U V lam undef w
       ⟨H.r,H.ext,H.fr,H.size,H.tmps,H.locs,H.inj,H.ge,H.lamlt,.cons _ _ _ _ _ _ iE H.defers⟩ (.no _) hx
    ·cases hx
   ·cases hx
  ·cases hx
 ·exact J7 hP eN H (hk a) dN hx
theorem RU {ops:Array Oper} {k:Env->St->Out} (hP:fz P) (eN:kT P call)
  (hk:∀env U V lam a w,aR V0 w0 V lam env U a w->k env U=some out->Q .normal a w) (dN:qV V0 w0 Q out kp):
  ∀(l:List Oper) (env:Env) (U:St) (V:aM) (lam:j7) (a:Act) (w:World),aR V0 w0 V lam env U a w->nS P lm call ops k kp l env U=some out->wpList P ops Q l a w:=by
 intro l
 induction l with
 |nil=>intro env U V lam a w H h;exact hk _ _ _ _ _ _ H h
 |cons o r ih=>
  intro env U V lam a w H h;have exec (e:Env) (H:aR V0 w0 V lam e U a w) (h:vR P lm call e U o (λt cV U'=>nS P lm call ops k kp r (cV.put o.dst t) U') kp=some out):o.wp P a w (wpList P ops Q r) Q:=
   agU hP eN H (λa t cV U' V' lk v w' H' ht hx=>ih _ _ _ _ _ _ (H'.put ht o.dst) hx) dN h
  have skip (e:Env) (H:aR V0 w0 V lam e U a w) (h:nS P lm call ops k kp r (e.put o.dst (.v (.tuple []))) U=some out):wpList P ops Q r (a.put o.dst undef) w:=
   ih _ _ _ _ _ _ (H.put (.v _ _ (.tuple [] #[] .nil)) o.dst) h
  unfold nS at h;unfold wpList;split at h
  ·rename_i hg;rw[if_pos (by simp[sh,hg])];exact .inl (exec env H h)
  ·rename_i j want hg;split at h
   ·rename_i d hd;have hs:=H.slot d;split at h
    ·rename_i b hb;rw[hb]at hs;have hv:=hs.val;generalize oJ:a.tmps.getD d undef=v at hv;cases hv;have hy:=Tg (ops:=ops) hd oJ;have Iy:sh o (yielded ops a.tmps)=(b==want):=by
      simp only[sh,hg,hy];cases b<;>cases want<;>rfl
     rw[Iy];have HL:=H.EY oJ;cases b<;>cases want<;>simp only[cond]at h
     ·exact .inl (exec _ HL h)
     ·exact skip _ HL h
     ·exact skip _ HL h
     ·exact .inl (exec _ HL h)
    ·rename_i hb;rw[hb]at hs;have hv:=hs.val;generalize oJ:a.tmps.getD d undef=v at hv;cases hv with
     |tuple _ au bg=>
      have he:au= #[]:=by have:=bg.length;simp at this;exact Array.eq_empty_of_size_eq_zero this.symm
      subst he;have hy:=Th (ops:=ops) hd oJ;have Iy:sh o (yielded ops a.tmps)=false:=by simp only[sh,hg,hy]<;>rfl
      rw[Iy];exact skip _ H h
    ·cases h
   ·cases h
mutual
theorem aN.oB {V V':aM}:∀{x:AV} {v:Value},x.oB=true->aN V x v->aN V' x v
 |_,_,_,.bool b=>.bool b
 |_,_,_,.int k n=>.int k n
 |_,_,_,.str s=>.str s
 |_,_,_,.nptr=>.nptr
 |_,_,_,.nslice sz=>.nslice sz
 |_,_,_,.nmap=>.nmap
 |_,_,_,.nfunc=>.nfunc
 |_,_,_,.niface=>.niface
 |_,_,h,.ptr _ _ _ _=>by simp[AV.oB]at h
 |_,_,h,.slice _ _ _ _ _ _ _ _ _ _ _ _ _ _=>by simp[AV.oB]at h
 |_,_,h,.map _ _ _=>by simp[AV.oB]at h
 |_,_,h,.func _ _ _ _ _ _ _=>by simp[AV.oB]at h
 |_,_,h,.iface _ _ _ _=>by simp[AV.oB]at h
 |_,_,h,.agg _ _ _=>by simp[AV.oB]at h
 |_,_,h,.tuple _ _ _=>by simp[AV.oB]at h
end
theorem aQ.flat {V V':aM} {f:AV->Bool} (hf:∀{x:AV} {v:Value},f x=true->aN V x v->aN V' x v):∀{xs:List AV} {vs:List Value},xs.all f=true->aQ V xs vs->aQ V' xs vs
 | [],_,_,.nil=>.nil
 |x::xs,_,h,.cons _ v _ vs hx hr=>by
  simp only[List.all_cons,gH]at h;exact .cons _ _ _ _ (hf h.1 hx) (aQ.flat hf h.2 hr)
theorem aN.yr {V V':aM} {x:AV} {v:Value} (h:x.yr=true) (hr:aN V x v):aN V' x v:=by
 cases x with
 |agg cs=>cases hr with|agg _ au hc=>exact .agg _ _ (aQ.flat aN.oB h hc)
 |_=>exact aN.oB h hr
theorem aN.flat {V V':aM} {x:AV} {v:Value} (h:x.flat=true) (hr:aN V x v):aN V' x v:=by
 cases x with
 |tuple cs=>cases hr with|tuple _ au hc=>exact .tuple _ _ (aQ.flat aN.yr h hc)
 |_=>exact aN.yr h hr
theorem aeP {o:Oper} {next:Act->World->Prop} {k:TV->Env->St->Out} {c:Call} {f:FuncId} (hP:fz P) (eN:kT P call) (H:aR V0 w0 V lam env U a w) (hk:cQ V0 w0 a o.dst next out k) (ho:o.op=.call c) (hc:c.callee=.value (.func f))
  (hx:(match gk (c.args.toList.map env.get)with|some args=>pU call f args U λv=>k (.v v) env U|none=>none)=some out):o.wp P a w next Q:=by
 split at hx
 ·rename_i args iF;obtain⟨g,p,v,U',hs,iG,hv,hal,hx⟩:=RI hx;have wE:=xH iF H;obtain⟨e,he,ob,abp,Ii,wF⟩:=H.r.obj 1 _ hs;subst wF
  let Vk:aM:=λb=>if b<2 then some ⟨e.blk,0,0,false⟩else none
  have hR:R Vk [.dead,.know e.blk p] w:=by
   refine⟨λb hb=>?_,λb e' hb=>?_,λb o' hb=>?_,λb1 b2 o1 o2 e1 e2 _ _ dC _ _ _ fY _=>?_⟩
   ·simp only[Vk]at hb;split at hb
    ·simpa using‹b<2›
    ·cases hb
   ·simp only[Vk]at hb;split at hb
    ·cases hb;exact H.r.lt 1 e he
    ·cases hb
   ·match b,hb with
    |0,hb=>simp at hb;subst hb;exact .inl ⟨_,rfl,trivial⟩
    |1,hb=>simp at hb;subst hb;exact .inl ⟨_,rfl,ob,abp,Ii,rfl⟩
   ·simp only[Vk]at dC;split at dC
    ·cases dC;cases fY
    ·cases dC
  have bA:(execOp a.eval o).run P w=(callFunc f (c.args.map a.eval)).run P w:=by simp[execOp,ho,resolve,hc,Act.eval,Ke,invoke]
  have O7:aQ Vk args (c.args.map a.eval).toList:=aQ.flat aN.flat hal (by rw[Array.toList_map];exact wE);have fin (w':World) (V':aM) (rl:Fr Vk w w') (v':Value) (sZ:aN V' v v'):next (a.put o.dst v') w':=by
   have dW:∀b e',Vk b=some e'->e'.wr=true->False:=by
    intro b e' hb hw;simp only[Vk]at hb;split at hb
    ·cases hb;cases hw
    ·cases hb
   have bE (q:Nat) (hq:q<w.heap.size):w'.heap[q]? =w.heap[q]?:=rl.bE q hq λb e' hb hw _=>dW b e' hb hw;have oD:R V U w':=⟨H.r.dom,λb e' hm=>uk (H.r.lt b e' hm) rl.size,λb o' Et=>(H.r.obj_ b o' Et).imp (λ⟨e',bn,lg⟩=>⟨e',bn,lg.carry (bE _ (H.r.lt b e' bn))⟩) id,H.r.inj⟩
   exact hk _ _ _ _ _ _ _ (H.step oD (Ext.refl _ _) ⟨rl.os,rl.tape,rl.output,rl.size,λq hq _=>bE q hq⟩) (.v _ _ (sZ.flat hv)) hx
  rcases eN _ _ _ _ iG with⟨⟨fn,dU,hb⟩,HK⟩|⟨_,HK⟩
  ·unfold Oper.wp;rw[bA,RX hP dU hb];rw[Oper.upon_enter];refine(HK Vk w (c.args.map a.eval) hR O7).mono λe2 w' ⟨V',hR',hE',rl,v',bW,sZ⟩=>?_;subst bW;exact fin w' V' rl v' sZ
  ·obtain⟨u,w',h1,V',hR',hE',rl,v',bW,sZ⟩:=HK Vk w (c.args.map a.eval) hR O7;cases bW;exact lx (bA.trans h1) (fin w' V' rl _ sZ)
 ·cases hx
theorem Td {o:Oper} {next:Act->World->Prop} {k:TV->Env->St->Out} {kp:AV->Env->St->Out} (hP:fz P) (eN:kT P call) (H:aR V0 w0 V lam env U a w) (hk:cQ V0 w0 a o.dst next out k) (dN:qV V0 w0 Q out kp)
  (hx:kS P lm call env U o k kp=some out):o.wp P a w next Q:=by
 cases hp:pV P o with
 |none=>
  cases cE:oL P o with
  |none=>rw[J6 cE hp]at hx;exact J7 hP eN H hk dN hx
  |some b=>
   obtain⟨t,m,x,kt,et,ho,hu,nF⟩:=Qo cE;refine J7 hP eN H hk dN (?_:aw P lm call env U o k kp=some out);simp only[kS,hp,cE,ho]at hx;split at hx
   ·rename_i r v hr hv;simp only[vh,ho]at hr;split at hr
    ·rename_i r' hm;cases hr;unfold nO at hx;cases hf:mH b U[r]? with
     |false=>rw[hf]at hx;cases hx
     |true=>
      rw[hf]at hx;simp only[cond_true]at hx;unfold mH at hf;split at hf
      ·rename_i es fC;have hs:fq P kt (.bool b)=true:=by unfold fq jt;rw[nF];rfl
       have HV:∀(l:List (AV×AV)) (i:Nat),(l.all λe=>match e.1 with| .bool c=>c !=b|_=>false)=true->du P kt (.bool b) l i=some none:=by
        intro l
        induction l with
        |nil=>intro i _;rfl
        |cons e l ih=>
         intro i hl;obtain⟨y,u⟩:=e;simp only[List.all_cons,gH]at hl;obtain⟨h1,h2⟩:=hl;cases y<;>first|(cases h1;done)|skip
         rename_i c;have he:eK P kt (.bool b) (.bool c)=some false:=by
          unfold eK cu;rw[nF];have:(b==c)=false:=by simp at h1|-;exact cY h1
          simp only[this]
         rw[du,he];exact ih _ h2
       have hc:(Operand.const (.bool b):Operand)=.const (.bool b):=rfl;have jI:env.get (.const (.bool b))=.v (.bool b):=rfl;simp only[aw,ho,hu,jI,hv,hm,bY,if_pos hs,fC,HV es 0 hf];rw[tC fC]at hx;exact hx
      ·cases hf
    ·cases hr
   ·cases hx
 |some f=>
  obtain⟨c,ho,hc,_⟩:=RJ hp;simp only[kS,hp,ho]at hx;exact aeP hP eN H hk ho hc hx
theorem aaN {ops:Array Oper} {o:Oper} {i:Nat} {next:Act->World->Prop} {k:TV->Env->St->Out} (hP:fz P) (eN:kT P call) (H:aR V0 w0 V lam env U a w) (ho:ops[i]? =some o) (hk:cQ V0 w0 a o.dst next out k)
  (h:ny P lm call ops o env U k=some out):wpOp P ops Q i next a w:=by
 have dN:qV V0 w0 Q out (λ_ _ _=>none):=λx env U V lam a v w _ _ h=>by cases h
 unfold wpOp;simp only[ho];unfold ny at h;split at h
 ·rename_i hg;rw[if_pos (by simp[sh,hg])];exact .inl (Td hP eN H hk dN h)
 ·rename_i j want hg;split at h
  ·rename_i d hd;have hs:=H.slot d;split at h
   ·rename_i b hb;rw[hb]at hs;have hv:=hs.val;generalize oJ:a.tmps.getD d undef=v at hv;cases hv;have hy:=Tg (ops:=ops) hd oJ;split at h
    ·rename_i hw;subst hw;rw[if_pos (by simp[sh,hg,hy])];exact .inl (Td hP eN H hk dN h)
    ·rename_i hw;rw[if_neg (by simp[sh,hg,hy];exact hw)];exact hk _ _ _ _ _ _ _ H (.v _ _ (.tuple [] #[] .nil)) h
   ·rename_i hb;rw[hb]at hs;have hv:=hs.val;generalize oJ:a.tmps.getD d undef=v at hv;cases hv with
    |tuple _ au bg=>
     have he:au= #[]:=by have:=bg.length;simp at this;exact Array.eq_empty_of_size_eq_zero this.symm
     subst he;have hy:=Th (ops:=ops) hd oJ;rw[if_neg (by simp[sh,hg,hy])];exact hk _ _ _ _ _ _ _ H (.v _ _ (.tuple [] #[] .nil)) h
   ·cases h
  ·cases h
theorem TM {ops:Array Oper} (hb:x7 ops=true) {S:Nat->Prop} (hS:∀(i:Nat) o,ops[i]? =some o->S i->∀e∈o.after.toList,o9 .any e=true->S e.on):
  ∀(i:Nat) (o:Oper),ops[i]? =some o->(∀e∈o.after.toList,o9 .any e=true->S e.on)->∀j,((xW ops).getD i 0).testBit j=true->S j:=by
 have HG:∀(i:Nat) o,ops[i]? =some o->∀e∈o.after.toList,o9 .any e=true->e.on<i:=by
  intro i o ho e he jH;unfold x7 at hb;rw[mq]at hb;have hm:(o,i)∈ops.toList.zipIdx:=by
   rw[List.mk_mem_zipIdx_iff_getElem?,p5];exact ho
  have:=hb _ hm;simp only[Array.all_eq_true']at this;have:=this e (by simpa using he);simp[jH]at this;exact this
 have aay (acc:List Nat) (j:Nat):∀(es:List Edge) (s:Nat),(es.foldl (λs e=>if o9 .any e then s|||(2^e.on|||acc.getD e.on 0)else s) s).testBit j=true->
   s.testBit j=true\/∃e∈es,o9 .any e=true/\(e.on=j\/(acc.getD e.on 0).testBit j=true):=by
  intro es
  induction es with
  |nil=>intro s h;exact .inl h
  |cons e es ih=>
   intro s h;simp only[List.foldl_cons]at h;rcases ih _ h with h|⟨e',bn,h1,h2⟩
   ·split at h
    ·rename_i jH;simp only[Nat.testBit_or,Bool.or_eq_true,Nat.testBit_two_pow,decide_eq_true_eq]at h;rcases h with h|h|h
     ·exact .inl h
     ·exact .inr ⟨e,by simp,jH,.inl h⟩
     ·exact .inr ⟨e,by simp,jH,.inr h⟩
    ·exact .inl h
   ·exact .inr ⟨e',by simp[bn],h1,h2⟩
 have go:∀(r:List Oper) (acc:List Nat),(∀(m:Nat) o,r[m]? =some o->ops[acc.length+m]? =some o)->(∀(i:Nat) o,i<acc.length->ops[i]? =some o->(∀e∈o.after.toList,o9 .any e=true->S e.on)->∀j,(acc.getD i 0).testBit j=true->S j)->
   ∀(i:Nat) o,ops[i]? =some o->i<acc.length+r.length->(∀e∈o.after.toList,o9 .any e=true->S e.on)->∀j,((F0 r acc).getD i 0).testBit j=true->S j:=by
  intro r
  induction r with
  |nil=>intro acc _ sN i o ho hi he j hj;exact sN i o (by simpa using hi) ho he j hj
  |cons o0 r ih=>
   intro acc hr sN i o ho hi he j hj;refine ih (acc++[F1 acc o0]) (λm o' hm=>?_) (λi' o' yI lg bn j' nC=>?_) i o ho (by simp at hi|-;omega) he j hj
   ·have:=hr (m+1) o' (by simpa using hm);simpa[eD,uj 1 m]using this
   ·by_cases al:i'<acc.length
    ·rw[gq,bO al,<-gq]at nC;exact sN i' o' al lg bn j' nC
    ·have hie:i'=acc.length:=by simp at yI;omega
     subst hie;have h0:=hr 0 o0 (by simp);rw[mw]at h0;rw[h0]at lg;cases lg;rw[gq,bQ (aA _)]at nC;simp at nC;unfold F1 at nC;rcases aay acc j' _ _ nC with h|⟨e,HS,jH,h⟩
     ·simp at h
     ·rcases h with h|h
      ·rw[<-h];exact bn e HS jH
      ·have oH:=HG _ _ h0 e HS jH;have hSe:=bn e HS jH;have hex:∃oe,ops[e.on]? =some oe:=by
        have hl:acc.length<ops.size:=(qQ.1 h0).1;exact⟨ops[e.on]'(by omega),by simp[show e.on<ops.size by omega]⟩
       obtain⟨oe,PU⟩:=hex;exact sN e.on oe oH PU (hS e.on oe PU hSe) j' h
 intro i o ho he j hj;have al:i<ops.size:=(qQ.1 ho).1;exact go ops.toList [] (λm o hm=>by simpa using hm) (λi o hi=>by simp at hi) i o ho (by simpa using al) he j hj
theorem DR.news {ops:Array Oper} {k:Env->St->Out}:∀{L:List (Nat×Oper×bN)} {e:Env} {U:St},DR P lm call ops k out L e U->∀x∈L,∀d∈ez lm x.2.1,d∈x.2.2.keys/\x.2.2.w=true
 |_,_,_,.nil _ _ _,x,hx=>by simp at hx
 |_,_,_,.cons i o c r e U t δ h hr,x,hx=>by
  rcases bS.1 hx with rfl|hx
  ·exact h.2.2.1
  ·exact DR.news hr x hx
theorem aR.drawn (H:aR V0 w0 V lam env U a w):aR V0 w0 V lam env U a {w with drawn:=w.drawn+1}:=
 H.step ⟨H.r.dom,H.r.lt,H.r.obj_,H.r.inj⟩ (Ext.refl _ _) ⟨rfl,rfl,rfl,aA _,λ_ _ _=>rfl⟩
open Classical in
theorem TN {ops:Array Oper} {k:Env->St->Out} (hP:fz P) (eN:kT P call) (hb:x7 ops=true)
  (hk:∀env U V lam a w,aR V0 w0 V lam env U a w->k env U=some out->Q .normal a w):
  ∀(fuel:Nat) (listed:Array Bool) (L:List (Nat×Oper×bN)) (env:Env) (U:St) (V:aM) (lam:j7) (a:Act) (w:World),listed.size=ops.size->L.length=fuel->aR V0 w0 V lam env U a w->DR P lm call ops k out L env U->
   List.Pairwise (Good ops (xW ops) lm) L->vY lm L env->(∀x∈L,ops[x.1]? =some x.2.1)->(∀i,i<ops.size->(listed.getD i false=false↔i∈L.map (·.1)))->(L.map (·.1)).Pairwise (·< ·)->
   (∀(i:Nat) o,ops[i]? =some o->listed.getD i false=true->∀e∈o.after.toList,o9 .any e=true->listed.getD e.on false=true)->wpAny P .any ops Q fuel listed a w:=by
 have HG:∀(i:Nat) o,ops[i]? =some o->∀e∈o.after.toList,o9 .any e=true->e.on<i:=by
  intro i o ho e he jH;unfold x7 at hb;rw[mq]at hb;have hm:(o,i)∈ops.toList.zipIdx:=by
   rw[List.mk_mem_zipIdx_iff_getElem?,p5];exact ho
  have:=hb _ hm;simp only[Array.all_eq_true']at this;have:=this e (by simpa using he);simp[jH]at this;exact this
 have RO (listed:Array Bool) (cm:listed.size=ops.size) (i:Nat):i∈Region.ready .any ops listed->i<ops.size/\listed.getD i false=false/\∀o,ops[i]? =some o->∀e∈o.after.toList,o9 .any e=true->listed.getD e.on false=true:=by
  intro hi;unfold Region.ready at hi;simp only[List.mem_filter,List.mem_range,gH,Bool.not_eq_true']at hi;obtain⟨h1,h2,h3⟩:=hi;refine⟨h1,?_,λo ho e he jH=>?_⟩
  ·have hl:i<listed.size:=by omega
   simp[Array.getD,hl]at h2|-;exact h2
  ·rw[ho]at h3;simp only[je,qb,Array.all_eq_true']at h3;have:=h3 e (by simpa using he);simpa[jH]using this
 have aaw (listed:Array Bool) (cm:listed.size=ops.size) (x:Nat×Oper×bN) (L:List (Nat×Oper×bN)) (uZ:ops[x.1]? =some x.2.1) (hl:∀i,i<ops.size->(listed.getD i false=false↔i∈(x::L).map (·.1))) (hs:((x::L).map (·.1)).Pairwise (·< ·)):x.1∈Region.ready .any ops listed:=by
  have al:x.1<ops.size:=(qQ.1 uZ).1;unfold Region.ready;simp only[List.mem_filter,List.mem_range,gH,Bool.not_eq_true'];have h0:=(hl x.1 al).2 (by simp);refine⟨al,?_,?_⟩
  ·have fp:x.1<listed.size:=by omega
   simp[Array.getD,fp]at h0|-;exact h0
  ·rw[uZ];simp only[je,qb,Array.all_eq_true'];intro e he;cases jH:o9 .any e with
   |false=>rfl
   |true=>
    have oH:=HG _ _ uZ e (by simpa using he) jH;simp only[Bool.not_true,Bool.false_or];cases hle:listed.getD e.on false with
    |true=>rfl
    |false=>
     have:=(hl e.on (by omega)).1 hle;simp only[dO,bS]at this;simp only[dO,List.pairwise_cons]at hs;rcases this with h|h
     ·omega
     ·have:=hs.1 _ h;omega
 intro fuel
 induction fuel with
 |zero=>
  intro listed L env U V lam a w cm hlen H hD _ _ _ hl _ _;have hL:L=[]:=List.eq_nil_of_length_eq_zero hlen;subst hL;cases hD with
  |nil _ _ fR=>
   refine⟨?_,hk _ _ _ _ _ _ H fR⟩;rw[List.eq_nil_iff_forall_not_mem];intro i hi;obtain⟨h1,h2,_⟩:=RO listed cm i hi;have:=(hl i h1).1 h2;simp at this
 |succ fuel ih=>
  intro listed L env U V lam a w cm hlen H hD yM Ih uZ hl hs Pk;refine⟨λhr=>?_,λi hi=>?_⟩
  ·exfalso
   cases L with
   |nil=>cases hlen
   |cons x L=>
    have:=aaw listed cm x L (uZ x (by simp)) hl hs;rw[hr]at this;simp at this
  ·obtain⟨h1,h2,h3⟩:=RO listed cm i hi;obtain⟨z,hz,wY⟩:=nZ.1 ((hl i h1).1 h2);obtain⟨p,q,Ep⟩:=List.append_of_mem hz;subst Ep;have EA:=uZ z hz;rw[wY]at EA;have PG:∀x∈p,((xW ops).getD z.1 0).testBit x.1=false:=by
    intro x hx;cases Bi:((xW ops).getD z.1 0).testBit x.1 with
    |false=>rfl
    |true=>
     exfalso
     have:=TM hb (S:=λj=>listed.getD j false=true) Pk i z.2.1 EA (h3 z.2.1 EA) x.1 (by rw[<-wY];exact Bi);have pK:x.1<ops.size:=(qQ.1 (uZ x (by simp[hx]))).1;have:=(hl x.1 pK).2 (nZ.2 ⟨x,by simp[hx],rfl⟩)
     simp_all
   obtain⟨t,δ,hu,yN⟩:=DR.front p q env U hD yM Ih PG;have yP:(p++q).Sublist (p++z::q):=ahm (ahn p) (List.sublist_cons_self z q);refine aaN (out:=out) (lm:=lm) (call:=call) (o:=z.2.1) (k:=λt' e' U'=>if t'=t/\e'=δ.env env/\U'=δ.st U then some out else none) hP eN H EA ?_ ?_
   ·intro t' e' U' V' lk v w' H' gB qx;dsimp only at qx;split at qx
    ·rename_i heq;obtain⟨rfl,rfl,rfl⟩:=heq;have ij:∀d∈ez lm z.2.1,∀t∈env.tmps,d∉keyOf t:=λd hd t ht=>Ih z (by simp) d hd t ht;have hNF:vY lm (p++q) ((δ.env env).put z.2.1.dst t'):=by
      intro y hy d hd u dk;rw[tF,Delta.xE hu.2.1 ij]at dk;have hold:∀u∈env.tmps,d∉keyOf u:=λu hu=>Ih y (yP.subset hy) d hd u hu;split at dk
      ·rcases List.mem_or_eq_of_mem_set dk with pJ|pJ
       ·exact hold u pJ
       ·subst pJ;intro iJ;have yK:=hu.1 d iJ;rcases cX.1 hy with hy|hy
        ·
         have hg:=(List.pairwise_append.1 yM).2.2 y hy z (by simp);rcases hg.1 with h|⟨_,ig⟩
         ·rw[PG y hy]at h;cases h
         ·have PT:=DR.news hD y (by simp[hy]) d hd;have:=(ig.key _ PT.1 yK).1;rw[PT.2]at this;cases this
        ·have hg:=(List.pairwise_cons.1 (List.pairwise_append.1 yM).2.1).1 y hy;exact hg.2 d hd yK
      ·exact hold u dk
     refine ih (listed.setIfInBounds i true) (p++q) _ _ V' lk _ w' (by simpa using cm) (by simp at hlen|-;omega) (H'.put gB z.2.1.dst) yN (yM.sublist yP) hNF (λx hx=>uZ x (yP.subset hx)) ?_ ?_ ?_
     ·intro j hj;have rA:i∉(p++q).map (·.1):=by
       intro hm;rw[fi,dO]at hs;obtain⟨h4,h5,h6⟩:=List.pairwise_append.1 hs;rw[fi]at hm;rcases cX.1 hm with hm|hm
       ·have:=h6 i hm z.1 (by simp);omega
       ·have:=(List.pairwise_cons.1 h5).1 i hm;omega
      by_cases l7:j=i
      ·subst l7;refine⟨λh=>?_,λh=>absurd h rA⟩;have al:j<listed.size:=by omega
       simp[Array.getD,al]at h
      ·have td:(listed.setIfInBounds i true).getD j false=listed.getD j false:=by
        simp[rX,vT (cY l7)]
       rw[td,hl j hj];simp only[fi,dO,cX,bS,wY,l7,false_or]
     ·exact hs.sublist (yP.map _)
     ·intro j o Px lf e he jH;have up (m:Nat) (hm:listed.getD m false=true):(listed.setIfInBounds i true).getD m false=true:=by
       by_cases PN:m=i
       ·subst PN;rw[h2]at hm;cases hm
       ·rw[rX,vT (cY PN),<-rX];exact hm
      by_cases l7:j=i
      ·subst l7;exact up _ (h3 o Px e he jH)
      ·rw[rX,vT (cY l7),<-rX]at lf;exact up _ (Pk j o Px lf e he jH)
    ·cases qx
   ·have:=hu.2.2.2.1 env U (ga.refl _ _ _ _) (λt' e' U'=>if t'=t/\e'=δ.env env/\U'=δ.st U then some out else none);rw[this];simp
def X.to:X->Exit
 | .normal=>.normal
 | .exit id=>.exit id
 | .ret=>.ret
theorem LC (live:Nat):∀(l:List TV) (i j:Nat) (t:TV),(sC live i l)[j]? =some t->t=.no\/l[j]? =some t
 | [],_,_,_,h=>by simp[sC]at h
 |x::r,i,0,t,h=>by
  simp[sC]at h;split at h
  ·subst h;right;simp
  ·subst h;exact .inl rfl
 |x::r,i,j+1,t,h=>by
  simp[sC]at h;simpa using LC live r (i+1) j t h
theorem LD (live:Nat):∀(l:List TV) (i:Nat),(sC live i l).length=l.length
 | [],_=>rfl
 |_::r,i=>by simp[sC,LD live r]
theorem Gp (live:Nat->Bool):∀(l:mu) (j:Nat) (cs:List AV),eh (uz live l) j=some cs->eh l j=some cs
 | [],_,_,h=>by simp[uz,eh]at h
 |(k,c)::r,j,cs,h=>by
  unfold uz at h;unfold eh;split at h
  ·unfold eh at h;split at h
   ·rename_i hk;rw[if_pos hk];exact h
   ·rename_i hk;rw[if_neg hk];exact Gp live r j cs h
  ·rename_i hb;split
   ·rename_i hk;subst hk
    exfalso
    have:∀(l:mu),eh (uz live l) k=none:=by
     intro l
     induction l with
     |nil=>rfl
     |cons p r ih=>
      obtain⟨k',c'⟩:=p;unfold uz;split
      ·rename_i bZ;unfold eh;rw[if_neg (λe=>hb (by rw[<-e];exact bZ))];exact ih
      ·exact ih
    rw[this]at h;cases h
   ·exact Gp live r j cs h
theorem aR.clean (H:aR V0 w0 V lam env U a w) (live:Nat):aR V0 w0 V lam (env.clean live) U a w:=by
 refine{H with size:=by simp[Env.clean,LD,H.size],tmps:=λi t hi=>?_,locs:=λk cs hk=>H.locs k cs (Gp _ _ _ _ hk)};rcases LC live _ _ _ _ hi with rfl|h
 ·exact .no _
 ·exact H.tmps i t h
theorem aR.know (H:aR V0 w0 V lam env U a w) {c:Operand} {b:Bool} (h:a.eval c=.bool b):aR V0 w0 V lam (env.know c b) U a w:=by
 cases c with
 |tmp t=>exact H.EY h
 |_=>exact H
theorem aR.mark (H:aR V0 w0 V lam env U a w) (d:Option Tmp) (b:Nat):aR V0 w0 V lam (env.put d (.rs b)) U a w:=by
 cases d with
 |none=>exact H
 |some d=>
  refine{H with size:=by simp[Env.put,H.size],tmps:=λi y hi=>?_,defers:=H.defers,locs:=H.locs};simp only[Env.put]at hi;by_cases hd:d=i
  ·subst hd;have al:d<env.tmps.length:=by
    rcases gu d env.tmps.length with al|gg
    ·exact al
    ·rw[fP (by simpa using gg)]at hi;cases hi
   rw[cM al]at hi;cases hi;exact .rs _ _
  ·rw[aD hd]at hi;exact H.tmps i y hi
theorem Jt {f:Env->St->Out}:∀(ops:List Oper) {env:Env} {U:St},aR V0 w0 V lam env U a w->vC ops env U f=some out->∃cV U',aR V0 w0 V lam cV U' a w/\f cV U'=some out
 | [],_,_,H,h=>⟨_,_,H,h⟩
 |o::r,env,U,H,h=>by
  unfold vC at h;cases hr:IH o with
  |false=>rw[hr]at h;exact Jt r H h
  |true=>
   rw[hr]at h;exact Jt r ((H.step H.r.res (Ext.refl _ _) (Fr.refl _ _)).mark o.dst U.length) h
theorem aff {f:Env->St->Out} {ops:List Oper} {env:Env} {U:St} (H:aR V0 w0 V lam env U a w) (h:xx ops env U f=some out):∃cV U',aR V0 w0 V lam cV U' a w/\f cV U'=some out:=by
 unfold xx at h;cases hr:ops.any IG with
 |false=>rw[hr]at h;exact⟨_,_,H,h⟩
 |true=>rw[hr]at h;exact Jt ops H h
theorem Jx {n:Nat} (hP:fz P) (eN:kT P call):
  ∀(c:Code) (live:Nat) (k:X->Env->St->Out) (Q:Exit->Act->World->Prop) (env:Env) (U:St) (V:aM) (lam:j7) (a:Act) (w:World),aR V0 w0 V lam env U a w->
   (∀x env U V lam a w,aR V0 w0 V lam env U a w->k x env U=some out->Q x.to a w)->qV V0 w0 Q out kp->
   run P lm call n kp c live k env U=some out->c.wp P Q a w:=by
 intro c
 induction c with
 |skip=>intro live k Q env U V lam a w H hk _ h;exact wp_skip (hk .normal _ _ _ _ _ _ H h)
 |region id ops draw=>
  intro live k Q env U V lam a w H hk dN h;unfold run at h;cases draw with
  |true=>
   simp only[cond]at h;obtain⟨env,U,H,h⟩:=aff H h;split at h
   ·rename_i hc;simp only[gH]at hc;obtain⟨L,hD,hm,yM,_⟩:=RT ops.toList 0 [] env U h (λx hx=>by simp at hx) (λx hx=>by simp at hx);have qv:∀x∈L,ops[x.1]? =some x.2.1:=by
     intro x hx;have h1:(x.1,x.2.1)∈(ops.toList.zipIdx 0).map (λx=>(x.2,x.1)):=by rw[<-hm];exact nZ.2 ⟨x,hx,rfl⟩
     obtain⟨z,hz,he⟩:=nZ.1 h1;have yV:ops.toList[z.2]? =some z.1:=by have:=List.mk_mem_zipIdx_iff_getElem?.1 hz;simpa using this
     have e1:z.2=x.1:=by simpa using congrArg Prod.fst he
     have e2:z.1=x.2.1:=by simpa using congrArg Prod.snd he
     rw[e1,e2,p5]at yV;exact yV
    have HZ:L.map (·.1)=r9 ops.size:=by
     have h1:(L.map (λx=>(x.1,x.2.1))).map (·.1)=((ops.toList.zipIdx 0).map (λx=>(x.2,x.1))).map (·.1):=by rw[hm]
     simp only[List.map_map]at h1;have h2:(ops.toList.zipIdx 0).map (λx=>x.2)=fy 0 ops.toList.length:=by simp
     have h3:L.map (·.1)=(ops.toList.zipIdx 0).map (λx=>x.2):=h1;rw[h3,h2,List.range_eq_range'];simp
    refine wp_region_any hP.mixed (TN hP eN hc.2 (λenv U V lam a w H hx=>hk .normal _ _ _ _ _ _ H hx) ops.size _ L env U V lam a _ (by simp) ?_ H.drawn hD yM ?_ qv ?_ ?_ ?_)
    ·have:=congrArg List.length HZ;simpa using this
    ·intro x hx d hd t ht;have Qd:=qv x hx;have hf:=hc.1;unfold I2 at hf;rw[mq]at hf;have h1:=hf x.2.1 (by rw[<-p5]at Qd;exact fF Qd);rw[mq]at h1;have h2:=h1 d hd;rw[mq]at h2;have h3:=h2 t ht;simp at h3;exact h3
    ·intro i hi;rw[HZ];simp[Array.getD,hi]
    ·rw[HZ];exact List.pairwise_lt_range
    ·intro i o hio hl
     exfalso
     rw[rX]at hl;cases hg:(Array.replicate ops.size false)[i]? with
     |none=>rw[hg]at hl;cases hl
     |some b=>
      rw[hg]at hl;have:=Array.mem_of_getElem? hg;simp at this;simp[this.2]at hl
   ·cases h
  |false=>
   simp only[cond]at h;exact wp_region_list (RU hP eN (λenv U V lam a w H hx=>hk .normal _ _ _ _ _ _ H hx) dN _ _ _ _ _ _ _ H h)
 |seq x y BM EB=>
  intro live k Q env U V lam a w H hk dN h;unfold run at h;refine wp_seq (BM _ _ (Exit.then (y.wp P Q) Q) env U V lam a w H ?_ ?_ h)
  ·intro x' cV U' V' lk a' w' H' hx;cases x' with
   |normal=>exact EB _ _ Q _ U' V' lk a' w' (by cases qB x;exact H';exact H'.clean _) hk dN hx
   |exit id=>exact hk (.exit id) _ _ _ _ _ _ H' hx
   |ret=>exact hk .ret _ _ _ _ _ _ H' hx
  ·intro x' cV U' V' lk a' v w' h1 h2 h3;exact dN x' cV U' V' lk a' v w' h1 h2 h3
 |cond c x y BM EB=>
  intro live k Q env U V lam a w H hk dN h;unfold run at h;have hc:=H.get c;split at h
  ·rename_i t ht;rw[ht]at hc;have hv:=hc.val;generalize oJ:a.eval c=v at hv;cases hv;cases t
   ·exact wp_cond_false oJ (EB _ _ Q _ _ _ _ _ _ (H.know oJ) hk dN h)
   ·exact wp_cond_true oJ (BM _ _ Q _ _ _ _ _ _ (H.know oJ) hk dN h)
  ·cases h
 |block id b ih=>
  intro live k Q env U V lam a w H hk dN h;unfold run at h;refine wp_block (ih _ _ (Exit.inBlock id Q) env U V lam a w H ?_ ?_ h)
  ·intro x' cV U' V' lk a' w' H' hx;cases x' with
   |normal=>exact hk .normal _ _ _ _ _ _ H' hx
   |ret=>exact hk .ret _ _ _ _ _ _ H' hx
   |exit j=>
    show Exit.inBlock id Q (.exit j) a' w';simp only[Exit.inBlock];dsimp only at hx;split at hx
    ·rename_i hj;rw[if_pos hj];exact hk .normal _ _ _ _ _ _ (H'.clean _) hx
    ·rename_i hj;rw[if_neg hj];exact hk (.exit j) _ _ _ _ _ _ H' hx
  ·intro x' cV U' V' lk a' v w' h1 h2 h3;exact dN x' cV U' V' lk a' v w' h1 h2 h3
 |loop b ih=>
  intro live k Q env U V lam a w H hk dN h;unfold run at h;refine wp_loop_rounds n ?_;clear hP;generalize hn:n=m at h;have key:∀m env U V lam a w,aR V0 w0 V lam env U a w->qF (live|||ew b) (λk env U=>run P lm call n kp b (live|||ew b) k env U) k m env U=some out->Code.rounds P b Q m a w:=by
   intro m
   induction m with
   |zero=>intro env U V lam a w H h;cases h
   |succ m ID=>
    intro env U V lam a w H h;unfold qF at h;refine ih _ _ (Exit.then (Code.rounds P b Q m) Q) _ _ _ _ _ _ H ?_ ?_ h
    ·intro x' cV U' V' lk a' w' H' hx;cases x' with
     |normal=>exact ID _ _ _ _ _ _ (H'.clean _) hx
     |exit id=>exact hk (.exit id) _ _ _ _ _ _ H' hx
     |ret=>exact hk .ret _ _ _ _ _ _ H' hx
    ·intro x' cV U' V' lk a' v w' h1 h2 h3;exact dN x' cV U' V' lk a' v w' h1 h2 h3
  subst hn;exact key n _ U V lam a w (H.clean _) h
 |exit id=>intro live k Q env U V lam a w H hk _ h;exact wp_exit (hk (.exit id) _ _ _ _ _ _ H h)
 |ret=>intro live k Q env U V lam a w H hk _ h;exact wp_ret (hk .ret _ _ _ _ _ _ H h)
 |_=>intros;rename_i h;simp[run]at h
theorem Jq:∀(l:List ResultVar) (kr:List AV->Out),aR V0 w0 V lam env U a w->zt P env U l kr=some out->
  ∃xs vs,(l.mapM (m:=Sem) λ
   | .tmp t=>pure (a.tmps.getD t undef)
   | .cell ad t=>do loadVar t (<-asAddr (a.tmps.getD ad undef))).run P w=.ok vs w/\aQ V xs vs/\kr xs=some out
 | [],kr,_,h=>⟨[],[],rfl,.nil,h⟩
 | .tmp t::r,kr,H,h=>by
  unfold zt at h;split at h
  ·rename_i x hx;obtain⟨xs,vs,h1,h2,h3⟩:=Jq r _ H h;have hs:=H.slot t;rw[hx]at hs;exact⟨x::xs,_::vs,by simp only[List.mapM_cons,bG,dh,bF,h1],.cons _ _ _ _ hs.val h2,h3⟩
  ·cases h
 | .cell t ty::r,kr,H,h=>by
  unfold zt at h;have hs:=H.slot t;obtain⟨y,u,hu,hr,mN⟩:=QR H hs h;obtain⟨xs,vs,h1,h2,h3⟩:=Jq r _ H mN;refine⟨y::xs,u::vs,?_,.cons _ _ _ _ hr h2,h3⟩;have dk:(do loadVar ty (<-asAddr (a.tmps.getD t undef)):Sem Value).run P w=.ok u w:=by
   generalize hg:a.tmps.getD t undef=v at hu hs;cases v with
   |pointer ad=>
    cases ad with
    |some ad=>simpa[Instr.loadAt,r6,asAddr]using hu
    |none=>simp[Instr.loadAt,r6]at hu
   |_=>simp[Instr.loadAt,r6]at hu
  simp only[List.mapM_cons,bG,dh,bF,h1];simp only[bG]at dk;rw[dk];simp only[bF,h1]
theorem RR {fn:Func} (H:aR V0 w0 V lam env U a w) (hx:B7 P fn.results.toList env U=some out):
  ∃v,(results fn a.tmps).run P w=.ok v w/\iX V0 w0 out (.returned v) w:=by
 unfold B7 at hx;obtain⟨xs,vs,h1,h2,h3⟩:=Jq fn.results.toList _ H hx;have hm:(fn.results.mapM (m:=Sem) λ
   | .tmp t=>pure (a.tmps.getD t undef)
   | .cell ad t=>do loadVar t (<-asAddr (a.tmps.getD ad undef))).run P w=.ok vs.toArray w:=by
  rw[<-Array.toArray_toList (xs:=fn.results),List.mapM_toArray];simp only[Sem.run_map];rw[h1];rfl
 refine⟨if h:vs.toArray.size=1 then vs.toArray[0]else .tuple vs.toArray,?_,V,?_⟩
 ·unfold results;simp only[bG];refine(congrArg (λq:Result (Array Value)=>q.andThen λvs w'=>Sem.run P (pure (if h:vs.size=1 then vs[0]else .tuple vs)) w') hm).trans ?_;rfl
 ·have hlen:=h2.length;split at h3
  ·cases h3;cases h2 with
   |cons _ v _ S7 hv hr=>
    cases hr;exact⟨H.r,H.ext,H.fr,_,rfl,by simpa using hv⟩
  ·rename_i l bD;cases h3;have mI:¬vs.toArray.size=1:=by
    intro hs;simp at hs;rw[hs]at hlen;cases xs with
    |nil=>cases hlen
    |cons y r=>
     cases r with
     |nil=>exact bD y rfl
     |cons _ _=>simp at hlen
   rw[dif_neg mI];exact⟨H.r,H.ext,H.fr,_,rfl,.tuple _ _ (by simpa using h2)⟩
def oh (V:aM):Option AV->FrameMode->Prop
 |none,m=>m=.returning
 |some x,m=>∃v,m=.panicking [{v,recovered:=false}]/\aN V x v
theorem oh.mono {V V':aM} (hm:V.le V'):∀{u:Option AV} {m:FrameMode},oh V u m->oh V' u m
 |none,_,h=>h
 |some _,_,⟨v,h,k⟩=>⟨v,h,k.mono hm⟩
theorem oh.settle {V:aM}:∀{u:Option AV} {m:FrameMode},oh V u m->Go.settle m=m
 |none,_,h=>by cases h;rfl
 |some _,_,⟨v,h,_⟩=>by subst h;rfl
theorem oh.run {V:aM}:∀{u:Option AV} {m:FrameMode},oh V u m->m≠ .run
 |none,_,h=>by cases h;simp
 |some _,_,⟨v,h,_⟩=>by subst h;simp
def Kc (P:Program) (D:zM):Prop:=
 ∀f args u U u' U',D f args u U=some (u',U')->(∃fn,P.funcs[f]? =some fn/\fn.body.isSome=true)/\∀V w (bM:Array Value) m,R V U w->aQ V args bM.toList->oh V u m->
  CallsD P f bM m w λe m' w'=>(∃v,e=.returned v)/\∃V',R V' U' w'/\Ext V V' w/\Fr V w w'/\oh V' u' (Go.settle m')
theorem EZ {D:zM} (hP:fz P) (hD:Kc P D) {fn:Func}:∀(ds:Defs) (ph:List Deferred) (u:Option AV) (m:FrameMode) (U:St) (V:aM) (w:World),aR V0 w0 V lam env U a w->tV V ds ph->oh V u m->
  tA P D fn.results.toList ds u env U=some out->Leaves P fn a.tmps (iX V0 w0 out) ph m w
 | [],_,none,_,U,V,w,H,.nil,hu,h=>by
  cases hu;simp only[tA,bq]at h;exact RR H h
 | [],_,some x,_,U,V,w,H,.nil,⟨v,hm,hv⟩,h=>by
  subst hm;simp only[tA,bq]at h;cases h;exact⟨V,H.r,H.ext,H.fr,v,rfl,hv⟩
 |(f,args)::ds,_,u,m,U,V,w,H,.cons _ _ cap ia _ ph ha hr,hu,h=>by
  unfold tA Am at h;split at h
  ·rename_i u' U' hd;obtain⟨⟨Hy,dU,hb⟩,iG⟩:=hD _ _ _ _ _ _ hd;refine leaves_cons hu.run (f:=f) (args:=ia++cap) ?_ ((iG V w _ m H.r ha hu).mono λe m' w' ⟨⟨v,he⟩,V',hR,hE,hF,yS⟩=>?_)
   ·have hn:=hP.call f Hy dU hb;have bR:Hy.body.isNone=false:=by cases ie:Hy.body<;>simp_all
    simp[invoke,callFunc,dU,hn,bR];intro h0;rw[h0]at hb;cases hb
   ·subst he;exact EZ hP hD ds ph u' _ U' V' w' (H.step hR hE hF) (hr.mono hE.le) yS h
  ·cases h
theorem Mb {V:aM} {U:St} {w:World} {fn:Func} {args:List AV} {bM:Array Value} (hR:R V U w) (ha:aQ V args bM.toList):
  aR V w V (λ_=>none) (sH fn args) U {tmps:=bM++Array.replicate (fn.ntmps-bM.size) undef,defers:=[]} w:=by
 have hl:=ha.length;refine⟨hR,Ext.refl _ _,Fr.refl _ _,(by simp[sH]at hl|-;omega),λi t hi=>?_,λk cs hk=>(by simp[sH,eh]at hk),λk k' blk hk=>(by cases hk),λk blk hk=>(by cases hk),λk blk hk=>(by cases hk),.nil⟩;simp only[sH]at hi;by_cases al:i<args.length
 ·rw[bO (by simpa using al),List.getElem?_map]at hi;cases hx:args[i]? with
  |none=>rw[hx]at hi;cases hi
  |some x=>
   rw[hx]at hi;cases hi;obtain⟨v,hv,hr⟩:=ha.get hx;have oH:i<bM.size:=by simp at hl;omega
   rw[p5]at hv;have:(bM++Array.replicate (fn.ntmps-bM.size) undef).getD i undef=v:=by
    rw[rX,Array.getElem?_append_left oH,hv];rfl
   simp only[this];exact .v _ _ hr
 ·rw[bQ (by simpa using al)]at hi;have:=fF hi;simp at this;rw[this.2];exact .no _
end
theorem ae1 {c:Code} {ops:Array Oper} {o:Oper} {r:List Oper} {b:Code} (h:vv c=some (ops,o,r,b)):
  ∃id cl,c=.seq (.region id ops false) b/\ops.toList=o::r/\o.op=.call cl/\cl.callee=.builtin .recover/\o.guard=none:=by
 unfold vv at h;split at h
 ·split at h
  ·rename_i hl;split at h
   ·rename_i eF;split at h
    ·rename_i iG;split at h
     ·rename_i hg;cases h;exact⟨_,_,rfl,hl,eF,iG,by simpa using hg⟩
     ·cases h
    ·cases h
   ·cases h
  ·cases h
 ·cases h
theorem agS {P:Program} {ops:Array Oper} {Q:Exit->Act->World->Prop} {QS:Exit->Act->List Frame->World->Prop} {cs:List Frame} (dW:¬LetsOut Q) (hq:∀e a w,Q e a w->QS e a cs w):
  ∀(l:List Oper) (i:Nat) (a:Act) (w:World),(∀j,l[j]? =ops[i+j]?)->wpList P ops Q l a w->wpOpsS P ops QS (fy i l.length) a cs w:=by
 intro l
 induction l with
 |nil=>intro i a w _ h;exact hq _ _ _ h
 |cons o l ih=>
  intro i a w hl h;have h0:ops[i]? =some o:=by simpa using(hl 0).symm
  have yZ:=ih (i+1);have fp:∀j,l[j]? =ops[i+1+j]?:=λj=>by have:=hl (j+1);simpa[eD,uj 1 j]using this
  simp only[cr,List.range'_succ,wpOpsS,h0];unfold wpList at h;split
  ·rename_i hw;rw[if_pos hw]at h;rcases h with h|⟨_,h⟩
   ·unfold Oper.wp at h;generalize hr:(execOp a.eval o).run P w=r at h;have conv:o.upon P a (λa' w'=>wpOpsS P ops QS (fy (i+1) l.length) a' cs w') (λe a' w'=>QS e a' cs w') r/\∀w',r≠ .ok .recover w':=by
     unfold Oper.upon at h;split at h
     ·exact⟨yZ _ _ fp h,λw' h=>by cases h⟩
     ·exact⟨yZ _ _ fp h,λw' h=>by cases h⟩
     ·exact⟨yZ _ _ fp h,λw' h=>by cases h⟩
     ·refine⟨h.mono λe w' he=>?_,λw' h=>by cases h⟩;cases e with
      |returned v=>exact yZ _ _ fp he
      |panicked ch=>exact hq _ _ _ he
      |outgrown=>exact absurd he dW
     ·refine⟨h.mono λv w' he=>yZ _ _ fp he,λw' h=>by cases h⟩
     ·exact⟨hq _ _ _ h,λw' h=>by cases h⟩
     ·exact h.elim
    split
    ·exact absurd rfl (conv.2 _)
    ·exact conv.1
   ·exact absurd h dW
  ·rename_i hw;rw[if_neg hw]at h;exact yZ _ _ fp h
theorem Ju {P:Program} {call:bU} {n:Nat} (hP:fz P) (eN:kT P call):Kc P (js P call n):=by
 intro f args u U u' U' h;unfold js at h;split at h
 ·rename_i fn dU;split at h
  ·rename_i c hc;refine⟨⟨fn,dU,by simp[hc]⟩,λV w bM m hR ha hu=>?_⟩;have O1:=Mb (fn:=fn) hR ha;have fin (out:fH×St) (x:X) (cV:Env) (U1:St) (V1:aM) (lam:j7) (a1:Act) (w1:World) (H1:aR V w V1 lam cV U1 a1 w1)
     (hx:Ao P fn.results.toList x cV U1=some out) (Ij:∃y,out=(.ret y,U')):
     bodyPost P fn (λe w'=>(∃v,e=.returned v)/\∃V',R V' U' w'/\Ext V V' w/\Fr V w w') x.to a1 w1:=by
    obtain⟨y,rfl⟩:=Ij;have hd:=H1.defers;unfold Ao at hx;have main (hx:(match cV.defs with| []=>B7 P fn.results.toList cV U1|_=>none)=some (.ret y,U')):
      a1.defers=[]/\∃v,(results fn a1.tmps).run P w1=.ok v w1/\(∃v',Ending.returned v=.returned v')/\∃V',R V' U' w1/\Ext V V' w/\Fr V w w1:=by
     split at hx
     ·rename_i hds;rw[hds]at hd;cases jk:a1.defers with
      |nil=>
       obtain⟨v,hv,V',h1,h2,h3,_⟩:=RR H1 hx;exact⟨rfl,v,hv,⟨v,rfl⟩,V',h1,h2,h3⟩
      |cons d ds=>rw[jk]at hd;cases hd
     ·cases hx
    cases x with
    |normal=>exact main hx
    |ret=>exact main hx
    |exit id=>cases hx
   split at h
   ·rename_i ops o r b abw;obtain⟨id,cl,rfl,hl,eF,iG,hg⟩:=ae1 abw;split at h
    ·rename_i y zV bA;cases h;have cm:ops.size=r.length+1:=by rw[<-Array.length_toList,hl];rfl
     have h0:ops[0]? =some o:=by rw[<-p5,hl];rfl
     refine callsD_of_wpS dU hc λsD cs hm=>wpS_seq (wpS_region ?_);rw[List.range_eq_range',cm,List.range'_succ];have hex:(execOp (Act.eval {tmps:=bM++Array.replicate (fn.ntmps-bM.size) undef,defers:=[]}) o).run P w=.ok .recover w:=by
      simp[execOp,eF,resolve,iG,invoke,builtin]
     have go (v:Value) (m1:FrameMode) (hv:aN V (u.getD .nilIface) v) (hs:Go.settle m1=.returning):
       wpOpsS P ops (Exit.thenS (b.wpS P (bodyPostS P fn sD cs (λe m' w'=>(∃v,e=.returned v)/\∃V',R V' U' w'/\Ext V V' w/\Fr V w w'/\oh V' none (Go.settle m')))) (bodyPostS P fn sD cs (λe m' w'=>(∃v,e=.returned v)/\∃V',R V' U' w'/\Ext V V' w/\Fr V w w'/\oh V' none (Go.settle m'))))
        (fy 1 r.length) (Act.put {tmps:=bM++Array.replicate (fn.ntmps-bM.size) undef,defers:=[]} o.dst v) ({sD with mode:=m1}::cs) w:=by
      have up (e:Exit) (a1:Act) (w1:World) (hb:bodyPost P fn (λe w'=>(∃v,e=.returned v)/\∃V',R V' U' w'/\Ext V V' w/\Fr V w w') e a1 w1):
        bodyPostS P fn sD cs (λe m' w'=>(∃v,e=.returned v)/\∃V',R V' U' w'/\Ext V V' w/\Fr V w w'/\oh V' none (Go.settle m')) e a1 ({sD with mode:=m1}::cs) w1:=by
       cases e with
       |normal=>obtain⟨hd,v,hr,hv,V',h1,h2,h3⟩:=hb;exact⟨hd,m1,rfl,v,hr,hv,V',h1,h2,h3,hs⟩
       |ret=>obtain⟨hd,v,hr,hv,V',h1,h2,h3⟩:=hb;exact⟨hd,m1,rfl,v,hr,hv,V',h1,h2,h3,hs⟩
       |panic ch=>obtain⟨hd,⟨v,hv⟩,_⟩:=hb;cases hv
       |outgrown=>obtain⟨⟨v,hv⟩,_⟩:=hb;cases hv
       |_=>exact hb.elim
      refine agS (Q:=Exit.then (b.wp P (bodyPost P fn (λe w'=>(∃v,e=.returned v)/\∃V',R V' U' w'/\Ext V V' w/\Fr V w w'))) (bodyPost P fn (λe w'=>(∃v,e=.returned v)/\∃V',R V' U' w'/\Ext V V' w/\Fr V w w'))) ?_ ?_ r 1 _ w (λj=>by rw[<-p5,hl,uj 1 j];rfl) ?_
      ·rintro⟨a1,w1,⟨v,hv⟩,_⟩;cases hv
      ·intro e a1 w1 hq;cases e with
       |normal=>
        intro fr k hk nK;obtain⟨e,a',w',q,arr⟩:=hq fr k ({sD with mode:=m1}::cs);exact⟨e,a',_,w',up _ _ _ q,arr⟩
       |exit id=>exact up (.exit id) a1 w1 hq
       |goto l=>exact up (.goto l) a1 w1 hq
       |ret=>exact up .ret a1 w1 hq
       |panic ch=>exact up (.panic ch) a1 w1 hq
       |outgrown=>exact up .outgrown a1 w1 hq
      ·refine RU hP eN (λaht U1 V1 ahC a1 w1 H1 hx=>?_) (λx env U V lam a v w _ _ h=>by cases h) r _ U V (λ_=>none) _ w (O1.put (.v _ _ hv) o.dst) bA;exact Jx hP eN b _ _ _ _ _ _ _ _ _ H1 (λx env U V lam a w H hx=>fin _ x env U V lam a w H hx ⟨y,rfl⟩) (λx env U V lam a v w _ _ h=>by cases h) hx
     simp only[wpOpsS,h0];rw[if_pos (by simp[sh,hg])];simp only[hex];cases u with
     |none=>
      cases hu;have rB:recoverD (sD::cs)=none:=by simp[recoverD,hm]
      simp only[rB];have:=go .nilIface .returning .niface rfl;rw[<-hm]at this;exact this
     |some x=>
      obtain⟨v,rfl,hv⟩:=hu;have rB:recoverD (sD::cs)=some (v,{sD with mode:=.panicking [{v,recovered:=true}]}::cs):=by simp[recoverD,hm]
      simp only[rB];exact go v _ hv rfl
    ·cases h
   ·split at h
    ·rename_i y zV bA;cases h;refine(callsD_of_wp dU hc (u:=m) (R:=λe w'=>(∃v,e=.returned v)/\∃V',R V' U' w'/\Ext V V' w/\Fr V w w') ?_).mono λe m' w' ⟨hm,hv,V',h1,h2,h3⟩=>⟨hv,V',h1,h2,h3,?_⟩
     ·exact Jx hP eN c _ _ _ _ _ _ _ _ _ O1 (λx env U V lam a w H hx=>fin _ x env U V lam a w H hx ⟨y,rfl⟩) (λx env U V lam a v w _ _ h=>by cases h) bA
     ·subst hm;rw[hu.settle];exact hu.mono h2.le
    ·cases h
  ·cases h
 ·cases h
theorem UM {P:Program} {B:bU} (hP:fz P) (hB:kT P B):∀n,kT P (cd P B n):=by
 intro n
 induction n with
 |zero=>intro f args U out h;simp[cd]at h
 |succ n ih=>
  intro f args U out h;unfold cd at h;cases hb:B f args U with
  |some r=>rw[hb]at h;cases h;exact hB f args U _ hb
  |none=>
  rw[hb]at h;dsimp only at h;split at h
  ·rename_i fn dU;split at h
   ·rename_i c hc;refine .inl ⟨⟨fn,dU,by simp[hc]⟩,λV w bM hR ha=>?_⟩;refine calls_of_wp_defers dU hc ?_;refine Jx (V0:=V) (w0:=w) hP ih c _ _ _ _ U V (λ_=>none) _ w (Mb hR ha) ?_ ?_ h
    ·intro x env U' V' lam a w' H hx;cases x with
     |normal=>exact EZ hP (Ju hP ih) _ _ none _ _ _ _ H H.defers rfl hx
     |ret=>exact EZ hP (Ju hP ih) _ _ none _ _ _ _ H H.defers rfl hx
     |exit id=>cases hx
    ·intro x env U' V' lam a v w' H hv hx;exact EZ hP (Ju hP ih) _ _ (some x) _ _ _ _ H H.defers ⟨v,rfl,hv⟩ hx
   ·cases h
  ·cases h
end Go.AM
end
section
namespace Go.AM
open Lean.Order
theorem OQ {α:Type} {x y:Option α} (h:x⊑y) {a:α} (ha:x=some a):y=some a:=by
 cases h with
 |bot=>cases ha
 |refl=>exact ha
theorem map_mono {β:Type} (u:TypeId) (f:TypeInfo->β):monotone (λ(info:TypeId->Option TypeInfo)=>(info u).map f):=by
 intro a b rm;show Option.map f (a u)⊑Option.map f (b u);cases hu:a u with
 |none=>exact FlatOrder.rel.bot
 |some j=>rw[OQ (rm u) hu]
theorem aaE (ps rs:Array TypeId) (v:Bool):monotone (λ(info:TypeId->Option TypeInfo)=>Made.funcStr info ps rs v):=by
 unfold Made.funcStr
 repeat' (first|exact map_mono _ _|monotonicity|split)
theorem ae2 (fs:Array Field):monotone (λ(info:TypeId->Option TypeInfo)=>Made.reckonStruct info fs):=by
 unfold Made.reckonStruct
 repeat' (first|monotonicity|split)
theorem ae3 (d:TypeDesc):monotone (λ(info:TypeId->Option TypeInfo)=>Made.reckon info d):=by
 unfold Made.reckon;cases d<;>dsimp only<;>repeat' (first|exact aaE _ _ _|exact ae2 _|monotonicity|split)
theorem abU (T:Tables):∀f t i,oa T f t=some i->oa T (f+1) t=some i:=by
 intro f
 induction f with
 |zero=>intro t i h;simp[oa]at h
 |succ f ih=>
  intro t i h;unfold oa at h|-;split at h
  ·rename_i al;rw[if_pos al];exact h
  ·rename_i al;rw[if_neg al];simp only[qa]at h|-;obtain⟨d,hd,h⟩:=h;refine⟨d,hd,OQ (ae3 d (oa T f) (oa T (f+1)) ?_) h⟩;intro u;show oa T f u⊑oa T (f+1) u;cases hu:oa T f u with
   |none=>exact FlatOrder.rel.bot
   |some j=>rw[ih u j hu];first|done|exact FlatOrder.rel.refl
theorem IE {T:Tables} {e:TypeId} {i:TypeInfo} (h:oa T 99 e=some i):T.info? e=some i:=by
 unfold Tables.info?;split
 ·rename_i al;unfold oa at h;rw[if_pos al]at h;exact h
 ·exact abU T 99 e i h
theorem OU {α β:Type} (I:β->Prop) (f:α->β->Option (ForInStep β)):∀(l:List α) (b r:β),I b->(∀a∈l,∀b s,I b->f a b=some s->∃b',s=.yield b'/\I b')->forIn l b f=some r->I r
 | [],b,r,h0,_,h=>by simp at h;exact h▸h0
 |a::l,b,r,h0,hs,h=>by
  simp only[List.forIn_cons,bind,qa]at h;obtain⟨s,hf,h⟩:=h;obtain⟨b',rfl,hb⟩:=hs a (by simp) b s h0 hf;exact OU I f l b' r hb (λa ha=>hs a (by simp[ha])) h
theorem ae4 {info:TypeId->Option TypeInfo} {fs:Array Field} {i:TypeInfo} (h:Made.reckon info (.struct fs)=some i):∃gs,i.desc=.struct gs/\∀g∈gs.toList,(info g.type).isSome=true:=by
 unfold Made.reckon at h;dsimp only at h;unfold Made.reckonStruct at h;simp only[bind,qa,pure]at h;obtain⟨a,ha,h⟩:=h;rw[<-Array.forIn_toList]at ha;have hI:=OU (λs:Array Field×Nat×Nat×Nat×Nat×Bool×Bool×Option (Array Value)×String=>∀g∈s.1.toList,(info g.type).isSome=true) _ _ _ _ (by simp) ?_ ha
 ·split at h<;>(cases h;exact⟨_,rfl,hI⟩)
 ·clear ha h;intro f hf b s hb hs;simp only[qa]at hs;obtain⟨j,hj,hs⟩:=hs;have dc:∀(g:Field),g.type=f.type->∀g'∈(b.1.push g).toList,(info g'.type).isSome=true:=by
   intro g hg g' Ps;simp only[Array.toList_push,cX,List.mem_singleton]at Ps;rcases Ps with h'|rfl
   ·exact hb _ h'
   ·rw[hg,hj];rfl
  repeat' first
   |(cases hs;exact⟨_,rfl,dc _ rfl⟩)
   |(cases hs;done)
   |(split at hs)
   |(obtain⟨_,_,hs⟩:=qa.1 hs)
def agv (P:Program):Bool:=(r9 P.types.size).all λt=>match P.underlying t with
 |some (.struct fs)=>fs.toList.all λf=>(P.info? f.type).isSome
 |some (.array _ e)=>(P.info? e).isSome
 |some (.slice e)=>(P.info? e).isSome
 |_=>true
theorem adg {T:Tables} {t:TypeId} {i:TypeInfo} (ht:¬t<T.types.size) (h:T.info? t=some i):∃d,Made.reckon (oa T 99) d=some i:=by
 unfold Tables.info? at h;rw[if_neg ht]at h;unfold Made.depth at h;unfold oa at h;rw[if_neg ht]at h;simp only[qa]at h;obtain⟨d,_,h⟩:=h;exact⟨d,h⟩
theorem JV {P:Program} {t:TypeId} {d:TypeDesc} (ht:¬t<P.types.size) (h:P.underlying t=some d):∃i d',P.info? t=some i/\i.desc=d/\Made.reckon (oa P.toTables 99) d'=some i:=by
 unfold Program.underlying at h;split at h
 ·rename_i i hi;have:=Tables.info?_beyond ht hi;cases this
 ·rename_i i hn hi;obtain⟨d',oF⟩:=adg ht hi;cases h;exact⟨i,d',hi,rfl,oF⟩
 ·cases h
theorem Jp {info:TypeId->Option TypeInfo} {d:TypeDesc} {i:TypeInfo} (h:Made.reckon info d=some i):
  (∀e,i.desc=.slice e->(info e).isSome=true)/\(∀n e,i.desc=.array n e->(info e).isSome=true)/\(∀fs,i.desc=.struct fs->∀f∈fs.toList,(info f.type).isSome=true):=by
 by_cases hs:∃fs,d=.struct fs
 ·obtain⟨fs,rfl⟩:=hs;obtain⟨gs,hg,hx⟩:=ae4 h;rw[hg];exact⟨λe he=>by simp at he,λn e he=>by simp at he,λfs he=>by simp at he;exact he▸hx⟩
 ·unfold Made.reckon at h;cases d<;>simp only[bind,qa,pure,reduceCtorEq]at h
  case struct fs=>exact absurd ⟨fs,rfl⟩ hs
  all_goals
   repeat' first
    |(obtain⟨_,_,h⟩:=h)
    |(split at h)
  all_goals try simp only[qa,dP]at h
  all_goals try (first|(obtain⟨_,_,rfl⟩:=h)|subst h|(exact absurd h (by simp)))
  all_goals simp only[Made.word]
  all_goals refine⟨λe he=>?_,λn e he=>?_,λfs he=>?_⟩
  all_goals simp at he
  all_goals simp_all
theorem aeH {P:Program} (h1:agv P=true) (h2:P.follows .mixedOrders=true) (h3:(P.funcs.toList.all λfn=>!(fn.body.isSome&&(fn.name== "runtime.NumGoroutine")))=true):fz P:=by
 have lt:∀t,t<P.types.size->_:=λt ht=>mq.1 h1 t (List.mem_range.2 ht);refine⟨?_,?_,?_,h2,?_⟩
 ·intro t fs hu f hf;by_cases ht:t<P.types.size
  ·have:=lt t ht;rw[hu]at this;exact mq.1 this f hf
  ·obtain⟨i,d,hi,hd,hr⟩:=JV ht hu;obtain⟨j,hj⟩:=od.1 ((Jp hr).2.2 fs hd f hf);rw[IE hj];rfl
 ·intro t n e hu;by_cases ht:t<P.types.size
  ·have:=lt t ht;rw[hu]at this;exact this
  ·obtain⟨i,d,hi,hd,hr⟩:=JV ht hu;obtain⟨j,hj⟩:=od.1 ((Jp hr).2.1 n e hd);rw[IE hj];rfl
 ·intro t e hu;by_cases ht:t<P.types.size
  ·have:=lt t ht;rw[hu]at this;exact this
  ·obtain⟨i,d,hi,hd,hr⟩:=JV ht hu;obtain⟨j,hj⟩:=od.1 ((Jp hr).1 e hd);rw[IE hj];rfl
 ·intro f fn hf hb hn;have hm:fn∈P.funcs.toList:=by
   have:=Array.mem_of_getElem? hf;simpa using this
  have:=mq.1 h3 fn hm;simp[hb,hn]at this
end Go.AM
end
section
namespace Go.AM
noncomputable def descend (P:Program) (lm:Nat) (call:bU) (n:Nat) (kp:AV->Env->St->Out):Code->List Nat->List Nat->Nat->(X->Env->St->Out)->Env->St->Out
 | .seq a b,0::p,ms,live,k,env,U=>descend P lm call n kp a p ms (live|||ew b) (λx env U=>match x with| .normal=>run P lm call n kp b live k (cond (qB a) (env.clean (live|||ew b)) env) U|x=>k x env U) env U
 | .seq _ b,_::p,ms,live,k,env,U=>descend P lm call n kp b p ms live k env U
 | .cond _ a _,0::p,ms,live,k,env,U=>descend P lm call n kp a p ms live k env U
 | .cond _ _ b,_::p,ms,live,k,env,U=>descend P lm call n kp b p ms live k env U
 | .block id b,_::p,ms,live,k,env,U=>descend P lm call n kp b p ms live (λx env U=>match x with| .exit j=>if j=id then k .normal (env.clean live) U else k (.exit j) env U|x=>k x env U) env U
 | .loop b,[],m::_,live,k,env,U=>qF (live|||ew b) (λk env U=>run P lm call n kp b (live|||ew b) k env U) k m env U
 | .loop b,_::p,m::ms,live,k,env,U=>descend P lm call n kp b p ms (live|||ew b)
   (λx cV U'=>match x with| .normal=>qF (live|||ew b) (λk env U=>run P lm call n kp b (live|||ew b) k env U) k m (cV.clean (live|||ew b)) U'|x=>k x cV U') env U
 | .region _ _ _,_::_,_,_,_,_,_=>none
 |c,_,_,live,k,env,U=>run P lm call n kp c live k env U
def q7 (P:Program) (f:FuncId):Code:=match P.funcs[f]? with|some fn=>fn.body.getD .skip|none=>.skip
def pM (P:Program) (f:FuncId):Nat:=match P.funcs[f]? with|some fn=>BW fn|none=>0
def mW (P:Program) (f:FuncId):List ResultVar:=match P.funcs[f]? with|some fn=>fn.results.toList|none=>[]
def zk (P:Program) (f:FuncId):Nat:=match P.funcs[f]? with|some fn=>fn.ntmps|none=>0
noncomputable def GG (P:Program) (B:bU) (f:FuncId) (n:Nat):X->Env->St->Out:=λx env U'=>match x with
 | .exit _=>none
 |_=>tA P (js P (cd P B n) n) (mW P f) env.defs none env U'
noncomputable def Jd (P:Program) (B:bU) (f:FuncId) (n:Nat):AV->Env->St->Out:=λv env U'=>tA P (js P (cd P B n) n) (mW P f) env.defs (some v) env U'
def Fq:AV->St->Out:=λv U'=>some (.pan v,U')
noncomputable def pt (P:Program) (B:bU) (f:FuncId) (n:Nat) (p ms:List Nat) (env:Env) (U:St):Out:=
 descend P (pM P f) (cd P B n) n (Jd P B f n) (q7 P f) p ms ((mW P f).foldl (λm r=>m|||vB r) 0) (GG P B f n) env U
end Go.AM
end
section
namespace Go.AM
def gm (v:AV) (f:Bool->Out):Out:=match v with| .bool b=>f b|_=>none
def gY (k:IntKind) (v:AV) (f:Int->Out):Out:=match v with| .int k' n=>if k'=k then f n else none|_=>none
def jY (v:AV) (f:By->Out):Out:=match v with| .str s=>f s|_=>none
def xK (v:AV) (f:Ad->Out):Out:=match v with| .ptr a=>f a|_=>none
def gn (v:AV) (f:Ad->Nat->On->Nat->Out):Out:=match v with| .slice a n c s=>f a n c s|_=>none
def kQ (v:AV) (f:List AV->Out):Out:=match v with| .agg cs=>f cs|_=>none
def Cl (v:AV) (f:List AV->Out):Out:=match v with| .tuple cs=>f cs|_=>none
def jv (cs:List AV) (f:AV->List AV->Out):Out:=match cs with|x::r=>f x r| []=>none
def aY (cs:List AV) (x:Out):Out:=match cs with| []=>x|_=>none
def af (a:Ad) (f:Nat->Nat->Out):Out:=match a with|some (b,o)=>f b o|none=>none
inductive CK where
 |bool|int (k:IntKind)|str|ptr|sl|any
def CH:CK->AV->(AV->Out)->Out
 | .bool,v,k=>gm v λb=>k (.bool b)
 | .int i,v,k=>gY i v λn=>k (.int i n)
 | .str,v,k=>jY v λs=>k (.str s)
 | .ptr,v,k=>xK v λa=>k (.ptr a)
 | .sl,v,k=>gn v λa n c s=>k (.slice a n c s)
 | .any,v,k=>k v
def F6:List CK->List AV->(List AV->Out)->Out
 | [],cs,k=>aY cs (k [])
 |c::r,cs,k=>jv cs λx xs=>CH c x λx'=>F6 r xs λjw=>k (x'::jw)
def II:List (Option (List CK))->Option (List CK)
 | []=>some []
 |some l::r=>match II r with|some m=>some (l++m)|none=>none
 |none::_=>none
def EL (P:Program):Nat->TypeId->Option (List CK)
 |0,_=>none
 |d+1,t=>match P.underlying t with
  |some .bool=>some [.bool]
  |some (.int k)=>some [.int k]
  |some .string=>some [.str]
  |some (.pointer _)=>some [.ptr]
  |some (.slice _)=>some [.sl]
  |some (.struct fs)=>if aE P t<=12 then II (fs.toList.map λf=>EL P d f.type)else none
  |some (.array n e)=>if n*aE P e<=4 then II (bL n (EL P d e))else none
  |some _=>some [.any]
  |none=>none
def pc (P:Program) (t:TypeId) (v:AV) (k:AV->Out):Out:=
 match dz P t with
 |some true=>(match EL P 8 t with
  |some ks=>kQ v λcs=>F6 ks cs λau=>k (.agg au)
  |none=>kQ v λcs=>k (.agg cs))
 |some false=>(match EL P 8 t with
  |some [c]=>CH c v k
  |_=>k v)
 |none=>k v
def F8 (P:Program):List TypeId->List AV->(List AV->Out)->Out
 | [],cs,k=>aY cs (k [])
 |t::r,cs,k=>jv cs λx xs=>pc P t x λx'=>F8 P r xs λjw=>k (x'::jw)
def Ac (P:Program) (t:TypeId) (v:AV) (k:AV->Out):Out:=
 match P.underlying t with
 |some (.tuple ts)=>(match ts.toList with
  | []=>k v
  |ts=>Cl v λcs=>F8 P ts cs λau=>k (.tuple au))
 |_=>pc P t v k
def ao (i:Int) (n:Nat) (x:Out):Out:=if 0<=i/\i<n then x else none
def aI (P:Program) (t:TypeId) (U:St) (b off:Nat) (k:AV->Out):Out:=match aF U b with|some cs=>dY P t cs off k|none=>none
def zI (P:Program) (t:TypeId) (ys:List AV) (x:Out):Out:=if ys.length=aE P t/\(P.info? t).isSome=true then(if ys.all AV.one then x else none)else none
def Ra (ys:List AV) (x:Out):Out:=if ys.all AV.one then x else none
def QV (cs:List AV) (off:Nat) (ys:List AV) (f:List AV->Out):Out:=if off+ys.length<=cs.length then f (eA cs off ys)else none
def aT (U:St) (b off:Nat) (ys:List AV) (f:St->Out):Out:=
 match U[b]? with
 |some (.cells cs (.rw t))=>if off+ys.length<=cs.length then f (U.set b (.cells (eA cs off ys) (.rw t)))else none
 |_=>none
def GC (b:Int) (x:Out):Out:=if b=0 then none else x
def JD (b:Int) (x:Out):Out:=if b<0 then none else x
def xZ (a b:By) (f:By->Out):Out:=if a.length+b.length<=4611686018427387904 then f (a++b)else none
def ji (P:Program) (t:TypeId) (x y:AV) (f:Bool->Out):Out:=if ra P t then(match cu P 100 t x y with|some b=>f b|none=>none)else none
def cP (s:By) (i:Int) (f:UInt8->Out):Out:=if 0<=i then(match s[i.toNat]? with|some b=>f b|none=>none)else none
def lU (s:By) (l h:Int) (f:By->Out):Out:=if 0<=l/\l<=h/\h<=s.length then f ((s.take h.toNat).drop l.toNat)else none
def tH (a:Ad) (n:Nat) (c:On) (sz size:Nat) (l h:Int) (f:Ad->Nat->On->Out):Out:=
 match a with
 |none=>if 0<=l/\l<=h/\h<=(0:Nat)then f none 0 (some 0)else none
 |some (b,o)=>if sz=size then(if 0<=l/\l<=h/\h<=(c.getD n:Nat)then f (some (b,o+l.toNat*sz)) (h.toNat-l.toNat) (match c with|some c=>some (c-l.toNat)|none=>none)else none)else none
def om (U:St) (a:Ad) (n sz:Nat) (f:By->Out):Out:=
 match a with
 |none=>f []
 |some (b,o)=>if sz=1 then(match aF U b with
  |some cs=>if o+n<=cs.length then(match bytesOf ((cs.drop o).take n)with|some s=>f s|none=>none)else none
  |none=>none)else none
def xA (U:St) (a:Ad) (n sz size:Nat) (f:Nat->List AV->Out):Out:=
 match a with
 |none=>if n=0 then f 0 []else none
 |some (b,o)=>if sz=size then(match aF U b with
  |some cs=>if o+n*size<=cs.length then f n ((cs.drop o).take (n*size))else none
  |none=>none)else none
def dT (U:St) (e:TypeId) (size bytes:Nat) (a:Ad) (len sz n:Nat) (new:List AV) (f:Ad->Nat->On->St->Out):Out:=
 match a with
 |none=>if n=0 then f none 0 (some 0) U else
   if n*bytes<=140737488355328/\n<9223372036854775807 then f (some (U.length,0)) n none (U++[.cells new (.rw (.row e))])else none
 |some (b,o)=>if sz=size then(match U[b]? with
  |some (.cells cs (.rw t))=>if o+len*size<=cs.length then
    (if(len+n)*bytes<=140737488355328/\len+n<9223372036854775807 then
     f (some (U.length,0)) (len+n) none (U.set b .dead++[.cells ((cs.drop o).take (len*size)++new) (.rw (iq t e))])
    else none)else none
  |_=>none)else none
def lq (P:Program) (e:TypeId) (size:Nat) (l c:Int) (U:St) (f:St->Out):Out:=
 match zeroOf P e with
 |some z=>if z.cells.length=size/\(0<=l/\l<=c/\c<=140737488355328/\c.toNat*jh P e<=140737488355328)/\z.cells.all AV.one=true then
   f (U++[.cells (eT z.cells c.toNat) (.rw (.row e))])else none
 |none=>none
def rJ (P:Program) (e:TypeId) (size:Nat) (l c:Int) (U:St) (b:Nat) (f:St->Out):Out:=
 match zeroOf P e with
 |some z=>if z.cells.length=size/\(0<=l/\l<=c/\c<=140737488355328/\c.toNat*jh P e<=140737488355328)/\z.cells.all AV.one=true then
   ow U b (f (U.set b (.cells (eT z.cells c.toNat) (.rw (.row e)))))else none
 |none=>none
def KN (U:St) (b off size n:Nat) (l h:Int) (f:AV->Out):Out:=
 match aF U b with
 |some cs=>if off+n*size<=cs.length then(if 0<=l/\l<=h/\h<=n then f (.slice (some (b,off+l.toNat*size)) (h.toNat-l.toNat) (some (n-l.toNat)) size)else none)else none
 |none=>none
def Q6 (U:St) (b:Nat) (f:Int->Int->St->Out) (g:Out):Out:=
 match U[b]? with
 |some (.iter s pos)=>if pos<s.length then f pos (Utf8.decode ⟨s.toArray⟩ pos).1 (U.set b (.iter s (pos+(Utf8.decode ⟨s.toArray⟩ pos).2)))else g
 |_=>none
def UU (a:Ad) (c:On) (f:Int->Out):Out:=match a,c with|none,_=>f 0|some _,some c=>f c|_,_=>none
def Ai (U:St) (size:Nat) (a:Ad) (m sz n:Nat) (new:List AV) (f:Int->St->Out):Out:=
 match a with
 |none=>f 0 U
 |some (b,o)=>if sz=size then(match U[b]? with
  |some (.cells cs (.rw t))=>if o+min n m*size<=cs.length then f (min n m:Nat) (U.set b (.cells (eA cs o (new.take (min n m*size))) (.rw t)))else none
  |_=>none)else none
def adC (v:AV) (f:AV->Out):Out:=
 match v with
 | .ptr a=>af a λb o=>f (.ptr (some (b,o)))
 | .func (.func g) l c=>f (.func (.func g) l c)
 |_=>none
noncomputable def Gh (P:Program) (B:bU) (n:Nat) (x:AV) (name:String) (args:List AV) (U:St) (k:AV->St->Out):Out:=wh P (cd P B n) x name args U k Fq
def CQ (call:bU) (v:AV) (args:List AV) (U:St) (k:AV->St->Out) (kp:AV->St->Out):Out:=
 match v with
 | .func (.func jF) first captured=>ic call jF (first++args++captured) U k kp
 |_=>none
def ar (a b:Nat) (x:Out):Out:=if a=b then x else none
noncomputable def cW (P:Program) (B:bU) (n:Nat) (f:FuncId) (args:List AV) (U:St) (k:AV->St->Out):Out:=ic (cd P B n) f args U k Fq
noncomputable def ck (P:Program) (B:bU) (n:Nat) (f:FuncId) (args:List AV) (U:St) (k:AV->St->Out) (kp:AV->St->Out):Out:=ic (cd P B n) f args U k kp
noncomputable def UP (P:Program) (B:bU) (n:Nat) (v:AV) (args:List AV) (U:St) (k:AV->St->Out) (kp:AV->St->Out):Out:=CQ (cd P B n) v args U k kp
noncomputable def bC (P:Program) (B:bU) (n:Nat) (f:FuncId) (args:List AV) (u:Option AV) (U:St) (k:Option AV->St->Out):Out:=Am (js P (cd P B n) n) f args u U k
def qZ (ty:TypeId) (v:AV) (f:AV->Out) (g:Out):Out:=match v with| .nilIface=>g| .iface t y=>if t=ty then f y else g|_=>none
def F9 (P:Program) (x:TV) (ty:TypeId) (ok:Bool) (k:AV->Out):Out:=
 match P.underlying ty with
 |some (.interface _)=>none
 |some _=>(match x with
  | .v v=>(match ok with
   |true=>qZ ty v (λy=>pc P ty y λy=>k (.tuple [y,.bool true])) (match zeroOf P ty with|some z=>k (.tuple [z,.bool false])|none=>none)
   |false=>qZ ty v (λy=>pc P ty y k) none)
  |_=>none)
 |none=>none
def gF (P:Program) (kt et:TypeId) (U:St) (m:On) (key:AV) (k:AV->Bool->Out):Out:=jR P kt et U (.v (.map m)) key k
def kR (v:AV) (f:On->Out):Out:=match v with| .map m=>f m|_=>none
def IU (P:Program) (kt et:TypeId) (U:St) (m:TV) (key:AV) (k:AV->Bool->Out):Out:=
 match m with
 | .v v=>kR v λm=>gF P kt et U m key k
 |_=>none
noncomputable def Gi (P:Program) (B:bU) (n:Nat) (f:FuncId) (args:List AV) (U:St) (k:AV->Out):Out:=pU (cd P B n) f args U k
noncomputable def cZ (P:Program) (B:bU) (n:Nat) (f:FuncId) (args:List AV) (U:St) (k:AV->St->Out):Out:=ic (cd P B n) f args U k λ_ _=>none
noncomputable def su (P:Program) (B:bU) (n:Nat) (v:AV) (args:List AV) (U:St) (k:AV->St->Out):Out:=CQ (cd P B n) v args U k Fq
noncomputable def CP (P:Program) (B:bU) (n:Nat) (v:AV) (args:List AV) (U:St) (k:AV->St->Out):Out:=CQ (cd P B n) v args U k λ_ _=>none
def loadT (P:Program) (t:TypeId) (env:Env) (U:St) (a:TV) (k:AV->Out):Out:=
 match a with
 | .lp key off=>match eh env.locs key with|some cs=>dY P t cs off k|none=>none
 | .v (.ptr a)=>af a λb off=>aI P t U b off k
 | .gl g off=>yw U g λcs=>dY P t cs off k
 |_=>none
def storeT (P:Program) (t:TypeId) (env:Env) (U:St) (a:TV) (x:TV) (k:mu->St->Out):Out:=
 match x with
 | .v y=>zI P t y.cells (match a with
  | .lp key off=>(match eh env.locs key with|some cs=>QV cs off y.cells λau=>k (ft env.locs key au) U|none=>none)
  | .v (.ptr a)=>af a λb off=>aT U b off y.cells λU'=>k env.locs U'
  |_=>none)
 |_=>none
def CM (t:TypeId) (loc:Bool) (dst:Option Tmp) (env:Env) (U:St) (cs:List AV) (k:TV->Env->St->Out):Out:=
 Ra cs (match loc,dst with
  |true,some d=>k (.lp d 0) (env.pQ d cs) U
  |_,_=>k (.v (.ptr (some (U.length,0)))) env (U++[.cells cs (.rw (.box t))]))
def IC (op:BinOp) (k:IntKind) (a b:Int) (f:AV->Out):Out:=
 match op with
 | .quo=>GC b (f (.int k (k.wrap (a.tdiv b))))
 | .rem=>GC b (f (.int k (a.tmod b)))
 | .shl=>JD b (f (.int k (k.wrap (a*2^(min b.toNat k.bits)))))
 | .shr=>JD b (f (.int k (a.fdiv (2^(min b.toNat k.bits)))))
 |op=>match yX op k a b with|some r=>f r|none=>none
def Jz (op:BinOp) (a b:By) (f:AV->Out):Out:=
 match op with
 | .add=>xZ a b λs=>f (.str s)
 |op=>match zw op a b with|some r=>f r|none=>none
def Gb (P:Program) (op:BinOp) (t:TypeId) (x y:AV) (k:AV->Out):Out:=
 match x,y with
 | .int kx a,.int ky b=>if op=.shl\/op=.shr\/kx=ky then IC op kx a b k else none
 | .str a,.str b=>Jz op a b k
 |x,y=>match op with
  | .eql=>ji P t x y λb=>k (.bool b)
  | .neq=>ji P t x y λb=>k (.bool (!b))
  |_=>none
def CD (P:Program) (t:TypeId):Bool:=
 match P.underlying t with
 |some (.interface _)=>true
 |some (.map _ _)=>true
 |some (.func _ _ _)=>true
 |_=>false
def C2 (P:Program) (op:BinOp) (t:TypeId) (x y:AV) (k:AV->Out):Out:=
 match op with
 | .eql=>ji P t x y λb=>k (.bool b)
 | .neq=>ji P t x y λb=>k (.bool (!b))
 |_=>none
def Ga (P:Program) (op:BinOp) (t:TypeId) (x y:AV) (k:AV->Out):Out:=
 cond (CD P t) (C2 P op t x y k) (Gb P op t x y k)
def Gv (P:Program) (src dst:TypeId) (U:St) (x:AV) (k:AV->St->Out):Out:=
 match P.underlying src,P.underlying dst with
 |some _,some (.int kd)=>match x with| .int _ n=>k (.int kd (kd.wrap n)) U|_=>none
 |some (.slice e),some .string=>
  match P.underlying e with
  |some (.int .u8)=>match x with
   | .slice a n _ s=>om U a n s λbs=>k (.str bs) U
   |_=>none
  |_=>none
 |some _,some .string=>match x with| .str s=>k (.str s) U|_=>none
 |_,_=>none
def JF (P:Program) (t:TypeId) (x:TV) (lo hi:Option TV) (k:AV->Out):Out:=
 match P.underlying t with
 |some .string=>match x with
  | .v (.str s)=>gN hi s.length λh=>gN lo 0 λl=>lU s l h λr=>k (.str r)
  |_=>none
 |some (.slice e)=>match x with
  | .v (.slice a n c sz)=>gN hi n λh=>gN lo 0 λl=>tH a n c sz (aE P e) l h λa' n' c'=>k (.slice a' n' c' sz)
  |_=>none
 |_=>none
def vG (isStr:Bool) (env:Env) (U:St) (size:Nat) (x:TV) (k:Nat->List AV->Out):Out:=
 match isStr,x with
 |false,.ls key n=>match eh env.locs key with|some cs=>if n*size=cs.length then k n cs else none|none=>none
 |true,.v (.str s)=>if size=1 then k s.length (bH s)else none
 |false,.v (.slice a n _ sz)=>xA U a n sz size k
 |_,_=>none
def zX (e:TypeId) (size bytes:Nat) (U:St) (s:TV) (k:AV->St->Out) (n:Nat) (new:List AV):Out:=
 match s with
 | .v (.slice a len _ sz)=>dT U e size bytes a len sz n new λa' n' c' U'=>k (.slice a' n' c' size) U'
 |_=>none
def F2 (isStr:Bool) (e:TypeId) (size bytes:Nat) (env:Env) (U:St) (s x:TV) (k:AV->St->Out):Out:=
 vG isStr env U size x (zX e size bytes U s k)
def LS (size:Nat) (U:St) (d:TV) (k:Int->St->Out) (n:Nat) (new:List AV):Out:=
 match d with
 | .v (.slice a m _ sz)=>Ai U size a m sz n new k
 |_=>none
def CU (isStr:Bool) (env:Env) (U:St) (size:Nat) (d x:TV) (k:Int->St->Out):Out:=
 vG isStr env U size x (LS size U d k)
def F5 (size n:Nat) (U:St) (x:TV) (lo hi:Option TV) (k:AV->Out):Out:=
 match x with
 | .v (.ptr a)=>af a λb off=>gN hi n λh=>gN lo 0 λl=>KN U b off size n l h k
 |_=>none
def Gl (P:Program) (t:TypeId) (x:TV) (k:Int->Out):Out:=
 match P.underlying t with
 |some (.slice _)=>match x with| .v (.slice a _ c _)=>UU a c k|_=>none
 |some (.array n _)=>k n
 |_=>none
noncomputable def eC (P:Program) (lm:Nat) (call:bU) (env:Env) (U:St) (o:Oper) (k:TV->Env->St->Out) (kp:AV->Env->St->Out):Out:=
 let loc:Bool:=match o.dst with|some d=>lm.testBit d|none=>false
 let kv (x:AV):Out:=k (.v x) env U
 match o.op with
 | .alloc t=>match zeroOf P t with|some z=>CM t loc o.dst env U z.cells k|none=>none
 | .box t x=>match env.get x with| .v y=>CM t loc o.dst env U y.cells k|_=>none
 | .load t a=>loadT P t env U (env.get a) λv=>pc P t v kv
 | .store t a x=>storeT P t env U (env.get a) (env.get x) λls U'=>k .no {env with locs:=ls} U'
 | .nilCheck x=>match env.get x with
  | .lp key off=>k (.lp key off) env U
  | .gl g off=>k (.gl g off) env U
  | .v y=>adC y kv
  |_=>none
 | .binOp op t x y _=>match env.get x with
  | .v a=>match env.get y with| .v b=>cond (tD x y a b) (Ga P op t a b kv) none|_=>none
  |_=>none
 | .convert s d x=>match w8 P s d with
  |some e=>match env.get x with| .v (.str bs)=>k (.v (.slice (some (U.length,0)) bs.length none 1)) env (U++[.cells (bH bs) (.rw (.row e))])|_=>none
  |none=>match env.get x with| .v a=>Gv P s d U a λr U'=>k (.v r) env U'|_=>none
 | .slice t x lo hi none=>match w7 P t with
  |some (n,e)=>F5 (aE P e) n U (env.get x) (lo.map env.get) (hi.map env.get) kv
  |none=>JF P t (env.get x) (lo.map env.get) (hi.map env.get) kv
 | .makeSlice t l c=>fT (env.get l) λl=>fT (env.get c) λc=>match P.underlying t with
  |some (.slice e)=>match env.kI o.dst with
   |none=>lq P e (aE P e) l c U λU'=>k (.v (.slice (some (U.length,0)) l.toNat (some c.toNat) (aE P e))) env U'
   |some b=>rJ P e (aE P e) l c U b λU'=>k (.v (.slice (some (b,0)) l.toNat (some c.toNat) (aE P e))) env U'
  |_=>none
 | .next it true=>match env.get it with
  | .v (.ptr a)=>af a λb o=>ar o 0 (Q6 U b (λi r U'=>k (.v (.tuple [.bool true,.int .i64 i,.int .i32 r])) env U') (k (.v (.tuple [.bool false])) env U))
  |_=>none
 | .fieldAddr s x f=>match rj P s f with
  |some fl=>if aE P fl.type=0 then none else match env.get x with
   | .lp key off=>k (.lp key (off+fl.offset)) env U
   | .gl g off=>k (.gl g (off+fl.offset)) env U
   | .v (.ptr a)=>af a λb off=>kv (.ptr (some (b,off+fl.offset)))
   |_=>none
  |none=>none
 | .field s x f=>match rj P s f with
  |some fl=>match env.get x with| .v (.agg cs)=>dY P fl.type cs fl.offset λv=>pc P fl.type v kv|_=>none
  |none=>none
 | .indexAddr t x ix=>fT (env.get ix) λi=>
  match P.underlying t with
  |some (.array n e)=>ao i n (match env.get x with
    | .lp key off=>k (.lp key (off+i.toNat*aE P e)) env U
    | .gl g off=>k (.gl g (off+i.toNat*aE P e)) env U
    | .v (.ptr a)=>af a λb off=>kv (.ptr (some (b,off+i.toNat*aE P e)))
    |_=>none)
  |some (.slice e)=>match env.get x with
   | .ls key n=>ao i n (k (.lp key (i.toNat*aE P e)) env U)
   | .v (.slice a n _ sz)=>ao i n (af a λb off=>ar sz (aE P e) (kv (.ptr (some (b,off+i.toNat*aE P e)))))
   |_=>none
  |_=>none
 | .index t x ix=>fT (env.get ix) λi=>
  match P.underlying t with
  |some (.array n e)=>match env.get x with
   | .v (.agg cs)=>ao i n (dY P e cs (i.toNat*aE P e) λv=>pc P e v kv)
   |_=>none
  |some .string=>match env.get x with
   | .v (.str s)=>cP s i λb=>kv (.int .u8 b.toNat)
   |_=>none
  |_=>none
 | .call c=>
  match c.callee with
  | .value f=>match env.get f with
   | .v fv=>match gk (c.args.toList.map env.get)with
    |some args=>CQ call fv args U (λv U'=>Ac P o.type v λv=>k (.v v) env U') (λv U'=>kp v env U')
    |none=>none
   |_=>none
  | .invoke x name=>match env.get x with
   | .v xv=>match gk (c.args.toList.map env.get)with
    |some args=>wh P call xv name args U (λv U'=>Ac P o.type v λv=>k (.v v) env U') (λv U'=>kp v env U')
    |none=>none
   |_=>none
  | .builtin .append=>match c.argTypes.toList,c.args.toList with
   | [t,t2],[s,x]=>match P.underlying t with
    |some (.slice e)=>match P.underlying t2 with
     |some (.slice _)=>if oU P e then F2 false e (aE P e) (jh P e) env U (env.get s) (env.get x) λv U'=>k (.v v) env U' else none
     |some .string=>if oU P e then F2 true e (aE P e) (jh P e) env U (env.get s) (env.get x) λv U'=>k (.v v) env U' else none
     |_=>none
    |_=>none
   |_,_=>none
  | .builtin .cap=>match c.argTypes.toList,c.args.toList with
   |t::_,x::_=>Gl P t (env.get x) λn=>kv (.int .i64 n)
   |_,_=>none
  | .builtin .copy=>match c.argTypes.toList,c.args.toList with
   |t::t2::_,d::x::_=>match P.underlying t with
    |some (.slice e)=>match P.underlying t2 with
     |some (.slice _)=>if oU P e then CU false env U (aE P e) (env.get d) (env.get x) λn U'=>k (.v (.int .i64 n)) env U' else none
     |some .string=>if oU P e then CU true env U (aE P e) (env.get d) (env.get x) λn U'=>k (.v (.int .i64 n)) env U' else none
     |_=>none
    |_=>none
   |_,_=>none
  |_=>aw P lm call env U o k kp
 | .lookup t x ix ok=>match P.underlying t with
  |some (.map kt et)=>(match env.get ix with
   | .v key=>IU P kt et U (env.get x) key λv b=>pc P et v λv=>kv (cond ok (.tuple [v,.bool b]) v)
   |_=>none)
  |_=>none
 | .typeAssert x _ ty ok=>F9 P (env.get x) ty ok kv
 |_=>aw P lm call env U o k kp
noncomputable def Cm (P:Program) (lm:Nat) (call:bU) (env:Env) (U:St) (o:Oper) (k:TV->Env->St->Out) (kp:AV->Env->St->Out):Out:=
 match o.op with
 | .defer c=>match c.callee with
  | .value f=>match env.get f with
   | .v (.func (.func jF) first captured)=>match gk (c.args.toList.map env.get)with
    |some args=>k .no {env with defs:=(jF,first++args++captured)::env.defs} U
    |none=>none
   |_=>none
  |_=>none
 |_=>eC P lm call env U o k kp
def Le (x y:Out):Prop:=∀out,x=some out->y=some out
theorem Le.refl (x:Out):Le x x:=λ_ h=>h
theorem Le.bot (x:Out):Le none x:=λ_ h=>by cases h
theorem Le.of_eq {x y:Out} (h:x=y):Le x y:=h▸Le.refl x
theorem afD {s:On} {U:St} {o:aq} {f g:Nat->St->Out} (h:∀b U',Le (f b U') (g b U')):Le (mZ s U o f) (mZ s U o g):=by
 cases s with
 |none=>exact h _ _
 |some b=>
  simp only[mZ,ow];split
  ·exact h _ _
  ·exact Le.bot _
theorem Js {f g:Env->St->Out} (h:∀e U,Le (f e U) (g e U)):∀(ops:List Oper) (env:Env) (U:St),Le (vC ops env U f) (vC ops env U g)
 | [],_,_=>h _ _
 |o::r,env,U=>by
  unfold vC;cases IH o with
  |true=>exact Js h r _ _
  |false=>exact Js h r _ _
theorem afe {f g:Env->St->Out} (h:∀e U,Le (f e U) (g e U)) {ops:List Oper} {env:Env} {U:St}:Le (xx ops env U f) (xx ops env U g):=by
 unfold xx;cases ops.any IG with
 |true=>exact Js h ops _ _
 |false=>exact h _ _
section
variable {P:Program} {lm:Nat} {call:bU} {env:Env} {U:St}
theorem KU {c:CK} {v:AV} {k k':AV->Out} (h:∀v,Le (k v) (k' v)):Le (CH c v k) (k' v):=by
 cases c<;>cases v<;>first|exact h _|exact Le.bot _|skip
 simp only[CH,gY];split
 ·rename_i e;subst e;exact h _
 ·exact Le.bot _
theorem T3 {ks:List CK}:∀{cs:List AV} {k k':List AV->Out},(∀v,Le (k v) (k' v))->Le (F6 ks cs k) (k' cs):=by
 induction ks with
 |nil=>intro cs k k' h;cases cs<;>first|exact h _|exact Le.bot _
 |cons c r ih=>
  intro cs k k' h;cases cs with
  |nil=>exact Le.bot _
  |cons x xs=>exact KU (k':=λx=>k' (x::xs)) λx'=>ih (k':=λxs=>k' (x'::xs)) λjw=>h _
theorem uv {t:TypeId} {v:AV} {k k':AV->Out} (h:∀v,Le (k v) (k' v)):Le (pc P t v k) (k' v):=by
 unfold pc;split
 ·split
  ·cases v<;>first|exact Le.bot _|skip
   exact T3 (k':=λcs=>k' (.agg cs)) λcs=>h _
  ·cases v<;>first|exact Le.bot _|exact h _
 ·split
  ·exact KU h
  ·exact h _
 ·exact h _
theorem T4 {ts:List TypeId}:∀{cs:List AV} {k k':List AV->Out},(∀v,Le (k v) (k' v))->Le (F8 P ts cs k) (k' cs):=by
 induction ts with
 |nil=>intro cs k k' h;cases cs<;>first|exact h _|exact Le.bot _
 |cons t r ih=>
  intro cs k k' h;cases cs with
  |nil=>exact Le.bot _
  |cons x xs=>exact uv (k':=λx=>k' (x::xs)) λx'=>ih (k':=λxs=>k' (x'::xs)) λjw=>h _
theorem F7 {t:TypeId} {v:AV} {k k':AV->Out} (h:∀v,Le (k v) (k' v)):Le (Ac P t v k) (k' v):=by
 unfold Ac;split
 ·split
  ·exact h _
  ·cases v<;>first|exact Le.bot _|skip
   exact T4 (k':=λcs=>k' (.tuple cs)) λcs=>h _
 ·exact uv h
theorem Ji {t:TypeId} {cs:List AV} {off:Nat} {k k':AV->Out} (h:∀v,Le (k v) (k' v)):Le (dY P t cs off k) (dY P t cs off k'):=by
 unfold dY;split
 ·split
  ·exact h _
  ·exact Le.bot _
 ·split
  ·exact h _
  ·exact Le.bot _
 ·exact Le.bot _
theorem ac7 {t:TypeId} {a:TV} {k k':AV->Out} (h:∀v,Le (k v) (k' v)):Le (loadT P t env U a k) (qE P t env U a k'):=by
 unfold loadT qE
 repeat' (first|exact Ji h|exact Le.bot _|(split<;>try simp only[*,af,aI,yw]))
theorem af0 {t:TypeId} {a x:TV} {k k':mu->St->Out} (h:∀l s,Le (k l s) (k' l s)):Le (storeT P t env U a x k) (vK P t env U a x k'):=by
 cases x with
 |v y=>
  simp only[storeT,vK,zI];cases a with
  |lp key off=>
   simp only[QV];cases eh env.locs key with
   |none=>simp only;repeat' (first|exact Le.bot _|split)
   |some cs=>simp only;repeat' (first|exact h _ _|exact Le.bot _|split)
  |v x=>
   cases x with
   |ptr a=>
    cases a with
    |none=>simp only[af];repeat' (first|exact Le.bot _|split)
    |some p=>
     obtain⟨b,o⟩:=p;simp only[af,aT];split
     ·split
      ·cases hb:U[b]? with
       |none=>exact Le.bot _
       |some ob=>
        cases ob with
        |cells cs wr=>
         cases wr
         ·exact Le.bot _
         ·simp only;split
          ·exact h _ _
          ·exact Le.bot _
        |_=>exact Le.bot _
      ·exact Le.bot _
     ·exact Le.bot _
   |_=>simp only;repeat' (first|exact Le.bot _|split)
  |_=>simp only;repeat' (first|exact Le.bot _|split)
 |_=>exact Le.bot _
theorem Ld {ty:TypeId} {loc:Bool} {dst:Option Tmp} {cs:List AV} {k k':TV->Env->St->Out} (h:∀t e s,Le (k t e s) (k' t e s)):Le (CM ty loc dst env U cs k) (nr ty loc dst env U cs k'):=by
 unfold CM nr Ra;split
 ·cases loc<;>cases dst<;>exact h _ _ _
 ·exact Le.bot _
theorem abK {op:BinOp} {kx:IntKind} {a b:Int} {k k':AV->Out} (h:∀v,Le (k v) (k' v)):Le (IC op kx a b k) (match yX op kx a b with|some r=>k' r|none=>none):=by
 cases op<;>simp only[IC,yX,GC,JD]
 case quo=>by_cases hb:b=0<;>simp only[hb,if_true,if_false]<;>first|exact Le.bot _|exact h _
 case rem=>by_cases hb:b=0<;>simp only[hb,if_true,if_false]<;>first|exact Le.bot _|exact h _
 case shl=>by_cases hb:b<0<;>simp only[hb,if_true,if_false]<;>first|exact Le.bot _|exact h _
 case shr=>by_cases hb:b<0<;>simp only[hb,if_true,if_false]<;>first|exact Le.bot _|exact h _
 all_goals exact h _
theorem afn {op:BinOp} {a b:By} {k k':AV->Out} (h:∀v,Le (k v) (k' v)):Le (Jz op a b k) (match zw op a b with|some r=>k' r|none=>none):=by
 cases op<;>simp only[Jz,zw,xZ]
 case add=>by_cases hb:a.length+b.length<=4611686018427387904<;>simp only[hb,if_true,if_false]<;>first|exact Le.bot _|exact h _
 all_goals first|exact h _|exact Le.bot _
theorem VS {t:TypeId} {x y:AV} {k k':Bool->Out} (h:∀v,Le (k v) (k' v)):Le (ji P t x y k) (if ra P t then match cu P 100 t x y with|some b=>k' b|none=>none else none):=by
 unfold ji;split
 ·cases cu P 100 t x y with
  |none=>exact Le.bot _
  |some b=>exact h _
 ·exact Le.bot _
theorem Uj {op:BinOp} {t:TypeId} {x y:AV} {k k':AV->Out} (h:∀v,Le (k v) (k' v)):Le (Ga P op t x y k) (nk P op t x y k'):=by
 have e:Le (match op with
  | .eql=>ji P t x y λb=>k (.bool b)
  | .neq=>ji P t x y λb=>k (.bool (!b))
  |_=>none) (match op with
  | .eql=>if ra P t then match cu P 100 t x y with|some b=>k' (.bool b)|none=>none else none
  | .neq=>if ra P t then match cu P 100 t x y with|some b=>k' (.bool (!b))|none=>none else none
  |_=>none):=by
  cases op<;>first|exact VS (λb=>h _)|exact Le.bot _
 unfold Ga;cases ha:CD P t with
 |true=>
  show Le (C2 P op t x y k) _;have bot:(∀b,cu P 100 t x y≠some b)->Le (C2 P op t x y k) (nk P op t x y k'):=by
   intro hn;have abn:cu P 100 t x y=none:=by
    cases hq:cu P 100 t x y with
    |none=>rfl
    |some b=>exact absurd hq (hn b)
   have hk:∀f:Bool->Out,ji P t x y f=none:=by
    intro f;unfold ji;rw[abn];split<;>rfl
   unfold C2;cases op<;>simp only[hk]<;>exact Le.bot _
  cases x with
  |int kx a=>
   cases y with
   |int ky b=>
    refine bot λb he=>?_;unfold CD at ha;unfold cu at he;split at ha<;>first|(cases ha;done)|(rename_i hu;rw[hu]at he;cases he;done)
   |_=>exact e
  |str a=>
   cases y with
   |str b=>
    refine bot λb he=>?_;unfold CD at ha;unfold cu at he;split at ha<;>first|(cases ha;done)|(rename_i hu;rw[hu]at he;cases he;done)
   |_=>exact e
  |_=>exact e
 |false=>
  show Le (Gb P op t x y k) _;cases x with
  |int kx a=>
   cases y with
   |int ky b=>
    simp only[Gb,nk];split
    ·exact abK h
    ·exact Le.bot _
   |_=>exact e
  |str a=>
   cases y with
   |str b=>exact afn h
   |_=>exact e
  |_=>exact e
theorem agy {op:UnOp} {x:AV} {k k':AV->Out} (h:∀v,Le (k v) (k' v)):Le (tR op x k) (tR op x k'):=by
 unfold tR;split<;>first|exact h _|exact Le.bot _
theorem Vp {s d:TypeId} {x:AV} {k k':AV->St->Out} (h:∀v s,Le (k v s) (k' v s)):Le (Gv P s d U x k) (kj P s d U x k'):=by
 unfold Gv kj;cases P.underlying s with
 |none=>exact Le.bot _
 |some us=>
  cases P.underlying d with
  |none=>cases us<;>exact Le.bot _
  |some ud=>
   have num:∀(kd:IntKind) (y:AV),Le (match y with| .int _ n=>k (.int kd (kd.wrap n)) U|_=>none) (match y with| .int _ n=>k' (.int kd (kd.wrap n)) U|_=>none):=by
    intro kd y;cases y<;>first|exact h _ _|exact Le.bot _
   have st:∀y:AV,Le (match y with| .str s=>k (.str s) U|_=>none) (match y with| .str s=>k' (.str s) U|_=>none):=by
    intro y;cases y<;>first|exact h _ _|exact Le.bot _
   have sl:∀e:TypeId,Le (match P.underlying e with
     |some (.int .u8)=>(match x with
      | .slice a n _ s=>om U a n s λbs=>k (.str bs) U
      |_=>none)
     |_=>none) (match P.underlying e with
     |some (.int .u8)=>(match x with
      | .slice none _ _ _=>k' (.str []) U
      | .slice (some (b,o)) n _ 1=>(match aF U b with
       |some cs=>if o+n<=cs.length then match bytesOf ((cs.drop o).take n)with|some s=>k' (.str s) U|none=>none else none
       |none=>none)
      |_=>none)
     |_=>none):=?sl
   cases us<;>cases ud<;>first|exact num _ _|exact st _|exact sl _|exact Le.bot _
   case sl=>
   intro e;cases P.underlying e with
   |none=>exact Le.bot _
   |some ue=>
   cases ue<;>first|exact Le.bot _|skip
   rename_i kk;cases kk<;>first|exact Le.bot _|skip
   ·cases x with
    |slice a n c s=>
     cases a with
     |none=>exact h _ _
     |some p=>
      obtain⟨b,o⟩:=p;simp only[om];split
      ·rename_i hs;subst hs;simp only;cases aF U b with
       |none=>exact Le.bot _
       |some cs=>
        simp only;split
        ·cases bytesOf ((cs.drop o).take n)with
         |none=>exact Le.bot _
         |some s=>exact h _ _
        ·exact Le.bot _
      ·exact Le.bot _
    |_=>exact Le.bot _
theorem BZ {x:TV} {k k':Int->Out} (h:∀v,Le (k v) (k' v)):Le (fT x k) (fT x k'):=by
 unfold fT;split<;>first|exact h _|exact Le.bot _
theorem ux {x:Option TV} {d:Int} {k k':Int->Out} (h:∀v,Le (k v) (k' v)):Le (gN x d k) (gN x d k'):=by
 unfold gN;split
 ·exact BZ h
 ·exact h _
theorem Ge {x:Option TV} {d:Int}:gN x d (λ_=>none)=none:=by
 unfold gN fT;split
 ·split<;>rfl
 ·rfl
theorem afC {t:TypeId} {x:TV} {lo hi:Option TV} {k k':AV->Out} (h:∀v,Le (k v) (k' v)):Le (JF P t x lo hi k) (qM P t x lo hi k'):=by
 unfold JF qM;cases P.underlying t with
 |none=>exact Le.bot _
 |some u=>
  cases u<;>first|exact Le.bot _|skip
  ·cases x with
   |v x=>
    cases x<;>first|exact Le.bot _|skip
    refine ux λa=>ux λb=>?_;unfold lU;split
    ·exact h _
    ·exact Le.bot _
   |_=>exact Le.bot _
  ·cases x with
   |v x=>
    cases x<;>first|exact Le.bot _|skip
    rename_i a n c sz;cases a with
    |none=>
     refine ux λa=>ux λb=>?_;simp only[tH];split
     ·exact h _
     ·exact Le.bot _
    |some p=>
     obtain⟨b,o⟩:=p;simp only[tH];split
     ·refine ux λa=>ux λb=>?_;split
      ·exact h _
      ·exact Le.bot _
     ·simp only[Ge];exact Le.bot _
   |_=>exact Le.bot _
theorem Sw {isStr:Bool} {size:Nat} {x:TV} {k k':Nat->List AV->Out} (key:∀n new,Le (k n new) (k' n new)):Le (vG isStr env U size x k) (kJ isStr env U size x k'):=by
 cases isStr with
 |true=>
  cases x with
  |v x=>
   cases x with
   |str s=>
    simp only[vG,kJ];split
    ·exact key _ _
    ·exact Le.bot _
   |_=>exact Le.bot _
  |_=>exact Le.bot _
 |false=>
  cases x with
  |v x=>
   cases x with
   |slice a n c sz=>
    cases a with
    |none=>
     simp only[vG,xA];cases n with
     |zero=>rw[if_pos rfl];exact key _ _
     |succ n=>exact Le.bot _
    |some p=>
     obtain⟨b,o⟩:=p;simp only[vG,kJ,xA];split
     ·cases aF U b with
      |none=>exact Le.bot _
      |some cs=>
       simp only;split
       ·exact key _ _
       ·exact Le.bot _
     ·exact Le.bot _
   |_=>exact Le.bot _
  |ls IK n=>
   simp only[vG,kJ];cases eh env.locs IK with
   |none=>exact Le.bot _
   |some cs=>
    simp only;split
    ·exact key _ _
    ·exact Le.bot _
  |_=>exact Le.bot _
def CE (e:TypeId) (size bytes:Nat) (U:St) (s:TV) (k':AV->St->Out) (n:Nat) (new:List AV):Out:=
 match s with
  | .v (.slice none _ _ _)=>if n=0 then k' (.slice none 0 (some 0) size) U else
    if n*bytes<=140737488355328/\n<9223372036854775807 then k' (.slice (some (U.length,0)) n none size) (U++[.cells new (.rw (.row e))])else none
  | .v (.slice (some (b,o)) len _ sz)=>
   if sz=size then
    match U[b]? with
    |some (.cells cs (.rw t))=>
     if o+len*size<=cs.length then
      if(len+n)*bytes<=140737488355328/\len+n<9223372036854775807 then
       k' (.slice (some (U.length,0)) (len+n) none size) (U.set b .dead++[.cells ((cs.drop o).take (len*size)++new) (.rw (iq t e))])
      else none
     else none
    |_=>none
   else none
  |_=>none
theorem KE {isStr:Bool} {e:TypeId} {size bytes:Nat} {s x:TV} {k k':AV->St->Out} (h:∀v s,Le (k v s) (k' v s)):Le (F2 isStr e size bytes env U s x k) (pb isStr e size bytes env U s x k'):=by
 have key:∀n new,Le (zX e size bytes U s k n new) (CE e size bytes U s k' n new):=by
  intro n new;cases s with
  |v s=>
   cases s with
   |slice a len c sz=>
    cases a with
    |none=>
     simp only[zX,CE,dT]
     repeat' (first|exact h _ _|exact Le.bot _|split)
    |some p=>
     obtain⟨b,o⟩:=p;simp only[zX,CE,dT];split
     ·cases hb:U[b]? with
      |none=>exact Le.bot _
      |some ob=>
       cases ob with
       |cells cs wr=>
        cases wr
        ·exact Le.bot _
        ·simp only
         repeat' (first|exact h _ _|exact Le.bot _|split)
       |_=>exact Le.bot _
     ·exact Le.bot _
   |_=>exact Le.bot _
  |_=>exact Le.bot _
 show Le (vG isStr env U size x (zX e size bytes U s k)) (kJ isStr env U size x (CE e size bytes U s k'));exact Sw key
theorem qh {b:Bool} {x y x' y':Out} (h:Le x x') (g:Le y y'):Le (cond b x y) (cond b x' y'):=by cases b<;>assumption
theorem T2 {size n:Nat} {x:TV} {lo hi:Option TV} {k k':AV->Out} (h:∀v,Le (k v) (k' v)):Le (F5 size n U x lo hi k) (Aa size n U x lo hi k'):=by
 unfold F5 Aa;cases x with
 |v y=>
  cases y with
  |ptr a=>
   cases a with
   |none=>exact Le.bot _
   |some p=>
    obtain⟨b,off⟩:=p;simp only[af,KN];cases aF U b with
    |none=>simp only[Ge];exact Le.bot _
    |some cs=>
     simp only;split
     ·refine ux λa=>ux λb=>?_;split
      ·exact h _
      ·exact Le.bot _
     ·simp only[Ge];exact Le.bot _
  |_=>exact Le.bot _
 |_=>exact Le.bot _
theorem UW {t:TypeId} {x:TV} {k k':Int->Out} (h:∀v,Le (k v) (k' v)):Le (Gl P t x k) (match Ah P t x with|some n=>k' n|none=>none):=by
 unfold Gl Ah;cases P.underlying t with
 |none=>exact Le.bot _
 |some u=>
  cases u with
  |slice e=>
   cases x with
   |v y=>
    cases y with
    |slice a n c sz=>
     cases a with
     |none=>exact h _
     |some p=>cases c<;>first|exact h _|exact Le.bot _
    |_=>exact Le.bot _
   |_=>exact Le.bot _
  |array n e=>exact h _
  |_=>exact Le.bot _
theorem LO {isStr:Bool} {size:Nat} {d x:TV} {k k':Int->St->Out} (h:∀v s,Le (k v s) (k' v s)):Le (CU isStr env U size d x k) (qi isStr env U size d x k'):=by
 unfold CU qi;refine Sw λn new=>?_;unfold LS;cases d with
 |v y=>
  cases y with
  |slice a m c sz=>
   cases a with
   |none=>exact h _ _
   |some p=>
    obtain⟨b,o⟩:=p;simp only[Ai];split
    ·cases U[b]? with
     |none=>exact Le.bot _
     |some ob=>
      cases ob with
      |cells cs wr=>
       cases wr with
       |ro=>exact Le.bot _
       |rw t=>
        simp only;split
        ·exact h _ _
        ·exact Le.bot _
      |_=>exact Le.bot _
    ·exact Le.bot _
  |_=>exact Le.bot _
 |_=>exact Le.bot _
theorem Lo {f:FuncId} {args:List AV} {k k' kp qD:AV->St->Out} (h:∀v s,Le (k v s) (k' v s)) (hp:∀v s,Le (kp v s) (qD v s)):Le (ic call f args U k kp) (ic call f args U k' qD):=by
 unfold ic;split
 ·exact h _ _
 ·exact hp _ _
 ·exact Le.bot _
theorem adb {kt et:TypeId} {m:TV} {key:AV} {k k':AV->Bool->Out} (h:∀v b,Le (k v b) (k' v b)):Le (jR P kt et U m key k) (jR P kt et U m key k'):=by
 unfold jR;split
 ·split
  ·split
   ·exact h _ _
   ·exact Le.bot _
  ·split
   ·split
    ·exact h _ _
    ·split
     ·exact h _ _
     ·exact Le.bot _
    ·exact Le.bot _
   ·exact Le.bot _
  ·exact Le.bot _
 ·exact Le.bot _
theorem adf {kt et:TypeId} {m:TV} {key:AV} {k k':AV->Bool->Out} (h:∀v b,Le (k v b) (k' v b)):Le (IU P kt et U m key k) (jR P kt et U m key k'):=by
 unfold IU;split
 ·rename_i v;cases v<;>first|exact Le.bot _|exact adb h
 ·exact Le.bot _
theorem S4 {kt:TypeId} {m:TV} {key v:AV} {k k':St->Out} (h:∀s,Le (k s) (k' s)):Le (bY P kt U m key v k) (bY P kt U m key v k'):=by
 unfold bY;split
 ·split
  ·split
   ·split
    ·exact h _
    ·exact h _
    ·exact Le.bot _
   ·exact Le.bot _
  ·exact Le.bot _
 ·exact Le.bot _
theorem Ud {x:TV} {ty:TypeId} {ok:Bool} {k k':AV->Out} (h:∀v,Le (k v) (k' v)):Le (match x with
  | .v v=>(match ok with
   |true=>qZ ty v (λy=>pc P ty y λy=>k (.tuple [y,.bool true])) (match zeroOf P ty with|some z=>k (.tuple [z,.bool false])|none=>none)
   |false=>qZ ty v (λy=>pc P ty y k) none)
  |_=>none) (xX P x ty ok k'):=by
 unfold xX;cases x with
 |v y=>
  cases y with
  |nilIface=>
   cases ok
   ·exact Le.bot _
   ·simp only[qZ,cond];cases zeroOf P ty with
    |some z=>exact h _
    |none=>exact Le.bot _
  |iface t z=>
   cases ok
   ·simp only[qZ,cond];split
    ·exact uv h
    ·exact Le.bot _
   ·simp only[qZ,cond];split
    ·exact uv (k':=λy=>k' (.tuple [y,.bool true])) λv=>h _
    ·cases zeroOf P ty with
     |some z=>exact h _
     |none=>exact Le.bot _
  |_=>cases ok<;>exact Le.bot _
 |_=>exact Le.bot _
theorem Uc {x:TV} {ty:TypeId} {ok:Bool} {k k':AV->Out} (h:∀v,Le (k v) (k' v)):Le (F9 P x ty ok k) (qY P x ty ok k'):=by
 unfold F9 qY;cases P.underlying ty with
 |none=>exact Le.bot _
 |some d=>cases d<;>first|exact Le.bot _|exact Ud h
theorem Te {o:Oper} {k k':TV->Env->St->Out} {kp qD:AV->Env->St->Out} (h:∀t e s,Le (k t e s) (k' t e s)) (hp:∀v e s,Le (kp v e s) (qD v e s)):Le (eC P lm call env U o k kp) (aw P lm call env U o k' qD):=by
 cases ho:o.op with
 |alloc t=>
  simp only[eC,aw,ho];cases zeroOf P t with
  |some z=>exact Ld h
  |none=>exact Le.bot _
 |box t x=>
  simp only[eC,aw,ho];generalize env.get x=g;cases g<;>first|exact Ld h|exact Le.bot _
 |load t a=>
  simp only[eC,aw,ho];exact ac7 λv=>uv (k':=λv=>k' (.v v) env U) λv=>h _ _ _
 |store t a x=>
  simp only[eC,aw,ho];exact af0 λl s=>h _ _ _
 |nilCheck x=>
  simp only[eC,aw,ho];generalize env.get x=g;cases g with
  |lp key off=>exact h _ _ _
  |gl g off=>exact h _ _ _
  |v y=>
   cases y with
   |ptr a=>cases a<;>first|exact h _ _ _|exact Le.bot _
   |func fn l c=>cases fn<;>first|exact h _ _ _|exact Le.bot _
   |_=>exact Le.bot _
  |_=>exact Le.bot _
 |binOp op t x y t2=>
  simp only[eC,aw,ho];generalize env.get x=g;generalize env.get y=g';cases g<;>cases g'<;>first|exact qh (Uj (λv=>h _ _ _)) (Le.bot _)|exact Le.bot _
 |convert s d x=>
  simp only[eC,aw,ho];generalize env.get x=g;cases w8 P s d with
  |some e=>
   cases g with
   |v y=>cases y<;>first|exact h _ _ _|exact Le.bot _
   |_=>exact Le.bot _
  |none=>cases g<;>first|exact Vp (λv s=>h _ _ _)|exact Le.bot _
 |slice t x lo hi mx=>
  cases mx with
  |none=>
   simp only[eC,aw,ho];cases w7 P t with
   |none=>exact afC λv=>h _ _ _
   |some p=>exact T2 λv=>h _ _ _
  |some m=>simp only[eC,aw,ho];exact Le.bot _
 |fieldAddr s x f=>
  simp only[eC,aw,ho];cases rj P s f with
  |none=>exact Le.bot _
  |some fl=>
   simp only;split
   ·exact Le.bot _
   ·generalize env.get x=g;cases g with
    |lp key off=>exact h _ _ _
    |gl g off=>exact h _ _ _
    |v y=>
     cases y with
     |ptr a=>cases a<;>first|exact h _ _ _|exact Le.bot _
     |_=>exact Le.bot _
    |_=>exact Le.bot _
 |field s x f=>
  simp only[eC,aw,ho];cases rj P s f with
  |none=>exact Le.bot _
  |some fl=>
   generalize env.get x=g;cases g with
   |v y=>cases y<;>first|exact Ji (λv=>uv (k':=λv=>k' (.v v) env U) λv=>h _ _ _)|exact Le.bot _
   |_=>exact Le.bot _
 |indexAddr t x ix=>
  simp only[eC,aw,ho];refine BZ λi=>?_;generalize env.get x=g;cases P.underlying t with
  |none=>exact Le.bot _
  |some u=>
   cases u with
   |array n e=>
    simp only[ao];split
    ·cases g with
     |lp key off=>exact h _ _ _
     |gl g off=>exact h _ _ _
     |v y=>
      cases y with
      |ptr a=>cases a<;>first|exact h _ _ _|exact Le.bot _
      |_=>exact Le.bot _
     |_=>exact Le.bot _
    ·exact Le.bot _
   |slice e=>
    cases g with
    |ls key n=>
     simp only[ao];split
     ·exact h _ _ _
     ·exact Le.bot _
    |v y=>
     cases y with
     |slice a n c sz=>
      cases a with
      |none=>simp only[ao,af];split<;>exact Le.bot _
      |some p=>
       simp only[ao,af,ar];split
       ·split
        ·exact h _ _ _
        ·exact Le.bot _
       ·exact Le.bot _
     |_=>exact Le.bot _
    |_=>exact Le.bot _
   |_=>exact Le.bot _
 |index t x ix=>
  simp only[eC,aw,ho];refine BZ λi=>?_;generalize env.get x=g;cases P.underlying t with
  |none=>exact Le.bot _
  |some u=>
   cases u with
   |array n e=>
    cases g with
    |v y=>
     cases y with
     |agg cs=>
      simp only[ao];split
      ·exact Ji λv=>uv (k':=λv=>k' (.v v) env U) λv=>h _ _ _
      ·exact Le.bot _
     |_=>exact Le.bot _
    |_=>exact Le.bot _
   |string=>
    cases g with
    |v y=>
     cases y with
     |str s=>
      simp only[cP];split
      ·cases s[i.toNat]? with
       |none=>exact Le.bot _
       |some b=>exact h _ _ _
      ·exact Le.bot _
     |_=>exact Le.bot _
    |_=>exact Le.bot _
   |_=>exact Le.bot _
 |call c=>
  simp only[eC,aw,ho];cases c.callee with
  |value f=>
   simp only;generalize env.get f=g;cases g with
   |v fv=>
    cases gk (c.args.toList.map env.get)with
    |none=>
     cases fv with
     |func fn l c=>cases fn<;>exact Le.bot _
     |_=>exact Le.bot _
    |some args=>
     cases fv with
     |func fn l c=>
      cases fn<;>first|exact Le.bot _|exact Lo (λv s=>F7 (k':=λv=>k' (.v v) env s) λv=>h _ _ _) (λv s=>hp _ _ _)
     |_=>exact Le.bot _
   |_=>exact Le.bot _
  |invoke x name=>
   simp only;generalize env.get x=g;cases g with
   |v xv=>
    cases gk (c.args.toList.map env.get)with
    |none=>exact Le.bot _
    |some args=>
     simp only;unfold wh;cases xv with
     |iface t y=>
      simp only;cases ze P t name with
      |none=>exact Le.bot _
      |some f=>exact Lo (λv s=>F7 (k':=λv=>k' (.v v) env s) λv=>h _ _ _) (λv s=>hp _ _ _)
     |_=>exact Le.bot _
   |_=>exact Le.bot _
  |builtin b=>
   cases b with
   |append=>
    simp only;generalize c.argTypes.toList=l1;generalize c.args.toList=l2
    match l1,l2 with
    | [t,t2],[s,x]=>
     simp only;cases P.underlying t with
     |none=>exact Le.bot _
     |some u=>
      cases u with
      |slice e=>
       simp only;cases P.underlying t2 with
       |none=>exact Le.bot _
       |some u2=>
        cases u2 with
        |slice e2=>
         simp only;split
         ·exact KE λv s=>h _ _ _
         ·exact Le.bot _
        |string=>
         simp only;split
         ·exact KE λv s=>h _ _ _
         ·exact Le.bot _
        |_=>exact Le.bot _
      |_=>exact Le.bot _
    | [],_=>exact Le.bot _
    | [_],_=>exact Le.bot _
    |_::_::_::_,_=>exact Le.bot _
    | [_,_],[]=>exact Le.bot _
    | [_,_],[_]=>exact Le.bot _
    | [_,_],_::_::_::_=>exact Le.bot _
   |len=>
    simp only;generalize c.argTypes.toList=l1;generalize c.args.toList=l2;cases l1<;>cases l2<;>first|exact Le.bot _|skip
    simp only;generalize BU P _ _=q;cases q<;>first|exact h _ _ _|exact Le.bot _
   |min=>
    simp only;generalize c.args.toList.map env.get=l;cases l with
    |nil=>exact Le.bot _
    |cons g r=>
     cases g with
     |v y=>
      cases y with
      |int kx m=>
       simp only;cases tj r<;>first|exact h _ _ _|exact Le.bot _
      |_=>exact Le.bot _
     |_=>exact Le.bot _
   |max=>
    simp only;generalize c.args.toList.map env.get=l;cases l with
    |nil=>exact Le.bot _
    |cons g r=>
     cases g with
     |v y=>
      cases y with
      |int kx m=>
       simp only;cases tj r<;>first|exact h _ _ _|exact Le.bot _
      |_=>exact Le.bot _
     |_=>exact Le.bot _
   |cap=>
    simp only;generalize c.argTypes.toList=l1;generalize c.args.toList=l2;cases l1<;>cases l2<;>first|exact Le.bot _|skip
    exact UW λv=>h _ _ _
   |copy=>
    simp only;generalize c.argTypes.toList=l1;generalize c.args.toList=l2
    match l1,l2 with
    |t::t2::_,d::x::_=>
     simp only;cases P.underlying t with
     |none=>exact Le.bot _
     |some u=>
      cases u with
      |slice e=>
       simp only;cases P.underlying t2 with
       |none=>exact Le.bot _
       |some u2=>
        cases u2 with
        |slice e2=>
         simp only;split
         ·exact LO λv s=>h _ _ _
         ·exact Le.bot _
        |string=>
         simp only;split
         ·exact LO λv s=>h _ _ _
         ·exact Le.bot _
        |_=>exact Le.bot _
      |_=>exact Le.bot _
    | [],_=>exact Le.bot _
    | [_],_=>exact Le.bot _
    |_::_::_,[]=>exact Le.bot _
    |_::_::_,[_]=>exact Le.bot _
   |_=>exact Le.bot _
 |makeFunc fn first captured=>
  simp only[eC,aw,ho];cases fn with
  |func f=>
   simp only;cases gk (first.toList.map env.get)with
   |none=>exact Le.bot _
   |some l=>
    simp only;cases gk (captured.toList.map env.get)with
    |none=>exact Le.bot _
    |some c=>exact h _ _ _
  |_=>exact Le.bot _
 |makeSlice t l c=>
  simp only[eC,aw,ho];refine BZ λl=>BZ λc=>?_;unfold zh lq rJ;cases P.underlying t with
  |none=>exact Le.bot _
  |some u=>
   cases u with
   |slice e=>
    simp only;cases env.kI o.dst with
    |none=>
     simp only[mZ];cases zeroOf P e with
     |none=>exact Le.bot _
     |some z=>
      simp only;split
      ·exact h _ _ _
      ·exact Le.bot _
    |some b=>
     simp only[mZ,ow];cases zeroOf P e with
     |none=>exact Le.bot _
     |some z=>
      simp only;split
      ·split
       ·exact h _ _ _
       ·exact Le.bot _
      ·exact Le.bot _
   |_=>exact Le.bot _
 |range t x=>
  simp only[eC,aw,ho];cases P.underlying t with
  |none=>exact Le.bot _
  |some u=>
   cases u with
   |string=>
    simp only;generalize env.get x=g;cases g with
    |v y=>cases y<;>first|exact h _ _ _|exact Le.bot _
    |_=>exact Le.bot _
   |_=>exact Le.bot _
 |next it st=>
  cases st with
  |false=>simp only[eC,aw,ho];exact Le.bot _
  |true=>
   simp only[eC,aw,ho];generalize env.get it=g;cases g with
   |v y=>
    cases y with
    |ptr a=>
     cases a with
     |none=>exact Le.bot _
     |some p=>
      obtain⟨b,o⟩:=p;simp only[af,ar];split
      ·rename_i h0;subst h0;simp only[Q6,E9];cases U[b]? with
       |none=>exact Le.bot _
       |some ob=>
        cases ob with
        |iter s pos=>
         simp only;split<;>exact h _ _ _
        |_=>exact Le.bot _
      ·exact Le.bot _
    |_=>exact Le.bot _
   |_=>exact Le.bot _
 |unOp op t x=>
  simp only[eC,aw,ho];generalize env.get x=g;cases g<;>first|exact agy (λv=>h _ _ _)|exact Le.bot _
 |pick c x y=>
  simp only[eC,aw,ho];generalize env.get c=g;cases g with
  |v z=>
   cases z with
   |bool t=>cases t<;>exact h _ _ _
   |_=>exact Le.bot _
  |_=>exact Le.bot _
 |move x=>simp only[eC,aw,ho];exact h _ _ _
 |assign x=>simp only[eC,aw,ho];exact h _ _ _
 |build t parts=>
  simp only[eC,aw,ho];cases Af P t (parts.toList.map λp=>(p.1,env.get p.2))with
  |none=>exact Le.bot _
  |some x=>exact h _ _ _
 |buildSlice t n parts=>
  simp only[eC,aw,ho];cases P.underlying t with
  |none=>exact Le.bot _
  |some u=>
   cases u with
   |slice e=>
    simp only;cases zeroOf P e with
    |none=>exact Le.bot _
    |some z=>
     simp only;split
     ·generalize kq _ _ _=q;cases q with
      |none=>exact Le.bot _
      |some cs=>
       simp only;split
       ·cases o.dst with
        |none=>exact h _ _ _
        |some d=>
         simp only;cases lm.testBit d<;>exact h _ _ _
       ·exact Le.bot _
     ·exact Le.bot _
   |_=>exact Le.bot _
 |extract x i=>
  simp only[eC,aw,ho];generalize env.get x=g;cases g with
  |v y=>
   cases y with
   |tuple vs=>
    simp only;cases vs[i]? with
    |none=>exact Le.bot _
    |some z=>exact h _ _ _
   |_=>exact Le.bot _
  |_=>exact Le.bot _
 |makeInterface t x=>
  simp only[eC,aw,ho];generalize env.get x=g;cases g with
  |v y=>
   simp only;cases P.underlying t with
   |none=>exact Le.bot _
   |some u=>cases u<;>first|exact h _ _ _|exact Le.bot _
  |_=>exact Le.bot _
 |panic x=>
  simp only[eC,aw,ho];generalize env.get x=g;cases g with
  |v y=>cases y<;>first|exact hp _ _ _|exact Le.bot _
  |_=>exact Le.bot _
 |makeMap t r=>
  simp only[eC,aw,ho,zg];cases P.underlying t with
  |none=>exact Le.bot _
  |some u=>
   cases u with
   |map kt et=>
    simp only;split<;>first|exact afD λ_ _=>h _ _ _|exact Le.bot _
   |_=>exact Le.bot _
 |lookup t x ix b=>
  simp only[eC,aw,ho];cases P.underlying t with
  |none=>exact Le.bot _
  |some u=>
   cases u with
   |map kt et=>
    simp only;generalize env.get ix=g;cases g with
    |v key=>exact adf λv c=>uv (k':=λv=>k' (.v (cond b (.tuple [v,.bool c]) v)) env U) λv=>h _ _ _
    |_=>exact Le.bot _
   |_=>exact Le.bot _
 |mapUpdate t m ix x=>
  simp only[eC,aw,ho];cases P.underlying t with
  |none=>exact Le.bot _
  |some u=>
   cases u with
   |map kt et=>
    simp only;generalize env.get ix=g;generalize env.get x=g';cases g with
    |v key=>
     cases g' with
     |v y=>exact S4 λs=>h _ _ _
     |_=>exact Le.bot _
    |_=>exact Le.bot _
   |_=>exact Le.bot _
 |insert t m ix x=>
  simp only[eC,aw,ho];cases P.underlying t with
  |none=>exact Le.bot _
  |some u=>
   cases u with
   |map kt et=>
    simp only;generalize env.get ix=g;generalize env.get x=g';cases g with
    |v key=>
     cases g' with
     |v y=>exact S4 λs=>h _ _ _
     |_=>exact Le.bot _
    |_=>exact Le.bot _
   |_=>exact Le.bot _
 |typeAssert x t ty b=>simp only[eC,aw,ho];exact Uc λv=>h _ _ _
 |_=>simp only[eC,aw,ho];exact Le.bot _
theorem J4 {o:Oper} {k k':TV->Env->St->Out} {kp qD:AV->Env->St->Out} (h:∀t e s,Le (k t e s) (k' t e s)) (hp:∀v e s,Le (kp v e s) (qD v e s)):Le (Cm P lm call env U o k kp) (vR P lm call env U o k' qD):=by
 unfold Cm vR;cases ho:o.op with
 |defer c=>
  simp only;cases c.callee with
  |value f=>
   simp only;generalize env.get f=g;cases g with
   |v y=>
    cases y with
    |func fn l c2=>
     cases fn<;>first|exact Le.bot _|skip
     simp only;cases gk (c.args.toList.map env.get)with
     |none=>exact Le.bot _
     |some args=>exact h _ _ _
    |_=>exact Le.bot _
   |_=>exact Le.bot _
  |_=>exact Le.bot _
 |_=>exact Te h hp
noncomputable def rR (P:Program) (lm:Nat) (call:bU) (ops:Array Oper) (k:Env->St->Out) (kp:AV->Env->St->Out):List Oper->Env->St->Out
 | [],env,U=>k env U
 |o::r,env,U=>
  match o.guard with
  |none=>Cm P lm call env U o (λt cV U'=>rR P lm call ops k kp r (cV.put o.dst t) U') kp
  |some (j,want)=>
   match (ops[j]?).bind (·.dst)with
   |some d=>match env.tmps.getD d .no with
    | .v (.bool b)=>
     cond b
      (let e:Env:={env with tmps:=env.tmps.set d (.v (.bool true))}
       cond want (Cm P lm call e U o (λt cV U'=>rR P lm call ops k kp r (cV.put o.dst t) U') kp) (rR P lm call ops k kp r (e.put o.dst (.v (.tuple []))) U))
      (let e:Env:={env with tmps:=env.tmps.set d (.v (.bool false))}
       cond want (rR P lm call ops k kp r (e.put o.dst (.v (.tuple []))) U) (Cm P lm call e U o (λt cV U'=>rR P lm call ops k kp r (cV.put o.dst t) U') kp))
    | .v (.tuple [])=>rR P lm call ops k kp r (env.put o.dst (.v (.tuple []))) U
    |_=>none
   |none=>none
noncomputable def Cn (P:Program) (lm:Nat) (call:bU) (env:Env) (U:St) (o:Oper) (k:TV->Env->St->Out) (kp:AV->Env->St->Out):Out:=
 match pV P o with
 |some f=>(match o.op with
  | .call c=>(match gk (c.args.toList.map env.get)with
   |some args=>pU call f args U λv=>Ac P o.type v λv=>k (.v v) env U
   |none=>none)
  |_=>none)
 |none=>match oL P o with
  |some b=>(match o.op with
   | .insert _ _ _ x=>(match vh env o,env.get x with
    |some r,.v v=>nO b U r v λU'=>k .no env U'
    |_,_=>none)
   |_=>none)
  |none=>eC P lm call env U o k kp
theorem aeO {f:FuncId} {args:List AV} {k k':AV->Out} (h:∀v,Le (k v) (k' v)):Le (pU call f args U k) (pU call f args U k'):=by
 unfold pU;split
 ·split
  ·split
   ·exact h _
   ·exact Le.bot _
  ·exact Le.bot _
 ·exact Le.bot _
theorem J5 {o:Oper} {k k':TV->Env->St->Out} {kp qD:AV->Env->St->Out} (h:∀t e s,Le (k t e s) (k' t e s)) (hp:∀v e s,Le (kp v e s) (qD v e s)):Le (Cn P lm call env U o k kp) (kS P lm call env U o k' qD):=by
 unfold Cn kS;cases pV P o with
 |none=>
  cases oL P o with
  |none=>exact Te h hp
  |some b=>
   simp only;cases o.op with
   |insert t m ix x=>
    simp only;generalize vh env o=g1;generalize env.get x=g2;cases g1 with
    |none=>exact Le.bot _
    |some r=>
     cases g2 with
     |v y=>
      simp only[nO];cases mH b U[r]? with
      |true=>exact h _ _ _
      |false=>exact Le.bot _
     |_=>exact Le.bot _
   |_=>exact Le.bot _
 |some f=>
  simp only;cases o.op with
  |call c=>
   simp only;cases gk (c.args.toList.map env.get)with
   |none=>exact Le.bot _
   |some args=>exact aeO λv=>F7 (k':=λv=>k' (.v v) env U) λv=>h _ _ _
  |_=>exact Le.bot _
noncomputable def B9 (P:Program) (lm:Nat) (call:bU) (ops:Array Oper) (anc:List Nat) (k:Env->St->Out):Nat->List Oper->List (Nat×Oper×bN)->Env->St->Out
 |_,[],_,env,U=>k env U
 |i,o::r,acc,env,U=>
  let c:=aV P lm env o
  let K:TV->Env->St->Out:=λt cV U'=>dS (tq anc i (c.kG U U') acc) (B9 P lm call ops anc k (i+1) r (acc++[(i,o,c.kG U U')]) (cV.put o.dst t) U')
  cond (An lm ops anc i o r c acc&&mD P o)
   (lN (xm anc i c acc) (match o.guard with
   |none=>Cn P lm call env U o K (λ_ _ _=>none)
   |some (j,want)=>
    match (ops[j]?).bind (·.dst)with
    |some d=>match env.tmps.getD d .no with
     | .v (.bool b)=>
      cond b
       (let e:Env:={env with tmps:=env.tmps.set d (.v (.bool true))}
        cond want (Cn P lm call e U o K (λ_ _ _=>none)) (K (.v (.tuple [])) e U))
       (let e:Env:={env with tmps:=env.tmps.set d (.v (.bool false))}
        cond want (K (.v (.tuple [])) e U) (Cn P lm call e U o K (λ_ _ _=>none)))
     | .v (.tuple [])=>K (.v (.tuple [])) env U
     |_=>none
    |none=>none))
   none
theorem Jv {ops:Array Oper} {k k':Env->St->Out} {kp:AV->Env->St->Out} (hk:∀e s,Le (k e s) (k' e s)):∀(l:List Oper) (env:Env) (U:St),Le (rR P lm call ops k kp l env U) (nS P lm call ops k' kp l env U)
 | [],env,U=>hk _ _
 |o::r,env,U=>by
  have ih:=Jv (ops:=ops) (kp:=kp) hk r;unfold rR nS;cases o.guard with
  |none=>exact J4 (λt e s=>ih _ _) λ_ _ _=>Le.refl _
  |some g=>
   obtain⟨j,want⟩:=g;simp only;cases (ops[j]?).bind (·.dst)with
   |none=>exact Le.bot _
   |some d=>
    simp only;generalize env.tmps.getD d .no=g;cases g with
    |v y=>
     cases y with
     |bool b=>exact qh (qh (J4 (λt e s=>ih _ _) λ_ _ _=>Le.refl _) (ih _ _)) (qh (ih _ _) (J4 (λt e s=>ih _ _) λ_ _ _=>Le.refl _))
     |tuple l=>cases l<;>first|exact ih _ _|exact Le.bot _
     |_=>exact Le.bot _
    |_=>exact Le.bot _
theorem KB {x y:Out} (h:Le x y):∀l:List (Nat×Nat),Le (lN l x) (lN l y)
 | []=>h
 |(a,b)::r=>by
  unfold lN;split
  ·exact Le.bot _
  ·exact KB h r
theorem Qv {x y:Out} (h:Le x y):∀l:List Kp,Le (dS l x) (dS l y)
 | []=>h
 |(s,s',b)::r=>by
  unfold dS BO;split
  ·exact Qv h r
  ·exact Le.bot _
theorem RS {ops:Array Oper} {anc:List Nat} {k k':Env->St->Out} (hk:∀e s,Le (k e s) (k' e s)):∀(l:List Oper) (i:Nat) (acc:List (Nat×Oper×bN)) (env:Env) (U:St),Le (B9 P lm call ops anc k i l acc env U) (tK P lm call ops anc k' i l acc env U)
 | [],i,acc,env,U=>hk _ _
 |o::r,i,acc,env,U=>by
  have ih:=RS (ops:=ops) (anc:=anc) hk r;have y0 (t:TV) (e:Env) (s:St):Le (dS (tq anc i ((aV P lm env o).kG U s) acc) (B9 P lm call ops anc k (i+1) r (acc++[(i,o,(aV P lm env o).kG U s)]) (e.put o.dst t) s))
    (dS (tq anc i ((aV P lm env o).kG U s) acc) (tK P lm call ops anc k' (i+1) r (acc++[(i,o,(aV P lm env o).kG U s)]) (e.put o.dst t) s)):=Qv (ih _ _ _ _) _
  unfold B9 tK;refine qh (KB ?_ _) (Le.bot _);cases o.guard with
  |none=>exact J5 (λt e s=>y0 _ _ _) λ_ _ _=>Le.refl _
  |some g=>
   obtain⟨j,want⟩:=g;simp only;cases (ops[j]?).bind (·.dst)with
   |none=>exact Le.bot _
   |some d=>
    simp only;generalize env.tmps.getD d .no=g;cases g with
    |v y=>
     cases y with
     |bool b=>exact qh (qh (J5 (λt e s=>y0 _ _ _) λ_ _ _=>Le.refl _) (y0 _ _ _)) (qh (y0 _ _ _) (J5 (λt e s=>y0 _ _ _) λ_ _ _=>Le.refl _))
     |tuple l=>cases l<;>first|exact y0 _ _ _|exact Le.bot _
     |_=>exact Le.bot _
    |_=>exact Le.bot _
abbrev xO:=List Nat->List Nat->Env->St->Out
noncomputable def runT (P:Program) (lm:Nat) (call:bU) (n:Nat) (kp:AV->Env->St->Out) (L:xO) (stops:List (List Nat)):Code->List Nat->List Nat->Nat->(X->Env->St->Out)->Env->St->Out
 | .skip,_,_,_,k,env,U=>k .normal env U
 | .region _ ops draw,_,_,_,k,env,U=>
  cond draw (xx ops.toList env U λenv U=>cond (I2 lm ops.toList env.tmps&&x7 ops) (B9 P lm call ops (xW ops) (k .normal) 0 ops.toList [] env U) none) (rR P lm call ops (k .normal) kp ops.toList env U)
 | .seq a b,w,ms,live,k,env,U=>runT P lm call n kp L stops a (w++[0]) ms (live|||ew b) (λx env U=>match x with
  | .normal=>cond (stops.contains (w++[1])) (L (w++[1]) ms (cond (qB a) (env.clean (live|||ew b)) env) U) (runT P lm call n kp L stops b (w++[1]) ms live k (cond (qB a) (env.clean (live|||ew b)) env) U)
  |x=>k x env U) env U
 | .cond c a b,w,ms,live,k,env,U=>match env.get c with
  | .v (.bool t)=>cond t (runT P lm call n kp L stops a (w++[0]) ms live k (env.know c true) U) (runT P lm call n kp L stops b (w++[1]) ms live k (env.know c false) U)
  |_=>none
 | .block id b,w,ms,live,k,env,U=>runT P lm call n kp L stops b (w++[0]) ms live (λx env U=>match x with| .exit j=>if j=id then k .normal (env.clean live) U else k (.exit j) env U|x=>k x env U) env U
 | .loop b,w,ms,live,_,env,U=>L w (ms++[n]) (env.clean (live|||ew b)) U
 | .exit id,_,_,_,k,env,U=>k (.exit id) env U
 | .ret,_,_,_,k,env,U=>k .ret env U
 |_,_,_,_,_,_,_=>none
noncomputable def uE (P:Program) (lm:Nat) (call:bU) (n:Nat) (kp:AV->Env->St->Out) (L:xO) (stops:List (List Nat)):Code->List Nat->List Nat->List Nat->List Nat->Nat->(X->Env->St->Out)->Env->St->Out
 | .seq a b,0::p,w,ms,md,live,k,env,U=>uE P lm call n kp L stops a p (w++[0]) ms md (live|||ew b) (λx env U=>match x with
  | .normal=>cond (stops.contains (w++[1])) (L (w++[1]) md (cond (qB a) (env.clean (live|||ew b)) env) U) (runT P lm call n kp L stops b (w++[1]) md live k (cond (qB a) (env.clean (live|||ew b)) env) U)
  |x=>k x env U) env U
 | .seq _ b,1::p,w,ms,md,live,k,env,U=>uE P lm call n kp L stops b p (w++[1]) ms md live k env U
 | .cond _ a _,0::p,w,ms,md,live,k,env,U=>uE P lm call n kp L stops a p (w++[0]) ms md live k env U
 | .cond _ _ b,1::p,w,ms,md,live,k,env,U=>uE P lm call n kp L stops b p (w++[1]) ms md live k env U
 | .block id b,0::p,w,ms,md,live,k,env,U=>uE P lm call n kp L stops b p (w++[0]) ms md live (λx env U=>match x with| .exit j=>if j=id then k .normal (env.clean live) U else k (.exit j) env U|x=>k x env U) env U
 | .loop b,0::p,w,m::ms,md,live,k,env,U=>uE P lm call n kp L stops b p (w++[0]) ms (md++[m]) (live|||ew b)
   (λx cV U'=>match x with| .normal=>L w (md++[m]) (cV.clean (live|||ew b)) U'|x=>k x cV U') env U
 | .loop b,[],w,(m+1)::_,md,live,k,env,U=>runT P lm call n kp L stops b (w++[0]) (md++[m]) (live|||ew b)
   (λx cV U'=>match x with| .normal=>L w (md++[m]) (cV.clean (live|||ew b)) U'|x=>k x cV U') env U
 |c,[],w,[],md,live,k,env,U=>runT P lm call n kp L stops c w md live k env U
 |_,_,_,_,_,_,_,_,_=>none
theorem uF {n:Nat} {kp:AV->Env->St->Out} (c:Code) (live:Nat) (k:X->Env->St->Out) (env:Env) (U:St):descend P lm call n kp c [] [] live k env U=run P lm call n kp c live k env U:=by
 cases c<;>rfl
theorem R1 {n:Nat} {kp:AV->Env->St->Out} {L:xO} {stops:List (List Nat)} {a b:Code} {w ms:List Nat} {live:Nat} {k k':X->Env->St->Out} (hk:∀x e s,Le (k x e s) (k' x e s))
  (hL:∀env U,Le (L (w++[1]) ms env U) (run P lm call n kp b live k' env U)) (hb:∀env U,Le (runT P lm call n kp L stops b (w++[1]) ms live k env U) (run P lm call n kp b live k' env U)) (x:X) (env:Env) (U:St):
  Le (match x with
   | .normal=>cond (stops.contains (w++[1])) (L (w++[1]) ms (cond (qB a) (env.clean (live|||ew b)) env) U) (runT P lm call n kp L stops b (w++[1]) ms live k (cond (qB a) (env.clean (live|||ew b)) env) U)
   |x=>k x env U) (match x with| .normal=>run P lm call n kp b live k' (cond (qB a) (env.clean (live|||ew b)) env) U|x=>k' x env U):=by
 cases x with
 |normal=>
  simp only;cases stops.contains (w++[1])
  ·exact hb _ _
  ·exact hL _ _
 |_=>exact hk _ _ _
theorem K1 {id live:Nat} {k k':X->Env->St->Out} (hk:∀x e s,Le (k x e s) (k' x e s)) (x:X) (env:Env) (U:St):
  Le (match x with| .exit j=>if j=id then k .normal (env.clean live) U else k (.exit j) env U|x=>k x env U) (match x with| .exit j=>if j=id then k' .normal (env.clean live) U else k' (.exit j) env U|x=>k' x env U):=by
 cases x with
 |exit j=>
  simp only;split
  ·exact hk _ _ _
  ·exact hk _ _ _
 |_=>exact hk _ _ _
theorem tL {n:Nat} {kp:AV->Env->St->Out} {L:xO} {stops:List (List Nat)}:∀(c:Code) (w ms:List Nat) (live:Nat) (k k':X->Env->St->Out) (env:Env) (U:St),(∀x e s,Le (k x e s) (k' x e s))->
  (∀p' dL env U,Le (L (w++p') (ms++dL) env U) (descend P lm call n kp c p' dL live k' env U))->Le (runT P lm call n kp L stops c w ms live k env U) (run P lm call n kp c live k' env U):=by
 intro c
 induction c with
 |skip=>intro w ms live k k' env U hk _;exact hk _ _ _
 |region id ops draw=>
  intro w ms live k k' env U hk hI;unfold runT run;refine qh (afe λenv U=>qh ?_ (Le.bot _)) ?_
  ·exact RS (λe s=>hk _ _ _) _ _ _ _ _
  ·exact Jv (λe s=>hk _ _ _) _ _ _
 |seq a b w5 w6=>
  intro w ms live k k' env U hk hI;have hb:∀p' dL env U,Le (L (w++[1]++p') (ms++dL) env U) (descend P lm call n kp b p' dL live k' env U):=by
   intro p' dL env U;have:=hI (1::p') dL env U;rw[aO];exact this
  unfold runT run;refine w5 (w++[0]) ms _ _ _ env U (λx e s=>R1 hk (λenv U=>?_) (λenv U=>w6 _ _ _ _ _ _ _ hk hb) x e s) ?_
  ·have:=hb [] [] env U;rw[cg,cg,uF]at this;exact this
  ·intro p' dL env U;have:=hI (0::p') dL env U;rw[aO];exact this
 |cond c a b w5 w6=>
  intro w ms live k k' env U hk hI;have ha:∀p' dL env U,Le (L (w++[0]++p') (ms++dL) env U) (descend P lm call n kp a p' dL live k' env U):=by
   intro p' dL env U;have:=hI (0::p') dL env U;rw[aO];exact this
  have hb:∀p' dL env U,Le (L (w++[1]++p') (ms++dL) env U) (descend P lm call n kp b p' dL live k' env U):=by
   intro p' dL env U;have:=hI (1::p') dL env U;rw[aO];exact this
  unfold runT run;generalize env.get c=g;cases g with
  |v y=>
   cases y with
   |bool t=>exact qh (w5 _ _ _ _ _ _ _ hk ha) (w6 _ _ _ _ _ _ _ hk hb)
   |_=>exact Le.bot _
  |_=>exact Le.bot _
 |block id b ih=>
  intro w ms live k k' env U hk hI;unfold runT run;refine ih (w++[0]) ms live _ _ env U (λx e s=>K1 hk x e s) ?_;intro p' dL env U;have:=hI (0::p') dL env U;rw[aO];exact this
 |loop b ih=>
  intro w ms live k k' env U hk hI;have:=hI [] [n] (env.clean (live|||ew b)) U;rw[cg]at this;unfold runT run;exact this
 |exit id=>intro w ms live k k' env U hk _;exact hk _ _ _
 |ret=>intro w ms live k k' env U hk _;exact hk _ _ _
 |_=>intro w ms live k k' env U _ _;exact Le.bot _
theorem VJ {n:Nat} {kp:AV->Env->St->Out} {L:xO} {stops:List (List Nat)}:∀(c:Code) (p w ms md:List Nat) (live:Nat) (k k':X->Env->St->Out) (env:Env) (U:St),(∀x e s,Le (k x e s) (k' x e s))->
  (∀p' dL env U,Le (L (w++p') (md++dL) env U) (descend P lm call n kp c p' dL live k' env U))->
  Le (uE P lm call n kp L stops c p w ms md live k env U) (descend P lm call n kp c p ms live k' env U):=by
 intro c
 induction c with
 |seq a b w5 w6=>
  intro p w ms md live k k' env U hk hI;have hb:∀p' dL env U,Le (L (w++[1]++p') (md++dL) env U) (descend P lm call n kp b p' dL live k' env U):=by
   intro p' dL env U;have:=hI (1::p') dL env U;rw[aO];exact this
  cases p with
  |nil=>
   cases ms with
   |nil=>rw[uF];exact tL _ w md live k k' env U hk hI
   |cons m ms=>exact Le.bot _
  |cons i p=>
   match i with
   |0=>
    refine w5 p (w++[0]) ms md (live|||ew b) _ _ env U (λx e s=>R1 hk (λenv U=>?_) (λenv U=>tL b _ _ _ _ _ _ _ hk hb) x e s) ?_
    ·have:=hb [] [] env U;rw[cg,cg,uF]at this;exact this
    ·intro p' dL env U;have:=hI (0::p') dL env U;rw[aO];exact this
   |1=>exact w6 p (w++[1]) ms md live k k' env U hk hb
   |_+2=>exact Le.bot _
 |cond c a b w5 w6=>
  intro p w ms md live k k' env U hk hI;cases p with
  |nil=>
   cases ms with
   |nil=>rw[uF];exact tL _ w md live k k' env U hk hI
   |cons m ms=>exact Le.bot _
  |cons i p=>
   match i with
   |0=>
    refine w5 p (w++[0]) ms md live k k' env U hk ?_;intro p' dL env U;have:=hI (0::p') dL env U;rw[aO];exact this
   |1=>
    refine w6 p (w++[1]) ms md live k k' env U hk ?_;intro p' dL env U;have:=hI (1::p') dL env U;rw[aO];exact this
   |_+2=>exact Le.bot _
 |block id b ih=>
  intro p w ms md live k k' env U hk hI;cases p with
  |nil=>
   cases ms with
   |nil=>rw[uF];exact tL _ w md live k k' env U hk hI
   |cons m ms=>exact Le.bot _
  |cons i p=>
   match i with
   |0=>
    refine ih p (w++[0]) ms md live _ _ env U (λx e s=>K1 hk x e s) ?_;intro p' dL env U;have:=hI (0::p') dL env U;rw[aO];exact this
   |_+1=>exact Le.bot _
 |loop b ih=>
  intro p w ms md live k k' env U hk hI;have iJ:∀(m:Nat) (x:X) (env:Env) (U:St),Le (match x with| .normal=>L w (md++[m]) (env.clean (live|||ew b)) U|x=>k x env U)
    (match x with| .normal=>qF (live|||ew b) (λk env U=>run P lm call n kp b (live|||ew b) k env U) k' m (env.clean (live|||ew b)) U|x=>k' x env U):=by
   intro m x env U;cases x with
   |normal=>
    have:=hI [] [m] (env.clean (live|||ew b)) U;rw[cg]at this;exact this
   |_=>exact hk _ _ _
  have hb:∀m p' dL env U,Le (L (w++[0]++p') (md++[m]++dL) env U) (descend P lm call n kp (.loop b) (0::p') (m::dL) live k' env U):=by
   intro m p' dL env U;have:=hI (0::p') (m::dL) env U;rw[aO,aO];exact this
  cases p with
  |nil=>
   cases ms with
   |nil=>rw[uF];exact tL _ w md live k k' env U hk hI
   |cons m ms=>
    cases m with
    |zero=>exact Le.bot _
    |succ m=>exact tL b (w++[0]) (md++[m]) _ _ _ env U (λx e s=>iJ m x e s) (hb m)
  |cons i p=>
   match i with
   |0=>
    cases ms with
    |nil=>exact Le.bot _
    |cons m ms=>exact ih p (w++[0]) ms (md++[m]) (live|||ew b) _ _ env U (λx e s=>iJ m x e s) (hb m)
   |_+1=>exact Le.bot _
 |_=>
  intro p w ms md live k k' env U hk hI;cases p with
  |nil=>
   cases ms with
   |nil=>rw[uF];exact tL _ w md live k k' env U hk hI
   |cons m ms=>exact Le.bot _
  |cons i p=>exact Le.bot _
end
noncomputable def yy (P:Program) (B:bU) (f:FuncId) (n:Nat) (L:xO) (stops:List (List Nat)) (p ms:List Nat) (env:Env) (U:St):Out:=
 uE P (pM P f) (cd P B n) n (Jd P B f n) L stops (q7 P f) p [] ms [] ((mW P f).foldl (λm r=>m|||vB r) 0) (GG P B f n) env U
theorem D3 {P:Program} {B:bU} {f:FuncId} {n:Nat} {stops:List (List Nat)} {p ms:List Nat} {env:Env} {U:St} {x:Out} (h:yy P B f n (pt P B f n) stops p ms env U=x):Le x (pt P B f n p ms env U):=
 h▸VJ _ _ _ _ _ _ _ _ _ _ (λ_ _ _=>Le.refl _) (λ_ _ _ _=>Le.refl _)
theorem UL {P:Program} {B:bU} {f:FuncId} {n:Nat} {args:List AV} {U:St} {env:Env} (hB:B f args U=none) (h:(match P.funcs[f]? with|some fn=>fn.body.isSome|none=>false)=true)
  (he:env={tmps:=args.map .v++bL (zk P f-args.length) .no,locs:=[],defs:=[]}):cd P B (n+1) f args U=pt P B f n [] [] env U:=by
 subst he;unfold pt;rw[uF]
 conv=>lhs;unfold cd
 rw[hB];dsimp only;unfold q7 pM GG Jd mW zk;cases hf:P.funcs[f]? with
 |none=>rw[hf]at h;cases h
 |some fn=>
  rw[hf]at h;cases hb:fn.body with
  |none=>simp[hb]at h
  |some c=>simp only[hb,Option.getD];rfl
theorem aaK {P:Program} {B:bU} {f:FuncId} {n:Nat} {args:List AV} {stops:List (List Nat)} {env:Env} {U:St} {x:Out} (h:yy P B f n (pt P B f n) stops [] [] env U=x)
  (hB:B f args U=none) (hf:(match P.funcs[f]? with|some fn=>fn.body.isSome|none=>false)=true) (he:env={tmps:=args.map .v++bL (zk P f-args.length) .no,locs:=[],defs:=[]}):Le x (cd P B (n+1) f args U):=by
 rw[UL hB hf he];exact D3 h
noncomputable def RB:{g:Program->bU->FuncId->Nat->List Nat->List Nat->Env->St->Out//g=pt}:=Classical.choice ⟨⟨pt,rfl⟩⟩
noncomputable def pk:Program->bU->FuncId->Nat->List Nat->List Nat->Env->St->Out:=RB.1
theorem Fv:pk=pt:=RB.2
def tI (P:Program) (f:FuncId):X->Env->St->Out:=Ao P (mW P f)
def x8 (P:Program) (f:FuncId) (args:List AV):Env:={tmps:=args.map .v++bL (zk P f-args.length) .no,locs:=[],defs:=[]}
noncomputable def D2 (P:Program) (B:bU) (f:FuncId) (n:Nat) (args:List AV) (U:St):Out:=
 runT P (pM P f) (cd P B n) n (λ_ _ _=>none) (λ_ _ _ _=>none) [] (q7 P f) [] [] ((mW P f).foldl (λm r=>m|||vB r) 0) (tI P f) (x8 P f args) U
noncomputable def HC (P:Program) (B:bU) (f:FuncId) (n:Nat) (v:AV) (args:List AV) (U:St):Out:=
 match vv (q7 P f)with
 |some (ops,o,r,b)=>rR P (pM P f) (cd P B n) ops (λenv U=>runT P (pM P f) (cd P B n) n (λ_ _ _=>none) (λ_ _ _ _=>none) [] b [] [] ((mW P f).foldl (λm r=>m|||vB r) 0) (tI P f) env U)
   (λ_ _ _=>none) r ((x8 P f args).put o.dst (.v v)) U
 |none=>none
theorem HB {P:Program} {B:bU} {f:FuncId} {n:Nat} {args:List AV} {U U':St} {y:AV} (h:D2 P B f n args U=some (.ret y,U')) (hf:(match P.funcs[f]? with|some fn=>fn.body.isSome|none=>false)=true)
  (hr:(vv (q7 P f)).isNone=true) (u:Option AV):js P (cd P B n) n f args u U=some (u,U'):=by
 have hle:=tL (P:=P) (lm:=pM P f) (call:=cd P B n) (n:=n) (kp:=λ_ _ _=>none) (L:=λ_ _ _ _=>none) (stops:=[]) (q7 P f) [] [] ((mW P f).foldl (λm r=>m|||vB r) 0) (tI P f) (tI P f) (x8 P f args) U (λ_ _ _=>Le.refl _) (λ_ _ _ _=>Le.bot _) _ h;unfold js;unfold q7 pM mW x8 zk tI mW at hle;unfold q7 at hr;cases dU:P.funcs[f]? with
 |none=>rw[dU]at hf;cases hf
 |some fn=>
  rw[dU]at hf hle hr;cases hb:fn.body with
  |none=>simp[hb]at hf
  |some c=>
   simp only[hb,Option.getD]at hle hr;simp only[hb];cases sY:vv c with
   |some q=>rw[sY]at hr;cases hr
   |none=>
    simp only;unfold B6 sH;rw[hle]
theorem aaJ {P:Program} {B:bU} {f:FuncId} {n:Nat} {args:List AV} {U U':St} {y:AV} {u:Option AV} (h:HC P B f n (u.getD .nilIface) args U=some (.ret y,U')):js P (cd P B n) n f args u U=some (none,U'):=by
 unfold HC at h;split at h
 ·rename_i ops o r b sY;have hle:=Jv (P:=P) (lm:=pM P f) (call:=cd P B n) (ops:=ops) (kp:=λ_ _ _=>none)
   (k':=λenv U=>run P (pM P f) (cd P B n) n (λ_ _ _=>none) b ((mW P f).foldl (λm r=>m|||vB r) 0) (tI P f) env U)
   (λe s=>tL (P:=P) (lm:=pM P f) (call:=cd P B n) (n:=n) (kp:=λ_ _ _=>none) (L:=λ_ _ _ _=>none) (stops:=[]) b [] [] ((mW P f).foldl (λm r=>m|||vB r) 0) (tI P f) (tI P f) e s (λ_ _ _=>Le.refl _) (λ_ _ _ _=>Le.bot _)) r _ U _ h
  unfold js;unfold q7 at sY;unfold pM mW x8 zk tI mW at hle;cases dU:P.funcs[f]? with
  |none=>rw[dU]at sY;simp[vv]at sY
  |some fn=>
   rw[dU]at sY hle;cases hb:fn.body with
   |none=>simp[hb,vv]at sY
   |some c=>
    simp only[hb,Option.getD]at sY;simp only[hb];rw[sY];simp only;unfold B6 sH;simp only at hle;rw[hle]
 ·cases h
def tm:Nat->List (Nat×TV)->Nat->List TV
 |0,_,_=>[]
 |n+1,[],i=>.no::tm n [] (i+1)
 |n+1,(j,t)::r,i=>if j=i then t::tm n r (i+1)else .no::tm n ((j,t)::r) (i+1)
end Go.AM
end
section
namespace Go.AM
section
variable {P:Program} {B:bU} {U U':St}
theorem cT {α:Type} {x y:α}:cond true x y=x:=by simp
theorem cF {α:Type} {x y:α}:cond false x y=y:=by simp
theorem CT {α:Type} {b:Bool} {x y:α}:cond b x y=if b=true then x else y:=by cases b<;>simp
@[simp] theorem bp {b:Bool} {f:Bool->Out}:gm (.bool b) f=f b:=by simp only[gm]
@[simp] theorem ag {k:IntKind} {n:Int} {f:Int->Out}:gY k (.int k n) f=f n:=by simp[gY]
@[simp] theorem aG {s:By} {f:By->Out}:jY (.str s) f=f s:=by simp only[jY]
@[simp] theorem jX {a:Ad} {f:Ad->Out}:xK (.ptr a) f=f a:=by simp only[xK]
@[simp] theorem aS {a:Ad} {n:Nat} {c:On} {z:Nat} {f:Ad->Nat->On->Nat->Out}:gn (.slice a n c z) f=f a n c z:=by simp only[gn]
@[simp] theorem bK {cs:List AV} {f:List AV->Out}:kQ (.agg cs) f=f cs:=by simp only[kQ]
@[simp] theorem eY {cs:List AV} {f:List AV->Out}:Cl (.tuple cs) f=f cs:=by simp only[Cl]
@[simp] theorem bc {x:AV} {cs:List AV} {f:AV->List AV->Out}:jv (x::cs) f=f x cs:=by simp only[jv]
@[simp] theorem aZ {x:Out}:aY [] x=x:=by simp only[aY]
@[simp] theorem an {b o:Nat} {f:Nat->Nat->Out}:af (some (b,o)) f=f b o:=by simp only[af]
@[simp] theorem aU {a:Nat} {x:Out}:ar a a x=x:=by simp[ar]
theorem UO {n:Nat} {f:FuncId} {args:List AV} {v:AV} {k:AV->St->Out} (h:cd P B n f args U=some (.ret v,U')):cW P B n f args U k=k v U':=by
 unfold cW ic;rw[h]
theorem UN {n:Nat} {f:FuncId} {args:List AV} {v:AV} {k:AV->St->Out} (h:cd P B n f args U=some (.ret v,U')):cZ P B n f args U k=k v U':=by
 unfold cZ ic;rw[h]
theorem Lp {n:Nat} {f:FuncId} {args:List AV} {r:fH×St} (h:B f args U=some r):cd P B (n+1) f args U=some r:=by
 unfold cd;rw[h]
theorem bm {i:Int} {n:Nat} {x:Out} (h:0<=i/\i<n):ao i n x=x:=if_pos h
theorem Gm {a b:By} {f:By->Out} (h:a.length+b.length<=4611686018427387904):xZ a b f=f (a++b):=if_pos h
theorem uC {s:By} {l h:Int} {f:By->Out} (hc:0<=l/\l<=h/\h<=s.length):lU s l h f=f ((s.take h.toNat).drop l.toNat):=if_pos hc
theorem ib {s:By} {i:Int} {b:UInt8} {f:UInt8->Out} (h0:0<=i) (h:s[i.toNat]? =some b):cP s i f=f b:=by
 unfold cP;rw[if_pos h0,h]
theorem agK {t:TypeId} {ys:List AV} {x:Out} (h1:ys.length=aE P t) (h2:(P.info? t).isSome=true) (h3:ys.all AV.one=true):zI P t ys x=x:=by
 unfold zI;rw[if_pos ⟨h1,h2⟩,if_pos h3]
theorem qJ {t:TypeId} {cs:List AV} {off:Nat} {v:AV} {f:AV->Out} (ha:dz P t=some false) (h:cs[off]? =some v):dY P t cs off f=f v:=by
 unfold dY;rw[ha];simp only;rw[h]
theorem Ry {t:TypeId} {cs:List AV} {off s:Nat} {f:AV->Out} (ha:dz P t=some true) (hs:aE P t=s) (h:off+s<=cs.length):dY P t cs off f=f (.agg ((cs.drop off).take s)):=by
 subst hs;unfold dY;rw[ha];simp only;rw[if_pos h]
end
section
variable {α:Type} {enc:α->List AV} {s:Nat}
theorem R6:∀(ys xs zs:List AV) (off:Nat),off+ys.length<=xs.length->eA (xs++zs) off ys=eA xs off ys++zs
 | [],xs,zs,off,_=>rfl
 |y::ys,xs,zs,off,h=>by
  simp only[cr]at h;simp only[eA];rw[List.set_append_left _ _ (by omega)];exact R6 ys _ zs (off+1) (by simp;omega)
theorem R7:∀(ys xs zs:List AV) (off:Nat),eA (xs++zs) (xs.length+off) ys=xs++eA zs off ys
 | [],xs,zs,off=>rfl
 |y::ys,xs,zs,off=>by
  simp only[eA];rw[List.set_append_right _ _ (by omega),Nat.add_sub_cancel_left,eD];exact R7 ys xs _ (off+1)
theorem DY (hs:∀a,(enc a).length=s):∀l:List α,(l.flatMap enc).length=l.length*s
 | []=>by simp
 |a::l=>by rw[eU,az,hs,DY hs l,cr,jc,sg,uj]
theorem sL (hs:∀a,(enc a).length=s):∀{l:List α} {i j:Nat} {a:α},l[i]? =some a->j<s->(l.flatMap enc)[i*s+j]? =(enc a)[j]?
 |b::l,0,j,a,h,hj=>by
  simp at h;subst h;rw[eU,Nat.zero_mul,dI,bO (by rw[hs];exact hj)]
 |b::l,i+1,j,a,h,hj=>by
  simp at h;have:=sL hs h hj;rw[eU,bQ (by rw[hs,jc];omega),<-this,hs];congr 1;rw[jc];omega
theorem OP (hs:∀a,(enc a).length=s):∀{l:List α} {i:Nat} {a:α},l[i]? =some a->((l.flatMap enc).drop (i*s)).take s=enc a
 |b::l,0,a,h=>by
  simp at h;subst h;rw[Nat.zero_mul,List.drop_zero,eU,List.take_append_of_le_length (by rw[hs];exact aA _),<-hs b,List.take_length]
 |b::l,i+1,a,h=>by
  simp at h;rw[eU,jc,sg,uj (i*s) s];have e:(enc b++l.flatMap enc).drop (s+i*s)=(l.flatMap enc).drop (i*s):=by
   rw[<-hs b,List.drop_length_add_append]
  rw[e,OP hs h]
variable {P:Program}
theorem xr (hs:∀a,(enc a).length=s) {t:TypeId} {l:List α} {i off:Nat} {a:α} {f:AV->Out} (ha:dz P t=some true) (hz:aE P t=s) (h:l[i]? =some a) (ho:off=i*s):
  dY P t (l.flatMap enc) off f=f (.agg (enc a)):=by
 subst ho;have hi:=(bl.1 h).1;rw[Ry ha hz (by rw[DY hs,<-Nat.succ_mul];exact vX _ hi),OP hs h]
theorem R5:∀(ys cs:List AV),ys.length=cs.length->eA cs 0 ys=ys:=by
 have key:∀(ys pre cs:List AV),ys.length=cs.length->eA (pre++cs) pre.length ys=pre++ys:=by
  intro ys
  induction ys with
  |nil=>intro pre cs h;cases cs with|nil=>rfl|cons _ _=>simp at h
  |cons y ys ih=>
   intro pre cs h;cases cs with
   |nil=>simp at h
   |cons c cs=>
    simp only[eA];have e:(pre++c::cs).set pre.length y=(pre++[y])++cs:=by simp
    rw[e];have:=ih (pre++[y]) cs (by simpa using h);rw[az,List.length_singleton]at this;rw[this];simp
 intro ys cs h;exact key ys [] cs h
end
theorem wrap64 {x:Int} (h1:-9223372036854775808<=x) (h2:x<9223372036854775808):ah .i64 x=x:=by
 simp only[ah,IntKind.bits,IntKind.signed];have e1:(2:Int)^64=18446744073709551616:=rfl;have e2:(2:Int)^(64-1)=9223372036854775808:=rfl;simp only[Bool.true_and,decide_eq_true_eq,e1,e2];split<;>omega
end Go.AM
end
section
namespace Go.AM
open Go.ChangeShapes Go.WideShapes Go.ChangeAt Go.RowKit
section
variable {H:Type}
mutual
def mB:DataW H->List AV
 | .lit (.bool b)=>[.bool b]
 | .lit (.int k n)=>[.int k n]
 | .lit (.string s)=>[.str s]
 | .agg parts=>gM parts
 |_=>[]
def gM:List (DataW H)->List AV
 | []=>[]
 |d::r=>mB d++gM r
end
def rW {α β:Type} (R:α->β->Prop):List α->List β->Prop
 | [],[]=>True
 |a::ia,b::bs=>R a b/\rW R ia bs
 |_,_=>False
def uB (P:Program):List Field->Nat->Nat->Bool
 | [],off,vN=>off==vN
 |f::r,off,vN=>f.offset==off&&uB P r (off+P.cellsOf f.type) vN
def nw (P:Program):Nat->TypeId->Bool
 |0,_=>false
 |n+1,t=>match P.underlying t with
  |some .bool=>P.cellsOf t==1
  |some (.int _)=>P.cellsOf t==1
  |some .string=>P.cellsOf t==1
  |some (.struct fs)=>fs.toList.all (λf=>nw P n f.type)&&uB P fs.toList 0 (P.cellsOf t)
  |some (.array m e)=>nw P n e&&m*P.cellsOf e==P.cellsOf t
  |_=>false
def oW (P:Program):Nat->TypeId->DataW H->Prop
 |0,_,_=>False
 |n+1,t,d=>match P.underlying t with
  |some .bool=>∃b,d=.lit (.bool b)
  |some (.int k)=>∃i,d=.lit (.int k i)/\(Lit.int k i).wf=true
  |some .string=>∃s,d=.lit (.string s)/\s.length<=maxLen
  |some (.struct fs)=>∃ds,d=.agg ds/\rW (λ(f:Field) d=>oW P n f.type d) fs.toList ds
  |some (.array m e)=>∃ds,d=.agg ds/\ds.length=m/\∀x∈ds,oW P n e x
  |_=>False
theorem E5 {α β:Type} {f:α->Option β} {a:α} {l:List α} {r:List β} (h:(a::l).mapM f=some r):∃b bs,f a=some b/\l.mapM f=some bs/\r=b::bs:=by
 rw[List.mapM_cons]at h;simp only[bind,qa,pure]at h;obtain⟨b,hb,bs,wG,h⟩:=h;cases h;exact⟨b,bs,hb,wG,rfl⟩
theorem LM {P:Program}:∀(l:List Field) (off vN:Nat),uB P l off vN=true->off<=vN
 | [],off,vN,h=>by simp[uB]at h;omega
 |f::r,off,vN,h=>by
  simp only[uB,gH]at h;have:=LM r _ _ h.2;omega
section
variable {enc:TypeId×Value->H} {P:Program} {w:World} {base:Nat} {sp:Nat->Bool} {held:Bool} {V:aM}
def Cp (P:Program) (V:aM) (n:Nat) (t:TypeId) (cs:List Value) (d:DataW H) (ps:List MemPlace):Prop:=
 oW P n t d/\aQ V (mB d) cs/\ps=[]/\∀x∈mB d,x.one=true
theorem OO {n fuel:Nat} (ih:∀(t:TypeId) (cs:List Value) (d:DataW H) (ps:List MemPlace),nw P n t=true->cs.length=P.cellsOf t->qS enc P w base sp held fuel t cs=some (d,ps)->Cp P V n t cs d ps) {cs:List Value}:
  ∀(fl:List Field) (off:Nat) (xs:List (DataW H×List MemPlace)),uB P fl off cs.length=true->(fl.all λf=>nw P n f.type)=true->
   (fl.mapM λf=>qS enc P w base sp held fuel f.type ((cs.drop f.offset).take (P.cellsOf f.type)))=some xs->
   rW (λ(f:Field) d=>oW P n f.type d) fl (xs.map (·.1))/\aQ V (gM (xs.map (·.1))) (cs.drop off)/\xs.flatMap (·.2)=[]/\∀x∈gM (xs.map (·.1)),x.one=true
 | [],off,xs,hc,_,h=>by
  simp[uB]at hc;simp at h;subst h;exact⟨trivial,by simp[gM,hc];exact .nil,rfl,by simp[gM]⟩
 |f::r,off,xs,hc,hf,h=>by
  obtain⟨⟨d,p⟩,bs,h1,h2,rfl⟩:=E5 h;simp only[uB,gH,beq_iff_eq]at hc;simp only[List.all_cons,gH]at hf;have hle:=LM _ _ _ hc.2;rw[hc.1]at h1;obtain⟨a1,a2,a3,a4⟩:=ih f.type _ d p hf.1 (by simp;omega) h1;obtain⟨b1,b2,b3,b4⟩:=OO ih r _ bs hc.2 hf.2 h2;refine⟨⟨a1,b1⟩,?_,by simp[a3,b3],?_⟩
  ·have:=a2.append b2;rw[<-oX,List.take_append_drop]at this;simpa[gM]using this
  ·intro x hx;simp only[dO,gM,cX]at hx;rcases hx with hx|hx
   ·exact a4 x hx
   ·exact b4 x hx
theorem ON {n fuel:Nat} {e:TypeId} (ih:∀(cs:List Value) (d:DataW H) (ps:List MemPlace),cs.length=P.cellsOf e->qS enc P w base sp held fuel e cs=some (d,ps)->Cp P V n e cs d ps) {cs:List Value}:
  ∀(m k:Nat) (xs:List (DataW H×List MemPlace)),(k+m)*P.cellsOf e<=cs.length->
   ((fy k m).mapM λi=>qS enc P w base sp held fuel e ((cs.drop (i*P.cellsOf e)).take (P.cellsOf e)))=some xs->
   xs.length=m/\(∀d∈xs.map (·.1),oW P n e d)/\aQ V (gM (xs.map (·.1))) ((cs.drop (k*P.cellsOf e)).take (m*P.cellsOf e))/\xs.flatMap (·.2)=[]/\∀x∈gM (xs.map (·.1)),x.one=true
 |0,k,xs,hl,h=>by
  simp at h;subst h;exact⟨rfl,by simp,by simp[gM];exact .nil,rfl,by simp[gM]⟩
 |m+1,k,xs,hl,h=>by
  rw[List.range'_succ]at h;obtain⟨⟨d,p⟩,bs,h1,h2,rfl⟩:=E5 h;have e1:(k+1+m)*P.cellsOf e=(k+(m+1))*P.cellsOf e:=by congr 1;omega
  have e2:(k+(m+1))*P.cellsOf e=k*P.cellsOf e+m*P.cellsOf e+P.cellsOf e:=by rw[<-eD,jc,jc,sg]
  obtain⟨a1,a2,a3,a4⟩:=ih _ d p (by simp;omega) h1;obtain⟨b0,b1,b2,b3,b4⟩:=ON ih m (k+1) bs (by omega) h2;refine⟨by simp[b0],?_,?_,by simp[a3,b3],?_⟩
  ·intro x hx;simp only[dO,bS]at hx;rcases hx with rfl|hx
   ·exact a1
   ·exact b1 x hx
  ·have:=a2.append b2;have e3:(m+1)*P.cellsOf e=P.cellsOf e+m*P.cellsOf e:=by rw[jc,sg,uj]
   have e4:(k+1)*P.cellsOf e=k*P.cellsOf e+P.cellsOf e:=by rw[jc,sg]
   rw[e4,<-oX]at this;rw[e3,List.take_add];simpa[gM]using this
  ·intro x hx;simp only[dO,gM,cX]at hx;rcases hx with hx|hx
   ·exact a4 x hx
   ·exact b4 x hx
theorem yt:∀(n fuel:Nat) (t:TypeId) (cs:List Value) (d:DataW H) (ps:List MemPlace),
  nw P n t=true->cs.length=P.cellsOf t->qS enc P w base sp held fuel t cs=some (d,ps)->Cp P V n t cs d ps:=by
 intro n
 induction n with
 |zero=>intro fuel t cs d ps hf;simp[nw]at hf
 |succ n ih=>
  intro fuel t cs d ps hf hlen h;cases fuel with
  |zero=>simp[qS]at h
  |succ fuel=>
  unfold nw at hf;unfold qS at h;unfold Cp oW;cases hu:P.underlying t with
  |none=>rw[hu]at hf;cases hf
  |some desc=>
   rw[hu]at hf h;cases desc
   case bool=>
    simp only at h|-;split at h<;>first|(rename_i he;cases he;done)|(cases h;done)|skip
    rename_i b he;cases h;exact⟨⟨b,rfl⟩,.cons _ _ _ _ (.bool b) .nil,rfl,by simp[mB,AV.one]⟩
   case int k=>
    simp only at h|-;split at h<;>first|(rename_i he;cases he;done)|(cases h;done)|skip
    rename_i k1 k2 i he;cases he;split at h
    ·rename_i hc;obtain⟨rfl,hw⟩:=hc;cases h;exact⟨⟨i,rfl,hw⟩,.cons _ _ _ _ (.int _ i) .nil,rfl,by simp[mB,AV.one]⟩
    ·cases h
   case string=>
    simp only at h|-;split at h<;>first|(rename_i he;cases he;done)|(cases h;done)|skip
    rename_i s he;split at h
    ·rename_i hc;cases h;exact⟨⟨_,rfl,by simpa using hc⟩,.cons _ _ _ _ (.str s.data.toList) .nil,rfl,by simp[mB,AV.one]⟩
    ·cases h
   case struct fs=>
    simp only at h hf|-;simp only[gH]at hf;rw[if_pos hlen]at h
    ·simp only[my]at h;obtain⟨xs,ve,h⟩:=h;cases h;obtain⟨h1,h2,h3,h4⟩:=OO (V:=V) (ih fuel) fs.toList 0 xs (by rw[hlen];exact hf.2) hf.1 ve;exact⟨⟨_,rfl,h1⟩,by simpa[mB]using h2,h3,by simpa[mB]using h4⟩
   case array m e=>
    simp only at h hf|-;simp only[gH,beq_iff_eq]at hf;rw[if_pos hlen]at h
    ·simp only[my]at h;obtain⟨xs,ve,h⟩:=h;cases h;rw[List.range_eq_range']at ve;obtain⟨h0,h1,h2,h3,h4⟩:=ON (V:=V) (λcs d ps hl=>ih fuel e cs d ps hf.1 hl) m 0 xs (by rw[dI,hf.2];omega) ve;refine⟨⟨_,rfl,by simp[h0],h1⟩,?_,h3,by simpa[mB]using h4⟩;rw[hf.2,<-hlen]at h2;simpa[mB]using h2
   all_goals (simp at hf)
end
def aM.ro (V:aM):Prop:=∀b e,V b=some e->e.wr=false
theorem R.read {V:aM} {U:St} {w:World} (h:R V U w) (hr:V.ro) {e:gp} {cs:List AV} {au:Array Value} {ty:TypeId} {fr:Nat×Nat} (hw:e.wr=false) (hh:w.heap[e.blk]? =some (.cells au ty fr))
  (hc:eZ V cs au e.off) (hl:cs.length<=e.room) (hs:e.off+e.room<=au.size):
  R (V.push U.length e) (U++[.cells cs .ro]) w/\V.le (V.push U.length e)/\(V.push U.length e).ro/\V.push U.length e U.length=some e:=by
 have hf:=h.fresh;have hle:=aM.rQ (e:=e) hf;have old (b:Nat) (hb:b≠U.length):V.push U.length e b=V b:=by unfold aM.push;rw[if_neg hb]
 have new:V.push U.length e U.length=some e:=by unfold aM.push;rw[if_pos rfl]
 have wF:e.blk<w.heap.size:=by
  rcases gu e.blk w.heap.size with h'|h'
  ·exact h'
  ·rw[Array.getElem?_eq_none h']at hh;cases hh
 have nK:(V.push U.length e).ro:=by
  intro b e' hb;by_cases aP:b=U.length
  ·subst aP;rw[new]at hb;cases hb;exact hw
  ·rw[old b aP]at hb;exact hr b e' hb
 refine⟨⟨λb hb=>?_,λb e' hb=>?_,λb o' hb=>?_,λb1 b2 o1 o2 e1 e2 h1 h2 dC bW fS dj fY oE=>?_⟩,hle,nK,new⟩
 ·by_cases aP:b=U.length
  ·subst aP;simp
  ·rw[old b aP]at hb;have:=h.dom b hb;simp;omega
 ·by_cases aP:b=U.length
  ·subst aP;rw[new]at hb;cases hb;exact wF
  ·rw[old b aP]at hb;exact h.lt b e' hb
 ·by_cases aP:b=U.length
  ·subst aP;rw[bQ (aA _)]at hb;simp at hb;subst hb;exact .inl ⟨e,new,au,ty,fr,hh,hc.mono hle,hl,hs,λt h=>by cases h⟩
  ·have al:b<U.length:=by
    rcases gu b U.length with h'|h'
    ·exact h'
    ·rw[fP (by simp;omega)]at hb;cases hb
   rw[bO al]at hb;exact(h.obj_ b o' hb).imp (λ⟨e',bn,lg⟩=>⟨e',hle _ _ bn,lg.mono hle⟩) λ⟨h1,h2⟩=>⟨h1,by rw[old b aP];exact h2⟩
 ·have:=nK b1 e1 dC;rw[this]at fY;cases fY
theorem R.none (w:World):R (λ_=>none) [] w:=
 ⟨(λb h=>by cases h),(λb e h=>by cases h),(λb o h=>by simp at h),(λb b' o o' e e' h=>by simp at h)⟩
def B2 (P:Program) (n:Nat) (t:TypeId):Bool:=
 match P.underlying t with
 |some (.slice e)=>nw P n e&&decide (0<P.cellsOf e)
 |_=>nw P n t
def ly (P:Program) (n:Nat) (t:TypeId) (d:DataW H):Prop:=
 match P.underlying t with
 |some (.slice e)=>d=.nil\/∃elems spare,d=.slice elems spare/\elems.length<=maxLen/\∀x∈elems,oW P n e x
 |_=>oW P n t d
def gL (P:Program) (t:TypeId) (d:DataW H) (U:St):AV×St:=
 match P.underlying t with
 |some (.slice e)=>match d with
  | .slice elems _=>(.slice (some (U.length,0)) elems.length none (aE P e),U++[.cells (gM elems) .ro])
  |_=>(.slice none 0 (some 0) (aE P e),U)
 |some (.struct _)=>(.agg (mB d),U)
 |some (.array _ _)=>(.agg (mB d),U)
 |_=>((mB d).headD .nilFunc,U)
theorem agh (P:Program) (t:TypeId):aE P t=P.cellsOf t:=by
 unfold aE Program.cellsOf;cases P.info? t<;>rfl
section
variable {enc:TypeId×Value->H} {P:Program} {w:World} {V:aM} {U:St}
theorem Ja {xs:List AV} {v:Value} (h:aQ V xs [v]):∃x,xs=[x]/\aN V x v:=by
 cases h with
 |cons x _ xs _ h r=>cases r;exact⟨x,rfl,h⟩
theorem TS {n:Nat} {t:TypeId} {v:Value} {d:DataW H} {ps:List MemPlace} (hn:∀e,P.underlying t≠some (.slice e)) (hf:nw P n t=true) {b0:Nat} (hv:Value.okWide P w .any b0 t v)
  (h:DataW.Trod enc P w 0 (λ_=>true) true t v d ps):ly P n t d/\aN V (gL P t d U).1 v/\(gL P t d U).2=U:=by
 obtain⟨fuel,h⟩:=h;cases n with
 |zero=>simp[nw]at hf
 |succ n=>
 have Bq:=hf;unfold nw at hf;unfold Value.okWide at hv;cases hu:P.underlying t with
 |none=>rw[hu]at hf;cases hf
 |some desc=>
  rw[hu]at hf hv;cases desc
  case slice e=>exact absurd hu (hn e)
  case struct fs=>
   obtain⟨cs,rfl,hs,_⟩:=hv;obtain⟨h1,h2,_,_⟩:=yt (V:=V) (n+1) fuel t _ d ps Bq (by simpa[qe]using hs) h;exact⟨by simp only[ly,hu];exact h1,by simp only[gL,hu];exact .agg _ _ (by simpa[qe]using h2),by simp only[gL,hu]⟩
  case array m e=>
   obtain⟨cs,rfl,hs,_⟩:=hv;obtain⟨h1,h2,_,_⟩:=yt (V:=V) (n+1) fuel t _ d ps Bq (by simpa[qe]using hs) h;exact⟨by simp only[ly,hu];exact h1,by simp only[gL,hu];exact .agg _ _ (by simpa[qe]using h2),by simp only[gL,hu]⟩
  case bool=>
   simp only[Cell.okWide,hu,Cell.ok]at hv;split at hv<;>first|(cases hv;done)|skip
   all_goals first
    |(rename_i he;cases he;done)
    |skip
   all_goals
    (have hc:=yt (V:=V) (n+1) fuel t _ d ps Bq (by have sT:P.cellsOf t=1:=(by simpa using hf);simp[qe,sT]) h
     obtain⟨h1,h2,_,_⟩:=hc;obtain⟨x,hx,hr⟩:=Ja (by simpa[qe]using h2);exact⟨by simp only[ly,hu];exact h1,by simp only[gL,hu,hx];exact hr,by simp only[gL,hu]⟩)
  case int k=>
   simp only[Cell.okWide,hu,Cell.ok]at hv;split at hv<;>first|(cases hv;done)|skip
   all_goals first
    |(rename_i he;cases he;done)
    |skip
   all_goals
    (have hc:=yt (V:=V) (n+1) fuel t _ d ps Bq (by have sT:P.cellsOf t=1:=(by simpa using hf);simp[qe,sT]) h
     obtain⟨h1,h2,_,_⟩:=hc;obtain⟨x,hx,hr⟩:=Ja (by simpa[qe]using h2);exact⟨by simp only[ly,hu];exact h1,by simp only[gL,hu,hx];exact hr,by simp only[gL,hu]⟩)
  case string=>
   simp only[Cell.okWide,hu,Cell.ok]at hv;split at hv<;>first|(cases hv;done)|skip
   all_goals first
    |(rename_i he;cases he;done)
    |skip
   all_goals
    (have hc:=yt (V:=V) (n+1) fuel t _ d ps Bq (by have sT:P.cellsOf t=1:=(by simpa using hf);simp[qe,sT]) h
     obtain⟨h1,h2,_,_⟩:=hc;obtain⟨x,hx,hr⟩:=Ja (by simpa[qe]using h2);exact⟨by simp only[ly,hu];exact h1,by simp only[gL,hu,hx];exact hr,by simp only[gL,hu]⟩)
  all_goals (simp at hf)
theorem QZ {α β:Type} {f:α->Option β}:∀{l:List α} {r:List β},l.mapM f=some r->r.length=l.length/\∀(i:Nat) a,l[i]? =some a->∃b,r[i]? =some b/\f a=some b
 | [],r,h=>by simp at h;subst h;exact⟨rfl,by simp⟩
 |a::l,r,h=>by
  obtain⟨b,bs,h1,h2,rfl⟩:=E5 h;obtain⟨g1,g2⟩:=QZ h2;refine⟨by simp[g1],λi x hx=>?_⟩;cases i with
  |zero=>simp at hx;subst hx;exact⟨b,by simp,h1⟩
  |succ i=>simp at hx;obtain⟨y,hy,hf⟩:=g2 i x hx;exact⟨y,by simpa using hy,hf⟩
theorem Ma {n fuel:Nat} {e:TypeId} {a:Addr} (hf:nw P n e=true) (mO:a.spot=none) {cells:Array Value} {ty:TypeId} {fr:Nat×Nat} (hh:w.heap[a.block]? =some (.cells cells ty fr)):
  ∀(m k:Nat) (xs:List (DataW H×List MemPlace)),
   ((fy k m).mapM λi=>(w.cells? 0 (a.add (i*P.cellsOf e)) (P.cellsOf e)).bind (qS enc P w 0 (λ_=>true) true fuel e))=some xs->
   xs.length=m/\(∀d∈xs.map (·.1),oW P n e d)/\eZ V (gM (xs.map (·.1))) cells (a.off+k*P.cellsOf e)/\(gM (xs.map (·.1))).length=m*P.cellsOf e/\(0<m->0<P.cellsOf e->a.off+(k+m)*P.cellsOf e<=cells.size)
 |0,k,xs,h=>by
  simp at h;subst h;exact⟨rfl,by simp,(λi x hx=>by simp[gM]at hx),by simp[gM],λh=>absurd h (by omega)⟩
 |m+1,k,xs,h=>by
  rw[List.range'_succ]at h;obtain⟨⟨d,p⟩,bs,h1,h2,rfl⟩:=E5 h;simp only[qa]at h1;obtain⟨cs,bg,ht⟩:=h1;obtain⟨_,hl,hg⟩:=World.cells?_some bg;obtain⟨a1,a2,a3,a4⟩:=yt (V:=V) n fuel e cs d p hf hl ht;obtain⟨b0,b1,b2,b3,b4⟩:=Ma hf mO hh m (k+1) bs h2;have hlen:(mB d).length=P.cellsOf e:=by rw[a2.length,hl]
  have e4:(k+1)*P.cellsOf e=k*P.cellsOf e+P.cellsOf e:=by rw[jc,sg]
  have sO:∀i,i<P.cellsOf e->cells[a.off+k*P.cellsOf e+i]? =cs[i]?:=by
   intro i hi;have:=hg i hi;rw[<-this];have qq:(a.add (k*P.cellsOf e)).add i=⟨a.block,a.off+k*P.cellsOf e+i,none⟩:=by
    cases a with
    |mk b o sp=>
     simp at mO;subst mO;rw[addr_add,addr_add]
   rw[qq,cell_of_heap hh]
  refine⟨by simp[b0],?_,?_,?_,?_⟩
  ·intro x hx;simp only[dO,bS]at hx;rcases hx with rfl|hx
   ·exact a1
   ·exact b1 x hx
  ·intro i x hx;simp only[dO,gM]at hx;rcases gu i (mB d).length with hi|hi
   ·rw[bO hi]at hx;obtain⟨v,hv,hr⟩:=a2.get hx;exact⟨⟨v,by rw[sO i (by omega)];exact hv,hr⟩,a4 x (fF hx)⟩
   ·rw[bQ hi]at hx;obtain⟨⟨v,hv,hr⟩,ho⟩:=b2 _ x hx;refine⟨⟨v,?_,hr⟩,ho⟩;rw[e4]at hv;rw[<-hv];congr 1;omega
  ·simp only[dO,gM,az,b3,hlen];rw[jc,sg,uj]
  ·intro _ hp;have e5:(k+(m+1))*P.cellsOf e=(k+1)*P.cellsOf e+m*P.cellsOf e:=by rw[<-jc];congr 1;omega
   cases m with
   |zero=>
    have:=sO (P.cellsOf e-1) (by omega);have hx:cs[P.cellsOf e-1]? =some cs[P.cellsOf e-1]:=bk (by omega);rw[hx]at this;obtain⟨hb,_⟩:=qQ.1 this;rw[e5,e4];omega
   |succ m=>
    have:=b4 (by omega) hp;have e6:k+1+(m+1)=k+(m+1+1):=by omega
    rw[e6]at this;exact this
theorem TU {n:Nat} {t e:TypeId} {v:Value} {d:DataW H} {ps:List MemPlace} (hu:P.underlying t=some (.slice e)) (hf:nw P n e=true) (dR:0<P.cellsOf e) {b0:Nat} (hv:Value.okWide P w .any b0 t v)
  (h:DataW.Trod enc P w 0 (λ_=>true) true t v d ps) (hR:R V U w) (nK:V.ro):
  ∃V',ly P n t d/\R V' (gL P t d U).2 w/\V.le V'/\V'.ro/\aN V' (gL P t d U).1 v:=by
 obtain⟨fuel,h⟩:=h;cases fuel with
 |zero=>simp[qS]at h
 |succ fuel=>
 simp only[Value.okWide,hu,Cell.okWide,Cell.ok]at hv;unfold qS at h;rw[hu]at h;cases v<;>first|(simp at hv;done)|skip
 rename_i ad len cap;cases ad with
 |none=>
  cases len<;>cases cap<;>first|(simp at hv;done)|skip
  simp[qe]at h;obtain⟨rfl,rfl⟩:=h;exact⟨V,by simp[ly,hu],by simp only[gL,hu];exact hR,V.le_refl,nK,by simp only[gL,hu];exact .nslice _⟩
 |some a=>
  simp only at hv;obtain⟨sV,_,_,mO,row,cn,qw,_⟩:=hv;have abd:∃cells ty fr,w.heap[a.block]? =some (.cells cells ty fr):=by
   unfold World.shape? at qw;split at qw
   ·rename_i c el fr hh;exact⟨c,el,fr,hh⟩
   ·cases qw
  obtain⟨cells,ty,fr,hh⟩:=abd;simp only[qe,List.toList_toArray]at h;split at h
  ·rename_i hc;simp only[qa,my]at h;obtain⟨elems,he,rest,yN,h⟩:=h;cases h;rw[List.range_eq_range']at he;obtain⟨h0,h1,h2,h3,h4⟩:=Ma (V:=V) hf mO hh len 0 elems he;have yO:0<cap->a.off+cap*P.cellsOf e<=cells.size:=by
    intro gf;simp only[if_true]at yN;by_cases al:len=cap
    ·have:=h4 (by omega) dR;rw[dI,al]at this;exact this
    ·obtain⟨_,hg⟩:=QZ yN;obtain⟨b,_,hb⟩:=hg (cap-len-1) (cap-len-1) (by rw[List.getElem?_range (by omega)]);simp only[qa]at hb;obtain⟨cs,bg,_⟩:=hb;obtain⟨_,hl,HY⟩:=World.cells?_some bg;have h5:=HY (P.cellsOf e-1) (by omega);have qq:(a.add ((len+(cap-len-1))*P.cellsOf e)).add (P.cellsOf e-1)=⟨a.block,a.off+(len+(cap-len-1))*P.cellsOf e+(P.cellsOf e-1),none⟩:=by
      cases a with
      |mk b o sp=>
       simp at mO;subst mO;rw[addr_add,addr_add]
     rw[qq,cell_of_heap hh,bk (by omega)]at h5;obtain⟨bR,_⟩:=qQ.1 h5;have e1:len+(cap-len-1)=cap-1:=by omega
     rw[e1]at bR;have e2:cap*P.cellsOf e=(cap-1)*P.cellsOf e+P.cellsOf e:=by
      conv=>lhs;rw[show cap=cap-1+1 by omega]
      rw[jc,sg]
     rw[e2];omega
   rw[Nat.zero_mul,mw]at h2;have key:=hR.read (e:=⟨a.block,if cap=0 then 0 else a.off,cap*P.cellsOf e,false⟩) (cs:=gM (elems.map (·.1))) nK rfl hh
    (by
     by_cases ku:cap=0
     ·have:elems=[]:=by cases elems;rfl;simp at h0;omega
      subst this;intro i x hx;simp[gM]at hx
     ·simp only[if_neg ku];exact h2)
    (by rw[h3];exact vX _ sV)
    (by
     by_cases ku:cap=0
     ·simp[ku]
     ·simp only[if_neg ku];exact yO (by omega))
   obtain⟨k1,k2,k3,k4⟩:=key;refine⟨_,?_,by simp only[gL,hu];exact k1,k2,k3,?_⟩
   ·simp only[ly,hu];exact .inr ⟨_,_,rfl,by simp[h0];omega,h1⟩
   ·simp only[gL,hu,List.length_map,h0];refine .slice U.length 0 _ len none (aE P e) a cap k4 ⟨rfl,mO⟩ ?_ (by simp[agh]) (by simp) sV;intro gf;cases a with
    |mk b o sp=>
     simp at mO;subst mO;simp[Nat.ne_of_gt gf]
  ·cases h
def qf (P:Program):List TypeId->List (DataW H)->St->List AV×St
 |t::ts,d::ds,U=>((gL P t d U).1::(qf P ts ds (gL P t d U).2).1,(qf P ts ds (gL P t d U).2).2)
 |_,_,U=>([],U)
theorem KJ {n b0:Nat}:∀{ts:List TypeId} {vs:List Value} {ds:List (DataW H)} {ps:List MemPlace} {V:aM} {U:St},(∀t∈ts,B2 P n t=true)->
  (∀(j:Nat) t v,ts[j]? =some t->vs[j]? =some v->Value.okWide P w .any b0 t v)->tW enc P w 0 (λ_=>true) true ts vs ds ps->R V U w->V.ro->
  ∃V',rW (ly P n) ts ds/\R V' (qf P ts ds U).2 w/\V.le V'/\V'.ro/\aQ V' (qf P ts ds U).1 vs
 | [],[],[],_,V,U,_,_,_,hR,nK=>⟨V,trivial,hR,V.le_refl,nK,.nil⟩
 |t::ts,v::vs,d::ds,_,V,U,ht,hv,hT,hR,nK=>by
  obtain⟨p,q,h1,h2,_⟩:=hT;have yQ:=ht t (by simp);have rC:=hv 0 t v (by simp) (by simp);have key:∃V',ly P n t d/\R V' (gL P t d U).2 w/\V.le V'/\V'.ro/\aN V' (gL P t d U).1 v:=by
   unfold B2 at yQ;split at yQ
   ·rename_i e hu;simp only[gH,decide_eq_true_eq]at yQ;exact TU hu yQ.1 yQ.2 rC h1 hR nK
   ·rename_i hn;obtain⟨a1,a2,a3⟩:=TS (V:=V) (U:=U) (λe he=>hn e he) yQ rC h1;exact⟨V,a1,by rw[a3];exact hR,V.le_refl,nK,a2⟩
  obtain⟨V1,a1,a2,a3,a4,a5⟩:=key;obtain⟨V2,b1,b2,b3,b4,b5⟩:=KJ (λt h=>ht t (by simp[h])) (λj t v h h'=>hv (j+1) t v (by simpa using h) (by simpa using h')) h2 a2 a4;exact⟨V2,⟨a1,b1⟩,b2,aM.le_trans a3 b3,b4,.cons _ _ _ _ (a5.mono b3) b5⟩
 | [],_::_,_,_,_,_,_,_,h,_,_=>by simp[tW]at h
 |_::_,[],_,_,_,_,_,_,h,_,_=>by simp[tW]at h
 |_::_,_::_,[],_,_,_,_,_,h,_,_=>by simp[tW]at h
 | [],[],_::_,_,_,_,_,_,h,_,_=>by simp[tW]at h
theorem US {B:bU} {f:Nat} {fn:Func} (dU:P.funcs[f]? =some fn) (po:fn.body.isSome=true) {args:Array Value} {ts:List TypeId} {ds:List (DataW H)} {ps:List MemPlace} {k b0:Nat} (hP:fz P) (hB:kT P B) {U0:St} {V0:aM} (Bf:R V0 U0 w) (wQ:V0.ro) (ht:∀t∈ts,B2 P k t=true)
  (hv:∀(j:Nat) t v,ts[j]? =some t->args[j]? =some v->Value.okWide P w .any b0 t v) (hT:tW enc P w 0 (λ_=>true) true ts args.toList ds ps)
  (hc:rW (ly P k) ts ds->∃n U',cd P B n f (qf P ts ds U0).1 (qf P ts ds U0).2=some (.ret (.bool true),U')):
  Calls P f args w λe w'=>e=.returned (.bool true)/\Below w.heap.size w w':=by
 obtain⟨V,h1,h2,_,h4,h5⟩:=KJ ht (λj t v h h'=>hv j t v h (by simpa using h')) hT Bf wQ;obtain⟨n,U',hn⟩:=hc h1;obtain⟨_,eN⟩|⟨⟨fn2,wI,bR⟩,_⟩:=UM hP hB n _ _ _ _ hn
 rotate_left
 ·rw[dU]at wI;cases wI;rw[po]at bR;cases bR
 refine(eN V w args h2 h5).mono λe w' he=>?_;obtain⟨V',_,_,fL,v,rfl,hvr⟩:=he;cases hvr;exact⟨rfl,⟨fL.os,fL.tape,fL.output,fL.size,λk hk=>fL.bE k hk λb e hb hw=>by rw[h4 b e hb]at hw;cases hw⟩⟩
theorem SS:∀{ts:List TypeId} {vs:List Value} {ds:List (DataW H)} {ps:List MemPlace},tW enc P w 0 (λ_=>true) true ts vs ds ps->ds.length=ts.length
 | [],vs,ds,ps,h=>by obtain⟨rfl,rfl,rfl⟩:=trodAll_nil h;rfl
 |t::ts,vs,ds,ps,h=>by
  obtain⟨v,vs1,d,VO,a,b,rfl,rfl,rfl,h1,h2⟩:=trodAll_cons h;simp[SS h2]
theorem agu {ts:List TypeId} {w':World} (hl:laidOutB P=true) (hb:Below w.heap.size w w'):∀{vs:List Value} {ds:List (DataW H)} {ps:List MemPlace},(∀t∈ts,P.readableRec t=true/\t<P.types.size)->
  tW enc P w 0 (λ_=>true) true ts vs ds ps->(∀x∈ps,x.block<w.heap.size)->tW enc P w' 0 (λb=>decide (b<w.heap.size)) true ts vs ds ps:=by
 induction ts with
 |nil=>intro vs ds ps _ h _;obtain⟨rfl,rfl,rfl⟩:=trodAll_nil h;rfl
 |cons t ts ih=>
  intro vs ds ps ht h al;obtain⟨v,vs1,d,VO,a,b,rfl,rfl,rfl,h1,h2⟩:=trodAll_cons h;have:=ht t (by simp);exact⟨a,b,Below.trod hl this.1 this.2 h1 hb (λx hx=>al x (by simp[hx])),ih (λt h=>ht t (by simp[h])) h2 (λx hx=>al x (by simp[hx])),rfl⟩
end
end
theorem aax {H:Type} {P:Program} {n:Nat} {t:TypeId} {d:DataW H} (h:P.underlying t=some .string):oW P (n+1) t d↔∃s,d=.lit (.string s)/\s.length<=maxLen:=by
 simp only[oW,h]
end Go.AM
end
section
namespace Go.AM
open Go.RowKit
section
variable {P:Program} {V:aM} {U:St} {w w':World}
theorem Below.fr (hb:Below w.heap.size w w'):Fr V w w':=⟨hb.os,hb.tape,hb.output,hb.size,λk hk _=>hb.block k hk⟩
theorem R.below (h:R V U w) (hb:Below w.heap.size w w'):R V U w':=
 ⟨h.dom,λb e hm=>uk (h.lt b e hm) hb.size,λb o hs=>(h.obj_ b o hs).imp (λ⟨e,he,ho⟩=>⟨e,he,ho.carry (hb.block _ (h.lt b e he))⟩) id,h.inj⟩
theorem R.more (h:R V U w) (hb:Below w.heap.size w w') {o:aq} {e:gp} (h1:w.heap.size<=e.blk) (h2:e.blk<w'.heap.size) (ho:lH (V.push U.length e) w' o e):
  R (V.push U.length e) (U++[o]) w'/\Ext V (V.push U.length e) w:=by
 have hf:=h.fresh;have hle:=aM.rQ (e:=e) hf;have old (b:Nat) (hb:b≠U.length):V.push U.length e b=V b:=by unfold aM.push;rw[if_neg hb]
 have new:V.push U.length e U.length=some e:=by unfold aM.push;rw[if_pos rfl]
 refine⟨⟨λb hb=>?_,λb e' bZ=>?_,λb o' bZ=>?_,λb1 b2 o1 o2 e1 e2 mI uQ dC bW fS dj fY oE=>?_⟩,⟨hle,λb e' bZ hn=>?_⟩⟩
 ·by_cases aP:b=U.length
  ·subst aP;simp
  ·rw[old b aP]at hb;have:=h.dom b hb;simp;omega
 ·by_cases aP:b=U.length
  ·subst aP;rw[new]at bZ;cases bZ;exact h2
  ·rw[old b aP]at bZ;have:=h.lt b e' bZ;have:=hb.size;omega
 ·by_cases aP:b=U.length
  ·subst aP;rw[bQ (aA _)]at bZ;simp at bZ;subst bZ;exact .inl ⟨e,new,ho⟩
  ·have al:b<U.length:=by
    rcases gu b U.length with h'|h'
    ·exact h'
    ·rw[fP (by simp;omega)]at bZ;cases bZ
   rw[bO al]at bZ;exact(h.obj_ b o' bZ).imp (λ⟨e',bn,lg⟩=>⟨e',hle _ _ bn,(lg.mono hle).carry (hb.block _ (h.lt b e' bn))⟩) λ⟨h1,h2⟩=>⟨h1,by rw[old b aP];exact h2⟩
 ·have side (b:Nat) (o':aq) (e':gp) (bZ:(U++[o])[b]? =some o') (bn:V.push U.length e b=some e'):(b=U.length/\w.heap.size<=e'.blk)\/(b<U.length/\U[b]? =some o'/\V b=some e'/\e'.blk<w.heap.size):=by
   by_cases aP:b=U.length
   ·left;subst aP;rw[new]at bn;cases bn;exact⟨rfl,h1⟩
   ·right;have al:b<U.length:=by
     rcases gu b U.length with h'|h'
     ·exact h'
     ·rw[fP (by simp;omega)]at bZ;cases bZ
    rw[bO al]at bZ;rw[old b aP]at bn;exact⟨al,bZ,bn,h.lt b e' bn⟩
  rcases side b1 o1 e1 mI dC with⟨lX,gh⟩|⟨lX,iL,wM,gh⟩<;>rcases side b2 o2 e2 uQ bW with⟨bR,gi⟩|⟨bR,pF,dV,gi⟩
  ·omega
  ·omega
  ·omega
  ·exact h.inj b1 b2 o1 o2 e1 e2 iL pF wM dV fS dj fY oE
 ·left;by_cases aP:b=U.length
  ·subst aP;rw[new]at bZ;cases bZ;exact h1
  ·rw[old b aP,hn]at bZ;cases bZ
theorem sG (h:R V U w) (hb:Below w.heap.size w w') {x:AV} {v:Value} (hv:aN V x v):iX V w (.ret x,U) (.returned v) w':=
 ⟨V,h.below hb,Ext.refl _ _,Below.fr hb,v,rfl,hv⟩
theorem GH (h:R V U w) (hb:Below w.heap.size w w') {o:aq} {e:gp} (h1:w.heap.size<=e.blk) (h2:e.blk<w'.heap.size) (ho:lH (V.push U.length e) w' o e) {x:AV} {v:Value} (hv:aN (V.push U.length e) x v):
  iX V w (.ret x,U++[o]) (.returned v) w':=
 let⟨hR,hE⟩:=h.more hb h1 h2 ho;⟨_,hR,hE,Below.fr hb,v,rfl,hv⟩
theorem R.BQ (h:R V U w) {b g:Nat} {p:Obj->Prop} (hs:U[b]? =some (.know g p)):∃ob,w.heap[g]? =some ob/\p ob:=by
 obtain⟨e,_,ob,h1,h2,h3⟩:=h.obj b _ hs;subst h3;exact⟨ob,h1,h2⟩
theorem R.know (h:R V U w) (hr:V.ro) {g:Nat} {p:Obj->Prop} {ob:Obj} (hg:w.heap[g]? =some ob) (hp:p ob):
  R (V.push U.length ⟨g,0,0,false⟩) (U++[.know g p]) w/\(V.push U.length ⟨g,0,0,false⟩).ro:=by
 have hf:=h.fresh;have hle:=aM.rQ (e:=(⟨g,0,0,false⟩:gp)) hf;have old (b:Nat) (hb:b≠U.length):V.push U.length ⟨g,0,0,false⟩ b=V b:=by unfold aM.push;rw[if_neg hb]
 have new:V.push U.length ⟨g,0,0,false⟩ U.length=some ⟨g,0,0,false⟩:=by unfold aM.push;rw[if_pos rfl]
 have wF:g<w.heap.size:=(qQ.1 hg).1;have nK:(V.push U.length ⟨g,0,0,false⟩).ro:=by
  intro b e' hb;by_cases aP:b=U.length
  ·subst aP;rw[new]at hb;cases hb;rfl
  ·rw[old b aP]at hb;exact hr b e' hb
 refine⟨⟨λb hb=>?_,λb e' hb=>?_,λb o' hb=>?_,λb1 b2 o1 o2 e1 e2 h1 h2 dC bW fS dj fY oE=>?_⟩,nK⟩
 ·by_cases aP:b=U.length
  ·subst aP;simp
  ·rw[old b aP]at hb;have:=h.dom b hb;simp;omega
 ·by_cases aP:b=U.length
  ·subst aP;rw[new]at hb;cases hb;exact wF
  ·rw[old b aP]at hb;exact h.lt b e' hb
 ·by_cases aP:b=U.length
  ·subst aP;rw[bQ (aA _)]at hb;simp at hb;subst hb;exact .inl ⟨_,new,ob,hg,hp,rfl⟩
  ·have al:b<U.length:=by
    rcases gu b U.length with h'|h'
    ·exact h'
    ·rw[fP (by simp;omega)]at hb;cases hb
   rw[bO al]at hb;exact(h.obj_ b o' hb).imp (λ⟨e',bn,lg⟩=>⟨e',hle _ _ bn,lg.mono hle⟩) λ⟨h1,h2⟩=>⟨h1,by rw[old b aP];exact h2⟩
 ·have:=nK b1 e1 dC;rw[this]at fY;cases fY
end
end Go.AM
end
section
namespace Go.AM
structure Fu where
 n:Nat
 m1:Nat
 m2:Nat
 m3:Nat
def Fu.ge (u:Fu) (N:Nat):Prop:=N<=u.n/\N<=u.m1/\N<=u.m2/\N<=u.m3
theorem Fu.ge.mono {u:Fu} {N M:Nat} (h:u.ge N) (g:M<=N):u.ge M:=⟨ng g h.1,ng g h.2.1,ng g h.2.2.1,ng g h.2.2.2⟩
abbrev bw:=fH->St->Prop
def Wp (Q:bw) (F:Fu->Out):Prop:=∃N r U,Q r U/\∀u:Fu,u.ge N->F u=some (r,U)
def Fw (P:Program) (B:bU) (f:FuncId) (args:List AV) (U:St) (Q:bw):Prop:=Wp Q λu=>cd P B u.n f args U
section
variable {P:Program} {B:bU} {Q Q':bw} {U:St} {F G:Fu->Out}
theorem Wp.mono (h:Wp Q F) (hq:∀r U,Q r U->Q' r U):Wp Q' F:=let⟨N,r,U,h1,h2⟩:=h;⟨N,r,U,hq _ _ h1,h2⟩
theorem Fw.mono {f:FuncId} {args:List AV} (h:Fw P B f args U Q) (hq:∀r U,Q r U->Q' r U):Fw P B f args U Q':=Wp.mono h hq
theorem Wp.le (h:Wp Q F) (hl:∀u,Le (F u) (G u)):Wp Q G:=let⟨N,r,U,h1,h2⟩:=h;⟨N,r,U,h1,λu hu=>hl u _ (h2 u hu)⟩
theorem Wp.eq (h:Wp Q F) (hl:∀u,G u=F u):Wp Q G:=h.le λu=>Le.of_eq (hl u).symm
theorem Wp.ret {r:fH} (h:Q r U):Wp Q λ_=>some (r,U):=⟨0,r,U,h,λ_ _=>rfl⟩
theorem Fw.enter {f:FuncId} {args:List AV} {t:Nat->Out} (he:∀n,Le (t n) (cd P B (n+1) f args U)) (h:Wp Q λu=>t u.n):Fw P B f args U Q:=by
 obtain⟨N,r,U',h1,h2⟩:=h;refine⟨N+1,r,U',h1,λu hu=>?_⟩;obtain⟨n,hn⟩:∃n,u.n=n+1:=⟨u.n-1,by have:=hu.1;omega⟩
 show cd P B u.n f args U=_;rw[hn];exact he n _ (h2 ⟨n,n,n,n⟩ (by have:=hu.1;exact⟨by simp only;omega,by simp only;omega,by simp only;omega,by simp only;omega⟩))
theorem Fw.jP {f:FuncId} {args:List AV} {r:fH} {U':St} (h:B f args U=some (r,U')) (hq:Q r U'):Fw P B f args U Q:=by
 refine⟨1,r,U',hq,λu hu=>?_⟩;obtain⟨n,hn⟩:∃n,u.n=n+1:=⟨u.n-1,by have:=hu.1;omega⟩
 show cd P B u.n f args U=_;rw[hn];exact Lp h
theorem Wp.cD {F:Nat->Nat->Out} (h:Wp Q λu=>F u.n u.m1):Wp Q λu=>F u.n u.n:=by
 obtain⟨N,r,U,h1,h2⟩:=h;exact⟨N,r,U,h1,λu hu=>h2 ⟨u.n,u.n,u.m2,u.m3⟩ ⟨hu.1,hu.1,hu.2.2.1,hu.2.2.2⟩⟩
theorem Wp.yu {F:Nat->Nat->Nat->Out} (h:Wp Q λu=>F u.n u.m1 u.m2):Wp Q λu=>F u.n u.m1 u.n:=by
 obtain⟨N,r,U,h1,h2⟩:=h;exact⟨N,r,U,h1,λu hu=>h2 ⟨u.n,u.m1,u.n,u.m3⟩ ⟨hu.1,hu.2.1,hu.1,hu.2.2.2⟩⟩
theorem Wp.call {f:FuncId} {args:List AV} {Qf:bw} {k:Fu->AV->St->Out} (hf:Fw P B f args U Qf) (hk:∀v U',Qf (.ret v) U'->Wp Q λu=>k u v U') (hp:∀v U',Qf (.pan v) U'->Q (.pan v) U'):
  Wp Q λu=>cW P B u.n f args U (k u):=by
 obtain⟨N,r,U',h1,h2⟩:=hf;cases r with
 |ret v=>
  obtain⟨M,r2,U2,g1,g2⟩:=hk v U' h1;refine⟨max N M,r2,U2,g1,λu hu=>?_⟩;show cW P B u.n f args U (k u)=_;rw[UO (h2 u (hu.mono (Nat.le_max_left _ _)))];exact g2 u (hu.mono (Nat.le_max_right _ _))
 |pan v=>
  refine⟨N,.pan v,U',hp v U' h1,λu hu=>?_⟩;show ic (cd P B u.n) f args U (k u) Fq=_;unfold ic;rw[show cd P B u.n f args U=some (.pan v,U')from h2 u hu];rfl
theorem Wp.di {f:FuncId} {args:List AV} {Qf:bw} {k kp:Fu->AV->St->Out} (hf:Fw P B f args U Qf) (hk:∀v U',Qf (.ret v) U'->Wp Q λu=>k u v U') (hp:∀v U',Qf (.pan v) U'->Wp Q λu=>kp u v U'):
  Wp Q λu=>ck P B u.n f args U (k u) (kp u):=by
 obtain⟨N,r,U',h1,h2⟩:=hf;cases r with
 |ret v=>
  obtain⟨M,r2,U2,g1,g2⟩:=hk v U' h1;refine⟨max N M,r2,U2,g1,λu hu=>?_⟩;show ic (cd P B u.n) f args U (k u) (kp u)=_;unfold ic;rw[show cd P B u.n f args U=some (.ret v,U')from h2 u (hu.mono (Nat.le_max_left _ _))];exact g2 u (hu.mono (Nat.le_max_right _ _))
 |pan v=>
  obtain⟨M,r2,U2,g1,g2⟩:=hp v U' h1;refine⟨max N M,r2,U2,g1,λu hu=>?_⟩;show ic (cd P B u.n) f args U (k u) (kp u)=_;unfold ic;rw[show cd P B u.n f args U=some (.pan v,U')from h2 u (hu.mono (Nat.le_max_left _ _))];exact g2 u (hu.mono (Nat.le_max_right _ _))
theorem Wp.eE {f:FuncId} {args:List AV} {Qf:bw} {k:Fu->AV->St->Out} (hf:Fw P B f args U Qf) (hk:∀v U',Qf (.ret v) U'->Wp Q λu=>k u v U') (hp:∀v U',¬Qf (.pan v) U'):
  Wp Q λu=>cZ P B u.n f args U (k u):=by
 obtain⟨N,r,U',h1,h2⟩:=hf;cases r with
 |ret v=>
  obtain⟨M,r2,U2,g1,g2⟩:=hk v U' h1;refine⟨max N M,r2,U2,g1,λu hu=>?_⟩;show cZ P B u.n f args U (k u)=_;rw[UN (h2 u (hu.mono (Nat.le_max_left _ _)))];exact g2 u (hu.mono (Nat.le_max_right _ _))
 |pan v=>exact absurd h1 (hp v U')
theorem Wp.CR {f:FuncId} {fs cs args:List AV} {k:Fu->AV->St->Out} (h:Wp Q λu=>cW P B u.n f (fs++args++cs) U (k u)):Wp Q λu=>su P B u.n (.func (.func f) fs cs) args U (k u):=h
theorem Wp.Gj {f:FuncId} {fs cs args:List AV} {k:Fu->AV->St->Out} (h:Wp Q λu=>Go.AM.cZ P B u.n f (fs++args++cs) U (k u)):Wp Q λu=>CP P B u.n (.func (.func f) fs cs) args U (k u):=h
theorem Wp.df {f:FuncId} {args:List AV} {x x':Option AV} {U':St} {k:Fu->Option AV->St->Out} (hf:∃N,∀n,N<=n->js P (cd P B n) n f args x U=some (x',U')) (hk:Wp Q λu=>k u x' U'):
  Wp Q λu=>bC P B u.n f args x U (k u):=by
 obtain⟨N,h⟩:=hf;obtain⟨M,r2,U2,g1,g2⟩:=hk;refine⟨max N M,r2,U2,g1,λu hu=>?_⟩;show Am (js P (cd P B u.n) u.n) f args x U (k u)=_;unfold Am;rw[h u.n (ng (Nat.le_max_left _ _) hu.1)];exact g2 u (hu.mono (Nat.le_max_right _ _))
theorem Wp.st {b off:Nat} {cs ys:List AV} {m:Mk} {k:Fu->St->Out} (hc:U[b]? =some (.cells cs (.rw m))) (hl:off+ys.length<=cs.length) (h:Wp Q λu=>k u (U.set b (.cells (eA cs off ys) (.rw m)))):
  Wp Q λu=>aT U b off ys (k u):=
 h.eq λu=>by unfold aT;rw[hc];simp only;rw[if_pos hl]
theorem Wp.sj {e:TypeId} {size bytes len sz n:Nat} {new:List AV} {k:Fu->Ad->Nat->On->St->Out} (hn:n≠0) (hb:n*bytes<=140737488355328/\n<9223372036854775807)
  (h:Wp Q λu=>k u (some (U.length,0)) n none (U++[.cells new (.rw (.row e))])):Wp Q λu=>dT U e size bytes none len sz n new (k u):=
 h.eq λu=>by unfold dT;simp only;rw[if_neg hn,if_pos hb]
theorem Wp.TO {e:TypeId} {size bytes len sz:Nat} {new:List AV} {k:Fu->Ad->Nat->On->St->Out} (h:Wp Q λu=>k u none 0 (some 0) U):Wp Q λu=>dT U e size bytes none len sz 0 new (k u):=
 h.eq λu=>by unfold dT;simp
theorem Wp.sk {e:TypeId} {size bytes b o len n:Nat} {cs new:List AV} {m:Mk} {k:Fu->Ad->Nat->On->St->Out} (hc:U[b]? =some (.cells cs (.rw m))) (hl:o+len*size<=cs.length)
  (hb:(len+n)*bytes<=140737488355328/\len+n<9223372036854775807)
  (h:Wp Q λu=>k u (some (U.length,0)) (len+n) none (U.set b .dead++[.cells ((cs.drop o).take (len*size)++new) (.rw (iq m e))])):Wp Q λu=>dT U e size bytes (some (b,o)) len size n new (k u):=
 h.eq λu=>by unfold dT;simp only;rw[if_pos trivial,hc];simp only;rw[if_pos hl,if_pos hb]
theorem Wp.Sk {b o n size:Nat} {cs:List AV} {k:Fu->Nat->List AV->Out} (hc:aF U b=some cs) (hl:o+n*size<=cs.length) (h:Wp Q λu=>k u n ((cs.drop o).take (n*size))):Wp Q λu=>xA U (some (b,o)) n size size (k u):=
 h.eq λu=>by unfold xA;simp only;rw[if_pos trivial,hc];simp only;rw[if_pos hl]
theorem Wp.ab6 {l:List Kp} (hl:∀p∈l,p.ok) (h:Wp Q F):Wp Q λu=>dS l (F u):=by
 refine h.eq λu=>?_
 induction l with
 |nil=>rfl
 |cons p l ih=>
  unfold dS BO;rw[if_pos (hl p (by simp))];exact ih λp hp=>hl p (by simp[hp])
theorem Wp.keeps {l:List Kp} (hl:∀p∈l,p.2.1[p.2.2.1]? =p.1[p.2.2.1]?) (h:Wp Q F):Wp Q λu=>dS l (F u):=h.ab6 λp hp=>by unfold Kp.ok;rw[hl p hp]
theorem Wp.ap {l:List (Nat×Nat)} (hl:∀p∈l,p.1≠p.2) (h:Wp Q F):Wp Q λu=>lN l (F u):=by
 refine h.eq λu=>?_
 induction l with
 |nil=>rfl
 |cons p l ih=>
  obtain⟨a,b⟩:=p;unfold lN;rw[if_neg (hl (a,b) (by simp))];exact ih λp hp=>hl p (by simp[hp])
theorem Wp.ite {b:Bool} (h1:b=true->Wp Q F) (h0:b=false->Wp Q G):Wp Q λu=>cond b (F u) (G u):=by
 cases b
 ·exact(h0 rfl).eq λu=>cF
 ·exact(h1 rfl).eq λu=>cT
theorem Wp.pos {b:Bool} (hb:b=true) (h:Wp Q F):Wp Q λu=>cond b (F u) (G u):=h.eq λu=>by rw[hb];exact cT
theorem Wp.neg {b:Bool} (hb:b=false) (h:Wp Q G):Wp Q λu=>cond b (F u) (G u):=h.eq λu=>by rw[hb];exact cF
theorem Wp.E2 {f:Fu->AV->Out} (h:Wp Q F):Wp Q λu=>bq none (f u) (F u):=h.eq λu=>by simp only[bq]
theorem Wp.vq {v:AV} {f:Fu->AV->Out} (h:Wp Q λu=>f u v):Wp Q λu=>bq (some v) (f u) (F u):=h.eq λu=>by simp only[bq]
abbrev CZ {A B:Prop} (_:A->B):Prop:=A
theorem aJ {f:FuncId} {args:List AV} (st:List (List Nat)) {t:Fu->Out} (w:Wp Q t) (h:∀u:Fu,yy P B f u.n (pk P B f u.n) st [] [] (x8 P f args) U=t u:=by intro _;kernel_rfl) (hB:B f args U=none:=by rfl)
  (hf:(match P.funcs[f]? with|some fn=>fn.body.isSome|none=>false)=true:=by kernel_rfl):Fw P B f args U Q:=by
 obtain⟨N,r,U',h1,h2⟩:=w;refine⟨N+1,r,U',h1,λu hu=>?_⟩;obtain⟨n,hn⟩:∃n,u.n=n+1:=⟨u.n-1,by have:=hu.1;omega⟩
 show cd P B u.n f args U=_;rw[hn];have hN:N<=n:=by have:=hu.1;omega
 rw[Fv]at h;exact aaK (h ⟨n,n,n,n⟩) hB hf rfl _ (h2 ⟨n,n,n,n⟩ ⟨hN,hN,hN,hN⟩)
theorem aH {f:FuncId} {p:List Nat} {ms:Fu->List Nat} {env:Env} (st:List (List Nat)) {t:Fu->Out} (w:Wp Q t) (h:∀u:Fu,yy P B f u.n (pk P B f u.n) st p (ms u) env U=t u:=by intro _;kernel_rfl):
  Wp Q λu=>pk P B f u.n p (ms u) env U:=by
 rw[Fv]at h|-;exact w.le λu=>D3 (h u)
theorem cK {f:FuncId} {p:List Nat} {env:Env} (st:List (List Nat)) {t:Fu->Out} (w:Wp Q t) (h:∀u:Fu,yy P B f u.n (pk P B f u.n) st p [u.m1+1] env U=t u:=by intro _;kernel_rfl):
  Wp Q λu=>pk P B f u.n p [u.m1] env U:=by
 obtain⟨N,r,U',h1,h2⟩:=w;refine⟨N+1,r,U',h1,λu hu=>?_⟩;obtain⟨m,hm⟩:∃m,u.m1=m+1:=⟨u.m1-1,by have:=hu.2.1;omega⟩
 rw[Fv]at h|-;show pt P B f u.n p [u.m1] env U=_;rw[hm];exact D3 (h ⟨u.n,m,u.m2,u.m3⟩) _ (h2 ⟨u.n,m,u.m2,u.m3⟩ ⟨by have:=hu.1;simp only;omega,by have:=hu.2.1;simp only;omega,by have:=hu.2.2.1;simp only;omega,by have:=hu.2.2.2;simp only;omega⟩)
theorem yx {f:FuncId} {p:List Nat} {env:Env} (st:List (List Nat)) {t:Fu->Out} (w:Wp Q t) (h:∀u:Fu,yy P B f u.n (pk P B f u.n) st p [u.m1,u.m2+1] env U=t u:=by intro _;kernel_rfl):
  Wp Q λu=>pk P B f u.n p [u.m1,u.m2] env U:=by
 obtain⟨N,r,U',h1,h2⟩:=w;refine⟨N+1,r,U',h1,λu hu=>?_⟩;obtain⟨m,hm⟩:∃m,u.m2=m+1:=⟨u.m2-1,by have:=hu.2.2.1;omega⟩
 rw[Fv]at h|-;show pt P B f u.n p [u.m1,u.m2] env U=_;rw[hm];exact D3 (h ⟨u.n,u.m1,m,u.m3⟩) _ (h2 ⟨u.n,u.m1,m,u.m3⟩ ⟨by have:=hu.1;simp only;omega,by have:=hu.2.1;simp only;omega,by have:=hu.2.2.1;simp only;omega,by have:=hu.2.2.2;simp only;omega⟩)
def L5:Nat->Nat->List Nat->List Nat
 |0,_,l=>l
 |k+1,n,l=>if n<10 then l else L5 k (n/10) (n%10::l)
def dg (n:Nat):List Nat:=L5 60 n []
end
abbrev J (i:Int):AV:=.int .i64 i
abbrev N0:AV:=.slice none 0 (some 0) 0
abbrev sm (b o:Nat):Ad:=some (b,o)
abbrev xI (v:AV) (f:Int->Out):Out:=gY .i64 v f
abbrev ui (c:List AV) (f:Int->List AV->Out):Out:=jv c λx r=>gY .i64 x λi=>f i r
abbrev us (c:List AV) (f:By->List AV->Out):Out:=jv c λx r=>jY x λi=>f i r
abbrev ub (c:List AV) (f:Bool->List AV->Out):Out:=jv c λx r=>gm x λi=>f i r
abbrev ul (c:List AV) (f:Ad->Nat->On->Nat->List AV->Out):Out:=jv c λx r=>gn x λa n c z=>f a n c z r
abbrev bx (t:TypeId) (cs:List AV):aq:=.cells cs (.rw (.box t))
abbrev rx (t:TypeId) (cs:List AV):aq:=.cells cs (.rw (.row t))
abbrev vJ (i:Int):TV:=.v (.int .i64 i)
abbrev vA (a:Ad):TV:=.v (.ptr a)
abbrev vP (b o:Nat):TV:=.v (.ptr (some (b,o)))
abbrev vS (a:Ad) (n:Nat) (c:On) (z:Nat):TV:=.v (.slice a n c z)
abbrev en (n:Nat) (t:List (Nat×TV)) (l:mu):Env:=⟨tm n t 0,l,[]⟩
end Go.AM
end
section
set_option maxRecDepth 100000
namespace Go.Proofs
open Go.AM
open Classical
def Cs (ob:Obj):Prop:=∃ty fr,ob=.cells (Lib.asciiSpaceTab.map λz=>Value.int .u8 z).toArray ty fr
def tZ (ob:Obj):Prop:=∃ty fr,ob=.cells (Lib.pow10Tab.map λz=>Value.int .u64 z).toArray ty fr
def tY (ob:Obj):Prop:=∃te pe ty fr,ob=.cells #[.iface te pe] ty fr
def rp:St:=[.know 1 Cs,.know 0 tZ,.know 3 tY,.know 4 tY]
structure Kn (U:St):Prop where
 asc:U[0]? =some (.know 1 Cs)
 pow:U[1]? =some (.know 0 tZ)
 syn:U[2]? =some (.know 3 tY)
 rng:U[3]? =some (.know 4 tY)
theorem Kn.rp:Kn rp:=⟨rfl,rfl,rfl,rfl⟩
theorem Kn.len {U:St} (h:Kn U):4<=U.length:=(bl.1 h.rng).1
theorem Kn.app {U:St} (h:Kn U) (τ:St):Kn (U++τ):=by
 have hl:=h.len;refine⟨?_,?_,?_,?_⟩<;>rw[bO (by omega)]
 ·exact h.asc
 ·exact h.pow
 ·exact h.syn
 ·exact h.rng
noncomputable def ER (args:List AV) (U:St):Out:=
 match args with
 | [.int .i64 n]=>if U[(1:Nat)]? =some (.know 0 tZ)/\ -9223372036854775808<=n/\n<=9223372036854775807 then some (.ret (.str (iZ n)),U)else none
 |_=>none
noncomputable def EO (args:List AV) (U:St):Out:=
 match args with
 | [.int .i64 n,.int .i64 b]=>if U[(1:Nat)]? =some (.know 0 tZ)/\b=10/\ -9223372036854775808<=n/\n<=9223372036854775807 then some (.ret (.str (iZ n)),U)else none
 |_=>none
noncomputable def BR (args:List AV) (U:St):Out:=
 match args with
 | [.str s,.int .i64 b,.int .i64 w]=>
  if Kn U/\b=10/\w=64/\s.length<=281474976710656 then
   match jA 64 s with
   | .ok v=>some (.ret (.tuple [.int .i64 v,.nilIface]),U)
   | .syntax=>some (.ret (.tuple [.int .i64 0,.iface 193 (.ptr (some (U.length,0)))]),U++[.dead])
   | .range=>some (.ret (.tuple [.int .i64 (Lib.intSat 64 s),.iface 193 (.ptr (some (U.length,0)))]),U++[.dead])
  else none
 |_=>none
noncomputable def EN (args:List AV) (U:St):Out:=
 match args with
 | [.str s]=>
  if Kn U/\s.length<4294967281/\∀b∈s,b.toNat<128 then
   some (.ret (.slice (some (U.length,0)) (p8 s).length (some (p8 s).length) 1),U++[.cells ((p8 s).map .str) .ro])
  else none
 |_=>none
noncomputable def EU (args:List AV) (U:St):Out:=
 match args with
 | [.str s,.str [c]]=>if c.toNat<128/\s.length<=4611686018427387904 then some (.ret (.str (Lib.trimB s c)),U)else none
 |_=>none
noncomputable def EP (args:List AV) (U:St):Out:=
 match args with
 | [.str s,.int .u8 c]=>some (.ret (.int .i64 (Lib.indexByte s c.toNat.toUInt8)),U)
 |_=>none
noncomputable def xd (args:List AV) (U:St):Out:=
 match args with
 | [.ptr (some (b,o))]=>
  match U[b]? with
  |some (.cells cs (.rw (.box t)))=>
   match cs[o]? with
   |some (.ptr none)=>if liesAt ae ae.depth t (cs.length/ae.cellsOf t) o 92 1=true then some (.ret (.tuple []),U.set b (.cells (cs.set o (.ptr (some (b,o)))) (.rw (.box t))))else none
   |some (.ptr (some p))=>if p=(b,o)then some (.ret (.tuple []),U)else none
   |_=>none
  |_=>none
 |_=>none
def sr:List AV->Option (By)
 | []=>some []
 | .int .u8 n::r=>if n=((UInt8.ofNat n.toNat).toNat:Int)then(match sr r with|some l=>some (UInt8.ofNat n.toNat::l)|none=>none)else none
 |_=>none
theorem Lm (l:By):sr (bH l)=some l:=by
 induction l with
 |nil=>rfl
 |cons x l ih=>
  have:bH (x::l)=.int .u8 x.toNat::bH l:=rfl;rw[this];simp[sr,ih]
noncomputable def xe (args:List AV) (U:St):Out:=
 match args with
 | [.ptr (some (b,o))]=>
  match aF U b with
  |some cs=>
   match cs[o+1]? with
   |some (.slice none 0 (some 0) _)=>some (.ret (.str []),U)
   |some (.slice (some (g,s)) n _ z)=>
    if z=1/\0<n/\n<=4611686018427387904 then
     match U[g]? with
     |some (.cells bs (.rw (.row t)))=>
      if t=5/\s+n<=bs.length then
       match sr ((bs.drop s).take n)with
       |some l=>some (.ret (.str l),U.set g (.cells bs .ro))
       |none=>none
      else none
     |_=>none
    else none
   |_=>none
  |none=>none
 |_=>none
noncomputable def ES (args:List AV) (U:St):Out:=
 match args with
 | [.ptr (some (b,o))]=>
  match U[b]? with
  |some (.cells cs _)=>
   match cs[o]? with
   |some (.int .u32 n)=>some (.ret (.int .u32 n),U)
   |_=>none
  |_=>none
 |_=>none
noncomputable def ET (args:List AV) (U:St):Out:=
 match args with
 | [.ptr (some (b,o)),.int .u32 y]=>
  match U[b]? with
  |some (.cells cs (.rw m))=>if o<cs.length then some (.ret (.tuple []),U.set b (.cells (cs.set o (.int .u32 y)) (.rw m)))else none
  |_=>none
 |_=>none
noncomputable def rI (x y:Int) (args:List AV) (U:St):Out:=
 match args with
 | [.ptr (some (b,o))]=>
  match U[b]? with
  |some (.cells cs (.rw m))=>if cs[o]? =some (.int .i32 x)then some (.ret (.tuple []),U.set b (.cells (cs.set o (.int .i32 y)) (.rw m)))else none
  |_=>none
 |_=>none
noncomputable def EM (args:List AV) (U:St):Out:=
 match args with
 | [.str s,.int .u8 c]=>some (.ret (.int .i64 (Lib.countByte s c.toNat.toUInt8)),U)
 |_=>none
noncomputable def Lb:bU:=λf args U=>
 match f with
 |34=>xe args U
 |109=>BR args U
 |75=>EO args U
 |143=>EN args U
 |96=>ER args U
 |98=>EU args U
 |174=>EP args U
 |132=>xd args U
 |212=>ES args U
 |213=>rI 0 1 args U
 |221=>rI 1 0 args U
 |222=>ET args U
 |279=>EM args U
 |_=>none
end Go.Proofs
end
section
namespace Go.Proofs
open Go.Shelf Go.RowKit
variable {P:Program} {ρ:Ren}
theorem ac4 {e:TypeId} (hc:P.cellsOf e=1) (count off n:Nat) (hn:off+n<=count):liesAt P P.depth e count off e n=true:=by
 have hd:P.depth=(2*(P.types.size+Made.depth)+1)+1:=rfl;rw[hd];simp only[liesAt,Bool.or_eq_true];left;rw[hd];simp[rowAt,hc,hn,sameLayout,Nat.mod_one]
theorem afi (w:World) (pt it ty e:TypeId) (hp:P.underlying pt=some (.pointer e)) (hc:P.cellsOf e=1) (g q cells:Nat) (qw:w.shape? g=some (e,cells)) (l:List UInt8) (h0:l≠[]) (hn:q+l.length<=cells) (h63:l.length<=9223372036854775807)
  (sO:∀j x,l[j]? =some x->w.cell? ((⟨g,q,none⟩:Addr).add j)=some (.int .u8 x.toNat)):
  (Builtin.unsafeString_ #[pt,it] ty #[.pointer (some ⟨g,q,none⟩),.int .i64 l.length]).run P w=.ok (.string ⟨l.toArray⟩) (w.freeze ⟨g,q,none⟩ l.length):=by
 have hl:l.length≠0:=by simpa using h0
 have H5:=Lib.run_loadBytes (P:=P) w l ⟨g,q,none⟩ .empty sO;have BA:=ac4 (P:=P) hc (cells/P.cellsOf e) q l.length (by rw[hc];simpa using hn);have aaQ:¬(9223372036854775807:Int)<(l.length:Int):=by omega
 have aa7:Builtin.unsafeString_ #[pt,it] ty #[.pointer (some ⟨g,q,none⟩),.int .i64 l.length]=
   (do
    let n<-asInt (.int .i64 l.length)
    if n<0 then runtimePanic (.error "unsafe.String: len out of range")
    if n>IntKind.i64.max then unsupported (.unsafePointer "String: a length above the largest int")
    if n=0 then pure (.string .empty)
    else if<-variablesAt ⟨g,q,none⟩ (<-elemOf pt) n.toNat then do
     let s<-loadBytes ⟨g,q,none⟩ .empty n.toNat
     freeze ⟨g,q,none⟩ n.toNat
     pure (.string s)
    else unsupported (.unsafePointer "String: not so many bytes at ptr")):=rfl
 rw[aa7];have H9:IntKind.i64.max=9223372036854775807:=rfl;have abm:¬(l.length:Int)<0:=by omega
 simp[asInt,asIntOf,H9,aaQ,abm,hl,variablesAt,qw,elemOf,run_underlying hp,BA,H5]
theorem Lh:(ae.info? 92).map (·.size)=some 2:=by kernel_rfl
set_option maxHeartbeats 1000000 in
set_option maxRecDepth 100000 in
theorem Vh (b o:Nat) (w:World) (h0:w.cell? ⟨b,o,none⟩=some (.pointer (some ⟨b,o,none⟩))):
  Calls ae 132 #[.pointer (some ⟨b,o,none⟩)] w λe w'=>e=.returned (.tuple #[])/\w'=w:=by
 obtain⟨j,hj,_⟩:=my.1 Lh;have mixed:ae.follows .mixedOrders=true:=by kernel_rfl
 have t72:=Tryz.underlying92;have a72:=Tryz.isAgg55;have z72:=Tryz.sizeOf55;have v72:=Tryz.zeroValue55;have u72:=run_underlying Tryz.underlying92;have t70:=wa;have a70:=Tryz.isAgg52;have z70:=Tryz.sizeOf52;have v70:=Tryz.zeroValue52;have u70:=run_underlying wa;have t4:=uq;have a4:=Tryz.isAgg4;have z4:=Tryz.sizeOf4;have v4:=Tryz.zeroValue4;have u4:=run_underlying uq;have t164:=Tryz.underlying177;have a164:=Tryz.isAgg139;have z164:=Tryz.sizeOf139;have v164:=Tryz.zeroValue139;have u164:=run_underlying Tryz.underlying177
 go_enter Tryz.func132,Tryz.ntmps132
 go_wp2
 rw[Lib.run_neq_ptr_same w _ wa hj]
 go_wp2
 go_end0
 exact⟨rfl,rfl⟩
set_option maxHeartbeats 1000000 in
set_option maxRecDepth 100000 in
theorem Ve (b o:Nat) (t:TypeId) (cells:Nat) (w:World) (h0:w.cell? ⟨b,o,none⟩=some (.pointer none)) (qw:w.shape? b=some (t,cells)) (ho:o<cells)
  (BA:liesAt ae ae.depth t (cells/ae.cellsOf t) o 92 1=true) (ij:w.frozen? ⟨b,o,none⟩=false):
  Calls ae 132 #[.pointer (some ⟨b,o,none⟩)] w λe w'=>e=.returned (.tuple #[])/\w'=w.setCell ⟨b,o,none⟩ (.pointer (some ⟨b,o,none⟩)):=by
 obtain⟨j,hj,hjs⟩:=my.1 Lh;have mixed:ae.follows .mixedOrders=true:=by kernel_rfl
 have t72:=Tryz.underlying92;have a72:=Tryz.isAgg55;have z72:=Tryz.sizeOf55;have v72:=Tryz.zeroValue55;have u72:=run_underlying Tryz.underlying92;have t70:=wa;have a70:=Tryz.isAgg52;have z70:=Tryz.sizeOf52;have v70:=Tryz.zeroValue52;have u70:=run_underlying wa;have t4:=uq;have a4:=Tryz.isAgg4;have z4:=Tryz.sizeOf4;have v4:=Tryz.zeroValue4;have u4:=run_underlying uq;have t164:=Tryz.underlying177;have a164:=Tryz.isAgg139;have z164:=Tryz.sizeOf139;have v164:=Tryz.zeroValue139;have u164:=run_underlying Tryz.underlying177
 go_enter Tryz.func132,Tryz.ntmps132
 go_wp2
 rw[Lib.run_to_unsafe w ⟨b,o,none⟩ wa Tryz.underlying177 hj (by rw[hjs];decide) qw ho];simp only[Result.andThen];rw[Oper.upon_value]
 go_wp2
 rw[run_callFunc_extern Tryz.func159 (by kernel_rfl) (by kernel_rfl) (by kernel_rfl) (e:=ag5) (by kernel_rfl)];rw[Lib.run_noEscape];simp only[Result.andThen];rw[Oper.upon_value]
 go_wp2
 rw[Lib.run_from_unsafe w ⟨b,o,none⟩ Tryz.underlying177 wa hj qw BA];simp only[Result.andThen];rw[Oper.upon_value]
 go_wp2
 go_end0
 exact⟨rfl,rfl⟩
set_option maxHeartbeats 2000000 in
set_option maxRecDepth 100000 in
theorem af8 (L:Lays.n169 P ρ) (X:Builder.Extra P ρ) (b o g s cap cells:Nat) (l:List UInt8) (w:World) (h0:l≠[]) (gf:l.length<=cap)
  (hb:w.cell? ⟨b,o+1,none⟩=some (.slice (some ⟨g,s,none⟩) l.length cap)) (qw:w.shape? g=some (ρ.t 5,cells)) (hn:s+l.length<=cells) (h63:l.length<=9223372036854775807)
  (sO:∀j x,l[j]? =some x->w.cell? ((⟨g,s,none⟩:Addr).add j)=some (.int .u8 x.toNat)):
  Calls P (ρ.f 169) #[.pointer (some ⟨b,o,none⟩)] w λe w'=>e=.returned (.string ⟨l.toArray⟩)/\w'=w.drew.freeze ⟨g,s,none⟩ l.length:=by
 have nG:l.length≠0:=by simpa using h0
 have c1:w.drew.cell? ⟨b,o+1,none⟩=some (.slice (some ⟨g,s,none⟩) l.length cap):=hb;have hSD:(Builtin.unsafeSliceData_ #[(ρ.t 37)] (ρ.t 127) #[.slice (some ⟨g,s,none⟩) l.length cap]).run P w.drew=.ok (.pointer (some ⟨g,s,none⟩)) w.drew:=
  Lib.run_unsafeSliceData_row _ _ _ _ _ _ (by omega)
 have hUS:(Builtin.unsafeString_ #[(ρ.t 127),(ρ.t 3)] (ρ.t 9) #[.pointer (some ⟨g,s,none⟩),.int .i64 l.length]).run P w.drew=.ok (.string ⟨l.toArray⟩) (w.drew.freeze ⟨g,s,none⟩ l.length):=
  afi w.drew (ρ.t 127) (ρ.t 3) (ρ.t 9) (ρ.t 5) L.t127 X.cellsByte g s cells qw l h0 hn h63 sO
 have mixed:=L.mixed;have t72:=L.t72;have a72:=L.a72;have z72:=L.z72;have v72:=L.v72;have u72:=run_underlying L.t72;have t70:=L.t70;have a70:=L.a70;have z70:=L.z70;have v70:=L.v70;have u70:=run_underlying L.t70;have t37:=L.t37;have a37:=L.a37;have z37:=L.z37;have v37:=L.v37;have u37:=run_underlying L.t37;have t127:=L.t127;have a127:=L.a127;have z127:=L.z127;have v127:=L.v127;have u127:=run_underlying L.t127;have t3:=L.t3;have a3:=L.a3;have z3:=L.z3;have v3:=L.v3;have u3:=run_underlying L.t3;have t9:=L.t9;have a9:=L.a9;have z9:=L.z9;have v9:=L.v9;have u9:=run_underlying L.t9;have t5:=X.t5;have a5:=X.a5;have z5:=X.z5;have v5:=X.v5;have u5:=run_underlying X.t5;clear hb sO
 go_enter L.f169,Body.n169_ntmps ρ
 go_wp2
 go_region_o
 all_goals (go_wp2;go_ret;exact⟨rfl,rfl⟩)
set_option maxHeartbeats 2000000 in
set_option maxRecDepth 100000 in
theorem af7 (L:Lays.n169 P ρ) (X:Builder.Extra P ρ) (b o:Nat) (w:World) (hb:w.cell? ⟨b,o+1,none⟩=some (.slice none 0 0)):
  Calls P (ρ.f 169) #[.pointer (some ⟨b,o,none⟩)] w λe w'=>e=.returned (.string ⟨#[]⟩)/\w'=w.drew:=by
 have hUS:=Any.unsafeString_none L X;have c1:w.drew.cell? ⟨b,o+1,none⟩=some (.slice none 0 0):=hb;have hSD:(Builtin.unsafeSliceData_ #[(ρ.t 37)] (ρ.t 127) #[.slice none 0 0]).run P w.drew=.ok (.pointer none) w.drew:=rfl;have mixed:=L.mixed;have t72:=L.t72;have a72:=L.a72;have z72:=L.z72;have v72:=L.v72;have u72:=run_underlying L.t72;have t70:=L.t70;have a70:=L.a70;have z70:=L.z70;have v70:=L.v70;have u70:=run_underlying L.t70;have t37:=L.t37;have a37:=L.a37;have z37:=L.z37;have v37:=L.v37;have u37:=run_underlying L.t37;have t127:=L.t127;have a127:=L.a127;have z127:=L.z127;have v127:=L.v127;have u127:=run_underlying L.t127;have t3:=L.t3;have a3:=L.a3;have z3:=L.z3;have v3:=L.v3;have u3:=run_underlying L.t3;have t9:=L.t9;have a9:=L.a9;have z9:=L.z9;have v9:=L.v9;have u9:=run_underlying L.t9;have t5:=X.t5;have a5:=X.a5;have z5:=X.z5;have v5:=X.v5;have u5:=run_underlying X.t5;clear hb
 go_enter L.f169,Body.n169_ntmps ρ
 go_wp2
 go_region_o
 all_goals (go_wp2;go_ret;exact⟨rfl,rfl⟩)
end Go.Proofs
end
section
set_option maxRecDepth 100000
namespace Go.Front
structure Tok where
 kind:Nat
 at_:Nat
 text:List UInt8
 n:Int
 deriving DecidableEq,Inhabited
def dK (c:UInt8):Bool:=(97<=c.toNat&&c.toNat<=122)||(65<=c.toNat&&c.toNat<=90)||c.toNat==95
def isDigit (c:UInt8):Bool:=48<=c.toNat&&c.toNat<=57
def skip:Bool->List UInt8->Nat
 |_,[]=>0
 |true,c::r=>if c.toNat=10 then skip false r+1 else skip true r+1
 |false,c::r=>
  if c.toNat=32\/c.toNat=9\/c.toNat=10 then skip false r+1
  else if c.toNat=47/\r.head? =some 47 then skip true r+1 else 0
def fU (d:UInt8):Option UInt8:=
 if d.toNat=110 then some 10 else if d.toNat=116 then some 9 else if d.toNat=48 then some 0 else if d.toNat=92 then some 92 else if d.toNat=39 then some 39 else if d.toNat=34 then some 34 else none
def escape (q:Nat):List UInt8->Option (UInt8×Nat)
 | []=>none
 |c::r=>
  if c.toNat=92 then(match r with
   | []=>none
   |d::_=>(fU d).map λb=>(b,2))
  else if 32<=c.toNat/\c.toNat<=126/\c.toNat≠q then some (c,1)else none
def dd:List UInt8->Nat->Option (List UInt8×Nat)
 | [],_=>none
 | [c],_=>if c.toNat=34 then some ([],0)else none
 |c::d::r,n=>
  if c.toNat=34 then some ([],0)
  else if c.toNat=92 then(match fU d with
   |some b=>if b=0\/n=100 then none else(dd r (n+1)).map λp=>(b::p.1,p.2+2)
   |none=>none)
  else if 32<=c.toNat/\c.toNat<=126 then(if n=100 then none else(dd (d::r) (n+1)).map λp=>(c::p.1,p.2+1))
  else none
def marks:List (List UInt8):=[[60,60],[62,62],[60,61],[62,61],[61,61],[33,61],[38,38],[124,124],[40],[41],[123],[125],[91],[93],[59],[44],[42],[47],[37],[43],[45],[60],[62],[38],[94],[124],[61],[33],[126]]
def words:List (List UInt8):=[[105,110,116],[99,104,97,114],[105,102],[101,108,115,101],[119,104,105,108,101],[114,101,116,117,114,110],[98,114,101,97,107],[99,111,110,116,105,110,117,101]]
def numOf (c:UInt8) (t:List UInt8):Lib.NumEnd Int->Option (Nat×List UInt8×Int×Nat)
 | .ok v=>if c.toNat=48/\t.length≠1 then none else some (3,[],v,t.length)
 |_=>none
def one:List UInt8->Option (Nat×List UInt8×Int×Nat)
 | []=>some (0,[],0,0)
 |c::r=>
  let l:=c::r
  if dK c then
   let t:=l.takeWhile λc=>dK c||isDigit c
   if words.contains t then some (2,t,0,t.length)else if t.length<=14 then some (1,t,0,t.length)else none
  else if isDigit c then
   let t:=l.takeWhile isDigit
   numOf c t (jA 64 t)
  else if c.toNat=34 then(dd r 0).map λp=>(4,p.1,0,p.2+2)
  else if c.toNat=39 then(match escape 39 r with
   |some (b,k)=>if(r.drop k).head? =some 39 then some (3,[],(b.toNat:Int),k+2)else none
   |none=>none)
  else(marks.find? λm=>m.isPrefixOf l).map λm=>(5,m,0,m.length)
def cut (s:List UInt8) (at_:Nat):Nat×Option (Tok×Nat):=
 let from_:=at_+skip false (s.drop at_)
 (from_,(one (s.drop from_)).map λp=>(⟨p.1,from_,p.2.1,p.2.2.1⟩,from_+p.2.2.2))
end Go.Front
end
section
set_option maxRecDepth 100000
namespace Go.Front
def br (t:Tok) (m:List UInt8):Bool:=(t.kind==2||t.kind==5)&&t.text==m
structure Node where
 kind:Int
 at_:Int
 text:List UInt8
 n:Int
 m:Int
 kids:List Nat
 deriving DecidableEq,Inhabited
structure hJ where
 Pos:Type
 eP:Pos->Sum Nat (Tok×Pos)
structure PS (S:hJ) where
 tok:Tok
 pos:S.Pos
 nodes:List Node
 deep:Nat
abbrev bd:=Int×Nat
def PM (S:hJ) (α:Type):=PS S->Option (Except bd (α×PS S))
section
variable {S:hJ} {α β γ:Type}
def PM.pure (a:α):PM S α:=λst=>some (.ok (a,st))
def PM.bind (m:PM S α) (f:α->PM S β):PM S β:=λst=>
 match m st with
 |none=>none
 |some (.error e)=>some (.error e)
 |some (.ok (a,st'))=>f a st'
instance:Monad (PM S) where
 pure:=PM.pure
 bind:=PM.bind
theorem PM.zq (a:α) (st:PS S):(Pure.pure a:PM S α) st=some (.ok (a,st)):=rfl
theorem PM.CI (m:PM S α) (f:α->PM S β) (st:PS S):(m>>=f) st=PM.bind m f st:=rfl
theorem PM.bind_none {m:PM S α} {f:α->PM S β} {st:PS S} (h:m st=none):(m>>=f) st=none:=by rw[PM.CI];unfold PM.bind;rw[h]
theorem PM.Ae {m:PM S α} {f:α->PM S β} {st:PS S} {e:bd} (h:m st=some (.error e)):(m>>=f) st=some (.error e):=by rw[PM.CI];unfold PM.bind;rw[h]
theorem PM.lQ {m:PM S α} {f:α->PM S β} {st st':PS S} {a:α} (h:m st=some (.ok (a,st'))):(m>>=f) st=f a st':=by rw[PM.CI];unfold PM.bind;rw[h]
theorem PM.bind_some {m:PM S α} {f:α->PM S β} {st:PS S} {o:Except bd (β×PS S)} (h:(m>>=f) st=some o):
  (∃e,m st=some (.error e)/\o=.error e)\/∃a st',m st=some (.ok (a,st'))/\f a st'=some o:=by
 cases hm:m st with
 |none=>rw[PM.bind_none hm]at h;cases h
 |some r=>
  cases r with
  |error e=>rw[PM.Ae hm]at h;cases h;exact .inl ⟨e,rfl,rfl⟩
  |ok p=>obtain⟨a,st'⟩:=p;rw[PM.lQ hm]at h;exact .inr ⟨a,st',rfl,h⟩
theorem PM.pure_bind (a:α) (f:α->PM S β):(Pure.pure a>>=f:PM S β)=f a:=rfl
theorem PM.bind_assoc (m:PM S α) (f:α->PM S β) (g:β->PM S γ):(m>>=f)>>=g=m>>=λa=>f a>>=g:=by
 funext st
 cases hm:m st with
 |none=>rw[PM.bind_none hm,PM.bind_none (PM.bind_none hm)]
 |some r=>
  cases r with
  |error e=>rw[PM.Ae hm,PM.Ae (PM.Ae hm)]
  |ok p=>
   obtain⟨a,st'⟩:=p;rw[PM.lQ hm];rw[PM.CI];unfold PM.bind;rw[PM.lQ hm];rfl
theorem PM.jN {c:Prop} [Decidable c] (x y:PM S α) (f:α->PM S β):(if c then x else y)>>=f=if c then x>>=f else y>>=f:=by
 by_cases h:c
 ·rw[if_pos h,if_pos h]
 ·rw[if_neg h,if_neg h]
def oT (e:Int):PM S α:=λst=>some (.error (e,st.tok.at_))
def eB:PM S Tok:=λst=>some (.ok (st.tok,st))
def cU:PM S Tok:=λst=>
 match S.eP st.pos with
 | .inl f=>some (.error (13,f))
 | .inr (t,q)=>some (.ok (st.tok,{st with tok:=t,pos:=q}))
def jq (m:List UInt8):PM S Bool:=λst=>some (.ok (br st.tok m,st))
def ep (m:List UInt8):PM S Bool:=do
 if<-jq m then
  let _<-cU
  pure true
 else pure false
def eL (m:List UInt8):PM S Unit:=do
 if<-jq m then
  let _<-cU
  pure ()
 else oT 13
def me (k:Nat):PM S Tok:=do
 let t<-eB
 if t.kind=k then cU else oT 13
def cH (x:Node):PM S Nat:=λst=>if st.nodes.length=4096 then some (.error (15,st.tok.at_))else some (.ok (st.nodes.length,{st with nodes:=st.nodes++[x]}))
def ql:PM S Unit:=λst=>if st.deep=40 then some (.error (15,st.tok.at_))else some (.ok ((),{st with deep:=st.deep+1}))
def kO:PM S Unit:=λst=>if st.deep=0 then none else some (.ok ((),{st with deep:=st.deep-1}))
def iu (x:Nat):PM S Node:=λst=>match st.nodes[x]? with|some d=>some (.ok (d,st))|none=>none
def dt (body:α->PM S (Sum α β)):Nat->α->PM S β
 |0,_=>λ_=>none
 |n+1,a=>do
  match<-body a with
  | .inl a'=>dt body n a'
  | .inr b=>pure b
def ops:List (List UInt8):=[[42],[47],[37],[43],[45],[60,60],[62,62],[60],[60,61],[62],[62,61],[61,61],[33,61],[38],[94],[124],[38,38],[124,124]]
def qH:List (List UInt8)->Nat->List UInt8->Nat
 | [],_,_=>0
 |x::r,k,s=>if x=s then k else qH r (k+1) s
def binOp (s:List UInt8):Nat:=qH ops 4 s
def level (op:Nat):Nat:=[0,0,0,0,10,10,10,9,9,8,8,7,7,7,7,6,6,5,4,3,2,1].getD op 0
def tB (ex:Nat->PM S Nat) (acc:List Nat):PM S (Sum (List Nat) (List Nat)):=do
 let x<-ex 1
 if<-ep [41]then pure (.inr (acc++[x]))else do
  eL [44]
  pure (.inl (acc++[x]))
def vp (ex:Nat->PM S Nat) (n:Nat):PM S (List Nat):=do
 if<-ep [41]then pure []else dt (tB ex) n []
def mV (ex:Nat->PM S Nat) (n:Nat):PM S Nat:=do
 let t<-eB
 if t.kind=3 then do
  let _<-cU
  cH ⟨1,t.at_,[],t.n,0,[]⟩
 else if t.kind=4 then do
  let _<-cU
  cH ⟨2,t.at_,t.text,0,0,[]⟩
 else if t.kind=1 then do
  let _<-cU
  if<-jq [40]then do
   let _<-cU
   let l<-vp ex n
   cH ⟨4,t.at_,t.text,0,0,l⟩
  else cH ⟨3,t.at_,t.text,0,0,[]⟩
 else do
  eL [40]
  let x<-ex 1
  eL [41]
  pure x
def indexB (ex:Nat->PM S Nat) (x:Nat):PM S (Sum Nat Nat):=do
 if<-ep [91]then do
  let i<-ex 1
  eL [93]
  let a<-iu x
  let y<-cH ⟨5,a.at_,[],0,0,[x,i]⟩
  pure (.inl y)
 else pure (.inr x)
def pX (op:PM S Nat) (at_:Nat) (k:Int):PM S Nat:=do
 let x<-op
 cH ⟨6,at_,[],k,0,[x]⟩
def th (op:PM S Nat) (ex:Nat->PM S Nat) (n at_:Nat):PM S Nat:=do
 if<-ep [45]then pX op at_ 1
 else if<-ep [33]then pX op at_ 2
 else if<-ep [126]then pX op at_ 3
 else do
  let x<-mV ex n
  dt (indexB ex) n x
def qI (op:PM S Nat) (ex:Nat->PM S Nat) (n:Nat):PM S Nat:=do
 ql
 let t<-eB
 let x<-th op ex n t.at_
 kO
 pure x
def k8 (ex:Nat->PM S Nat) (lvl:Nat) (x:Nat):PM S (Sum Nat Nat):=do
 let t<-eB
 let o:=if t.kind=5 then binOp t.text else 0
 if o=0 then pure (.inr x)
 else if level o<lvl then pure (.inr x)
 else do
  let _<-cU
  let y<-ex (level o+1)
  let a<-iu x
  let z<-cH ⟨7,a.at_,[],o,0,[x,y]⟩
  pure (.inl z)
def qn (op:PM S Nat) (ex:Nat->PM S Nat) (n lvl:Nat):PM S Nat:=do
 let x<-op
 dt (k8 ex lvl) n x
def ou:Nat->Option Nat->PM S Nat
 |0,_=>λ_=>none
 |n+1,none=>qI (ou n none) (λl=>ou n (some l)) n
 |n+1,some l=>qn (ou n none) (λl=>ou n (some l)) n l
def rN:PM S (Nat×List UInt8×Int):=do
 let t<-eB
 if<-ep [99,104,97,114]then do
  eL [42]
  let nm<-me 1
  pure (t.at_,nm.text,2)
 else do
  eL [105,110,116]
  if<-ep [42]then do
   let nm<-me 1
   pure (t.at_,nm.text,3)
  else do
   let nm<-me 1
   pure (t.at_,nm.text,1)
def sq (sm:PM S Nat) (acc:List Nat):PM S (Sum (List Nat) (List Nat)):=do
 if<-jq [125]then pure (.inr acc)else do
  let x<-sm
  pure (.inl (acc++[x]))
def q6 (sm:PM S Nat) (n:Nat):PM S Nat:=do
 let t<-eB
 eL [123]
 let kids<-dt (sq sm) n []
 let _<-cU
 cH ⟨17,t.at_,[],0,0,kids⟩
def q9 (ex:Nat->PM S Nat):PM S Nat:=do
 eL [40]
 let x<-ex 1
 eL [41]
 pure x
def tE (ex:Nat->PM S Nat) (at_:Nat):PM S Nat:=do
 let x<-ex 1
 if<-jq [61]then do
  let a<-iu x
  if a.kind=3\/a.kind=5 then do
   let _<-cU
   let y<-ex 1
   eL [59]
   let a<-iu x
   cH ⟨11,a.at_,[],0,0,[x,y]⟩
  else oT 13
 else do
  eL [59]
  cH ⟨10,at_,[],0,0,[x]⟩
def pZ (ex:Nat->PM S Nat):PM S Nat:=do
 let x<-rN
 if<-ep [61]then do
  let v<-ex 1
  eL [59]
  cH ⟨18,x.1,x.2.1,0,x.2.2,[v]⟩
 else do
  eL [59]
  cH ⟨18,x.1,x.2.1,0,x.2.2,[]⟩
def wZ (sm:PM S Nat) (ex:Nat->PM S Nat) (at_:Nat):PM S Nat:=do
 let c<-q9 ex
 let a<-sm
 if<-ep [101,108,115,101]then do
  let b<-sm
  cH ⟨12,at_,[],0,0,[c,a,b]⟩
 else cH ⟨12,at_,[],0,0,[c,a]⟩
def vI (sm:PM S Nat) (ex:Nat->PM S Nat) (n at_:Nat):PM S Nat:=do
 if<-jq [123]then q6 sm n
 else if<-ep [105,102]then wZ sm ex at_
 else if<-ep [119,104,105,108,101]then do
  let c<-q9 ex
  let b<-sm
  cH ⟨13,at_,[],0,0,[c,b]⟩
 else if<-ep [114,101,116,117,114,110]then do
  let x<-ex 1
  eL [59]
  cH ⟨14,at_,[],0,0,[x]⟩
 else if<-ep [98,114,101,97,107]then do
  eL [59]
  cH ⟨15,at_,[],0,0,[]⟩
 else if<-ep [99,111,110,116,105,110,117,101]then do
  eL [59]
  cH ⟨16,at_,[],0,0,[]⟩
 else if<-jq [105,110,116]then pZ ex
 else if<-jq [99,104,97,114]then pZ ex
 else tE ex at_
def tO (sm:PM S Nat) (ex:Nat->PM S Nat) (n:Nat):PM S Nat:=do
 ql
 let t<-eB
 let x<-vI sm ex n t.at_
 kO
 pure x
def zz:Nat->PM S Nat
 |0=>λ_=>none
 |n+1=>tO (zz n) (λl=>ou n (some l)) n
def rO (acc:List Nat):PM S (Sum (List Nat) (List Nat)):=do
 let p<-rN
 let x<-cH ⟨18,p.1,p.2.1,0,p.2.2,[]⟩
 if<-ep [41]then pure (.inr (acc++[x]))else do
  eL [44]
  pure (.inl (acc++[x]))
def np (n at_:Nat) (nm:List UInt8) (kids:List Nat):PM S Nat:=do
 let b<-q6 (zz n) n
 cH ⟨22,at_,nm,0,kids.length,kids++[b]⟩
def wC (n at_:Nat) (nm:List UInt8):PM S Nat:=do
 let _<-cU
 if<-ep [41]then np n at_ nm []else do
  let kids<-dt rO n []
  np n at_ nm kids
def qX (at_:Nat) (nm:List UInt8) (ty:Int):PM S Nat:=do
 eL [91]
 let k<-me 3
 eL [93]
 eL [59]
 cH ⟨21,at_,nm,k.n,ty,[]⟩
def sF (n:Nat):PM S Nat:=do
 let t<-eB
 if<-ep [99,104,97,114]then do
  let nm<-me 1
  qX t.at_ nm.text 2
 else do
  eL [105,110,116]
  let nm<-me 1
  if<-ep [59]then cH ⟨20,t.at_,nm.text,0,1,[]⟩
  else if<-jq [40]then wC n t.at_ nm.text
  else qX t.at_ nm.text 3
def sE (n:Nat) (acc:List Nat):PM S (Sum (List Nat) (List Nat)):=do
 let t<-eB
 if t.kind=0 then pure (.inr acc)else do
  let x<-sF n
  pure (.inl (acc++[x]))
def qP (n:Nat):PM S Nat:=do
 let kids<-dt (sE n) n []
 cH ⟨23,0,[],0,0,kids⟩
end
def ai (s:List UInt8):hJ where
 Pos:=Nat
 eP:=λa=>match cut s a with
  |(f,none)=>.inl f
  |(_,some (t,q))=>.inr (t,q)
def qK (S:hJ) (q:S.Pos) (n:Nat):Option (Except bd (List Node)):=
 match S.eP q with
 | .inl f=>some (.error (13,f))
 | .inr (t,q)=>match qP (S:=S) n ⟨t,q,[],0⟩with
  |none=>none
  |some (.error e)=>some (.error e)
  |some (.ok (_,st))=>some (.ok st.nodes)
end Go.Front
end
section
set_option maxRecDepth 100000
namespace Go.Front
def Node.strip (x:Node):Node:={x with at_:=0}
theorem SE {x y:Node} (h:x.strip=y.strip):x.kind=y.kind/\x.text=y.text/\x.n=y.n/\x.m=y.m/\x.kids=y.kids:=by
 unfold Node.strip at h;simp only[Node.mk.injEq]at h;exact⟨h.1,h.2.2.1,h.2.2.2.1,h.2.2.2.2.1,h.2.2.2.2.2⟩
inductive Ex
 |num (at_:Nat) (n:Int)
 |text (at_:Nat) (s:List UInt8)
 |name (at_:Nat) (s:List UInt8)
 |call (at_:Nat) (s:List UInt8) (args:List Ex)
 |index (x i:Ex)
 |un (at_:Nat) (op:Nat) (x:Ex)
 |bin (op:Nat) (x y:Ex)
inductive Sm
 |expr (at_:Nat) (x:Ex)
 |set (x y:Ex)
 |if1 (at_:Nat) (c:Ex) (a:Sm)
 |if2 (at_:Nat) (c:Ex) (a b:Sm)
 |while (at_:Nat) (c:Ex) (a:Sm)
 |ret (at_:Nat) (x:Ex)
 |brk (at_:Nat)
 |next (at_:Nat)
 |block (at_:Nat) (l:List Sm)
 |var (at_:Nat) (s:List UInt8) (ty:Int)
 |vari (at_:Nat) (s:List UInt8) (ty:Int) (x:Ex)
abbrev nh:=Nat×List UInt8×Int
inductive Dc
 |var (at_:Nat) (s:List UInt8)
 |array (at_:Nat) (s:List UInt8) (ty n:Int)
 |fn (at_:Nat) (s:List UInt8) (ps:List nh) (bat:Nat) (l:List Sm)
def Ex.at_:Ex->Nat
 | .num a _=>a
 | .text a _=>a
 | .name a _=>a
 | .call a _ _=>a
 | .index x _=>x.at_
 | .un a _ _=>a
 | .bin _ x _=>x.at_
mutual
def Ex.size:Ex->Nat
 | .num _ _=>1
 | .text _ _=>1
 | .name _ _=>1
 | .call _ _ l=>Ex.aB l+1
 | .index x i=>x.size+i.size+1
 | .un _ _ x=>x.size+1
 | .bin _ x y=>x.size+y.size+1
def Ex.aB:List Ex->Nat
 | []=>0
 |x::l=>x.size+Ex.aB l
end
mutual
theorem Ex.size_pos:∀e:Ex,0<e.size
 | .num _ _=>by simp[Ex.size]
 | .text _ _=>by simp[Ex.size]
 | .name _ _=>by simp[Ex.size]
 | .call _ _ l=>by simp[Ex.size]
 | .index x i=>by simp[Ex.size]
 | .un _ _ x=>by simp[Ex.size]
 | .bin _ x y=>by simp[Ex.size]
end
def Ex.roots (b:Nat):List Ex->List Nat
 | []=>[]
 |x::l=>(b+x.size-1)::Ex.roots (b+x.size) l
mutual
def Ex.flat (b:Nat):Ex->List Node
 | .num a n=>[⟨1,a,[],n,0,[]⟩]
 | .text a s=>[⟨2,a,s,0,0,[]⟩]
 | .name a s=>[⟨3,a,s,0,0,[]⟩]
 | .call a s l=>Ex.cR b l++[⟨4,a,s,0,0,Ex.roots b l⟩]
 | .index x i=>Ex.flat b x++Ex.flat (b+x.size) i++[⟨5,x.at_,[],0,0,[b+x.size-1,b+x.size+i.size-1]⟩]
 | .un a op x=>Ex.flat b x++[⟨6,a,[],op,0,[b+x.size-1]⟩]
 | .bin op x y=>Ex.flat b x++Ex.flat (b+x.size) y++[⟨7,x.at_,[],op,0,[b+x.size-1,b+x.size+y.size-1]⟩]
def Ex.cR (b:Nat):List Ex->List Node
 | []=>[]
 |x::l=>Ex.flat b x++Ex.cR (b+x.size) l
end
mutual
theorem Ex.bI:∀(e:Ex) (b:Nat),(e.flat b).length=e.size
 | .num _ _,b=>by simp[Ex.flat,Ex.size]
 | .text _ _,b=>by simp[Ex.flat,Ex.size]
 | .name _ _,b=>by simp[Ex.flat,Ex.size]
 | .call _ _ l,b=>by simp[Ex.flat,Ex.size,Ex.fk l b]
 | .index x i,b=>by simp[Ex.flat,Ex.size,Ex.bI x b,Ex.bI i (b+x.size)];omega
 | .un _ _ x,b=>by simp[Ex.flat,Ex.size,Ex.bI x b]
 | .bin _ x y,b=>by simp[Ex.flat,Ex.size,Ex.bI x b,Ex.bI y (b+x.size)];omega
theorem Ex.fk:∀(l:List Ex) (b:Nat),(Ex.cR b l).length=Ex.aB l
 | [],b=>by simp[Ex.cR,Ex.aB]
 |x::l,b=>by simp[Ex.cR,Ex.aB,Ex.bI x b,Ex.fk l (b+x.size)]
end
theorem Ex.JE:∀(l:List Ex) (x:Ex),Ex.aB (l++[x])=Ex.aB l+x.size
 | [],x=>by simp[Ex.aB]
 |y::l,x=>by simp[Ex.aB,Ex.JE l x];omega
theorem Ex.uO:∀(l:List Ex) (x:Ex) (b:Nat),Ex.cR b (l++[x])=Ex.cR b l++Ex.flat (b+Ex.aB l) x
 | [],x,b=>by simp[Ex.cR,Ex.aB]
 |y::l,x,b=>by simp[Ex.cR,Ex.aB,Ex.uO l x,eD]
theorem Ex.tJ:∀(l:List Ex) (x:Ex) (b:Nat),Ex.roots b (l++[x])=Ex.roots b l++[b+Ex.aB l+x.size-1]
 | [],x,b=>by simp[Ex.roots,Ex.aB]
 |y::l,x,b=>by simp[Ex.roots,Ex.aB,Ex.tJ l x,eD]
def Ex.root (b:Nat):Ex->Node
 | .num a n=>⟨1,a,[],n,0,[]⟩
 | .text a s=>⟨2,a,s,0,0,[]⟩
 | .name a s=>⟨3,a,s,0,0,[]⟩
 | .call a s l=>⟨4,a,s,0,0,Ex.roots b l⟩
 | .index x i=>⟨5,x.at_,[],0,0,[b+x.size-1,b+x.size+i.size-1]⟩
 | .un a op x=>⟨6,a,[],op,0,[b+x.size-1]⟩
 | .bin op x y=>⟨7,x.at_,[],op,0,[b+x.size-1,b+x.size+y.size-1]⟩
theorem Ex.Hx (e:Ex) (b:Nat):(e.flat b)[e.size-1]? =some (e.root b):=by
 cases e<;>simp[Ex.flat,Ex.size,Ex.root,Ex.fk,Ex.bI]
theorem Ex.ae8 (e:Ex) (b:Nat):(e.root b).at_=e.at_:=by cases e<;>rfl
mutual
def Sm.size:Sm->Nat
 | .expr _ x=>x.size+1
 | .set x y=>x.size+y.size+1
 | .if1 _ c a=>c.size+a.size+1
 | .if2 _ c a b=>c.size+a.size+b.size+1
 | .while _ c a=>c.size+a.size+1
 | .ret _ x=>x.size+1
 | .brk _=>1
 | .next _=>1
 | .block _ l=>Sm.aB l+1
 | .var _ _ _=>1
 | .vari _ _ _ x=>x.size+1
def Sm.aB:List Sm->Nat
 | []=>0
 |x::l=>x.size+Sm.aB l
end
theorem Sm.size_pos (e:Sm):0<e.size:=by cases e<;>simp[Sm.size]
def Sm.roots (b:Nat):List Sm->List Nat
 | []=>[]
 |x::l=>(b+x.size-1)::Sm.roots (b+x.size) l
mutual
def Sm.flat (b:Nat):Sm->List Node
 | .expr a x=>x.flat b++[⟨10,a,[],0,0,[b+x.size-1]⟩]
 | .set x y=>x.flat b++y.flat (b+x.size)++[⟨11,x.at_,[],0,0,[b+x.size-1,b+x.size+y.size-1]⟩]
 | .if1 t c a=>c.flat b++Sm.flat (b+c.size) a++[⟨12,t,[],0,0,[b+c.size-1,b+c.size+a.size-1]⟩]
 | .if2 t c a e=>c.flat b++Sm.flat (b+c.size) a++Sm.flat (b+c.size+a.size) e++[⟨12,t,[],0,0,[b+c.size-1,b+c.size+a.size-1,b+c.size+a.size+e.size-1]⟩]
 | .while t c a=>c.flat b++Sm.flat (b+c.size) a++[⟨13,t,[],0,0,[b+c.size-1,b+c.size+a.size-1]⟩]
 | .ret t x=>x.flat b++[⟨14,t,[],0,0,[b+x.size-1]⟩]
 | .brk t=>[⟨15,t,[],0,0,[]⟩]
 | .next t=>[⟨16,t,[],0,0,[]⟩]
 | .block t l=>Sm.cR b l++[⟨17,t,[],0,0,Sm.roots b l⟩]
 | .var t s ty=>[⟨18,t,s,0,ty,[]⟩]
 | .vari t s ty x=>x.flat b++[⟨18,t,s,0,ty,[b+x.size-1]⟩]
def Sm.cR (b:Nat):List Sm->List Node
 | []=>[]
 |x::l=>Sm.flat b x++Sm.cR (b+x.size) l
end
mutual
theorem Sm.bI:∀(e:Sm) (b:Nat),(e.flat b).length=e.size
 | .expr _ x,b=>by simp[Sm.flat,Sm.size,Ex.bI]
 | .set x y,b=>by simp[Sm.flat,Sm.size,Ex.bI];omega
 | .if1 _ c a,b=>by simp[Sm.flat,Sm.size,Ex.bI,Sm.bI a];omega
 | .if2 _ c a e,b=>by simp[Sm.flat,Sm.size,Ex.bI,Sm.bI a,Sm.bI e];omega
 | .while _ c a,b=>by simp[Sm.flat,Sm.size,Ex.bI,Sm.bI a];omega
 | .ret _ x,b=>by simp[Sm.flat,Sm.size,Ex.bI]
 | .brk _,b=>by simp[Sm.flat,Sm.size]
 | .next _,b=>by simp[Sm.flat,Sm.size]
 | .block _ l,b=>by simp[Sm.flat,Sm.size,Sm.fk l]
 | .var _ _ _,b=>by simp[Sm.flat,Sm.size]
 | .vari _ _ _ x,b=>by simp[Sm.flat,Sm.size,Ex.bI]
theorem Sm.fk:∀(l:List Sm) (b:Nat),(Sm.cR b l).length=Sm.aB l
 | [],b=>by simp[Sm.cR,Sm.aB]
 |x::l,b=>by simp[Sm.cR,Sm.aB,Sm.bI x b,Sm.fk l (b+x.size)]
end
theorem Sm.JE:∀(l:List Sm) (x:Sm),Sm.aB (l++[x])=Sm.aB l+x.size
 | [],x=>by simp[Sm.aB]
 |y::l,x=>by simp[Sm.aB,Sm.JE l x];omega
theorem Sm.uO:∀(l:List Sm) (x:Sm) (b:Nat),Sm.cR b (l++[x])=Sm.cR b l++Sm.flat (b+Sm.aB l) x
 | [],x,b=>by simp[Sm.cR,Sm.aB]
 |y::l,x,b=>by simp[Sm.cR,Sm.aB,Sm.uO l x,eD]
theorem Sm.tJ:∀(l:List Sm) (x:Sm) (b:Nat),Sm.roots b (l++[x])=Sm.roots b l++[b+Sm.aB l+x.size-1]
 | [],x,b=>by simp[Sm.roots,Sm.aB]
 |y::l,x,b=>by simp[Sm.roots,Sm.aB,Sm.tJ l x,eD]
def mf (x:nh):Node:=⟨18,x.1,x.2.1,0,x.2.2,[]⟩
def Dc.size:Dc->Nat
 | .var _ _=>1
 | .array _ _ _ _=>1
 | .fn _ _ ps _ l=>ps.length+Sm.aB l+2
def Dc.flat (b:Nat):Dc->List Node
 | .var t s=>[⟨20,t,s,0,1,[]⟩]
 | .array t s ty n=>[⟨21,t,s,n,ty,[]⟩]
 | .fn t s ps bat l=>ps.map mf++(Sm.cR (b+ps.length) l++[⟨17,bat,[],0,0,Sm.roots (b+ps.length) l⟩])++[⟨22,t,s,0,ps.length,(fy b ps.length)++[b+ps.length+Sm.aB l]⟩]
theorem Dc.size_pos (e:Dc):0<e.size:=by cases e<;>simp[Dc.size]
theorem Dc.bI (e:Dc) (b:Nat):(e.flat b).length=e.size:=by
 cases e<;>simp[Dc.flat,Dc.size,Sm.fk];omega
def Dc.aB:List Dc->Nat
 | []=>0
 |x::l=>x.size+Dc.aB l
def Dc.roots (b:Nat):List Dc->List Nat
 | []=>[]
 |x::l=>(b+x.size-1)::Dc.roots (b+x.size) l
def Dc.cR (b:Nat):List Dc->List Node
 | []=>[]
 |x::l=>Dc.flat b x++Dc.cR (b+x.size) l
theorem Dc.fk:∀(l:List Dc) (b:Nat),(Dc.cR b l).length=Dc.aB l
 | [],b=>by simp[Dc.cR,Dc.aB]
 |x::l,b=>by simp[Dc.cR,Dc.aB,Dc.bI x b,Dc.fk l (b+x.size)]
theorem Dc.uO:∀(l:List Dc) (x:Dc) (b:Nat),Dc.cR b (l++[x])=Dc.cR b l++Dc.flat (b+Dc.aB l) x
 | [],x,b=>by simp[Dc.cR,Dc.aB]
 |y::l,x,b=>by simp[Dc.cR,Dc.aB,Dc.uO l x,eD]
theorem Dc.tJ:∀(l:List Dc) (x:Dc) (b:Nat),Dc.roots b (l++[x])=Dc.roots b l++[b+Dc.aB l+x.size-1]
 | [],x,b=>by simp[Dc.roots,Dc.aB]
 |y::l,x,b=>by simp[Dc.roots,Dc.aB,Dc.tJ l x,eD]
def bJ (l:List Dc):List Node:=Dc.cR 0 l++[⟨23,0,[],0,0,Dc.roots 0 l⟩]
def Ex.lv:Ex->Nat
 | .bin op _ _=>level op
 |_=>99
def Ex.gD:Ex->Bool
 | .bin _ _ _=>true
 | .un _ _ _=>true
 |_=>false
def Ex.kD:Ex->Bool
 | .bin _ _ _=>true
 |_=>false
mutual
def Ex.dep:Ex->Nat
 | .num _ _=>1
 | .text _ _=>1
 | .name _ _=>1
 | .call _ _ l=>1+Ex.eV l
 | .index x i=>max (if x.gD then 1+x.dep else x.dep) (1+i.dep)
 | .un _ _ x=>1+(if x.kD then 1+x.dep else x.dep)
 | .bin op x y=>max (if x.lv<level op then 1+x.dep else x.dep) (if y.lv<level op+1 then 1+y.dep else y.dep)
def Ex.eV:List Ex->Nat
 | []=>0
 |x::l=>max x.dep (Ex.eV l)
end
def Ex.km (l:Nat) (e:Ex):Nat:=if e.lv<l then 1+e.dep else e.dep
def Ex.pg (e:Ex):Nat:=if e.kD then 1+e.dep else e.dep
def Ex.nt (e:Ex):Nat:=if e.gD then 1+e.dep else e.dep
theorem Ex.VH (x i:Ex):(Ex.index x i).nt=max x.nt (1+i.dep):=rfl
theorem Ex.VG (a op:Nat) (x:Ex):(Ex.un a op x).pg=1+x.pg:=rfl
theorem Ex.L4 (op:Nat) (x y:Ex):(Ex.bin op x y).dep=max (x.km (level op)) (y.km (level op+1)):=rfl
def gT (s:List UInt8):Prop:=s.length<=14/\words.contains s=false/\∃c r,s=c::r/\dK c=true/\∀x∈r,dK x=true\/isDigit x=true
def FK (s:List UInt8):Prop:=s.length<=100/\∀x∈s,(32<=x.toNat/\x.toNat<=126)\/x=9\/x=10
mutual
def Ex.aL (len:Nat):Ex->Prop
 | .num a n=>a<len/\0<=n/\n<9223372036854775808
 | .text a s=>a<len/\FK s
 | .name a s=>a<len/\gT s
 | .call a s l=>a<len/\gT s/\Ex.fm len a l
 | .index x i=>x.aL len/\i.aL len/\x.at_<=i.at_
 | .un a op x=>a<len/\x.aL len/\a<=x.at_/\1<=op/\op<=3
 | .bin op x y=>x.aL len/\y.aL len/\x.at_<=y.at_/\4<=op/\op<=21
def Ex.fm (len a:Nat):List Ex->Prop
 | []=>True
 |x::l=>x.aL len/\a<=x.at_/\Ex.fm len a l
end
theorem Ex.Be {len a:Nat}:∀{l:List Ex} {x:Ex},Ex.fm len a l->x.aL len->a<=x.at_->Ex.fm len a (l++[x])
 | [],x,_,h1,h2=>⟨h1,h2,trivial⟩
 |y::l,x,h,h1,h2=>⟨h.1,h.2.1,Ex.Be h.2.2 h1 h2⟩
theorem Ex.OZ {len a a':Nat} (h:a'<=a):∀{l:List Ex},Ex.fm len a l->Ex.fm len a' l
 | [],_=>trivial
 |x::l,g=>⟨g.1,ng h g.2.1,Ex.OZ h g.2.2⟩
theorem Ex.Bd {len a:Nat}:∀{l:List Ex},Ex.fm len a l->∀x∈l,x.aL len/\a<=x.at_
 | [],_,x,hx=>by cases hx
 |y::l,h,x,hx=>by
  cases hx with
  |head=>exact⟨h.1,h.2.1⟩
  |tail _ hx=>exact Ex.Bd h.2.2 x hx
theorem Ex.Al:∀(l:List Ex) (x:Ex),Ex.eV (l++[x])=max (Ex.eV l) x.dep
 | [],x=>by simp[Ex.eV]
 |y::l,x=>by simp[Ex.eV,Ex.Al l x,Nat.max_assoc]
theorem Ex.yz {len:Nat}:∀{e:Ex},e.aL len->e.at_<len
 | .num _ _,h=>h.1
 | .text _ _,h=>h.1
 | .name _ _,h=>h.1
 | .call _ _ _,h=>h.1
 | .index x _,h=>Ex.yz (e:=x) h.1
 | .un _ _ _,h=>h.1
 | .bin _ x _,h=>Ex.yz (e:=x) h.1
def Sm.at_:Sm->Nat
 | .expr a _=>a
 | .set x _=>x.at_
 | .if1 a _ _=>a
 | .if2 a _ _ _=>a
 | .while a _ _=>a
 | .ret a _=>a
 | .brk a=>a
 | .next a=>a
 | .block a _=>a
 | .var a _ _=>a
 | .vari a _ _ _=>a
def Sm.open:Sm->Bool
 | .if1 _ _ _=>true
 | .if2 _ _ _ b=>b.open
 | .while _ _ a=>a.open
 |_=>false
def Ex.y4:Ex->Bool
 | .name _ _=>true
 | .index _ _=>true
 |_=>false
mutual
def Sm.dep:Sm->Nat
 | .expr _ x=>1+x.dep
 | .set x y=>1+max x.dep y.dep
 | .if1 _ c a=>1+max c.dep a.dep
 | .if2 _ c a b=>1+max c.dep (max a.dep b.dep)
 | .while _ c a=>1+max c.dep a.dep
 | .ret _ x=>1+x.dep
 | .brk _=>1
 | .next _=>1
 | .block _ l=>1+Sm.eV l
 | .var _ _ _=>1
 | .vari _ _ _ x=>1+x.dep
def Sm.eV:List Sm->Nat
 | []=>0
 |x::l=>max x.dep (Sm.eV l)
end
theorem Sm.Al:∀(l:List Sm) (x:Sm),Sm.eV (l++[x])=max (Sm.eV l) x.dep
 | [],x=>by simp[Sm.eV]
 |y::l,x=>by simp[Sm.eV,Sm.Al l x,Nat.max_assoc]
def pW (ty:Int):Prop:=ty=1\/ty=2\/ty=3
mutual
def Sm.aL (len:Nat):Sm->Prop
 | .expr a x=>a<len/\x.aL len/\a<=x.at_
 | .set x y=>x.aL len/\y.aL len/\x.at_<=y.at_/\x.y4=true
 | .if1 t c a=>t<len/\c.aL len/\t<=c.at_/\a.aL len/\t<=a.at_
 | .if2 t c a b=>t<len/\c.aL len/\t<=c.at_/\a.aL len/\t<=a.at_/\b.aL len/\t<=b.at_/\a.open=false
 | .while t c a=>t<len/\c.aL len/\t<=c.at_/\a.aL len/\t<=a.at_
 | .ret t x=>t<len/\x.aL len/\t<=x.at_
 | .brk t=>t<len
 | .next t=>t<len
 | .block t l=>t<len/\Sm.fm len t l
 | .var t s ty=>t<len/\gT s/\pW ty
 | .vari t s ty x=>t<len/\gT s/\pW ty/\x.aL len/\t<=x.at_
def Sm.fm (len a:Nat):List Sm->Prop
 | []=>True
 |x::l=>x.aL len/\a<=x.at_/\Sm.fm len a l
end
theorem Sm.Be {len a:Nat}:∀{l:List Sm} {x:Sm},Sm.fm len a l->x.aL len->a<=x.at_->Sm.fm len a (l++[x])
 | [],x,_,h1,h2=>⟨h1,h2,trivial⟩
 |y::l,x,h,h1,h2=>⟨h.1,h.2.1,Sm.Be h.2.2 h1 h2⟩
def Dc.at_:Dc->Nat
 | .var a _=>a
 | .array a _ _ _=>a
 | .fn a _ _ _ _=>a
def Dc.aL (len:Nat):Dc->Prop
 | .var a s=>a<len/\gT s
 | .array a s ty n=>a<len/\gT s/\(ty=2\/ty=3)/\0<=n/\n<9223372036854775808
 | .fn a s ps bat l=>a<len/\gT s/\(∀x∈ps,a<=x.1/\x.1<len/\gT x.2.1/\pW x.2.2)/\a<=bat/\bat<len/\Sm.fm len bat l/\Sm.eV l<=40
end Go.Front
end
section
namespace Go.Proofs
open Go.AM
abbrev F (f:FuncId) (args:List AV) (U:St) (Q:bw):Prop:=Fw ae Lb f args U Q
noncomputable abbrev q (f n:Nat) (p ms:List Nat) (e:Env) (U:St):Out:=pk ae Lb f n p ms e U
noncomputable abbrev lD (t:TypeId) (U:St) (b o:Nat) (f:AV->Out):Out:=aI ae t U b o f
noncomputable abbrev pA (t:TypeId) (cs:List AV) (o:Nat) (f:AV->Out):Out:=dY ae t cs o f
noncomputable abbrev cA (n f:Nat) (a:List AV) (U:St) (k:AV->St->Out):Out:=cW ae Lb n f a U k
noncomputable abbrev cI (n f:Nat) (a:List AV) (U:St) (k:Int->St->Out):Out:=cW ae Lb n f a U λv U=>gY .i64 v λi=>k i U
noncomputable abbrev cC (n f:Nat) (a:List AV) (U:St) (k:List AV->St->Out):Out:=cW ae Lb n f a U λv U=>Cl v λi=>k i U
noncomputable abbrev cB (n f:Nat) (a:List AV) (U:St) (k:Bool->St->Out):Out:=cW ae Lb n f a U λv U=>gm v λi=>k i U
noncomputable abbrev cG (n f:Nat) (a:List AV) (U:St) (k:List AV->St->Out):Out:=cW ae Lb n f a U λv U=>kQ v λi=>k i U
noncomputable abbrev cS (n f:Nat) (a:List AV) (U:St) (k:By->St->Out):Out:=cW ae Lb n f a U λv U=>jY v λi=>k i U
noncomputable abbrev lI (t:TypeId) (U:St) (b o:Nat) (k:Int->Out):Out:=aI ae t U b o λv=>gY .i64 v k
noncomputable abbrev lP (t:TypeId) (U:St) (b o:Nat) (k:Ad->Out):Out:=aI ae t U b o λv=>xK v k
noncomputable abbrev lB (t:TypeId) (U:St) (b o:Nat) (k:Bool->Out):Out:=aI ae t U b o λv=>gm v k
noncomputable abbrev lG (t:TypeId) (U:St) (b o:Nat) (k:List AV->Out):Out:=aI ae t U b o λv=>kQ v k
noncomputable abbrev lS (t:TypeId) (U:St) (b o:Nat) (k:By->Out):Out:=aI ae t U b o λv=>jY v k
noncomputable abbrev lL (t:TypeId) (U:St) (b o:Nat) (k:Ad->Nat->On->Nat->Out):Out:=aI ae t U b o λv=>gn v k
end Go.Proofs
end
section
namespace Go.Proofs
open Go.AM
set_option maxHeartbeats 4000000
set_option maxRecDepth 100000
section
variable (n m0 m1:Nat) (a1:Ad) (i1:Int) (s1:By) (a2:Ad) (b2:Bool) (i2:Int) (n2:Nat) (s2:By) (a3:Ad) (c3:On) (i3:Int) (n3:Nat) (c4:On) (i4:Int) (n4 p4:Nat) (s4:By) (z4:Nat) (c5:On) (i5:Int) (o5:Nat) (s5:By) (z5:Nat) (i6:Int) (s6:By) (z6:Nat) (b7:Bool) (i7 i8:Int) (s8:By) (i9:Int) (s9:By) (i10:Int) (s10:By) (i11:Int) (s11:By) (i12:Int) (U:St)
noncomputable def wz:Out:=q 80 n (dg 111111001000) [m0] (en 205 [(0,vA a1),(2,.lp 2 0),(3,vJ i2)] [(2,[J i3,J i4,.str s5,J i6])]) U
noncomputable def A9:Out:=q 80 n (dg 11111100111000) [m0] (en 205 [(0,vA a1),(2,.lp 2 0),(3,vJ i2),(4,.v (.int .u8 i3))] [(2,[J i4,J i5,.str s6,J i7])]) U
noncomputable def Ol:Out:=q 80 n (dg 1111111) [] (en 205 [(0,vA a1),(2,.lp 2 0),(3,vJ i2)] [(2,[J i3,J i4,.str s5,J i6])]) U
noncomputable def DL:Out:=q 80 n (dg 11111100101) [] (en 205 [(0,vA a1),(2,.lp 2 0),(3,vJ i2)] [(2,[J i3,J i4,.str s5,J i6])]) U
noncomputable def DM:Out:=q 80 n (dg 1111110011101) [] (en 205 [(0,vA a1),(2,.lp 2 0),(3,vJ i2),(4,.v (.int .u8 i3))] [(2,[J i4,J i5,.str s6,J i7])]) U
noncomputable def Ba:Out:=q 80 n (dg 1111111010) [m0] (en 205 [(0,vA a1),(2,.lp 2 0),(3,vJ i2),(175,vS a3 n4 c5 z6),(176,vJ i7),(177,vJ i8)] [(2,[J i9,J i10,.str s11,J i12])]) U
noncomputable def ri:Out:=q 80 n (dg 111111001110111) [] (en 205 [(0,vA a1),(2,.lp 2 0),(3,vJ i2),(6,vJ i3)] [(2,[J i4,J i5,.str s6,J i7])]) U
noncomputable def Om:Out:=q 80 n (dg 11111111) [] (en 205 [(2,.lp 2 0),(3,vJ i1)] [(2,[J i2,J i3,.str s4,J i5])]) U
noncomputable def re:Out:=q 103 n [0] [m0] (en 80 [(0,vA a1)] []) U
noncomputable def C6:Out:=q 103 n (dg 10010101) [m0] (en 80 [(0,vA a1),(22,.v (.bool true))] []) U
noncomputable def Mp:Out:=q 103 n (dg 10010101) [m0] (en 80 [(0,vA a1),(22,.v (.bool b2))] []) U
noncomputable def yc:Out:=q 103 n (dg 100101011100) [m0,m1] (en 80 [(0,vA a1)] []) U
noncomputable def Au:Out:=q 106 n (dg 11010) [m0] (en 17 [(1,.v (.str s1)),(4,.v (.bool false)),(7,vS a2 n3 c4 z5),(8,vJ i6),(9,vJ i7)] []) U
noncomputable def Mr:Out:=q 106 n [1,1] [] (en 17 [(4,.v (.bool false))] []) U
noncomputable def sI:Out:=q 110 n (dg 1111100) [m0] (en 114 [(0,vA a1),(1,vJ i2),(4,.lp 4 0),(5,.v (.int .u8 i3)),(6,vP p4 o5)] [(4,[J i6,J i7,.str s8,J i9])]) U
noncomputable def C7:Out:=q 110 n (dg 111110001) [m0] (en 114 [(0,vA a1),(1,vJ i2),(4,.lp 4 0),(5,.v (.int .u8 i3)),(6,vP p4 o5)] [(4,[J i6,J i7,.str s8,J i9])]) U
noncomputable def wk:Out:=q 110 n (dg 111111) [] (en 114 [(0,vA a1),(1,vJ i2),(4,.lp 4 0),(5,.v (.int .u8 i3)),(6,vP p4 o5)] [(4,[J i6,J i7,.str s8,J i9])]) U
noncomputable def C8:Out:=q 110 n (dg 1111100010101) [m0] (en 114 [(0,vA a1),(1,vJ i2),(4,.lp 4 0),(5,.v (.int .u8 i3)),(6,vP p4 o5),(7,.v (.int .u8 i6)),(65,.v (.bool true))] [(4,[J i7,J i8,.str s9,J i10])]) U
noncomputable def My:Out:=q 110 n (dg 1111100010101) [m0] (en 114 [(0,vA a1),(1,vJ i2),(4,.lp 4 0),(5,.v (.int .u8 i3)),(6,vP p4 o5),(7,.v (.int .u8 i6)),(65,.v (.bool b7))] [(4,[J i8,J i9,.str s10,J i11])]) U
noncomputable def Mz:Out:=q 110 n (dg 1111100010101) [m0] (en 114 [(0,vA a1),(1,vJ i2),(4,.lp 4 0),(5,.v (.int .u8 i3)),(6,vP p4 o5),(7,.v (.int .u8 i6)),(65,.v (.bool false))] [(4,[J i7,J i8,.str s9,J i10])]) U
noncomputable def C9:Out:=q 110 n (dg 1111111) [] (en 114 [(0,vA a1),(1,vJ i2),(4,.lp 4 0),(5,.v (.int .u8 i3)),(6,vP p4 o5)] [(4,[J i6,J i7,.str s8,J i9])]) U
end
section
set_option autoImplicit true
set_option relaxedAutoImplicit true
variable {n2 n3 n4 p4 z4 o5 z5 z6:Nat} {s1 s2 s4 s5 s6 s8 s9 s10 s11:By}
theorem ZN (w:Wp Q λu=>
 cA u.n 103 [.ptr a1] U λ_ U=>
 af a1 λb o=>
 lI 3 U b (o+1) λi=>
 af a1 λb o=>
 lS 9 U b (o+0) λs=>
 cond (i==(s.length:Int)) (some (.ret (.agg [J 0,J i,.str [],J 0]),U)) (af a1 λb o=>
 lS 9 U b (o+0) λs=>
 cP s i λu0=>
 cB u.n 104 [.int .u8 (u0.toNat:Int)] U λb U=>
 cond b (wz u.n u.n a1 i 0 0 [] 0 U) (cB u.n 105 [.int .u8 (u0.toNat:Int)] U λb U=>
 cond b (A9 u.n u.n a1 i (u0.toNat:Int) 0 0 [] 0 U) (cond ((u0.toNat:Int)==34) (cG u.n 110 [.ptr a1,J i] U λc U=>
 ui c λi r=>
 ui r λi0 r=>
 us r λs r=>
 ui r λi1 r=>
 aY r<|
 some (.ret (.agg [J i,J i0,.str s,J i1]),U)) (cond ((u0.toNat:Int)==39) (cG u.n 110 [.ptr a1,J i] U λc U=>
 ui c λi r=>
 ui r λi0 r=>
 us r λs r=>
 ui r λi1 r=>
 aY r<|
 some (.ret (.agg [J i,J i0,.str s,J i1]),U)) (Ol u.n a1 i 0 0 [] 0 U)))))):F 80 [.ptr a1] U Q:=aJ [(dg 1111111)] w
theorem Oo (w:Wp Q λu=>
 af a1 λb o=>
 lI 3 U b (o+1) λi=>
 af a1 λb o=>
 lS 9 U b (o+0) λs=>
 cond (decide (i<(s.length:Int))) (af a1 λb o=>
 lS 9 U b (o+0) λs=>
 af a1 λb o=>
 lI 3 U b (o+1) λi=>
 cP s i λu0=>
 cZ ae Lb u.n 104 [.int .u8 (u0.toNat:Int)] U λv U=>
 gm v λb=>
 cond b (af a1 λb o=>
 lI 3 U b (o+1) λi=>
 af a1 λb o=>
 aT U b (o+1) [J ((ah .i64 (i+1)))] λU=>
 wz u.n u.m1 a1 i2 i3 i4 s5 i6 U) (af a1 λb o=>
 lS 9 U b (o+0) λs=>
 af a1 λb o=>
 lI 3 U b (o+1) λi=>
 cP s i λu0=>
 cZ ae Lb u.n 105 [.int .u8 (u0.toNat:Int)] U λv U=>
 gm v λb=>
 cond b (af a1 λb o=>
 lI 3 U b (o+1) λi=>
 af a1 λb o=>
 aT U b (o+1) [J ((ah .i64 (i+1)))] λU=>
 wz u.n u.m1 a1 i2 i3 i4 s5 i6 U) (DL u.n a1 i2 i3 i4 s5 i6 U))) (DL u.n a1 i2 i3 i4 s5 i6 U)):Wp Q λu=>wz u.n u.m1 a1 i2 i3 i4 s5 i6 U:=cK [(dg 11111100101)] w
theorem Oq (w:Wp Q λu=>
 af a1 λb o=>
 lI 3 U b (o+1) λi=>
 af a1 λb o=>
 lS 9 U b (o+0) λs=>
 cond (decide (i<(s.length:Int))) (af a1 λb o=>
 lS 9 U b (o+0) λs=>
 af a1 λb o=>
 lI 3 U b (o+1) λi=>
 cP s i λu0=>
 cZ ae Lb u.n 105 [.int .u8 (u0.toNat:Int)] U λv U=>
 gm v λb=>
 cond b (af a1 λb o=>
 lI 3 U b (o+1) λi=>
 af a1 λb o=>
 aT U b (o+1) [J ((ah .i64 (i+1)))] λU=>
 A9 u.n u.m1 a1 i2 i3 i4 i5 s6 i7 U) (DM u.n a1 i2 i3 i4 i5 s6 i7 U)) (DM u.n a1 i2 i3 i4 i5 s6 i7 U)):Wp Q λu=>A9 u.n u.m1 a1 i2 i3 i4 i5 s6 i7 U:=cK [(dg 1111110011101)] w
theorem ZO (w:Wp Q λu=>
 cA u.n 111 [] U λv U=>
 gn v λa k c z=>
 Ba u.n u.n a1 i2 a k c z (k:Int) 0 i3 i4 s5 i6 U):Wp Q λu=>Ol u.n a1 i2 i3 i4 s5 i6 U:=aH [] w
theorem ZP (w:Wp Q λu=>
 af a1 λb o=>
 lS 9 U b (o+0) λs=>
 af a1 λb o=>
 lI 3 U b (o+1) λi=>
 lU s i2 i λs=>
 cA u.n 107 [] U λv U=>
 gn v λa k c z=>
 cB u.n 106 [.slice a k c z,.str s] U λb U=>
 cond b (some (.ret (.agg [J 2,J i2,.str s,J 0]),U)) (cond (decide ((s.length:Int)>14)) (cA u.n 108 [J 13,J i2] U λ_ U=>
 some (.ret (.agg [J 1,J i2,.str s,J 0]),U)) (some (.ret (.agg [J 1,J i2,.str s,J 0]),U)))):Wp Q λu=>DL u.n a1 i2 i3 i4 s5 i6 U:=aH [] w
theorem ZQ (w:Wp Q λu=>
 af a1 λb o=>
 lS 9 U b (o+0) λs=>
 af a1 λb o=>
 lI 3 U b (o+1) λi=>
 lU s i2 i λs=>
 cZ ae Lb u.n 109 [.str s,J 10,J 64] U λv U=>
 Cl v λc=>
 ui c λi r=>
 jv r λx r=>
 aY r<|
 ji ae 147 x .nilIface λb=>
 cond (!b) (cA u.n 108 [J 13,J i2] U λ_ U=>
 ri u.n a1 i2 i i4 i5 s6 i7 U) (cond (i3==48) (af a1 λb o=>
 lI 3 U b (o+1) λi0=>
 cond (decide (i0>(ah .i64 (i2+1)))) (cA u.n 108 [J 13,J i2] U λ_ U=>
 ri u.n a1 i2 i i4 i5 s6 i7 U) (ri u.n a1 i2 i i4 i5 s6 i7 U)) (ri u.n a1 i2 i i4 i5 s6 i7 U))):Wp Q λu=>DM u.n a1 i2 i3 i4 i5 s6 i7 U:=aH [(dg 111111001110111)] w
theorem Ot (w:Wp Q λu=>
 cond (decide (i8<i7)) (ao i8 n4<|
 af a3 λb o=>
 ar z6 1<|
 lS 9 U b (o+((i8).toNat*1)) λs=>
 af a1 λb o=>
 lS 9 U b (o+0) λs0=>
 lU s0 i2 (s0.length:Int) λs0=>
 cB u.n 112 [.str s0,.str s] U λb U=>
 cond b (af a1 λb o=>
 lI 3 U b (o+1) λi=>
 af a1 λb o=>
 aT U b (o+1) [J ((ah .i64 (i+(s.length:Int))))] λU=>
 some (.ret (.agg [J 5,J i2,.str s,J 0]),U)) (Ba u.n u.m1 a1 i2 a3 n4 c5 z6 i7 (ah .i64 (i8+1)) i9 i10 s11 i12 U)) (Om u.n i2 i9 i10 s11 i12 U)):Wp Q λu=>Ba u.n u.m1 a1 i2 a3 n4 c5 z6 i7 i8 i9 i10 s11 i12 U:=cK [(dg 11111111)] w
theorem ZR (w:Wp Q λu=>
 some (.ret (.agg [J 3,J i2,.str [],J i3]),U)):Wp Q λu=>ri u.n a1 i2 i3 i4 i5 s6 i7 U:=aH [] w
theorem ZS (w:Wp Q λu=>
 cA u.n 108 [J 13,J i1] U λ_ U=>
 some (.ret (.agg [J 0,J 0,.str [],J 0]),U)):Wp Q λu=>Om u.n i1 i2 i3 s4 i5 U:=aH [] w
theorem Wf (w:Wp Q λu=>
 re u.n u.n a1 U):F 103 [.ptr a1] U Q:=aJ [] w
theorem Mq (w:Wp Q λu=>
 af a1 λb o=>
 lI 3 U b (o+1) λi=>
 af a1 λb o=>
 lS 9 U b (o+0) λs=>
 cond (decide (i<(s.length:Int))) (af a1 λb o=>
 lS 9 U b (o+0) λs=>
 af a1 λb o=>
 lI 3 U b (o+1) λi=>
 cP s i λu0=>
 cond ((u0.toNat:Int)==32) (C6 u.n u.m1 a1 U) (cond ((u0.toNat:Int)==9) (C6 u.n u.m1 a1 U) (Mp u.n u.m1 a1 ((u0.toNat:Int)==10) U))) (some (.ret (.tuple []),U))):Wp Q λu=>re u.n u.m1 a1 U:=cK [(dg 10010101)] w
theorem Wg (w:Wp Q λu=>
 af a1 λb o=>
 lI 3 U b (o+1) λi=>
 af a1 λb o=>
 aT U b (o+1) [J ((ah .i64 (i+1)))] λU=>
 re u.n u.m1 a1 U):Wp Q λu=>C6 u.n u.m1 a1 U:=aH [] w
theorem Wi (w:Wp Q λu=>
 cond b2 (af a1 λb o=>
 lI 3 U b (o+1) λi=>
 af a1 λb o=>
 aT U b (o+1) [J ((ah .i64 (i+1)))] λU=>
 re u.n u.m1 a1 U) (af a1 λb o=>
 lS 9 U b (o+0) λs=>
 af a1 λb o=>
 lI 3 U b (o+1) λi=>
 lU s i (s.length:Int) λs=>
 cZ ae Lb u.n 112 [.str s,.str [47,47]] U λv U=>
 gm v λb=>
 cond b (yc u.n u.m1 u.n a1 U) (some (.ret (.tuple []),U)))):Wp Q λu=>Mp u.n u.m1 a1 b2 U:=aH [] w
theorem GX (w:Wp Q λu=>
 af a1 λb o=>
 lI 3 U b (o+1) λi=>
 af a1 λb o=>
 lS 9 U b (o+0) λs=>
 cond (decide (i<(s.length:Int))) (af a1 λb o=>
 lS 9 U b (o+0) λs=>
 af a1 λb o=>
 lI 3 U b (o+1) λi=>
 cP s i λu0=>
 cond ((u0.toNat:Int) !=10) (af a1 λb o=>
 lI 3 U b (o+1) λi=>
 af a1 λb o=>
 aT U b (o+1) [J ((ah .i64 (i+1)))] λU=>
 yc u.n u.m1 u.m2 a1 U) (re u.n u.m1 a1 U)) (re u.n u.m1 a1 U)):Wp Q λu=>yc u.n u.m1 u.m2 a1 U:=yx [] w
theorem Wj (w:Wp Q λu=>
 cond (decide (i1>=97)) (cond (decide (i1<=122)) (some (.ret (.bool true),U)) (cond (decide (i1>=65)) (cond (decide (i1<=90)) (some (.ret (.bool true),U)) (some (.ret (.bool (i1==95)),U))) (some (.ret (.bool (i1==95)),U)))) (cond (decide (i1>=65)) (cond (decide (i1<=90)) (some (.ret (.bool true),U)) (some (.ret (.bool (i1==95)),U))) (some (.ret (.bool (i1==95)),U)))):F 104 [.int .u8 i1] U Q:=aJ [] w
theorem Wk (w:Wp Q λu=>
 cond (decide (i1>=48)) (some (.ret (.bool (decide (i1<=57))),U)) (some (.ret (.bool false),U))):F 105 [.int .u8 i1] U Q:=aJ [] w
theorem Wl (w:Wp Q λu=>
 Au u.n u.n s5 a1 n2 c3 z4 (n2:Int) 0 U):F 106 [.slice a1 n2 c3 z4,.str s5] U Q:=aJ [] w
theorem Ms (w:Wp Q λu=>
 cond (decide (i7<i6)) (ao i7 n3<|
 af a2 λb o=>
 ar z5 1<|
 lS 9 U b (o+((i7).toNat*1)) λs=>
 cond (s==s1) (some (.ret (.bool true),U)) (Au u.n u.m1 s1 a2 n3 c4 z5 i6 (ah .i64 (i7+1)) U)) (Mr u.n U)):Wp Q λu=>Au u.n u.m1 s1 a2 n3 c4 z5 i6 i7 U:=cK [[1,1]] w
theorem Wm (w:Wp Q λu=>
 some (.ret (.bool false),U)):Wp Q λu=>Mr u.n U:=aH [] w
theorem Wn (w:Wp Q λu=>
 cA u.n 143 [.str [105,110,116,32,99,104,97,114,32,105,102,32,101,108,115,101,32,119,104,105,108,101,32,114,101,116,117,114,110,32,98,114,101,97,107,32,99,111,110,116,105,110,117,101]] U λv U=>
 gn v λa k c z=>
 some (.ret (.slice a k c z),U)):F 107 [] U Q:=aJ [] w
theorem Wo (w:Wp Q λu=>
 some (.pan (.iface 129 (.agg [J i1,J i2])),U)):F 108 [J i1,J i2] U Q:=aJ [] w
theorem Mw (w:Wp Q λu=>
 af a1 λb o=>
 lS 9 U b (o+0) λs=>
 cP s i2 λu0=>
 af a1 λb o=>
 aT U b (o+1) [J ((ah .i64 (i2+1)))] λU=>
 let U0:St:=U++[bx 92 [.ptr none,N0]];
 sI u.n u.n a1 i2 (u0.toNat:Int) U.length 0 0 0 [] 0 U0):F 110 [.ptr a1,J i2] U Q:=aJ [] w
theorem G2 (w:Wp Q λu=>
 cond (i3==39) (C7 u.n u.m1 a1 i2 i3 p4 o5 i6 i7 s8 i9 U) (af a1 λb o=>
 lI 3 U b (o+1) λi=>
 af a1 λb o=>
 lS 9 U b (o+0) λs=>
 cond (decide (i>=(s.length:Int))) (C7 u.n u.m1 a1 i2 i3 p4 o5 i6 i7 s8 i9 U) (af a1 λb o=>
 lS 9 U b (o+0) λs=>
 af a1 λb o=>
 lI 3 U b (o+1) λi=>
 cP s i λu0=>
 cond ((u0.toNat:Int) !=34) (C7 u.n u.m1 a1 i2 i3 p4 o5 i6 i7 s8 i9 U) (wk u.n a1 i2 i3 p4 o5 i6 i7 s8 i9 U)))):Wp Q λu=>sI u.n u.m1 a1 i2 i3 p4 o5 i6 i7 s8 i9 U:=cK [(dg 111110001),(dg 111111)] w
theorem G0 (w:Wp Q λu=>
 cC u.n 146 [.ptr a1,.int .u8 i3] U λc U=>
 jv c λx r=>
 gY .u8 x λi=>
 ub r λb r=>
 aY r<|
 cond (!b) (C8 u.n u.m1 a1 i2 i3 p4 o5 i i6 i7 s8 i9 U) (cond (i3==34) (cond (i==0) (C8 u.n u.m1 a1 i2 i3 p4 o5 i i6 i7 s8 i9 U) (cI u.n 147 [.ptr (sm p4 o5)] U λi0 U=>
 My u.n u.m1 a1 i2 i3 p4 o5 i (i0==100) i6 i7 s8 i9 U)) (Mz u.n u.m1 a1 i2 i3 p4 o5 i i6 i7 s8 i9 U))):Wp Q λu=>C7 u.n u.m1 a1 i2 i3 p4 o5 i6 i7 s8 i9 U:=aH [(dg 1111100010101)] w
theorem Mx (w:Wp Q λu=>
 af a1 λb o=>
 lI 3 U b (o+1) λi=>
 af a1 λb o=>
 lS 9 U b (o+0) λs=>
 cond (decide (i>=(s.length:Int))) (cA u.n 108 [J 13,J i2] U λ_ U=>
 C9 u.n a1 i2 i3 p4 o5 i6 i7 s8 i9 U) (af a1 λb o=>
 lS 9 U b (o+0) λs=>
 af a1 λb o=>
 lI 3 U b (o+1) λi=>
 cP s i λu0=>
 cond ((u0.toNat:Int) !=i3) (cA u.n 108 [J 13,J i2] U λ_ U=>
 C9 u.n a1 i2 i3 p4 o5 i6 i7 s8 i9 U) (C9 u.n a1 i2 i3 p4 o5 i6 i7 s8 i9 U))):Wp Q λu=>wk u.n a1 i2 i3 p4 o5 i6 i7 s8 i9 U:=aH [(dg 1111111)] w
theorem G1 (w:Wp Q λu=>
 cA u.n 108 [J 13,J i2] U λ_ U=>
 cA u.n 100 [.ptr (sm p4 o5),.int .u8 i6] U λ_ U=>
 cond (i3==39) (wk u.n a1 i2 i3 p4 o5 i7 i8 s9 i10 U) (sI u.n u.m1 a1 i2 i3 p4 o5 i7 i8 s9 i10 U)):Wp Q λu=>C8 u.n u.m1 a1 i2 i3 p4 o5 i6 i7 i8 s9 i10 U:=aH [(dg 111111)] w
theorem Wu (w:Wp Q λu=>
 cond b7 (cA u.n 108 [J 13,J i2] U λ_ U=>
 cA u.n 100 [.ptr (sm p4 o5),.int .u8 i6] U λ_ U=>
 cond (i3==39) (wk u.n a1 i2 i3 p4 o5 i8 i9 s10 i11 U) (sI u.n u.m1 a1 i2 i3 p4 o5 i8 i9 s10 i11 U)) (cA u.n 100 [.ptr (sm p4 o5),.int .u8 i6] U λ_ U=>
 cond (i3==39) (wk u.n a1 i2 i3 p4 o5 i8 i9 s10 i11 U) (sI u.n u.m1 a1 i2 i3 p4 o5 i8 i9 s10 i11 U))):Wp Q λu=>My u.n u.m1 a1 i2 i3 p4 o5 i6 b7 i8 i9 s10 i11 U:=aH [(dg 111111)] w
theorem Wv (w:Wp Q λu=>
 cA u.n 100 [.ptr (sm p4 o5),.int .u8 i6] U λ_ U=>
 cond (i3==39) (wk u.n a1 i2 i3 p4 o5 i7 i8 s9 i10 U) (sI u.n u.m1 a1 i2 i3 p4 o5 i7 i8 s9 i10 U)):Wp Q λu=>Mz u.n u.m1 a1 i2 i3 p4 o5 i6 i7 i8 s9 i10 U:=aH [(dg 111111)] w
theorem MA (w:Wp Q λu=>
 af a1 λb o=>
 lI 3 U b (o+1) λi=>
 af a1 λb o=>
 aT U b (o+1) [J ((ah .i64 (i+1)))] λU=>
 cond (i3==34) (cS u.n 34 [.ptr (sm p4 o5)] U λs U=>
 some (.ret (.agg [J 4,J i2,.str s,J 0]),U)) (cS u.n 34 [.ptr (sm p4 o5)] U λs U=>
 cP s 0 λu0=>
 some (.ret (.agg [J 3,J i2,.str [],J ((ah .i64 (u0.toNat:Int)))]),U))):Wp Q λu=>C9 u.n a1 i2 i3 p4 o5 i6 i7 s8 i9 U:=aH [] w
theorem Ww (w:Wp Q λu=>
 cA u.n 143 [.str [60,60,32,62,62,32,60,61,32,62,61,32,61,61,32,33,61,32,38,38,32,124,124,32,40,32,41,32,123,32,125,32,91,32,93,32,59,32,44,32,42,32,47,32,37,32,43,32,45,32,60,32,62,32,38,32,94,32,124,32,61,32,33,32,126]] U λv U=>
 gn v λa k c z=>
 some (.ret (.slice a k c z),U)):F 111 [] U Q:=aJ [] w
theorem Wx (w:Wp Q λu=>
 cB u.n 148 [.str s1,.str s2] U λb U=>
 some (.ret (.bool b),U)):F 112 [.str s1,.str s2] U Q:=aJ [] w
theorem WU (w:Wp Q λu=>
 cond (decide ((s1.length:Int)>=(s2.length:Int))) (lU s1 0 (s2.length:Int) λs=>
 some (.ret (.bool (s==s2)),U)) (some (.ret (.bool false),U))):F 148 [.str s1,.str s2] U Q:=aJ [] w
theorem WS (w:Wp Q λu=>
 af a1 λb o=>
 lI 3 U b (o+1) λi=>
 af a1 λb o=>
 lS 9 U b (o+0) λs=>
 cond (decide (i>=(s.length:Int))) (some (.ret (.tuple [.int .u8 0,.bool false]),U)) (af a1 λb o=>
 lS 9 U b (o+0) λs=>
 af a1 λb o=>
 lI 3 U b (o+1) λi=>
 cP s i λu0=>
 af a1 λb o=>
 lI 3 U b (o+1) λi=>
 af a1 λb o=>
 aT U b (o+1) [J ((ah .i64 (i+1)))] λU=>
 cond ((u0.toNat:Int) !=92) (cond (decide ((u0.toNat:Int)>=32)) (cond (decide ((u0.toNat:Int)<=126)) (some (.ret (.tuple [.int .u8 (u0.toNat:Int),.bool ((u0.toNat:Int) !=i2)]),U)) (some (.ret (.tuple [.int .u8 (u0.toNat:Int),.bool false]),U))) (some (.ret (.tuple [.int .u8 (u0.toNat:Int),.bool false]),U))) (af a1 λb o=>
 lI 3 U b (o+1) λi=>
 af a1 λb o=>
 lS 9 U b (o+0) λs=>
 cond (decide (i>=(s.length:Int))) (some (.ret (.tuple [.int .u8 0,.bool false]),U)) (af a1 λb o=>
 lS 9 U b (o+0) λs=>
 af a1 λb o=>
 lI 3 U b (o+1) λi=>
 cP s i λu0=>
 cZ ae Lb u.n 174 [.str [110,116,48,92,39,34],.int .u8 (u0.toNat:Int)] U λv U=>
 xI v λi=>
 af a1 λb o=>
 lI 3 U b (o+1) λi0=>
 af a1 λb o=>
 aT U b (o+1) [J ((ah .i64 (i0+1)))] λU=>
 cond (decide (i<0)) (some (.ret (.tuple [.int .u8 0,.bool false]),U)) (cP [10,9,0,92,39,34] i λu0=>
 some (.ret (.tuple [.int .u8 (u0.toNat:Int),.bool true]),U)))))):F 146 [.ptr a1,.int .u8 i2] U Q:=aJ [] w
theorem WT (w:Wp Q λu=>
 af a1 λb o=>
 lL 74 U b (o+1) λ_ k _ _=>
 some (.ret (J (k:Int)),U)):F 147 [.ptr a1] U Q:=aJ [] w
theorem Mo (w:Wp Q λu=>
 cA u.n 132 [.ptr a1] U λ_ U=>
 af a1 λb o=>
 lL 74 U b (o+1) λa k _ z=>
 dT U 5 1 1 a k z 1 [.int .u8 i2] λa k c U=>
 af a1 λb o=>
 aT U b (o+1) [.slice a k c 1] λU=>
 some (.ret .nilIface,U)):F 100 [.ptr a1,.int .u8 i2] U Q:=aJ [] w
theorem aap (w:Wp Q λu=>
 cA u.n 132 [.ptr a1] U λ_ U=>
 af a1 λb o=>
 lL 74 U b (o+1) λa k _ z=>
 dT U 5 1 1 a k z s2.length (bH s2) λa k c U=>
 af a1 λb o=>
 aT U b (o+1) [.slice a k c 1] λU=>
 some (.ret (.tuple [J (s2.length:Int),.nilIface]),U)):F 99 [.ptr a1,.str s2] U Q:=aJ [] w
end
end Go.Proofs
end
section
namespace Go.Proofs
open Go.AM
set_option maxHeartbeats 4000000
set_option maxRecDepth 100000
section
variable (n m0:Nat) (a1:Ad) (i1 i2:Int) (s2:By) (i3:Int) (s3:By) (a4:Ad) (i4:Int) (s4:By) (a5:Ad) (i5:Int) (n5:Nat) (s5:By) (b6:Bool) (c6:On) (i6:Int) (n6:Nat) (s6:By) (a7:Ad) (c7:On) (i7:Int) (z7:Nat) (a8:Ad) (i8:Int) (n8 z8:Nat) (a9:Ad) (c9:On) (n9:Nat) (c10:On) (n10 z10:Nat) (c11:On) (z11 z12:Nat) (U:St)
noncomputable def Ht:Out:=q 81 n (dg 11111) [] (en 58 [(0,vA a1),(2,vJ i2),(3,vJ i3),(4,vJ i4)] []) U
noncomputable def Ov:Out:=q 81 n (dg 111111001) [] (en 58 [(0,vA a1),(2,vJ i2),(3,vJ i3),(4,vJ i4),(5,.v (.str s5)),(19,.v (.bool b6))] []) U
noncomputable def Ow:Out:=q 81 n (dg 111111001) [] (en 58 [(0,vA a1),(2,vJ i2),(3,vJ i3),(4,vJ i4),(5,.v (.str s5)),(19,.v (.bool false))] []) U
noncomputable def yo:Out:=q 81 n (dg 1111111) [] (en 58 [(0,vA a1),(2,vJ i2),(3,vJ i3),(4,vJ i4),(5,.v (.str s5))] []) U
noncomputable def Hu:Out:=q 82 n [1,1] [] (en 33 [(0,vA a1),(3,.lp 3 0),(4,vJ i2)] [(3,[J i3,J i4,.str s5,J i6,J i7,.slice a8 n9 c10 z11])]) U
noncomputable def Aw:Out:=q 117 n (dg 11110100) [m0] (en 39 [(0,vA a1),(1,vJ i2),(2,.v (.str s3)),(6,vJ i4),(7,vS a5 n6 c7 z8)] []) U
noncomputable def Da:Out:=q 117 n (dg 11111) [] (en 39 [(0,vA a1),(1,vJ i2),(2,.v (.str s3)),(6,vJ i4),(7,vS a5 n6 c7 z8)] []) U
noncomputable def Ay:Out:=q 150 n (dg 11111) [] (en 25 [(0,vA a1),(2,.lp 2 0),(3,vJ i2),(4,vJ i3)] [(2,[J i4,J i5,.str s6,J i7,J i8,.slice a9 n10 c11 z12])]) U
noncomputable def Az:Out:=q 151 n (dg 1111100) [m0] (en 27 [(0,vA a1),(2,vJ i2),(3,vJ i3),(4,vS a4 n5 c6 z7)] []) U
noncomputable def MG:Out:=q 151 n (dg 111111) [] (en 27 [(0,vA a1),(2,vJ i2),(3,vJ i3),(4,vS a4 n5 c6 z7)] []) U
end
section
set_option autoImplicit true
set_option relaxedAutoImplicit true
variable {n5 n6 z7 n8 z8 n9 n10 z10 z11 z12:Nat} {s2 s3 s4 s5 s6:By}
theorem ZT (w:Wp Q λu=>
 af a1 λb o=>
 lI 3 U b ((o+2)+1) λi=>
 cB u.n 113 [.ptr a1,.str [99,104,97,114]] U λb U=>
 cond b (Ht u.n a1 0 i 2 U) (cA u.n 114 [.ptr a1,.str [105,110,116]] U λ_ U=>
 Ht u.n a1 0 i 3 U)):F 81 [.ptr a1] U Q:=aJ [(dg 11111)] w
theorem Ou (w:Wp Q λu=>
 cG u.n 115 [.ptr a1,J 1] U λc U=>
 ui c λ_ r=>
 ui r λ_ r=>
 us r λs r=>
 ui r λ_ r=>
 aY r<|
 cond (i4==3) (cB u.n 113 [.ptr a1,.str [59]] U λb U=>
 Ov u.n a1 i2 i3 i4 s b U) (Ow u.n a1 i2 i3 i4 s U)):Wp Q λu=>Ht u.n a1 i2 i3 i4 U:=aH [(dg 111111001)] w
theorem ZU (w:Wp Q λu=>
 cond b6 (cI u.n 82 [.ptr a1,.agg [J 20,J i3,.str s5,J 0,J 1,N0]] U λi U=>
 some (.ret (J i),U)) (cond (i4==3) (cB u.n 116 [.ptr a1,.str [40]] U λb U=>
 cond b (cI u.n 117 [.ptr a1,J i3,.str s5] U λi U=>
 some (.ret (J i),U)) (yo u.n a1 i2 i3 i4 s5 U)) (yo u.n a1 i2 i3 i4 s5 U))):Wp Q λu=>Ov u.n a1 i2 i3 i4 s5 b6 U:=aH [(dg 1111111)] w
theorem ZV (w:Wp Q λu=>
 cond (i4==3) (cB u.n 116 [.ptr a1,.str [40]] U λb U=>
 cond b (cI u.n 117 [.ptr a1,J i3,.str s5] U λi U=>
 some (.ret (J i),U)) (yo u.n a1 i2 i3 i4 s5 U)) (yo u.n a1 i2 i3 i4 s5 U)):Wp Q λu=>Ow u.n a1 i2 i3 i4 s5 U:=aH [(dg 1111111)] w
theorem ZW (w:Wp Q λu=>
 cA u.n 114 [.ptr a1,.str [91]] U λ_ U=>
 cG u.n 115 [.ptr a1,J 3] U λc U=>
 ui c λ_ r=>
 ui r λ_ r=>
 us r λ_ r=>
 ui r λi r=>
 aY r<|
 cA u.n 114 [.ptr a1,.str [93]] U λ_ U=>
 cA u.n 114 [.ptr a1,.str [59]] U λ_ U=>
 cI u.n 82 [.ptr a1,.agg [J 21,J i3,.str s5,J i,J i4,N0]] U λi U=>
 some (.ret (J i),U)):Wp Q λu=>yo u.n a1 i2 i3 i4 s5 U:=aH [] w
theorem ZX (w:Wp Q λu=>
 af a1 λb o=>
 lL 24 U b (o+6) λ_ k _ _=>
 cond ((k:Int)==4096) (af a1 λb o=>
 lI 3 U b ((o+2)+1) λi=>
 cA u.n 108 [J 15,J i] U λ_ U=>
 Hu u.n a1 0 i2 i3 s4 i5 i6 a7 n8 c9 z10 U) (Hu u.n a1 0 i2 i3 s4 i5 i6 a7 n8 c9 z10 U)):F 82 [.ptr a1,.agg [J i2,J i3,.str s4,J i5,J i6,.slice a7 n8 c9 z10]] U Q:=aJ [[1,1]] w
theorem ZY (w:Wp Q λu=>
 af a1 λb o=>
 lL 24 U b (o+6) λa k _ z=>
 dT U 42 6 72 a k z 1 [J i3,J i4,.str s5,J i6,J i7,.slice a8 n9 c10 z11] λa k c U=>
 af a1 λb o=>
 aT U b (o+6) [.slice a k c 6] λU=>
 af a1 λb o=>
 lL 24 U b (o+6) λ_ k _ _=>
 some (.ret (J ((ah .i64 ((k:Int)-1)))),U)):Wp Q λu=>Hu u.n a1 i2 i3 i4 s5 i6 i7 a8 n9 c10 z11 U:=aH [] w
theorem Wy (w:Wp Q λu=>
 cB u.n 116 [.ptr a1,.str s2] U λb U=>
 cond b (cG u.n 149 [.ptr a1] U λc U=>
 ui c λ_ r=>
 ui r λ_ r=>
 us r λ_ r=>
 ui r λ_ r=>
 aY r<|
 some (.ret (.bool true),U)) (some (.ret (.bool false),U))):F 113 [.ptr a1,.str s2] U Q:=aJ [] w
theorem Wz (w:Wp Q λu=>
 cB u.n 116 [.ptr a1,.str s2] U λb U=>
 cond (!b) (af a1 λb o=>
 lI 3 U b ((o+2)+1) λi=>
 cA u.n 108 [J 13,J i] U λ_ U=>
 cG u.n 149 [.ptr a1] U λc U=>
 ui c λ_ r=>
 ui r λ_ r=>
 us r λ_ r=>
 ui r λ_ r=>
 aY r<|
 some (.ret (.tuple []),U)) (cG u.n 149 [.ptr a1] U λc U=>
 ui c λ_ r=>
 ui r λ_ r=>
 us r λ_ r=>
 ui r λ_ r=>
 aY r<|
 some (.ret (.tuple []),U))):F 114 [.ptr a1,.str s2] U Q:=aJ [] w
theorem WA (w:Wp Q λu=>
 af a1 λb o=>
 lI 3 U b ((o+2)+0) λi=>
 cond (i !=i2) (af a1 λb o=>
 lI 3 U b ((o+2)+1) λi=>
 cA u.n 108 [J 13,J i] U λ_ U=>
 cG u.n 149 [.ptr a1] U λc U=>
 ui c λi r=>
 ui r λi0 r=>
 us r λs r=>
 ui r λi1 r=>
 aY r<|
 some (.ret (.agg [J i,J i0,.str s,J i1]),U)) (cG u.n 149 [.ptr a1] U λc U=>
 ui c λi r=>
 ui r λi0 r=>
 us r λs r=>
 ui r λi1 r=>
 aY r<|
 some (.ret (.agg [J i,J i0,.str s,J i1]),U))):F 115 [.ptr a1,J i2] U Q:=aJ [] w
theorem WB (w:Wp Q λu=>
 af a1 λb o=>
 lI 3 U b ((o+2)+0) λi=>
 cond (i==2) (af a1 λb o=>
 lS 9 U b ((o+2)+2) λs=>
 some (.ret (.bool (s==s2)),U)) (af a1 λb o=>
 lI 3 U b ((o+2)+0) λi=>
 cond (i==5) (af a1 λb o=>
 lS 9 U b ((o+2)+2) λs=>
 some (.ret (.bool (s==s2)),U)) (some (.ret (.bool false),U)))):F 116 [.ptr a1,.str s2] U Q:=aJ [] w
theorem WC (w:Wp Q λu=>
 cG u.n 149 [.ptr a1] U λc U=>
 ui c λ_ r=>
 ui r λ_ r=>
 us r λ_ r=>
 ui r λ_ r=>
 aY r<|
 cB u.n 113 [.ptr a1,.str [41]] U λb U=>
 cond (!b) (Aw u.n u.n a1 i2 s3 0 none 0 (some 0) 0 U) (Da u.n a1 i2 s3 0 none 0 (some 0) 0 U)):F 117 [.ptr a1,J i2,.str s3] U Q:=aJ [(dg 11111)] w
theorem WE (w:Wp Q λu=>
 cG u.n 150 [.ptr a1] U λc U=>
 ui c λi r=>
 ui r λi0 r=>
 us r λs r=>
 ui r λi1 r=>
 ui r λi3 r=>
 ul r λa k c z r=>
 aY r<|
 cI u.n 82 [.ptr a1,.agg [J i,J i0,.str s,J i1,J i3,.slice a k c z]] U λi U=>
 dT U 3 1 8 a5 n6 z8 1 [J i] λa k c U=>
 cB u.n 113 [.ptr a1,.str [41]] U λb U=>
 cond b (Da u.n a1 i2 s3 i4 a k c 1 U) (cA u.n 114 [.ptr a1,.str [44]] U λ_ U=>
 Aw u.n u.m1 a1 i2 s3 i4 a k c 1 U)):Wp Q λu=>Aw u.n u.m1 a1 i2 s3 i4 a5 n6 c7 z8 U:=cK [(dg 11111)] w
theorem WD (w:Wp Q λu=>
 cI u.n 151 [.ptr a1] U λi U=>
 dT U 3 1 8 a5 n6 z8 1 [J i] λa k c U=>
 cI u.n 82 [.ptr a1,.agg [J 22,J i2,.str s3,J 0,J (n6:Int),.slice a k c 1]] U λi U=>
 some (.ret (J i),U)):Wp Q λu=>Da u.n a1 i2 s3 i4 a5 n6 c7 z8 U:=aH [] w
theorem WV (w:Wp Q λu=>
 af a1 λb o=>
 lG 98 U b (o+2) λc=>
 ui c λi r=>
 ui r λi0 r=>
 us r λs r=>
 ui r λi1 r=>
 aY r<|
 cG u.n 80 [.ptr a1] U λc U=>
 ui c λi2 r=>
 ui r λi3 r=>
 us r λs0 r=>
 ui r λi4 r=>
 aY r<|
 af a1 λb o=>
 aT U b (o+2) [J i2,J i3,.str s0,J i4] λU=>
 some (.ret (.agg [J i,J i0,.str s,J i1]),U)):F 149 [.ptr a1] U Q:=aJ [] w
theorem WW (w:Wp Q λu=>
 af a1 λb o=>
 lI 3 U b ((o+2)+1) λi=>
 cB u.n 113 [.ptr a1,.str [99,104,97,114]] U λb U=>
 cond b (cA u.n 114 [.ptr a1,.str [42]] U λ_ U=>
 Ay u.n a1 i 2 0 0 [] 0 0 none 0 (some 0) 0 U) (cA u.n 114 [.ptr a1,.str [105,110,116]] U λ_ U=>
 cB u.n 113 [.ptr a1,.str [42]] U λb U=>
 cond b (Ay u.n a1 i 3 0 0 [] 0 0 none 0 (some 0) 0 U) (Ay u.n a1 i 1 0 0 [] 0 0 none 0 (some 0) 0 U))):F 150 [.ptr a1] U Q:=aJ [(dg 11111)] w
theorem WX (w:Wp Q λu=>
 cG u.n 115 [.ptr a1,J 1] U λc U=>
 ui c λ_ r=>
 ui r λ_ r=>
 us r λs r=>
 ui r λ_ r=>
 aY r<|
 some (.ret (.agg [J 18,J i2,.str s,J 0,J i3,N0]),U)):Wp Q λu=>Ay u.n a1 i2 i3 i4 i5 s6 i7 i8 a9 n10 c11 z12 U:=aH [] w
theorem WY (w:Wp Q λu=>
 af a1 λb o=>
 lI 3 U b ((o+2)+1) λi=>
 cA u.n 114 [.ptr a1,.str [123]] U λ_ U=>
 Az u.n u.n a1 0 i none 0 (some 0) 0 U):F 151 [.ptr a1] U Q:=aJ [] w
theorem W0 (w:Wp Q λu=>
 cB u.n 116 [.ptr a1,.str [125]] U λb U=>
 cond (!b) (cI u.n 175 [.ptr a1] U λi U=>
 dT U 3 1 8 a4 n5 z7 1 [J i] λa k c U=>
 Az u.n u.m1 a1 i2 i3 a k c 1 U) (MG u.n a1 i2 i3 a4 n5 c6 z7 U)):Wp Q λu=>Az u.n u.m1 a1 i2 i3 a4 n5 c6 z7 U:=cK [(dg 111111)] w
theorem WZ (w:Wp Q λu=>
 cG u.n 149 [.ptr a1] U λc U=>
 ui c λ_ r=>
 ui r λ_ r=>
 us r λ_ r=>
 ui r λ_ r=>
 aY r<|
 cI u.n 82 [.ptr a1,.agg [J 17,J i3,.str [],J 0,J 0,.slice a4 n5 c6 z7]] U λi U=>
 some (.ret (J i),U)):Wp Q λu=>MG u.n a1 i2 i3 a4 n5 c6 z7 U:=aH [] w
theorem WR (w:Wp Q λu=>
 cond (decide (i1<4)) (some (.ret (J 0),U)) (cond (decide (i1>21)) (some (.ret (J 0),U)) (ao (ah .i64 (i1-4)) 18<|
 pA 3 [J 10,J 10,J 10,J 9,J 9,J 8,J 8,J 7,J 7,J 7,J 7,J 6,J 6,J 5,J 4,J 3,J 2,J 1] (((ah .i64 (i1-4))).toNat*1) λx=>
 xI x λi=>
 some (.ret (J i),U)))):F 142 [J i1] U Q:=aJ [] w
theorem Xr (w:Wp Q λu=>
 af a1 λb o=>
 lI 3 U b (o+7) λi=>
 cond (i==40) (af a1 λb o=>
 lI 3 U b ((o+2)+1) λi=>
 cA u.n 108 [J 15,J i] U λ_ U=>
 af a1 λb o=>
 lI 3 U b (o+7) λi=>
 af a1 λb o=>
 aT U b (o+7) [J ((ah .i64 (i+1)))] λU=>
 some (.ret (.tuple []),U)) (af a1 λb o=>
 lI 3 U b (o+7) λi=>
 af a1 λb o=>
 aT U b (o+7) [J ((ah .i64 (i+1)))] λU=>
 some (.ret (.tuple []),U))):F 192 [.ptr a1] U Q:=aJ [] w
theorem Xu (w:Wp Q λu=>
 cA u.n 114 [.ptr a1,.str [40]] U λ_ U=>
 cI u.n 195 [.ptr a1,J 1] U λi U=>
 cA u.n 114 [.ptr a1,.str [41]] U λ_ U=>
 some (.ret (J i),U)):F 194 [.ptr a1] U Q:=aJ [] w
end
noncomputable def G8 (_:Nat) (a1:Ad) (U:St):Out:=
 af a1 λb o=>
 lI 3 U b (o+7) λi=>
 af a1 λb o=>
 aT U b (o+7) [J ((ah .i64 (i-1)))] λU=>
 some (.ret (.tuple []),U)
theorem Xt (n:Nat) (a1:Ad) (U:St):D2 ae Lb 193 n [.ptr a1] U=G8 n a1 U:=by kernel_rfl
theorem Xs {n:Nat} {a1:Ad} {U U':St} {y:AV} (u:Option AV) (h:G8 n a1 U=some (.ret y,U')):js ae (cd ae Lb n) n 193 [.ptr a1] u U=some (u,U'):=
 HB ((Xt n a1 U).trans h) (by kernel_rfl) (by kernel_rfl) u
noncomputable def DK (_:Nat) (v:AV) (p1 o2 p3 o4:Nat) (U:St):Out:=
 qZ 129 v (λx=>
 kQ x λc=>
 ui c λ_ r=>
 ui r λ_ r=>
 aY r<|
 aT U p1 o2 [N0] λU=>
 aT U p3 o4 [.bool false] λU=>
 some (.ret (.tuple []),U)) (some (.ret (.tuple []),U))
theorem ZM (n:Nat) (v:AV) (p1 o2 p3 o4:Nat) (U:St):HC ae Lb 79 n v [.ptr (sm p1 o2),.ptr (sm p3 o4)] U=DK n v p1 o2 p3 o4 U:=by kernel_rfl
theorem Ok {n:Nat} {p1 o2 p3 o4:Nat} {U U':St} {y:AV} {u:Option AV} (h:DK n (u.getD .nilIface) p1 o2 p3 o4 U=some (.ret y,U')):js ae (cd ae Lb n) n 79 [.ptr (sm p1 o2),.ptr (sm p3 o4)] u U=some (none,U'):=
 aaJ ((ZM n _ p1 o2 p3 o4 U).trans h)
end Go.Proofs
end
section
namespace Go.Proofs
open Go.AM
set_option maxHeartbeats 4000000
set_option maxRecDepth 100000
section
variable (n m0:Nat) (a1:Ad) (i1:Int) (s1:By) (a2:Ad) (i2:Int) (a3:Ad) (i3:Int) (n3:Nat) (a4:Ad) (b4:Bool) (c4:On) (i4:Int) (n4:Nat) (s4:By) (a5:Ad) (c5:On) (i5:Int) (s5:By) (z5:Nat) (a6:Ad) (s6:By) (z6:Nat) (i7:Int) (n7:Nat) (s7:By) (c8:On) (i8:Int) (s8:By) (a9:Ad) (i9:Int) (z9:Nat) (a10:Ad) (b10:Bool) (a11:Ad) (U:St)
noncomputable def MO:Out:=q 175 n (dg 11111001111111111111) [] ⟨tm 113 [(0,vA a1),(2,vJ i2),(3,vJ i3),(90,.v (.bool true))] 0,[],[(193,[.ptr a4])]⟩ U
noncomputable def MQ:Out:=q 175 n (dg 11111001111111111111) [] ⟨tm 113 [(0,vA a1),(2,vJ i2),(3,vJ i3),(90,.v (.bool b4))] 0,[],[(193,[.ptr a5])]⟩ U
noncomputable def AE:Out:=q 195 n [1,1,0] [m0] (en 53 [(0,vA a1),(1,vJ i2),(4,vJ i3),(5,vJ i4)] []) U
noncomputable def Di:Out:=q 195 n (dg 11100011) [m0] (en 53 [(0,vA a1),(1,vJ i2),(4,vJ i3),(5,vJ i4),(6,vJ i5)] []) U
noncomputable def AF:Out:=q 196 n (dg 1110101) [] (en 60 [(0,vA a1),(1,vJ i2),(4,vJ i3),(5,vJ i4)] []) U
noncomputable def yf:Out:=q 208 n (dg 11111010) [m0] ⟨tm 62 [(0,vA a1),(2,vJ i2),(3,vJ i3),(17,.v (.agg [.str s4,.str s5,.str s6,.str s7])),(18,vJ i8)] 0,[],[(193,[.ptr a9])]⟩ U
noncomputable def Dn:Out:=q 208 n (dg 111110100110011) [m0] ⟨tm 62 [(0,vA a1),(2,vJ i2),(3,vJ i3),(4,vJ i4),(17,.v (.agg [.str s5,.str s6,.str s7,.str s8])),(18,vJ i9),(28,.v (.bool b10))] 0,[],[(193,[.ptr a11])]⟩ U
noncomputable def M5:Out:=q 208 n (dg 111110100110011) [m0] ⟨tm 62 [(0,vA a1),(2,vJ i2),(3,vJ i3),(4,vJ i4),(17,.v (.agg [.str s5,.str s6,.str s7,.str s8])),(18,vJ i9),(28,.v (.bool false))] 0,[],[(193,[.ptr a10])]⟩ U
noncomputable def M6:Out:=q 208 n (dg 111111) [] ⟨tm 62 [(0,vA a1),(2,vJ i2)] 0,[],[(193,[.ptr a3])]⟩ U
noncomputable def AJ:Out:=q 208 n (dg 111111100) [m0] ⟨tm 62 [(0,vA a1),(2,vJ i2),(7,vJ i3)] 0,[],[(193,[.ptr a4])]⟩ U
noncomputable def M7:Out:=q 208 n (dg 11111111) [] ⟨tm 62 [(2,vJ i1),(7,vJ i2)] 0,[],[(193,[.ptr a3])]⟩ U
noncomputable def AK:Out:=q 209 n (dg 111010) [m0] (en 20 [(0,.v (.str s1)),(2,vJ i2),(7,vS a3 n4 c5 z6),(8,vJ i7),(9,vJ i8)] []) U
noncomputable def M8:Out:=q 209 n [1,1,1] [] (en 20 [(2,vJ i1)] []) U
noncomputable def AN:Out:=q 226 n (dg 11110) [m0] (en 16 [(0,vA a1),(2,vS a2 n3 c4 z5),(3,vS a6 n7 c8 z9)] []) U
end
section
set_option autoImplicit true
set_option relaxedAutoImplicit true
variable {n3 n4 z5 z6 n7 z9:Nat} {s1 s4 s5 s6 s7 s8:By}
theorem Xf (w:Wp Q λu=>
 cA u.n 192 [.ptr a1] U λ_ U=>
 af a1 λb o=>
 lI 3 U b ((o+2)+1) λi=>
 ck ae Lb u.n 116 [.ptr a1,.str [123]] U (λv U=>
 gm v λb=>
 cond b (ck ae Lb u.n 151 [.ptr a1] U (λv U=>
 xI v λi=>
 bC ae Lb u.n 193 [.ptr a1] none U λu0 U=>
 bq u0 (λv=>
 some (.pan v,U)) (some (.ret (J i),U))) (λv U=>
 bC ae Lb u.n 193 [.ptr a1] (some v) U λu0 U=>
 bq u0 (λv=>
 some (.pan v,U)) (some (.ret (J 0),U)))) (ck ae Lb u.n 113 [.ptr a1,.str [105,102]] U (λv U=>
 gm v λb=>
 cond b (ck ae Lb u.n 194 [.ptr a1] U (λv U=>
 xI v λi0=>
 let U0:St:=U++[rx 3 [J i0]];
 ck ae Lb u.n 175 [.ptr a1] U0 (λv U0=>
 xI v λi0=>
 dT U0 3 1 8 (sm U.length 0) 1 1 1 [J i0] λa k c U=>
 ck ae Lb u.n 113 [.ptr a1,.str [101,108,115,101]] U (λv U=>
 gm v λb=>
 cond b (ck ae Lb u.n 175 [.ptr a1] U (λv U=>
 xI v λi0=>
 dT U 3 1 8 a k 1 1 [J i0] λa k c U=>
 ck ae Lb u.n 82 [.ptr a1,.agg [J 12,J i,.str [],J 0,J 0,.slice a k c 1]] U (λv U=>
 xI v λi=>
 bC ae Lb u.n 193 [.ptr a1] none U λu0 U=>
 bq u0 (λv=>
 some (.pan v,U)) (some (.ret (J i),U))) (λv U=>
 bC ae Lb u.n 193 [.ptr a1] (some v) U λu0 U=>
 bq u0 (λv=>
 some (.pan v,U)) (some (.ret (J 0),U)))) (λv U=>
 bC ae Lb u.n 193 [.ptr a1] (some v) U λu0 U=>
 bq u0 (λv=>
 some (.pan v,U)) (some (.ret (J 0),U)))) (ck ae Lb u.n 82 [.ptr a1,.agg [J 12,J i,.str [],J 0,J 0,.slice a k c 1]] U (λv U=>
 xI v λi=>
 bC ae Lb u.n 193 [.ptr a1] none U λu0 U=>
 bq u0 (λv=>
 some (.pan v,U)) (some (.ret (J i),U))) (λv U=>
 bC ae Lb u.n 193 [.ptr a1] (some v) U λu0 U=>
 bq u0 (λv=>
 some (.pan v,U)) (some (.ret (J 0),U))))) (λv U=>
 bC ae Lb u.n 193 [.ptr a1] (some v) U λu0 U=>
 bq u0 (λv=>
 some (.pan v,U)) (some (.ret (J 0),U)))) (λv U=>
 bC ae Lb u.n 193 [.ptr a1] (some v) U λu0 U=>
 bq u0 (λv=>
 some (.pan v,U)) (some (.ret (J 0),U)))) (λv U=>
 bC ae Lb u.n 193 [.ptr a1] (some v) U λu0 U=>
 bq u0 (λv=>
 some (.pan v,U)) (some (.ret (J 0),U)))) (ck ae Lb u.n 113 [.ptr a1,.str [119,104,105,108,101]] U (λv U=>
 gm v λb=>
 cond b (ck ae Lb u.n 194 [.ptr a1] U (λv U=>
 xI v λi0=>
 ck ae Lb u.n 175 [.ptr a1] U (λv U=>
 xI v λi1=>
 let U0:St:=U++[rx 3 [J i0,J i1]];
 ck ae Lb u.n 82 [.ptr a1,.agg [J 13,J i,.str [],J 0,J 0,.slice (sm U.length 0) 2 (some 2) 1]] U0 (λv U=>
 xI v λi=>
 bC ae Lb u.n 193 [.ptr a1] none U λu0 U=>
 bq u0 (λv=>
 some (.pan v,U)) (some (.ret (J i),U))) (λv U=>
 bC ae Lb u.n 193 [.ptr a1] (some v) U λu0 U=>
 bq u0 (λv=>
 some (.pan v,U)) (some (.ret (J 0),U)))) (λv U=>
 bC ae Lb u.n 193 [.ptr a1] (some v) U λu0 U=>
 bq u0 (λv=>
 some (.pan v,U)) (some (.ret (J 0),U)))) (λv U=>
 bC ae Lb u.n 193 [.ptr a1] (some v) U λu0 U=>
 bq u0 (λv=>
 some (.pan v,U)) (some (.ret (J 0),U)))) (ck ae Lb u.n 113 [.ptr a1,.str [114,101,116,117,114,110]] U (λv U=>
 gm v λb=>
 cond b (ck ae Lb u.n 195 [.ptr a1,J 1] U (λv U=>
 xI v λi0=>
 ck ae Lb u.n 114 [.ptr a1,.str [59]] U (λ_ U=>
 let U0:St:=U++[rx 3 [J i0]];
 ck ae Lb u.n 82 [.ptr a1,.agg [J 14,J i,.str [],J 0,J 0,.slice (sm U.length 0) 1 (some 1) 1]] U0 (λv U=>
 xI v λi=>
 bC ae Lb u.n 193 [.ptr a1] none U λu0 U=>
 bq u0 (λv=>
 some (.pan v,U)) (some (.ret (J i),U))) (λv U=>
 bC ae Lb u.n 193 [.ptr a1] (some v) U λu0 U=>
 bq u0 (λv=>
 some (.pan v,U)) (some (.ret (J 0),U)))) (λv U=>
 bC ae Lb u.n 193 [.ptr a1] (some v) U λu0 U=>
 bq u0 (λv=>
 some (.pan v,U)) (some (.ret (J 0),U)))) (λv U=>
 bC ae Lb u.n 193 [.ptr a1] (some v) U λu0 U=>
 bq u0 (λv=>
 some (.pan v,U)) (some (.ret (J 0),U)))) (ck ae Lb u.n 113 [.ptr a1,.str [98,114,101,97,107]] U (λv U=>
 gm v λb=>
 cond b (ck ae Lb u.n 114 [.ptr a1,.str [59]] U (λ_ U=>
 ck ae Lb u.n 82 [.ptr a1,.agg [J 15,J i,.str [],J 0,J 0,N0]] U (λv U=>
 xI v λi=>
 bC ae Lb u.n 193 [.ptr a1] none U λu0 U=>
 bq u0 (λv=>
 some (.pan v,U)) (some (.ret (J i),U))) (λv U=>
 bC ae Lb u.n 193 [.ptr a1] (some v) U λu0 U=>
 bq u0 (λv=>
 some (.pan v,U)) (some (.ret (J 0),U)))) (λv U=>
 bC ae Lb u.n 193 [.ptr a1] (some v) U λu0 U=>
 bq u0 (λv=>
 some (.pan v,U)) (some (.ret (J 0),U)))) (ck ae Lb u.n 113 [.ptr a1,.str [99,111,110,116,105,110,117,101]] U (λv U=>
 gm v λb=>
 cond b (ck ae Lb u.n 114 [.ptr a1,.str [59]] U (λ_ U=>
 ck ae Lb u.n 82 [.ptr a1,.agg [J 16,J i,.str [],J 0,J 0,N0]] U (λv U=>
 xI v λi=>
 bC ae Lb u.n 193 [.ptr a1] none U λu0 U=>
 bq u0 (λv=>
 some (.pan v,U)) (some (.ret (J i),U))) (λv U=>
 bC ae Lb u.n 193 [.ptr a1] (some v) U λu0 U=>
 bq u0 (λv=>
 some (.pan v,U)) (some (.ret (J 0),U)))) (λv U=>
 bC ae Lb u.n 193 [.ptr a1] (some v) U λu0 U=>
 bq u0 (λv=>
 some (.pan v,U)) (some (.ret (J 0),U)))) (ck ae Lb u.n 116 [.ptr a1,.str [105,110,116]] U (λv U=>
 gm v λb=>
 cond b (MO u.n a1 0 i a1 U) (ck ae Lb u.n 116 [.ptr a1,.str [99,104,97,114]] U (λv U=>
 gm v λb=>
 MQ u.n a1 0 i b a1 U) (λv U=>
 bC ae Lb u.n 193 [.ptr a1] (some v) U λu0 U=>
 bq u0 (λv=>
 some (.pan v,U)) (some (.ret (J 0),U))))) (λv U=>
 bC ae Lb u.n 193 [.ptr a1] (some v) U λu0 U=>
 bq u0 (λv=>
 some (.pan v,U)) (some (.ret (J 0),U))))) (λv U=>
 bC ae Lb u.n 193 [.ptr a1] (some v) U λu0 U=>
 bq u0 (λv=>
 some (.pan v,U)) (some (.ret (J 0),U))))) (λv U=>
 bC ae Lb u.n 193 [.ptr a1] (some v) U λu0 U=>
 bq u0 (λv=>
 some (.pan v,U)) (some (.ret (J 0),U))))) (λv U=>
 bC ae Lb u.n 193 [.ptr a1] (some v) U λu0 U=>
 bq u0 (λv=>
 some (.pan v,U)) (some (.ret (J 0),U))))) (λv U=>
 bC ae Lb u.n 193 [.ptr a1] (some v) U λu0 U=>
 bq u0 (λv=>
 some (.pan v,U)) (some (.ret (J 0),U))))) (λv U=>
 bC ae Lb u.n 193 [.ptr a1] (some v) U λu0 U=>
 bq u0 (λv=>
 some (.pan v,U)) (some (.ret (J 0),U))))) (λv U=>
 bC ae Lb u.n 193 [.ptr a1] (some v) U λu0 U=>
 bq u0 (λv=>
 some (.pan v,U)) (some (.ret (J 0),U)))):F 175 [.ptr a1] U Q:=aJ [(dg 11111001111111111111)] w
theorem MP (w:Wp Q λu=>
 ck ae Lb u.n 150 [.ptr a1] U (λv U=>
 kQ v λc=>
 ui c λi r=>
 ui r λi0 r=>
 us r λs r=>
 ui r λi1 r=>
 ui r λi3 r=>
 ul r λa k c z r=>
 aY r<|
 ck ae Lb u.n 113 [.ptr a1,.str [61]] U (λv U=>
 gm v λb=>
 cond b (ck ae Lb u.n 195 [.ptr a1,J 1] U (λv U=>
 xI v λi4=>
 let U0:St:=U++[rx 3 [J i4]];
 ck ae Lb u.n 114 [.ptr a1,.str [59]] U0 (λ_ U0=>
 ck ae Lb u.n 82 [.ptr a1,.agg [J i,J i0,.str s,J i1,J i3,.slice (sm U.length 0) 1 (some 1) 1]] U0 (λv U=>
 xI v λi=>
 bC ae Lb u.n 193 [.ptr a4] none U λu0 U=>
 bq u0 (λv=>
 some (.pan v,U)) (some (.ret (J i),U))) (λv U=>
 bC ae Lb u.n 193 [.ptr a4] (some v) U λu0 U=>
 bq u0 (λv=>
 some (.pan v,U)) (some (.ret (J i2),U)))) (λv U=>
 bC ae Lb u.n 193 [.ptr a4] (some v) U λu0 U=>
 bq u0 (λv=>
 some (.pan v,U)) (some (.ret (J i2),U)))) (λv U=>
 bC ae Lb u.n 193 [.ptr a4] (some v) U λu0 U=>
 bq u0 (λv=>
 some (.pan v,U)) (some (.ret (J i2),U)))) (ck ae Lb u.n 114 [.ptr a1,.str [59]] U (λ_ U=>
 ck ae Lb u.n 82 [.ptr a1,.agg [J i,J i0,.str s,J i1,J i3,.slice a k c z]] U (λv U=>
 xI v λi=>
 bC ae Lb u.n 193 [.ptr a4] none U λu0 U=>
 bq u0 (λv=>
 some (.pan v,U)) (some (.ret (J i),U))) (λv U=>
 bC ae Lb u.n 193 [.ptr a4] (some v) U λu0 U=>
 bq u0 (λv=>
 some (.pan v,U)) (some (.ret (J i2),U)))) (λv U=>
 bC ae Lb u.n 193 [.ptr a4] (some v) U λu0 U=>
 bq u0 (λv=>
 some (.pan v,U)) (some (.ret (J i2),U))))) (λv U=>
 bC ae Lb u.n 193 [.ptr a4] (some v) U λu0 U=>
 bq u0 (λv=>
 some (.pan v,U)) (some (.ret (J i2),U)))) (λv U=>
 bC ae Lb u.n 193 [.ptr a4] (some v) U λu0 U=>
 bq u0 (λv=>
 some (.pan v,U)) (some (.ret (J i2),U)))):Wp Q λu=>MO u.n a1 i2 i3 a4 U:=aH [] w
theorem Xg (w:Wp Q λu=>
 cond b4 (ck ae Lb u.n 150 [.ptr a1] U (λv U=>
 kQ v λc=>
 ui c λi r=>
 ui r λi0 r=>
 us r λs r=>
 ui r λi1 r=>
 ui r λi3 r=>
 ul r λa k c z r=>
 aY r<|
 ck ae Lb u.n 113 [.ptr a1,.str [61]] U (λv U=>
 gm v λb=>
 cond b (ck ae Lb u.n 195 [.ptr a1,J 1] U (λv U=>
 xI v λi4=>
 let U0:St:=U++[rx 3 [J i4]];
 ck ae Lb u.n 114 [.ptr a1,.str [59]] U0 (λ_ U0=>
 ck ae Lb u.n 82 [.ptr a1,.agg [J i,J i0,.str s,J i1,J i3,.slice (sm U.length 0) 1 (some 1) 1]] U0 (λv U=>
 xI v λi=>
 bC ae Lb u.n 193 [.ptr a5] none U λu0 U=>
 bq u0 (λv=>
 some (.pan v,U)) (some (.ret (J i),U))) (λv U=>
 bC ae Lb u.n 193 [.ptr a5] (some v) U λu0 U=>
 bq u0 (λv=>
 some (.pan v,U)) (some (.ret (J i2),U)))) (λv U=>
 bC ae Lb u.n 193 [.ptr a5] (some v) U λu0 U=>
 bq u0 (λv=>
 some (.pan v,U)) (some (.ret (J i2),U)))) (λv U=>
 bC ae Lb u.n 193 [.ptr a5] (some v) U λu0 U=>
 bq u0 (λv=>
 some (.pan v,U)) (some (.ret (J i2),U)))) (ck ae Lb u.n 114 [.ptr a1,.str [59]] U (λ_ U=>
 ck ae Lb u.n 82 [.ptr a1,.agg [J i,J i0,.str s,J i1,J i3,.slice a k c z]] U (λv U=>
 xI v λi=>
 bC ae Lb u.n 193 [.ptr a5] none U λu0 U=>
 bq u0 (λv=>
 some (.pan v,U)) (some (.ret (J i),U))) (λv U=>
 bC ae Lb u.n 193 [.ptr a5] (some v) U λu0 U=>
 bq u0 (λv=>
 some (.pan v,U)) (some (.ret (J i2),U)))) (λv U=>
 bC ae Lb u.n 193 [.ptr a5] (some v) U λu0 U=>
 bq u0 (λv=>
 some (.pan v,U)) (some (.ret (J i2),U))))) (λv U=>
 bC ae Lb u.n 193 [.ptr a5] (some v) U λu0 U=>
 bq u0 (λv=>
 some (.pan v,U)) (some (.ret (J i2),U)))) (λv U=>
 bC ae Lb u.n 193 [.ptr a5] (some v) U λu0 U=>
 bq u0 (λv=>
 some (.pan v,U)) (some (.ret (J i2),U)))) (ck ae Lb u.n 196 [.ptr a1,J i3] U (λv U=>
 xI v λi=>
 bC ae Lb u.n 193 [.ptr a5] none U λu0 U=>
 bq u0 (λv=>
 some (.pan v,U)) (some (.ret (J i),U))) (λv U=>
 bC ae Lb u.n 193 [.ptr a5] (some v) U λu0 U=>
 bq u0 (λv=>
 some (.pan v,U)) (some (.ret (J i2),U))))):Wp Q λu=>MQ u.n a1 i2 i3 b4 a5 U:=aH [] w
theorem Xv (w:Wp Q λu=>
 cI u.n 208 [.ptr a1] U λi U=>
 AE u.n u.n a1 i2 0 i U):F 195 [.ptr a1,J i2] U Q:=aJ [] w
theorem Xx (w:Wp Q λu=>
 af a1 λb o=>
 lI 3 U b ((o+2)+0) λi=>
 cond (i==5) (af a1 λb o=>
 lS 9 U b ((o+2)+2) λs=>
 cI u.n 209 [.str s] U λi U=>
 Di u.n u.m1 a1 i2 i3 i4 i U) (Di u.n u.m1 a1 i2 i3 i4 0 U)):Wp Q λu=>AE u.n u.m1 a1 i2 i3 i4 U:=cK [(dg 11100011)] w
theorem Xw (w:Wp Q λu=>
 cond (i5==0) (some (.ret (J i4),U)) (cI u.n 142 [J i5] U λi U=>
 cond (decide (i<i2)) (some (.ret (J i4),U)) (cG u.n 149 [.ptr a1] U λc U=>
 ui c λ_ r=>
 ui r λ_ r=>
 us r λ_ r=>
 ui r λ_ r=>
 aY r<|
 cI u.n 142 [J i5] U λi U=>
 cI u.n 195 [.ptr a1,J ((ah .i64 (i+1)))] U λi U=>
 af a1 λb o=>
 lL 24 U b (o+6) λa k _ z=>
 ao i4 k<|
 af a λb o=>
 ar z 6<|
 lI 3 U b ((o+((i4).toNat*6))+1) λi0=>
 let U0:St:=U++[rx 3 [J i4,J i]];
 cI u.n 82 [.ptr a1,.agg [J 7,J i0,.str [],J i5,J 0,.slice (sm U.length 0) 2 (some 2) 1]] U0 λi U=>
 AE u.n u.m1 a1 i2 i3 i U))):Wp Q λu=>Di u.n u.m1 a1 i2 i3 i4 i5 U:=aH [] w
theorem Xy (w:Wp Q λu=>
 cI u.n 195 [.ptr a1,J 1] U λi U=>
 cB u.n 116 [.ptr a1,.str [61]] U λb U=>
 cond b (af a1 λb o=>
 lL 24 U b (o+6) λa k _ z=>
 ao i k<|
 af a λb o=>
 ar z 6<|
 lI 3 U b ((o+((i).toNat*6))+0) λi0=>
 cond (i0 !=3) (cond (i0 !=5) (af a1 λb o=>
 lI 3 U b ((o+2)+1) λi0=>
 cA u.n 108 [J 13,J i0] U λ_ U=>
 AF u.n a1 i2 0 i U) (AF u.n a1 i2 0 i U)) (AF u.n a1 i2 0 i U)) (cA u.n 114 [.ptr a1,.str [59]] U λ_ U=>
 let U0:St:=U++[rx 3 [J i]];
 cI u.n 82 [.ptr a1,.agg [J 10,J i2,.str [],J 0,J 0,.slice (sm U.length 0) 1 (some 1) 1]] U0 λi U=>
 some (.ret (J i),U))):F 196 [.ptr a1,J i2] U Q:=aJ [(dg 1110101)] w
theorem Xz (w:Wp Q λu=>
 cG u.n 149 [.ptr a1] U λc U=>
 ui c λ_ r=>
 ui r λ_ r=>
 us r λ_ r=>
 ui r λ_ r=>
 aY r<|
 cI u.n 195 [.ptr a1,J 1] U λi U=>
 cA u.n 114 [.ptr a1,.str [59]] U λ_ U=>
 af a1 λb o=>
 lL 24 U b (o+6) λa k _ z=>
 ao i4 k<|
 af a λb o=>
 ar z 6<|
 lI 3 U b ((o+((i4).toNat*6))+1) λi0=>
 let U0:St:=U++[rx 3 [J i4,J i]];
 cI u.n 82 [.ptr a1,.agg [J 11,J i0,.str [],J 0,J 0,.slice (sm U.length 0) 2 (some 2) 1]] U0 λi U=>
 some (.ret (J i),U)):Wp Q λu=>AF u.n a1 i2 i3 i4 U:=aH [] w
theorem XQ (w:Wp Q λu=>
 cA u.n 192 [.ptr a1] U λ_ U=>
 af a1 λb o=>
 lI 3 U b ((o+2)+1) λi=>
 yf u.n u.n a1 0 i [] [45] [33] [126] 0 a1 U):F 208 [.ptr a1] U Q:=aJ [] w
theorem AI (w:Wp Q λu=>
 cond (decide (i8<4)) (ao i8 4<|
 pA 9 [.str s4,.str s5,.str s6,.str s7] ((i8).toNat*1) λx=>
 jY x λs=>
 cond (decide (i8>0)) (ck ae Lb u.n 113 [.ptr a1,.str s] U (λv U=>
 gm v λb=>
 Dn u.n u.m1 a1 i2 i3 i8 s4 s5 s6 s7 i8 b a9 U) (λv U=>
 bC ae Lb u.n 193 [.ptr a9] (some v) U λu0 U=>
 bq u0 (λv=>
 some (.pan v,U)) (some (.ret (J i2),U)))) (M5 u.n u.m1 a1 i2 i3 i8 s4 s5 s6 s7 i8 a9 U)) (M6 u.n a1 i2 a9 U)):Wp Q λu=>yf u.n u.m1 a1 i2 i3 s4 s5 s6 s7 i8 a9 U:=cK [(dg 111110100110011),(dg 111111)] w
theorem M4 (w:Wp Q λu=>
 cond b10 (ck ae Lb u.n 208 [.ptr a1] U (λv U=>
 xI v λi=>
 let U0:St:=U++[rx 3 [J i]];
 ck ae Lb u.n 82 [.ptr a1,.agg [J 6,J i3,.str [],J i4,J 0,.slice (sm U.length 0) 1 (some 1) 1]] U0 (λv U=>
 xI v λi=>
 bC ae Lb u.n 193 [.ptr a11] none U λu0 U=>
 bq u0 (λv=>
 some (.pan v,U)) (some (.ret (J i),U))) (λv U=>
 bC ae Lb u.n 193 [.ptr a11] (some v) U λu0 U=>
 bq u0 (λv=>
 some (.pan v,U)) (some (.ret (J i2),U)))) (λv U=>
 bC ae Lb u.n 193 [.ptr a11] (some v) U λu0 U=>
 bq u0 (λv=>
 some (.pan v,U)) (some (.ret (J i2),U)))) (yf u.n u.m1 a1 i2 i3 s5 s6 s7 s8 (ah .i64 (i9+1)) a11 U)):Wp Q λu=>Dn u.n u.m1 a1 i2 i3 i4 s5 s6 s7 s8 i9 b10 a11 U:=aH [] w
theorem XR (w:Wp Q λu=>
 yf u.n u.m1 a1 i2 i3 s5 s6 s7 s8 (ah .i64 (i9+1)) a10 U):Wp Q λu=>M5 u.n u.m1 a1 i2 i3 i4 s5 s6 s7 s8 i9 a10 U:=aH [] w
theorem XS (w:Wp Q λu=>
 ck ae Lb u.n 218 [.ptr a1] U (λv U=>
 xI v λi=>
 AJ u.n u.n a1 i2 i a3 U) (λv U=>
 bC ae Lb u.n 193 [.ptr a3] (some v) U λu0 U=>
 bq u0 (λv=>
 some (.pan v,U)) (some (.ret (J i2),U)))):Wp Q λu=>M6 u.n a1 i2 a3 U:=aH [] w
theorem XU (w:Wp Q λu=>
 ck ae Lb u.n 113 [.ptr a1,.str [91]] U (λv U=>
 gm v λb=>
 cond b (ck ae Lb u.n 195 [.ptr a1,J 1] U (λv U=>
 xI v λi=>
 ck ae Lb u.n 114 [.ptr a1,.str [93]] U (λ_ U=>
 af a1 λb o=>
 lL 24 U b (o+6) λa k _ z=>
 ao i3 k<|
 af a λb o=>
 ar z 6<|
 lI 3 U b ((o+((i3).toNat*6))+1) λi0=>
 let U0:St:=U++[rx 3 [J i3,J i]];
 ck ae Lb u.n 82 [.ptr a1,.agg [J 5,J i0,.str [],J 0,J 0,.slice (sm U.length 0) 2 (some 2) 1]] U0 (λv U=>
 xI v λi=>
 AJ u.n u.m1 a1 i2 i a4 U) (λv U=>
 bC ae Lb u.n 193 [.ptr a4] (some v) U λu0 U=>
 bq u0 (λv=>
 some (.pan v,U)) (some (.ret (J i2),U)))) (λv U=>
 bC ae Lb u.n 193 [.ptr a4] (some v) U λu0 U=>
 bq u0 (λv=>
 some (.pan v,U)) (some (.ret (J i2),U)))) (λv U=>
 bC ae Lb u.n 193 [.ptr a4] (some v) U λu0 U=>
 bq u0 (λv=>
 some (.pan v,U)) (some (.ret (J i2),U)))) (M7 u.n i2 i3 a4 U)) (λv U=>
 bC ae Lb u.n 193 [.ptr a4] (some v) U λu0 U=>
 bq u0 (λv=>
 some (.pan v,U)) (some (.ret (J i2),U)))):Wp Q λu=>AJ u.n u.m1 a1 i2 i3 a4 U:=cK [(dg 11111111)] w
theorem XT (w:Wp Q λu=>
 bC ae Lb u.n 193 [.ptr a3] none U λu0 U=>
 bq u0 (λv=>
 some (.pan v,U)) (some (.ret (J i2),U))):Wp Q λu=>M7 u.n i1 i2 a3 U:=aH [] w
theorem XV (w:Wp Q λu=>
 cA u.n 143 [.str [42,32,47,32,37,32,43,32,45,32,60,60,32,62,62,32,60,32,60,61,32,62,32,62,61,32,61,61,32,33,61,32,38,32,94,32,124,32,38,38,32,124,124]] U λv U=>
 gn v λa k c z=>
 AK u.n u.n s1 0 a k c z (k:Int) 0 U):F 209 [.str s1] U Q:=aJ [] w
theorem M9 (w:Wp Q λu=>
 cond (decide (i8<i7)) (ao i8 n4<|
 af a3 λb o=>
 ar z6 1<|
 lS 9 U b (o+((i8).toNat*1)) λs=>
 cond (s==s1) (some (.ret (J ((ah .i64 (4+i8)))),U)) (AK u.n u.m1 s1 i2 a3 n4 c5 z6 i7 (ah .i64 (i8+1)) U)) (M8 u.n i2 U)):Wp Q λu=>AK u.n u.m1 s1 i2 a3 n4 c5 z6 i7 i8 U:=cK [[1,1,1]] w
theorem XW (w:Wp Q λu=>
 some (.ret (J 0),U)):Wp Q λu=>M8 u.n i1 U:=aH [] w
theorem X4 (w:Wp Q λu=>
 af a1 λb o=>
 lG 98 U b (o+2) λc=>
 ui c λi r=>
 ui r λi0 r=>
 us r λs r=>
 ui r λi1 r=>
 aY r<|
 cond (i==3) (cG u.n 149 [.ptr a1] U λc U=>
 ui c λ_ r=>
 ui r λ_ r=>
 us r λ_ r=>
 ui r λ_ r=>
 aY r<|
 cI u.n 82 [.ptr a1,.agg [J 1,J i0,.str [],J i1,J 0,N0]] U λi U=>
 some (.ret (J i),U)) (cond (i==4) (cG u.n 149 [.ptr a1] U λc U=>
 ui c λ_ r=>
 ui r λ_ r=>
 us r λ_ r=>
 ui r λ_ r=>
 aY r<|
 cI u.n 82 [.ptr a1,.agg [J 2,J i0,.str s,J 0,J 0,N0]] U λi U=>
 some (.ret (J i),U)) (cond (i==1) (cG u.n 149 [.ptr a1] U λc U=>
 ui c λ_ r=>
 ui r λ_ r=>
 us r λ_ r=>
 ui r λ_ r=>
 aY r<|
 cB u.n 116 [.ptr a1,.str [40]] U λb U=>
 cond (!b) (cI u.n 82 [.ptr a1,.agg [J 3,J i0,.str s,J 0,J 0,N0]] U λi U=>
 some (.ret (J i),U)) (cG u.n 149 [.ptr a1] U λc U=>
 ui c λ_ r=>
 ui r λ_ r=>
 us r λ_ r=>
 ui r λ_ r=>
 aY r<|
 cA u.n 226 [.ptr a1] U λv U=>
 gn v λa k c z=>
 cI u.n 82 [.ptr a1,.agg [J 4,J i0,.str s,J 0,J 0,.slice a k c z]] U λi U=>
 some (.ret (J i),U))) (cA u.n 114 [.ptr a1,.str [40]] U λ_ U=>
 cI u.n 195 [.ptr a1,J 1] U λi U=>
 cA u.n 114 [.ptr a1,.str [41]] U λ_ U=>
 some (.ret (J i),U))))):F 218 [.ptr a1] U Q:=aJ [] w
theorem X7 (w:Wp Q λu=>
 cB u.n 113 [.ptr a1,.str [41]] U λb U=>
 cond b (some (.ret N0,U)) (AN u.n u.n a1 none 0 (some 0) 0 none 0 (some 0) 0 U)):F 226 [.ptr a1] U Q:=aJ [] w
theorem X8 (w:Wp Q λu=>
 cI u.n 195 [.ptr a1,J 1] U λi U=>
 dT U 3 1 8 a6 n7 z9 1 [J i] λa k c U=>
 cB u.n 113 [.ptr a1,.str [41]] U λb U=>
 cond b (some (.ret (.slice a k c 1),U)) (cA u.n 114 [.ptr a1,.str [44]] U λ_ U=>
 AN u.n u.m1 a1 a2 n3 c4 z5 a k c 1 U)):Wp Q λu=>AN u.n u.m1 a1 a2 n3 c4 z5 a6 n7 c8 z9 U:=cK [] w
end
end Go.Proofs
end

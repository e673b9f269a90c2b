/- Part of a proof over an abstract machine. -/
import Derived.Test.YtjjhefdfjagkaaaGreatDoorCk4
import Derived.Lib.ItoaLen
import Derived.Test.YtjjhefdfjagkaaaGreatDoorRows
import Derived.Lib.LaidTab
import Derived.LaidLaws
import Derived.LaidHandle
import Derived.MakeChecks
import Derived.Shelf.Vars
import Derived.Lay
import Derived.Deep.DeepHandedRow
set_option linter.all false
open Go.Proofs.Tryz renaming prog→ae,underlying9→ur
open List renaming getElem?_eq_getElem→bk,range→r9,getElem?_eq_some_iff→bl,all_eq_true→mq,getElem?_set_ne→aD,length_set→iA,getElem?_append_left→bO,getElem?_set_self→cM,getElem?_append_right→bQ,drop_eq_nil_of_le→jB,drop_eq_getElem_cons→xP,foldl_cons→vW,getElem?_cons_zero→ja,set_append_right→sd,mem_append→cX,mem_singleton→oZ,replicate→bL,append_assoc→aO,append_nil→cg,cons_append→eI,nil_append→fx,length_append→az,length_cons→cr,length_nil→fw,getD_eq_getElem?_getD→gq,mem_of_getElem?→fF,prefix_rfl→gZ,mem_cons→bS,mem_reverse→uc,getElem?_eq_none→fP,map_cons→dO,mem_cons_of_mem→ua
open Go.IntKind renaming wrap→ah
open Option renaming getD_some→qb
open Bool renaming false_eq_true→aW,and_eq_true→gH
open Ne renaming symm→cY
open Nat renaming le_refl→aA,sub_self→gJ,zero_le→j9,zero_add→dI
open Option.some renaming injEq→dP,inj→zS
open List.cons renaming injEq→zQ
open Int renaming toNat_natCast→fa
open Go.MakeChecks renaming laidMetH_plain→Tq
section
set_option maxRecDepth 100000
namespace Go.Front
open Go.AM Go.Proofs
def er:List Sy:=[⟨5,1,1,-1,[112,117,116]⟩,⟨5,1,0,-1,[103,101,116]⟩,⟨5,1,1,-1,[101,120,105,116]⟩,⟨5,1,0,-1,[97,114,103,115]⟩,⟨5,2,1,-1,[97,114,103]⟩,⟨5,1,4,-1,[115,121,115]⟩,⟨5,1,1,-1,[97,100,114]⟩]
def qk (y:Node) (i:Nat):Option Sy:=
 if y.kind=20 then some ⟨1,1,0,i,y.text⟩else if y.kind=21 then some ⟨2,y.m,y.n,i,y.text⟩else if y.kind=22 then some ⟨3,1,y.m,i,y.text⟩else none
def oP (y:Node):Bool:=y.kind==21&&(decide (y.n<1)||decide (y.n>512))||y.kind==22&&decide (y.m>6)
def k6 (c:Cx):Nat->Nat->W->(Int×Int)×W
 |0,_,w=>((0,0),w)
 |n+1,i,w=>match c.t[i]? with
  |none=>((0,0),w)
  |some y=>match qk y i with
   |none=>k6 c n (i+1) w
   |some s=>if(gX w.syms y.text).isSome then((9,i),w)else if oP y then((15,i),w)else k6 c n (i+1) ((w.add s).dn i w.syms.length)
structure j0 (c:Cx) (U0 U:St) (tb:Nat) (tc:On) (w:W):Prop where
 up:Up U0 U
 src:Src U0 tb c.t
 tlen:c.t.length<=10000
 fnl:c.fn.length=c.t.length
 lpl:c.lp.length=c.t.length
 ofl:w.of.length=c.t.length
 tyl:w.ty.length=c.t.length
 sy0:w.syms=[]
 cc:U[U0.length+3]? =some (.cells [.slice (some (tb,0)) c.t.length tc 6,.slice none 0 (some 0) 0,dH (U0.length+4) c.t.length,dH (U0.length+5) c.t.length,dH U0.length c.t.length,dH (U0.length+1) c.t.length,.map none,.map (some (U0.length+2))] (.rw (.box 58)))
 fn:U[U0.length]? =some (dF c.fn)
 lp:U[U0.length+1]? =some (jC c.lp)
 of:U[U0.length+4]? =some (dF w.of)
 ty:U[U0.length+5]? =some (dF w.ty)
 own:U[U0.length+2]? =some (.map [])
section
variable {c:Cx} {U0 U:St} {mt tb:Nat} {tc:On} {w:W} {ls:List Sy} {y:Node} {i:Nat} {Q:bw}
theorem VC {a:Ad} {n z:Nat} {sc:On}:Fw ae Lb 39 [.agg [.int .i64 y.kind,.int .i64 y.at_,.str y.text,.int .i64 y.n,.int .i64 y.m,.slice a n sc z],.int .i64 (i:Int)] U
  (zu U (.tuple [.agg (eS ((qk y i).getD ⟨0,0,0,0,[]⟩)),.bool (qk y i).isSome])):=by
 refine YN ?_;unfold qk;refine Wp.ite (λh=>?_) λh=>?_
 ·rw[if_pos (by simpa using h)];exact Wp.ret ⟨rfl,rfl⟩
 rw[if_neg (by simpa using h)];refine Wp.ite (λh=>?_) λh=>?_
 ·rw[if_pos (by simpa using h)];exact Wp.ret ⟨rfl,rfl⟩
 rw[if_neg (by simpa using h)];refine Wp.ite (λh=>?_) λh=>?_
 ·rw[if_pos (by simpa using h)];exact Wp.ret ⟨rfl,rfl⟩
 rw[if_neg (by simpa using h)];exact Wp.ret ⟨rfl,rfl⟩
def Ak (c:Cx) (U0:St) (mt tb:Nat) (tc:On) (x:(Int×Int)×W):bw:=λr U'=>r=.ret (.tuple [.int .i64 x.1.1,.int .i64 x.1.2])/\Up U0 U'/\(x.1.1=0->CC c U0 U' mt tb tc x.2 x.2.syms)
theorem CV {s:Sy} (h:qk y i=some s):s.kind≠4/\s.name=y.text/\s.node=i:=by
 unfold qk at h;split at h
 ·cases h;exact⟨by simp,rfl,rfl⟩
 ·split at h
  ·cases h;exact⟨by simp,rfl,rfl⟩
  ·split at h
   ·cases h;exact⟨by simp,rfl,rfl⟩
   ·cases h
theorem Vx:∀(n i:Nat) {w:W} {U:St},CC c U0 U mt tb tc w w.syms->i+n=c.t.length->w.syms.length<=7+i->Wp (Ak c U0 mt tb tc (k6 c n i w)) λu=>wo u.n u.m1 (some (U0.length+3,0)) 0 0 (some (tb,0)) c.t.length tc 6 c.t.length i U:=by
 intro n
 induction n with
 |zero=>
  intro i w U h hi _;exact MY (Wp.neg (by rw[decide_eq_false_iff_not];omega) (XF (Wp.ret ⟨rfl,h.up,λ_=>h⟩)))
 |succ n ih=>
  intro i w U h hi iM;have pC:i<c.t.length:=by omega
  have dr:=h.tlen;obtain⟨y,hy⟩:∃y,c.t[i]? =some y:=⟨_,bk pC⟩
  obtain⟨kv,bh,dJ⟩:=h.qN.kids hy;obtain⟨ka,kc,kz,rfl⟩:=bh.slice;have hw:ah .i64 ((i:Int)+1)=((i+1:Nat):Int):=by rw[wrap64 (by omega) (by omega)];omega
  refine MY (Wp.pos (by rw[decide_eq_true_eq];omega) ?_);simp only[h.ix pC,an,aU,dJ.2,bK,bc,ag,aG,aS,aZ];refine Wp.call (VC (y:=y) (i:=i)) (λv U' hv=>?_) λv U' hv=>by cases hv.1
  obtain⟨hv,rfl⟩:=hv;cases hv;simp only[eY,bc,bK,eS,ag,aG,aZ,bp,hw];rw[k6,hy];simp only;cases hd:qk y i with
  |none=>exact Wp.pos rfl (ih (i+1) h (by omega) (by omega))
  |some s=>
   obtain⟨P1,wS,P4⟩:=CV hd;obtain⟨es,g1,g2⟩:=h.top;refine Wp.neg rfl ?_;simp only[qb,h.lM,kR];refine xg (enc:=AV.str) (key:=y.text) g1 g2 (BP _) ?_;simp only[ag];cases ht:gX w.syms y.text with
   |some k=>exact Wp.pos rfl (Wp.ret ⟨rfl,h.up,nofun⟩)
   |none=>
   simp only[Option.isSome_none,aW,if_false];refine Wp.neg rfl ?_;have add (hm:oP y=false):CZ (Hd (Q:=Ak c U0 mt tb tc (if oP y=true then((15,(i:Int)),w)else k6 c n (i+1) ((w.add s).dn i w.syms.length))) (a1:=some (U0.length+3,0)) (i2:=0) (i3:=0) (i4:=i) (a5:=some (tb,0)) (n6:=c.t.length) (c7:=tc) (z8:=6) (i9:=c.t.length) (i10:=i) (i11:=y.kind) (i12:=y.at_) (s13:=y.text) (i14:=y.n) (i15:=y.m) (a16:=ka) (n17:=y.kids.length) (c18:=kc) (z19:=kz) (i20:=s.kind) (i21:=s.ty) (i22:=s.n) (i23:=s.node) (s24:=s.name) (U:=U')):=by
    show Wp _ _;rw[hm];simp only[aW,if_false,an,h.lM];refine Wp.eE (FX h (by omega) s) (λv U1 hv=>?_) λv U' hv=>by cases hv.1
    obtain⟨hv,h2,_⟩:=hv;cases hv;simp only[ag,h.bE h2 (.inl rfl)];rw[<-wS];refine h2.QH P1 (by rw[wS];exact ht) rfl λU2 h3=>?_;obtain⟨VV,q1,q2⟩:=h3.top;simp only[an,h3.lO,kE,h3.lM,kR];refine xg (enc:=AV.str) (key:=s.name) q1 q2 (BP _) ?_;have HU:gX (w.syms++[s]) s.name=some w.syms.length:=by
     rw[SO P1 (by rw[wS];exact ht),if_pos rfl]
    simp only[HU,qb,ag,h3.ix pC,an,aU,lr h3.of (by rw[h3.ofl];exact pC),hw];exact ih (i+1) (h3.dn (i:=i) (v:=(w.syms.length:Int))) (by omega) (by simp[W.dn,W.add];omega)
   have bad (hm:oP y=true):Wp (Ak c U0 mt tb tc (if oP y=true then((15,(i:Int)),w)else k6 c n (i+1) ((w.add s).dn i w.syms.length))) λ_=>some (.ret (.tuple [.int .i64 (15:Int),.int .i64 i]),U'):=by
    rw[if_pos hm];exact Wp.ret ⟨rfl,h.up,nofun⟩
   have aaD (h22:y.kind=22):Wp (Ak c U0 mt tb tc (if oP y=true then((15,(i:Int)),w)else k6 c n (i+1) ((w.add s).dn i w.syms.length))) λu=>Dl u.n u.m1 (some (U0.length+3,0)) 0 0 i (some (tb,0)) c.t.length tc 6 c.t.length i (decide (y.m>6)) y.kind y.at_ y.text y.n y.m ka y.kids.length kc kz s.kind s.ty s.n s.node s.name U':=by
    refine XE (Wp.ite (λh6=>?_) λh6=>?_)
    ·exact bad (by unfold oP;rw[h22,h6];simp)
    ·exact add (by unfold oP;rw[h22,h6];simp)
   refine Wp.ite (λh21=>?_) λh21=>?_
   ·have h21:y.kind=21:=by simpa using h21
    refine Wp.ite (λh1=>MV (bad (by unfold oP;rw[h21,h1];simp))) λh1=>Wp.ite (λh2=>MV (bad (by unfold oP;rw[h21,h2];simp))) λh2=>?_;refine Wp.neg (by rw[h21];rfl) (Hd (add (by unfold oP;rw[h21,h1,h2];simp)))
   ·have h21:¬y.kind=21:=by simpa using h21
    refine Wp.ite (λh22=>aaD (by simpa using h22)) λh22=>?_;have h22:¬y.kind=22:=by simpa using h22
    exact Hd (add (by unfold oP;simp[h21,h22]))
theorem Uy {j:Nat} {s:Sy} (h:er[j]? =some s):s.kind≠4/\gX (er.take j) s.name=none:=by
 have key:((r9 7).all λj=>match er[j]? with|some s=>s.kind !=4&&(gX (er.take j) s.name).isNone|none=>false)=true:=by decide
 have hj:j<7:=(bl.1 h).1;have:=mq.1 key j (List.mem_range.2 hj);rw[h]at this;simp at this;exact this
theorem Uz {bb:Nat} {of ty:List Int} (qt:bb≠mt) (hk:∀U',CC c U0 U' mt tb tc ⟨er,of,ty⟩ er->Wp Q λu=>Ha u.n (some (U0.length+3,0)) 0 0 U'):∀(n j:Nat) {U:St},CC c U0 U mt tb tc ⟨er.take j,of,ty⟩ (er.take j)->j+n=7->U[bb]? =some (lu er)->Kz c U0 U mt tb tc bb->
  Wp Q λu=>AG u.n u.m1 (some (U0.length+3,0)) 0 0 (some (bb,0)) 7 (some 7) 5 7 j U:=by
 intro n
 induction n with
 |zero=>
  intro j U h hj hb hz;obtain rfl:j=7:=by omega
  exact MX (Wp.neg (by decide) (hk U h))
 |succ n ih=>
  intro j U h hj hb hz;have al:j<er.length:=by show j<7;omega
  obtain⟨s,hs⟩:∃s,er[j]? =some s:=⟨_,bk al⟩
  obtain⟨h4,ht⟩:=Uy hs;have hw:ah .i64 ((j:Int)+1)=((j+1:Nat):Int):=by rw[wrap64 (by omega) (by omega)];omega
  have l6:aF U bb=some (er.flatMap eS):=by unfold aF;rw[hb];rfl
  have dJ (f:AV->Out):aI ae 44 U bb (0+((j:Int)).toNat*5) f=f (.agg (eS s)):=by
   unfold aI;rw[l6];simp only;exact xr (enc:=eS) zF CB FJ hs (by omega)
  have dr:(er.take j).length=j:=by rw[List.length_take];omega
  have fg:er.take (j+1)=er.take j++[s]:=by rw[List.take_succ,hs];rfl
  refine MX (Wp.pos (by rw[decide_eq_true_eq];omega) ?_);simp only[bm (show(0:Int)<=(j:Int)/\(j:Int)<((7:Nat):Int)from⟨by omega,by omega⟩),an,aU,dJ,eS,bK,bc,ag,aG,aZ,h.lM,hw];refine Wp.eE (FX h (by show(er.take j).length<200000;omega) s) (λv U1 hv=>?_) λv U' hv=>by cases hv.1
  obtain⟨hv,h2,h3⟩:=hv;cases hv;obtain⟨k1,k2⟩:=h3 bb hz;simp only[ag,h.bE h2 (.inl rfl)];refine h2.QH h4 ht rfl λo h5=>?_;have h5':CC c U0 (U1.set mt o) mt tb tc ⟨er.take (j+1),of,ty⟩ (er.take (j+1)):=by rw[fg];exact h5
  have H8:=h.mt6;refine ih (j+1) h5' (by omega) (by rw[aD (cY qt),k1];exact hb) ⟨by rw[iA];exact k2.1,k2.2.1,λsv gA=>?_⟩;rw[aD (by omega)]at gA;exact k2.2.2 sv gA
theorem VD (hex:c.ex=λ_=>none) (h:j0 c U0 U tb tc w):∃mt,Fw ae Lb 19 [.ptr (some (U0.length+3,0))] U (Ak c U0 mt tb tc (k6 c c.t.length 0 ⟨er,w.of,w.ty⟩)):=by
 refine⟨U.length,XC ?_⟩;have al:=bB h.ty;have l1:(U++[aq.map []]:St)[U0.length+3]? =_:=(bO (bB h.cc)).trans h.cc;have eX (f:St->Out):aT (U++[aq.map []]:St) (U0.length+3) (0+6) [.map (some U.length)] f=f ((U++[aq.map []]:St).set (U0.length+3) (kh U0 tb tc c.t.length U.length (.slice none 0 (some 0) 0))):=by
  unfold aT;rw[l1];simp only;rw[if_pos (by simp)];rfl
 simp only[an,eX];generalize iD:(U++[aq.map []]:St).set (U0.length+3) (kh U0 tb tc c.t.length U.length (.slice none 0 (some 0) 0))=U1;have yL:U1.length=U.length+1:=by rw[<-iD];simp
 have old {z:Nat} (h1:z<U.length) (h2:z≠U0.length+3):U1[z]? =U[z]?:=by
  rw[<-iD,aD (cY h2),bO h1]
 refine Wp.call (Qf:=λr U'=>r=.ret (.slice (some (U1.length,0)) 7 (some 7) 5)/\U'=U1++[lu er]) (YL (Wp.ret ⟨rfl,rfl⟩)) (λv U2 hv=>?_) λv U' hv=>by cases hv.1
 obtain⟨hv,rfl⟩:=hv;cases hv;simp only[aS];have zo {z:Nat} (h1:z<U.length) (h2:z≠U0.length+3):(U1++[lu er])[z]? =U[z]?:=by rw[bO (by omega),old h1 h2]
 have hc:(U1++[lu er])[U0.length+3]? =some (kh U0 tb tc c.t.length U.length (.slice none 0 (some 0) 0)):=by
  rw[bO (by omega),<-iD];exact cM (by simp;omega)
 have hm:(U1++[lu er])[U.length]? =some (.map []):=by
  rw[bO (by omega),<-iD,aD (by omega),bQ (aA _),gJ];rfl
 have hC:CC c U0 (U1++[lu er]) U.length tb tc ⟨er.take 0,w.of,w.ty⟩ (er.take 0):=by
  refine⟨?_,h.src,h.tlen,h.fnl,h.lpl,h.ofl,h.tyl,j9 _,by omega,⟨_,hc,.zero 0,λz o hz=>by rw[hex]at hz;cases hz⟩,?_,?_,?_,?_,⟨[],?_,λk=>?_⟩,⟨[],hm,λk=>?_⟩,λz o hz=>by rw[hex]at hz;cases hz⟩
  ·exact⟨by simp[yL];omega,λx hx=>by rw[zo (by omega) (by omega)];exact h.up.same x hx⟩
  ·rw[zo (by omega) (by omega)];exact h.fn
  ·rw[zo (by omega) (by omega)];exact h.lp
  ·rw[zo (by omega) (by omega)];exact h.of
  ·rw[zo (by omega) (by omega)];exact h.ty
  ·rw[zo (by omega) (by omega)];exact h.own
  ·rfl
  ·rfl
 have hz:Kz c U0 (U1++[lu er]) U.length tb tc U1.length:=by
  refine⟨by simp,by omega,λsv gA n k q he=>?_⟩;rw[hc]at gA;simp only[kh,dP,aq.cells.injEq,zQ,and_true,true_and]at gA;rw[he]at gA;cases gA
 refine Wp.cD (F:=λn m=>AG n m (some (U0.length+3,0)) 0 0 (some (U1.length,0)) 7 (some 7) 5 7 0 (U1++[lu er])) ?_;refine Uz (bb:=U1.length) (of:=w.of) (ty:=w.ty) (by omega) (λU' h'=>?_) 7 0 hC rfl (by rw[bQ (aA _),gJ];rfl) hz;refine XD ?_;simp only[an,h'.lT,aS];refine Wp.cD (F:=λn m=>wo n m (some (U0.length+3,0)) 0 0 (some (tb,0)) c.t.length tc 6 c.t.length 0 U') ?_;exact Vx c.t.length 0 (w:=⟨er,w.of,w.ty⟩) h' (by omega) (by show 7<=7+0;omega)
end
end Go.Front
end
section
set_option maxRecDepth 100000
namespace Go.Front
open Go.AM Go.Proofs
def fB (t:List Node):Nat->Nat->Int->Bool->List Int×List Bool->List Int×List Bool
 |0,_,_,_,x=>x
 |n+1,at_,f,l,x=>match t[at_]? with
  |none=>x
  |some y=>
   let f':=if y.kind=22 then(at_:Int)else f
   (y.kids.zipIdx).foldl (λx k=>fB t n k.1 f' (l||(y.kind==13&&k.2==1)) x) (x.1.set at_ f',x.2.set at_ l)
section
variable {c:Cx} {U0 U:St} {mt tb:Nat} {tc:On} {w:W} {ls:List Sy} {y:Node} {i:Nat} {Q:bw}
theorem j0.cell {k:Nat} {ty:TypeId} {v:AV} (h:j0 c U0 U tb tc w) (ht:dz ae ty=some false) (hk:([AV.slice (some (tb,0)) c.t.length tc 6,.slice none 0 (some 0) 0,dH (U0.length+4) c.t.length,dH (U0.length+5) c.t.length,dH U0.length c.t.length,dH (U0.length+1) c.t.length,.map none,.map (some (U0.length+2))])[k]? =some v) (f:AV->Out):
  aI ae ty U (U0.length+3) k f=f v:=cq (by unfold aF;rw[h.cc]) ht hk
theorem j0.afq {f:Int} {l:Bool} (h:j0 c U0 U tb tc w):j0 {c with fn:=c.fn.set i f,lp:=c.lp.set i l} U0 ((U.set U0.length (dF (c.fn.set i f))).set (U0.length+1) (jC (c.lp.set i l))) tb tc w:=by
 have l0:=bB h.fn;have l1:=bB h.lp;refine⟨(h.up.rS (aA _)).rS (by omega),h.src,h.tlen,by simp[h.fnl],by simp[h.lpl],h.ofl,h.tyl,h.sy0,?_,?_,?_,?_,?_,?_⟩
 ·rw[aD (by omega),aD (by omega)];exact h.cc
 ·rw[aD (by omega)];exact cM l0
 ·exact cM (by rw[iA];exact l1)
 ·rw[aD (by omega),aD (by omega)];exact h.of
 ·rw[aD (by omega),aD (by omega)];exact h.ty
 ·rw[aD (by omega),aD (by omega)];exact h.own
theorem T0 {t:List Node} (hk:∀(i:Nat) (y:Node),t[i]? =some y->y.kids.length<=100000/\∀k∈y.kids,k<i):∀(n at_:Nat) {x:List Int×List Bool} {U:St} {f:Int} {l:Bool},at_<n->at_<t.length->j0 ⟨t,x.1,x.2,λ_=>none⟩ U0 U tb tc w->
  Fw ae Lb 18 [.ptr (some (U0.length+3,0)),.int .i64 (at_:Int),.int .i64 f,.bool l] U λr U'=>r=.ret (.tuple [])/\j0 ⟨t,(fB t n at_ f l x).1,(fB t n at_ f l x).2,λ_=>none⟩ U0 U' tb tc w:=by
 intro n
 induction n with
 |zero=>intro at_ x U f l h;omega
 |succ n ih=>
  intro at_ x U f l qs al h;obtain⟨y,hy⟩:∃y,t[at_]? =some y:=⟨_,bk al⟩
  obtain⟨eW,iJ⟩:=hk at_ y hy;obtain⟨kv,Bx,H6⟩:=h.src.rH hy;have dJ:=H6 U h.up;have iI (z:Out):ao (at_:Int) t.length z=z:=bm ⟨by omega,by omega⟩;have hT (g:AV->Out):aI ae 24 U (U0.length+3) (0+0) g=g (.slice (some (tb,0)) t.length tc 6):=h.cell Kr rfl g;have hF (g:AV->Out):aI ae 28 U (U0.length+3) (0+4) g=g (dH U0.length t.length):=h.cell zW rfl g;have hL (g:AV->Out):aI ae 38 U (U0.length+3) (0+5) g=g (dH (U0.length+1) t.length):=h.cell Kt rfl g;have uT:x.1.length=t.length:=h.fnl;have wL:x.2.length=t.length:=h.lpl;rw[fB,hy];simp only;generalize gQ:(if y.kind=22 then(at_:Int)else f)=f';obtain⟨ka,kc,kz,rfl⟩:=Bx.slice;have loop:∀(m j:Nat) {x:List Int×List Bool} {U:St},j+m=y.kids.length->j0 ⟨t,x.1,x.2,λ_=>none⟩ U0 U tb tc w->
    Wp (λr U'=>r=.ret (.tuple [])/\j0 ⟨t,(((y.kids.zipIdx).drop j).foldl (λx k=>fB t n k.1 f' (l||(y.kind==13&&k.2==1)) x) x).1,(((y.kids.zipIdx).drop j).foldl (λx k=>fB t n k.1 f' (l||(y.kind==13&&k.2==1)) x) x).2,λ_=>none⟩ U0 U' tb tc w) λu=>
     uI u.n u.m1 (some (U0.length+3,0)) f' l ka y.kids.length kc kz y.kids.length j y.kind y.at_ y.text y.n y.m ka y.kids.length kc kz U:=by
   intro m
   induction m with
   |zero=>
    intro j x U hj h;refine MS (Wp.neg (by rw[decide_eq_false_iff_not];omega) (Wp.ret ⟨rfl,?_⟩));rw[jB (by simp;omega)];exact h
   |succ m ID=>
    intro j x U hj h;have bh:=Bx.up h.up;have lf:j<y.kids.length:=by omega
    have hw:ah .i64 ((j:Int)+1)=((j+1:Nat):Int):=by rw[wrap64 (by omega) (by omega)];omega
    have nE:y.kids[j]? =some y.kids[j]:=bk lf;have nz:(y.kids.zipIdx).drop j=(y.kids[j],j)::(y.kids.zipIdx).drop (j+1):=by
     rw[xP (by simpa using lf)];simp
    obtain⟨b,EF,he,l8⟩:=bh.eg nE;cases he;rw[nz];simp only[vW];have go {q:Bool} (hq:(l||(y.kind==13&&j==1))=q):Wp (λr U'=>r=.ret (.tuple [])/\j0 ⟨t,(((y.kids.zipIdx).drop (j+1)).foldl (λx k=>fB t n k.1 f' (l||(y.kind==13&&k.2==1)) x) (fB t n y.kids[j] f' (l||(y.kind==13&&j==1)) x)).1,(((y.kids.zipIdx).drop (j+1)).foldl (λx k=>fB t n k.1 f' (l||(y.kind==13&&k.2==1)) x) (fB t n y.kids[j] f' (l||(y.kind==13&&j==1)) x)).2,λ_=>none⟩ U0 U' tb tc w) λu=>
      cW ae Lb u.n 18 [.ptr (some (U0.length+3,0)),.int .i64 (y.kids[j]:Nat),.int .i64 f',.bool q] U λ_ U23=>uI u.n u.m1 (some (U0.length+3,0)) f' l (some (b,0)) y.kids.length kc 1 y.kids.length ((j+1:Nat):Int) y.kind y.at_ y.text y.n y.m (some (b,0)) y.kids.length kc 1 U23:=by
     have ahz:=iJ _ (List.getElem_mem lf);rw[hq];refine Wp.call (ih y.kids[j] (f:=f') (l:=q) (by omega) (by omega) h) (λv U' hv=>?_) λv U' hv=>by cases hv.1
     obtain⟨_,h2⟩:=hv;exact ID (j+1) (by omega) h2
    refine MS (Wp.pos (by rw[decide_eq_true_eq];omega) ?_);simp only[bm (show(0:Int)<=(j:Int)/\(j:Int)<(y.kids.length:Int)from⟨by omega,by omega⟩),an,aU,kF l8 nE,ag,hw];refine Wp.ite (λh1=>go (by rw[h1];rfl)) λh1=>Wp.ite (λh2=>?_) λh2=>go (by rw[h1,h2];rfl);have e1:((j:Int)==(1:Int))=(j==1):=cL (b:=1);rw[e1];exact go (by rw[h1,h2];rfl)
  have j1:Wp (λr U'=>r=.ret (.tuple [])/\j0 ⟨t,((y.kids.zipIdx).foldl (λx k=>fB t n k.1 f' (l||(y.kind==13&&k.2==1)) x) (x.1.set at_ f',x.2.set at_ l)).1,((y.kids.zipIdx).foldl (λx k=>fB t n k.1 f' (l||(y.kind==13&&k.2==1)) x) (x.1.set at_ f',x.2.set at_ l)).2,λ_=>none⟩ U0 U' tb tc w) λu=>
    Dh u.n (some (U0.length+3,0)) at_ f' l y.kind y.at_ y.text y.n y.m ka y.kids.length kc kz U:=by
   refine Xq ?_;have PK:(U.set U0.length (dF (x.1.set at_ f')))[U0.length+1]? =some (jC x.2):=by rw[aD (by omega)];exact h.lp
   have iL (g:St->Out):aT U U0.length (0+((at_:Int)).toNat*1) [.int .i64 f'] g=g (U.set U0.length (dF (x.1.set at_ f'))):=lr h.fn (by rw[uT];exact al) g;have pF (g:St->Out):aT (U.set U0.length (dF (x.1.set at_ f'))) (U0.length+1) (0+((at_:Int)).toNat*1) [.bool l] g=_:=xB PK (by rw[wL];exact al) g;simp only[an,hF,hL,kE,iI,aU,iL,pF];have h2:=h.afq (i:=at_) (f:=f') (l:=l);have:=loop y.kids.length 0 (x:=(x.1.set at_ f',x.2.set at_ l)) (by omega) h2;rw[List.drop_zero]at this;exact Wp.cD (F:=λn' m'=>uI n' m' (some (U0.length+3,0)) f' l ka y.kids.length kc kz y.kids.length 0 y.kind y.at_ y.text y.n y.m ka y.kids.length kc kz ((U.set U0.length (dF (x.1.set at_ f'))).set (U0.length+1) (jC (x.2.set at_ l)))) this
  refine Xp ?_;simp only[an,hT,aS,iI,aU,dJ.2,bK,bc,ag,aG,aZ];refine Wp.ite (λh22=>?_) λh22=>?_
  ·rw[if_pos (by simpa using h22)]at gQ;subst gQ;exact j1
  ·rw[if_neg (by simpa using h22)]at gQ;subst gQ;exact j1
end
end Go.Front
end
section
set_option maxRecDepth 100000
namespace Go.Front
open Go.AM Go.Proofs
def v7 (t:List Node):Prop:=∀(i:Nat) (y:Node),t[i]? =some y->cQ t y/\(∀k∈y.kids,k<i)/\y.kids.length<=100000
def iB (c:Cx) (w:W) (i:Nat) (y:Node):Int×W:=
 if y.kind=1 then(0,w.cJ i 1)else if y.kind=2 then(0,w.cJ i 2)else if y.kind=3 then xj c w i y else if y.kind=4 then q8 c w i y
 else if y.kind=5 then y3 w i y else if y.kind=6 then JT w i y else if y.kind=7 then q4 w i y else if y.kind=11 then tM c w y
 else if y.kind=12\/y.kind=13\/y.kind=14 then Gr w y else if y.kind=15\/y.kind=16 then E0 c w i else if y.kind=18 then xh c w i y
 else if y.kind=23 then wb w else(0,w)
def oq (c:Cx):Nat->Nat->W->(Int×Int)×W
 |0,_,w=>((0,0),w)
 |n+1,i,w=>match c.t[i]? with
  |none=>((0,0),w)
  |some y=>if(iB c w i y).1≠0 then(((iB c w i y).1,i),(iB c w i y).2)else oq c n (i+1) (iB c w i y).2
structure WI (c:Cx) (i:Nat) (w:W):Prop where
 sy:∀s∈w.syms,uo c s
 of:∀j,j<i->∀d,c.t[j]? =some d->d.kind=3->∃k:Nat,w.of[j]? =some (k:Int)/\k<w.syms.length
 len:w.syms.length<=7+c.t.length+i
 ofl:w.of.length=c.t.length
def fc:List (Int×Nat):=[(1,40),(2,41),(3,42),(4,43),(5,44),(6,45),(7,46),(11,47),(12,48),(13,48),(14,48),(15,49),(16,49),(18,50),(23,51)]
def nu (l:List (Int×Nat)):List (AV×AV):=l.map λx=>(.int .i64 x.1,.func (.func x.2) [] [])
def oz:List (Int×Nat)->Int->On
 | [],_=>none
 |(x,v)::r,a=>if a=x then some v else oz r a
theorem E3 (a:Int):∀(l:List (Int×Nat)) (i:Nat),(oz l a=none->du ae 3 (.int .i64 a) (nu l) i=some none)/\∀v,oz l a=some v->∃j,du ae 3 (.int .i64 a) (nu l) i=some (some (j,.func (.func v) [] []))
 | [],i=>⟨λ_=>rfl,λv h=>by cases h⟩
 |(x,v)::l,i=>by
  obtain⟨h1,h2⟩:=E3 a l (i+1);have he:nu ((x,v)::l)=(.int .i64 x,.func (.func v) [] [])::nu l:=rfl;simp only[he,du,eK,oz];by_cases hx:a=x
  ·subst hx;simp only[C1,beq_self_eq_true,if_true];exact⟨nofun,λv' h=>by cases h;exact⟨i,rfl⟩⟩
  ·have:(a==x)=false:=by simpa using hx
   simp only[C1,this,if_neg hx];exact⟨h1,h2⟩
theorem Qx (a:Int):fq ae 3 (.int .i64 a)=true:=by unfold fq;rw[JA];rfl
section
variable {c:Cx} {U0 U:St} {mt tb:Nat} {tc:On} {w:W} {ls:List Sy} {y:Node} {i:Nat} {Q:bw}
theorem Wp.nf {l:List (Int×Nat)} {a:Int} {f:Nat} {K:Fu->St->Out} (h:oz l a=none) (hk:Wp Q λu=>K u (U++[aq.map (nu (l++[(a,f)]))])):
  Wp Q λu=>bY ae 3 (U++[aq.map (nu l)]) (.v (.map (some U.length))) (.int .i64 a) (.func (.func f) [] []) (K u):=by
 refine hk.eq λu=>?_;unfold bY;rw[Qx];simp only[if_true];rw[bQ (aA _)];simp only[gJ,ja];rw[(E3 a l 0).1 h];simp only;rw[sd _ _ (aA _)];simp[nu,lj]
theorem Ua:Fw ae Lb 20 [] U λr U'=>r=.ret (.map (some U.length))/\U'=U++[aq.map (nu fc)]:=by
 refine XX ?_;refine Wp.nf (l:=[]) rfl ?_;refine Wp.nf (l:=fc.take 1) rfl ?_;refine Wp.nf (l:=fc.take 2) rfl ?_;refine Wp.nf (l:=fc.take 3) rfl ?_;refine Wp.nf (l:=fc.take 4) rfl ?_;refine Wp.nf (l:=fc.take 5) rfl ?_;refine Wp.nf (l:=fc.take 6) rfl ?_;refine Wp.nf (l:=fc.take 7) rfl ?_;refine Wp.nf (l:=fc.take 8) rfl ?_;refine Wp.nf (l:=fc.take 9) rfl ?_;refine Wp.nf (l:=fc.take 10) rfl ?_;refine Wp.nf (l:=fc.take 11) rfl ?_;refine Wp.nf (l:=fc.take 12) rfl ?_;refine Wp.nf (l:=fc.take 13) rfl ?_;refine Wp.nf (l:=fc.take 14) rfl ?_;exact Wp.ret ⟨rfl,rfl⟩
theorem Wp.lkA {m:Nat} {a:Int} {K:Fu->AV->Bool->Out} (hm:U[m]? =some (.map (nu fc))) (hk:Wp Q λu=>K u (match oz fc a with|some f=>.func (.func f) [] []|none=>.nilFunc) (oz fc a).isSome):
  Wp Q λu=>gF ae 3 64 U (some m) (.int .i64 a) (K u):=by
 refine hk.eq λu=>?_;have hz:zeroOf ae 64=some .nilFunc:=by kernel_rfl
 unfold gF jR;rw[Qx];simp only[if_true,hm];cases hf:oz fc a with
 |none=>rw[(E3 a fc 0).1 hf,hz];rfl
 |some v=>obtain⟨j,hj⟩:=(E3 a fc 0).2 v hf;rw[hj];rfl
theorem shape {t:List Node} {nd:Node} (h:cQ t nd):(nd.kind=5->nd.kids.length=2)/\(nd.kind=6->nd.kids.length=1)/\(nd.kind=7->nd.kids.length=2)/\(nd.kind=11->nd.kids.length=2)/\(nd.kind=12\/nd.kind=13\/nd.kind=14->0<nd.kids.length)/\(nd.kind=22->nd.m<nd.kids.length):=by
 have wJ:=HD (t:=t) (nd:=nd);have ln {l:By} (hg:bT t nd=l):nd.kids.length=l.length:=by rw[<-wJ,hg]
 cases h with
 |leaf h hg=>rcases h with h|h|h|h|h|h|h<;>refine⟨?_,?_,?_,?_,?_,?_⟩<;>intro e<;>omega
 |index h hg=>have:=ln hg;simp at this;refine⟨?_,?_,?_,?_,?_,?_⟩<;>intro e<;>omega
 |un h hg hn=>have:=ln hg;simp at this;refine⟨?_,?_,?_,?_,?_,?_⟩<;>intro e<;>omega
 |bin h hg hn=>have:=ln hg;simp at this;refine⟨?_,?_,?_,?_,?_,?_⟩<;>intro e<;>omega
 |one h hg=>have:=ln hg;simp at this;refine⟨?_,?_,?_,?_,?_,?_⟩<;>intro e<;>omega
 |set h hg=>have:=ln hg;simp at this;refine⟨?_,?_,?_,?_,?_,?_⟩<;>intro e<;>omega
 |«while» h hg=>have:=ln hg;simp at this;refine⟨?_,?_,?_,?_,?_,?_⟩<;>intro e<;>omega
 |call h hg=>refine⟨?_,?_,?_,?_,?_,?_⟩<;>intro e<;>omega
 |cond h hg=>rcases hg with hg|hg<;>(have:=ln hg;simp at this;refine⟨?_,?_,?_,?_,?_,?_⟩<;>intro e<;>omega)
 |block h hg=>refine⟨?_,?_,?_,?_,?_,?_⟩<;>intro e<;>omega
 |var h hg=>refine⟨?_,?_,?_,?_,?_,?_⟩<;>intro e<;>omega
 |fn h hg m k hm hl hk hb=>refine⟨?_,?_,?_,?_,?_,?_⟩<;>intro e<;>omega
 |all h hg=>refine⟨?_,?_,?_,?_,?_,?_⟩<;>intro e<;>omega
theorem T8 {f:Nat} (hT:v7 c.t) (h:CC c U0 U mt tb tc w w.syms) (hI:WI c i w) (hy:c.t[i]? =some y) (hf:oz fc y.kind=some f):
  Fw ae Lb f [.ptr (some (U0.length+3,0)),.int .i64 (i:Int)] U (jr c U0 mt tb tc (iB c w i y)):=by
 have hi:=(bl.1 hy).1;obtain⟨fD,iJ,eW⟩:=hT i y hy;have hk:∀k∈y.kids,k<c.t.length:=λk hk=>by have:=iJ k hk;omega
 obtain⟨s5,s6,s7,s11,s12,_⟩:=shape fD;have dr:=h.tlen;have iM:=hI.len;have num {f:Nat} {w':W} (hx:Fw ae Lb f [.ptr (some (U0.length+3,0)),.int .i64 (i:Int)] U λr U'=>r=.ret (.int .i64 0)/\CC c U0 U' mt tb tc w' w.syms) (hs:w'.syms=w.syms):Fw ae Lb f [.ptr (some (U0.length+3,0)),.int .i64 (i:Int)] U (jr c U0 mt tb tc (0,w')):=
  hx.mono λr U' hv=>⟨hv.1,hv.2.up,λ_=>by show CC _ _ _ _ _ _ w' w'.syms;rw[hs];exact hv.2⟩
 unfold iB;simp only[fc,oz]at hf;by_cases e1:y.kind=1
 ·rw[if_pos e1]at hf|-;cases hf;exact num (adL h hi) rfl
 rw[if_neg e1]at hf|-;by_cases e2:y.kind=2
 ·rw[if_pos e2]at hf|-;cases hf;exact num (agk h hi) rfl
 rw[if_neg e2]at hf|-;by_cases e3:y.kind=3
 ·rw[if_pos e3]at hf|-;cases hf;exact adx h hy
 rw[if_neg e3]at hf|-;by_cases e4:y.kind=4
 ·rw[if_pos e4]at hf|-;cases hf;exact UQ h hy hk eW hI.sy
 rw[if_neg e4]at hf|-;by_cases e5:y.kind=5
 ·rw[if_pos e5]at hf|-;cases hf;exact abP h hy hk (s5 e5)
 rw[if_neg e5]at hf|-;by_cases e6:y.kind=6
 ·rw[if_pos e6]at hf|-;cases hf;exact agA h hy hk (s6 e6)
 rw[if_neg e6]at hf|-;by_cases e7:y.kind=7
 ·rw[if_pos e7]at hf|-;cases hf;exact Ul h hy hk (s7 e7)
 rw[if_neg e7]at hf|-;by_cases e11:y.kind=11
 ·rw[if_pos e11]at hf|-;cases hf;refine afu h hy hk (s11 e11) λd hd hd3=>hI.of _ ?_ d hd hd3;have:=s11 e11;exact iJ _ (BX (by omega))
 rw[if_neg e11]at hf|-;by_cases e12:y.kind=12\/y.kind=13\/y.kind=14
 ·rw[if_pos e12];have:f=48:=by rcases e12 with e|e|e<;>simp[e]at hf<;>exact hf.symm
  subst this;exact Vl h hy hk (s12 e12)
 rw[if_neg e12];rw[if_neg (λe=>e12 (.inl e)),if_neg (λe=>e12 (.inr (.inl e))),if_neg (λe=>e12 (.inr (.inr e)))]at hf;by_cases e15:y.kind=15\/y.kind=16
 ·rw[if_pos e15];have:f=49:=by rcases e15 with e|e<;>simp[e]at hf<;>exact hf.symm
  subst this;exact acV h hy
 rw[if_neg e15];rw[if_neg (λe=>e15 (.inl e)),if_neg (λe=>e15 (.inr e))]at hf;by_cases e18:y.kind=18
 ·rw[if_pos e18]at hf|-;cases hf;exact ada h hy hk hI.sy (by omega)
 rw[if_neg e18]at hf|-;by_cases e23:y.kind=23
 ·rw[if_pos e23]at hf|-;cases hf;exact TK h
 rw[if_neg e23]at hf;cases hf
theorem T9 (hf:oz fc y.kind=none):iB c w i y=(0,w):=by
 have n (a:Int) (h:oz fc a≠none):¬y.kind=a:=λe=>h (e▸hf);unfold iB;rw[if_neg (n 1 (by decide)),if_neg (n 2 (by decide)),if_neg (n 3 (by decide)),if_neg (n 4 (by decide)),if_neg (n 5 (by decide)),if_neg (n 6 (by decide)),if_neg (n 7 (by decide)),if_neg (n 11 (by decide)),
  if_neg (by rintro(h|h|h);exact n 12 (by decide) h;exact n 13 (by decide) h;exact n 14 (by decide) h),if_neg (by rintro(h|h);exact n 15 (by decide) h;exact n 16 (by decide) h),if_neg (n 18 (by decide)),if_neg (n 23 (by decide))]
end
end Go.Front
end
section
set_option maxRecDepth 100000
namespace Go.Front
open Go.AM Go.Proofs
theorem WI.step {c:Cx} {w w':W} {i:Nat} {y:Node} (hI:WI c i w) (hy:c.t[i]? =some y) (h1:∀s∈w'.syms,uo c s) (h2:w.syms.length<=w'.syms.length) (h3:w'.syms.length<=w.syms.length+1) (h4:∀j,j≠i->w'.of[j]? =w.of[j]?) (h5:w'.of.length=w.of.length)
  (h6:y.kind=3->∃k:Nat,w'.of[i]? =some (k:Int)/\k<w'.syms.length):WI c (i+1) w' where
 sy:=h1
 of j hj d hd O0:=by
  by_cases l7:j=i
  ·subst l7;rw[hy]at hd;cases hd;exact h6 O0
  ·obtain⟨k,hk,eW⟩:=hI.of j (by omega) d hd O0;exact⟨k,by rw[h4 j l7];exact hk,by omega⟩
 len:=by have:=hI.len;omega
 ofl:=by rw[h5];exact hI.ofl
theorem KW {c:Cx} {w:W} {i:Nat} {y:Node} (hI:WI c i w) (hy:c.t[i]? =some y) (h0:(iB c w i y).1=0):WI c (i+1) (iB c w i y).2:=by
 have hi:=(bl.1 hy).1;have stay {w':W} (hs:w'.syms=w.syms) (ho:w'.of=w.of) (h3:y.kind≠3):WI c (i+1) w':=
  hI.step hy (by rw[hs];exact hI.sy) (by rw[hs];exact aA _) (by rw[hs];omega) (λj _=>by rw[ho]) (by rw[ho]) λe=>absurd e h3
 have Sa {k:Nat} {s:Sy} (hs:w.syms[k]? =some s):WI c (i+1) ((w.dn i k).cJ i s.ty):=by
  have hk:=(bl.1 hs).1;refine hI.step hy hI.sy (aA _) (Nat.le_succ _) (λj hj=>?_) (by simp[W.dn,W.cJ]) λ_=>⟨k,?_,hk⟩
  ·show(w.of.set i (k:Int))[j]? =_;rw[aD (cY hj)]
  ·show(w.of.set i (k:Int))[i]? =_;exact cM (by rw[hI.ofl];exact hi)
 unfold iB at h0|-;by_cases e1:y.kind=1
 ·rw[if_pos e1];exact stay rfl rfl (by omega)
 rw[if_neg e1]at h0|-;by_cases e2:y.kind=2
 ·rw[if_pos e2];exact stay rfl rfl (by omega)
 rw[if_neg e2]at h0|-;by_cases e3:y.kind=3
 ·rw[if_pos e3]at h0|-;unfold xj at h0|-;cases hf:jG c w i y with
  |none=>rw[hf]at h0;cases h0
  |some k=>
   obtain⟨s,hs⟩:=yq hf;simp only[hs];exact Sa hs
 rw[if_neg e3]at h0|-;by_cases e4:y.kind=4
 ·rw[if_pos e4]at h0|-;unfold q8 at h0|-;cases hf:jG c w i y with
  |none=>rw[hf]at h0;cases h0
  |some k=>
   obtain⟨s,hs⟩:=yq hf;simp only[hs];split<;>exact Sa hs
 rw[if_neg e4]at h0|-;by_cases e5:y.kind=5
 ·rw[if_pos e5];exact stay rfl rfl e3
 rw[if_neg e5]at h0|-;by_cases e6:y.kind=6
 ·rw[if_pos e6];exact stay rfl rfl e3
 rw[if_neg e6]at h0|-;by_cases e7:y.kind=7
 ·rw[if_pos e7];unfold q4;split<;>exact stay rfl rfl e3
 rw[if_neg e7]at h0|-;by_cases e11:y.kind=11
 ·rw[if_pos e11];exact stay rfl rfl e3
 rw[if_neg e11]at h0|-;by_cases e12:y.kind=12\/y.kind=13\/y.kind=14
 ·rw[if_pos e12];exact stay rfl rfl e3
 rw[if_neg e12]at h0|-;by_cases e15:y.kind=15\/y.kind=16
 ·rw[if_pos e15];exact stay rfl rfl e3
 rw[if_neg e15]at h0|-;by_cases e18:y.kind=18
 ·rw[if_pos e18]at h0|-;unfold xh at h0|-;cases hf:jQ c.fn w.syms (c.fn.getD i 0) y.text with
  |some k=>rw[hf]at h0;cases h0
  |none=>
   simp only[hf]at h0|-;by_cases hm:jS c w i=24
   ·rw[if_pos hm]at h0;cases h0
   ·rw[if_neg hm];refine hI.step hy (λs hs=>?_) (by simp[W.dn,W.add]) (by simp[W.dn,W.add]) (λj hj=>?_) (by simp[W.dn,W.add]) λe=>absurd e e3
    ·have hs:s∈w.syms++[⟨4,y.m,jS c w i,i,y.text⟩]:=hs;rcases cX.1 hs with hs|hs
     ·exact hI.sy s hs
     ·rw[oZ.1 hs];exact⟨λe=>by simp at e,λ_=>⟨i,rfl,hi⟩⟩
    ·show(w.of.set i (w.syms.length:Int))[j]? =_;rw[aD (cY hj)]
 rw[if_neg e18]at h0|-;by_cases e23:y.kind=23
 ·rw[if_pos e23];unfold wb;cases hf:gX w.syms [109,97,105,110]with
  |none=>exact stay rfl rfl e3
  |some k=>
   simp only;cases w.syms[k]? with
   |none=>exact stay rfl rfl e3
   |some s=>exact stay rfl rfl e3
 rw[if_neg e23];exact stay rfl rfl e3
inductive qU (U:St):AV->List Int->Prop
 |zero (z:Nat):qU U (.slice none 0 (some 0) z) []
 |one {l:List Int} (b:Nat) (h:U[b]? =some (dF l)):qU U (dH b l.length) l
inductive zT (U:St):AV->List Sy->Prop
 |zero (z:Nat):zT U (.slice none 0 (some 0) z) []
 |one {l:List Sy} (b:Nat) (c:On) (h:U[b]? =some (lu l)):zT U (.slice (some (b,0)) l.length c 5) l
def sA (U0:St) (x:(Int×Int)×W):bw:=λr U'=>Up U0 U'/\∃sv ov tv,r=.ret (.tuple [.agg [sv,ov,tv],.int .i64 x.1.1,.int .i64 x.1.2])/\
 if x.1.1=0 then zT U' sv x.2.syms/\qU U' ov x.2.of/\qU U' tv x.2.ty/\x.2.syms.length<=200000 else zT U' sv []/\qU U' ov []/\qU U' tv []
section
variable {c:Cx} {U0 U:St} {mt tb:Nat} {tc:On} {w:W} {ls:List Sy} {y:Node} {i:Nat} {Q:bw}
theorem LB {e a:Int} {w:W} (hu:Up U0 U) (he:e≠0):Wp (sA U0 ((e,a),w)) λ_=>some (.ret (.tuple [.agg [.slice none 0 (some 0) 0,.slice none 0 (some 0) 0,.slice none 0 (some 0) 0],.int .i64 e,.int .i64 a]),U):=
 Wp.ret ⟨hu,_,_,_,rfl,by rw[if_neg he];exact⟨.zero 0,.zero 0,.zero 0⟩⟩
theorem Vd (h:CC c U0 U mt tb tc w w.syms):Wp (sA U0 ((0,0),w)) λu=>GZ u.n 0 0 (U0.length+3) 0 none 0 (some 0) 0 none 0 (some 0) 0 none 0 (some 0) 0 U:=by
 obtain⟨sv,h1,h2,_⟩:=h.cc;refine Wt ?_;have hl (f:AV->Out):aI ae 30 U (U0.length+3) (0+1) f=f (.agg [sv,dH (U0.length+4) c.t.length,dH (U0.length+5) c.t.length]):=by
  unfold aI aF;rw[h1];simp only[kh];unfold dY;rw[TB,agd];rfl
 have gA:∃a n k z,sv=.slice a n k z:=by
  rcases h2.inv with⟨_,z,rfl⟩|⟨b,sc,rfl,_⟩<;>exact⟨_,_,_,_,rfl⟩
 obtain⟨a,n,k,z,rfl⟩:=gA;simp only[hl,bK,bc,aS,dH,aZ];refine Wp.ret ⟨h.up,_,_,_,rfl,?_⟩;rw[if_pos rfl];refine⟨?_,?_,?_,h.syl⟩
 ·rcases h2.inv with⟨he,z',hs⟩|⟨b,sc,hs,hb,_⟩
  ·rw[hs,he];exact .zero z'
  ·rw[hs];exact .one b sc hb
 ·have:=qU.one (U0.length+4) h.of;rw[h.ofl]at this;exact this
 ·have:=qU.one (U0.length+5) h.ty;rw[h.tyl]at this;exact this
theorem Vg {mm:Nat} (hT:v7 c.t) (hm:c.ex mm=some (.map (nu fc))):∀(n i:Nat) {w:W} {U:St},CC c U0 U mt tb tc w w.syms->WI c i w->i+n=c.t.length->
  Wp (sA U0 (oq c n i w)) λu=>yd u.n u.m1 0 0 (U0.length+3) 0 (.map (some mm)) (some (tb,0)) c.t.length tc 6 c.t.length i none 0 (some 0) 0 none 0 (some 0) 0 none 0 (some 0) 0 U:=by
 intro n
 induction n with
 |zero=>
  intro i w U h hI hi;exact Mu (Wp.neg (by rw[decide_eq_false_iff_not];omega) (Vd h))
 |succ n ih=>
  intro i w U h hI hi;have dr:=h.tlen;have pC:i<c.t.length:=by omega
  obtain⟨y,hy⟩:∃y,c.t[i]? =some y:=⟨_,bk pC⟩
  obtain⟨kv,bh,dJ⟩:=h.qN.kids hy;obtain⟨ka,kc,kz,rfl⟩:=bh.slice;have hw:ah .i64 ((i:Int)+1)=((i+1:Nat):Int):=by rw[wrap64 (by omega) (by omega)];omega
  refine Mu (Wp.pos (by rw[decide_eq_true_eq];omega) ?_);simp only[h.ix pC,an,aU,dJ.2,bK,bc,ag,aG,aS,aZ,kR,hw];refine Wp.lkA (h.ext mm _ hm).1 ?_;rw[oq,hy];simp only;cases hf:oz fc y.kind with
  |none=>
   have hn:=T9 (c:=c) (w:=w) (i:=i) hf;have O3:=KW hI hy (by rw[hn]);rw[hn]at O3|-;simp only[ne_eq,not_true_eq_false,if_false];exact Wp.pos rfl (ih (i+1) h O3 (by omega))
  |some f=>
   refine Wp.neg rfl (Wp.CR (fs:=[]) (cs:=[]) (args:=[.ptr (some (U0.length+3,0)),.int .i64 (i:Int)]) ?_);refine Wp.call (T8 hT h hI hy hf) (λv U' hv=>?_) λv U' hv=>by cases hv.1
   obtain⟨hv,hu,hc⟩:=hv;cases hv;simp only[ag];refine Wp.ite (λh0=>?_) λh0=>?_
   ·have h0:(iB c w i y).1≠0:=by simpa using h0
    rw[if_pos h0];exact LB hu h0
   ·have h0:(iB c w i y).1=0:=by simpa using h0
    rw[if_neg (by simpa using h0)];exact ih (i+1) (hc h0) (KW hI hy h0) (by omega)
end
end Go.Front
end
section
set_option maxRecDepth 100000
namespace Go.Front
open Go.AM Go.Proofs
def iC (t:List Node):Cx:=⟨t,(fB t t.length (t.length-1) (-1) false (bL t.length 0,bL t.length false)).1,(fB t t.length (t.length-1) (-1) false (bL t.length 0,bL t.length false)).2,λ_=>none⟩
def qj (t:List Node):(Int×Int)×W:=k6 (iC t) t.length 0 ⟨er,bL t.length (-1),bL t.length 0⟩
def jE (t:List Node):(Int×Int)×W:=if(qj t).1.1≠0 then qj t else oq (iC t) t.length 0 (qj t).2
theorem KI {c:Cx} {e:Nat->Option aq} {w:W} {y:Node} {s:Sy}:∀n i,qg {c with ex:=e} w y s n i=qg c w y s n i
 |0,_=>rfl
 |n+1,i=>by rw[qg,qg,KI n (i+1)];rfl
theorem T7 {c:Cx} {e:Nat->Option aq} {w:W} {i:Nat} {y:Node}:iB {c with ex:=e} w i y=iB c w i y:=by
 have hc:q8 {c with ex:=e} w i y=q8 c w i y:=by
  have hf:jG {c with ex:=e} w i y=jG c w i y:=rfl;unfold q8;rw[hf];cases jG c w i y with
  |none=>rfl
  |some k=>
   simp only;cases w.syms[k]? with
   |none=>rfl
   |some s=>simp only[KI]
 unfold iB;rw[hc];rfl
theorem Ly {c:Cx} {e:Nat->Option aq}:∀(n i:Nat) (w:W),oq {c with ex:=e} n i w=oq c n i w
 |0,_,_=>rfl
 |n+1,i,w=>by
  rw[oq,oq];simp only[T7];cases c.t[i]? with
  |none=>rfl
  |some y=>simp only[Ly n]
theorem Vv {c:Cx} (hT:v7 c.t):∀(n i:Nat) {w:W},i+n=c.t.length->(∀s∈w.syms,uo c s)->w.syms.length<=7+i->w.of.length=c.t.length->WI c 0 (k6 c n i w).2:=by
 intro n
 induction n with
 |zero=>intro i w hi h1 h2 h3;exact⟨h1,λj hj=>by omega,by show w.syms.length<=_;omega,h3⟩
 |succ n ih=>
  intro i w hi h1 h2 h3;have here:WI c 0 w:=⟨h1,λj hj=>by omega,by omega,h3⟩
  rw[k6];obtain⟨y,hy⟩:∃y,c.t[i]? =some y:=⟨_,bk (show i<c.t.length by omega)⟩
  rw[hy];simp only;cases hd:qk y i with
  |none=>exact ih (i+1) (by omega) h1 (by omega) h3
  |some s=>
   simp only;split
   ·exact here
   ·split
    ·exact here
    ·refine ih (i+1) (by omega) (λx hx=>?_) (by simp[W.dn,W.add];omega) (by simp[W.dn,W.add,h3]);have hx:x∈w.syms++[s]:=hx;rcases cX.1 hx with hx|hx
     ·exact h1 x hx
     ·rw[oZ.1 hx];obtain⟨fD,iJ,_⟩:=hT i y hy;refine⟨λe=>⟨i,y,(CV hd).2.2,hy,?_,λk hk=>by have:=iJ k hk;omega⟩,λe=>absurd e (CV hd).1⟩;unfold qk at hd;split at hd
      ·cases hd;simp at e
      ·split at hd
       ·cases hd;simp at e
       ·split at hd
        ·cases hd;exact(shape fD).2.2.2.2.2 ‹_›
        ·cases hd
section
variable {c:Cx} {U0 U:St} {mt tb:Nat} {tc:On} {w:W} {ls:List Sy} {y:Node} {i:Nat} {Q:bw}
theorem zx {l:St} {k:Nat} {x:aq}:(U0++l).set (U0.length+k) x=U0++l.set k x:=by rw[sd _ _ (by omega)];congr 2;omega
theorem oC {l:St} {k:Nat}:(U0++l)[U0.length+k]? =l[k]?:=by rw[bQ (by omega)];congr 1;omega
theorem Wp.aat {b:Nat} {F:Fu->Out} (h:U[b]? =some .fresh) (hk:Wp Q F):Wp Q λu=>ow U b (F u):=hk.eq λu=>by unfold ow;rw[h]
theorem Wp.ap {l:List (Nat×Nat)} {F:Fu->Out} (h:∀p∈l,p.1≠p.2) (hk:Wp Q F):Wp Q λu=>lN l (F u):=by
 induction l with
 |nil=>exact hk
 |cons p r ih=>
  refine(ih (λq hq=>h q (by simp[hq]))).eq λu=>?_;show(if p.1=p.2 then none else lN r (F u))=_;rw[if_neg (h p (by simp))]
theorem J9:∀n:Nat,eT [AV.int .i64 0] n=(bL n (0:Int)).map (AV.int .i64)
 |0=>rfl
 |n+1=>by simp[eT,J9 n,List.replicate_succ]
theorem J8:∀n:Nat,eT [AV.bool false] n=(bL n false).map AV.bool
 |0=>rfl
 |n+1=>by simp[eT,J8 n,List.replicate_succ]
theorem Wp.IY {b n:Nat} {K:Fu->St->Out} (h:U[b]? =some .fresh) (hn:n<=10000) (hk:Wp Q λu=>K u (U.set b (dF (bL n 0)))):Wp Q λu=>rJ ae 3 1 n n U b (K u):=by
 refine hk.eq λu=>?_;have hz:zeroOf ae 3=some (.int .i64 0):=by kernel_rfl
 have hb:jh ae 3=8:=by kernel_rfl
 unfold rJ ow;rw[hz,h];simp only;rw[if_pos ⟨rfl,⟨by omega,by omega,by omega,by rw[hb];omega⟩,rfl⟩];have:AV.cells (.int .i64 0)=[AV.int .i64 0]:=rfl;rw[this,fa,J9];rfl
theorem Wp.mkB {b n:Nat} {K:Fu->St->Out} (h:U[b]? =some .fresh) (hn:n<=10000) (hk:Wp Q λu=>K u (U.set b (jC (bL n false)))):Wp Q λu=>rJ ae 4 1 n n U b (K u):=by
 refine hk.eq λu=>?_;have hz:zeroOf ae 4=some (.bool false):=by kernel_rfl
 have hb:jh ae 4=1:=by kernel_rfl
 unfold rJ ow;rw[hz,h];simp only;rw[if_pos ⟨rfl,⟨by omega,by omega,by omega,by rw[hb];omega⟩,rfl⟩];have:AV.cells (.bool false)=[AV.bool false]:=rfl;rw[this,fa,J8];rfl
theorem j0.dn {v:Int} (h:j0 c U0 U tb tc w):j0 c U0 (U.set (U0.length+4) (dF (w.of.set i v))) tb tc (w.dn i v):=by
 have l0:=bB h.of;refine⟨h.up.rS (by omega),h.src,h.tlen,h.fnl,h.lpl,by simp[W.dn,h.ofl],h.tyl,h.sy0,?_,?_,?_,cM l0,?_,?_⟩
 ·rw[aD (by omega)];exact h.cc
 ·rw[aD (by omega)];exact h.fn
 ·rw[aD (by omega)];exact h.lp
 ·rw[aD (by omega)];exact h.ty
 ·rw[aD (by omega)];exact h.own
theorem CC.app {o:aq} (h:CC c U0 U mt tb tc w ls):CC {c with ex:=λz=>if z=U.length then some o else none} U0 (U++[o]) mt tb tc w ls:=by
 obtain⟨sv,h1,h2,_⟩:=h.cc;obtain⟨es,g1,g2⟩:=h.own;obtain⟨mE,q1,q2⟩:=h.top;have hl:=bB h1;have ap {z:Nat} {x:aq} (hz:U[z]? =some x):(U++[o])[z]? =some x:=by rw[bO (bB hz)];exact hz
 refine⟨h.up.trans (Up.app _),h.src,h.tlen,h.fnl,h.lpl,h.ofl,h.tyl,h.syl,h.mt6,⟨sv,ap h1,h2.mono λb _ _ hx=>ap hx,λz x hz n k q he=>?_⟩,ap h.fn,ap h.lp,ap h.of,ap h.ty,⟨es,ap g1,g2⟩,⟨mE,ap q1,q2⟩,λz x hz=>?_⟩
 ·simp only at hz;split at hz
  ·rename_i yW;rcases h2.inv with⟨_,z',hs⟩|⟨b,sc,hs,hb,_⟩
   ·rw[hs]at he;cases he
   ·rw[hs]at he;cases he;have:=bB hb;omega
  ·cases hz
 ·simp only at hz;split at hz
  ·rename_i yW;cases hz;subst yW;have:=bB q1;have:=bB h.ty;exact⟨by rw[bQ (aA _),gJ];rfl,by omega,by omega⟩
  ·cases hz
theorem Vi {F:Fu->Out} {x:(Int×Int)×W} {U':St} (hu:Up U0 U') (h:Wp (sA U' x) F):Wp (sA U0 x) F:=h.mono λr U1 ⟨h1,h2⟩=>⟨hu.trans h1,h2⟩
theorem Vf {t:List Node} (hT:v7 t) (bD:0<t.length) (h:j0 ⟨t,bL t.length 0,bL t.length false,λ_=>none⟩ U0 U tb tc ⟨[],bL t.length (-1),bL t.length 0⟩):
  Wp (sA U0 (jE t)) λu=>GY u.n (some (tb,0)) t.length tc 6 0 0 (U0.length+3) 0 none 0 (some 0) 0 none 0 (some 0) 0 none 0 (some 0) 0 U:=by
 have dr:t.length<=10000:=h.tlen;have hw:ah .i64 ((t.length:Int)-1)=((t.length-1:Nat):Int):=by rw[wrap64 (by omega) (by omega)];omega
 refine Ws ?_;rw[hw];refine Wp.call (T0 (λi y hy=>⟨(hT i y hy).2.2,(hT i y hy).2.1⟩) t.length (t.length-1) (x:=(bL t.length 0,bL t.length false)) (f:=-1) (l:=false) (by omega) (by omega) h) (λv U1 hv=>?_) λv U' hv=>by cases hv.1
 obtain⟨_,h1⟩:=hv
 replace h1:j0 (iC t) U0 U1 tb tc ⟨[],bL t.length (-1),bL t.length 0⟩:=h1
 obtain⟨mt,hd⟩:=VD rfl h1;refine Wp.call hd (λv U2 hv=>?_) λv U' hv=>by cases hv.1
 obtain⟨hv,hu,hc⟩:=hv;cases hv;simp only[eY,bc,ag,aZ];have hdo:k6 (iC t) (iC t).t.length 0 ⟨er,bL t.length (-1),bL t.length 0⟩=qj t:=rfl;rw[hdo]at hc|-;unfold jE;refine Wp.ite (λh0=>?_) λh0=>?_
 ·have h0:(qj t).1.1≠0:=by simpa using h0
  rw[if_pos h0];exact LB hu h0
 ·have h0:(qj t).1.1=0:=by simpa using h0
  rw[if_neg (by simpa using h0)];refine Wp.call Ua (λv U3 hv=>?_) λv U' hv=>by cases hv.1
  obtain⟨hv,rfl⟩:=hv;cases hv;have h3:=(hc h0).app (o:=aq.map (nu fc));have hI:WI (iC t) 0 (qj t).2:=Vv (c:=iC t) hT t.length 0 (by show 0+t.length=t.length;omega) (λs hs=>by
   have:∀s∈er,s.kind≠3/\s.kind≠4:=by decide
   exact⟨λe=>absurd e (this s hs).1,λe=>absurd e (this s hs).2⟩) (by show 7<=7+0;omega) (by simp[iC])
  refine Wp.cD (F:=λn m=>yd n m 0 0 (U0.length+3) 0 (.map (some U2.length)) (some (tb,0)) t.length tc 6 t.length 0 none 0 (some 0) 0 none 0 (some 0) 0 none 0 (some 0) 0 (U2++[aq.map (nu fc)])) ?_;rw[<-Ly (e:=λz=>if z=U2.length then some (aq.map (nu fc))else none)];exact Vg (c:={iC t with ex:=λz=>if z=U2.length then some (aq.map (nu fc))else none}) (mm:=U2.length) hT (by simp) t.length 0 h3 ⟨λs hs=>⟨(hI.sy s hs).fn,(hI.sy s hs).loc⟩,hI.of,hI.len,hI.ofl⟩ (by show 0+t.length=t.length;omega)
theorem ae5 {n j:Nat} {a b:Int}:(bL j a++bL (n+1) b).set j a=bL (j+1) a++bL n b:=by
 rw[sd _ _ (by simp),List.length_replicate,gJ,List.replicate_succ (n:=n),List.set_cons_zero,List.replicate_succ' (n:=j),aO];rfl
theorem adM {t:List Node} (hT:v7 t) (bD:0<t.length):∀(n j:Nat) {U:St},j0 ⟨t,bL t.length 0,bL t.length false,λ_=>none⟩ U0 U tb tc ⟨[],bL j (-1)++bL n 0,bL t.length 0⟩->j+n=t.length->
  Wp (sA U0 (jE t)) λu=>Av u.n u.m1 (some (tb,0)) t.length tc 6 0 0 (U0.length+3) 0 t.length j none 0 (some 0) 0 none 0 (some 0) 0 none 0 (some 0) 0 U:=by
 intro n
 induction n with
 |zero=>
  intro j U h hj;obtain rfl:j=t.length:=by omega
  refine Mt (Wp.neg (by rw[decide_eq_false_iff_not];omega) (Vf hT bD ?_));simp only[List.replicate_zero,cg]at h;exact h
 |succ n ih=>
  intro j U h hj;have dr:t.length<=10000:=h.tlen;have hO (g:AV->Out):aI ae 28 U (U0.length+3) ((0+1)+1) g=g (dH (U0.length+4) t.length):=h.cell zW rfl g;have hw:ah .i64 ((j:Int)+1)=((j+1:Nat):Int):=by rw[wrap64 (by omega) (by omega)];omega
  have eX (g:St->Out):aT U (U0.length+4) (0+((j:Int)).toNat*1) [.int .i64 (-1)] g=g (U.set (U0.length+4) (dF ((bL j (-1)++bL (n+1) 0).set j (-1)))):=lr h.of (by simp) g;refine Mt (Wp.pos (by rw[decide_eq_true_eq];omega) ?_);simp only[hO,kE,bm (show(0:Int)<=(j:Int)/\(j:Int)<(t.length:Int)from⟨by omega,by omega⟩),an,aU,eX,hw];refine ih (j+1) ?_ (by omega);have:=h.dn (i:=j) (v:=-1);unfold W.dn at this;simp only[ae5]at this|-;exact this
theorem Lx {t:List Node} (hs:Src U tb t) (hT:v7 t) (dr:t.length<=10000) (bD:0<t.length)
  (jK:Fw ae Lb 17 [.slice (some (tb,0)) t.length tc 6] U λr U'=>Up U U'/\∃(s:By) (e:Int),r=.ret (.tuple [.str s,.int .i64 e])/\e≠6):
  Fw ae Lb 10 [.slice (some (tb,0)) t.length tc 6] U (sA U (jE t)):=by
 refine Wq ?_;refine Wp.call jK (λv U0 hv=>?_) λv U' hv=>by obtain⟨_,_,_,hv,_⟩:=hv;cases hv
 obtain⟨hu,s,e,hv,he⟩:=hv;cases hv;simp only[eY,bc,aG,ag,aZ];refine Wp.neg (by simpa using he) (Vi hu ?_);simp only[aO,eI,fx,az,iA,cr,fw,dI,Nat.reduceAdd,fa];have g0 (l:St):(U0++l)[U0.length]? =l[0]?:=oC (k:=0);have s0 (l:St) (x:aq):(U0++l).set U0.length x=U0++l.set 0 x:=zx (k:=0);refine Wp.IY (by rw[g0];rfl) dr ?_;rw[s0];refine Wp.ap (by simp) (Wp.mkB (by rw[oC];rfl) dr ?_);rw[zx];refine Wp.ap (by simp) (Wp.aat (by rw[oC];rfl) ?_);simp only[zx,List.set_cons_zero,List.set_cons_succ,aO,eI,fx,az,iA,cr,fw,dI,Nat.add_assoc,Nat.reduceAdd,fa];refine Wp.IY (by rw[oC];rfl) dr ?_;rw[zx];refine Wp.ap (by simp) (Wp.IY (by rw[oC];rfl) dr ?_);rw[zx];simp only[List.set_cons_zero,List.set_cons_succ];have eX (g:St->Out):aT (U0++[dF (bL t.length 0),jC (bL t.length false),aq.map [],
   aq.cells [AV.slice (some (tb,0)) t.length tc 6,AV.slice none 0 (some 0) 0,AV.slice none 0 (some 0) 0,AV.slice none 0 (some 0) 0,AV.slice (some (U0.length,0)) t.length (some t.length) 1,AV.slice (some (U0.length+1,0)) t.length (some t.length) 1,AV.map none,AV.map (some (U0.length+2))] (.rw (.box 58)),
   dF (bL t.length 0),dF (bL t.length 0)]) (U0.length+3) 1 [AV.slice none 0 (some 0) 0,dH (U0.length+4) t.length,dH (U0.length+5) t.length] g=
   g (U0++[dF (bL t.length 0),jC (bL t.length false),aq.map [],
   aq.cells [AV.slice (some (tb,0)) t.length tc 6,AV.slice none 0 (some 0) 0,dH (U0.length+4) t.length,dH (U0.length+5) t.length,dH U0.length t.length,dH (U0.length+1) t.length,AV.map none,AV.map (some (U0.length+2))] (.rw (.box 58)),
   dF (bL t.length 0),dF (bL t.length 0)]):=by
  unfold aT;rw[oC];simp only[List.getElem?_cons_succ,ja];rw[if_pos (by simp),zx];rfl
 unfold dH at eX;simp only[eX];refine Wp.cD (F:=λn m=>Av n m (some (tb,0)) t.length tc 6 0 0 (U0.length+3) 0 t.length 0 none 0 (some 0) 0 none 0 (some 0) 0 none 0 (some 0) 0 (U0++[dF (bL t.length 0),jC (bL t.length false),aq.map [],
   aq.cells [AV.slice (some (tb,0)) t.length tc 6,AV.slice none 0 (some 0) 0,dH (U0.length+4) t.length,dH (U0.length+5) t.length,dH U0.length t.length,dH (U0.length+1) t.length,AV.map none,AV.map (some (U0.length+2))] (.rw (.box 58)),
   dF (bL t.length 0),dF (bL t.length 0)])) ?_
 refine adM hT bD t.length 0 ⟨Up.app _,hs.up hu,dr,by simp,by simp,by simp,by simp,rfl,?_,?_,?_,?_,?_,?_⟩ (by omega)
 ·rw[oC];rfl
 ·rw[g0];rfl
 ·rw[oC];rfl
 ·rw[oC];rfl
 ·rw[oC];rfl
 ·rw[oC];rfl
end
end Go.Front
end
section
set_option maxRecDepth 100000
namespace Go.Front
open Go.AM Go.Proofs
def nj (y:Node) (i:Nat) (x:List Int×List Bool) (k:Nat×Nat):List Int×List Bool:=(x.1.set k.1 (x.1.getD i 0),x.2.set k.1 (x.2.getD i false||(y.kind==13&&k.2==1)))
def zY (t:List Node) (i:Nat) (x:List Int×List Bool):List Int×List Bool:=
 match t[i]? with
 |none=>x
 |some y=>(y.kids.zipIdx).foldl (nj y i) (if y.kind=22 then x.1.set i (i:Int)else x.1,x.2)
def CF (t:List Node):Nat->List Int×List Bool->List Int×List Bool
 |0,x=>x
 |n+1,x=>CF t n (zY t n x)
def uu (t:List Node):List Int×List Bool:=CF t t.length ((bL t.length 0).set (t.length-1) (-1),bL t.length false)
structure A2 (t:List Node) (U0 U:St) (tb:Nat) (x:List Int×List Bool):Prop where
 up:Up U0 U
 src:Src U0 tb t
 tlen:t.length<=10000
 fnl:x.1.length=t.length
 lpl:x.2.length=t.length
 fn:U[U0.length]? =some (dF x.1)
 lp:U[U0.length+1]? =some (jC x.2)
section
variable {t:List Node} {U0 U:St} {tb:Nat} {tc:On} {x:List Int×List Bool} {y:Node} {i:Nat} {Q:bw}
theorem A2.JB {v:Int} {k:Nat} (h:A2 t U0 U tb x):A2 t U0 (U.set U0.length (dF (x.1.set k v))) tb (x.1.set k v,x.2):=
 ⟨h.up.rS (aA _),h.src,h.tlen,by simp[h.fnl],h.lpl,cM (bB h.fn),by rw[aD (by omega)];exact h.lp⟩
theorem A2.ft {v:Bool} {k:Nat} (h:A2 t U0 U tb x):A2 t U0 (U.set (U0.length+1) (jC (x.2.set k v))) tb (x.1,x.2.set k v):=
 ⟨h.up.rS (by omega),h.src,h.tlen,h.fnl,by simp[h.lpl],by rw[aD (by omega)];exact h.fn,cM (bB h.lp)⟩
theorem Wp.adq {n:Nat} {K:Fu->St->Out} (hn:n<=10000) (hk:Wp Q λu=>K u (U++[dF (bL n 0)])):Wp Q λu=>lq ae 3 1 n n U (K u):=by
 refine hk.eq λu=>?_;have hz:zeroOf ae 3=some (.int .i64 0):=by kernel_rfl
 have hb:jh ae 3=8:=by kernel_rfl
 unfold lq;rw[hz];simp only;rw[if_pos ⟨rfl,⟨by omega,by omega,by omega,by rw[hb];omega⟩,rfl⟩];have:AV.cells (.int .i64 0)=[AV.int .i64 0]:=rfl;rw[this,fa,J9];rfl
theorem Wp.adp {n:Nat} {K:Fu->St->Out} (hn:n<=10000) (hk:Wp Q λu=>K u (U++[jC (bL n false)])):Wp Q λu=>lq ae 4 1 n n U (K u):=by
 refine hk.eq λu=>?_;have hz:zeroOf ae 4=some (.bool false):=by kernel_rfl
 have hb:jh ae 4=1:=by kernel_rfl
 unfold lq;rw[hz];simp only;rw[if_pos ⟨rfl,⟨by omega,by omega,by omega,by rw[hb];omega⟩,rfl⟩];have:AV.cells (.bool false)=[AV.bool false]:=rfl;rw[this,fa,J8];rfl
theorem ab9 {x0:List Int×List Bool} {ka:Ad} {kz:Nat} {kc:On} (hy:t[i]? =some y) (hk:∀k∈y.kids,k<i) (eW:y.kids.length<=100000) (bh:fu U0 (.slice ka y.kids.length kc kz) y.kids)
  (hq:∀U' x',A2 t U0 U' tb x'->x'=(y.kids.zipIdx).foldl (nj y i) x0->Wp Q λu=>G6 u.n u.m1 (some (tb,0)) t.length tc 6 none 0 (some 0) 0 none 0 (some 0) 0 (some (U0.length,0)) t.length (some t.length) 1 (some (U0.length+1,0)) t.length (some t.length) 1 i U'):
  ∀(n j:Nat) {U:St} {x:List Int×List Bool},A2 t U0 U tb x->j+n=y.kids.length->((y.kids.zipIdx).drop j).foldl (nj y i) x=(y.kids.zipIdx).foldl (nj y i) x0->
  Wp Q λu=>uH u.n u.m1 u.m2 (some (tb,0)) t.length tc 6 none 0 (some 0) 0 none 0 (some 0) 0 (some (U0.length,0)) t.length (some t.length) 1 (some (U0.length+1,0)) t.length (some t.length) 1 i j y.kind y.at_ y.text y.n y.m ka y.kids.length kc kz U:=by
 have hi:=(bl.1 hy).1;intro n
 induction n with
 |zero=>
  intro j U x h hj hx;rw[jB (by simp;omega)]at hx;exact MF (Wp.neg (by rw[decide_eq_false_iff_not];omega) (hq U x h hx))
 |succ n ih=>
  intro j U x h hj hx;have lf:j<y.kids.length:=by omega
  have nE:y.kids[j]? =some y.kids[j]:=bk lf;have nF:=hk _ (List.getElem_mem lf);have nz:(y.kids.zipIdx).drop j=(y.kids[j],j)::(y.kids.zipIdx).drop (j+1):=by
   rw[xP (by simpa using lf)];simp
  rw[nz,vW]at hx;have hw:ah .i64 ((j:Int)+1)=((j+1:Nat):Int):=by rw[wrap64 (by omega) (by omega)];omega
  obtain⟨b,EF,he,PA⟩:=bh.eg nE;cases he;have l8:=h.up.cells PA;have iI {q:Nat} (hq:q<t.length) (z:Out):ao (q:Int) t.length z=z:=bm ⟨by omega,by omega⟩;have hf:x.1[i]? =some (x.1.getD i 0):=by rw[gq,bk (by rw[h.fnl];exact hi)];rfl
  have hl:x.2[i]? =some (x.2.getD i false):=by rw[gq,bk (by rw[h.lpl];exact hi)];rfl
  have h1:=h.JB (k:=y.kids[j]) (v:=x.1.getD i 0);have abe:=h1.up.cells PA;refine MF (Wp.pos (by rw[decide_eq_true_eq];omega) ?_);simp only[bm (show(0:Int)<=(j:Int)/\(j:Int)<(y.kids.length:Int)from⟨by omega,by omega⟩),an,aU,kF l8 nE,ag,iI hi,iI (show y.kids[j]<t.length by omega),oO h.fn hf,lr h.fn (show y.kids[j]<x.1.length by rw[h.fnl];omega),kF abe nE,QF h1.lp hl,bp,hw];have go {v:Bool} (hv:(x.2.getD i false||(y.kind==13&&j==1))=v):Wp Q λu=>aT (U.set U0.length (dF (x.1.set y.kids[j] (x.1.getD i 0)))) (U0.length+1) (0+((y.kids[j]:Int)).toNat*1) [.bool v] λU59=>
    uH u.n u.m1 u.m2 (some (tb,0)) t.length tc 6 none 0 (some 0) 0 none 0 (some 0) 0 (some (U0.length,0)) t.length (some t.length) 1 (some (U0.length+1,0)) t.length (some t.length) 1 i ((j+1:Nat):Int) y.kind y.at_ y.text y.n y.m (some (b,0)) y.kids.length kc 1 U59:=by
   simp only[xB h1.lp (show y.kids[j]<x.2.length by rw[h.lpl];omega)];refine ih (j+1) (h1.ft (k:=y.kids[j]) (v:=v)) (by omega) ?_;rw[<-hx];congr 1;unfold nj;simp only[hv]
  refine Wp.ite (λh2=>go (by rw[h2];rfl)) λh2=>Wp.ite (λh3=>?_) λh3=>go (by rw[h2,h3];rfl);have e1:((j:Int)==(1:Int))=(j==1):=cL (b:=1);rw[e1];exact go (by rw[h2,h3];rfl)
def F3 (t:List Node) (U0:St):bw:=λr U'=>Up U0 U'/\∃b1 b2,r=.ret (.tuple [dH b1 t.length,dH b2 t.length])/\U'[b1]? =some (dF (uu t).1)/\U'[b2]? =some (jC (uu t).2)
theorem adG (hT:∀(i:Nat) (y:Node),t[i]? =some y->y.kids.length<=100000/\∀k∈y.kids,k<i):∀(n:Nat) {U:St} {x:List Int×List Bool},n<=t.length->A2 t U0 U tb x->CF t n x=uu t->
  Wp (F3 t U0) λu=>Ax u.n u.m1 (some (tb,0)) t.length tc 6 none 0 (some 0) 0 none 0 (some 0) 0 (some (U0.length,0)) t.length (some t.length) 1 (some (U0.length+1,0)) t.length (some t.length) 1 ((n:Int)-1) U:=by
 intro n
 induction n with
 |zero=>
  intro U x hn h hx;refine ME (Wp.neg (by decide) (WM (Wp.ret ⟨h.up,U0.length,U0.length+1,rfl,?_⟩)));rw[<-hx];exact⟨h.fn,h.lp⟩
 |succ n ih=>
  intro U x hn h hx;have dr:=h.tlen;have hi:n<t.length:=by omega
  have en:((n+1:Nat):Int)-1=(n:Int):=by omega
  rw[en];obtain⟨y,hy⟩:∃y,t[n]? =some y:=⟨_,bk hi⟩
  obtain⟨eW,iJ⟩:=hT n y hy;obtain⟨kv,bh,H6⟩:=h.src.rH hy;have dJ:=H6 U h.up;obtain⟨ka,kc,kz,rfl⟩:=bh.slice;have hw:ah .i64 ((n:Int)-1)=(n:Int)-1:=by rw[wrap64 (by omega) (by omega)]
  have iI (z:Out):ao (n:Int) t.length z=z:=bm ⟨by omega,by omega⟩;have eX:zY t n x=(y.kids.zipIdx).foldl (nj y n) (if y.kind=22 then x.1.set n (n:Int)else x.1,x.2):=by unfold zY;rw[hy]
  have j2 {U:St} (h:A2 t U0 U tb (if y.kind=22 then x.1.set n (n:Int)else x.1,x.2)):Wp (F3 t U0) λu=>Db u.n u.m1 (some (tb,0)) t.length tc 6 none 0 (some 0) 0 none 0 (some 0) 0 (some (U0.length,0)) t.length (some t.length) 1 (some (U0.length+1,0)) t.length (some t.length) 1 n y.kind y.at_ y.text y.n y.m ka y.kids.length kc kz U:=by
   refine WL ?_;refine Wp.yu (F:=λn' m1 m2=>uH n' m1 m2 (some (tb,0)) t.length tc 6 none 0 (some 0) 0 none 0 (some 0) 0 (some (U0.length,0)) t.length (some t.length) 1 (some (U0.length+1,0)) t.length (some t.length) 1 n 0 y.kind y.at_ y.text y.n y.m ka y.kids.length kc kz U) ?_;refine ab9 (x0:=(if y.kind=22 then x.1.set n (n:Int)else x.1,x.2)) hy iJ eW bh (λU' x' h' qx=>?_) y.kids.length 0 h (by omega) rfl;refine WN ?_;rw[hw];exact ih (by omega) h' (by rw[qx,<-eX];exact hx)
  refine ME (Wp.pos (by rw[decide_eq_true_eq];omega) ?_);simp only[iI,an,aU,dJ.2,bK,bc,ag,aG,aS,aZ];refine Wp.ite (λh22=>?_) λh22=>?_
  ·have h22:y.kind=22:=by simpa using h22
   simp only[lr h.fn (show n<x.1.length by rw[h.fnl];exact hi)];refine j2 ?_;rw[if_pos h22];exact h.JB
  ·have h22:¬y.kind=22:=by simpa using h22
   refine j2 ?_;rw[if_neg h22];exact h
theorem TZ (hs:Src U tb t) (hT:∀(i:Nat) (y:Node),t[i]? =some y->y.kids.length<=100000/\∀k∈y.kids,k<i) (dr:t.length<=10000) (bD:0<t.length):
  Fw ae Lb 13 [.slice (some (tb,0)) t.length tc 6] U (F3 t U):=by
 refine WK ?_;refine Wp.adq dr (Wp.adp dr ?_);have hw:ah .i64 ((t.length:Int)-1)=((t.length-1:Nat):Int):=by rw[wrap64 (by omega) (by omega)];omega
 have h0:A2 t U (U++[dF (bL t.length 0)]++[jC (bL t.length false)]) tb (bL t.length 0,bL t.length false):=by
  refine⟨(Up.app _).trans (Up.app _),hs,dr,by simp,by simp,?_,?_⟩
  ·rw[aO];exact oC (k:=0)
  ·rw[aO];exact oC (k:=1)
 have h1:=h0.JB (k:=t.length-1) (v:=-1);have l1:(U++[dF (bL t.length 0)]).length=U.length+1:=by simp
 rw[hw];simp only[l1,fa,bm (show(0:Int)<=((t.length-1:Nat):Int)/\((t.length-1:Nat):Int)<(t.length:Int)from⟨by omega,by omega⟩)];have eX (g:St->Out):aT (U++[dF (bL t.length 0)]++[jC (bL t.length false)]) U.length (0+(t.length-1)*1) [.int .i64 (-1)] g=_:=lr (i:=t.length-1) h0.fn (by simp;omega) g;simp only[eX];have:=adG (tc:=tc) hT t.length (aA _) h1 rfl;have e1:((t.length:Nat):Int)-1=((t.length-1:Nat):Int):=by omega
 rw[e1]at this;exact Wp.cD (F:=λn m=>Ax n m (some (tb,0)) t.length tc 6 none 0 (some 0) 0 none 0 (some 0) 0 (some (U.length,0)) t.length (some t.length) 1 (some (U.length+1,0)) t.length (some t.length) 1 ((t.length-1:Nat):Int) _) this
end
end Go.Front
end
section
set_option maxRecDepth 100000
namespace Go.Front
open Go.AM Go.Proofs
structure Cv (t:List Node) (fn:List Int) (w:W):Prop where
 name:∀(i:Nat) (y:Node),t[i]? =some y->y.kind=3\/y.kind=4->∃(k:Nat) (s:Sy),w.of[i]? =some (k:Int)/\w.syms[k]? =some s/\s.name=y.text/\w.ty[i]? =some s.ty/\
  (s.kind=4->∃n:Nat,s.node=n/\n<i/\fn[n]? =fn[i]?)
 one:∀(i k:Nat) (a b:Sy),k<i->w.syms[i]? =some a->w.syms[k]? =some b->a.name=b.name->a.kind=4/\(b.kind=4->∃n m:Nat,a.node=n/\b.node=m/\n<fn.length/\m<fn.length/\fn[n]?≠fn[m]?)
structure NL (t:List Node) (fn:List Int) (w:W) (U:St) (tb bf bs bo bt:Nat):Prop where
 src:Src U tb t
 tlen:t.length<=10000
 fnl:fn.length=t.length
 ofl:w.of.length=t.length
 tyl:w.ty.length=t.length
 syl:w.syms.length<=200000
 fn:U[bf]? =some (dF fn)
 sy:U[bs]? =some (lu w.syms)
 of:U[bo]? =some (dF w.of)
 ty:U[bt]? =some (dF w.ty)
section
variable {t:List Node} {fn:List Int} {w:W} {U:St} {tb bf bs bo bt i k:Nat} {tc sc:On} {y:Node} {s a:Sy} {Q:bw} {b1:Bool}
theorem NL.SG (h:NL t fn w U tb bf bs bo bt) (hs:w.syms[k]? =some s) (f:AV->Out):aI ae 44 U bs (0+((k:Int)).toNat*5) f=f (.agg (eS s)):=by
 have l6:aF U bs=some (w.syms.flatMap eS):=by unfold aF;rw[h.sy];rfl
 unfold aI;rw[l6];simp only;exact xr (enc:=eS) zF CB FJ hs (by omega)
theorem NL.FI (h:NL t fn w U tb bf bs bo bt) (hs:w.syms[k]? =some s) {j:Nat} {ty:TypeId} {v:AV} (ht:dz ae ty=some false) (hj:j<5) (hv:(eS s)[j]? =some v) (f:AV->Out):aI ae ty U bs ((0+((k:Int)).toNat*5)+j) f=f v:=by
 have l6:aF U bs=some (w.syms.flatMap eS):=by unfold aF;rw[h.sy];rfl
 refine cq l6 ht ?_;have:=sL (enc:=eS) (s:=5) zF hs (j:=j) (by omega);rw[show 0+((k:Int)).toNat*5+j=k*5+j from by omega,this,hv]
def Fh (U:St) (b:Bool):bw:=λr U'=>r=.ret (.bool b)/\U'=U
theorem agE (h:NL t fn w U tb bf bs bo bt) (hN:Cv t fn w) {a:Sy} (hi:w.syms[i]? =some a) (hk:Wp Q λu=>Hn u.n u.m1 b1 (some (bf,0)) t.length (some t.length) 1 i (some (bs,0)) w.syms.length sc 5 (some (bo,0)) t.length (some t.length) 1 (some (bt,0)) t.length (some t.length) 1 U):∀(n j:Nat),j+n=i->
  Wp Q λu=>wu u.n u.m1 u.m2 b1 (some (bf,0)) t.length (some t.length) 1 i j (some (bs,0)) w.syms.length sc 5 (some (bo,0)) t.length (some t.length) 1 (some (bt,0)) t.length (some t.length) 1 U:=by
 have pC:=(bl.1 hi).1;have iM:=h.syl;intro n
 induction n with
 |zero=>intro j hj;exact NU (Wp.neg (by rw[decide_eq_false_iff_not];omega) hk)
 |succ n ih=>
  intro j hj;obtain⟨b,hb⟩:∃b,w.syms[j]? =some b:=⟨_,bk (by omega)⟩
  have hw:ah .i64 ((j:Int)+1)=((j+1:Nat):Int):=by rw[wrap64 (by omega) (by omega)];omega
  refine NU (Wp.pos (by rw[decide_eq_true_eq];omega) ?_);simp only[bm (show(0:Int)<=(i:Int)/\(i:Int)<(w.syms.length:Int)from⟨by omega,by omega⟩),bm (show(0:Int)<=(j:Int)/\(j:Int)<(w.syms.length:Int)from⟨by omega,by omega⟩),an,aU,h.SG hi,h.SG hb,eS,bK,bc,ag,aG,aZ,hw];refine Wp.ite (λh1=>ih (j+1) (by omega)) λh1=>?_;have hn:a.name=b.name:=by simpa using h1
  obtain⟨h4,h5⟩:=hN.one i j a b (by omega) hi hb hn;refine Wp.neg (by rw[h4];rfl) (Wp.ite (λh6=>?_) λh6=>ih (j+1) (by omega));obtain⟨n1,n2,e1,e2,l1,l2,bD⟩:=h5 (by simpa using h6);have v1:fn[n1]? =some fn[n1]:=bk l1;have v2:fn[n2]? =some fn[n2]:=bk l2;have ix {q:Nat} (hq:q<fn.length) (z:Out):ao (q:Int) t.length z=z:=bm ⟨by omega,by rw[h.fnl]at hq;omega⟩;simp only[e1,e2,ix l1,ix l2,an,aU,oO h.fn v1,oO h.fn v2,ag];refine Wp.neg ?_ (ih (j+1) (by omega));rw[beq_eq_false_iff_ne];intro e;exact bD (by rw[v1,v2,e])
theorem agc (h:NL t fn w U tb bf bs bo bt) (hN:Cv t fn w):∀(n i:Nat),i+n=w.syms.length->
  Wp (Fh U b1) λu=>A5 u.n u.m1 b1 (some (bf,0)) t.length (some t.length) 1 i (some (bs,0)) w.syms.length sc 5 (some (bo,0)) t.length (some t.length) 1 (some (bt,0)) t.length (some t.length) 1 U:=by
 have iM:=h.syl;intro n
 induction n with
 |zero=>intro i hi;exact NT (Wp.neg (by rw[decide_eq_false_iff_not];omega) (Zb (Wp.ret ⟨rfl,rfl⟩)))
 |succ n ih=>
  intro i hi;have hw:ah .i64 ((i:Int)+1)=((i+1:Nat):Int):=by rw[wrap64 (by omega) (by omega)];omega
  obtain⟨a,ha⟩:∃a,w.syms[i]? =some a:=⟨_,bk (by omega)⟩
  refine NT (Wp.pos (by rw[decide_eq_true_eq];omega) ?_);refine Wp.yu (F:=λn' m1 m2=>wu n' m1 m2 b1 (some (bf,0)) t.length (some t.length) 1 i 0 (some (bs,0)) w.syms.length sc 5 (some (bo,0)) t.length (some t.length) 1 (some (bt,0)) t.length (some t.length) 1 U) ?_;refine agE h hN ha (Y6 ?_) i 0 (by omega);rw[hw];exact ih (i+1) (by omega)
theorem adz (h:NL t fn w U tb bf bs bo bt) (hN:Cv t fn w):∀(n i:Nat),i+n=t.length->
  Wp (Fh U b1) λu=>A4 u.n u.m1 b1 (some (tb,0)) t.length tc 6 (some (bf,0)) t.length (some t.length) 1 i (some (bs,0)) w.syms.length sc 5 (some (bo,0)) t.length (some t.length) 1 (some (bt,0)) t.length (some t.length) 1 U:=by
 have dr:=h.tlen;have iM:=h.syl;intro n
 induction n with
 |zero=>
  intro i hi;refine NS (Wp.neg (by rw[decide_eq_false_iff_not];omega) (Y9 ?_));refine Wp.cD (F:=λn' m=>A5 n' m b1 (some (bf,0)) t.length (some t.length) 1 0 (some (bs,0)) w.syms.length sc 5 (some (bo,0)) t.length (some t.length) 1 (some (bt,0)) t.length (some t.length) 1 U) ?_;exact agc h hN w.syms.length 0 (by omega)
 |succ n ih=>
  intro i hi;have pC:i<t.length:=by omega
  obtain⟨y,hy⟩:∃y,t[i]? =some y:=⟨_,bk pC⟩
  have hw:ah .i64 ((i:Int)+1)=((i+1:Nat):Int):=by rw[wrap64 (by omega) (by omega)];omega
  have ix (z:Out):ao (i:Int) t.length z=z:=bm ⟨by omega,by omega⟩;have next:Wp (Fh U b1) λu=>A3 u.n u.m1 b1 (some (tb,0)) t.length tc 6 (some (bf,0)) t.length (some t.length) 1 i (some (bs,0)) w.syms.length sc 5 (some (bo,0)) t.length (some t.length) 1 (some (bt,0)) t.length (some t.length) 1 U:=by
   refine Y7 ?_;rw[hw];exact ih (i+1) (by omega)
  have j3 (hk:y.kind=3\/y.kind=4):Wp (Fh U b1) λu=>DB u.n u.m1 b1 (some (tb,0)) t.length tc 6 (some (bf,0)) t.length (some t.length) 1 i (some (bs,0)) w.syms.length sc 5 (some (bo,0)) t.length (some t.length) 1 (some (bt,0)) t.length (some t.length) 1 U:=by
   obtain⟨k,s,ho,hs,wS,eH,nH⟩:=hN.name i y hy hk;have eW:=(bl.1 hs).1;have EE (z:Out):ao (k:Int) w.syms.length z=z:=bm ⟨by omega,by omega⟩;refine Y8 ?_;simp only[ix,an,aU,oO h.of ho,ag];refine Wp.neg (by rw[decide_eq_false_iff_not];omega) (Wp.neg (by rw[decide_eq_false_iff_not];omega) ?_);simp only[EE,an,aU,h.FI hs kX (show 4<5 by decide) rfl,aG,ix,h.src.text hy];refine Wp.neg (by rw[wS];simp) ?_;simp only[ix,an,aU,oO h.ty eH,ag,EE,h.FI hs fA (show 1<5 by decide) rfl];refine Za (Wp.neg (by simp) ?_);simp only[EE,an,aU,h.FI hs fA (show 0<5 by decide) rfl,ag];refine Wp.ite (λh4=>?_) λ_=>next
   obtain⟨q,hq,hqi,hfe⟩:=nH (by simpa using h4);have hqf:q<fn.length:=by rw[h.fnl];omega
   have v1:fn[q]? =some fn[q]:=bk hqf;have v2:fn[i]? =some fn[q]:=by rw[<-hfe];exact v1
   have ixq (z:Out):ao (q:Int) t.length z=z:=bm ⟨by omega,by omega⟩;simp only[EE,an,aU,h.FI hs fA (show 3<5 by decide) rfl,ag,hq];refine Wp.neg (by rw[decide_eq_false_iff_not];omega) ?_;simp only[ixq,ix,an,aU,oO h.fn v1,oO h.fn v2,ag];exact Wp.neg (by simp) next
  refine NS (Wp.pos (by rw[decide_eq_true_eq];omega) ?_);simp only[ix,an,aU,h.src.kind hy,ag];refine Wp.ite (λh3=>Wp.ite (λh4=>next) λh4=>j3 (.inr (by simpa using h4))) λh3=>j3 (.inl (by simpa using h3))
end
end Go.Front
end
section
set_option maxRecDepth 100000
namespace Go.Front
open Go.AM Go.Proofs
def zR (c:Cx) (w:W) (j:Nat) (y:Node):Prop:=∃(k:Nat) (s:Sy),w.of[j]? =some (k:Int)/\w.syms[k]? =some s/\s.name=y.text/\w.ty[j]? =some s.ty/\(s.kind=4->∃n:Nat,s.node=n/\n<j/\c.fn[n]? =c.fn[j]?)
def xT (c:Cx) (l:List Sy):Prop:=∀(i k:Nat) (a b:Sy),k<i->l[i]? =some a->l[k]? =some b->a.name=b.name->a.kind=4/\(b.kind=4->∃n m:Nat,a.node=n/\b.node=m/\n<c.fn.length/\m<c.fn.length/\c.fn[n]?≠c.fn[m]?)
structure LI (c:Cx) (i:Nat) (w:W):Prop where
 ofl:w.of.length=c.t.length
 tyl:w.ty.length=c.t.length
 loc:∀s∈w.syms,s.kind=4->∃n:Nat,s.node=n/\n<i/\n<c.t.length
 one:xT c w.syms
 name:∀j y,j<i->c.t[j]? =some y->y.kind=3\/y.kind=4->zR c w j y
section
variable {c:Cx} {w w':W} {i:Nat} {y:Node} {s:Sy}
theorem zR.bE {j:Nat} (h:zR c w j y) (ho:w'.of[j]? =w.of[j]?) (ht:w'.ty[j]? =w.ty[j]?) (hs:∀(k:Nat) (s:Sy),w.syms[k]? =some s->w'.syms[k]? =some s):zR c w' j y:=by
 obtain⟨k,s,h1,h2,h3,h4,h5⟩:=h;exact⟨k,s,by rw[ho];exact h1,hs k s h2,h3,by rw[ht];exact h4,h5⟩
theorem LI.bE (h:LI c i w) (hy:c.t[i]? =some y) (hs:w'.syms=w.syms) (ho:∀j,j≠i->w'.of[j]? =w.of[j]?) (ht:∀j,j≠i->w'.ty[j]? =w.ty[j]?) (En:w'.of.length=w.of.length) (dr:w'.ty.length=w.ty.length)
  (hn:y.kind=3\/y.kind=4->zR c w' i y):LI c (i+1) w' where
 ofl:=En.trans h.ofl
 tyl:=dr.trans h.tyl
 loc s hm h4:=by
  rw[hs]at hm;obtain⟨n,h1,h2,h3⟩:=h.loc s hm h4;exact⟨n,h1,by omega,h3⟩
 one:=by rw[hs];exact h.one
 name j y' hj wX hk:=by
  by_cases l7:j=i
  ·subst l7;rw[hy]at wX;cases wX;exact hn hk
  ·exact(h.name j y' (by omega) wX hk).bE (ho j l7) (ht j l7) λk s hx=>by rw[hs];exact hx
theorem agr {l:List Sy} {nm:By} (h:gX l nm=none):∀b∈l,b.kind≠4->b.name≠nm:=by
 intro b hb h4 hn;have:=List.findIdx?_eq_none_iff.1 h b hb;unfold tn at this;simp[h4,hn]at this
theorem ac8 {l:List Sy} {fn:List Int} {g:Int} {nm:By} (h:jQ fn l g nm=none):∀b∈l,b.kind=4->b.name=nm->fn[b.node.toNat]?≠some g:=by
 intro b hb h4 hn hg;have:=List.findIdx?_eq_none_iff.1 h b hb;unfold tl at this;simp[h4,hn,hg]at this
theorem aau {k:Nat} (dU:c.fn.length=c.t.length) (hi:i<c.t.length) (h:jG c w i y=some k):∃s,w.syms[k]? =some s/\s.name=y.text/\(s.kind=4->c.fn[s.node.toNat]? =c.fn[i]?):=by
 have hg:c.fn[i]? =some (c.fn.getD i 0):=by rw[gq,bk (by rw[dU];exact hi)];rfl
 unfold jG at h;cases hl:jQ c.fn w.syms (c.fn.getD i 0) y.text with
 |some k'=>
  rw[hl]at h;cases h;obtain⟨al,hp,_⟩:=List.findIdx?_eq_some_iff_getElem.1 hl;unfold tl at hp;simp at hp;exact⟨_,bk al,hp.1.2,λ_=>by rw[hg];exact hp.2⟩
 |none=>
  rw[hl]at h;have h:gX w.syms y.text=some k:=h;obtain⟨al,hp,_⟩:=List.findIdx?_eq_some_iff_getElem.1 h;unfold tn at hp;simp at hp;exact⟨_,bk al,hp.2,λe=>absurd e hp.1⟩
theorem xT.app {l:List Sy} (h:xT c l) (hx:∀(k:Nat) (b:Sy),l[k]? =some b->s.name=b.name->s.kind=4/\(b.kind=4->∃n m:Nat,s.node=n/\b.node=m/\n<c.fn.length/\m<c.fn.length/\c.fn[n]?≠c.fn[m]?)):xT c (l++[s]):=by
 intro i k a b hk ha hb hn;by_cases hi:i<l.length
 ·rw[bO hi]at ha;rw[bO (by omega)]at hb;exact h i k a b hk ha hb hn
 ·rw[bQ (by omega)]at ha;have wK:i-l.length=0:=by
   have:=(bl.1 ha).1;simp at this;omega
  rw[wK]at ha;cases ha;rw[bO (by omega)]at hb;exact hx k b hb hn
theorem T6 (dU:c.fn.length=c.t.length) (h:LI c i w) (hy:c.t[i]? =some y) (h0:(iB c w i y).1=0):LI c (i+1) (iB c w i y).2:=by
 have hi:=(bl.1 hy).1;have stay {w':W} (hs:w'.syms=w.syms) (ho:w'.of=w.of) (ht:∀j,j≠i->w'.ty[j]? =w.ty[j]?) (dr:w'.ty.length=w.ty.length) (h3:¬(y.kind=3\/y.kind=4)):LI c (i+1) w':=
  h.bE hy hs (λj _=>by rw[ho]) ht (by rw[ho]) dr λe=>absurd e h3
 have Ca {v:Int} (h3:¬(y.kind=3\/y.kind=4)):LI c (i+1) (w.cJ i v):=stay rfl rfl (λj hj=>aD (cY hj)) (by simp[W.cJ]) h3;have same (h3:¬(y.kind=3\/y.kind=4)):LI c (i+1) w:=stay rfl rfl (λ_ _=>rfl) rfl h3;have named {k:Nat} (hf:jG c w i y=some k) {s:Sy} (hs:w.syms[k]? =some s):LI c (i+1) ((w.dn i k).cJ i s.ty):=by
  obtain⟨s',Et,hn,hl⟩:=aau dU hi hf;rw[hs]at Et;cases Et;refine h.bE hy rfl (λj hj=>?_) (λj hj=>?_) (by simp[W.dn,W.cJ]) (by simp[W.dn,W.cJ]) λ_=>⟨k,s,?_,hs,hn,?_,λh4=>?_⟩
  ·show(w.of.set i (k:Int))[j]? =_;rw[aD (cY hj)]
  ·show(w.ty.set i s.ty)[j]? =_;rw[aD (cY hj)]
  ·show(w.of.set i (k:Int))[i]? =_;exact cM (by rw[h.ofl];exact hi)
  ·show(w.ty.set i s.ty)[i]? =_;exact cM (by rw[h.tyl];exact hi)
  ·obtain⟨n,h1,h2,_⟩:=h.loc s (fF hs) h4;have:=hl h4;rw[h1,fa]at this;exact⟨n,h1,h2,this⟩
 unfold iB at h0|-;by_cases e1:y.kind=1
 ·rw[if_pos e1];exact Ca (by omega)
 rw[if_neg e1]at h0|-;by_cases e2:y.kind=2
 ·rw[if_pos e2];exact Ca (by omega)
 rw[if_neg e2]at h0|-;by_cases e3:y.kind=3
 ·rw[if_pos e3]at h0|-;unfold xj at h0|-;cases hf:jG c w i y with
  |none=>rw[hf]at h0;cases h0
  |some k=>
   obtain⟨s,hs⟩:=yq hf;simp only[hs];exact named hf hs
 rw[if_neg e3]at h0|-;by_cases e4:y.kind=4
 ·rw[if_pos e4]at h0|-;unfold q8 at h0|-;cases hf:jG c w i y with
  |none=>rw[hf]at h0;cases h0
  |some k=>
   obtain⟨s,hs⟩:=yq hf;simp only[hs];split<;>exact named hf hs
 rw[if_neg e4]at h0|-;have h34:¬(y.kind=3\/y.kind=4):=by rintro(h|h);exact e3 h;exact e4 h
 by_cases e5:y.kind=5
 ·rw[if_pos e5];exact Ca h34
 rw[if_neg e5]at h0|-;by_cases e6:y.kind=6
 ·rw[if_pos e6];exact Ca h34
 rw[if_neg e6]at h0|-;by_cases e7:y.kind=7
 ·rw[if_pos e7];unfold q4;split
  ·refine stay rfl rfl (λj hj=>?_) (by simp[W.cJ]) h34;show((w.ty.set i 1).set i _)[j]? =_;rw[aD (cY hj),aD (cY hj)]
  ·exact Ca h34
 rw[if_neg e7]at h0|-;by_cases e11:y.kind=11
 ·rw[if_pos e11];exact same h34
 rw[if_neg e11]at h0|-;by_cases e12:y.kind=12\/y.kind=13\/y.kind=14
 ·rw[if_pos e12];exact same h34
 rw[if_neg e12]at h0|-;by_cases e15:y.kind=15\/y.kind=16
 ·rw[if_pos e15];exact same h34
 rw[if_neg e15]at h0|-;by_cases e18:y.kind=18
 ·rw[if_pos e18]at h0|-;unfold xh at h0|-;have hg:c.fn[i]? =some (c.fn.getD i 0):=by rw[gq,bk (by rw[dU];exact hi)];rfl
  cases hf:jQ c.fn w.syms (c.fn.getD i 0) y.text with
  |some k=>rw[hf]at h0;cases h0
  |none=>
   simp only[hf]at h0|-;by_cases hm:jS c w i=24
   ·rw[if_pos hm]at h0;cases h0
   ·rw[if_neg hm];have dW:=ac8 hf;refine⟨by simp[W.dn,W.add,h.ofl],h.tyl,λs hs h4=>?_,h.one.app (s:=⟨4,y.m,jS c w i,i,y.text⟩) λk b hb hn=>⟨rfl,λlZ=>?_⟩,λj y' hj wX hk=>?_⟩
    ·have hs:s∈w.syms++[⟨4,y.m,jS c w i,i,y.text⟩]:=hs;rcases cX.1 hs with hs|hs
     ·obtain⟨n,h1,h2,h3⟩:=h.loc s hs h4;exact⟨n,h1,by omega,h3⟩
     ·rw[oZ.1 hs];exact⟨i,rfl,by omega,hi⟩
    ·have qt:=fF hb;obtain⟨m,h1,h2,h3⟩:=h.loc b qt lZ;have:=dW b qt lZ hn.symm;rw[h1,fa]at this;exact⟨i,m,rfl,h1,by rw[dU];exact hi,by rw[dU];exact h3,λe=>this (by rw[<-e];exact hg)⟩
    ·by_cases l7:j=i
     ·subst l7;rw[hy]at wX;cases wX;exact absurd hk h34
     ·refine(h.name j y' (by omega) wX hk).bE ?_ rfl λk s hx=>?_
      ·show(w.of.set i (w.syms.length:Int))[j]? =_;rw[aD (cY l7)]
      ·show(w.syms++[_])[k]? =_;rw[bO (bl.1 hx).1];exact hx
 rw[if_neg e18]at h0|-;by_cases e23:y.kind=23
 ·rw[if_pos e23];unfold wb;cases hf:gX w.syms [109,97,105,110]with
  |none=>exact same h34
  |some k=>
   simp only;cases w.syms[k]? with
   |none=>exact same h34
   |some s=>exact same h34
 rw[if_neg e23];exact same h34
theorem Vc (dU:c.fn.length=c.t.length):∀(n i:Nat) {w:W},i+n=c.t.length->LI c i w->(oq c n i w).1.1=0->LI c c.t.length (oq c n i w).2:=by
 intro n
 induction n with
 |zero=>
  intro i w hi h _;have:i=c.t.length:=by omega
  subst this;exact h
 |succ n ih=>
  intro i w hi h h0;obtain⟨y,hy⟩:∃y,c.t[i]? =some y:=⟨_,bk (show i<c.t.length by omega)⟩
  rw[oq,hy]at h0|-;simp only at h0|-;by_cases he:(iB c w i y).1≠0
  ·rw[if_pos he]at h0;exact absurd h0 he
  ·rw[if_neg he]at h0|-;exact ih (i+1) (by omega) (T6 dU h hy (by simpa using he)) h0
theorem Vu:∀(n i:Nat) {w:W},i+n=c.t.length->w.of.length=c.t.length->w.ty.length=c.t.length->(∀s∈w.syms,s.kind≠4)->xT c w.syms->(k6 c n i w).1.1=0->LI c 0 (k6 c n i w).2:=by
 intro n
 induction n with
 |zero=>intro i w hi h1 h2 h3 h4 _;exact⟨h1,h2,λs hs h=>absurd h (h3 s hs),h4,λj y hj=>by omega⟩
 |succ n ih=>
  intro i w hi h1 h2 h3 h4 h0;obtain⟨y,hy⟩:∃y,c.t[i]? =some y:=⟨_,bk (show i<c.t.length by omega)⟩
  rw[k6,hy]at h0|-;simp only at h0|-;cases hd:qk y i with
  |none=>rw[hd]at h0;exact ih (i+1) (by omega) h1 h2 h3 h4 h0
  |some s=>
   rw[hd]at h0;simp only at h0|-;obtain⟨k4,kn,_⟩:=CV hd;cases ht:gX w.syms y.text with
   |some k=>rw[ht]at h0;simp at h0
   |none=>
    rw[ht]at h0;simp only[Option.isSome_none,aW,if_false]at h0|-;by_cases hm:oP y=true
    ·rw[if_pos hm]at h0;simp at h0
    ·rw[if_neg hm]at h0|-;refine ih (i+1) (by omega) (by simp[W.dn,W.add,h1]) h2 (λx hx=>?_) (h4.app λk b hb hn=>?_) h0
     ·have hx:x∈w.syms++[s]:=hx;rcases cX.1 hx with hx|hx
      ·exact h3 x hx
      ·rw[oZ.1 hx];exact k4
     ·have qt:=fF hb;exact absurd (hn.symm.trans kn) (agr ht b qt (h3 b qt))
end
theorem mR {w:W} {p:Prop} [Decidable p] {a b:Int×W} (ha:w.syms<+:a.2.syms) (hb:w.syms<+:b.2.syms):w.syms<+:(if p then a else b).2.syms:=by split<;>assumption
theorem KX {c:Cx} {w:W} {i:Nat} {y:Node}:w.syms<+:(iB c w i y).2.syms:=by
 have h1:w.syms<+:(xj c w i y).2.syms:=by
  unfold xj;split
  ·exact gZ
  ·split<;>exact gZ
 have h2:w.syms<+:(q8 c w i y).2.syms:=by
  unfold q8;split
  ·exact gZ
  ·split
   ·exact gZ
   ·exact mR gZ gZ
 have h3:w.syms<+:(q4 w i y).2.syms:=mR gZ gZ;have h4:w.syms<+:(xh c w i y).2.syms:=by
  unfold xh;split
  ·exact gZ
  ·exact mR gZ (List.prefix_append _ _)
 have h5:w.syms<+:(wb w).2.syms:=by
  unfold wb;split
  ·exact gZ
  ·split<;>exact gZ
 have h0 {v:Int}:w.syms<+:(w.cJ i v).syms:=gZ;exact mR h0 (mR h0 (mR h1 (mR h2 (mR h0 (mR h0 (mR h3 (mR gZ (mR gZ (mR gZ (mR h4 (mR h5 gZ)))))))))))
theorem Lz {c:Cx}:∀(n i:Nat) (w:W),w.syms<+:(oq c n i w).2.syms
 |0,_,w=>gZ
 |n+1,i,w=>by
  rw[oq];cases c.t[i]? with
  |none=>exact gZ
  |some y=>
   simp only;split
   ·exact KX
   ·exact KX.trans (Lz n (i+1) _)
theorem Gy {c:Cx}:∀(n i:Nat) (w:W),w.syms<+:(k6 c n i w).2.syms
 |0,_,w=>gZ
 |n+1,i,w=>by
  rw[k6];cases c.t[i]? with
  |none=>exact gZ
  |some y=>
   simp only;cases qk y i with
   |none=>exact Gy n (i+1) w
   |some s=>
    simp only;split
    ·exact gZ
    ·split
     ·exact gZ
     ·exact(List.prefix_append w.syms [s]).trans (Gy n (i+1) ((w.add s).dn i w.syms.length))
theorem adA {t:List Node} (dU:(iC t).fn.length=t.length) (h0:(jE t).1.1=0):Cv t (iC t).fn (jE t).2/\(jE t).2.of.length=t.length/\(jE t).2.ty.length=t.length/\(jE t).2.syms≠[]:=by
 unfold jE at h0|-;by_cases hd:(qj t).1.1≠0
 ·rw[if_pos hd]at h0;exact absurd h0 hd
 rw[if_neg hd]at h0|-;have hb:xT (iC t) er:=by
  intro i k a b hk ha hb hn
  exfalso
  have key:((r9 7).all λi=>(r9 i).all λk=>match er[i]?,er[k]? with|some a,some b=>a.name !=b.name|_,_=>true)=true:=by decide
  have hi:i<7:=(bl.1 ha).1;have h1:=mq.1 key i (List.mem_range.2 hi);have h2:=mq.1 h1 k (List.mem_range.2 hk);rw[ha,hb]at h2;simp[hn]at h2
 have h1:LI (iC t) 0 (qj t).2:=Vu (c:=iC t) t.length 0 (by show 0+t.length=t.length;omega) (by simp[iC]) (by simp[iC]) (show∀s∈er,s.kind≠4 by decide) hb (show(qj t).1.1=0 from Decidable.not_not.1 hd);have h2:=Vc (c:=iC t) dU t.length 0 (by show 0+t.length=t.length;omega) h1 h0;refine⟨⟨λi y hy hk=>h2.name i y (bl.1 hy).1 hy hk,h2.one⟩,h2.ofl,h2.tyl,λe=>?_⟩;have hp:=(Gy (c:=iC t) t.length 0 ⟨er,bL t.length (-1),bL t.length 0⟩).trans (Lz (c:=iC t) t.length 0 (qj t).2);have hl:=hp.length_le;rw[e]at hl;exact absurd (show 7<=0 from hl) (by decide)
end Go.Front
end
section
set_option maxRecDepth 100000
namespace Go.Front
open Go.AM Go.Proofs
theorem Lw {F:Nat->Nat}:∀{l:List Nat} {f g:Nat},(∀k∈l,F k<=k)->chain F f l=some g->(∀k∈l,g<=F k/\k<f)/\(∀q,g<=q->q<f->∃k∈l,F k<=q/\q<=k)/\(∀k∈l,∀k'∈l,∀q,F k<=q->q<=k->F k'<=q->q<=k'->k=k')/\g<=f
 | [],f,g,_,h=>by cases h;exact⟨(λk h=>by cases h),(λq h1 h2=>by omega),(λk h=>by cases h),aA _⟩
 |k::r,f,g,hF,h=>by
  unfold chain at h;split at h
  ·rename_i hk;obtain⟨h1,h2,h3,h4⟩:=Lw (λx hx=>hF x (by simp[hx])) h;have O2:=hF k (by simp);refine⟨λx hx=>?_,λq hq1 hq2=>?_,λx hx x' qx q a1 a2 a3 a4=>?_,by omega⟩
   ·rcases bS.1 hx with rfl|hx
    ·exact⟨h4,by omega⟩
    ·have:=h1 x hx;exact⟨this.1,by omega⟩
   ·by_cases hq:F k<=q
    ·exact⟨k,by simp,hq,by omega⟩
    ·obtain⟨x,hx,a,b⟩:=h2 q hq1 (by omega);exact⟨x,by simp[hx],a,b⟩
   ·rcases bS.1 hx with e|m<;>rcases bS.1 qx with e'|m'
    ·rw[e,e']
    ·have:=(h1 x' m').2;have:F x=F k:=by rw[e]
     omega
    ·have:=(h1 x m).2;have:F x'=F k:=by rw[e']
     omega
    ·exact h3 x m x' m' q a1 a2 a3 a4
  ·cases h
structure TF (t:List Node) (F:Nat->Nat):Prop where
 ch:∀(i:Nat) (y:Node),t[i]? =some y->chain F i y.kids.reverse=some (F i)
 le:∀i,i<t.length->F i<=i
 lt:∀(i:Nat) (y:Node),t[i]? =some y->∀k∈y.kids,k<i
section
variable {t:List Node} {F:Nat->Nat}
theorem TF.xD (h:TF t F) {i:Nat} {y:Node} (hy:t[i]? =some y):(∀k∈y.kids,F i<=F k/\k<i)/\(∀q,F i<=q->q<i->∃k∈y.kids,F k<=q/\q<=k)/\(∀k∈y.kids,∀k'∈y.kids,∀q,F k<=q->q<=k->F k'<=q->q<=k'->k=k'):=by
 have hi:=(bl.1 hy).1;obtain⟨h1,h2,h3,_⟩:=Lw (λk hk=>h.le k (by have:=h.lt i y hy k (uc.1 hk);omega)) (h.ch i y hy);exact⟨λk hk=>h1 k (uc.2 hk),λq a b=>by obtain⟨k,hk,c⟩:=h2 q a b;exact⟨k,uc.1 hk,c⟩,λk hk k' gx=>h3 k (uc.2 hk) k' (uc.2 gx)⟩
theorem TF.nest (h:TF t F):∀(j i:Nat),j<t.length->F j<=i->i<=j->F j<=F i:=by
 intro j
 induction j using Nat.strongRecOn with
 |ind j ih=>
  intro i hj h1 h2;by_cases e:i=j
  ·subst e;exact aA _
  ·obtain⟨y,hy⟩:∃y,t[j]? =some y:=⟨_,bk hj⟩
   obtain⟨a,b,_⟩:=h.xD hy;obtain⟨k,hk,c1,c2⟩:=b i h1 (by omega);have:=ih k (a k hk).2 i (by have:=(a k hk).2;omega) c1 c2;have:=(a k hk).1;omega
theorem TF.uniq (h:TF t F) {i j k:Nat} {y z:Node} (hy:t[i]? =some y) (hz:t[j]? =some z) (hk:k∈y.kids) (gx:k∈z.kids):i=j:=by
 have key {i j:Nat} {y z:Node} (hy:t[i]? =some y) (hz:t[j]? =some z) (hk:k∈y.kids) (gx:k∈z.kids):¬i<j:=by
  intro Eg;have hi:=(bl.1 hy).1;have hj:=(bl.1 hz).1;obtain⟨a1,_,_⟩:=h.xD hy;obtain⟨b1,b2,b3⟩:=h.xD hz;have sU:=a1 k hk;have nE:=b1 k gx;have O2:=h.le k (by omega);obtain⟨q,hq,c1,c2⟩:=b2 i (by omega) Eg;have hqj:=b1 q hq;have hn:=h.nest q i (by omega) c1 c2;have:=b3 q hq k gx k (by omega) (by omega) O2 (aA _);omega
 rcases Nat.lt_trichotomy i j with hl|hl|hl
 ·exact absurd hl (key hy hz hk gx)
 ·exact hl
 ·exact absurd hl (key hz hy gx hk)
theorem TF.cover (h:TF t F) {k:Nat}:∀(j:Nat),j<t.length->F j<=k->k<j->∃(i:Nat) (y:Node),t[i]? =some y/\k∈y.kids:=by
 intro j
 induction j using Nat.strongRecOn with
 |ind j ih=>
  intro hj h1 h2;obtain⟨y,hy⟩:∃y,t[j]? =some y:=⟨_,bk hj⟩
  obtain⟨a,b,_⟩:=h.xD hy;obtain⟨q,hq,c1,c2⟩:=b k h1 h2;by_cases e:k=q
  ·subst e;exact⟨j,y,hy,hq⟩
  ·have:=(a q hq).2;exact ih q this (by omega) c1 (by omega)
def oM (t:List Node) (k:Nat):Bool:=match t[k]? with|some y=>y.kind==22|none=>false
structure zJ (t:List Node) (fn:List Int):Prop where
 len:fn.length=t.length
 root:fn[t.length-1]? =some (if oM t (t.length-1)then((t.length-1:Nat):Int)else-1)
 eg:∀(i:Nat) (y:Node),t[i]? =some y->∀k∈y.kids,fn[k]? =if oM t k then some (k:Int)else fn[i]?
theorem zJ.same (h:TF t F) (bD:0<t.length) (hr:F (t.length-1)=0) {f g:List Int} (hf:zJ t f) (hg:zJ t g):f=g:=by
 have key:∀(n k:Nat),k+n=t.length-1->f[k]? =g[k]?:=by
  intro n
  induction n using Nat.strongRecOn with
  |ind n ih=>
   intro k hk;by_cases e:k=t.length-1
   ·subst e;rw[hf.root,hg.root]
   ·obtain⟨i,y,hy,sU⟩:=h.cover (k:=k) (t.length-1) (by omega) (by omega) (by omega);have H0:=h.lt i y hy k sU;have hi:=(bl.1 hy).1;rw[hf.eg i y hy k sU,hg.eg i y hy k sU,ih (t.length-1-i) (by omega) i (by omega)]
 apply List.ext_getElem?;intro k;by_cases hk:k<t.length
 ·exact key (t.length-1-k) k (by omega)
 ·rw[fP (by rw[hf.len];omega),fP (by rw[hg.len];omega)]
theorem KH {y:Node} {i:Nat} (al:∀k∈y.kids,k<i):∀(l:List (Nat×Nat)) (x:List Int×List Bool),(∀k∈l,k.1∈y.kids)->(l.foldl (nj y i) x).1.length=x.1.length/\
  (∀q,(∀k∈l,k.1≠q)->(l.foldl (nj y i) x).1[q]? =x.1[q]?)/\∀k∈l,k.1<x.1.length->(l.foldl (nj y i) x).1[k.1]? =some (x.1.getD i 0)
 | [],x,_=>⟨rfl,λq _=>rfl,λk h=>by cases h⟩
 |k::l,x,hl=>by
  obtain⟨h1,h2,h3⟩:=KH al l (nj y i x k) (λk hk=>hl k (by simp[hk]));have sU:k.1≠i:=by have:=al k.1 (hl k (by simp));omega
  have hd:(nj y i x k).1.getD i 0=x.1.getD i 0:=by
   show(x.1.set k.1 _).getD i 0=_;rw[gq,aD sU,<-gq]
  have hlen:(nj y i x k).1.length=x.1.length:=by show(x.1.set k.1 _).length=_;simp
  refine⟨by rw[vW,h1,hlen],λq hq=>?_,λk' gx Ej=>?_⟩
  ·rw[vW,h2 q (λk' gx=>hq k' (by simp[gx]))];show(x.1.set k.1 _)[q]? =_;rw[aD (hq k (by simp))]
  ·rw[vW];by_cases hm:∃k2∈l,k2.1=k'.1
   ·obtain⟨k2,gi,e⟩:=hm;rw[<-e,h3 k2 gi (by rw[hlen,e];exact Ej),hd]
   ·rw[h2 k'.1 (λk2 gi e=>hm ⟨k2,gi,e⟩)];rcases bS.1 gx with rfl|gx
    ·show(x.1.set k'.1 (x.1.getD i 0))[k'.1]? =_;rw[cM Ej]
    ·exact absurd ⟨k',gx,rfl⟩ hm
structure zK (t:List Node) (n:Nat) (fn:List Int):Prop where
 len:fn.length=t.length
 root:fn[t.length-1]? =some (if oM t (t.length-1)&&decide (n<=t.length-1)then((t.length-1:Nat):Int)else-1)
 eg:∀(i:Nat) (y:Node),n<=i->t[i]? =some y->∀k∈y.kids,fn[k]? =if oM t k&&decide (n<=k)then some (k:Int)else fn[i]?
theorem TR (h:TF t F) {n:Nat} {x:List Int×List Bool} (hn:n<t.length) (hx:zK t (n+1) x.1):zK t n (zY t n x).1:=by
 obtain⟨y,hy⟩:∃y,t[n]? =some y:=⟨_,bk hn⟩
 have al:=h.lt n y hy;have qv:∀k∈y.kids.zipIdx,k.1∈y.kids:=λk hk=>by
  have:=List.mem_zipIdx hk;simp at this;rw[this.2];exact List.getElem_mem _
 have h22:oM t n=(y.kind==22):=by unfold oM;rw[hy]
 unfold zY;rw[hy];simp only;generalize vd:(if y.kind=22 then x.1.set n (n:Int)else x.1)=x1;obtain⟨g1,g2,g3⟩:=KH al (y.kids.zipIdx) (x1,x.2) qv;have fS:x1.length=t.length:=by rw[<-vd];split<;>simp[hx.len]
 have no {q:Nat} (hq:q∉y.kids):((y.kids.zipIdx).foldl (nj y n) (x1,x.2)).1[q]? =x1[q]?:=g2 q λk hk e=>hq (e▸qv k hk);have yes {q:Nat} (hq:q∈y.kids):((y.kids.zipIdx).foldl (nj y n) (x1,x.2)).1[q]? =x1[n]?:=by
  obtain⟨j,hj,e⟩:=List.mem_iff_getElem.1 hq;have hz:(q,j)∈y.kids.zipIdx:=by rw[List.mk_mem_zipIdx_iff_getElem?,bk hj,e]
  have hqn:=al q hq;rw[g3 (q,j) hz (by show q<x1.length;omega)];show some (x1.getD n 0)=_;rw[gq,bk (by omega)];rfl
 have J3 {q:Nat} (hq:q≠n):x1[q]? =x.1[q]?:=by
  rw[<-vd];split
  ·rw[aD (cY hq)]
  ·rfl
 have Tc:x1[n]? =if oM t n then some (n:Int)else x.1[n]?:=by
  rw[<-vd,h22];by_cases e:y.kind=22
  ·rw[if_pos e,if_pos (by simpa using e)];exact cM (by rw[hx.len];exact hn)
  ·rw[if_neg e,if_neg (by simpa using e)]
 have Q5 {q:Nat} (hq:n<=q):q∉y.kids:=λhm=>by have:=al q hm;omega
 refine⟨g1.trans fS,?_,λi z hi hz k hk=>?_⟩
 ·rw[no (Q5 (by omega))];by_cases e:t.length-1=n
  ·rw[e,Tc,<-e,hx.root];cases oM t (t.length-1)<;>simp<;>omega
  ·rw[J3 e,hx.root];have e1:decide (n+1<=t.length-1)=true:=by rw[decide_eq_true_eq];omega
   have e2:decide (n<=t.length-1)=true:=by rw[decide_eq_true_eq];omega
   rw[e1,e2]
 ·have sU:=h.lt i z hz k hk;rw[no (Q5 hi)];by_cases ei:i=n
  ·subst ei;rw[hy]at hz;cases hz;rw[yes hk];have:decide (i<=k)=false:=by rw[decide_eq_false_iff_not];omega
   rw[this,Bool.and_false];rfl
  ·have mM:k∉y.kids:=λhm=>ei (h.uniq hz hy hk hm);rw[no mM,J3 ei];have Qc:=hx.eg i z (by omega) hz k hk;by_cases ek:k=n
   ·subst ek;rw[Tc,Qc];have:decide (k+1<=k)=false:=by rw[decide_eq_false_iff_not];omega
    rw[this,Bool.and_false];simp
   ·rw[J3 ek,Qc];have:decide (n+1<=k)=decide (n<=k):=by rw[decide_eq_decide];omega
    rw[this]
theorem KM (h:TF t F) (bD:0<t.length):zJ t (uu t).1:=by
 have key:∀(n:Nat) (x:List Int×List Bool),n<=t.length->zK t n x.1->zK t 0 (CF t n x).1:=by
  intro n
  induction n with
  |zero=>intro x _ hx;exact hx
  |succ n ih=>intro x hn hx;exact ih _ (by omega) (TR h (by omega) hx)
 have h0:zK t t.length ((bL t.length (0:Int)).set (t.length-1) (-1)):=by
  refine⟨by simp,?_,λi y hi hy=>?_⟩
  ·rw[cM (by simp;omega)];have:decide (t.length<=t.length-1)=false:=by rw[decide_eq_false_iff_not];omega
   rw[this,Bool.and_false];rfl
  ·have:=(bl.1 hy).1;omega
 have:=key t.length ((bL t.length 0).set (t.length-1) (-1),bL t.length false) (aA _) h0;refine⟨this.len,?_,λi y hy k hk=>?_⟩
 ·have:=this.root;unfold uu;simpa using this
 ·have:=this.eg i y (j9 _) hy k hk;unfold uu;simpa using this
end
end Go.Front
end
section
set_option maxRecDepth 100000
namespace Go.Front
open Go.AM Go.Proofs
section
variable {t:List Node} {F:Nat->Nat}
structure FQ (t:List Node) (F:Nat->Nat) (f:Int) (r:List Int) (k:Nat):Prop where
 self:r[k]? =some (if oM t k then(k:Int)else f)
 eg:∀(i:Nat) (z:Node),F k<=i->i<=k->t[i]? =some z->∀q∈z.kids,r[q]? =if oM t q then some (q:Int)else r[i]?
theorem TF.inside (h:TF t F) {k i q:Nat} {z:Node} (hk:k<t.length) (h1:F k<=i) (h2:i<=k) (hz:t[i]? =some z) (hq:q∈z.kids):F k<=q/\q<=k:=by
 have hn:=h.nest k i hk h1 h2;obtain⟨a,_,_⟩:=h.xD hz;have:=a q hq;have:=h.le q (by omega);omega
theorem KG (h:TF t F) {i n:Nat} {y:Node} {f:Int} {g:Nat×Nat->Bool} (hy:t[i]? =some y)
  (hP:∀(k:Nat) (l:Bool) (x:List Int×List Bool),k∈y.kids->x.1.length=t.length->(fB t n k f l x).1.length=t.length/\(∀q,¬(F k<=q/\q<=k)->(fB t n k f l x).1[q]? =x.1[q]?)/\FQ t F f (fB t n k f l x).1 k):
  ∀(l:List (Nat×Nat)) (x:List Int×List Bool),(∀e∈l,e.1∈y.kids)->x.1.length=t.length->
   (l.foldl (λx k=>fB t n k.1 f (g k) x) x).1.length=t.length/\(∀q,(∀e∈l,¬(F e.1<=q/\q<=e.1))->(l.foldl (λx k=>fB t n k.1 f (g k) x) x).1[q]? =x.1[q]?)/\∀e∈l,FQ t F f (l.foldl (λx k=>fB t n k.1 f (g k) x) x).1 e.1
 | [],x,_,hx=>⟨hx,(λq _=>rfl),(λe h=>by cases h)⟩
 |e::l,x,hl,hx=>by
  obtain⟨p1,p2,p3⟩:=hP e.1 (g e) x (hl e (by simp)) hx;obtain⟨i1,i2,i3⟩:=KG h hy hP l (fB t n e.1 f (g e) x) (λe' bn=>hl e' (by simp[bn])) p1;rw[vW];refine⟨i1,λq hq=>?_,λe' bn=>?_⟩
  ·rw[i2 q λe' bn=>hq e' (by simp[bn]),p2 q (hq e (by simp))]
  ·rcases bS.1 bn with rfl|bn
   ·by_cases hm:∃e2∈l,e2.1=e'.1
    ·obtain⟨e2,m2,eq⟩:=hm;have:=i3 e2 m2;rw[eq]at this;exact this
    ·have pw:=hl e' (by simp);obtain⟨a,_,c⟩:=h.xD hy;have hei:=(bl.1 hy).1;have al:=(a _ pw).2;have same {q:Nat} (h1:F e'.1<=q) (h2:q<=e'.1):(l.foldl (λx k=>fB t n k.1 f (g k) x) (fB t n e'.1 f (g e') x)).1[q]? =(fB t n e'.1 f (g e') x).1[q]?:=i2 q λe2 m2 hh=>hm ⟨e2,m2,c e2.1 (hl e2 (by simp[m2])) e'.1 pw q hh.1 hh.2 h1 h2⟩;have hle:=h.le e'.1 (by omega);refine⟨by rw[same hle (aA _)];exact p3.self,λj z h1 h2 hz q hq=>?_⟩;obtain⟨q1,q2⟩:=h.inside (by omega) h1 h2 hz hq;rw[same q1 q2,same h1 h2];exact p3.eg j z h1 h2 hz q hq
   ·exact i3 e' bn
theorem TQ (h:TF t F):∀(n k:Nat) (f:Int) (l:Bool) (x:List Int×List Bool),k<n->k<t.length->x.1.length=t.length->
  (fB t n k f l x).1.length=t.length/\(∀q,¬(F k<=q/\q<=k)->(fB t n k f l x).1[q]? =x.1[q]?)/\FQ t F f (fB t n k f l x).1 k:=by
 intro n
 induction n with
 |zero=>intro k f l x hk;omega
 |succ n ih=>
  intro k f l x mM hk hx;obtain⟨y,hy⟩:∃y,t[k]? =some y:=⟨_,bk hk⟩
  obtain⟨a,b,_⟩:=h.xD hy;have h22:oM t k=(y.kind==22):=by unfold oM;rw[hy]
  have qv:∀e∈y.kids.zipIdx,e.1∈y.kids:=λe he=>by
   have:=List.mem_zipIdx he;simp at this;rw[this.2];exact List.getElem_mem _
  rw[fB,hy];simp only;generalize gQ:(if y.kind=22 then(k:Int)else f)=f';obtain⟨g1,g2,g3⟩:=KG (g:=λe=>l||(y.kind==13&&e.2==1)) h hy (f:=f') (n:=n) (λk' l' x' gx qx=>ih k' f' l' x' (by have:=(a k' gx).2;omega) (by have:=(a k' gx).2;omega) qx) y.kids.zipIdx (x.1.set k f',x.2.set k l) qv (by simpa using hx);have hle:=h.le k hk;have P2:(((y.kids.zipIdx)).foldl (λx e=>fB t n e.1 f' (l||(y.kind==13&&e.2==1)) x) (x.1.set k f',x.2.set k l)).1[k]? =some f':=by
   rw[g2 k λe he hh=>by have:=(a e.1 (qv e he)).2;omega];exact cM (by rw[hx];exact hk)
  refine⟨g1,λq hq=>?_,⟨?_,λi z h1 h2 hz q hq=>?_⟩⟩
  ·rw[g2 q λe he hh=>hq (by have:=a e.1 (qv e he);omega)];show(x.1.set k f')[q]? =_;rw[aD (by rintro rfl;exact hq ⟨hle,aA _⟩)]
  ·rw[P2,<-gQ,h22];by_cases e:y.kind=22
   ·rw[if_pos e,if_pos (by simpa using e)]
   ·rw[if_neg e,if_neg (by simpa using e)]
  ·by_cases e:i=k
   ·subst e;rw[hy]at hz;cases hz;obtain⟨j,hj,ej⟩:=List.mem_iff_getElem.1 hq;have wY:(q,j)∈y.kids.zipIdx:=by rw[List.mk_mem_zipIdx_iff_getElem?,bk hj,ej]
    rw[P2,(g3 (q,j) wY).self];cases oM t q<;>rfl
   ·obtain⟨k',gx,c1,c2⟩:=b i h1 (by omega);obtain⟨j,hj,ej⟩:=List.mem_iff_getElem.1 gx;have wY:(k',j)∈y.kids.zipIdx:=by rw[List.mk_mem_zipIdx_iff_getElem?,bk hj,ej]
    exact(g3 (k',j) wY).eg i z c1 c2 hz q hq
theorem LX (h:TF t F) (bD:0<t.length) (hr:F (t.length-1)=0):zJ t (iC t).fn:=by
 obtain⟨h1,_,h3⟩:=TQ h t.length (t.length-1) (-1) false (bL t.length 0,bL t.length false) (by omega) (by omega) (by simp);exact⟨h1,h3.self,λi y hy k hk=>h3.eg i y (by omega) (by have:=(bl.1 hy).1;omega) hy k hk⟩
theorem T1 (h:TF t F) (bD:0<t.length) (hr:F (t.length-1)=0):(iC t).fn=(uu t).1:=(LX h bD hr).same h bD hr (KM h bD)
end
end Go.Front
end
section
set_option maxRecDepth 100000
namespace Go.Front
open Go.AM Go.Proofs
def Came (len:Nat) (o:Except bd (List Node)):Prop:=
 match o with
 | .ok nd=>∃l:List Dc,nd=bJ l/\(∀x∈l,x.aL len)/\(bJ l).length<=4096
 | .error e=>e.2<=len/\(e.1=13\/e.1=15)
theorem ae0 (s:By) {n:Nat} (hn:2*s.length+6<=n):∃o,qK (ai s) (0:Nat) n=some o/\Came s.length o:=by
 unfold qK;cases hx:(ai s).eP (0:Nat)with
 |inl f=>exact⟨_,rfl,(zE s).bad (0:Nat) f (j9 _) hx,.inl rfl⟩
 |inr x=>
  obtain⟨t,q⟩:=x;obtain⟨h1,h2,h3,h4,h5⟩:=(zE s).ok (0:Nat) t q (j9 _) hx;have hi:Inv (zE s) (⟨t,q,[],0⟩:PS (ai s)):=⟨h1,h3,λhk=>⟨(h4 hk).1,(h4 hk).2.1⟩,j9 _,by simp,h5⟩
  have hR:R (zE s) (⟨t,q,[],0⟩:PS (ai s))<=s.length+1:=by
   unfold R;split
   ·omega
   ·have:(zE s).left q<=s.length:=Nat.sub_le _ _;simp only;omega
  have:=agO (K:=zE s) (n:=n) (by omega) rfl rfl hi;unfold Tr at this;cases hw:qP (S:=ai s) n ⟨t,q,[],0⟩with
  |none=>rw[hw]at this;exact this.elim
  |some r=>
   rw[hw]at this;cases r with
   |error e=>exact⟨.error e,by simp only;rw[hw],this⟩
   |ok x=>
    obtain⟨a,st⟩:=x;obtain⟨l,h6,h7,h8⟩:=this;exact⟨.ok st.nodes,by simp only;rw[hw],l,h6,h7,h8⟩
theorem Lv {F:Nat->Nat}:∀{l:List Nat} {f g:Nat},(∀k∈l,F k<=k)->chain F f l=some g->l.length+g<=f
 | [],f,g,_,h=>by cases h;simp
 |k::r,f,g,hF,h=>by
  unfold chain at h;split at h
  ·have:=Lv (λx hx=>hF x (by simp[hx])) h;have:=hF k (by simp);simp only[cr];omega
  ·cases h
theorem SR {ls:List Dc} {len:Nat} (hl:(bJ ls).length<=100000) (hg:∀x∈ls,x.aL len):v7 (bJ ls)/\0<(bJ ls).length/\∃F,TF (bJ ls) F/\F ((bJ ls).length-1)=0:=by
 obtain⟨pz,yA,h23⟩:=KA ls hg;have fK (i:Nat) (y:Node) (hy:(bJ ls)[i]? =some y):zN len (bJ ls) (gb (wc ls)) i y:=by
  have hi:=(bl.1 hy).1;obtain⟨nd,h⟩:=pz i (j9 _) (by omega);have:=h.at_;rw[hy]at this;cases this;exact h
 have le (i:Nat) (hi:i<(bJ ls).length):gb (wc ls) i<=i:=(fK i _ (bk hi)).le;have lt (i:Nat) (y:Node) (hy:(bJ ls)[i]? =some y) (k:Nat) (hk:k∈y.kids):k<i:=((fK i y hy).kids k hk).1;refine⟨λi y hy=>⟨(fK i y hy).ok,lt i y hy,?_⟩,by simp[bJ],gb (wc ls),⟨λi y hy=>(fK i y hy).ch,le,lt⟩,yA⟩;have hi:=(bl.1 hy).1;have:=Lv (λk hk=>le k (by have:=lt i y hy k (uc.1 hk);omega)) (fK i y hy).ch;simp at this;omega
end Go.Front
end
section
set_option maxRecDepth 100000
namespace Go.Front
open Go.AM Go.Proofs
section
variable {U:St} {s:By}
theorem Jh (s:By):∃o,xq s 16390=some o/\∀nd,o=.ok nd->∃(ls:List Dc) (len:Nat),nd=bJ ls/\(∀x∈ls,x.aL len)/\(bJ ls).length<=4096:=by
 unfold xq;by_cases h:s.length>8192
 ·rw[if_pos h];exact⟨_,rfl,λnd h=>by cases h⟩
 ·rw[if_neg h];obtain⟨o,h1,h2⟩:=ae0 s (n:=16390) (by omega);refine⟨o,h1,λnd he=>?_⟩;subst he;obtain⟨l,e,g,hl⟩:=h2;exact⟨l,s.length,e,g,hl⟩
def Kk:Prop:=∀{U:St} {tb:Nat} {tc:On} {ls:List Dc} {len:Nat},Kn U->Src U tb (bJ ls)->(∀x∈ls,x.aL len)->(bJ ls).length<=4096->
 Fw ae Lb 17 [.slice (some (tb,0)) (bJ ls).length tc 6] U λr U'=>Up U U'/\∃(s:By) (e:Int),r=.ret (.tuple [.str s,.int .i64 e])/\e≠6
def Kl:Prop:=∀{U:St},Kn U->Fw ae Lb 8 [] U λr U'=>r=.ret (.bool true)/\Up U U'
theorem ady (hp:Kk) (hs:Kl) (hk:Kn U):Fw ae Lb 4 [.str s] U λr _=>r=.ret (.bool true):=by
 refine Y5 ?_;refine Wp.call (hs hk) (λv U1 hv=>?_) λv U' hv=>by cases hv.1
 obtain⟨hv,oI⟩:=hv;cases hv;have gh:=hk.up oI;simp only[bp];obtain⟨o,ho,fD⟩:=Jh s;refine Wp.call (Rx (by decide) ho) (λv U2 hv=>?_) λv U' hv=>by
  obtain⟨_,hv⟩:=hv;cases o with
  |ok nd=>obtain⟨_,hv,_⟩:=hv;cases hv
  |error e=>obtain⟨_,_,hv,_⟩:=hv;cases hv
 obtain⟨dk,hv⟩:=hv;cases o with
 |error e=>
  obtain⟨c,a,hv,hc⟩:=hv;cases hv;simp only[eY,bc,aS,ag,aZ];exact Wp.pos (by simpa using hc) (Wp.ret rfl)
 |ok nd=>
  obtain⟨v',hv,fX⟩:=hv;cases hv;obtain⟨ls,len,rfl,hg,hl⟩:=fD nd rfl;obtain⟨hT,dR,F,hF,yA⟩:=SR (by omega) hg;obtain⟨tb,tc,rfl,hS⟩:=fX.src (λe=>by rw[e]at dR;simp at dR);have gi:=gh.up dk;simp only[eY,bc,aS,ag,aZ];refine Wp.neg rfl ?_;refine Wp.call (Lx hS hT (by omega) dR (hp gi hS hg hl)) (λv U3 hv=>?_) λv U' hv=>by obtain⟨_,_,_,_,hv,_⟩:=hv;cases hv
  obtain⟨pJ,sv,ov,tv,hv,hx⟩:=hv;cases hv;by_cases h0:(jE (bJ ls)).1.1=0
  ·rw[if_pos h0]at hx;obtain⟨gA,Ik,gC,iM⟩:=hx;have hae:=LX hF dR yA;obtain⟨hN,En,dr,bD⟩:=adA hae.len h0;rw[T1 hF dR yA]at hN;generalize (jE (bJ ls)).2=w at*;have iL:∃bs sc,sv=.slice (some (bs,0)) w.syms.length sc 5/\U3[bs]? =some (lu w.syms):=by
    generalize w.syms=sy at*;cases gA with
    |zero z=>exact absurd rfl bD
    |one b c h=>exact⟨b,c,rfl,h⟩
   have Em {v:AV} {l:List Int} (h:qU U3 v l) (hl:l.length=(bJ ls).length):∃b,v=dH b (bJ ls).length/\U3[b]? =some (dF l):=by
    cases h with
    |zero z=>simp at hl;omega
    |one b h=>exact⟨b,by rw[hl],h⟩
   obtain⟨bs,sc,rfl,wG⟩:=iL;obtain⟨bo,rfl,pq⟩:=Em Ik En;obtain⟨bt,rfl,HI⟩:=Em gC dr;simp only[h0,dH,eY,bc,bK,aS,ag,aZ];refine Wp.neg rfl (Wp.neg (by simp) (Wp.neg (by simp) ?_));have O5:=hS.up pJ;refine Wp.call (TZ O5 (λi y hy=>⟨(hT i y hy).2.2,(hT i y hy).2.1⟩) (by omega) dR) (λv U4 hv=>?_) λv U' hv=>by obtain⟨_,_,_,hv,_⟩:=hv;cases hv
   obtain⟨u7,b1,b2,hv,lX,bR⟩:=hv;cases hv;simp only[dH,eY,bc,aS,aZ];have bE {b:Nat} {x:aq} (h:U3[b]? =some x):U4[b]? =some x:=by rw[u7.same b (bB h)];exact h
   have hNL:NL (bJ ls) (uu (bJ ls)).1 w U4 tb b1 bs bo bt:=⟨O5.up u7,by omega,(KM hF dR).len,En,dr,iM,lX,bE wG,bE pq,bE HI⟩
   refine Wp.cD (F:=λn m=>A4 n m true (some (tb,0)) (bJ ls).length tc 6 (some (b1,0)) (bJ ls).length (some (bJ ls).length) 1 0 (some (bs,0)) w.syms.length sc 5 (some (bo,0)) (bJ ls).length (some (bJ ls).length) 1 (some (bt,0)) (bJ ls).length (some (bJ ls).length) 1 U4) ?_;exact(adz (b1:=true) hNL hN (bJ ls).length 0 (by omega)).mono λr U' hv=>hv.1
  ·rw[if_neg h0]at hx;obtain⟨gA,Ik,gC⟩:=hx;have mQ:∃a k z,sv=.slice a 0 k z:=by cases gA<;>exact⟨_,_,_,rfl⟩
   obtain⟨a0,k0,z0,rfl⟩:=mQ;have hz:∃a n k z,ov=.slice a n k z:=by cases Ik<;>exact⟨_,_,_,_,rfl⟩
   have yV:∃a n k z,tv=.slice a n k z:=by cases gC<;>exact⟨_,_,_,_,rfl⟩
   obtain⟨a1,n1,k1,z1,rfl⟩:=hz;obtain⟨a2,n2,k2,z2,rfl⟩:=yV;simp only[eY,bc,bK,aS,ag,aZ];exact Wp.pos (by simpa using h0) (Wp.pos rfl (Wp.ret rfl))
end
end Go.Front
end
section
set_option maxRecDepth 100000
namespace Go.Front
open Go.AM Go.Proofs
theorem gG (s:List UInt8):(aK s).length=s.length+1:=by simp[aK]
theorem CO (b:Bool) (s:List UInt8):(jg b s).length<=s.length+4:=by
 cases b
 ·simp[jg]
 ·simp[jg,aK]
theorem Rc (op:Nat):(fE op).length<=2:=by
 unfold fE;by_cases h:op-1<21
 ·exact(by decide:∀q<21,(pT.getD q []).length<=2) _ h
 ·rw[gq,fP (by simp[pT,ops];omega)];decide
theorem Qt:∀{l:List (List UInt8)},(nP l).length<=(l.map λx=>x.length+2).sum
 | []=>by simp[nP]
 |x::r=>by
  have:∀r:List (List UInt8),(r.flatMap λy=>aK [44]++y).length=(r.map λx=>x.length+2).sum:=by
   intro r
   induction r with
   |nil=>rfl
   |cons y r ih=>simp only[List.flatMap_cons,az,ih,gG,dO,List.sum_cons,cr,fw];omega
  simp only[nP,az,this,dO,List.sum_cons];omega
mutual
theorem Ex.iv {len:Nat}:∀e:Ex,e.aL len->e.pr.length+20<=300*e.size
 | .num _ n,h=>by
  have:=Lib.itoa_length_le n (by have:=h.2.1;omega) (by have:=h.2.2;omega);simp only[Ex.pr,Ex.size,gG];omega
 | .text _ s,h=>by
  have h1:=Aq s;have h2:=Ce s;have h3:=h.2.1;simp only[Ex.pr,Ex.size,gG,xu,az,cr,fw];omega
 | .name _ s,h=>by
  have h3:=h.2.1;simp only[Ex.pr,Ex.size,gG];omega
 | .call _ s l,h=>by
  have h3:=h.2.1.1;have h4:=Ex.zp l h.2.2;have h5:=Qt (l:=Ex.fN l);simp only[Ex.pr,Ex.size,gG,az,cr,fw];omega
 | .index x i,h=>by
  have h1:=Ex.iv x h.1;have h2:=Ex.iv i h.2.1;have h3:=CO x.gD x.pr;simp only[Ex.pr,Ex.size,gG,az,cr,fw];omega
 | .un _ op x,h=>by
  have h1:=Ex.iv x h.2.1;have h3:=CO x.kD x.pr;have h4:=Rc op;simp only[Ex.pr,Ex.size,gG,az];omega
 | .bin op x y,h=>by
  have h1:=Ex.iv x h.1;have h2:=Ex.iv y h.2.1;have h3:=CO (decide (x.lv<level op)) x.pr;have h4:=Rc op;have h5:=CO (decide (y.lv<=level op)) y.pr;simp only[Ex.pr,Ex.size,gG,az];omega
theorem Ex.zp {len a:Nat}:∀l:List Ex,Ex.fm len a l->((Ex.fN l).map λx=>x.length+2).sum<=300*Ex.aB l
 | [],_=>by simp[Ex.fN,Ex.aB]
 |x::l,h=>by
  have h1:=Ex.iv x h.1;have h2:=Ex.zp l h.2.2;simp only[Ex.fN,Ex.aB,dO,List.sum_cons];omega
end
theorem Je {ty:Int} {s:List UInt8} (h:gT s):(mU ty s).length<=22:=by
 have:=h.1;unfold mU;split
 ·simp only[gG,az,cr,fw];omega
 ·split<;>(simp only[gG,az,cr,fw];omega)
mutual
theorem Sm.iv {len:Nat}:∀e:Sm,e.aL len->e.pr.length<=300*e.size
 | .expr _ x,h=>by
  have h1:=Ex.iv x h.2.1;simp only[Sm.pr,Sm.size,gG,az,cr,fw];omega
 | .set x y,h=>by
  have h1:=Ex.iv x h.1;have h2:=Ex.iv y h.2.1;simp only[Sm.pr,Sm.size,gG,az,cr,fw];omega
 | .if1 _ c a,h=>by
  have h1:=Ex.iv c h.2.1;have h2:=Sm.iv a h.2.2.2.1;simp only[Sm.pr,Sm.size,gG,az,cr,fw];omega
 | .if2 _ c a b,h=>by
  have h1:=Ex.iv c h.2.1;have h2:=Sm.iv a h.2.2.2.1;have h3:=Sm.iv b h.2.2.2.2.2.1;simp only[Sm.pr,Sm.size,gG,az,cr,fw];omega
 | .while _ c a,h=>by
  have h1:=Ex.iv c h.2.1;have h2:=Sm.iv a h.2.2.2.1;simp only[Sm.pr,Sm.size,gG,az,cr,fw];omega
 | .ret _ x,h=>by
  have h1:=Ex.iv x h.2.1;simp only[Sm.pr,Sm.size,gG,az,cr,fw];omega
 | .brk _,h=>by simp[Sm.pr,Sm.size,gG]
 | .next _,h=>by simp[Sm.pr,Sm.size,gG]
 | .block _ l,h=>by
  have h1:=Sm.zp l h.2;simp only[Sm.pr,Sm.size,gG,az,cr,fw];omega
 | .var _ s ty,h=>by
  have h1:=Je (ty:=ty) h.2.1;simp only[Sm.pr,Sm.size,gG,az,cr,fw];omega
 | .vari _ s ty x,h=>by
  have h1:=Je (ty:=ty) h.2.1;have h2:=Ex.iv x h.2.2.2.1;simp only[Sm.pr,Sm.size,gG,az,cr,fw];omega
theorem Sm.zp {len a:Nat}:∀l:List Sm,Sm.fm len a l->(Sm.fN l).length<=300*Sm.aB l
 | [],_=>by simp[Sm.fN,Sm.aB]
 |x::l,h=>by
  have h1:=Sm.iv x h.1;have h2:=Sm.zp l h.2.2;simp only[Sm.fN,Sm.aB,az];omega
end
theorem Rr {len a:Nat}:∀ps:List nh,(∀x∈ps,a<=x.1/\x.1<len/\gT x.2.1/\pW x.2.2)->((ps.map λp=>mU p.2.2 p.2.1).map λx=>x.length+2).sum<=300*ps.length
 | [],_=>by simp
 |p::r,h=>by
  have h1:=Je (ty:=p.2.2) (h p (by simp)).2.2.1;have h2:=Rr r λx hx=>h x (ua _ hx);simp only[dO,List.sum_cons,cr];omega
theorem Dc.iv {len:Nat} (e:Dc) (h:e.aL len):e.pr.length<=300*e.size:=by
 cases e with
 |var _ s=>
  have:=h.2.1;simp only[Dc.pr,Dc.size,gG,az,cr,fw];omega
 |array _ s ty n=>
  have h1:=h.2.1.1;have h2:=Lib.itoa_length_le n (by have:=h.2.2.2.1;omega) (by have:=h.2.2.2.2;omega);have h3:(if ty=2 then[99,104,97,114]else[105,110,116]:List UInt8).length<=4:=by split<;>simp
  simp only[Dc.pr,Dc.size,gG,az,cr,fw];omega
 |fn _ s ps _ l=>
  have h1:=h.2.1.1;have h2:=Qt (l:=ps.map λp=>mU p.2.2 p.2.1);have h3:=Rr ps h.2.2.1;have h4:=Sm.zp l h.2.2.2.2.2.1;simp only[Dc.pr,Dc.size,gG,az,cr,fw];omega
theorem Ky {len:Nat}:∀l:List Dc,(∀x∈l,x.aL len)->(eM l).length<=300*Dc.aB l
 | [],_=>by simp[eM,Dc.aB]
 |x::l,h=>by
  have h1:=x.iv (h x (by simp));have h2:=Ky l λy hy=>h y (ua _ hy);have h3:eM (x::l)=x.pr++eM l:=by simp[eM]
  rw[h3,az,Dc.aB];omega
section
variable {tb:Nat} {c2:Option Nat} {len:Nat} {ls:List Dc} {U0:St}
theorem aeM (mM:Kn U0) (hs:Src U0 tb (bJ ls)) (dr:(bJ ls).length<=4096) (hg:∀x∈ls,x.aL len):Fw ae Lb 17 [.slice (some (tb,0)) (bJ ls).length c2 6] U0 (Jk U0 (eM ls)):=by
 obtain⟨nd2,h1,h2⟩:=back hg dr (aA 16400);have h3:=Ky ls hg;have h4:Dc.aB ls+1<=4096:=by simpa[bJ,Dc.fk]using dr
 exact aeN mM hs dr hg (λ_ _ _=>aeU) (by omega) (by decide) h1 h2
end
theorem RF:Kk:=by
 intro U tb tc ls len hk hs hg hl;refine(aeM hk hs hl hg).mono λr U' hv=>⟨hv.1,?_⟩
 by_cases h:(eM ls).length>8192
 ·exact⟨[],15,by rw[hv.2,if_pos h],by decide⟩
 ·exact⟨eM ls,0,by rw[hv.2,if_neg h],by decide⟩
end Go.Front
end
section
set_option maxRecDepth 100000
set_option maxHeartbeats 4000000
namespace Go.Front
open Go.AM Go.Proofs
def Ar:By:=[105,110,116,32,109,97,105,110,40,41,123,112,117,116,40,39,97,39,41,59,125]
def GQ:By:=[105,110,116,32,109,97,105,110,40,41,123,120,61,49,59,125]
def wj:By:=[105,110,116,32,102,40,41,123,125]
def oR (s:By):List Node:=match xq s 16390 with|some (.ok nd)=>nd|_=>[]
def isOk (s:By):Bool:=match xq s 16390 with|some (.ok _)=>true|_=>false
theorem SQ {s:By} (h:isOk s=true):xq s 16390=some (.ok (oR s)):=by
 unfold isOk at h;unfold oR;split at h
 ·rename_i nd e;rw[e]
 ·cases h
theorem okA:isOk Ar=true:=by kernel_rfl
theorem okB:isOk GQ=true:=by kernel_rfl
theorem Q9:isOk wj=true:=by kernel_rfl
theorem UZ:((jE (oR Ar)).1.1==0&&(jE (oR Ar)).2.syms.length==8)=true:=by kernel_rfl
theorem Va:((jE (oR GQ)).1.1==16)=true:=by kernel_rfl
theorem Vb:((jE (oR wj)).1.1==16&&(jE (oR wj)).1.2==(((oR wj).length:Nat):Int)-1)=true:=by kernel_rfl
section
variable {U:St} {s:By} {Q:bw}
theorem GR (hk:Kn U) (h:isOk s=true) {K:Fu->AV->St->Out} (hx:∀(tb:Nat) (tc:On) U1,Up U U1->(∀{K2:Fu->AV->St->Out},(∀v U2,Up U1 U2->sA U1 (jE (oR s)) (.ret v) U2->Wp Q λu=>K2 u v U2)->Wp Q λu=>cW ae Lb u.n 10 [.slice (some (tb,0)) (oR s).length tc 6] U1 (K2 u))->
   Wp Q λu=>K u (.tuple [.slice (some (tb,0)) (oR s).length tc 6,.int .i64 0,.int .i64 0]) U1):
  Wp Q λu=>cW ae Lb u.n 9 [.str s] U (K u):=by
 have hp:=SQ h;obtain⟨o,ho,fD⟩:=Jh s;rw[hp]at ho;cases ho;obtain⟨ls,len,e,hg,hl⟩:=fD _ rfl;refine Wp.call (Rx (by decide) hp) (λv U1 hv=>?_) λv U' hv=>by obtain⟨_,_,hv,_⟩:=hv;cases hv
 obtain⟨hu,v',hv,fX⟩:=hv;cases hv;obtain⟨hT,dR,_⟩:=SR (by omega) hg;rw[<-e]at hT dR hl;obtain⟨tb,tc,rfl,hS⟩:=fX.src (λe=>by rw[e]at dR;simp at dR);refine hx tb tc U1 hu λgi=>?_;have jK:=RF (U:=U1) (tb:=tb) (tc:=tc) (ls:=ls) (len:=len) (hk.up hu) (by rw[<-e];exact hS) hg (by rw[<-e];exact hl);rw[<-e]at jK;refine Wp.call (Lx hS hT (by omega) dR jK) (λv U2 hv=>gi v U2 hv.1 hv) λv U' hv=>by obtain⟨_,_,_,_,hv,_⟩:=hv;cases hv
theorem afA:Kl:=by
 intro U hk;refine Z4 ?_;refine GR (s:=Ar) hk okA λtb tc U1 oI hA=>?_;simp only[eY,bc,aS,ag,aZ];refine hA λv U2 dk hv=>?_;obtain⟨_,sv,ov,tv,hv,hx⟩:=hv;cases hv;have cA:=UZ;simp only[gH,beq_iff_eq]at cA;rw[if_pos cA.1]at hx;obtain⟨h1,h2,h3,_⟩:=hx;have s1:∃a k z,sv=.slice a 8 k z:=by
  have:=cA.2;generalize (jE (oR Ar)).2.syms=sy at*;cases h1 with
  |zero z=>simp at this
  |one b c h=>exact⟨some (b,0),c,5,by rw[this]⟩
 have s2 {v:AV} {l:List Int} {U:St} (h:qU U v l):∃a n k z,v=.slice a n k z:=by cases h<;>exact⟨_,_,_,_,rfl⟩
 have s3 {v:AV} {l:List Sy} {U:St} (h:zT U v l):∃a n k z,v=.slice a n k z:=by cases h<;>exact⟨_,_,_,_,rfl⟩
 obtain⟨_,_,_,rfl⟩:=s1;obtain⟨_,_,_,_,rfl⟩:=s2 h2;obtain⟨_,_,_,_,rfl⟩:=s2 h3;simp only[cA.1,eY,bc,bK,aS,ag,aZ];have gi:=(hk.up oI).up dk;refine GR (s:=GQ) gi okB λtb2 tc2 U3 pJ hB=>?_;simp only[eY,bc,aS,ag,aZ];refine hB λv U4 u7 hv=>?_;obtain⟨_,sv,ov,tv,hv,hx⟩:=hv;cases hv;have cB:=Va;simp only[beq_iff_eq]at cB;rw[if_neg (by rw[cB];decide)]at hx;obtain⟨h1,h2,h3⟩:=hx;obtain⟨_,_,_,_,rfl⟩:=s3 h1;obtain⟨_,_,_,_,rfl⟩:=s2 h2;obtain⟨_,_,_,_,rfl⟩:=s2 h3;simp only[cB,eY,bc,bK,aS,ag,aZ];have Bw:=(gi.up pJ).up u7;refine GR (s:=wj) Bw Q9 λtb3 tc3 U5 hu5 hC=>?_;simp only[eY,bc,aS,ag,aZ];refine hC λv U6 hu6 hv=>?_;obtain⟨_,sv,ov,tv,hv,hx⟩:=hv;cases hv;have cC:=Vb;simp only[gH,beq_iff_eq]at cC;rw[if_neg (by rw[cC.1];decide)]at hx;obtain⟨h1,h2,h3⟩:=hx;obtain⟨_,_,_,_,rfl⟩:=s3 h1;obtain⟨_,_,_,_,rfl⟩:=s2 h2;obtain⟨_,_,_,_,rfl⟩:=s2 h3;simp only[cC.1,cC.2,eY,bc,bK,aS,ag,aZ];refine Wp.pos rfl (Wp.pos rfl (Wp.pos rfl (Wp.pos rfl (Wp.ret ⟨?_,oI.trans (dk.trans (pJ.trans (u7.trans (hu5.trans hu6))))⟩))));have hl:(oR wj).length<=4096:=by
  obtain⟨o,ho,fD⟩:=Jh wj;rw[SQ Q9]at ho;cases ho;obtain⟨ls,len,e,hg,hl⟩:=fD _ rfl;rw[e];exact hl
 rw[wrap64 (by omega) (by omega)];simp
end
theorem afI {U:St} {s:By} (hk:Kn U):Fw ae Lb 4 [.str s] U λr _=>r=.ret (.bool true):=ady RF afA hk
end Go.Front
end
section
namespace Go.Proofs.YtjjhefdfjagkaaaGreatDoor
open Go.ChangeShapes Go.WideShapes Go.ChangeAt Go.AM Go.RowKit Go.Front
set_option maxRecDepth 100000
theorem IM {P:Program} {w:World} {n:String} {d:DataW Unit}:∀{l:List (String×DataW Unit)} {ps:List MemPlace},DataW.LaidVars P w l ps->(n,d)∈l->
  ∃g t cs fuel p,P.globalNamed n=some g/\(P.globals[g]?).map (·.type)=some t/\w.var? P n=some cs/\DataW.trod (λ_=>()) P w 0 (λ_=>true) false fuel t cs.toList=some (d,p)
 | [],_,_,hm=>by cases hm
 |(n',d')::r,ps,h,hm=>by
  obtain⟨g,t,cs,fuel,p,q,h1,h2,h3,h4,h5,_⟩:=h;rcases bS.1 hm with he|hm
  ·cases he;exact⟨g,t,cs,fuel,p,h1,h2,h3,h4⟩
  ·exact IM h5 hm
theorem Pm {P:Program} {w:World} {n:String} {g:Nat} {cs:Array Value} (hg:P.globalNamed n=some g) (h:w.var? P n=some cs):∃ty fr,w.heap[g]? =some (.cells cs ty fr):=by
 unfold World.var? at h;rw[hg]at h;simp only[Option.bind_some]at h;split at h
 ·rename_i c ty fr hh;cases h;exact⟨ty,fr,hh⟩
 ·cases h
theorem SJ {P:Program} {w:World} {n:String} {k:IntKind} {zs:List Int} {l:List (String×DataW Unit)} {g:Nat} {t e:TypeId} {m:Nat} (hl:laidMet P l w) (hm:(n,Lib.tabData k zs)∈l)
  (hg:P.globalNamed n=some g) (eH:(P.globals[g]?).map (·.type)=some t) (ht:P.underlying t=some (.array m e)) (he:P.underlying e=some (.int k)) (gw:P.cellsOf e=1) (hct:P.cellsOf t=m):
  ∃ty fr,w.heap[g]? =some (.cells (zs.map λz=>Value.int k z).toArray ty fr):=by
 obtain⟨ps,hv,_⟩:=hl;obtain⟨g',t',cs,fuel,p,h1,h2,h3,h4⟩:=IM hv hm;obtain rfl:=zS (hg.symm.trans h1);obtain rfl:=zS (eH.symm.trans h2);have:=Lib.cells_of_tab ht he gw hct h4;have bg:cs=(zs.map λz=>Value.int k z).toArray:=by rw[<-this]
 subst bg;exact Pm hg h3
theorem Mi {P:Program} {w:World} {n nm:String} {d:DataW Unit} {l:List (String×DataW Unit)} {g:Nat} {t:TypeId} {ms:Array (String×TypeId)} (hl:laidMet P l w) (hm:(n,DataW.iface nm d)∈l)
  (hg:P.globalNamed n=some g) (eH:(P.globals[g]?).map (·.type)=some t) (ht:P.underlying t=some (.interface ms)):
  ∃te pe ty fr,w.heap[g]? =some (.cells #[.iface te pe] ty fr):=by
 obtain⟨ps,hv,_⟩:=hl;obtain⟨g',t',cs,fuel,p,h1,h2,h3,h4⟩:=IM hv hm;obtain rfl:=zS (hg.symm.trans h1);obtain rfl:=zS (eH.symm.trans h2);obtain⟨_,u,v,hc,_,_⟩:=iface_of_trod ht h4;have bg:cs= #[.iface u v]:=CG hc;subst bg;obtain⟨ty,fr,h⟩:=Pm hg h3;exact⟨u,v,ty,fr,h⟩
theorem aa9 {w:World} (hl:laidMetH ae Rows.sortNamesRow.laid w):∃V0:aM,R V0 rp w/\V0.ro:=by
 rw[Tq _ _ _ (by kernel_rfl)]at hl;have aaT:Rows.laid_strings_asciiSpace (H:=Unit)=Lib.tabData .u8 Lib.asciiSpaceTab:=by kernel_rfl
 have abu:Rows.laid_internal_strconv_uint64pow10 (H:=Unit)=Lib.tabData .u64 Lib.pow10Tab:=by kernel_rfl
 obtain⟨ty0,fr0,h0⟩:=SJ (n:= "strings.asciiSpace") (g:=1) (t:=187) (e:=5) (m:=256) hl (by rw[<-aaT];simp[Rows.sortNamesRow]) (by kernel_rfl) (by kernel_rfl) (by kernel_rfl) (by kernel_rfl) (by kernel_rfl) (by kernel_rfl);obtain⟨ty1,fr1,h1⟩:=SJ (n:= "internal/strconv.uint64pow10") (g:=0) (t:=179) (e:=137) (m:=20) hl (by rw[<-abu];simp[Rows.sortNamesRow]) (by kernel_rfl) (by kernel_rfl) (by kernel_rfl) (by kernel_rfl) (by kernel_rfl) (by kernel_rfl);obtain⟨te2,pe2,Ci,Bc,h2⟩:=Mi (n:= "strconv.ErrSyntax") (g:=3) (t:=147) hl (.tail _ (.tail _ (.tail _ (.tail _ (.tail _ (.head _)))))) (by kernel_rfl) (by kernel_rfl) Tryz.underlying147;obtain⟨te3,pe3,SX,wA,h3⟩:=Mi (n:= "strconv.ErrRange") (g:=4) (t:=147) hl (.tail _ (.tail _ (.tail _ (.tail _ (.head _))))) (by kernel_rfl) (by kernel_rfl) Tryz.underlying147;have r0:=(R.none w).know (p:=Cs) (λb e h=>by cases h) h0 ⟨ty0,fr0,rfl⟩;have r1:=r0.1.know (p:=tZ) r0.2 h1 ⟨ty1,fr1,rfl⟩;have r2:=r1.1.know (p:=tY) r1.2 h2 ⟨te2,pe2,Ci,Bc,rfl⟩;have r3:=r2.1.know (p:=tY) r2.2 h3 ⟨te3,pe3,SX,wA,rfl⟩;exact⟨_,r3.1,r3.2⟩
section
variable {H:Type} {enc:TypeId×Value->H}
theorem Vm {B:bU} {C:Checked} {f k tb:Nat} {fn:Func} {s:ChangeSpec} {apart:Bool} {U0:St} {V0:aM} {W:World} {base:Nat} {args:Array Value} {ds gs:List (DataW H)} {before:List MemPlace}
  (Qb:s.vars=[]) (dU:C.prog.funcs[f]? =some fn) (po:fn.body.isSome=true) (BG:fn.resultTypes= #[tb]) (hb:C.prog.underlying tb=some .bool) (hl:laidOutB C.prog=true) (hP:fz C.prog) (hB:kT C.prog B)
  (P9:∀t∈fn.params.toList,B2 C.prog k t=true/\C.prog.readableRec t=true/\t<C.prog.types.size)
  (hs:∀ds:List (DataW H),ds.length=fn.params.toList.length->s.fn H ds={results:=[.lit (.bool true)],args:=ds})
  (Bf:R V0 U0 W) (wQ:V0.ro) (yU:∀(j:Nat) t v,fn.params[j]? =some t->args[j]? =some v->Value.okWide C.prog W .any base t v)
  (hW:DataW.Whole enc C.prog fn.params.toList s.vars apart W args.toList ds gs before)
  (hc:rW (ly C.prog k) fn.params.toList ds->gs=[]->∃n U',cd C.prog B n f (qf C.prog fn.params.toList ds U0).1 (qf C.prog fn.params.toList ds U0).2=some (.ret (.bool true),U')):
  Calls C.prog f args W λe W'=>∃v,e=.returned v/\s.post enc C.prog fn apart true false false W args v W':=by
 have O6:=hW;obtain⟨p,q,hA,hV,rfl,ij,rA⟩:=hW;rw[Qb]at hV;obtain⟨rfl,rfl⟩:gs=[]/\q=[]:=by
  cases gs with
  |nil=>exact⟨rfl,hV⟩
  |cons g gs=>simp[DataW.TrodVars]at hV
 simp only[cg]at*;refine(US dU po hP hB Bf wQ (λt ht=>(P9 t ht).1) (λj t v h h'=>yU j t v (by simpa using h) h') hA (λhd=>hc hd trivial)).mono λe W' ⟨he,Pc⟩=>?_;subst he;have wI:=hs ds (SS hA);rw[<-cg ds]at wI;refine⟨_,rfl,ds,[],p,[],p,[],O6,?_,?_,?_,Pc.frame _,λh=>by cases h⟩
 ·rw[wI,BG];exact trodAll_mk1 (shut_bool hb true)
 ·rw[wI];simp only[cg];refine agu hl Pc (λt ht=>(P9 t ht).2) hA ?_;intro x hx;exact O6.lt x hx
 ·rw[wI,Qb];rfl
theorem agP {C:Checked} {os:Os} {f:FuncId} {fn:Func} {s:OpenSpec} {conds:List PathCond} {apart:Bool} {laid:List (String×DataW Unit)} (args:Array Value)
  (hv:((World.laidAll C.prog os laid).forCall (λ_ _=>0) ⟨#[],args,[]⟩).variablesZipB C.prog=true)
  (hr:(((World.laidAll C.prog os laid).forCall (λ_ _=>0) ⟨#[],args,[]⟩).heap.toList.drop C.prog.globals.size).take ((begin C.prog (λ_ _=>0) default).world.heap.size-C.prog.globals.size)=
   (begin C.prog (λ_ _=>0) default).world.heap.toList.drop C.prog.globals.size)
  (fD:Input.okWideB C.prog ((World.laidAll C.prog os laid).forCall (λ_ _=>0) ⟨#[],args,[]⟩) f ⟨#[],args,[]⟩=true)
  (Es:s.preRow enc C.prog fn conds apart laid ((World.laidAll C.prog os laid).forCall (λ_ _=>0) ⟨#[],args,[]⟩).memory args):
  ∃(w:World) (tape:Tape) (i:Input),w.os=os/\(w.forCall tape i).Shaped C.prog/\i.vars=[]/\Input.okWide C.prog (w.forCall tape i) .any w.heap.size f i/\
   s.preRow enc C.prog fn conds apart laid (w.forCall tape i).memory i.args/\({}:Assume).holds C.prog (lone (Frame.enter C.prog f i.args .normal) [] (w.forCall tape i)):=
 ⟨World.laidAll C.prog os laid,λ_ _=>0,⟨#[],args,[]⟩,World.laidAll_os _ _ _,World.shaped_of_ZipB hv hr,(Input.okWide_of_okWideB (base:=0) fD).1,(Input.okWide_of_okWideB fD).2,Es,by
  simp only[Assume.holds];exact⟨by simp,by simp,by simp,by simp,by simp⟩⟩
theorem own:ownKnob ae.godebug=none:=by kernel_rfl
theorem acq:laidOutB ae=true:=by kernel_rfl
theorem acr (os:Os) (args:Array Value):laidMetH ae Rows.sortNamesRow.laid ((World.laidAll ae os Rows.sortNamesRow.laid).forCall (λ_ _=>0) ⟨#[],args,[]⟩).memory:=by
 rw[Tq _ _ _ (by kernel_rfl)];exact laidMet_laidAll _ (by kernel_rfl) (by kernel_rfl)
theorem arg_str {d:DataW H} (h:ly ae 5 9 d):∃s:By,d=.lit (.string s):=by
 have h2:oW ae 5 9 d:=by simpa only[ly,ur]using h
 obtain⟨s,rfl,_⟩:=(aax ur).1 h2;exact⟨s,rfl⟩
theorem aaI {f:Nat} {args:List AV} {Q:bw} (h:Fw ae Lb f args rp Q) (hq:∀r U',Q r U'->r=.ret (.bool true)):∃n U',cd ae Lb n f args rp=some (.ret (.bool true),U'):=by
 obtain⟨N,r,U',h1,h2⟩:=h;have hr:=hq _ _ h1;subst hr;exact⟨N,U',h2 ⟨N,N,N,N⟩ ⟨aA _,aA _,aA _,aA _⟩⟩
end
end Go.Proofs.YtjjhefdfjagkaaaGreatDoor
end

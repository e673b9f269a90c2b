/- Part of a proof over an abstract machine. -/
import Derived.Test.YtjjhefdfjagkaaaGreatDoorWk12
set_option linter.all false
open Go.Proofs.Tryz renaming prog→ae
open List renaming getElem?_cons_zero→ja,getElem?_cons_succ→oY,getElem?_eq_some_iff→bl,getElem?_append_right→bQ,getElem?_append_left→bO,append_assoc→aO,length_append→az,length_map→lz,getElem?_map→gI,mem_of_getElem?→fF,mem_cons→bS,not_mem_nil→ec,cons_append→eI,length_cons→cr,map_cons→dO,map_nil→lA,take_add_one→uh,take_length→j8,getElem?_eq_getElem→bk,length_take→r8,append_nil→cg,set_append_right→sd,length_singleton→p9,length_drop→mr,drop_zero→iy,take_of_length_le→o6,length_nil→fw,nil_append→fx,getElem?_set_ne→aD,getElem?_set_self→cM,mem_append→cX,mem_singleton→oZ,replicate→bL,length_replicate→xR,set_set→se,drop_eq_nil_of_le→jB,flatMap_cons→eU,flatMap_nil→iz,range'→fy,getElem?_eq_none→fP,drop_eq_getElem_cons→xP,drop_drop→oX,length_set→iA,isPrefixOf_iff_prefix→xQ,getD_eq_getElem?_getD→gq
open Option.some renaming injEq→dP
open Go.Lib renaming itoa→iZ,countByte→jz,parseUintM→qW,parseIntB→jA
open Nat renaming le_refl→aA,le_trans→ng,mul_le_mul_right→vX,zero_add→dI,mul_one→lC,add_zero→mw,sub_self→gJ,lt_or_ge→gu,zero_le→j9,lt_of_lt_of_le→uk
open Option renaming map_eq_some_iff→my,getD_some→qb,map_some→je
open Bool renaming eq_iff_iff→tU,false_eq_true→aW
open Int renaming toNat_natCast→fa
open Go.IntKind renaming wrap→ah
open Ne renaming symm→cY
open UInt8 renaming toNat_inj→ke
open Prod.mk renaming injEq→eQ
open List.cons renaming injEq→zQ
section
set_option maxRecDepth 100000
namespace Go.Front
open Go.AM Go.Proofs
def xV:Prop:=∀(U:St) (s:By),Kn U->FK s->Fw ae Lb 138 [.str s] U λr U'=>r=.ret (.str (xu s))/\Up U U'
theorem Ex.uP {t:List Node}:∀(l:List Ex) (b:Nat),cN t b (Ex.cR b l)->∀(j:Nat) (x:Ex),l[j]? =some x->∃bj,cN t bj (x.flat bj)/\(Ex.roots b l)[j]? =some (bj+x.size-1)
 | [],b,h,j,x,hj=>by simp at hj
 |y::l,b,h,0,x,hj=>by
  simp only[ja,dP]at hj;subst hj;exact⟨b,h.app.1,rfl⟩
 |y::l,b,h,j+1,x,hj=>by
  rw[oY]at hj;have h2:=h.app.2;rw[Ex.bI]at h2;obtain⟨bj,h3,h4⟩:=Ex.uP l (b+y.size) h2 j x hj;exact⟨bj,h3,by simp only[Ex.roots,oY];exact h4⟩
theorem Ex.Cb:∀{l:List Ex} {x:Ex},x∈l->x.size<=Ex.aB l
 |y::l,x,h=>by
  cases h with
  |head=>simp[Ex.aB]
  |tail _ h=>have:=Ex.Cb h;simp[Ex.aB];omega
theorem Ex.qL:∀(l:List Ex) (b:Nat),(Ex.roots b l).length=l.length
 | [],b=>rfl
 |x::l,b=>by simp[Ex.roots,Ex.qL l]
theorem Ex.vE:∀(l:List Ex),l.length<=Ex.aB l
 | []=>by simp[Ex.aB]
 |x::l=>by have:=Ex.vE l;have:=Ex.size_pos x;simp[Ex.aB];omega
theorem xw {t:List Node} {e:Ex} {b:Nat} (h:cN t b (e.flat b)):t[b+e.size-1]? =some (e.root b):=by
 have:=h _ _ (Ex.Hx e b);have hp:=Ex.size_pos e
 rwa [show b+(e.size-1)=b+e.size-1 from by omega]at this
section
variable {U0:St} {w tb:Nat} {t:List Node} {c2:On}
theorem OV {Q:bw} {U:St} (hk:Kn U) {n:Int} (hn:-9223372036854775808<=n/\n<=9223372036854775807) {K:Fu->AV->Out} (h:Wp Q λu=>K u (.str (iZ n))):
  Wp Q λu=>Gi ae Lb u.n 75 [.int .i64 n,.int .i64 10] U (K u):=by
 obtain⟨N,r,U',h1,h2⟩:=h;refine⟨N+1,r,U',h1,λu hu=>?_⟩;show pU (cd ae Lb u.n) 75 _ U (K u)=_;unfold pU;rw[hk.pow];simp only;obtain⟨m,hm⟩:∃m,u.n=m+1:=⟨u.n-1,by have:=hu.1;omega⟩
 have hc:cd ae Lb u.n 75 [.int .i64 n,.int .i64 10] [.dead,.know 0 tZ]=some (.ret (.str (iZ n)),[.dead,.know 0 tZ]):=by
  rw[hm];refine Lp ?_;simp only[Lb,EO];exact if_pos ⟨rfl,rfl,hn⟩
 rw[hc];simp only;rw[if_pos ⟨rfl,rfl⟩];exact h2 u (hu.mono (by omega))
theorem rF {Q:bw} {F:Fu->Out} {l:List AM.Kp} (hl:∀p∈l,p.1=p.2.1) (h:Wp Q F):Wp Q λu=>dS l (F u):=
 Wp.keeps (λp hp=>by rw[hl p hp]) h
theorem V4 (hs:Src U0 tb t) (dr:t.length<=4096) (len:Nat):∀(N:Nat) (e:Ex) (b:Nat),e.size<=N->e.aL len->cN t b (e.flat b)->(e.dq=true->xV)->Co U0 w (.slice (some (tb,0)) t.length c2 6) e (b+e.size-1):=by
 intro N
 induction N with
 |zero=>intro e b hN;have:=Ex.size_pos e;omega
 |succ N ih=>
  intro e b hN hg fM hq fr U l h hl;refine Wd ?_;have iK:=xw fM;have pK:=(bl.1 iK).1;have abA:=Ex.size_pos e;obtain⟨kv,bh,kA⟩:=hs.rH iK;have l1 (x:aq):(U++[x]).length=U.length+1:=by simp
  have l2 (x y:aq):(U++[x]++[y]).length=U.length+2:=by simp
  have hA:(aq.cells [AV.ptr (some (w,0))] (.rw (.box 89)))=jD w:=rfl;have h1:=h.xn (jD w);have PF (f:AV->Out):aI ae 89 (U++[jD w]) U.length 0 f=f (.ptr (some (w,0))):=
   cq (cs:=[.ptr (some (w,0))]) (by unfold aF;rw[bQ (aA _)];simp[jD]) Kv rfl
  obtain⟨_,nI⟩:=kA _ h1.up;obtain⟨ka,kc,kz,fR⟩:=bh.slice;have xB (f:St->Out):aT (U++[jD w]++[aq.cells [.int .i64 (0:Int),.int .i64 (0:Int),.str [],.int .i64 (0:Int),.int .i64 (0:Int),.slice none 0 (some 0) 0] (.rw (.box 42))]) (U.length+1) 0 (B0 (e.root b) kv) f=f (U++[jD w]++[pd (e.root b) kv]):=by
   have:=JM (τ:=U++[jD w]) (cs:=[.int .i64 (0:Int),.int .i64 (0:Int),.str [],.int .i64 (0:Int),.int .i64 (0:Int),.slice none 0 (some 0) 0]) (ys:=B0 (e.root b) kv) (m:=.box 42) (f:=f) rfl;rw[l1]at this;exact this
  have JL (f:St->Out):aT (U++[jD w]++[pd (e.root b) kv]++[aq.cells [.nilFunc] (.rw (.box 71))]) (U.length+2) 0 [.func (.func 137) [] [.ptr (some (U.length,0)),.ptr (some (U.length+1,0))]] f=f (U++[jD w]++[pd (e.root b) kv]++[wg U.length]):=by
   have:=JM (τ:=U++[jD w]++[pd (e.root b) kv]) (cs:=[.nilFunc]) (ys:=[.func (.func 137) [] [.ptr (some (U.length,0)),.ptr (some (U.length+1,0))]]) (m:=.box 71) (f:=f) rfl;rw[l2]at this;exact this
  unfold B0 at xB;rw[fR]at xB JL;simp only[hA,l1,PF,jX,an,h1.tree,aS,aU,bm (show(0:Int)<=((b+e.size-1:Nat):Int)/\((b+e.size-1:Nat):Int)<(t.length:Int)from⟨by omega,by omega⟩),nI,bK,bc,ag,aG,aZ,fR,xB,l2,JL];rw[<-fR];have h2:=(h1.xn (pd (e.root b) kv)).xn (wg U.length);rw[l1,l2]at h2;have back {τ:St} {l':By} (hp:Pw U0 (ins (ins (ins fr U.length (jD w)) (U.length+1) (pd (e.root b) kv)) (U.length+2) (wg U.length)) τ w (.slice (some (tb,0)) t.length c2 6) l'):Pw U0 fr τ w (.slice (some (tb,0)) t.length c2 6) l':=by
   have f0:=h.lV (aA U.length);have f1:=h.lV (show U.length<=U.length+1 by omega);have f2:=h.lV (show U.length<=U.length+2 by omega);have b1:∀x o,U0[x]? =some o->ins fr U.length (jD w) x=some o:=λx o hx=>qz f0 (h.base x o hx);have g1:ins fr U.length (jD w) (U.length+1)=none:=by rw[jL (by omega)];exact f1
   have b2:∀x o,U0[x]? =some o->ins (ins fr U.length (jD w)) (U.length+1) (pd (e.root b) kv) x=some o:=λx o hx=>qz g1 (b1 x o hx);have g2:ins (ins fr U.length (jD w)) (U.length+1) (pd (e.root b) kv) (U.length+2)=none:=by rw[jL (by omega),jL (by omega)];exact f2
   exact((hp.iW g2 b2).iW g1 b1).iW f0 h.base
  have box {τ:St} {l':By} (hp:Pw U0 (ins (ins (ins fr U.length (jD w)) (U.length+1) (pd (e.root b) kv)) (U.length+2) (wg U.length)) τ w (.slice (some (tb,0)) t.length c2 6) l'):jy τ U.length w (e.root b) kv:=
   ⟨hp.bE _ _ (by rw[jL (by omega),jL (by omega),iN]),hp.bE _ _ (by rw[jL (by omega),iN]),hp.bE _ _ iN⟩
  generalize ins (ins (ins fr U.length (jD w)) (U.length+1) (pd (e.root b) kv)) (U.length+2) (wg U.length)=wA at*;generalize U++[jD w]++[pd (e.root b) kv]++[wg U.length]=U3 at*;clear xB JL nI PF h1;have dG:=box h2;generalize U.length=n0 at*;refine Wp.mono (Q:=kU U0 wA w (.slice (some (tb,0)) t.length c2 6) (l++e.pr)) ?_ λr U' hr=>⟨hr.1,back hr.2⟩
  simp only[dG.acU,ag];cases e with
  |num a n=>
   refine Wp.pos rfl ?_;simp only[dG.ll,dG.tw,jX,ag];obtain⟨_,ef,fW⟩:=hg;refine OV (h2.kn.up h2.up) (n:=n) (by omega) ?_;simp only[aG];refine Wp.keeps (by intro p hp;simp at hp;subst hp;exact bO (bB dG.a)) ?_;exact h2.B5 [iZ n] rfl rfl rfl (by simp) (by simpa[Ex.pr]using hl) λU' h3=>Wp.ret ⟨rfl,by simpa[Ex.pr]using h3⟩
  |text a s=>
   refine Wp.neg rfl (Wp.pos rfl ?_);simp only[dG.ll,dG.y7,jX,aG];refine Wp.eE (hq rfl U3 s (h2.kn.up h2.up) hg.2) (λv U' hv=>?_) λv U' hv=>by cases hv.1
   obtain⟨hv,hu⟩:=hv;cases hv;have h3:=h2.grow hu;have bZ:=box h3;simp only[aG];refine Wp.keeps (by intro p hp;simp at hp;subst hp;rw[bZ.a,dG.a]) (Wp.keeps (by intro p hp;simp at hp;subst hp;exact bO (bB bZ.a)) ?_);exact h3.B5 [xu s] rfl rfl rfl (by simp) (by simpa[Ex.pr]using hl) λU' h3=>Wp.ret ⟨rfl,by simpa[Ex.pr]using h3⟩
  |name a s=>
   refine Wp.neg rfl (Wp.neg rfl (Wp.pos rfl ?_));simp only[dG.ll,dG.y7,jX,aG];exact h2.put [s] rfl rfl rfl (by simp) (by simpa[Ex.pr]using hl) λU' h3=>Wp.ret ⟨rfl,by simpa[Ex.pr]using h3⟩
  |call a s args=>
   refine Wp.neg rfl (Wp.neg rfl (Wp.neg rfl (Wp.pos rfl ?_)));simp only[dG.ll,dG.y7,jX,aG];have jK:(Ex.call a s args).pr=[s,[40]].flatMap aK++nP (Ex.fN args)++[[41]].flatMap aK:=by simp[Ex.pr]
   rw[jK,<-aO,<-aO]at hl|-;refine h2.put [s,[40]] rfl rfl rfl (by simp) (by simp only[az]at hl|-;omega) λU4 h4=>?_;have lZ:=box h4;simp only[lZ.ll,lZ.BS,jX,fR,aS];rw[<-fR];have cm:Ex.aB args<=N:=by simp only[Ex.size]at hN;omega
   have aa2:=LH (f:=102) (ks:=Ex.roots b args) (outs:=Ex.fN args) (U0:=U0) (fr:=wA) (w:=w) (tv:=.slice (some (tb,0)) t.length c2 6) (by rw[Ex.Jl,lz,Ex.qL]) (by rw[Ex.qL];have:=Ex.vE args;simp only[Ex.size]at pK;omega) bh.kp (λj k out hk ho ed U' l' hp fp=>by
    rw[Ex.Jl,gI]at ho;obtain⟨x,hx,rfl⟩:=my.1 ho;obtain⟨bj,BI,hr⟩:=Ex.uP args b fM.app.1 j x hx;rw[hr]at hk;cases hk;have rD:=fF hx;exact ih x bj (by have:=Ex.Cb rD;omega) (Ex.Bd hg.2.2 x rD).1 BI (λht=>hq (Ex.Bh rD ht)) ed U' l' hp fp) h4 (by simp only[az]at hl|-;omega)
   refine Wp.call aa2 (λv U5 hv=>?_) λv U' hv=>by cases hv.1
   have h5:=hv.2;have gP:=box h5;simp only[gP.ll,jX];exact h5.put [[41]] rfl rfl rfl (by simp) hl λU' h6=>Wp.ret ⟨rfl,h6⟩
  |index x i=>
   refine Wp.neg rfl (Wp.neg rfl (Wp.neg rfl (Wp.neg rfl (Wp.pos rfl ?_))));have dD:((Ex.index x i).root b).kids[0]? =some (b+x.size-1):=rfl;have gh:((Ex.index x i).root b).kids[1]? =some (b+x.size+i.size-1):=rfl;have pH:cN t b (x.flat b):=fM.app.1.app.1;have P4:cN t (b+x.size) (i.flat (b+x.size)):=by have:=fM.app.1.app.2;rwa [Ex.bI]at this
   have hX:=ih x b (by simp only[Ex.size]at hN;omega) hg.1 pH λht=>hq (by simp[Ex.dq,ht]);have hI:=ih i (b+x.size) (by simp only[Ex.size]at hN;omega) hg.2.1 P4 λht=>hq (by simp[Ex.dq,ht]);obtain⟨kb,EF,dE,cw⟩:=bh.eg dD;have jK:(Ex.index x i).pr=jg x.gD x.pr++[[91]].flatMap aK++i.pr++[[93]].flatMap aK:=by simp[Ex.pr]
   rw[jK,<-aO,<-aO,<-aO]at hl|-;have hz:=xw pH;have eW:=h2.up.cells cw;have hlen:((Ex.index x i).root b).kids.length=2:=rfl;have i0 (z:Out):ao (0:Int) ((Ex.index x i).root b).kids.length z=z:=bm ⟨by omega,by rw[hlen];decide⟩;have i1 (z:Out):ao (1:Int) ((Ex.index x i).root b).kids.length z=z:=bm ⟨by omega,by rw[hlen];decide⟩;simp only[dG.ll,dG.BS,dG.EV,jX,dE,aS,an,aU,i0,vm eW dD,ag];have fin {τ:St} (h4:Pw U0 wA τ w (.slice (some (tb,0)) t.length c2 6) (l++jg x.gD x.pr)):
     Wp (kU U0 wA w (.slice (some (tb,0)) t.length c2 6) (l++jg x.gD x.pr++[[91]].flatMap aK++i.pr++[[93]].flatMap aK)) λu=>C5 u.n n0 0 (n0+1) 0 τ:=by
    refine We ?_;have lZ:=box h4;simp only[lZ.ll,jX];refine h4.put [[91]] rfl rfl rfl (by simp) (by simp only[az]at hl|-;omega) λU5 h5=>?_;have gP:=box h5;simp only[gP.ll,gP.IQ,jX,dE,aS,an,aU,i1,EW (h5.up.cells cw) gh,ag];refine Wp.eE (hI _ _ _ h5 (by simp only[az]at hl|-;omega)) (λv U6 hv=>?_) λv U' hv=>by cases hv.1
    have h6:=hv.2;have D7:=box h6;simp only[D7.ll,jX];exact h6.put [[93]] rfl rfl rfl (by simp) hl λU7 h7=>Wp.ret ⟨rfl,h7⟩
   rw[dE]at bh dG box;refine Wp.Gj (Wp.eE (EI (i:=0) h2 dG bh hs dD hz) (λv U4 hv=>?_) λv U' hv=>by cases hv.1);obtain⟨hv,rfl⟩:=hv;cases hv;simp only[ag];refine rF (by intro p hp;simp only[bS,ec,or_false]at hp;rcases hp with rfl|rfl|rfl<;>rfl) ?_;have Qa:=Ex.afd x b;refine Wp.ite (λh6=>?_) λh6=>?_
   ·have h6:(x.root b).kind=6:=by simpa using h6
    have It:x.gD=true:=Qa.1 (.inl h6);refine rF (by intro p hp;simp only[bS,ec,or_false]at hp;rcases hp with rfl|rfl|rfl<;>rfl) ?_;rw[It]at fin hl|-;refine Wp.eE (Cj (is:=true) hX h2 (by simp only[az]at hl|-;omega)) (λv U5 hv=>?_) λv U' hv=>by cases hv.1
    exact fin hv.2
   ·have h6:¬(x.root b).kind=6:=by simpa using h6
    simp only[dG.EV];refine Wp.Gj (Wp.eE (EI (i:=0) h2 dG bh hs dD hz) (λv U5 hv=>?_) λv U' hv=>by cases hv.1);obtain⟨hv,rfl⟩:=hv;cases hv;simp only[ag];refine rF (by intro p hp;simp only[bS,ec,or_false]at hp;rcases hp with rfl|rfl|rfl<;>rfl) ?_;have It:x.gD=((x.root b).kind==7):=by
     rw[tU,<-Qa];simp only[beq_iff_eq];exact⟨λh=>by rcases h with h|h;exact absurd h h6;exact h,.inr⟩
    rw[It]at fin hl|-;refine Wp.eE (Cj (is:=(x.root b).kind==7) hX h2 (by simp only[az]at hl|-;omega)) (λv U5 hv=>?_) λv U' hv=>by cases hv.1
    exact fin hv.2
  |un a op x=>
   refine Wp.neg rfl (Wp.neg rfl (Wp.neg rfl (Wp.neg rfl (Wp.neg rfl (Wp.pos rfl ?_)))));have dD:((Ex.un a op x).root b).kids[0]? =some (b+x.size-1):=rfl;have pH:cN t b (x.flat b):=fM.app.1;have hX:=ih x b (by simp only[Ex.size]at hN;omega) hg.2.1 pH λht=>hq (by simp[Ex.dq,ht]);obtain⟨kb,EF,dE,cw⟩:=bh.eg dD;have jK:(Ex.un a op x).pr=[fE op].flatMap aK++jg x.kD x.pr:=by simp[Ex.pr]
   rw[jK,<-aO]at hl|-;have hz:=xw pH;have hlen:((Ex.un a op x).root b).kids.length=1:=rfl;have i0 (z:Out):ao (0:Int) ((Ex.un a op x).root b).kids.length z=z:=bm ⟨by omega,by rw[hlen];decide⟩;have sW:((Ex.un a op x).root b).n=(op:Int):=rfl;simp only[dG.ll,dG.tw,jX,ag,sW];refine Wp.eE (Rk (h2.kn.up h2.up) hg.2.2.2.1 (by have:=hg.2.2.2.2;omega)) (λv U4 hv=>?_) λv U' hv=>by cases hv.1
   obtain⟨hv,rfl⟩:=hv;cases hv;have h3:=h2.grow (Up.app [.cells (pT.map .str) .ro]);have bZ:=box h3;simp only[aG];refine Wp.keeps (by intro p hp;simp at hp;subst hp;rw[bZ.a,dG.a]) (Wp.keeps (by intro p hp;simp only[bS,ec,or_false]at hp;subst hp;exact bO (bB bZ.a)) ?_);refine h3.B5 [fE op] rfl rfl rfl (by simp) (by simp only[az]at hl|-;omega) λU5 h5=>?_;have gP:=box h5;simp only[gP.ll,gP.BS,gP.EV,jX,dE,aS,an,aU,i0,vm (h5.up.cells cw) dD,ag];rw[dE]at bh gP;refine Wp.Gj (Wp.eE (EI (i:=0) h5 gP bh hs dD hz) (λv U6 hv=>?_) λv U' hv=>by cases hv.1);obtain⟨hv,rfl⟩:=hv;cases hv;simp only[ag];refine rF (by intro p hp;simp only[bS,ec,or_false]at hp;rcases hp with rfl|rfl|rfl<;>rfl) ?_;have HI:x.kD=((x.root b).kind==7):=by
    rw[tU,<-Ex.ae9 x b];simp
   rw[HI]at hl|-;refine Wp.eE (Cj (is:=(x.root b).kind==7) hX h5 hl) (λv U7 hv=>?_) λv U' hv=>by cases hv.1
   exact Wp.ret ⟨rfl,hv.2⟩
  |bin op x y=>
   refine Wp.neg rfl (Wp.neg rfl (Wp.neg rfl (Wp.neg rfl (Wp.neg rfl (Wp.neg rfl (Wp.pos rfl ?_))))));have dD:((Ex.bin op x y).root b).kids[0]? =some (b+x.size-1):=rfl;have gh:((Ex.bin op x y).root b).kids[1]? =some (b+x.size+y.size-1):=rfl;have pH:cN t b (x.flat b):=fM.app.1.app.1;have wT:cN t (b+x.size) (y.flat (b+x.size)):=by have:=fM.app.1.app.2;rwa [Ex.bI]at this
   have hX:=ih x b (by simp only[Ex.size]at hN;omega) hg.1 pH λht=>hq (by simp[Ex.dq,ht]);have hY:=ih y (b+x.size) (by simp only[Ex.size]at hN;omega) hg.2.1 wT λht=>hq (by simp[Ex.dq,ht]);obtain⟨kb,EF,dE,cw⟩:=bh.eg dD;have jK:(Ex.bin op x y).pr=jg (decide (x.lv<level op)) x.pr++[fE op].flatMap aK++jg (decide (y.lv<=level op)) y.pr:=by simp[Ex.pr]
   rw[jK,<-aO,<-aO]at hl|-;have hzx:=xw pH;have hzy:=xw wT;have hlen:((Ex.bin op x y).root b).kids.length=2:=rfl;have i0 (z:Out):ao (0:Int) ((Ex.bin op x y).root b).kids.length z=z:=bm ⟨by omega,by rw[hlen];decide⟩;have i1 (z:Out):ao (1:Int) ((Ex.bin op x y).root b).kids.length z=z:=bm ⟨by omega,by rw[hlen];decide⟩;have sW:((Ex.bin op x y).root b).n=(op:Int):=rfl;have VN (a c:Nat):decide ((a:Int)<(c:Int))=decide (a<c):=by rw[decide_eq_decide];omega
   have VM (a c:Nat):decide ((a:Int)<=(c:Int))=decide (a<=c):=by rw[decide_eq_decide];omega
   have eW:=h2.up.cells cw;rw[dE]at bh;have O9:=dG;rw[dE]at O9;simp only[dG.ll,dG.BS,jX,dE,aS,an,aU,i0,vm eW dD,ag];refine Wp.eE (QL (i:=0) h2 O9 bh hs dD hzx) (λv U4 hv=>?_) λv U' hv=>by cases hv.1
   obtain⟨hv,rfl⟩:=hv;cases hv;simp only[ag];refine rF (by intro p hp;simp only[bS,ec,or_false]at hp;rcases hp with rfl|rfl|rfl<;>rfl) ?_;simp only[dG.tw,ag,sW];refine rF (by intro p hp;simp only[bS,ec,or_false]at hp;subst hp;rfl) ?_;refine Wp.eE (BV op) (λv U4 hv=>?_) λv U' hv=>by cases hv.1
   obtain⟨hv,rfl⟩:=hv;cases hv;simp only[ag];refine rF (by intro p hp;simp only[bS,ec,or_false]at hp;rcases hp with rfl|rfl|rfl<;>rfl) ?_;rw[VN];refine Wp.eE (Cj (is:=decide (x.lv<level op)) hX h2 (by simp only[az]at hl|-;omega)) (λv U5 hv=>?_) λv U' hv=>by cases hv.1
   have h5:=hv.2;have gP:=box h5;simp only[gP.ll,gP.tw,jX,ag,sW];refine Wp.eE (Rk (h5.kn.up h5.up) (by have:=hg.2.2.2.1;omega) hg.2.2.2.2) (λv U6 hv=>?_) λv U' hv=>by cases hv.1
   obtain⟨hv,rfl⟩:=hv;cases hv;have h6:=h5.grow (Up.app [.cells (pT.map .str) .ro]);have D7:=box h6;simp only[aG];refine Wp.keeps (by intro p hp;simp at hp;subst hp;rw[D7.a,gP.a]) (Wp.keeps (by intro p hp;simp only[bS,ec,or_false]at hp;subst hp;exact bO (bB D7.a)) ?_);refine h6.B5 [fE op] rfl rfl rfl (by simp) (by simp only[az]at hl|-;omega) λU7 h7=>?_;have D8:=box h7;have Pa:=D8;rw[dE]at Pa;simp only[D8.ll,D8.BS,jX,dE,aS,an,aU,i1,EW (h7.up.cells cw) gh,ag];refine Wp.eE (QL (i:=1) h7 Pa bh hs gh hzy) (λv U8 hv=>?_) λv U' hv=>by cases hv.1
   obtain⟨hv,rfl⟩:=hv;cases hv;simp only[ag];refine rF (by intro p hp;simp only[bS,ec,or_false]at hp;rcases hp with rfl|rfl|rfl<;>rfl) ?_;simp only[D8.tw,ag,sW];refine rF (by intro p hp;simp only[bS,ec,or_false]at hp;subst hp;rfl) ?_;refine Wp.eE (BV op) (λv U9 hv=>?_) λv U' hv=>by cases hv.1
   obtain⟨hv,rfl⟩:=hv;cases hv;simp only[ag];refine rF (by intro p hp;simp only[bS,ec,or_false]at hp;rcases hp with rfl|rfl|rfl<;>rfl) ?_;rw[VM];refine Wp.eE (Cj (is:=decide (y.lv<=level op)) hY h7 hl) (λv U9 hv=>?_) λv U' hv=>by cases hv.1
   exact Wp.ret ⟨rfl,hv.2⟩
end
end Go.Front
end
section
set_option maxRecDepth 100000
namespace Go.Front
open Go.AM Go.Proofs
abbrev mS:AV:=.slice none 0 (some 0) 0
def rep (c:UInt8):Option (By):=if c=10 then some [92,110]else if c=9 then some [92,116]else if c=92 then some [92,92]else if c=34 then some [92,34]else none
theorem Fy (c:UInt8):(c=10/\rep c=some [92,110])\/(c=9/\rep c=some [92,116])\/(c=92/\rep c=some [92,92])\/(c=34/\rep c=some [92,34])\/(c≠10/\c≠9/\c≠92/\c≠34/\rep c=none):=by
 unfold rep;by_cases h1:c=10
 ·exact .inl ⟨h1,by rw[if_pos h1]⟩
 by_cases h2:c=9
 ·exact .inr (.inl ⟨h2,by rw[if_neg h1,if_pos h2]⟩)
 by_cases h3:c=92
 ·exact .inr (.inr (.inl ⟨h3,by rw[if_neg h1,if_neg h2,if_pos h3]⟩))
 by_cases h4:c=34
 ·exact .inr (.inr (.inr (.inl ⟨h4,by rw[if_neg h1,if_neg h2,if_neg h3,if_pos h4]⟩)))
 ·exact .inr (.inr (.inr (.inr ⟨h1,h2,h3,h4,by rw[if_neg h1,if_neg h2,if_neg h3,if_neg h4]⟩)))
theorem Fz {c:UInt8} {l:By} (h:rep c=some l):l.length=2:=by
 rcases Fy c with⟨_,h1⟩|⟨_,h1⟩|⟨_,h1⟩|⟨_,h1⟩|⟨_,_,_,_,h1⟩<;>rw[h1]at h<;>cases h<;>rfl
theorem Ap (c:UInt8) (r:By):cz (c::r)=(rep c).getD [c]++cz r:=by
 rw[cz];congr 1;rcases Fy c with⟨h,h1⟩|⟨h,h1⟩|⟨h,h1⟩|⟨h,h1⟩|⟨n1,n2,n3,n4,h1⟩<;>rw[h1]
 ·subst h;rfl
 ·subst h;rfl
 ·subst h;rfl
 ·subst h;rfl
 ·rw[if_neg n1,if_neg n2,if_neg n3,if_neg n4];rfl
theorem GK:∀(a b:By),cz (a++b)=cz a++cz b
 | [],b=>rfl
 |c::a,b=>by rw[eI,Ap,Ap,GK a b,aO]
def iT (s:By):Nat:=s.countP λc=>(rep c).isSome
theorem Aq:∀s:By,(cz s).length=s.length+iT s
 | []=>rfl
 |c::s=>by
  have ih:=Aq s;rw[Ap,az,ih,cr];unfold iT;rw[List.countP_cons];cases h:rep c with
  |none=>simp;omega
  |some l=>have:=Fz h;simp;omega
theorem Mj:∀s:By,iT s=0->cz s=s
 | [],_=>rfl
 |c::s,h=>by
  unfold iT at h;rw[List.countP_cons]at h;cases hr:rep c with
  |none=>
   rw[hr]at h;rw[Ap,hr,Mj s (by unfold iT;simpa using h)];rfl
  |some l=>rw[hr]at h;simp at h
def SP:By:=[34,92,9,10]
def kZ (s:By) (l:By):Nat:=(l.map λc=>jz s c).sum
theorem JH:∀s:By,iT s=kZ s SP
 | []=>rfl
 |c::s=>by
  have ih:=JH s;have e (d:UInt8):jz (c::s) d=jz s d+if c==d then 1 else 0:=by unfold jz;rw[List.count_cons]
  unfold iT at ih|-;rw[List.countP_cons,ih];simp only[kZ,SP,dO,lA,List.sum_cons,List.sum_nil,e];rcases Fy c with⟨h,h1⟩|⟨h,h1⟩|⟨h,h1⟩|⟨h,h1⟩|⟨n1,n2,n3,n4,h1⟩<;>rw[h1]
  ·subst h;simp;omega
  ·subst h;simp;omega
  ·subst h;simp;omega
  ·subst h;simp;omega
  ·have f (d:UInt8) (h:c≠d):(c==d)=false:=by simpa using h
   simp[f _ n1,f _ n2,f _ n3,f _ n4]
structure gK (U:St) (q:Nat):Prop where
 box:∃cs,aF U q=some cs/\(∀c,rep c=none->cs[c.toNat]? =some mS)/\(∀c l,rep c=some l->∃p k,cs[c.toNat]? =some (.slice (some (p,0)) 2 k 1)/\aF U p=some (bH l))/\
  ∃h k,cs[256]? =some (.slice (some (h,0)) 4 k 1)/\aF U h=some (SP.map λc=>AV.str [c])
theorem gK.up {U U':St} {q:Nat} (h:gK U q) (hu:Up U U'):gK U' q:=by
 obtain⟨cs,h1,h2,h3,g,k,h4,h5⟩:=h.box;exact⟨cs,hu.cells h1,h2,λc l hc=>let⟨p,k,a,b⟩:=h3 c l hc;⟨p,k,a,hu.cells b⟩,g,k,h4,hu.cells h5⟩
theorem FZ:dz ae 45=some false:=by kernel_rfl
theorem S0:ae.underlying 74=some (.slice 5):=by kernel_rfl
theorem wi {a:Ad} {n z:Nat} {c:On} {f:Bool->Out}:ji ae 74 (.slice a n c z) (.slice none 0 (some 0) 0) f=f a.isNone:=by
 unfold ji ra;rw[S0];simp only[if_true];unfold cu;rw[S0];cases a<;>rfl
section
variable {Q:bw} {U:St} {q:Nat} {s:By}
theorem gK.ldL (h:gK U q):∃g k,(∀f:AV->Out,aI ae 45 U q (0+256) f=f (.slice (some (g,0)) 4 k 1))/\aF U g=some (SP.map λc=>AV.str [c]):=by
 obtain⟨cs,h1,_,_,g,k,h4,h5⟩:=h.box;exact⟨g,k,λf=>cq h1 FZ h4,h5⟩
theorem gK.tw (h:gK U q) {c:UInt8} (hc:rep c=none) (f:AV->Out):aI ae 74 U q ((0+0)+(((c.toNat:Int)).toNat*1)) f=f mS:=by
 obtain⟨cs,h1,h2,_⟩:=h.box;exact cq h1 si (by have:=h2 c hc;simpa using this)
theorem gK.BT (h:gK U q) {c:UInt8} {l:By} (hc:rep c=some l):∃p k,(∀f:AV->Out,aI ae 74 U q ((0+0)+(((c.toNat:Int)).toNat*1)) f=f (.slice (some (p,0)) 2 k 1))/\aF U p=some (bH l):=by
 obtain⟨cs,h1,_,h3,_⟩:=h.box;obtain⟨p,k,a,b⟩:=h3 c l hc;exact⟨p,k,λf=>cq h1 si (by simpa using a),b⟩
theorem yY (c:UInt8) {x:Out}:ao (c.toNat:Int) 256 x=x:=bm ⟨by omega,by have:=c.toNat_lt;omega⟩
theorem LR (c:UInt8):Fw ae Lb 277 [.str s,.str [c]] U λr U'=>r=.ret (.int .i64 (jz s c:Nat))/\U'=U:=by
 refine Yg ?_;refine Wp.neg rfl (Wp.pos rfl ?_);simp only[ib (s:=[c]) (i:=0) (b:=c) (by decide) rfl];refine Wp.call (Qf:=λr U'=>r=.ret (.int .i64 (jz s c:Nat))/\U'=U) (Fw.jP (r:=.ret (.int .i64 (jz s c:Nat))) (U':=U) ?_ ⟨rfl,rfl⟩) (λv U' hv=>?_) λv U' hv=>by cases hv.1
 ·simp only[Lb,EM];have:((c.toNat:Int)).toNat.toUInt8=c:=by simp
  rw[this]
 ·obtain⟨hv,rfl⟩:=hv;cases hv;simp only[ag];exact Wp.ret ⟨rfl,rfl⟩
theorem count_le (c:UInt8):jz s c<=s.length:=List.count_le_length
theorem Si {i:Nat} (hi:i<4):∃c l,SP[i]? =some c/\rep c=some l:=by
 have:i=0\/i=1\/i=2\/i=3:=by omega
 rcases this with rfl|rfl|rfl|rfl<;>exact⟨_,_,rfl,rfl⟩
theorem LF {i:Nat} {c:UInt8} (h:SP[i]? =some c):kZ s (SP.take (i+1))=kZ s (SP.take i)+jz s c:=by
 have hi:i<4:=(bl.1 h).1;have:i=0\/i=1\/i=2\/i=3:=by omega
 rcases this with rfl|rfl|rfl|rfl<;>(simp[SP]at h;subst h;simp[kZ,SP])<;>omega
theorem acm (ht:gK U q) (hs:s.length<=1000000) {g:Nat} {k:On} {s3:By} (hg:aF U g=some (SP.map λc=>AV.str [c])) (hk:Wp Q λu=>uL u.n (some (q,0)) s s3 ((s.length+kZ s SP:Nat):Int) U):
  ∀(m i:Nat),i+m=4->Wp Q λu=>AR u.n u.m1 (some (q,0)) s s3 ((s.length+kZ s (SP.take i):Nat):Int) (some (g,0)) 4 k 1 (4:Int) (i:Int) U:=by
 intro m
 induction m with
 |zero=>
  intro i hi;obtain rfl:i=4:=by omega
  refine Nn ?_;exact Wp.neg rfl hk
 |succ m ih=>
  intro i hi;have ih:=ih (i+1) (by omega);obtain⟨c,l,hc,hr⟩:=Si (i:=i) (by omega);rw[LF hc]at ih;have iG:=count_le (s:=s) c;have bg:kZ s (SP.take i)<=4*s.length:=by
   have b:∀l:By,kZ s l<=l.length*s.length:=by
    intro l
    induction l with
    |nil=>simp[kZ]
    |cons d l ih=>
     have:=count_le (s:=s) d;simp only[kZ,dO,List.sum_cons,cr,Nat.succ_mul]at ih|-;omega
   have:=b (SP.take i);have h4:(SP.take i).length<=4:=by simp[SP];omega
   exact ng this (vX _ h4)
  refine Nn ?_;have dJ (f:AV->Out):aI ae 9 U g (0+(((i:Int)).toNat*1)) f=f (.str [c]):=cq hg kX (by
   rw[gI];simp only[fa,dI,lC,hc];rfl)
  simp only[bm (show(0:Int)<=(i:Int)/\(i:Int)<((4:Nat):Int)from⟨by omega,by omega⟩),an,aU,dJ,aG];refine Wp.pos (by simp;omega) (Wp.call (LR (s:=s) c) (λv U' hv=>?_) λv U' hv=>by cases hv.1);obtain⟨hv,rfl⟩:=hv;cases hv;obtain⟨p,kp,dj,_⟩:=ht.BT hr;have w1:ah .i64 ((i:Int)+1)=((i+1:Nat):Int):=by rw[wrap64 (by omega) (by omega)];omega
  simp only[ag,ib (s:=[c]) (i:=0) (b:=c) (by decide) rfl,yY,dj,aS,w1];refine Wp.ite (λ_=>?_) λh0=>?_
  ·have w2:ah .i64 (((2:Nat):Int)-1)=1:=by rw[wrap64 (by omega) (by omega)];omega
   have w3:ah .i64 (((jz s c:Nat):Int)*1)=((jz s c:Nat):Int):=by rw[Int.mul_one,wrap64 (by omega) (by omega)]
   have w4:ah .i64 (((s.length+kZ s (SP.take i):Nat):Int)+((jz s c:Nat):Int))=((s.length+(kZ s (SP.take i)+jz s c):Nat):Int):=by rw[wrap64 (by omega) (by omega)];omega
   rw[w2,w3,w4];exact ih
  ·have wD:jz s c=0:=by simpa using h0
   rw[wD,mw]at ih;exact ih
theorem acj (ht:gK U q) (hs:s.length<=1000000) {g:Nat} {k:On} {s3:By} (hg:aF U g=some (SP.map λc=>AV.str [c])) (hk:Wp Q λu=>uL u.n (some (q,0)) s s3 ((s.length+kZ s SP:Nat):Int) U)
  (dD:kZ s SP=0->Wp Q λu=>yh u.n (some (q,0)) s s3 (s.length:Int) U):
  ∀(m i:Nat),i+m=4->kZ s (SP.take i)=0->Wp Q λu=>AP u.n u.m1 (some (q,0)) s s3 (s.length:Int) (some (g,0)) 4 k 1 (4:Int) (i:Int) U:=by
 intro m
 induction m with
 |zero=>
  intro i hi h0;obtain rfl:i=4:=by omega
  refine Nk ?_;exact Wp.neg rfl (dD h0)
 |succ m ih=>
  intro i hi h0;have ih:=ih (i+1) (by omega);obtain⟨c,l,hc,hr⟩:=Si (i:=i) (by omega);have h3:=acm ht hs (k:=k) hg hk m (i+1) (by omega);rw[LF hc]at ih h3;have iG:=count_le (s:=s) c;refine Nk ?_;have dJ (f:AV->Out):aI ae 9 U g (0+(((i:Int)).toNat*1)) f=f (.str [c]):=cq hg kX (by
   rw[gI];simp only[fa,dI,lC,hc];rfl)
  simp only[bm (show(0:Int)<=(i:Int)/\(i:Int)<((4:Nat):Int)from⟨by omega,by omega⟩),an,aU,dJ,aG];refine Wp.pos (by simp;omega) (Wp.call (LR (s:=s) c) (λv U' hv=>?_) λv U' hv=>by cases hv.1);obtain⟨hv,rfl⟩:=hv;cases hv;obtain⟨p,kp,dj,_⟩:=ht.BT hr;have w1:ah .i64 ((i:Int)+1)=((i+1:Nat):Int):=by rw[wrap64 (by omega) (by omega)];omega
  simp only[ag,ib (s:=[c]) (i:=0) (b:=c) (by decide) rfl,yY,dj,aS,w1];refine Wp.ite (λ_=>?_) λwD=>?_
  ·have w2:ah .i64 (((2:Nat):Int)-1)=1:=by rw[wrap64 (by omega) (by omega)];omega
   have w3:ah .i64 (((jz s c:Nat):Int)*1)=((jz s c:Nat):Int):=by rw[Int.mul_one,wrap64 (by omega) (by omega)]
   have w4:ah .i64 ((s.length:Int)+((jz s c:Nat):Int))=((s.length+(kZ s (SP.take i)+jz s c):Nat):Int):=by rw[h0,dI,wrap64 (by omega) (by omega)];omega
   rw[w2,w3,w4];exact h3
  ·have wD:jz s c=0:=by simpa using wD
   exact ih (by rw[h0,wD])
theorem Sl {i:Nat} {c:UInt8} (h:s[i]? =some c):iT (s.take (i+1))=iT (s.take i)+if(rep c).isSome then 1 else 0:=by
 have:s.take (i+1)=s.take i++[c]:=by rw[uh,h];rfl
 rw[this];unfold iT;rw[List.countP_append,List.countP_singleton]
theorem Ce (l:By):iT l<=l.length:=List.countP_le_length
theorem aco (ht:gK U q) (hs:s.length<=1000000) {s3:By} (hk:Wp Q λu=>uL u.n (some (q,0)) s s3 ((s.length+iT s:Nat):Int) U):
  ∀(m i:Nat),i+m=s.length->Wp Q λu=>AS u.n u.m1 (some (q,0)) s s3 ((s.length+iT (s.take i):Nat):Int) (i:Int) U:=by
 intro m
 induction m with
 |zero=>
  intro i hi;obtain rfl:i=s.length:=by omega
  refine No ?_;refine Wp.neg (by simp) ?_;rw[j8];exact hk
 |succ m ih=>
  intro i hi;have ih:=ih (i+1) (by omega);obtain⟨c,hc⟩:∃c,s[i]? =some c:=⟨s[i]'(by omega),bk (by omega)⟩
  rw[Sl hc]at ih;have iM:=Ce (s.take i);rw[r8]at iM;have w1:ah .i64 ((i:Int)+1)=((i+1:Nat):Int):=by rw[wrap64 (by omega) (by omega)];omega
  refine No ?_;have hb:s[((i:Int)).toNat]? =some c:=by simpa using hc
  simp only[ib (by omega) hb,an,yY,w1];refine Wp.pos (by simp;omega) ?_;cases hr:rep c with
  |none=>
   simp only[ht.tw hr,mS,aS,wi];rw[hr]at ih;exact Wp.neg rfl ih
  |some l=>
   obtain⟨p,kp,dj,_⟩:=ht.BT hr;have w2:ah .i64 (((2:Nat):Int)-1)=1:=by rw[wrap64 (by omega) (by omega)];omega
   have w4:ah .i64 (((s.length+iT (s.take i):Nat):Int)+1)=((s.length+(iT (s.take i)+1):Nat):Int):=by rw[wrap64 (by omega) (by omega)];omega
   simp only[dj,aS,wi,w2,w4];rw[hr]at ih;exact Wp.pos rfl ih
theorem ack (ht:gK U q) (hs:s.length<=1000000) {s3:By} (hk:Wp Q λu=>uL u.n (some (q,0)) s s3 ((s.length+iT s:Nat):Int) U) (dD:iT s=0->Wp Q λu=>yh u.n (some (q,0)) s s3 (s.length:Int) U):
  ∀(m i:Nat),i+m=s.length->iT (s.take i)=0->Wp Q λu=>AQ u.n u.m1 (some (q,0)) s s3 (s.length:Int) (i:Int) U:=by
 intro m
 induction m with
 |zero=>
  intro i hi h0;obtain rfl:i=s.length:=by omega
  refine Nl ?_;rw[j8]at h0;exact Wp.neg (by simp) (dD h0)
 |succ m ih=>
  intro i hi h0;have ih:=ih (i+1) (by omega);obtain⟨c,hc⟩:∃c,s[i]? =some c:=⟨s[i]'(by omega),bk (by omega)⟩
  have h5:=aco ht hs hk m (i+1) (by omega);rw[Sl hc]at ih h5;have w1:ah .i64 ((i:Int)+1)=((i+1:Nat):Int):=by rw[wrap64 (by omega) (by omega)];omega
  refine Nl ?_;have hb:s[((i:Int)).toNat]? =some c:=by simpa using hc
  simp only[ib (by omega) hb,an,yY,w1];refine Wp.pos (by simp;omega) ?_;cases hr:rep c with
  |none=>
   simp only[ht.tw hr,mS,aS,wi];rw[hr]at ih;exact Wp.neg rfl (ih (by rw[h0];rfl))
  |some l=>
   obtain⟨p,kp,dj,_⟩:=ht.BT hr;have w2:ah .i64 (((2:Nat):Int)-1)=1:=by rw[wrap64 (by omega) (by omega)];omega
   have w4:ah .i64 ((s.length:Int)+1)=((s.length+(iT (s.take i)+1):Nat):Int):=by rw[h0,wrap64 (by omega) (by omega)];omega
   simp only[dj,aS,wi,w2,w4];rw[hr]at h5;exact Wp.pos rfl h5
theorem Gg:∀l:By,bytesOf (bH l)=some l
 | []=>rfl
 |c::l=>by
  have:=Gg l;unfold bH at this|-;simp[bytesOf,this]
theorem R8 {A Z ys:List AV} (h:ys.length<=Z.length):eA (A++Z) A.length ys=A++ys++Z.drop ys.length:=by
 have:=R7 ys A Z 0;rw[mw]at this;rw[this,aO];congr 1
 conv=>lhs;rw[<-List.take_append_drop ys.length Z]
 rw[R6 _ _ _ _ (by rw[r8];omega),R5 _ _ (by rw[r8];omega)]
theorem acp {τ:St} {s3:By} (ht:gK τ q) (hs:s.length<=1000000) (hk:Wp Q λu=>Hg u.n s3 (some (τ.length,0)) (cz s).length (some (cz s).length) 1 (τ++[aq.cells (bH (cz s)) (.rw (.row 5))])):
  ∀(m i:Nat) (Z:List AV),i+m=s.length->(cz (s.take i)).length+Z.length=(cz s).length->
   Wp Q λu=>yi u.n u.m1 (some (q,0)) s s3 (some (τ.length,0)) (cz s).length (some (cz s).length) 1 ((cz (s.take i)).length:Int) (i:Int) (τ++[aq.cells (bH (cz (s.take i))++Z) (.rw (.row 5))]):=by
 have hE:=Aq s;have mO:=Ce s;intro m
 induction m with
 |zero=>
  intro i Z hi hZ;obtain rfl:i=s.length:=by omega
  rw[j8]at hZ|-;have:Z=[]:=List.eq_nil_of_length_eq_zero (by omega);subst this;rw[cg];refine Np ?_;exact Wp.neg (by simp) hk
 |succ m ih=>
  intro i Z hi hZ;obtain⟨c,hc⟩:∃c,s[i]? =some c:=⟨s[i]'(by omega),bk (by omega)⟩
  have fg:s.take (i+1)=s.take i++[c]:=by rw[uh,hc];rfl
  have dC:cz (s.take (i+1))=cz (s.take i)++(rep c).getD [c]:=by rw[fg,GK,Ap];simp[cz]
  have hle:(cz (s.take (i+1))).length<=(cz s).length:=by
   have:cz s=cz (s.take (i+1))++cz (s.drop (i+1)):=by rw[<-GK,List.take_append_drop]
   rw[this,az];omega
  rw[dC,az]at hle;have w1:ah .i64 ((i:Int)+1)=((i+1:Nat):Int):=by rw[wrap64 (by omega) (by omega)];omega
  have hb:s[((i:Int)).toNat]? =some c:=by simpa using hc
  generalize hA:cz (s.take i)=A at*;generalize hN:(cz s).length=N at*;have gB:gK (τ++[aq.cells (bH A++Z) (.rw (.row 5))]) q:=ht.up (Up.app _);have nA (x:aq):(τ++[x])[τ.length]? =some x:=by rw[bQ (aA _)];simp
  have P3 (x y:aq):(τ++[x]).set τ.length y=τ++[y]:=by rw[sd _ _ (aA _)];simp
  refine Np ?_;simp only[ib (by omega) hb,an,yY,w1];refine Wp.pos (by simp;omega) ?_;cases hr:rep c with
  |none=>
   rw[hr]at dC hle;simp only[Option.getD_none,p9]at dC hle;have w2:ah .i64 ((A.length:Int)+1)=((A.length+1:Nat):Int):=by rw[wrap64 (by omega) (by omega)];omega
   simp only[gB.tw hr,mS,aS,wi,bm (show(0:Int)<=(A.length:Int)/\(A.length:Int)<(N:Int)from⟨by omega,by omega⟩),aU,w2];refine Wp.neg rfl ?_;have eG:=R8 (A:=bH A) (Z:=Z) (ys:=[.int .u8 (c.toNat:Int)]) (by simp only[p9];omega);rw[lR]at eG;refine Wp.st (nA _) (by simp only[fa,lC,p9,az,lR];omega) ?_;simp only[fa,lC,dI,P3,eG,p9];have:=ih (i+1) (Z.drop 1) (by omega) (by rw[dC,az,mr];simp;omega);rw[dC,Gf,az]at this;exact this
  |some l=>
   have dj:=Fz hr;rw[hr]at dC hle;simp only[qb]at dC hle;obtain⟨p,kp,dJ,hp⟩:=gB.BT hr;have hrs (f:Ad->Nat->On->Out):tH (some (τ.length,0)) N (some N) 1 1 (A.length:Int) (N:Int) f=f (some (τ.length,A.length)) (N-A.length) (some (N-A.length)):=by
    unfold tH;simp only;rw[if_pos trivial,if_pos ⟨by omega,by omega,by simp⟩];simp
   simp only[dJ,aS,wi,hrs];refine Wp.pos rfl (Wp.Sk hp (by rw[lR];omega) ?_);have abF:((bH l).drop 0).take (2*1)=bH l:=by rw[iy,o6 (by rw[lR];omega)]
   rw[abF];have Ia:min 2 (N-A.length)=2:=by omega
   have eG:=R8 (A:=bH A) (Z:=Z) (ys:=bH l) (by rw[lR];omega);rw[lR,lR]at eG;have hcp (f:Int->St->Out):Ai (τ++[aq.cells (bH A++Z) (.rw (.row 5))]) 1 (some (τ.length,A.length)) (N-A.length) 1 2 (bH l) f=f ((2:Nat):Int) (τ++[aq.cells (bH A++bH l++Z.drop l.length) (.rw (.row 5))]):=by
    unfold Ai;simp only;rw[if_pos trivial,nA];simp only;rw[Ia,if_pos (by simp only[az,lR];omega),P3,o6 (by rw[lR];omega),eG]
   have w2:ah .i64 ((A.length:Int)+((2:Nat):Int))=((A.length+l.length:Nat):Int):=by rw[wrap64 (by omega) (by omega)];omega
   simp only[hcp,w2];have:=ih (i+1) (Z.drop l.length) (by omega) (by rw[dC,az,mr];omega);rw[dC,Gf,az]at this;exact this
theorem agX:zeroOf ae 5=some (.int .u8 0):=by kernel_rfl
theorem UG:jh ae 5=1:=by kernel_rfl
theorem Ti {z:AV}:∀n:Nat,(eT [z] n).length=n
 |0=>rfl
 |n+1=>by simp[eT,Ti n]
theorem ae7 (ht:gK U q) (hs:s.length<=1000000):Fw ae Lb 275 [.ptr (some (q,0)),.str s] U λr U'=>r=.ret (.str (cz s))/\Up U U':=by
 refine Yc ?_;obtain⟨g,k,hl,hg⟩:=ht.ldL;simp only[an,hl,aS];have hE:=Aq s;have mO:=Ce s;have j6:Wp (λr U'=>r=.ret (.str (cz s))/\Up U U') λu=>uL u.n (some (q,0)) s [] ((s.length+iT s:Nat):Int) U:=by
  rw[<-hE];refine Ye ?_;simp only[fa];have BD (f:St->Out):lq ae 5 1 ((cz s).length:Int) ((cz s).length:Int) U f=f (U++[aq.cells (eT [.int .u8 0] (cz s).length) (.rw (.row 5))]):=by
   unfold lq;rw[agX];simp only[UG];rw[if_pos ⟨rfl,⟨by omega,by omega,by omega,by simp;omega⟩,rfl⟩];simp[AV.cells]
  simp only[BD];have:=acp (Q:=λr U'=>r=.ret (.str (cz s))/\Up U U') (s3:=[]) ht hs ?_ s.length 0 (eT [.int .u8 0] (cz s).length) (by omega) (by rw[Ti];simp[cz])
  ·simp only[List.take_zero,cz,fw,bH,lA,fx]at this;exact Wp.cD (F:=λn m=>yi n m (some (q,0)) s [] (some (U.length,0)) (cz s).length (some (cz s).length) 1 (0:Int) (0:Int) _) this
  ·refine Yf ?_;have fe (f:By->Out):om (U++[aq.cells (bH (cz s)) (.rw (.row 5))]) (some (U.length,0)) (cz s).length 1 f=f (cz s):=by
    unfold om;simp only;have:aF (U++[aq.cells (bH (cz s)) (.rw (.row 5))]) U.length=some (bH (cz s)):=by
     unfold aF;rw[bQ (aA _)];simp
    rw[if_pos trivial,this];simp only;rw[if_pos (by rw[lR];omega),iy,o6 (by rw[lR];omega),Gg]
   simp only[fe];exact Wp.ret ⟨rfl,Up.app _⟩
 have j4 (h0:iT s=0):Wp (λr U'=>r=.ret (.str (cz s))/\Up U U') λu=>yh u.n (some (q,0)) s [] (s.length:Int) U:=by
  refine Yd ?_;rw[Mj s h0];exact Wp.ret ⟨rfl,Up.refl _⟩
 refine Wp.ite (λ_=>?_) λ_=>?_
 ·rw[JH]at j6;have h1:=acj ht hs (k:=k) hg j6 (λh=>j4 (by rw[JH];exact h)) 4 0 rfl rfl;exact Wp.cD (F:=λn m=>AP n m (some (q,0)) s [] (s.length:Int) (some (g,0)) 4 k 1 (4:Int) (0:Int) U) h1
 ·have h2:=ack ht hs j6 j4 s.length 0 (by omega) rfl;exact Wp.cD (F:=λn m=>AQ n m (some (q,0)) s [] (s.length:Int) (0:Int) U) h2
end
end Go.Front
end
section
set_option maxRecDepth 100000
namespace Go.Front
open Go.AM Go.Proofs
def olds:List (By):=[[10],[92,110],[9],[92,116],[92],[92,92],[34],[92,34]]
theorem agZ:zeroOf ae 9=some (.str []):=by kernel_rfl
theorem UH:jh ae 9=16:=by kernel_rfl
structure Bs (U0 U:St) (q h m:Nat):Prop where
 up:Up U0 U
 q0:U0.length<=q
 h0:U0.length<=h
 hq:h≠q
 hist:∃ys w,U[h]? =some (.cells ys (.rw w))/\m<=ys.length/\ys.take m=(SP.take m).map (λc=>AV.str [c])/\(0<m->ys.length=m)
 box:∃cs kk,U[q]? =some (.cells cs (.rw (.box 258)))/\cs.length=257/\cs[256]? =some (.slice (some (h,0)) m kk 1)/\(∀c:UInt8,c∉SP.take m->cs[c.toNat]? =some mS)/\
  ∀c l,c∈SP.take m->rep c=some l->∃p k,cs[c.toNat]? =some (.slice (some (p,0)) 2 k 1)/\aF U p=some (bH l)/\p≠h/\p≠q
theorem afL {c:UInt8} {l:By} (h:rep c=some l):c∈SP:=by
 rcases Fy c with⟨e,_⟩|⟨e,_⟩|⟨e,_⟩|⟨e,_⟩|⟨_,_,_,_,e⟩
 ·subst e;decide
 ·subst e;decide
 ·subst e;decide
 ·subst e;decide
 ·rw[e]at h;cases h
theorem Bs.tab {U0 U:St} {q h:Nat} (hb:Bs U0 U q h 4):gK U q:=by
 obtain⟨cs,kk,h1,h2,h3,h4,h5⟩:=hb.box;obtain⟨ys,w,g1,g2,g3,g4⟩:=hb.hist;refine⟨cs,by unfold aF;rw[h1],λc hc=>h4 c λhm=>?_,λc l hc=>?_,h,kk,h3,?_⟩
 ·have:SP.take 4=SP:=rfl;rw[this]at hm;simp only[SP,bS,ec,or_false]at hm;rcases hm with rfl|rfl|rfl|rfl<;>cases hc
 ·obtain⟨p,k,a,b,_⟩:=h5 c l (afL hc) hc;exact⟨p,k,a,b⟩
 ·have:ys=SP.map λc=>AV.str [c]:=by
   rw[o6 (by rw[g4 (by decide)];exact aA _)]at g3;exact g3
  unfold aF;rw[g1,this]
section
variable {Q:bw} {U0 U:St} {q h g:Nat}
theorem adP {i:Nat} {c:UInt8} {m:Nat} (hm:m<4) (hi:i=6-2*m) (hc:SP[m]? =some c):olds[i]? =some [c]/\∃l,rep c=some l/\olds[i+1]? =some l:=by
 have:m=0\/m=1\/m=2\/m=3:=by omega
 rcases this with rfl|rfl|rfl|rfl<;>(simp[SP]at hc;subst hc;subst hi;exact⟨rfl,_,rfl,rfl⟩)
theorem y6 (hg:aF U g=some (olds.map .str)) {i:Nat} {s:By} (hi:olds[i]? =some s) (f:AV->Out):aI ae 9 U g (0+(((i:Int)).toNat*1)) f=f (.str s):=
 cq hg kX (by rw[gI];simp only[fa,dI,lC,hi];rfl)
theorem Bs.round {m:Nat} {kg:On} (hb:Bs U0 U q h m) (hm:m<4) (hg:aF U0 g=some (olds.map .str)) {x1:AV}
  (hk:∀U' h',Bs U0 U' q h' (m+1)->Wp Q λu=>uJ u.n u.m1 x1 (some (g,0)) 8 kg 1 q 0 (ah .i64 (((6-2*m:Nat):Int)-2)) U'):
  Wp Q λu=>uJ u.n u.m1 x1 (some (g,0)) 8 kg 1 q 0 ((6-2*m:Nat):Int) U:=by
 obtain⟨c,hc⟩:∃c,SP[m]? =some c:=⟨SP[m]'(by simpa[SP]using hm),bk (by simpa[SP]using hm)⟩
 obtain⟨Em,l,hr,nJ⟩:=adP hm rfl hc;have Pt:=hb.up.cells hg;obtain⟨cs,kk,b1,b2,b3,b4,b5⟩:=hb.box;obtain⟨ys,w,g1,g2,g3,g4⟩:=hb.hist;have dj:=Fz hr;have Er:=bB b1;have hhl:=bB g1;have PY:=hb.q0;have hh0:=hb.h0;have hul:=hb.up.len;generalize hi:6-2*m=i at*;have w1:ah .i64 ((i:Int)+1)=((i+1:Nat):Int):=by rw[wrap64 (by omega) (by omega)];omega
 have Eb:c∉SP.take m:=by
  have:m=0\/m=1\/m=2\/m=3:=by omega
  rcases this with rfl|rfl|rfl|rfl<;>(simp[SP]at hc;subst hc;decide)
 have Iq:SP.take (m+1)=SP.take m++[c]:=by rw[uh,hc];rfl
 refine M1 ?_;have iH:aF U q=some cs:=by unfold aF;rw[b1]
 have acS (f:AV->Out):aI ae 74 U q ((0+0)+(((c.toNat:Int)).toNat*1)) f=f mS:=cq iH si (by simpa using b4 c Eb);have acT (f:AV->Out):aI ae 45 U q (0+256) f=f (.slice (some (h,0)) m kk 1):=cq iH FZ (by simpa using b3);simp only[bm (show(0:Int)<=(i:Int)/\(i:Int)<((8:Nat):Int)from⟨by omega,by omega⟩),an,aU,y6 Pt Em,aG,ib (s:=[c]) (i:=0) (b:=c) (by decide) rfl,w1,
  bm (show(0:Int)<=((i+1:Nat):Int)/\((i+1:Nat):Int)<((8:Nat):Int)from⟨by omega,by omega⟩),y6 Pt nJ,yY,acS,mS,aS,wi,acT]
 refine Wp.pos (by simp) (Wp.pos rfl ?_);have fe (f:By->Out):om (U++[aq.cells [.int .u8 (c.toNat:Int)] (.rw (.row 5))]) (some (U.length,0)) 1 1 f=f [c]:=by
  unfold om;simp only;have:aF (U++[aq.cells [.int .u8 (c.toNat:Int)] (.rw (.row 5))]) U.length=some (bH [c]):=by
   unfold aF;rw[bQ (aA _)];simp[bH]
  rw[if_pos trivial,this];simp only;rw[if_pos (by simp[bH]),iy,o6 (by simp[bH]),Gg]
 simp only[fe];generalize iD:U++[aq.cells [.int .u8 (c.toNat:Int)] (.rw (.row 5))]=U1;have l1:U1.length=U.length+1:=by rw[<-iD];simp
 have a1 (x:Nat) (hx:x<U.length):U1[x]? =U[x]?:=by rw[<-iD];exact bO hx
 refine Wp.sk (cs:=ys) (m:=w) (by rw[a1 h hhl];exact g1) (by omega) ⟨by omega,by omega⟩ ?_;rw[lC,iy,g3];generalize hH:aq.cells ((SP.take m).map (λc=>AV.str [c])++[.str [c]]) (.rw (iq w 9))=H;generalize Bg:U1.set h .dead++[H]=U2;have l2:U2.length=U.length+2:=by rw[<-Bg];simp[l1]
 have a2 (x:Nat) (hx:x<U.length) (bD:x≠h):U2[x]? =U[x]?:=by
  rw[<-Bg,bO (by simp[l1];omega),aD (by omega)];exact a1 x hx
 have Tw:U2[U1.length]? =some H:=by rw[<-Bg,bQ (by simp)];simp
 have Sb (xs:List AV) (k:Nat) (y:AV):eA xs k [y]=xs.set k y:=rfl;refine Wp.st (cs:=cs) (m:=.box 258) (by rw[a2 q Er (cY hb.hq)];exact b1) (by simp[b2]) ?_;rw[Sb,dI];generalize HF:U2.set q (.cells (cs.set 256 (.slice (some (U1.length,0)) (m+1) none 1)) (.rw (.box 258)))=U3;have l3:U3.length=U.length+2:=by rw[<-HF];simp[l2]
 have Tx:U3[q]? =some (.cells (cs.set 256 (.slice (some (U1.length,0)) (m+1) none 1)) (.rw (.box 258))):=by rw[<-HF];exact cM (by omega)
 have a3 (x:Nat) (hx:x≠q):U3[x]? =U2[x]?:=by rw[<-HF];exact aD (cY hx)
 have hP (f:Nat):True:=trivial;refine Wp.st (cs:=cs.set 256 (.slice (some (U1.length,0)) (m+1) none 1)) (m:=.box 258) (by rw[bO (by omega)];exact Tx) (by simp[b2];have:=c.toNat_lt;omega) ?_;rw[Sb];simp only[dI,lC,fa];generalize D5:(U3++[aq.cells (bH l) (.rw (.row 5))]).set q (.cells ((cs.set 256 (.slice (some (U1.length,0)) (m+1) none 1)).set c.toNat (.slice (some (U3.length,0)) l.length none 1)) (.rw (.box 258)))=U4;have Tz:U4[q]? =some (.cells ((cs.set 256 (.slice (some (U1.length,0)) (m+1) none 1)).set c.toNat (.slice (some (U3.length,0)) l.length none 1)) (.rw (.box 258))):=by rw[<-D5];exact cM (by simp;omega)
 have a4 (x:Nat) (hx:x≠q) (hl:x<U3.length):U4[x]? =U3[x]?:=by rw[<-D5,aD (cY hx)];exact bO hl
 have Ty:U4[U3.length]? =some (.cells (bH l) (.rw (.row 5))):=by rw[<-D5,aD (by omega),bQ (aA _)];simp
 have ahx:c.toNat<256:=c.toNat_lt;refine hk U4 U1.length ⟨?_,PY,by omega,by omega,?_,?_⟩
 ·refine⟨by rw[<-D5];simp;omega,λx hx=>?_⟩;rw[a4 x (by omega) (by omega),a3 x (by omega),a2 x (by omega) (by omega)];exact hb.up.same x hx
 ·refine⟨_,_,(by rw[a4 _ (by omega) (by omega),a3 _ (by omega),Tw,<-hH]),?_,?_,?_⟩
  ·simp[SP];omega
  ·rw[o6 (by simp[SP];omega),Iq,List.map_append];rfl
  ·intro _;simp[SP];omega
 ·refine⟨_,none,Tz,by simp[b2],?_,λd hd=>?_,λd ld hd rB=>?_⟩
  ·rw[aD (by omega),cM (by omega)]
  ·rw[Iq,cX,oZ]at hd;have Bn:d≠c:=λe=>hd (.inr e);have bD:c.toNat≠d.toNat:=λe=>Bn (ke.1 e).symm;have:=d.toNat_lt;rw[aD bD,aD (by omega)];exact b4 d λh=>hd (.inl h)
  ·by_cases Bn:d=c
   ·subst Bn;rw[hr]at rB;cases rB;refine⟨U3.length,none,?_,by unfold aF;rw[Ty],by omega,by omega⟩;rw[cM (by simp[b2];omega),dj]
   ·have oF:d∈SP.take m:=by
     rw[Iq,cX,oZ]at hd;exact hd.resolve_right Bn
    have bD:c.toNat≠d.toNat:=λe=>Bn (ke.1 e).symm;have:=d.toNat_lt;obtain⟨p,k,p1,p2,p3,p4⟩:=b5 d ld oF rB;have jJ:p<U.length:=by
     unfold aF at p2;split at p2
     ·exact bB ‹_›
     ·cases p2
    refine⟨p,k,?_,?_,by omega,p4⟩
    ·rw[aD bD,aD (by omega)];exact p1
    ·unfold aF at p2|-;rw[a4 p p4 (by omega),a3 p p4,a2 p jJ p3];exact p2
theorem aci {kg:On} {x1:AV} (hg:aF U0 g=some (olds.map .str)) (hk:∀U' h',Bs U0 U' q h' 4->Wp Q λu=>He u.n x1 q 0 U') (hb:Bs U0 U q h 0):
  Wp Q λu=>uJ u.n u.m1 x1 (some (g,0)) 8 kg 1 q 0 (6:Int) U:=by
 have w (a b:Int) (h:ah .i64 a=b):ah .i64 a=b:=h;refine hb.round (by omega) hg λU1 h1 b1=>?_;rw[show ah .i64 (((6-2*0:Nat):Int)-2)=((6-2*1:Nat):Int) by decide];refine b1.round (by omega) hg λU2 h2 b2=>?_;rw[show ah .i64 (((6-2*1:Nat):Int)-2)=((6-2*2:Nat):Int) by decide];refine b2.round (by omega) hg λU3 h3 b3=>?_;rw[show ah .i64 (((6-2*2:Nat):Int)-2)=((6-2*3:Nat):Int) by decide];refine b3.round (by omega) hg λU4 h4 b4=>?_;rw[show ah .i64 (((6-2*3:Nat):Int)-2)= -2 by decide];refine M1 ?_;exact Wp.neg rfl (hk U4 h4 b4)
theorem acn {kg:On} {x1:AV} (hg:aF U g=some (olds.map .str)) (hk:Wp Q λu=>Hf u.n x1 (some (g,0)) 8 kg 1 U):
  ∀(m i:Nat),i+2*m=8->Wp Q λu=>AH u.n u.m1 x1 (some (g,0)) 8 kg 1 (i:Int) U:=by
 intro m
 induction m with
 |zero=>
  intro i hi;obtain rfl:i=8:=by omega
  refine M3 ?_;exact Wp.neg rfl hk
 |succ m ih=>
  intro i hi;have ih:=ih (i+2) (by omega);obtain⟨s1,s2,h1,h2,h3,h4⟩:∃s1 s2,olds[i]? =some s1/\olds[i+1]? =some s2/\s1.length=1/\s2.length=2:=by
   have:i=0\/i=2\/i=4\/i=6:=by omega
   rcases this with rfl|rfl|rfl|rfl<;>exact⟨_,_,rfl,rfl,rfl,rfl⟩
  have w1:ah .i64 ((i:Int)+1)=((i+1:Nat):Int):=by rw[wrap64 (by omega) (by omega)];omega
  have w2:ah .i64 ((i:Int)+2)=((i+2:Nat):Int):=by rw[wrap64 (by omega) (by omega)];omega
  refine M3 ?_;simp only[bm (show(0:Int)<=(i:Int)/\(i:Int)<((8:Nat):Int)from⟨by omega,by omega⟩),an,aU,y6 hg h1,aG,w1,w2,
   bm (show(0:Int)<=((i+1:Nat):Int)/\((i+1:Nat):Int)<((8:Nat):Int)from⟨by omega,by omega⟩),y6 hg h2,h3,h4]
  exact Wp.pos (by simp;omega) (Wp.neg rfl (Wp.pos rfl ih))
theorem Uw {b:Nat} {kg:On} {x0 x1 x2 x3:AV} (hb:aF U b=some [x0,x1,x2,x3,.slice (some (g,0)) 8 kg 1]) (hg:aF U g=some (olds.map .str)):
  Fw ae Lb 204 [.ptr (some (b,0))] U λr U'=>∃q,r=.ret (.iface 259 (.ptr (some (q,0))))/\Up U U'/\gK U' q:=by
 refine XI ?_;have hl (f:AV->Out):aI ae 45 U b (0+4) f=f (.slice (some (g,0)) 8 kg 1):=cq hb FZ rfl;simp only[an,hl,aS];refine Wp.neg rfl ?_;refine XL ?_;refine Wp.cD (F:=λn m=>Dm n m .nilIface (some (g,0)) 8 kg 1 (0:Int) U) ?_;refine XP ?_;have o0 (f:AV->Out):aI ae 9 U g (0+(((0:Int)).toNat*1)) f=f (.str [10]):=y6 hg (i:=0) rfl f;have o1 (f:AV->Out):aI ae 9 U g (0+(((1:Int)).toNat*1)) f=f (.str [92,110]):=y6 hg (i:=1) rfl f;simp only[bm (show(0:Int)<=(0:Int)/\(0:Int)<((8:Nat):Int) by decide),an,aU,o0,aG,show ah .i64 ((0:Int)+1)=1 by decide,show ah .i64 ((0:Int)+2)=2 by decide,
  bm (show(0:Int)<=(1:Int)/\(1:Int)<((8:Nat):Int) by decide),o1]
 refine Wp.pos (by decide) (Wp.neg rfl (Wp.pos rfl ?_));refine acn hg ?_ 3 2 rfl;refine XN ?_;refine XO ?_;simp only[show ah .i64 (Int.tdiv ((8:Nat):Int) 2)=4 by decide,show ah .i64 (((8:Nat):Int)-2)=6 by decide];have BD (f:St->Out):lq ae 9 1 (0:Int) (4:Int) U f=f (U++[aq.cells (eT [.str []] 4) (.rw (.row 9))]):=by
  unfold lq;rw[agZ];simp only[UH];rw[if_pos ⟨rfl,⟨by decide,by decide,by decide,by decide⟩,rfl⟩];rfl
 simp only[BD];generalize iD:U++[aq.cells (eT [.str []] 4) (.rw (.row 9))]=U1;have l1:U1.length=U.length+1:=by rw[<-iD];simp
 have eX (f:St->Out):=JM (τ:=U1) (cs:=bL 257 mS) (ys:=bL 256 mS++[.slice (some (U.length,0)) 0 (some (4:Int).toNat) 1]) (m:=.box 258) (f:=f) (by rw[az,xR,xR];rfl);simp only[eX];refine Wp.cD (F:=λn m=>uJ n m .nilIface (some (g,0)) 8 kg 1 U1.length 0 (6:Int) _) ?_;refine aci (U0:=U) (h:=U.length) hg (λU' h' bZ=>?_) ⟨?_,by omega,by omega,by omega,?_,?_⟩
 ·refine XK ?_;exact Wp.ret ⟨_,rfl,bZ.up,bZ.tab⟩
 ·rw[<-iD,aO];exact Up.app _
 ·refine⟨eT [.str []] 4,.row 9,?_,by simp,by simp,λh=>by omega⟩;rw[bO (by omega),<-iD,bQ (aA _)];simp
 ·refine⟨bL 256 mS++[.slice (some (U.length,0)) 0 (some (4:Int).toNat) 1],some (4:Int).toNat,by rw[bQ (aA _),gJ];rfl,by rw[az,xR];rfl,?_,λc _=>?_,λc l hc=>?_⟩
  ·rw[bQ (by rw[xR];decide),xR];rfl
  ·have:=c.toNat_lt;rw[bO (by rw[xR];omega),List.getElem?_replicate,if_pos (by omega)]
  ·cases hc
theorem agJ {t:TypeId} {v:AV} {x:Out}:zI ae 211 (AV.cells (.iface t v)) x=x:=agK (by kernel_rfl) (by kernel_rfl) rfl
theorem gK.R2 {b:Nat} {cs au:List AV} {m m':Wr} (ht:gK U q) (hb:U[b]? =some (.cells cs m)) (h5:cs.length=5):gK (U.set b (.cells au m')) q:=by
 obtain⟨ds,h1,h2,h3,g,k,h4,h6⟩:=ht.box;have bE {p:Nat} {es:List AV} (hp:aF U p=some es) (hl:es.length≠5):aF (U.set b (.cells au m')) p=some es:=by
  have bD:b≠p:=by
   rintro rfl;unfold aF at hp;rw[hb]at hp;cases hp;exact hl h5
  unfold aF at hp|-;rw[aD bD];exact hp
 refine⟨ds,bE h1 ?_,h2,λc l hc=>?_,g,k,h4,bE h6 (by decide)⟩
 ·have:=(bl.1 h4).1;omega
 ·obtain⟨p,kp,a,b⟩:=h3 c l hc;exact⟨p,kp,a,bE b (by rw[lR,Fz hc];decide)⟩
theorem Uv {b:Nat} {kg:On} {x0 x1 x2 x3:AV} {m:Mk} (hb:U[b]? =some (.cells [x0,x1,x2,x3,.slice (some (g,0)) 8 kg 1] (.rw m))) (hg:aF U g=some (olds.map .str)):
  Fw ae Lb 185 [.ptr (some (b,0))] U λr U'=>r=.ret (.tuple [])/\∃q,U.length<=U'.length/\(∀x,x<U.length->x≠b->U'[x]? =U[x]?)/\U'[b]? =some (.cells [x0,x1,x2,.iface 259 (.ptr (some (q,0))),mS] (.rw m))/\gK U' q:=by
 refine Xo ?_;refine Wp.call (Uw (by unfold aF;rw[hb]) hg) (λv U2 hv=>?_) λv U' hv=>by obtain⟨_,hv,_⟩:=hv;cases hv
 obtain⟨q,hv,hu,ht⟩:=hv;cases hv;have cw:=bB hb;have bR:U2[b]? =some (.cells [x0,x1,x2,x3,.slice (some (g,0)) 8 kg 1] (.rw m)):=by rw[hu.same b cw];exact hb
 simp only[an,agJ];refine Wp.st (cs:=[x0,x1,x2,x3,.slice (some (g,0)) 8 kg 1]) (m:=m) bR (by simp[AV.cells]) ?_;have e1:eA [x0,x1,x2,x3,.slice (some (g,0)) 8 kg 1] (0+3) (AV.cells (.iface 259 (.ptr (some (q,0)))))=[x0,x1,x2,.iface 259 (.ptr (some (q,0))),.slice (some (g,0)) 8 kg 1]:=rfl;rw[e1];have dj:b<U2.length:=bB bR;refine Wp.st (cs:=[x0,x1,x2,.iface 259 (.ptr (some (q,0))),.slice (some (g,0)) 8 kg 1]) (m:=m) (cM dj) (by simp) ?_;have e2:eA [x0,x1,x2,.iface 259 (.ptr (some (q,0))),.slice (some (g,0)) 8 kg 1] (0+4) [.slice none 0 (some 0) 0]=[x0,x1,x2,.iface 259 (.ptr (some (q,0))),mS]:=rfl;rw[e2,se];refine Wp.ret ⟨rfl,q,by simp;exact hu.len,λx hx bD=>?_,cM dj,ht.R2 bR rfl⟩;rw[aD (cY bD)];exact hu.same x hx
end
end Go.Front
end
section
set_option maxRecDepth 100000
namespace Go.Front
open Go.AM Go.Proofs
theorem OJ (rv:Value) (w:World):(method (ae.types.size+Made.depth) 259 rv "Replace").run ae w=.ok (275,rv) w:=by kernel_rfl
theorem ado:ze ae 259 "Replace"=some 275:=by
 unfold ze;have h:∃f,∀(rv:Value) (w:World),(method (ae.types.size+Made.depth) 259 rv "Replace").run ae w=.ok (f,rv) w:=⟨275,OJ⟩
 rw[dif_pos h];have h1:=h.choose_spec (.bool true) default;rw[OJ]at h1;have:(275,Value.bool true)=(h.choose,Value.bool true):=by injection h1
 exact congrArg some (congrArg Prod.fst this).symm
section
variable {Q:bw} {U:St} {b g:Nat}
theorem QP {cs:List AV} {wr:Wr} {x:Int} (hb:U[b]? =some (.cells cs wr)) (hx:cs[0]? =some (.int .u32 x)):Fw ae Lb 202 [.ptr (some (b,0))] U λr U'=>r=.ret (.bool (x !=0))/\U'=U:=by
 refine XG ?_;simp only[an];refine Wp.call (Qf:=λr U'=>r=.ret (.int .u32 x)/\U'=U) (Fw.jP (r:=.ret (.int .u32 x)) (U':=U) ?_ ⟨rfl,rfl⟩) (λv U' hv=>?_) λv U' hv=>by cases hv.1
 ·simp only[Lb,ES,hb,dI,hx]
 ·obtain⟨hv,rfl⟩:=hv;cases hv;simp only[ag];exact Wp.ret ⟨rfl,rfl⟩
theorem Ta {cs:List AV} {m:Mk} {x y:Int} {o:Nat} (hb:U[b]? =some (.cells cs (.rw m))) (ho:cs[o]? =some (.int .i32 x)):rI x y [.ptr (some (b,o))] U=some (.ret (.tuple []),U.set b (.cells (cs.set o (.int .i32 y)) (.rw m))):=by
 unfold rI;simp only[hb];rw[if_pos ho]
theorem RM {F:Nat->Out} {X:St} (h:Wp (λr U'=>r=.ret (.tuple [])/\U'=X) λu=>F u.n):∃N,∀n,N<=n->F n=some (.ret (.tuple []),X):=by
 obtain⟨N,r,U',⟨rfl,rfl⟩,h2⟩:=h;exact⟨N,λn hn=>h2 ⟨n,n,n,n⟩ ⟨hn,hn,hn,hn⟩⟩
theorem af1 {cs:List AV} {m:Mk} {u:Option AV} (hb:U[b]? =some (.cells cs (.rw m))) (hl:0<cs.length):
  ∃N,∀n,N<=n->js ae (cd ae Lb n) n 215 [.ptr (some (b,0)),.bool true] u U=some (u,U.set b (.cells (cs.set 0 (.int .u32 1)) (.rw m))):=by
 obtain⟨N,h⟩:=RM (F:=λn=>Dq n (some (b,0)) true U) (X:=U.set b (.cells (cs.set 0 (.int .u32 1)) (.rw m))) (by
  simp only[Dq,an];refine Wp.eE (Qf:=λr U'=>r=.ret (.int .u32 1)/\U'=U) (X6 ?_) (λv U' hv=>?_) λv U' hv=>by cases hv.1
  ·skip
   exact Wp.pos rfl (Wp.ret ⟨rfl,rfl⟩)
  ·obtain⟨hv,rfl⟩:=hv;cases hv;simp only[ag];refine Wp.eE (Qf:=λr zV=>r=.ret (.tuple [])/\zV=U'.set b (.cells (cs.set 0 (.int .u32 1)) (.rw m))) (Fw.jP (r:=.ret (.tuple [])) (U':=U'.set b (.cells (cs.set 0 (.int .u32 1)) (.rw m))) ?_ ⟨rfl,rfl⟩) (λv U2 hv=>?_) λv U' hv=>by cases hv.1
   ·simp only[Lb,ET,hb,dI];exact if_pos hl
   ·exact Wp.ret ⟨rfl,hv.2⟩)
 exact⟨N,λn hn=>X2 u (h n hn)⟩
theorem agF {cs:List AV} {m:Mk} {u:Option AV} (hb:U[b]? =some (.cells cs (.rw m))) (h1:cs[1]? =some (.int .i32 1)):
  ∃N,∀n,N<=n->js ae (cd ae Lb n) n 214 [.ptr (some (b,0+1))] u U=some (u,U.set b (.cells (cs.set 1 (.int .i32 0)) (.rw m))):=by
 obtain⟨N,h⟩:=RM (F:=λn=>Dp n (some (b,0+1)) U) (X:=U.set b (.cells (cs.set 1 (.int .i32 0)) (.rw m))) (by
  simp only[Dp,an];refine Wp.eE (Qf:=λr zV=>r=.ret (.tuple [])/\zV=U.set b (.cells (cs.set 1 (.int .i32 0)) (.rw m))) (Fw.jP (r:=.ret (.tuple [])) (U':=U.set b (.cells (cs.set 1 (.int .i32 0)) (.rw m))) ?_ ⟨rfl,rfl⟩) (λv U2 hv=>?_) λv U' hv=>by cases hv.1
  ·show rI 1 0 [.ptr (some (b,0+1+0))] U=_;exact Ta hb h1
  ·exact Wp.ret ⟨rfl,hv.2⟩)
 exact⟨N,λn hn=>X0 u (h n hn)⟩
def tG (g:Nat):List AV:=[.int .u32 0,.int .i32 0,.int .u32 0,.nilIface,.slice (some (g,0)) 8 none 1]
def RP (q:Nat):List AV:=[.int .u32 1,.int .i32 0,.int .u32 0,.iface 259 (.ptr (some (q,0))),mS]
def Ki (U:St) (b:Nat) (m:Mk):bw:=λr U'=>r=.ret (.tuple [])/\∃q,U.length<=U'.length/\(∀x,x<U.length->x≠b->U'[x]? =U[x]?)/\U'[b]? =some (.cells (RP q) (.rw m))/\gK U' q
theorem afE {m:Mk} (hb:U[b]? =some (.cells (tG g) (.rw m))) (hg:aF U g=some (olds.map .str)) (jI:g≠b):
  Fw ae Lb 203 [.ptr (some (b,0)),.func (.func 185) [.ptr (some (b,0))] []] U (Ki U b m):=by
 refine XH ?_;simp only[an];have cw:=bB hb;refine Wp.call (Qf:=λr U'=>r=.ret (.tuple [])/\U'=U.set b (.cells ((tG g).set 1 (.int .i32 1)) (.rw m))) (Fw.jP (r:=.ret (.tuple [])) (U':=U.set b (.cells ((tG g).set 1 (.int .i32 1)) (.rw m))) ?_ ⟨rfl,rfl⟩) (λv U1 hv=>?_) λv U' hv=>by cases hv.1
 ·show rI 0 1 [.ptr (some (b,0+1))] U=_;exact Ta hb rfl
 obtain⟨_,iD⟩:=hv;have b1:U1[b]? =some (.cells ((tG g).set 1 (.int .i32 1)) (.rw m)):=by rw[iD];exact cM cw
 have s1:∀x,x≠b->U1[x]? =U[x]?:=λx hx=>by rw[iD];exact aD (cY hx)
 have l1:U1.length=U.length:=by rw[iD];simp
 refine Wp.di (QP b1 rfl) (λv U2 hv=>?_) λv U' hv=>by cases hv.1
 obtain⟨hv,rfl⟩:=hv;cases hv;simp only[bp];refine Wp.pos rfl ?_;have hg1:aF U2 g=some (olds.map .str):=by unfold aF at hg|-;rw[s1 g jI];exact hg
 have hO:=Uv (x0:=.int .u32 0) (x1:=.int .i32 1) (x2:=.int .u32 0) (x3:=.nilIface) (kg:=none) (m:=m) b1 hg1;refine(Wp.di (P:=ae) (B:=Lb) (f:=185) (args:=[.ptr (some (b,0))]) (U:=U2) hO (λv U3 hv=>?_) (λv U' hv=>by cases hv.1):);obtain⟨_,q,l3,s3,b3,t3⟩:=hv;have Pd:=bB b3;refine Wp.df (x':=none) (af1 b3 (by simp)) ?_;have b4:=cM (a:=aq.cells (([.int .u32 0,.int .i32 1,.int .u32 0,.iface 259 (.ptr (some (q,0))),mS]:List AV).set 0 (.int .u32 1)) (.rw m)) Pd;refine Wp.df (x':=none) (agF b4 rfl) (Wp.E2 (Wp.ret ⟨rfl,q,by simp;omega,λx hx bD=>?_,?_,?_⟩))
 ·rw[se,aD (cY bD),s3 x (by omega) bD,s1 x bD]
 ·rw[se,cM Pd];rfl
 ·rw[se];exact t3.R2 b3 rfl
theorem adR {m:Mk} (hb:U[b]? =some (.cells (tG g) (.rw m))) (hg:aF U g=some (olds.map .str)) (jI:g≠b):
  Fw ae Lb 184 [.ptr (some (b,0)),.func (.func 185) [.ptr (some (b,0))] []] U (Ki U b m):=by
 refine Xn ?_;simp only[an];refine Wp.call (QP hb rfl) (λv U1 hv=>?_) λv U' hv=>by cases hv.1
 obtain⟨hv,rfl⟩:=hv;cases hv;simp only[bp];refine Wp.pos rfl (Wp.call (afE hb hg jI) (λv U2 hv=>?_) λv U' hv=>by cases hv.1);exact Wp.ret ⟨rfl,hv.2⟩
theorem TA:dz ae 211=some false:=by kernel_rfl
theorem Wp.UR {t:TypeId} {v:AV} {f:FuncId} {name:String} {args:List AV} {Qf:bw} {k:Fu->AV->St->Out} (hm:ze ae t name=some f) (hf:Fw ae Lb f (v::args) U Qf) (hk:∀v U',Qf (.ret v) U'->Wp Q λu=>k u v U') (hp:∀v U',Qf (.pan v) U'->Q (.pan v) U'):
  Wp Q λu=>Gh ae Lb u.n (.iface t v) name args U (k u):=by
 refine(Wp.call hf hk hp).eq λu=>?_;unfold Gh wh;simp only[hm];rfl
theorem ae6 {m:Mk} {s:By} (hs:s.length<=1000000) (hb:U[b]? =some (.cells (tG g) (.rw m))) (hg:aF U g=some (olds.map .str)) (jI:g≠b):
  Fw ae Lb 166 [.ptr (some (b,0)),.str s] U λr U'=>r=.ret (.str (cz s))/\U.length<=U'.length/\∀x,x<U.length->x≠b->U'[x]? =U[x]?:=by
 refine Xb ?_;simp only[an];refine Wp.call (adR hb hg jI) (λv U1 hv=>?_) λv U' hv=>by cases hv.1
 obtain⟨_,q,l1,s1,b1,t1⟩:=hv;have hl (f:AV->Out):aI ae 211 U1 b (0+3) f=f (.iface 259 (.ptr (some (q,0)))):=cq (cs:=RP q) (by unfold aF;rw[b1]) TA rfl;simp only[hl];refine Wp.UR ado (ae7 t1 hs) (λv U2 hv=>?_) λv U' hv=>by cases hv.1
 obtain⟨hv,hu⟩:=hv;cases hv;simp only[aG];exact Wp.ret ⟨rfl,ng l1 hu.len,λx hx bD=>(hu.same x (by omega)).trans (s1 x hx bD)⟩
theorem adB (U:St):Fw ae Lb 165 [.slice (some (U.length,0)) 8 (some 8) 1] (U++[aq.cells (olds.map .str) (.rw (.row 9))]) λr U'=>
  r=.ret (.ptr (some (U.length+2,0)))/\U'=U++[aq.cells (olds.map .str) (.rw (.row 9))]++[aq.cells (olds.map .str) (.rw (.row 9))]++[aq.cells (tG (U.length+1)) (.rw (.box 213))]:=by
 refine Xa ?_;refine Wp.neg (by decide) (Wp.Sk (cs:=olds.map .str) (by unfold aF;rw[bQ (aA _),gJ];rfl) (by decide) ?_);rw[show((olds.map AV.str).drop 0).take (8*1)=olds.map AV.str from rfl];refine Wp.sj (by decide) ⟨by decide,by decide⟩ ?_;refine Wp.ret ⟨by simp,?_⟩;simp[tG]
theorem aeU:xV:=by
 intro U s hk hs;refine WH ?_;have hlen:=Aq s;have mO:=Ce s;have h100:=hs.1;refine Wp.call (adB U) (λv U1 hv=>?_) λv U' hv=>by cases hv.1
 obtain⟨hv,iD⟩:=hv;cases hv;have l1:U1.length=U.length+3:=by rw[iD];simp
 have b1:U1[U.length+2]? =some (.cells (tG (U.length+1)) (.rw (.box 213))):=by
  rw[iD,bQ (by simp)];simp
 have g1:aF U1 (U.length+1)=some (olds.map .str):=by
  unfold aF;rw[iD,bO (by simp),bQ (by simp)];simp
 have s1:∀x,x<U.length->U1[x]? =U[x]?:=λx hx=>by
  rw[iD,aO,aO];exact bO hx
 simp only[jX];refine Wp.call (ae6 (s:=s) (by omega) b1 g1 (by omega)) (λv U2 hv=>?_) λv U' hv=>by cases hv.1
 obtain⟨hv,l2,s2⟩:=hv;cases hv;simp only[aG,Gm (a:=[34]) (b:=cz s) (by simp only[p9];omega),Gm (a:=[34]++cz s) (b:=[34]) (by simp only[az,p9];omega)];exact Wp.ret ⟨rfl,by omega,λx hx=>(s2 x (by omega) (by omega)).trans (s1 x hx)⟩
end
end Go.Front
end
section
set_option maxRecDepth 100000
namespace Go.Front
open Go.AM Go.Proofs
theorem IV {Q:bw} {U:St} {c:Bool} {k:Fu->St->AV->Bool->Out} (h:∀U',Up U U'->Wp Q λu=>k u U' (.str (if c then[105,102]else[119,104,105,108,101])) true):
  Wp Q λu=>bY ae 4 (U++[aq.map []]) (.v (.map (some U.length))) (.bool true) (.str [105,102]) λU13=>
   bY ae 4 U13 (.v (.map (some U.length))) (.bool false) (.str [119,104,105,108,101]) λU14=>
   gF ae 4 9 U14 (some U.length) (.bool c) λx15 b=>k u U14 x15 b:=by
 refine(h (U++[aq.map [(.bool false,.str [119,104,105,108,101]),(.bool true,.str [105,102])]]) (Up.app _)).eq λu=>?_;have u1 (f:St->Out):bY ae 4 (U++[aq.map []]) (.v (.map (some U.length))) (.bool true) (.str [105,102]) f=f (U++[aq.map [(.bool true,.str [105,102])]]):=by
  unfold bY fq;rw[FD];simp only[Bool.true_or,if_true];rw[bQ (aA _)];simp only[gJ,ja,du];rw[sd _ _ (aA _)];simp[lj]
 have u2 (f:St->Out):bY ae 4 (U++[aq.map [(.bool true,.str [105,102])]]) (.v (.map (some U.length))) (.bool false) (.str [119,104,105,108,101]) f=f (U++[aq.map [(.bool false,.str [119,104,105,108,101]),(.bool true,.str [105,102])]]):=by
  unfold bY fq;rw[FD];simp only[Bool.true_or,if_true];rw[bQ (aA _)];simp only[gJ,ja,du,eK,GI];rw[sd _ _ (aA _)];simp[lj]
 simp only[u1,u2];unfold gF jR fq;rw[FD];simp only[Bool.true_or,if_true];rw[bQ (aA _)];simp only[gJ,ja,du,eK,GI];cases c<;>rfl
theorem adi {Q:bw} {U:St} {c:Bool} {s1 s2:By} {k:Fu->St->AV->Bool->Out} (h:Wp Q λu=>k u (U++[aq.map [(.bool false,.str s2),(.bool true,.str s1)]]) (.str (if c then s1 else s2)) true):
  Wp Q λu=>nO true (U++[aq.map []]) U.length (.str s1) λU13=>nO false U13 U.length (.str s2) λU14=>gF ae 4 9 U14 (some U.length) (.bool c) λx15 b=>k u U14 x15 b:=by
 refine h.eq λu=>?_;have g (es:List (AV×AV)):(U++[aq.map es])[U.length]? =some (aq.map es):=by rw[bQ (aA _)];simp
 have st (es mE:List (AV×AV)):(U++[aq.map es]).set U.length (aq.map mE)=U++[aq.map mE]:=by rw[sd _ _ (aA _)];simp
 have u1 (f:St->Out):nO true (U++[aq.map []]) U.length (.str s1) f=f (U++[aq.map [(.bool true,.str s1)]]):=by
  unfold nO iO;rw[g,show mH true (some (aq.map []))=true from rfl];simp only[st,lj,fx];rfl
 have u2 (f:St->Out):nO false (U++[aq.map [(.bool true,.str s1)]]) U.length (.str s2) f=f (U++[aq.map [(.bool false,.str s2),(.bool true,.str s1)]]):=by
  unfold nO iO;rw[g,show mH false (some (aq.map [(.bool true,.str s1)]))=true from rfl];simp only[st,lj];rfl
 simp only[u1,u2];unfold gF jR fq;rw[FD];simp only[Bool.true_or,if_true];rw[g];simp only[du,eK,GI];cases c<;>rfl
theorem Sm.uP {t:List Node}:∀(l:List Sm) (b:Nat),cN t b (Sm.cR b l)->∀(j:Nat) (x:Sm),l[j]? =some x->∃bj,cN t bj (x.flat bj)/\(Sm.roots b l)[j]? =some (bj+x.size-1)
 | [],b,h,j,x,hj=>by simp at hj
 |y::l,b,h,0,x,hj=>by
  simp only[ja,dP]at hj;subst hj;exact⟨b,h.app.1,rfl⟩
 |y::l,b,h,j+1,x,hj=>by
  rw[oY]at hj;have h2:=h.app.2;rw[Sm.bI]at h2;obtain⟨bj,h3,h4⟩:=Sm.uP l (b+y.size) h2 j x hj;exact⟨bj,h3,by simp only[Sm.roots,oY];exact h4⟩
theorem Sm.Cb:∀{l:List Sm} {x:Sm},x∈l->x.size<=Sm.aB l
 |y::l,x,h=>by
  cases h with
  |head=>simp[Sm.aB]
  |tail _ h=>have:=Sm.Cb h;simp[Sm.aB];omega
theorem Sm.qL:∀(l:List Sm) (b:Nat),(Sm.roots b l).length=l.length
 | [],b=>rfl
 |x::l,b=>by simp[Sm.roots,Sm.qL l]
theorem Sm.vE:∀(l:List Sm),l.length<=Sm.aB l
 | []=>by simp[Sm.aB]
 |x::l=>by have:=Sm.vE l;have:=Sm.size_pos x;simp[Sm.aB];omega
theorem Sm.Bd {len a:Nat}:∀{l:List Sm},Sm.fm len a l->∀x∈l,x.aL len
 |y::l,h,x,hx=>by
  cases hx with
  |head=>exact h.1
  |tail _ hx=>exact Sm.Bd h.2.2 x hx
theorem Sm.Bh:∀{l:List Sm} {x:Sm},x∈l->x.dq=true->Sm.pj l=true
 |y::l,x,h,hx=>by
  cases h with
  |head=>simp[Sm.pj,hx]
  |tail _ h=>simp[Sm.pj,Sm.Bh h hx]
def Sm.root (b:Nat):Sm->Node
 | .expr a x=>⟨10,a,[],0,0,[b+x.size-1]⟩
 | .set x y=>⟨11,x.at_,[],0,0,[b+x.size-1,b+x.size+y.size-1]⟩
 | .if1 t c a=>⟨12,t,[],0,0,[b+c.size-1,b+c.size+a.size-1]⟩
 | .if2 t c a e=>⟨12,t,[],0,0,[b+c.size-1,b+c.size+a.size-1,b+c.size+a.size+e.size-1]⟩
 | .while t c a=>⟨13,t,[],0,0,[b+c.size-1,b+c.size+a.size-1]⟩
 | .ret t x=>⟨14,t,[],0,0,[b+x.size-1]⟩
 | .brk t=>⟨15,t,[],0,0,[]⟩
 | .next t=>⟨16,t,[],0,0,[]⟩
 | .block t l=>⟨17,t,[],0,0,Sm.roots b l⟩
 | .var t s ty=>⟨18,t,s,0,ty,[]⟩
 | .vari t s ty x=>⟨18,t,s,0,ty,[b+x.size-1]⟩
theorem Sm.xw {t:List Node} {e:Sm} {b:Nat} (h:cN t b (e.flat b)):t[b+e.size-1]? =some (e.root b):=by
 have key {s:List Node} {nd:Node} {n:Nat} (h:cN t b (s++[nd])) (hs:s.length=n) (hn:e.size=n+1):t[b+e.size-1]? =some nd:=by
  rw[hn,show b+(n+1)-1=b+n from by omega];exact kH h hs
 cases e
 case brk=>exact h.one
 case next=>exact h.one
 case var=>exact h.one
 all_goals exact key h rfl (by simp[Sm.size,Ex.bI,Sm.bI,Sm.fk];try omega)
section
variable {U0 U τ:St} {fr:Fr} {w tb n0 i k:Nat} {tv kv:AV} {l:By} {Q:bw} {t:List Node} {c2:On} {y z:Node}
def FU (U0:St) (w:Nat) (tv:AV) (e:Sm) (x:Nat):Prop:=∀fr U l,Pw U0 fr U w tv l->(l++e.pr).length<=1000000000->Fw ae Lb 78 [.ptr (some (w,0)),.int .i64 (x:Int)] U (kU U0 fr w tv (l++e.pr))
theorem Jg {x:Nat} {s:By} {ty:Int} (hs:Src U0 tb t) (hx:t[x]? =some y) (eH:y.m=ty) (htx:y.text=s) (h:Pw U0 fr U w (.slice (some (tb,0)) t.length c2 6) l) (hl:(l++mU ty s).length<=1000000000):
  Fw ae Lb 77 [.ptr (some (w,0)),.int .i64 (x:Int)] U (kU U0 fr w (.slice (some (tb,0)) t.length c2 6) (l++mU ty s)):=by
 subst eH;subst htx;have pK:=(bl.1 hx).1;obtain⟨kv,bh,kA⟩:=hs.rH hx;obtain⟨_,nI⟩:=kA _ h.up;obtain⟨ka,kc,kz,rfl⟩:=bh.slice;refine ZJ ?_;simp only[an,h.tree,aS,aU,bm (show(0:Int)<=(x:Int)/\(x:Int)<(t.length:Int)from⟨by omega,by omega⟩),nI,bK,bc,ag,aG,aZ];unfold mU at hl|-;refine Wp.ite (λh1=>?_) λh1=>Wp.ite (λh3=>?_) λh3=>?_
 ·rw[if_pos (by simpa using h1)]at hl|-;exact h.put [[105,110,116],y.text] rfl rfl rfl (by simp) (by simpa using hl) λU' h3=>Wp.ret ⟨rfl,by simpa using h3⟩
 ·rw[if_neg (by simpa using h1),if_pos (by simpa using h3)]at hl|-;exact h.put [[105,110,116],[42],y.text] rfl rfl rfl (by simp) (by simpa using hl) λU' h3=>Wp.ret ⟨rfl,by simpa using h3⟩
 ·rw[if_neg (by simpa using h1),if_neg (by simpa using h3)]at hl|-;exact h.put [[99,104,97,114],[42],y.text] rfl rfl rfl (by simp) (by simpa using hl) λU' h3=>Wp.ret ⟨rfl,by simpa using h3⟩
theorem afZ {ls:List Sm} {ks:List Nat} (hlen:ls.length=ks.length) (eW:ks.length<=1000000) (bh:fu U0 kv ks) {a:Ad} {n z:Nat} {c:On} (he:kv=.slice a n c z)
  (bX:∀(j k:Nat) (x:Sm),ks[j]? =some k->ls[j]? =some x->FU U0 w tv x k):
  ∀(k i:Nat) {l:By} {U:St},i+k=ks.length->Pw U0 fr U w tv l->(l++Sm.fN (ls.drop i)++aK [125]).length<=1000000000->
  Wp (kU U0 fr w tv (l++Sm.fN (ls.drop i)++aK [125])) λu=>A8 u.n u.m1 (some (w,0)) a n c z n i U:=by
 intro k
 induction k with
 |zero=>
  intro i l U hi h hl;obtain⟨_,_,_,bW⟩:=bh.slice;rw[bW]at he;cases he;refine Oj ?_;refine Wp.neg (by rw[decide_eq_false_iff_not];omega) ?_;refine ZL ?_;rw[jB (by omega)]at hl|-;simp only[Sm.fN,cg]at hl|-;exact h.put [[125]] rfl rfl rfl (by simp) (by simpa using hl) λU' h3=>Wp.ret ⟨rfl,by simpa using h3⟩
 |succ k ih=>
  intro i l U hi h hl;obtain⟨x,hx⟩:∃x,ks[i]? =some x:=⟨ks[i],bk (by omega)⟩
  obtain⟨o,ho⟩:∃o,ls[i]? =some o:=⟨ls[i],bk (by omega)⟩
  obtain⟨b,c',dE,cw⟩:=bh.eg hx;rw[dE]at he;cases he;have hw:ah .i64 ((i:Int)+1)=((i+1:Nat):Int):=by rw[wrap64 (by omega) (by omega)];omega
  rw[drop_cons ho]at hl|-;simp only[Sm.fN]at hl|-;rw[<-aO]at hl|-;refine Oj ?_;simp only[an,aU,kF (h.up.cells cw) hx,ag,hw,bm (show(0:Int)<=(i:Int)/\(i:Int)<(ks.length:Int)from⟨by omega,by omega⟩)];refine Wp.pos (by rw[decide_eq_true_eq];omega) ?_;refine Wp.call (bX i x o hx ho _ _ _ h (by simp only[az]at hl|-;omega)) (λv U' hv=>?_) λv U' hv=>by cases hv.1
  exact ih (i+1) (by omega) hv.2 hl
theorem Gt {c:Ex} {a:Sm} {kc ka:Nat} {y:Node} {word:By} {tail:By} {n:Nat} {K:Fu->St->Out} (hlen:y.kids.length=n) (hn:2<=n) (dD:y.kids[0]? =some kc) (gh:y.kids[1]? =some ka)
  {kb:Nat} (cw:aF U0 kb=some (gE y.kids)) (hC:Co U0 w tv c kc) (hA:FU U0 w tv a ka)
  (h:Pw U0 fr U w tv l) (hl:(l++(aK word++aK [40]++c.pr++aK [41]++a.pr++tail)).length<=1000000000)
  (hK:∀U',Pw U0 fr U' w tv (l++(aK word++aK [40]++c.pr++aK [41]++a.pr))->Wp Q λu=>K u U'):
  Wp Q λu=>cW ae Lb u.n 74 [.ptr (some (w,0)),.slice (some (U.length,0)) 2 (some 2) 1] (U++[aq.cells [.str word,.str [40]] (.rw (.row 9))]) λ_ U18=>
   ao (0:Int) n<|ar 1 1<|aI ae 3 U18 kb (0+0) λx22=>gY .i64 x22 λi23=>
   cW ae Lb u.n 102 [.ptr (some (w,0)),.int .i64 i23] U18 λ_ U24=>
   cW ae Lb u.n 74 [.ptr (some (w,0)),.slice (some (U24.length,0)) 1 (some 1) 1] (U24++[aq.cells [.str [41]] (.rw (.row 9))]) λ_ U26=>
   ao (1:Int) n<|ar 1 1<|aI ae 3 U26 kb (0+1) λx30=>gY .i64 x30 λi31=>
   cW ae Lb u.n 78 [.ptr (some (w,0)),.int .i64 i31] U26 λ_ U32=>K u U32:=by
 simp only[az]at hl;refine h.put [word,[40]] rfl rfl rfl (by simp) (by simp only[eU,iz,cg,az];omega) λU1 h1=>?_;simp only[bm (show(0:Int)<=0/\(0:Int)<(n:Int)from⟨by omega,by omega⟩),aU,vm (h1.up.cells cw) dD,ag];refine Wp.call (hC _ _ _ h1 (by simp only[eU,iz,cg,az];omega)) (λv U2 hv=>?_) λv U' hv=>by cases hv.1
 refine hv.2.put [[41]] rfl rfl rfl (by simp) (by simp only[eU,iz,cg,az];omega) λU3 h3=>?_;simp only[bm (show(0:Int)<=1/\(1:Int)<(n:Int)from⟨by omega,by omega⟩),aU,EW (h3.up.cells cw) gh,ag];refine Wp.call (hA _ _ _ h3 (by simp only[eU,iz,cg,az];omega)) (λv U4 hv=>?_) λv U' hv=>by cases hv.1
 refine hK U4 ?_;have:=hv.2;simpa[aO]using this
theorem afU (hs:Src U0 tb t) (dr:t.length<=4096) (len:Nat):∀(N:Nat) (e:Sm) (b:Nat),e.size<=N->e.aL len->cN t b (e.flat b)->(e.dq=true->xV)->FU U0 w (.slice (some (tb,0)) t.length c2 6) e (b+e.size-1):=by
 intro N
 induction N with
 |zero=>intro e b hN;have:=Sm.size_pos e;omega
 |succ N ih=>
  intro e b hN hg fM hq fr U l h hl;refine ZK ?_;have iK:=Sm.xw fM;have pK:=(bl.1 iK).1;have abA:=Sm.size_pos e;obtain⟨kv,bh,kA⟩:=hs.rH iK;obtain⟨_,nI⟩:=kA _ h.up;obtain⟨ka,kc,kz,fR⟩:=bh.slice;simp only[an,h.tree,aS,aU,bm (show(0:Int)<=((b+e.size-1:Nat):Int)/\((b+e.size-1:Nat):Int)<(t.length:Int)from⟨by omega,by omega⟩),nI,bK,bc,ag,aG,aZ,fR];have EX {x:Ex} {bx:Nat} (yH:x.aL len) (pH:cN t bx (x.flat bx)) (hqx:x.dq=true->xV):Co U0 w (.slice (some (tb,0)) t.length c2 6) x (bx+x.size-1):=V4 hs dr len x.size x bx (aA _) yH pH hqx;cases e with
  |block a ls=>
   refine Wp.pos rfl ?_;have jK:(Sm.block a ls).pr=aK [123]++(Sm.fN ls++aK [125]):=by simp[Sm.pr]
   rw[jK,<-aO,<-aO]at hl|-;refine h.put [[123]] rfl rfl rfl (by simp) (by simp only[eU,iz,cg,az]at hl|-;omega) λU1 h1=>?_;simp only[eU,iz,cg]at h1;have iM:ls.length<=1000000:=by have:=Sm.vE ls;simp only[Sm.size]at pK;omega
   have h0:=afZ (ls:=ls) (fr:=fr) (ks:=Sm.roots b ls) (Sm.qL ls b).symm (by rw[Sm.qL];exact iM) bh fR (λj k x hk hx=>by
    obtain⟨bj,BI,hr⟩:=Sm.uP ls b fM.app.1 j x hx;rw[hr]at hk;cases hk;have rD:=fF hx;exact ih x bj (by have:=Sm.Cb rD;simp only[Sm.size]at hN;omega) (Sm.Bd hg.2 x rD) BI λht=>hq (by simpa[Sm.dq]using Sm.Bh rD ht)) (Sm.roots b ls).length 0 (by omega) h1 hl
   rw[show((0:Nat):Int)=0 from rfl]at h0;exact Wp.cD (F:=λn m=>A8 n m (some (w,0)) ka (Sm.roots b ls).length kc kz (Sm.roots b ls).length 0 U1) h0
  |if1 a c x=>
   obtain⟨g1,g2,g3,g4,g5⟩:=hg;have dD:((Sm.if1 a c x).root b).kids[0]? =some (b+c.size-1):=rfl;have gh:((Sm.if1 a c x).root b).kids[1]? =some (b+c.size+x.size-1):=rfl;obtain⟨kb,c',dE,cw⟩:=bh.eg dD;rw[dE]at fR;cases fR;have hC:=EX g2 fM.app.1.app.1 λht=>hq (by simp[Sm.dq,ht]);have hX:=ih x (b+c.size) (by simp only[Sm.size]at hN;omega) g4 (by have:=fM.app.1.app.2;rwa [Ex.bI]at this) λht=>hq (by simp[Sm.dq,ht]);refine Wp.neg rfl (Wp.pos rfl ?_);refine Og ?_;refine IV λU1 hu=>?_;simp only[aG,an];have h1:=h.grow hu;refine Gt (word:=[105,102]) (tail:=[]) (y:=(Sm.if1 a c x).root b) (n:=2) rfl (by decide) dD gh cw hC hX h1 (by simpa[Sm.pr]using hl) λU2 h2=>?_;exact Wp.neg (by rfl) (Wp.ret ⟨rfl,by simpa[Sm.pr]using h2⟩)
  |if2 a c x e=>
   obtain⟨g1,g2,g3,g4,g5,g6,g7,g8⟩:=hg;have dD:((Sm.if2 a c x e).root b).kids[0]? =some (b+c.size-1):=rfl;have gh:((Sm.if2 a c x e).root b).kids[1]? =some (b+c.size+x.size-1):=rfl;have gi:((Sm.if2 a c x e).root b).kids[2]? =some (b+c.size+x.size+e.size-1):=rfl;obtain⟨kb,c',dE,cw⟩:=bh.eg dD;rw[dE]at fR;cases fR;have hC:=EX g2 fM.app.1.app.1.app.1 λht=>hq (by simp[Sm.dq,ht]);have hX:=ih x (b+c.size) (by simp only[Sm.size]at hN;omega) g4 (by have:=fM.app.1.app.1.app.2;rwa [Ex.bI]at this) λht=>hq (by simp[Sm.dq,ht]);have hE:=ih e (b+c.size+x.size) (by simp only[Sm.size]at hN;omega) g6 (by have:=fM.app.1.app.2;rwa [az,Ex.bI,Sm.bI,<-Nat.add_assoc]at this) λht=>hq (by simp[Sm.dq,ht]);refine Wp.neg rfl (Wp.pos rfl ?_);refine Og ?_;refine IV λU1 hu=>?_;simp only[aG,an];have h1:=h.grow hu;have fp:=hl;simp only[Sm.pr,az]at fp;refine Gt (word:=[105,102]) (tail:=aK [101,108,115,101]++e.pr) (y:=(Sm.if2 a c x e).root b) (n:=3) rfl (by decide) dD gh cw hC hX h1 (by simpa[Sm.pr]using hl) λU2 h2=>?_;refine Wp.pos (by rfl) ?_;refine h2.put [[101,108,115,101]] rfl rfl rfl (by simp) (by simp only[eU,iz,cg,az];omega) λU3 h3=>?_;have ld2 (f:AV->Out):aI ae 3 U3 kb (0+2) f=f (.int .i64 ((b+c.size+x.size+e.size-1:Nat):Int)):=cq (h3.up.cells cw) fA (by simp[gE,Sm.root]);simp only[bm (show(0:Int)<=2/\(2:Int)<((3:Nat):Int)from by decide),aU,ld2,ag];refine Wp.call (hE _ _ _ h3 (by simp only[eU,iz,cg,az];omega)) (λv U4 hv=>?_) λv U' hv=>by cases hv.1
   exact Wp.ret ⟨rfl,by have:=hv.2;simpa[Sm.pr]using this⟩
  |«while» a c x=>
   obtain⟨g1,g2,g3,g4,g5⟩:=hg;have dD:((Sm.while a c x).root b).kids[0]? =some (b+c.size-1):=rfl;have gh:((Sm.while a c x).root b).kids[1]? =some (b+c.size+x.size-1):=rfl;obtain⟨kb,c',dE,cw⟩:=bh.eg dD;rw[dE]at fR;cases fR;have hC:=EX g2 fM.app.1.app.1 λht=>hq (by simp[Sm.dq,ht]);have hX:=ih x (b+c.size) (by simp only[Sm.size]at hN;omega) g4 (by have:=fM.app.1.app.2;rwa [Ex.bI]at this) λht=>hq (by simp[Sm.dq,ht]);refine Wp.neg rfl (Wp.neg rfl ?_);refine uN ?_;refine Wp.pos rfl ?_;refine IV λU1 hu=>?_;simp only[aG,an];have h1:=h.grow hu;refine Gt (word:=[119,104,105,108,101]) (tail:=[]) (y:=(Sm.while a c x).root b) (n:=2) rfl (by decide) dD gh cw hC hX h1 (by simpa[Sm.pr]using hl) λU2 h2=>?_;exact Wp.neg (by rfl) (Wp.ret ⟨rfl,by simpa[Sm.pr]using h2⟩)
  |ret a x=>
   have dD:((Sm.ret a x).root b).kids[0]? =some (b+x.size-1):=rfl;obtain⟨kb,c',dE,cw⟩:=bh.eg dD;rw[dE]at fR;cases fR;have hX:=EX hg.2.1 fM.app.1 λht=>hq (by simp[Sm.dq,ht]);have fp:=hl;simp only[Sm.pr,az]at fp;refine Wp.neg rfl (Wp.neg rfl ?_);refine uN ?_;simp only[an];refine Wp.neg rfl (Wp.pos rfl ?_);refine h.put [[114,101,116,117,114,110]] rfl rfl rfl (by simp) (by simp only[eU,iz,cg,az];omega) λU1 h1=>?_;simp only[bm (show(0:Int)<=0/\(0:Int)<((1:Nat):Int)from by decide),aU,vm (h1.up.cells cw) dD,ag];refine Wp.call (hX _ _ _ h1 (by simp only[eU,iz,cg,az];omega)) (λv U2 hv=>?_) λv U' hv=>by cases hv.1
   exact hv.2.put [[59]] rfl rfl rfl (by simp) (by simp only[eU,iz,cg,az];omega) λU3 h3=>Wp.ret ⟨rfl,by simpa[Sm.pr]using h3⟩
  |brk a=>
   refine Wp.neg rfl (Wp.neg rfl ?_);refine uN ?_;refine Wp.neg rfl (Wp.neg rfl (Wp.pos rfl ?_));exact h.put [[98,114,101,97,107],[59]] rfl rfl rfl (by simp) (by simpa[Sm.pr]using hl) λU3 h3=>Wp.ret ⟨rfl,by simpa[Sm.pr]using h3⟩
  |next a=>
   refine Wp.neg rfl (Wp.neg rfl ?_);refine uN ?_;refine Wp.neg rfl (Wp.neg rfl (Wp.neg rfl (Wp.pos rfl ?_)));exact h.put [[99,111,110,116,105,110,117,101],[59]] rfl rfl rfl (by simp) (by simpa[Sm.pr]using hl) λU3 h3=>Wp.ret ⟨rfl,by simpa[Sm.pr]using h3⟩
  |var a s ty=>
   have fp:=hl;simp only[Sm.pr,az]at fp;refine Wp.neg rfl (Wp.neg rfl ?_);refine uN ?_;refine Wp.neg rfl (Wp.neg rfl (Wp.neg rfl (Wp.neg rfl (Wp.pos rfl ?_))));refine Wp.call (Jg (s:=s) (ty:=ty) hs iK rfl rfl h (by simp only[az];omega)) (λv U1 hv=>?_) λv U' hv=>by cases hv.1
   refine Wp.neg (by rfl) ?_;exact hv.2.put [[59]] rfl rfl rfl (by simp) (by simpa[Sm.pr]using hl) λU3 h3=>Wp.ret ⟨rfl,by simpa[Sm.pr]using h3⟩
  |vari a s ty x=>
   have dD:((Sm.vari a s ty x).root b).kids[0]? =some (b+x.size-1):=rfl;obtain⟨kb,c',dE,cw⟩:=bh.eg dD;rw[dE]at fR;cases fR;have hX:=EX hg.2.2.2.1 fM.app.1 λht=>hq (by simp[Sm.dq,ht]);have fp:=hl;simp only[Sm.pr,az]at fp;refine Wp.neg rfl (Wp.neg rfl ?_);refine uN ?_;simp only[an];refine Wp.neg rfl (Wp.neg rfl (Wp.neg rfl (Wp.neg rfl (Wp.pos rfl ?_))));refine Wp.call (Jg (s:=s) (ty:=ty) hs iK rfl rfl h (by simp only[az];omega)) (λv U1 hv=>?_) λv U' hv=>by cases hv.1
   refine Wp.pos (by rfl) ?_;refine hv.2.put [[61]] rfl rfl rfl (by simp) (by simp only[eU,iz,cg,az];omega) λU2 h2=>?_;simp only[bm (show(0:Int)<=0/\(0:Int)<((1:Nat):Int)from by decide),aU,vm (h2.up.cells cw) dD,ag];refine Wp.call (hX _ _ _ h2 (by simp only[eU,iz,cg,az];omega)) (λv U3 hv=>?_) λv U' hv=>by cases hv.1
   exact hv.2.put [[59]] rfl rfl rfl (by simp) (by simp only[eU,iz,cg,az];omega) λU3 h3=>Wp.ret ⟨rfl,by simpa[Sm.pr]using h3⟩
  |set x y=>
   have dD:((Sm.set x y).root b).kids[0]? =some (b+x.size-1):=rfl;have gh:((Sm.set x y).root b).kids[1]? =some (b+x.size+y.size-1):=rfl;obtain⟨kb,c',dE,cw⟩:=bh.eg dD;rw[dE]at fR;cases fR;have hX:=EX hg.1 fM.app.1.app.1 λht=>hq (by simp[Sm.dq,ht]);have hY:=EX (bx:=b+x.size) hg.2.1 (by have:=fM.app.1.app.2;rwa [Ex.bI]at this) λht=>hq (by simp[Sm.dq,ht]);have fp:=hl;simp only[Sm.pr,az]at fp;refine Wp.neg rfl (Wp.neg rfl ?_);refine uN ?_;simp only[an];refine Wp.neg rfl (Wp.neg rfl (Wp.neg rfl (Wp.neg rfl (Wp.neg rfl (Wp.pos rfl ?_)))));simp only[bm (show(0:Int)<=0/\(0:Int)<((2:Nat):Int)from by decide),aU,vm (h.up.cells cw) dD,ag];refine Wp.call (hX _ _ _ h (by simp only[az];omega)) (λv U1 hv=>?_) λv U' hv=>by cases hv.1
   refine hv.2.put [[61]] rfl rfl rfl (by simp) (by simp only[eU,iz,cg,az];omega) λU2 h2=>?_;simp only[bm (show(0:Int)<=1/\(1:Int)<((2:Nat):Int)from by decide),aU,EW (h2.up.cells cw) gh,ag];refine Wp.call (hY _ _ _ h2 (by simp only[eU,iz,cg,az];omega)) (λv U3 hv=>?_) λv U' hv=>by cases hv.1
   exact hv.2.put [[59]] rfl rfl rfl (by simp) (by simp only[eU,iz,cg,az];omega) λU3 h3=>Wp.ret ⟨rfl,by simpa[Sm.pr]using h3⟩
  |expr a x=>
   have dD:((Sm.expr a x).root b).kids[0]? =some (b+x.size-1):=rfl;obtain⟨kb,c',dE,cw⟩:=bh.eg dD;rw[dE]at fR;cases fR;have hX:=EX hg.2.1 fM.app.1 λht=>hq (by simp[Sm.dq,ht]);have fp:=hl;simp only[Sm.pr,az]at fp;refine Wp.neg rfl (Wp.neg rfl ?_);refine uN ?_;simp only[an];refine Wp.neg rfl (Wp.neg rfl (Wp.neg rfl (Wp.neg rfl (Wp.neg rfl (Wp.neg rfl (Wp.pos rfl ?_))))));simp only[bm (show(0:Int)<=0/\(0:Int)<((1:Nat):Int)from by decide),aU,vm (h.up.cells cw) dD,ag];refine Wp.call (hX _ _ _ h (by simp only[az];omega)) (λv U1 hv=>?_) λv U' hv=>by cases hv.1
   exact hv.2.put [[59]] rfl rfl rfl (by simp) (by simpa[Sm.pr]using hl) λU3 h3=>Wp.ret ⟨rfl,by simpa[Sm.pr]using h3⟩
end
end Go.Front
end
section
set_option maxRecDepth 100000
namespace Go.Front
open Go.AM Go.Proofs
theorem Dc.uP {t:List Node}:∀(l:List Dc) (b:Nat),cN t b (Dc.cR b l)->∀(j:Nat) (x:Dc),l[j]? =some x->∃bj,cN t bj (x.flat bj)/\(Dc.roots b l)[j]? =some (bj+x.size-1)
 | [],b,h,j,x,hj=>by simp at hj
 |y::l,b,h,0,x,hj=>by
  simp only[ja,dP]at hj;subst hj;exact⟨b,h.app.1,rfl⟩
 |y::l,b,h,j+1,x,hj=>by
  rw[oY]at hj;have h2:=h.app.2;rw[Dc.bI]at h2;obtain⟨bj,h3,h4⟩:=Dc.uP l (b+y.size) h2 j x hj;exact⟨bj,h3,by simp only[Dc.roots,oY];exact h4⟩
theorem Dc.qL:∀(l:List Dc) (b:Nat),(Dc.roots b l).length=l.length
 | [],b=>rfl
 |x::l,b=>by simp[Dc.roots,Dc.qL l]
theorem Dc.vE:∀(l:List Dc),l.length<=Dc.aB l
 | []=>by simp[Dc.aB]
 |x::l=>by have:=Dc.vE l;have:=Dc.size_pos x;simp[Dc.aB];omega
theorem fu.cap {U:St} {b n z:Nat} {c:On} {ks:List Nat} (h:fu U (.slice (some (b,0)) n c z) ks):∀x,c=some x->ks.length<=x:=by
 cases h with
 |one b c hc hb=>exact hc
section
variable {U0 U τ:St} {fr:Fr} {w tb n0 i k:Nat} {tv kv:AV} {l:By} {Q:bw} {t:List Node} {c2:On} {y z:Node}
def Kd (U0:St) (w:Nat) (tv:AV) (e:Dc) (x:Nat):Prop:=∀fr U l,Pw U0 fr U w tv l->(l++e.pr).length<=1000000000->Fw ae Lb 33 [.ptr (some (w,0)),.int .i64 (x:Int)] U (kU U0 fr w tv (l++e.pr))
theorem Vw (hs:Src U0 tb t) (dr:t.length<=4096) (len:Nat) (e:Dc) (b:Nat) (hg:e.aL len) (fM:cN t b (e.flat b)) (hq:e.dq=true->xV):Kd U0 w (.slice (some (tb,0)) t.length c2 6) e (b+e.size-1):=by
 intro fr U l h hl;refine YD ?_;cases e with
 |array a s ty v=>
  obtain⟨_,kC,eH,Ie,ef⟩:=hg;have iK:t[b+(Dc.array a s ty v).size-1]? =some ⟨21,a,s,v,ty,[]⟩:=fM.one;have pK:=(bl.1 iK).1;obtain⟨kv,bh,kA⟩:=hs.rH iK;obtain⟨_,nI⟩:=kA _ h.up;obtain⟨ka,kc,kz,rfl⟩:=bh.slice;simp only[an,h.tree,aS,aU,bm (show(0:Int)<=((b+(Dc.array a s ty v).size-1:Nat):Int)/\((b+(Dc.array a s ty v).size-1:Nat):Int)<(t.length:Int)from⟨by omega,by omega⟩),nI,bK,bc,ag,aG,aZ];refine Wp.neg rfl (Wp.pos rfl (adi ?_));have Py:=h.kn.up h.up;have hlen:=Py.len;simp only[aG];refine Wp.ap (λp hp=>?_) (OV (Py.app _) ⟨by omega,by omega⟩ ?_)
  ·simp only[bS,ec,or_false,or_self]at hp;subst hp;simp only;omega
  simp only[aG];refine Wp.keeps (λp hp=>?_) ?_
  ·simp only[bS,ec,or_false]at hp;subst hp;exact bO (show 1<U.length by omega)
  have jK:(Dc.array a s ty v).pr=([if(ty==2)=true then[99,104,97,114]else[105,110,116],s,[91],iZ v,[93],[59]]:List (By)).flatMap aK:=by
   rcases eH with rfl|rfl<;>simp[Dc.pr]
  rw[jK]at hl|-;exact(h.grow (Up.app _)).B5 [if(ty==2)=true then[99,104,97,114]else[105,110,116],s,[91],iZ v,[93],[59]] rfl rfl rfl (by simp) hl λU3 h3=>Wp.ret ⟨rfl,h3⟩
 |var a s=>
  have iK:t[b+(Dc.var a s).size-1]? =some ⟨20,a,s,0,1,[]⟩:=fM.one;have pK:=(bl.1 iK).1;obtain⟨kv,bh,kA⟩:=hs.rH iK;obtain⟨_,nI⟩:=kA _ h.up;obtain⟨ka,kc,kz,rfl⟩:=bh.slice;simp only[an,h.tree,aS,aU,bm (show(0:Int)<=((b+(Dc.var a s).size-1:Nat):Int)/\((b+(Dc.var a s).size-1:Nat):Int)<(t.length:Int)from⟨by omega,by omega⟩),nI,bK,bc,ag,aG,aZ];refine Wp.pos rfl ?_;exact h.put [[105,110,116],s,[59]] rfl rfl rfl (by simp) (by simpa[Dc.pr]using hl) λU3 h3=>Wp.ret ⟨rfl,by simpa[Dc.pr]using h3⟩
 |fn a s ps bat ls=>
  obtain⟨g1,g2,g3,g4,g5,g6,g7⟩:=hg;have iK:t[b+(Dc.fn a s ps bat ls).size-1]? =some ⟨22,a,s,0,ps.length,(fy b ps.length)++[b+ps.length+Sm.aB ls]⟩:=by
   have:=kH fM (n:=ps.length+(Sm.aB ls+1)) (by simp[Sm.fk])
   rwa [show b+(ps.length+(Sm.aB ls+1))=b+(Dc.fn a s ps bat ls).size-1 from by simp only[Dc.size];omega]at this
  have pK:=(bl.1 iK).1;obtain⟨kv,bh,kA⟩:=hs.rH iK;obtain⟨_,nI⟩:=kA _ h.up;have uV:((fy b ps.length)++[b+ps.length+Sm.aB ls])[ps.length]? =some (b+ps.length+Sm.aB ls):=by
   rw[bQ (by simp)];simp
  obtain⟨kb,c',dE,cw⟩:=bh.eg uV;have eW:((fy b ps.length)++[b+ps.length+Sm.aB ls]).length=ps.length+1:=by simp
  have gf:∀x,c'=some x->ps.length+1<=x:=by
   have PC:=bh;rw[dE]at PC;intro x hx;have:=PC.cap x hx;rw[<-eW];exact this
  have cm:ps.length+Sm.aB ls+2<=4096:=by simp only[Dc.size]at pK;omega
  subst dE;have fp:=hl;simp only[Dc.pr,az]at fp;simp only[an,h.tree,aS,aU,bm (show(0:Int)<=((b+(Dc.fn a s ps bat ls).size-1:Nat):Int)/\((b+(Dc.fn a s ps bat ls).size-1:Nat):Int)<(t.length:Int)from⟨by omega,by omega⟩),nI,bK,bc,ag,aG,aZ];refine Wp.neg rfl (Wp.neg rfl (Wp.pos rfl ?_));refine h.put [[105,110,116],s,[40]] rfl rfl rfl (by simp) (by simp only[eU,iz,cg,az];omega) λU1 h1=>?_;have BG (f:Ad->Nat->On->Out):tH (some (kb,0)) ((fy b ps.length)++[b+ps.length+Sm.aB ls]).length c' 1 1 (0:Int) (ps.length:Int) f=f (some (kb,0)) ps.length c':=by
   have hle:(ps.length:Int)<=((c'.getD ((fy b ps.length)++[b+ps.length+Sm.aB ls]).length:Nat):Int):=by
    cases c' with
    |none=>simp only[Option.getD_none];omega
    |some x=>simp only[qb];have:=gf x rfl;omega
   unfold tH;simp only;rw[if_pos trivial,if_pos ⟨by omega,by omega,hle⟩];cases c'<;>simp
  simp only[BG];have mO:cN t b (ps.map mf):=fM.app.1.app.1;have dN:KP U0 (.slice (some (kb,0)) ps.length c' 1) (fy b ps.length):=by
   refine⟨⟨_,_,_,by rw[List.length_range']⟩,λi x hx=>⟨kb,c',by rw[List.length_range'],λU hu f=>?_⟩⟩;have hi:i<ps.length:=by have:=(bl.1 hx).1;simpa using this
   refine kF (hu.cells cw) ?_ f;rw[bO (by simpa using hi)];exact hx
  have aa1:=LH (f:=77) (fr:=fr) (ks:=fy b ps.length) (outs:=ps.map λp=>mU p.2.2 p.2.1) (U0:=U0) (w:=w) (tv:=.slice (some (tb,0)) t.length c2 6) (by simp) (by rw[List.length_range'];omega) dN (λj k out hk ho ed U' l' hp fp=>by
   rw[gI]at ho;obtain⟨p,Eo,rfl⟩:=my.1 ho;have hj:j<ps.length:=(bl.1 Eo).1;have nE:k=b+j:=by rw[List.getElem?_range' hj]at hk;simpa using hk.symm
   subst nE;exact Jg (y:=mf p) hs (mO j _ (by rw[gI,Eo];rfl)) rfl rfl hp fp) h1 (by simp only[eU,iz,cg,az];omega)
  refine Wp.call aa1 (λv U2 hv=>?_) λv U' hv=>by cases hv.1
  refine hv.2.put [[41]] rfl rfl rfl (by simp) (by simp only[eU,iz,cg,az];omega) λU3 h3=>?_;simp only[bm (show(0:Int)<=(ps.length:Int)/\(ps.length:Int)<(((fy b ps.length)++[b+ps.length+Sm.aB ls]).length:Int)from⟨by omega,by omega⟩),kF (h3.up.cells cw) uV,ag];have wR:cN t (b+ps.length) ((Sm.block bat ls).flat (b+ps.length)):=by have:=fM.app.1.app.2;rwa [lz]at this
  have hB:=afU (w:=w) (c2:=c2) hs dr len (Sm.block bat ls).size (.block bat ls) (b+ps.length) (aA _) ⟨g5,g6⟩ wR hq;rw[show b+ps.length+(Sm.block bat ls).size-1=b+ps.length+Sm.aB ls from by simp only[Sm.size];omega]at hB;refine Wp.call (hB _ _ _ h3 (by simp only[Sm.pr,eU,iz,cg,az];omega)) (λv U4 hv=>?_) λv U' hv=>by cases hv.1
  exact Wp.ret ⟨rfl,by have:=hv.2;simpa[Dc.pr,Sm.pr]using this⟩
theorem VE {ls:List Dc} {ks:List Nat} (hlen:ls.length=ks.length) (eW:ks.length<=1000000) (bh:fu U0 kv ks) {a:Ad} {n z:Nat} {c:On} (he:kv=.slice a n c z) {N:Nat}
  (bX:∀(j k:Nat) (x:Dc),ks[j]? =some k->ls[j]? =some x->Kd U0 w tv x k)
  (hK:∀U',Pw U0 fr U' w tv (eM ls)->Wp Q λu=>G7 u.n (some (tb,0)) N c2 6 [] 0 w 0 U') (ahB:(eM ls).length<=1000000000):
  ∀(k i:Nat) {U:St},i+k=ks.length->Pw U0 fr U w tv (eM (ls.take i))->
  Wp Q λu=>AD u.n u.m1 (some (tb,0)) N c2 6 [] 0 w 0 a n c z n i U:=by
 intro k
 induction k with
 |zero=>
  intro i U hi h;obtain⟨_,_,_,bW⟩:=bh.slice;rw[bW]at he;cases he;refine MR ?_;refine Wp.neg (by rw[decide_eq_false_iff_not];omega) ?_;rw[o6 (by omega)]at h;exact hK U h
 |succ k ih=>
  intro i U hi h;obtain⟨x,hx⟩:∃x,ks[i]? =some x:=⟨ks[i],bk (by omega)⟩
  obtain⟨o,ho⟩:∃o,ls[i]? =some o:=⟨ls[i],bk (by omega)⟩
  obtain⟨b,c',dE,cw⟩:=bh.eg hx;rw[dE]at he;cases he;have hw:ah .i64 ((i:Int)+1)=((i+1:Nat):Int):=by rw[wrap64 (by omega) (by omega)];omega
  have fg:eM (ls.take (i+1))=eM (ls.take i)++o.pr:=by unfold eM;rw[uh,ho,List.flatMap_append];simp
  have hle:(eM (ls.take (i+1))).length<=(eM ls).length:=by
   have:eM ls=eM (ls.take (i+1))++eM (ls.drop (i+1)):=by unfold eM;rw[<-List.flatMap_append,List.take_append_drop]
   rw[this,az];omega
  refine MR ?_;simp only[an,aU,kF (h.up.cells cw) hx,ag,hw,bm (show(0:Int)<=(i:Int)/\(i:Int)<(ks.length:Int)from⟨by omega,by omega⟩)];refine Wp.pos (by rw[decide_eq_true_eq];omega) ?_;refine Wp.call (bX i x o hx ho _ _ _ h (by rw[<-fg];omega)) (λv U' hv=>?_) λv U' hv=>by cases hv.1
  refine ih (i+1) (by omega) ?_;rw[fg];exact hv.2
theorem aga (h:Pw U0 (D0 U0) U w tv l) (hl:l.length<=1000000000):Fw ae Lb 34 [.ptr (some (w,1))] U λr U'=>r=.ret (.str l)/\Up U0 U':=by
 rcases h.bu with⟨rfl,a,z,_,h2⟩|⟨g,h1,h2,h3,h4,h5⟩
 ·refine Fw.jP (r:=.ret (.str [])) (U':=U) ?_ ⟨rfl,h.up⟩;have hc:aF U w=some [tv,.ptr a,.slice none 0 (some 0) z]:=by unfold aF;rw[h2]
  simp only[Lb,xe,hc,oY,ja]
 ·refine Fw.jP (r:=.ret (.str l)) (U':=U.set g (.cells (bH l) .ro)) ?_ ⟨rfl,?_⟩
  ·have hc:aF U w=some [tv,.ptr (some (w,1)),.slice (some (g,0)) l.length none 1]:=by unfold aF;rw[h2]
   have h0:0<l.length:=List.length_pos_iff.2 h1;simp only[Lb,xe,hc,oY,ja];rw[if_pos ⟨trivial,h0,by omega⟩,h3];simp only;rw[if_pos ⟨trivial,by rw[lR];omega⟩,iy,o6 (by rw[lR];omega),Lm]
  ·have hg:U0.length<=g:=by
    unfold D0 at h5;rcases gu g U0.length with hl|hl
    ·rw[bk hl]at h5;cases h5
    ·exact hl
   exact⟨by simpa using h.up.len,λx hx=>by rw[aD (by omega)];exact h.up.same x hx⟩
def Jk (U0:St) (s:By):bw:=λr U'=>Up U0 U'/\r=.ret (if s.length>8192 then .tuple [.str [],.int .i64 15]else .tuple [.str s,.int .i64 0])
theorem aeN (mM:Kn U0) {ls:List Dc} {len:Nat} (hs:Src U0 tb (bJ ls)) (dr:(bJ ls).length<=4096) (hg:∀x∈ls,x.aL len) (hq:∀x∈ls,x.dq=true->xV) (jJ:(eM ls).length<=1000000000)
  {n:Nat} (hn:n<=1000000000) {nd2:List Node} (abv:qK (ai (eM ls)) (0:Nat) n=some (.ok nd2)) (td:(bJ ls).map Node.strip=nd2.map Node.strip):
  Fw ae Lb 17 [.slice (some (tb,0)) (bJ ls).length c2 6] U0 (Jk U0 (eM ls)):=by
 obtain⟨pz,yA,h23⟩:=KA ls hg;have dR:0<(bJ ls).length:=by simp[bJ]
 have iK:(bJ ls)[(bJ ls).length-1]? =some ⟨23,0,[],0,0,Dc.roots 0 ls⟩:=by
  have hl:(bJ ls).length-1=Dc.aB ls:=by simp[bJ,Dc.fk]
  rw[hl];have:=kH (t:=bJ ls) (b:=0) (cN.refl _) (Dc.fk ls 0)
  rwa [dI]at this
 refine Xl ?_;have hw:ah .i64 (((bJ ls).length:Int)-1)=(((bJ ls).length-1:Nat):Int):=by rw[wrap64 (by omega) (by omega)];omega
 simp only[hw];refine Wp.call (afx mM hs dr dR pz yA h23) (λv U1 hv=>?_) λv U' hv=>by cases hv.1
 obtain⟨hv,oI⟩:=hv;cases hv;simp only[bp];refine Wp.neg rfl ?_;have iL:=hs.up oI;have gh:=mM.up oI;obtain⟨kv,bh,kA⟩:=iL.rH iK;obtain⟨h32,_⟩:=kA _ (Up.app [aq.cells [.slice (some (tb,0)) (bJ ls).length c2 6,.ptr none,.slice none 0 (some 0) 0] (.rw (.box 94))]);obtain⟨ka,kc,kz,fR⟩:=bh.slice;simp only[an,aU,bm (show(0:Int)<=(((bJ ls).length-1:Nat):Int)/\(((bJ ls).length-1:Nat):Int)<((bJ ls).length:Int)from⟨by omega,by omega⟩),h32,fR,aS];have hP:Pw U1 (D0 U1) (U1++[aq.cells [.slice (some (tb,0)) (bJ ls).length c2 6,.ptr none,.slice none 0 (some 0) 0] (.rw (.box 94))]) U1.length (.slice (some (tb,0)) (bJ ls).length c2 6) (eM (ls.take 0)):=by
  refine⟨gh,λb o h=>h,λb o hb=>?_,fP (aA _),.inl ⟨rfl,none,0,.inl rfl,by rw[bQ (aA _)];simp⟩⟩;rw[bO (bB hb)];exact hb
 have wL:ls.length<=1000000:=by
  have:=Dc.vE ls;have hl:(bJ ls).length=Dc.aB ls+1:=by simp[bJ,Dc.fk]
  omega
 have h0:=VE (Q:=Jk U0 (eM ls)) (ls:=ls) (ks:=Dc.roots 0 ls) (fr:=D0 U1) (U0:=U1) (w:=U1.length) (tb:=tb) (c2:=c2) (N:=(bJ ls).length) (Dc.qL ls 0).symm (by rw[Dc.qL];exact wL) bh fR (λj k x hk hx=>by
  obtain⟨bj,BI,hr⟩:=Dc.uP (t:=bJ ls) ls 0 (cN.refl (bJ ls):cN (bJ ls) 0 (Dc.cR 0 ls++[⟨23,0,[],0,0,Dc.roots 0 ls⟩])).app.1 j x hx;rw[hr]at hk;cases hk;have rD:=fF hx;exact Vw iL dr len x bj (hg x rD) BI (hq x rD)) (λU2 h2=>?_) jJ (Dc.roots 0 ls).length 0 (by omega) hP
 ·rw[show((0:Nat):Int)=0 from rfl]at h0;exact Wp.cD (F:=λn m=>AD n m (some (tb,0)) (bJ ls).length c2 6 [] 0 U1.length 0 ka (Dc.roots 0 ls).length kc kz (Dc.roots 0 ls).length 0 _) h0
 ·refine Xm ?_;refine Wp.call (aga h2 jJ) (λv U3 hv=>?_) λv U' hv=>by cases hv.1
  obtain⟨hv,pJ⟩:=hv;cases hv;simp only[aG];refine Wp.call (agM (gh.up pJ) jJ hn abv) (λv U4 hv=>?_) λv U' hv=>by obtain⟨_,_,hv,_⟩:=hv;cases hv
  obtain⟨u7,v4,hv,fX⟩:=hv;cases hv;have bD:nd2≠[]:=by
   intro e;subst e;have:=congrArg List.length td;simp at this;rw[this]at dR;simp at dR
  obtain⟨tb2,c4,rfl,abC⟩:=fX.src bD;simp only[eY,bc,aS,bp,aZ];refine Wp.neg rfl ?_;have abg:∀x∈bJ ls,x.kids.length<=1000000000:=by
   intro x hx;obtain⟨i,hi⟩:=List.getElem?_of_mem hx;have pC:=(bl.1 hi).1;obtain⟨nd,hf⟩:=pz i (j9 _) (by omega);have e:nd=x:=by have:=hf.at_;rw[hi]at this;cases this;rfl
   subst e;have hle:∀y∈nd.kids.reverse,gb (wc ls) y<=y:=λy hy=>by
    obtain⟨h1,kd,h2,_⟩:=hf.kids y (List.mem_reverse.1 hy);obtain⟨E6,gQ⟩:=pz y (j9 _) (by omega);exact gQ.le
   have:=Gn _ _ _ hf.ch hle;rw[List.length_reverse]at this;omega
  refine Wp.call (afj (ca:=c2) (cb:=c4) (iL.up (pJ.trans u7)) abC td (by omega) abg) (λv U5 hv=>?_) λv U' hv=>by cases hv.1
  obtain⟨hv,rfl⟩:=hv;cases hv;simp only[bp];refine Wp.neg rfl ?_;have eu:Up U0 U5:=oI.trans (pJ.trans u7);refine Wp.ite (λhb=>?_) λhb=>?_
  ·have hb:(eM ls).length>8192:=by simp at hb;omega
   exact Wp.ret ⟨eu,by rw[if_pos hb]⟩
  ·have hb:¬(eM ls).length>8192:=by simp at hb;omega
   exact Wp.ret ⟨eu,by rw[if_neg hb]⟩
end
end Go.Front
end
section
set_option maxRecDepth 100000
namespace Go.Front
open Go.AM Go.Proofs
section
variable {Q:bw} {U U0:St} {s:By}
theorem mC {n:Nat} {c:UInt8} (h:s[n]? =some c) (f:UInt8->Out):cP s (n:Int) f=f c:=ib (by omega) (by simpa using h)
theorem xl {a b:Nat}:((a:Int) !=(b:Int))=(a !=b):=by rw[bne,bne,cL]
theorem qm {n:Nat} (h:s.length<=n):s.drop n=[]:=jB h
theorem head_drop {n:Nat}:(s.drop n).head? =s[n]?:=by rw[List.head?_drop]
theorem QJ (c:UInt8):Fw ae Lb 62 [.int .u8 c.toNat] U λr U'=>r=.ret (.bool (dK c))/\U'=U:=by
 refine Zf ?_;simp only[CT];have e95:((c.toNat:Int)==(95:Int))=(c.toNat==95):=cL (b:=95);refine(Wp.ret (Q:=λr U'=>r=.ret (.bool (dK c))/\U'=U) ⟨rfl,rfl⟩).eq λu=>?_;unfold dK;rw[e95];simp only[decide_eq_true_eq];by_cases h1:97<=c.toNat<;>by_cases h2:c.toNat<=122<;>by_cases h3:65<=c.toNat<;>by_cases h4:c.toNat<=90<;>
  simp[h1,h2,h3,h4,show((c.toNat:Int)>=97)=(97<=c.toNat)from propext (by omega),show((c.toNat:Int)<=122)=(c.toNat<=122)from propext (by omega),
   show((c.toNat:Int)>=65)=(65<=c.toNat)from propext (by omega),show((c.toNat:Int)<=90)=(c.toNat<=90)from propext (by omega)]
theorem Gz (c:UInt8):Fw ae Lb 63 [.int .u8 c.toNat] U λr U'=>r=.ret (.bool (isDigit c))/\U'=U:=by
 refine Zg ?_;simp only[CT];refine(Wp.ret (Q:=λr U'=>r=.ret (.bool (isDigit c))/\U'=U) ⟨rfl,rfl⟩).eq λu=>?_;unfold isDigit;simp only[decide_eq_true_eq];by_cases h1:48<=c.toNat<;>by_cases h2:c.toNat<=57<;>
  simp[h1,h2,show((c.toNat:Int)>=48)=(48<=c.toNat)from propext (by omega),show((c.toNat:Int)<=57)=(c.toNat<=57)from propext (by omega)]
def uw (s:By) (a:Nat) (U:St):bw:=λr U'=>U'=U/\r=.ret (.int .i64 ((skip false (s.drop a):Nat):Int))
theorem Gc {a n:Nat} {i3:Int} (hs:s.length<=1000000000) (ha:a<=n) (hn:n<=s.length) (hk:skip false (s.drop a)=n-a):Wp (uw s a U) λu=>wq u.n a i3 n U:=by
 refine Yl ?_;have hw:ah .i64 ((n:Int)-(a:Int))=((n-a:Nat):Int):=by rw[wrap64 (by omega) (by omega)];omega
 rw[hw];exact Wp.ret ⟨rfl,by rw[hk]⟩
theorem Uo {a:Nat} {i3:Int} (hs:s.length<=1000000000):∀(k n:Nat),n+k=s.length->
  (∀j,n<=j->j<=s.length->skip true (s.drop n)=(j-n)+skip false (s.drop j)->Wp (uw s a U) λu=>rh u.n u.m1 s a i3 j U)->
  Wp (uw s a U) λu=>AT u.n u.m1 u.m2 s a i3 n U:=by
 intro k
 induction k with
 |zero=>
  intro n hn hj;refine Hi ?_;exact Wp.neg (by rw[decide_eq_false_iff_not];omega) (hj n (aA _) (by omega) (by rw[qm (by omega)];simp[skip]))
 |succ k ih=>
  intro n hn hj;obtain⟨c,hc⟩:∃c,s[n]? =some c:=⟨s[n],bk (by omega)⟩
  have hw:ah .i64 ((n:Int)+1)=((n+1:Nat):Int):=kP (s:=s) (by omega) (by omega);have e10:((c.toNat:Int) !=(10:Int))=(c.toNat !=10):=xl (b:=10);refine Hi ?_;simp only[mC hc,hw,e10];refine Wp.pos (by rw[decide_eq_true_eq];omega) (Wp.ite (λh=>ih (n+1) (by omega) λj h1 h2 h3=>hj j (by omega) h2 ?_) λh=>hj n (aA _) (by omega) ?_)
  ·have h:c.toNat≠10:=by simpa using h
   rw[drop_at hc,skip,if_neg h,h3];omega
  ·have h:c.toNat=10:=by simpa using h
   rw[drop_at hc,skip,if_pos h,skip,if_pos (.inr (.inr h))];omega
theorem Uq {a:Nat} {i3:Int} (hs:s.length<=1000000000):∀(k n:Nat),s.length-n<=k->a<=n->n<=s.length->skip false (s.drop a)=(n-a)+skip false (s.drop n)->Wp (uw s a U) λu=>rh u.n u.m1 s a i3 n U:=by
 intro k
 induction k with
 |zero=>
  intro n hk ha hn hq;refine Hh ?_;rw[qm (s:=s) (n:=n) (by omega)]at hq;exact Wp.neg (by rw[decide_eq_false_iff_not];omega) (Gc hs ha hn hq)
 |succ k ih=>
  intro n hk ha hn hq;by_cases al:n<s.length
  ·obtain⟨c,hc⟩:∃c,s[n]? =some c:=⟨s[n],bk al⟩
   have hw:ah .i64 ((n:Int)+1)=((n+1:Nat):Int):=kP (s:=s) (by omega) (by omega);have e32:((c.toNat:Int)==(32:Int))=(c.toNat==32):=cL (b:=32);have e9:((c.toNat:Int)==(9:Int))=(c.toNat==9):=cL (b:=9);have e10:((c.toNat:Int)==(10:Int))=(c.toNat==10):=cL (b:=10);have e47:((c.toNat:Int) !=(47:Int))=(c.toNat !=47):=xl (b:=47);have nx (hb:c.toNat=32\/c.toNat=9\/c.toNat=10):Wp (uw s a U) λu=>rh u.n u.m1 s a i3 (n+1:Nat) U:=ih (n+1) (by omega) (by omega) al (by
    rw[hq,drop_at hc,skip,if_pos hb];omega)
   have j2 (hb:c.toNat=32\/c.toNat=9\/c.toNat=10):Wp (uw s a U) λu=>Du u.n u.m1 s a i3 n U:=by
    refine Yj ?_;simp only[hw];exact nx hb
   refine Hh ?_;simp only[mC hc,e32,e9];refine Wp.pos (by rw[decide_eq_true_eq];omega) (Wp.ite (λh=>j2 (.inl (by simpa using h))) λh32=>Wp.ite (λh=>j2 (.inr (.inl (by simpa using h)))) λh9=>?_);refine Yk ?_;simp only[hw,mC hc,e10,e47];refine Wp.ite (λh=>nx (.inr (.inr (by simpa using h)))) λh10=>?_;have dW:¬(c.toNat=32\/c.toNat=9\/c.toNat=10):=by
    rintro(h|h|h)
    ·rw[h]at h32;cases h32
    ·rw[h]at h9;cases h9
    ·rw[h]at h10;cases h10
   have stop (h:¬(c.toNat=47/\(s.drop (n+1)).head? =some 47)):Wp (uw s a U) λu=>wq u.n a i3 n U:=Gc hs ha hn (by
    rw[hq,drop_at hc,skip,if_neg dW,if_neg h];omega)
   refine Wp.ite (λh=>stop λh'=>by rw[h'.1]at h;cases h) λh47=>Wp.ite (λgg=>stop λh'=>?_) λgg=>?_
   ·rw[decide_eq_true_eq]at gg;rw[qm (by omega)]at h';cases h'.2
   have oH:n+1<s.length:=by rw[decide_eq_false_iff_not]at gg;omega
   obtain⟨d,hd⟩:∃d,s[n+1]? =some d:=⟨s[n+1],bk oH⟩
   have d47:((d.toNat:Int) !=(47:Int))=(d.toNat !=47):=xl (b:=47);simp only[mC hd,d47];refine Wp.ite (λh=>stop λh'=>?_) λaa5=>?_
   ·rw[head_drop,hd]at h';have:=h'.2;cases this;simp at h
   have Pg:c.toNat=47:=by simpa using h47
   have aa6:d.toNat=47:=by simpa using aa5
   have jk:d=47:=ke.1 aa6;have pG:skip false (s.drop n)=skip true (s.drop (n+1))+1:=by
    rw[drop_at hc,skip,if_neg dW,if_pos ⟨Pg,by rw[head_drop,hd,jk]⟩]
   refine Wp.yu (F:=λn' m1 m2=>AT n' m1 m2 s a i3 n U) ?_;have c10:((c.toNat:Int) !=(10:Int))=(c.toNat !=10):=xl (b:=10);refine Hi ?_;simp only[mC hc,hw,c10];refine Wp.pos (by rw[decide_eq_true_eq];omega) (Wp.pos (by rw[Pg];rfl) ?_);exact Uo hs (s.length-(n+1)) (n+1) (by omega) λj h1 h2 h3=>ih j (by omega) (by omega) h2 (by rw[hq,pG,h3];omega)
  ·refine Hh ?_;rw[qm (s:=s) (n:=n) (by omega)]at hq;exact Wp.neg (by rw[decide_eq_false_iff_not];omega) (Gc hs ha hn hq)
theorem Un {a:Nat} (hs:s.length<=1000000000) (ha:a<=s.length):Fw ae Lb 27 [.str s,.int .i64 (a:Int)] U (uw s a U):=by
 refine Yi ?_;exact Wp.cD (F:=λn m=>rh n m s a 0 a U) (Uq hs s.length a (by omega) (aA _) ha (by omega))
theorem abO {b:Nat} {l:List (By)} {c:On} (hl:l.length<=1000000000) (hc:aF U b=some (l.map .str)) (x:By):
  Fw ae Lb 64 [.slice (some (b,0)) l.length c 1,.str x] U λr U'=>U'=U/\r=.ret (.bool (l.contains x)):=by
 refine Zh ?_;have key:∀(k i:Nat),i+k=l.length->l.contains x=(l.drop i).contains x->Wp (λr U'=>U'=U/\r=.ret (.bool (l.contains x))) λu=>A6 u.n u.m1 (some (b,0)) l.length c 1 x i U:=by
  intro k
  induction k with
  |zero=>
   intro i hi hx;refine NY ?_;refine Wp.neg (by rw[decide_eq_false_iff_not];omega) (Zi ?_);exact Wp.ret ⟨rfl,by rw[hx,jB (by omega)];rfl⟩
  |succ k ih=>
   intro i hi hx;obtain⟨y,hy⟩:∃y,l[i]? =some y:=⟨l[i],bk (by omega)⟩
   have hw:ah .i64 ((i:Int)+1)=((i+1:Nat):Int):=by rw[wrap64 (by omega) (by omega)];omega
   obtain⟨h1,h2⟩:=bl.1 hy;have hd:l.drop i=y::l.drop (i+1):=by rw[xP h1,h2]
   refine NY ?_;simp only[an,aU,vo hc hy,aG,hw,bm (show(0:Int)<=(i:Int)/\(i:Int)<(l.length:Int)from⟨by omega,by omega⟩)];refine Wp.pos (by rw[decide_eq_true_eq];omega) (Wp.ite (λh=>Wp.ret ⟨rfl,?_⟩) λh=>ih (i+1) (by omega) ?_)
   ·have h:y=x:=by simpa using h
    rw[hx,hd,h];simp
   ·have h:y≠x:=by simpa using h
    rw[hx,hd];simp[cY h]
 exact Wp.cD (F:=λn m=>A6 n m (some (b,0)) l.length c 1 x 0 U) (key l.length 0 (by omega) rfl)
def dec:By->Nat->Nat
 | [],acc=>acc
 |c::r,acc=>dec r (acc*10+(c.toNat-48))
theorem LZ:∀(l:By) (acc:Nat),acc*10^l.length<=dec l acc
 | [],acc=>by simp[dec]
 |c::l,acc=>by
  have:=LZ l (acc*10+(c.toNat-48));rw[dec,cr,Nat.pow_succ];refine ng ?_ this;rw[show acc*(10^l.length*10)=(acc*10)*10^l.length from by rw[Nat.mul_comm (10^l.length) 10,Nat.mul_assoc]];exact vX _ (by omega)
theorem SZ:∀(l:By) (acc k:Nat),(∀c∈l,isDigit c=true)->acc<10^k->k+l.length<=19->qW (2^64-1) acc l=.ok (dec l acc)
 | [],acc,k,_,h,_=>rfl
 |c::l,acc,k,hd,h,hk=>by
  have hc:=hd c (by simp);unfold isDigit at hc;simp at hc;have h18:acc<10^18:=uk h (Nat.pow_le_pow_right (by decide) (by simp at hk;omega));have h1:acc*10+(c.toNat-48)<10^(k+1):=by rw[Nat.pow_succ];omega
  have:=SZ l (acc*10+(c.toNat-48)) (k+1) (λx hx=>hd x (by simp[hx])) h1 (by simp at hk;omega);rw[qW,if_pos ⟨by omega,by omega⟩,if_neg (by omega),if_neg (by omega),this,dec]
theorem SY:∀(l:By) (acc:Nat) (u:Nat),(∀c∈l,isDigit c=true)->qW (2^64-1) acc l=.ok u->u=dec l acc
 | [],acc,u,_,h=>by cases h;rfl
 |c::l,acc,u,hd,h=>by
  have hc:=hd c (by simp);unfold isDigit at hc;simp at hc;rw[qW,if_pos ⟨by omega,by omega⟩]at h;split at h
  ·cases h
  ·split at h
   ·cases h
   ·exact SY l _ u (λx hx=>hd x (by simp[hx])) h
theorem adK {c:UInt8} {r:By} (hd:∀x∈c::r,isDigit x=true):
  numOf c (c::r) (jA 64 (c::r))=if 19<(c::r).length\/1<(c::r).length/\c.toNat=48 then(none:Option (Nat×By×Int×Nat))else if dec (c::r) 0<=9223372036854775807 then some (3,[],((dec (c::r) 0:Nat):Int),(c::r).length)else none:=by
 have hc:=hd c (by simp);have mK:=hc;unfold isDigit at hc;simp at hc;have hp:jA 64 (c::r)=match qW (2^64-1) 0 (c::r)with| .syntax=>.syntax| .range=>.range| .ok u=>if 2^63<=u then .range else .ok (u:Int):=by
  unfold jA Lib.parseUintB;simp only[show¬c.toNat=43 from by omega,show¬c.toNat=45 from by omega,or_self,if_false,not_false_eq_true,true_and,false_and,reduceCtorEq];rfl
 rw[hp];by_cases h19:19<(c::r).length
 ·rw[if_pos (c:=19<(c::r).length\/1<(c::r).length/\c.toNat=48) (.inl h19)];cases hu:qW (2^64-1) 0 (c::r)
  case ok u=>
   simp only;split
   ·rfl
   ·rename_i al;simp only[numOf];by_cases h0:c.toNat=48
    ·rw[if_pos ⟨h0,by omega⟩]
    ·exfalso
     have he:=SY _ _ _ hd hu;have hg:=LZ r (0*10+(c.toNat-48));rw[he,dec]at al;have:10^19<=10^r.length:=Nat.pow_le_pow_right (by decide) (by simp at h19;omega);have:1*10^r.length<=(0*10+(c.toNat-48))*10^r.length:=vX _ (by omega);omega
  all_goals rfl
 ·rw[SZ (c::r) 0 0 hd (by decide) (by omega)];simp only;by_cases h0:1<(c::r).length/\c.toNat=48
  ·rw[if_pos (c:=19<(c::r).length\/1<(c::r).length/\c.toNat=48) (.inr h0)];split
   ·rfl
   ·simp only[numOf];rw[if_pos ⟨h0.2,by omega⟩]
  ·rw[if_neg (c:=19<(c::r).length\/1<(c::r).length/\c.toNat=48) (by omega)];by_cases hm:dec (c::r) 0<=9223372036854775807
   ·rw[if_pos (c:=dec (c::r) 0<=9223372036854775807) hm,if_neg (c:=2^63<=dec (c::r) 0) (by omega)];simp only[numOf];rw[if_neg (by
     rintro⟨h1,h2⟩;exact h0 ⟨by simp only[cr]at h2|-;omega,h1⟩)]
   ·rw[if_neg (c:=dec (c::r) 0<=9223372036854775807) hm,if_pos (c:=2^63<=dec (c::r) 0) (by omega)];rfl
def B1 (t:By):AV:=
 if 19<t.length\/1<t.length/\t.head? =some 48 then .tuple [.int .i64 0,.bool false]else .tuple [.int .i64 (ah .i64 (dec t 0:Nat)),.bool (decide (dec t 0<=9223372036854775807))]
def I7 (s:By) (U:St):bw:=λr U'=>U'=U/\r=.ret (B1 s)
theorem adJ {i2:Int} (hs:s.length<=19) (hd:∀c∈s,isDigit c=true) (dW:¬(19<s.length\/1<s.length/\s.head? =some 48)):∀(k n:Nat) (acc:Nat),n+k=s.length->acc<10^n->dec (s.drop n) acc=dec s 0->Wp (I7 s U) λu=>wv u.n u.m1 s i2 (acc:Nat) n U:=by
 intro k
 induction k with
 |zero=>
  intro n acc hn ha he;refine N4 ?_;refine Wp.neg (by rw[decide_eq_false_iff_not];omega) (Zo ?_);refine Wp.ret ⟨rfl,?_⟩;rw[qm (by omega),dec]at he;rw[B1,if_neg dW,<-he];congr 5;exact decide_eq_decide.2 (by omega)
 |succ k ih=>
  intro n acc hn ha he;obtain⟨c,hc⟩:∃c,s[n]? =some c:=⟨s[n],bk (by omega)⟩
  have Ea:=hd c (fF hc);unfold isDigit at Ea;simp at Ea;have hw:ah .i64 ((n:Int)+1)=((n+1:Nat):Int):=kP (s:=s) (by omega) (by omega);have h18:acc<10^18:=uk ha (Nat.pow_le_pow_right (by decide) (by omega));have h1:acc*10+(c.toNat-48)<10^(n+1):=by rw[Nat.pow_succ];omega
  rw[drop_at hc,dec]at he;refine N4 ?_;have w1:ah .u8 ((c.toNat:Int)-48)=((c.toNat-48:Nat):Int):=by simp only[ah,IntKind.bits,IntKind.signed,Bool.false_and,aW,if_false];omega
  have w2:ah .u64 (((c.toNat-48:Nat):Int))=((c.toNat-48:Nat):Int):=by simp only[ah,IntKind.bits,IntKind.signed,Bool.false_and,aW,if_false];omega
  have w3:ah .u64 ((acc:Int)*10)=((acc*10:Nat):Int):=by simp only[ah,IntKind.bits,IntKind.signed,Bool.false_and,aW,if_false];omega
  have w4:ah .u64 (((acc*10:Nat):Int)+((c.toNat-48:Nat):Int))=((acc*10+(c.toNat-48):Nat):Int):=by simp only[ah,IntKind.bits,IntKind.signed,Bool.false_and,aW,if_false];omega
  simp only[mC hc,hw,w1,w2,w3,w4];exact Wp.pos (by rw[decide_eq_true_eq];omega) (ih (n+1) _ (by omega) h1 he)
theorem adI (hd:∀c∈s,isDigit c=true) (hs:s.length<=1000000000):Fw ae Lb 66 [.str s] U (I7 s U):=by
 refine Zk ?_;have l0 (h19:s.length<=19) (dW:¬(19<s.length\/1<s.length/\s.head? =some 48)):Wp (I7 s U) λu=>wv u.n u.n s 0 0 0 U:=Wp.cD (F:=λn m=>wv n m s 0 0 0 U) (adJ h19 hd dW s.length 0 0 (by omega) (by decide) rfl);refine Wp.ite (λh=>?_) λh=>Wp.ite (λh1=>?_) λh1=>?_
 ·rw[decide_eq_true_eq]at h;refine Zl ?_;exact Wp.ret ⟨rfl,by rw[B1,if_pos (.inl (by omega))]⟩
 ·rw[decide_eq_true_eq]at h1;rw[decide_eq_false_iff_not]at h;obtain⟨c,hc⟩:∃c,s[0]? =some c:=⟨s[0],bk (by omega)⟩
  have e48:((c.toNat:Int)==(48:Int))=(c.toNat==48):=cL (b:=48);simp only[ib (show(0:Int)<=0 by decide) (show s[(0:Int).toNat]? =some c from hc),e48];refine Zm ?_;have hh:s.head? =some c:=by rw[List.head?_eq_getElem?];exact hc
  refine Wp.ite (λh0=>Wp.ret ⟨rfl,?_⟩) λh0=>l0 (by omega) λh'=>?_
  ·have h0:c.toNat=48:=by simpa using h0
   have:c=48:=ke.1 h0;rw[B1,if_pos (.inr ⟨by omega,by rw[hh,this]⟩)]
  ·rcases h' with h'|h'
   ·omega
   ·rw[hh]at h';have:=h'.2;cases this;simp at h0
 ·rw[decide_eq_false_iff_not]at h h1;refine Zn ?_;exact l0 (by omega) (by omega)
theorem ya {q:Nat} {c:UInt8} {r:By} (h:c.toNat≠92):escape q (c::r)=if 32<=c.toNat/\c.toNat<=126/\c.toNat≠q then some (c,1)else none:=by
 unfold escape;simp only;rw[if_neg h]
theorem GM {q:Nat} {c d:UInt8} {r:By} (h:c.toNat=92):escape q (c::d::r)=(fU d).map λb=>(b,2):=by
 unfold escape;simp only;rw[if_pos h]
theorem GL {q:Nat} {c:UInt8} (h:c.toNat=92):escape q [c]=none:=by
 unfold escape;simp only;rw[if_pos h]
def Ag (q:Nat) (l:By):AV:=
 match escape q l with
 |none=>.tuple [.int .u8 0,.int .i64 0]
 |some p=>.tuple [.int .u8 (p.1.toNat:Int),.int .i64 (p.2:Int)]
theorem UE {a q:Nat} (hs:s.length<=1000000000) (ha:a<s.length):Fw ae Lb 91 [.str s,.int .i64 (a:Int),.int .u8 (q:Int)] U λr U'=>U'=U/\r=.ret (Ag q (s.drop a)):=by
 refine Z5 ?_;obtain⟨c,hc⟩:∃c,s[a]? =some c:=⟨s[a],bk ha⟩
 have hw:ah .i64 ((a:Int)+1)=((a+1:Nat):Int):=kP (s:=s) (by omega) (by omega);have e92:((c.toNat:Int) !=(92:Int))=(c.toNat !=92):=xl (b:=92);have VP:((c.toNat:Int)==(q:Int))=(c.toNat==q):=cL;simp only[mC hc,hw,e92];generalize hQ:(λ(r:fH) (U':St)=>U'=U/\r=.ret (Ag q (s.drop a)))=QQ;have no (h:escape q (s.drop a)=none):Wp QQ λ_=>some (.ret (.tuple [.int .u8 (0:Int),.int .i64 (0:Int)]),U):=Wp.ret (by rw[<-hQ];exact⟨rfl,by rw[Ag,h]⟩);have yes {x:UInt8} {n:Nat} (h:escape q (s.drop a)=some (x,n)):Wp QQ λ_=>some (.ret (.tuple [.int .u8 (x.toNat:Int),.int .i64 (n:Int)]),U):=Wp.ret (by rw[<-hQ];exact⟨rfl,by rw[Ag,h]⟩);have hd:=drop_at hc;refine Wp.neg (by rw[decide_eq_false_iff_not];omega) (Wp.ite (λh92=>?_) λh92=>?_)
 ·have h92:c.toNat≠92:=by simpa using h92
  have bad (h:¬(32<=c.toNat/\c.toNat<=126/\c.toNat≠q)):escape q (s.drop a)=none:=by rw[hd,ya h92,if_neg h]
  have j1 (h:¬(32<=c.toNat/\c.toNat<=126/\c.toNat≠q)):Wp QQ λu=>DN u.n s a 0 0 (c.toNat:Int) U:=by
   refine Z6 ?_;exact no (bad h)
  refine Wp.ite (λh=>j1 (by rw[decide_eq_true_eq]at h;omega)) λh1=>Wp.ite (λh=>j1 (by rw[decide_eq_true_eq]at h;omega)) λh2=>Z7 ?_;simp only[VP];rw[decide_eq_false_iff_not]at h1 h2;refine Wp.ite (λh=>no (bad λh'=>by rw[beq_iff_eq]at h;exact h'.2.2 h)) λh=>yes (n:=1) ?_;have h:c.toNat≠q:=by simpa using h
  rw[hd,ya h92,if_pos ⟨by omega,by omega,h⟩]
 ·have h92:c.toNat=92:=by simpa using h92
  refine Wp.ite (λgg=>no ?_) λgg=>?_
  ·rw[decide_eq_true_eq]at gg;rw[hd,qm (by omega),GL h92]
  have oH:a+1<s.length:=by rw[decide_eq_false_iff_not]at gg;omega
  obtain⟨d,jk⟩:∃d,s[a+1]? =some d:=⟨s[a+1],bk oH⟩
  have he:escape q (s.drop a)=(fU d).map λb=>(b,2):=by rw[hd,drop_at jk,GM h92]
  have e110:((d.toNat:Int)==(110:Int))=(d.toNat==110):=cL (b:=110);have e116:((d.toNat:Int)==(116:Int))=(d.toNat==116):=cL (b:=116);have e48:((d.toNat:Int)==(48:Int))=(d.toNat==48):=cL (b:=48);have d92:((d.toNat:Int)==(92:Int))=(d.toNat==92):=cL (b:=92);have e39:((d.toNat:Int)==(39:Int))=(d.toNat==39):=cL (b:=39);have e34:((d.toNat:Int)==(34:Int))=(d.toNat==34):=cL (b:=34);simp only[mC jk,e110,e116,e48,d92,e39];have j3 (h:fU d=some d):Wp QQ λu=>DO u.n s a 0 0 U:=by
   refine Z8 ?_;simp only[hw,mC jk];exact yes (n:=2) (by rw[he,h];rfl)
  have un {x:Nat} (h:(d.toNat==x)=true):d.toNat=x:=by simpa using h
  refine Wp.ite (λh=>yes (x:=10) (n:=2) (by rw[he,fU,if_pos (un h)];rfl)) λh1=>Wp.ite (λh=>yes (x:=9) (n:=2) (by rw[he,fU,if_neg (by simpa using h1),if_pos (un h)];rfl)) λh2=>
   Wp.ite (λh=>yes (x:=0) (n:=2) (by rw[he,fU,if_neg (by simpa using h1),if_neg (by simpa using h2),if_pos (un h)];rfl)) λh3=>?_
  have r1:¬d.toNat=110:=by simpa using h1
  have r2:¬d.toNat=116:=by simpa using h2
  have r3:¬d.toNat=48:=by simpa using h3
  refine Wp.ite (λh=>j3 ?_) λh4=>Wp.ite (λh=>j3 ?_) λh5=>Z9 ?_
  ·rw[fU,if_neg r1,if_neg r2,if_neg r3,if_pos (un h),ke.1 (show d.toNat=(92:UInt8).toNat from un h)]
  ·rw[fU,if_neg r1,if_neg r2,if_neg r3,if_neg (by simpa using h4),if_pos (un h),ke.1 (show d.toNat=(39:UInt8).toNat from un h)]
  simp only[hw,mC jk,e34];have r4:¬d.toNat=92:=by simpa using h4
  have r5:¬d.toNat=39:=by simpa using h5
  refine Wp.ite (λh=>yes (x:=d) (n:=2) ?_) λh=>no ?_
  ·rw[he,fU,if_neg r1,if_neg r2,if_neg r3,if_neg r4,if_neg r5,if_pos (un h),ke.1 (show d.toNat=(34:UInt8).toNat from un h)];rfl
  ·rw[he,fU,if_neg r1,if_neg r2,if_neg r3,if_neg r4,if_neg r5,if_neg (by simpa using h)];rfl
theorem Fi {l:By} {k:Nat} {t:By} {n:Int} {q:Nat} (h:one l=some (k,t,n,q)):k<=5:=by
 cases l with
 |nil=>simp only[one,dP,eQ]at h;omega
 |cons c r=>
  simp only[one]at h;split at h
  ·split at h
   ·simp only[dP,eQ]at h;omega
   ·split at h
    ·simp only[dP,eQ]at h;omega
    ·cases h
  split at h
  ·unfold numOf at h;split at h
   ·split at h
    ·cases h
    ·simp only[dP,eQ]at h;omega
   ·cases h
  split at h
  ·cases hb:dd r 0 with
   |none=>rw[hb]at h;cases h
   |some x=>rw[hb]at h;simp only[je,dP,eQ]at h;omega
  split at h
  ·split at h
   ·split at h
    ·simp only[dP,eQ]at h;omega
    ·cases h
   ·cases h
  ·cases hf:marks.find? λm=>m.isPrefixOf (c::r)with
   |none=>rw[hf]at h;cases h
   |some m=>rw[hf]at h;simp only[je,dP,eQ]at h;omega
theorem adT {l:By} {t:By} {n:Int} {q:Nat} (h:one l=some (5,t,n,q)):t∈marks:=by
 cases l with
 |nil=>simp[one]at h
 |cons c r=>
  simp only[one]at h;split at h
  ·split at h
   ·simp at h
   ·split at h
    ·simp at h
    ·cases h
  split at h
  ·unfold numOf at h;split at h
   ·split at h
    ·cases h
    ·simp at h
   ·cases h
  split at h
  ·cases hb:dd r 0 with
   |none=>rw[hb]at h;cases h
   |some x=>rw[hb]at h;simp at h
  split at h
  ·split at h
   ·split at h
    ·simp at h
    ·cases h
   ·cases h
  ·cases hf:marks.find? λm=>m.isPrefixOf (c::r)with
   |none=>rw[hf]at h;cases h
   |some m=>
    rw[hf]at h;simp only[je,dP,eQ]at h;obtain⟨_,rfl,_⟩:=h;exact List.mem_of_find?_eq_some hf
def lJ (s:By) (a:Nat) (U:St):bw:=λr U'=>Up U U'/\∃(k:Int) (tx:By) (nn:Int) (e:Int),
 r=.ret (.tuple [.agg [.int .i64 k,.int .i64 (a:Int),.str tx,.int .i64 nn],.int .i64 e])/\
 match one (s.drop a)with
 |some p=>k=p.1/\tx=p.2.1/\nn=p.2.2.1/\e=((a+p.2.2.2:Nat):Int)
 |none=>k=6/\tx=[]/\nn=0
theorem vM {a:Nat} {e:Int} {U':St} (h:Up U U') (hn:one (s.drop a)=none):Wp (lJ s a U) λ_=>some (.ret (.tuple [.agg [.int .i64 (6:Int),.int .i64 (a:Int),.str [],.int .i64 (0:Int)],.int .i64 e]),U'):=
 Wp.ret ⟨h,6,[],0,e,rfl,by rw[hn];exact⟨rfl,rfl,rfl⟩⟩
theorem xF {a e:Nat} {k n:Nat} {nn:Int} {tx:By} {U':St} (h:Up U U') (hn:one (s.drop a)=some (k,tx,nn,n)) (he:e=a+n):Wp (lJ s a U) λ_=>some (.ret (.tuple [.agg [.int .i64 (k:Int),.int .i64 (a:Int),.str tx,.int .i64 nn],.int .i64 (e:Int)]),U'):=
 Wp.ret ⟨h,k,tx,nn,e,rfl,by rw[hn];exact⟨rfl,rfl,rfl,by rw[he]⟩⟩
theorem SB {c:UInt8} {r:By} {n:Nat} (h:c.toNat≠34):dd (c::r) n=match escape 34 (c::r)with
  |none=>none
  |some p=>if p.1=0\/n=100 then none else(dd ((c::r).drop p.2) (n+1)).map λx=>(p.1::x.1,x.2+p.2):=by
 cases r with
 |nil=>
  have hl:dd [c] n=none:=by unfold dd;rw[if_neg h]
  rw[hl];by_cases h92:c.toNat=92
  ·rw[GL h92]
  ·rw[ya h92];split
   ·rfl
   ·split
    ·rfl
    ·rename_i p hp _;split at hp
     ·cases hp;rfl
     ·cases hp
 |cons d r=>
  have hl:dd (c::d::r) n=if c.toNat=92 then(match fU d with
   |some b=>if b=0\/n=100 then none else(dd r (n+1)).map λp=>(b::p.1,p.2+2)
   |none=>none)
   else if 32<=c.toNat/\c.toNat<=126 then(if n=100 then none else(dd (d::r) (n+1)).map λp=>(c::p.1,p.2+1))else none:=by
   rw[dd,if_neg h];rfl
  rw[hl];by_cases h92:c.toNat=92
  ·rw[if_pos h92,GM h92];cases fU d with
   |none=>rfl
   |some b=>rfl
  ·rw[if_neg h92,ya h92];by_cases h3:32<=c.toNat/\c.toNat<=126
   ·rw[if_pos h3,if_pos (c:=32<=c.toNat/\c.toNat<=126/\c.toNat≠34) ⟨h3.1,h3.2,h⟩];have h0:c≠0:=by intro e;rw[e]at h3;have:=h3.1;simp at this
    simp only[h0,false_or];rfl
   ·rw[if_neg h3,if_neg (by omega)]
theorem af4 {c:UInt8} {r:By} {n:Nat} (h:c.toNat=34):dd (c::r) n=some ([],0):=by
 cases r<;>rw[dd,if_pos h]
def qc (s:By) (a q:Nat) (l:By) (e:Nat):Prop:=
 (q=34/\((l.length<=100/\dd (s.drop (a+1)) 0=(dd (s.drop e) l.length).map λp=>(l++p.1,(e-(a+1))+p.2))\/(100<l.length/\dd (s.drop (a+1)) 0=none)))\/
 (q=39/\((l=[]/\e=a+1)\/(∃b k,l=[b]/\escape 39 (s.drop (a+1))=some (b,k)/\e=a+1+k)\/(2<=l.length/\one (s.drop a)=none)))
section
variable {a q e:Nat} {l:By} {c0:UInt8}
theorem I9 (hc:s[a]? =some c0) (h:c0.toNat=34):one (s.drop a)=(dd (s.drop (a+1)) 0).map λp=>(4,p.1,0,p.2+2):=by
 rw[drop_at hc,one,if_neg (by unfold dK;simp[h]),if_neg (by unfold isDigit;simp[h]),if_pos h]
theorem xp (hc:s[a]? =some c0) (h:c0.toNat=39):one (s.drop a)=match escape 39 (s.drop (a+1))with
  |some (b,k)=>if((s.drop (a+1)).drop k).head? =some 39 then some (3,[],(b.toNat:Int),k+2)else none
  |none=>none:=by
 rw[drop_at hc,one,if_neg (by unfold dK;simp[h]),if_neg (by unfold isDigit;simp[h]),if_neg (by omega),if_pos h];rfl
theorem qc.fin (h:qc s a q l e) (hc:s[a]? =some c0) (hq:c0.toNat=q) (he:s.length<=e):one (s.drop a)=none:=by
 rcases h with⟨rfl,h⟩|⟨rfl,h⟩
 ·rw[I9 hc hq];rcases h with⟨_,h⟩|⟨_,h⟩
  ·rw[h,qm he];rfl
  ·rw[h];rfl
 ·rcases h with⟨_,h⟩|⟨b,k,_,h1,h2⟩|h
  ·rw[xp hc hq,qm (by omega)];rfl
  ·rw[xp hc hq,h1];simp only;rw[oX,qm (by omega)];simp
  ·exact h.2
theorem qc.at (h:qc s a q l e) (hc:s[a]? =some c0) (hq:c0.toNat=q) (ha:a<e) {c:UInt8} (gw:s[e]? =some c) (iH:c.toNat=q):
  one (s.drop a)=if q=34/\l.length<=100 then some (4,l,0,e+1-a)else match l with| [b]=>if q=39 then some (3,[],(b.toNat:Int),e+1-a)else none|_=>none:=by
 rcases h with⟨rfl,h⟩|⟨rfl,h⟩
 ·rw[I9 hc hq];rcases h with⟨hl,h⟩|⟨hl,h⟩
  ·rw[h,drop_at gw,af4 iH,if_pos ⟨rfl,hl⟩];simp only[je,cg,dP,eQ,true_and];omega
  ·rw[h,if_neg (by omega)];split
   ·simp at hl
   ·rfl
 ·rw[if_neg (by omega)];have hc9:c=39:=ke.1 iH;rcases h with⟨rfl,h⟩|⟨b,k,rfl,h1,h2⟩|h
  ·subst h;rw[xp hc hq,drop_at gw,ya (by omega),if_neg (by omega)]
  ·rw[xp hc hq,h1];simp only;rw[oX,<-h2,head_drop,gw,hc9,if_pos rfl];simp only[if_true,dP,eQ,true_and];omega
  ·rw[h.2];split
   ·simp at h
   ·rfl
theorem qc.no (h:qc s a q l e) (hc:s[a]? =some c0) (hq:c0.toNat=q) {c:UInt8} (gw:s[e]? =some c) (iH:c.toNat≠q) (hn:escape q (s.drop e)=none\/q=34/\∃k,escape q (s.drop e)=some (0,k)):one (s.drop a)=none:=by
 rcases h with⟨rfl,h⟩|⟨rfl,h⟩
 ·rw[I9 hc hq];rcases h with⟨hl,h⟩|⟨hl,h⟩
  ·rw[h,drop_at gw,SB iH,<-drop_at gw];rcases hn with hn|⟨_,k,hn⟩
   ·rw[hn];rfl
   ·rw[hn];simp
  ·rw[h];rfl
 ·rcases hn with hn|⟨hn,_⟩
  ·rcases h with⟨rfl,h⟩|⟨b,k,rfl,h1,h2⟩|h
   ·subst h;rw[xp hc hq,hn]
   ·rw[xp hc hq,h1];simp only;rw[oX,<-h2,head_drop,gw,if_neg (by intro e;cases e;exact iH rfl)]
   ·exact h.2
  ·cases hn
theorem qc.go (h:qc s a q l e) (hc:s[a]? =some c0) (hq:c0.toNat=q) (ha:a<e) {c:UInt8} (gw:s[e]? =some c) (iH:c.toNat≠q) {b:UInt8} {k:Nat} (hs:escape q (s.drop e)=some (b,k)) (hb:q=34->b≠0):qc s a q (l++[b]) (e+k):=by
 rcases h with⟨rfl,h⟩|⟨rfl,h⟩
 ·refine .inl ⟨rfl,?_⟩;rcases h with⟨hl,h⟩|⟨hl,h⟩
  ·rw[drop_at gw,SB iH,<-drop_at gw,hs]at h;simp only at h;by_cases h100:l.length=100
   ·rw[if_pos (.inr h100)]at h;exact .inr ⟨by simp;omega,h⟩
   ·rw[if_neg (by rintro(h'|h');exact hb rfl h';exact h100 h'),oX,Option.map_map]at h;refine .inl ⟨by simp;omega,?_⟩;rw[h,az,p9];congr 1
    funext p
    simp only[Function.comp,aO,List.singleton_append,eQ,true_and];omega
  ·exact .inr ⟨by simp;omega,h⟩
 ·refine .inr ⟨rfl,?_⟩;rcases h with⟨rfl,h⟩|⟨b',k',rfl,h1,h2⟩|h
  ·subst h;exact .inr (.inl ⟨b,k,rfl,hs,rfl⟩)
  ·refine .inr (.inr ⟨by simp,?_⟩);rw[xp hc hq,h1];simp only;rw[oX,<-h2,head_drop,gw,if_neg (by intro e;cases e;exact iH rfl)]
  ·exact .inr (.inr ⟨by simp;omega,h.2⟩)
end
theorem Lk:∀l:By,bytesOf (bH l)=some l
 | []=>rfl
 |c::l=>by
  have:=Lk l;unfold bH at this|-;simp[bytesOf,this]
def B8 (U0 U:St) (a:Ad) (n z:Nat) (l:By):Prop:=
 Up U0 U/\((l=[]/\a=none/\n=0)\/∃b,a=some (b,0)/\n=l.length/\z=1/\U0.length<=b/\U[b]? =some (.cells (bH l) (.rw (.row 5))))
theorem Up.I3 {U0 U:St} {b:Nat} {τ:St} (h:Up U0 U) (hb:U0.length<=b):Up U0 (U.set b .dead++τ):=
 ⟨by have:=h.len;simp;omega,λx hx=>by
  have:=h.len;rw[bO (by simp;omega),aD (by omega)];exact h.same x hx⟩
theorem B8.app {a:Ad} {n z:Nat} {l:By} {c:UInt8} {K:Fu->Ad->Nat->On->St->Out} (h:B8 U0 U a n z l) (hl:l.length<=1000000000)
  (hk:∀a' n' c' U',B8 U0 U' a' n' 1 (l++[c])->Wp Q λu=>K u a' n' c' U'):Wp Q λu=>dT U 5 1 1 a n z 1 [.int .u8 (c.toNat:Int)] (K u):=by
 obtain⟨hu,h⟩:=h;rcases h with⟨rfl,rfl,rfl⟩|⟨b,rfl,rfl,rfl,hb,hc⟩
 ·exact Wp.sj (by decide) (by decide) (hk _ _ _ _ ⟨hu.trans (Up.app _),.inr ⟨U.length,rfl,rfl,rfl,hu.len,by rw[bQ (aA _),gJ];rfl⟩⟩)
 ·have cw:(bH l).length=l.length:=by simp[bH]
  refine Wp.sk hc (by rw[cw];omega) (by omega) (hk _ _ _ _ ⟨hu.I3 hb,.inr ⟨U.length,rfl,by simp,rfl,hu.len,?_⟩⟩);rw[bQ (by simp),iA,gJ];have e:((bH l).drop 0).take (l.length*1)=bH l:=by rw[iy,lC,<-cw,j8]
  rw[e];simp[bH,iq]
section
variable {a q e n z:Nat} {l:By} {c0:UInt8} {ad:Ad} {c7:On}
theorem B8.len (h:B8 U0 U ad n z l):n=l.length:=by
 rcases h.2 with⟨rfl,_,rfl⟩|⟨_,_,hn,_⟩
 ·rfl
 ·exact hn
theorem B8.UI (h:B8 U0 U ad n z l) (f:By->Out):om U ad n z f=f l:=by
 rcases h.2 with⟨rfl,rfl,rfl⟩|⟨b,rfl,rfl,rfl,hb,hc⟩
 ·rfl
 ·have cw:(bH l).length=l.length:=by simp[bH]
  unfold om;simp only[aF,hc];rw[if_pos trivial,if_pos (by omega),iy,<-cw,j8,Lk]
theorem Jo {Qk i10 i11 i13:Int} {s12:By} (hs:s.length<=1000000000) (hq:q=34\/q=39) (h:B8 U0 U ad n z l) (hc:s[a]? =some c0) (iH:c0.toNat=q) (ha:a<e) (hQ:qc s a q l e)
  (sR:s.length<=e\/∃c,s[e]? =some c/\c.toNat=q):Wp (lJ s a U0) λu=>DD u.n s a Qk (q:Nat) ad n c7 z e i10 i11 s12 i13 U:=by
 have hu:=h.1;have hn:=h.len;have j6 (dW:one (s.drop a)=none):Wp (lJ s a U0) λu=>DE u.n a Qk (q:Nat) ad n c7 z e i10 i11 s12 i13 U:=by
  refine Zu ?_;exact vM hu dW
 refine Zt ?_;refine Wp.ite (λgg=>j6 ?_) λal=>?_
 ·rw[decide_eq_true_eq]at gg;rcases sR with sR|⟨c,gw,_⟩
  ·exact hQ.fin hc iH sR
  ·have:=(bl.1 gw).1;omega
 rw[decide_eq_false_iff_not]at al;rcases sR with sR|⟨c,gw,gd⟩
 ·omega
 have hw:ah .i64 ((e:Int)+1)=((e+1:Nat):Int):=kP (s:=s) (by omega) (by omega);have R:=hQ.at hc iH ha gw gd;rcases hq with rfl|rfl
 ·refine Wp.pos rfl (Wp.ite (λnB=>j6 ?_) λhle=>Wp.neg rfl (Zw ?_))
  ·rw[decide_eq_true_eq]at nB;rw[R,if_neg (by omega)];split
   ·simp at hn;omega
   ·rfl
  ·rw[decide_eq_false_iff_not]at hle;simp only[hw,h.UI];refine Wp.pos rfl ?_;exact xF (k:=4) (n:=e+1-a) (e:=e+1) hu (by rw[R,if_pos ⟨rfl,by omega⟩]) (by omega)
 ·refine Wp.neg rfl (Wp.pos rfl (Zv ?_));simp only[hw];rw[if_neg (by omega)]at R;refine Wp.ite (λh1=>vM hu ?_) λh1=>Wp.neg rfl ?_
  ·rw[R];split
   ·simp at hn;subst hn;simp at h1
   ·rfl
  have ahA:(n:Int)=1:=by simpa using h1
  have ef:l.length=1:=by omega
  obtain⟨c,rfl⟩:∃c,l=[c]:=List.length_eq_one_iff.1 ef;rcases h.2 with⟨h0,_⟩|⟨b,rfl,rfl,rfl,hb,hcb⟩
  ·cases h0
  simp only[an,aU,bm (show(0:Int)<=0/\(0:Int)<(([c]:By).length:Int)from⟨by omega,by simp⟩)];have dJ (f:AV->Out):aI ae 5 U b (0+0) f=f (.int .u8 (c.toNat:Int)):=cq (cs:=bH [c]) (by unfold aF;rw[hcb]) (by kernel_rfl) rfl;have iG:=UInt8.toNat_lt c;have im:ah .i64 (c.toNat:Int)=(c.toNat:Int):=by rw[wrap64 (by omega) (by omega)]
  simp only[dJ,ag,im];exact xF (k:=3) (n:=e+1-a) (e:=e+1) hu (by rw[R];rfl) (by omega)
theorem aeS {i3 i10 i11 i13:Int} {s12:By} (hs:s.length<=1000000000) (hq:q=34\/q=39) (hc:s[a]? =some c0) (iH:c0.toNat=q):∀(k e:Nat) {U:St} {n z:Nat} {ad:Ad} {c7:On} {l:By},s.length-e<=k->a<e->e<=s.length->l.length<=e->B8 U0 U ad n z l->qc s a q l e->
  Wp (lJ s a U0) λu=>wx u.n u.m1 s a i3 (q:Nat) ad n c7 z e i10 i11 s12 i13 U:=by
 intro k
 induction k with
 |zero=>
  intro e U n z ad c7 l hk ha he hl h hQ;refine N8 ?_;exact Wp.neg (by rw[decide_eq_false_iff_not];omega) (Jo hs hq h hc iH ha hQ (.inl (by omega)))
 |succ k ih=>
  intro e U n z ad c7 l hk ha he hl h hQ;refine N8 ?_;by_cases al:e<s.length
  ·obtain⟨c,gw⟩:∃c,s[e]? =some c:=⟨s[e],bk al⟩
   have en:((c.toNat:Int) !=(q:Int))=(c.toNat !=q):=xl;simp only[mC gw,en];refine Wp.pos (by rw[decide_eq_true_eq];omega) (Wp.ite (λbD=>?_) λheq=>Jo hs hq h hc iH ha hQ (.inr ⟨c,gw,by simpa using heq⟩));have bD:c.toNat≠q:=by simpa using bD
   refine Wp.call (UE hs al) (λv U1 hv=>?_) λv U1 hv=>by cases hv.2
   obtain⟨rfl,hv⟩:=hv;cases hv;unfold Ag;cases fC:escape q (s.drop e)with
   |none=>
    simp only[eY,bc,ag,aZ];refine Wp.pos rfl (Zq ?_);exact vM h.1 (hQ.no hc iH gw bD (.inl fC))
   |some p=>
    obtain⟨b,j⟩:=p;simp only[eY,bc,ag,aZ];have hj:1<=j/\e+j<=s.length:=by
     rw[drop_at gw]at fC;by_cases h92:c.toNat=92
     ·cases hd:s.drop (e+1)with
      |nil=>rw[hd,GL h92]at fC;cases fC
      |cons d r=>
       rw[hd,GM h92]at fC;have h2:(s.drop (e+1)).length=r.length+1:=by rw[hd];rfl
       rw[mr]at h2;cases hx:fU d with
       |none=>rw[hx]at fC;cases fC
       |some y=>rw[hx]at fC;cases fC;omega
     ·rw[ya h92]at fC;split at fC
      ·cases fC;omega
      ·cases fC
    have hw:ah .i64 ((e:Int)+(j:Int))=((e+j:Nat):Int):=by rw[wrap64 (by omega) (by omega)];omega
    have nx (hb:q=34->b≠0) {a':Ad} {n':Nat} {c':On} {U':St} (h':B8 U0 U' a' n' 1 (l++[b])):Wp (lJ s a U0) λu=>wx u.n u.m1 s a i3 (q:Nat) a' n' c' 1 (e+j:Nat) i10 i11 s12 i13 U':=
     ih (e+j) (by omega) (by omega) hj.2 (by simp;omega) h' (hQ.go hc iH ha gw bD fC hb)
    refine Wp.neg (by simp;omega) ?_;rcases hq with rfl|rfl
    ·refine Wp.pos rfl (Zr ?_);simp only[hw];refine Wp.ite (λh0=>vM h.1 (hQ.no hc iH gw bD (.inr ⟨rfl,j,?_⟩))) λh0=>h.app (by omega) λa' n' c' U' h'=>nx (λ_ e0=>?_) h'
     ·have:b.toNat=0:=by simpa using h0
      rw[fC,ke.1 (show b.toNat=(0:UInt8).toNat from this)]
     ·rw[e0]at h0;simp at h0
    ·refine Wp.neg rfl (Zs ?_);simp only[hw];exact h.app (by omega) λa' n' c' U' h'=>nx (λe0=>by cases e0) h'
  ·exact Wp.neg (by rw[decide_eq_false_iff_not];omega) (Jo hs hq h hc iH ha hQ (.inl (by omega)))
theorem aeV (hs:s.length<=1000000000) (hc:s[a]? =some c0) (hq:c0.toNat=34\/c0.toNat=39):Fw ae Lb 67 [.str s,.int .i64 (a:Int)] U (lJ s a U):=by
 have al:a<s.length:=(bl.1 hc).1;refine Zp ?_;have hw:ah .i64 ((a:Int)+1)=((a+1:Nat):Int):=kP (s:=s) (by omega) (by omega);simp only[mC hc,hw];refine Wp.cD (F:=λn m=>wx n m s a 0 (c0.toNat:Int) none 0 (some 0) 0 (a+1:Nat) 0 0 [] 0 U) (aeS (q:=c0.toNat) hs hq hc rfl s.length (a+1) (l:=[]) (by omega) (by omega) (by omega) (by simp) ⟨Up.refl U,.inl ⟨rfl,rfl,rfl⟩⟩ ?_);rcases hq with hq|hq
 ·rw[hq];exact .inl ⟨rfl,.inl ⟨by simp,by simp[Option.map_id']⟩⟩
 ·rw[hq];exact .inr ⟨rfl,.inl ⟨rfl,rfl⟩⟩
end
section
variable {a e n z:Nat} {c0:UInt8}
theorem LW (ha:a<=e) (he:e<=s.length):((s.take e).drop a).length=e-a:=by rw[mr,r8,Nat.min_eq_left he]
theorem Vt {c:UInt8} (ha:a<=e) (hc:s[e]? =some c):(s.take (e+1)).drop a=(s.take e).drop a++[c]:=by
 have al:=(bl.1 hc).1;rw[List.take_succ,hc,Option.toList_some,List.drop_append_of_le_length (by rw[r8];omega)]
def Wh (s:By) (p:UInt8->Bool) (a e:Nat):Prop:=(s.drop a).takeWhile p=(s.take e).drop a++(s.drop e).takeWhile p
theorem Wh.zero {p:UInt8->Bool}:Wh s p a a:=by
 unfold Wh;rw[show(s.take a).drop a=[]from jB (by rw[r8];omega),fx]
theorem Wh.go {p:UInt8->Bool} {c:UInt8} (h:Wh s p a e) (ha:a<=e) (hc:s[e]? =some c) (hp:p c=true):Wh s p a (e+1):=by
 unfold Wh at h|-;rw[h,Vt ha hc,drop_at hc,List.takeWhile_cons_of_pos hp,aO];rfl
theorem Wh.fin {p:UInt8->Bool} (h:Wh s p a e) (sR:s.length<=e\/∃c,s[e]? =some c/\p c=false):(s.drop a).takeWhile p=(s.take e).drop a:=by
 unfold Wh at h;rw[h];rcases sR with sR|⟨c,hc,hp⟩
 ·rw[qm sR];simp
 ·rw[drop_at hc,List.takeWhile_cons_of_neg (by rw[hp];decide),cg]
theorem Q1 {p:UInt8->Bool} {x:UInt8}:∀{l:By},x∈l.takeWhile p->p x=true
 | [],h=>by cases h
 |y::l,h=>by
  by_cases hy:p y=true
  ·rw[List.takeWhile_cons_of_pos hy]at h;rcases bS.1 h with rfl|h
   ·exact hy
   ·exact Q1 h
  ·rw[List.takeWhile_cons_of_neg hy]at h;cases h
theorem J0 {i3 i4 i7 i8 i10:Int} {b6:Bool} {s9:By} (hs:s.length<=1000000000) (ha:a<e) (he:e<=s.length) (hc:s[a]? =some c0) (hl:dK c0=true)
  (hw:(s.drop a).takeWhile (λc=>dK c||isDigit c)=(s.take e).drop a):Wp (lJ s a U) λu=>Dv u.n s a i3 i4 e b6 i7 i8 s9 i10 U:=by
 have bX:one (s.drop a)=if words.contains ((s.take e).drop a)then some (2,(s.take e).drop a,0,e-a)else if e-a<=14 then some (1,(s.take e).drop a,0,e-a)else none:=by
  have hlen:=LW (s:=s) (by omega:a<=e) he;rw[drop_at hc]at hw|-;rw[one,if_pos hl];simp only;rw[hw,hlen]
 have yP:ah .i64 ((e:Int)-(a:Int))=((e-a:Nat):Int):=by rw[wrap64 (by omega) (by omega)];omega
 refine Yp ?_;have qu (f:By->Out):lU s (a:Int) (e:Int) f=f ((s.take e).drop a):=by rw[uC ⟨by omega,by omega,by omega⟩];simp
 simp only[qu,yP];refine Wp.eE (Qf:=λr U'=>r=.ret (.slice (some (U.length,0)) words.length (some words.length) 1)/\U'=U++[.cells (words.map .str) (.rw (.row 9))]) ?_ (λv U1 hv=>?_) λv U1 hv=>by cases hv.1
 ·refine Zj ?_;exact Wp.ret ⟨rfl,rfl⟩
 obtain⟨hv,hU⟩:=hv;cases hv;have hu:Up U U1:=by rw[hU];exact Up.app _
 have iG:aF U1 U.length=some (words.map .str):=by rw[hU];unfold aF;rw[bQ (aA _),gJ];rfl
 simp only[aS];refine Wp.eE (abO (by decide) iG _) (λv U2 hv=>?_) λv U2 hv=>by cases hv.2
 obtain⟨Bg,hv⟩:=hv;cases hv;cases Bg;simp only[bp];refine Wp.ite (λhb=>xF (k:=2) (n:=e-a) hu (by rw[bX,if_pos hb]) (by omega)) λhb=>Wp.ite (λh14=>vM hu ?_) λh14=>xF (k:=1) (n:=e-a) hu ?_ (by omega)
 ·rw[decide_eq_true_eq]at h14;rw[bX,if_neg (by rw[hb];decide),if_neg (by omega)]
 ·rw[decide_eq_false_iff_not]at h14;rw[bX,if_neg (by rw[hb];decide),if_pos (by omega)]
theorem agQ {i3 i4 i7 i8 i10:Int} {b6:Bool} {s9:By} (hs:s.length<=1000000000) (ku:s[a]? =some c0) (nG:dK c0=true):∀(k e:Nat),s.length-e<=k->a<=e->e<=s.length->Wh s (λc=>dK c||isDigit c) a e->
  Wp (lJ s a U) λu=>yj u.n u.m1 s a i3 i4 e b6 i7 i8 s9 i10 U:=by
 intro k;have Eh:=(bl.1 ku).1
 induction k with
 |zero=>
  intro e hk ha he hw;refine Nw ?_;exact Wp.neg (by rw[decide_eq_false_iff_not];omega) (J0 hs (by omega) he ku nG (hw.fin (.inl (by omega))))
 |succ k ih=>
  intro e hk ha he hw;refine Nw ?_;by_cases al:e<s.length
  ·obtain⟨c,hc⟩:∃c,s[e]? =some c:=⟨s[e],bk al⟩
   have fY:ah .i64 ((e:Int)+1)=((e+1:Nat):Int):=kP (s:=s) (by omega) (by omega);have nx (hp:(dK c||isDigit c)=true):=ih (e+1) (by omega) (by omega) al (hw.go ha hc hp);simp only[mC hc,fY];refine Wp.pos (by rw[decide_eq_true_eq];omega) (Wp.call (QJ c) (λv U1 hv=>?_) λv U1 hv=>by cases hv.1);obtain⟨hv,rfl⟩:=hv;cases hv;simp only[bp];refine Wp.ite (λh=>nx (by rw[h];rfl)) λhl=>Wp.call (Gz c) (λv U2 hv=>?_) λv U2 hv=>by cases hv.1
   obtain⟨hv,rfl⟩:=hv;cases hv;simp only[bp];refine Wp.ite (λh=>nx (by rw[h,Bool.or_true])) λhd=>J0 hs ?_ he ku nG (hw.fin (.inr ⟨c,hc,by simp only[hl,hd];rfl⟩));by_cases h:a=e
   ·subst h;rw[ku]at hc;cases hc;rw[nG]at hl;cases hl
   ·omega
  ·exact Wp.neg (by rw[decide_eq_false_iff_not];omega) (J0 hs (by omega) he ku nG (hw.fin (.inl (by omega))))
theorem GA {i3 i4 i7 i8 i10:Int} {s9:By} (hs:s.length<=1000000000) (ha:a<e) (he:e<=s.length) (hc:s[a]? =some c0) (hd:isDigit c0=true) (hl:dK c0=false)
  (hw:(s.drop a).takeWhile isDigit=(s.take e).drop a):Wp (lJ s a U) λu=>Dw u.n s a i3 i4 e i7 i8 s9 i10 U:=by
 have hlen:=LW (s:=s) (by omega:a<=e) he;obtain⟨r,hr⟩:∃r,(s.take e).drop a=c0::r:=by
  rw[<-hw,drop_at hc,List.takeWhile_cons_of_pos hd];exact⟨_,rfl⟩
 have iE:∀x∈c0::r,isDigit x=true:=by
  intro x hx;rw[<-hr,<-hw]at hx;exact Q1 hx
 have bX:one (s.drop a)=numOf c0 (c0::r) (jA 64 (c0::r)):=by
  rw[hr]at hw;rw[drop_at hc]at hw|-;rw[one,if_neg (by rw[hl];decide),if_pos hd];simp only;rw[hw]
 rw[adK iE]at bX;refine Yr ?_;have qu (f:By->Out):lU s (a:Int) (e:Int) f=f (c0::r):=by rw[uC ⟨by omega,by omega,by omega⟩];simp[hr]
 simp only[qu];rw[hr]at hlen;refine Wp.call (adI iE (by rw[hlen];omega)) (λv U1 hv=>?_) λv U1 hv=>by cases hv.2
 obtain⟨rfl,hv⟩:=hv;cases hv;have h48:(19<(c0::r).length\/1<(c0::r).length/\(c0::r).head? =some 48)↔(19<(c0::r).length\/1<(c0::r).length/\c0.toNat=48):=by
  have:(c0::r).head? =some 48↔c0.toNat=48:=by
   rw[List.head?_cons,dP];exact⟨λh=>by rw[h];rfl,λh=>ke.1 h⟩
  rw[this]
 unfold B1;by_cases hb:19<(c0::r).length\/1<(c0::r).length/\c0.toNat=48
 ·rw[if_pos (h48.2 hb)];rw[if_pos hb]at bX;simp only[eY,bc,ag,bp,aZ];exact Wp.pos rfl (vM (Up.refl _) bX)
 ·rw[if_neg λh=>hb (h48.1 h)];rw[if_neg hb]at bX;simp only[eY,bc,ag,bp,aZ];refine Wp.ite (λh=>vM (Up.refl _) ?_) λh=>?_
  ·have h:¬dec (c0::r) 0<=9223372036854775807:=by simpa using h
   rw[bX,if_neg h]
  ·have h:dec (c0::r) 0<=9223372036854775807:=by simpa using h
   rw[if_pos h,hlen]at bX;rw[show ah .i64 ((dec (c0::r) 0:Nat):Int)=((dec (c0::r) 0:Nat):Int) by rw[wrap64 (by omega) (by omega)]];exact xF (k:=3) (n:=e-a) (Up.refl _) bX (by omega)
theorem VL {i3 i4 i7 i8 i10:Int} {s9:By} (hs:s.length<=1000000000) (ku:s[a]? =some c0) (Bm:isDigit c0=true) (nG:dK c0=false):∀(k e:Nat),s.length-e<=k->a<=e->e<=s.length->Wh s isDigit a e->
  Wp (lJ s a U) λu=>AU u.n u.m1 s a i3 i4 e i7 i8 s9 i10 U:=by
 intro k;have Eh:=(bl.1 ku).1
 induction k with
 |zero=>
  intro e hk ha he hw;refine Nx ?_;exact Wp.neg (by rw[decide_eq_false_iff_not];omega) (GA hs (by omega) he ku Bm nG (hw.fin (.inl (by omega))))
 |succ k ih=>
  intro e hk ha he hw;refine Nx ?_;by_cases al:e<s.length
  ·obtain⟨c,hc⟩:∃c,s[e]? =some c:=⟨s[e],bk al⟩
   have fY:ah .i64 ((e:Int)+1)=((e+1:Nat):Int):=kP (s:=s) (by omega) (by omega);simp only[mC hc,fY];refine Wp.pos (by rw[decide_eq_true_eq];omega) (Wp.call (Gz c) (λv U1 hv=>?_) λv U1 hv=>by cases hv.1);obtain⟨hv,rfl⟩:=hv;cases hv;simp only[bp];refine Wp.ite (λh=>ih (e+1) (by omega) (by omega) al (hw.go ha hc h)) λhd=>GA hs ?_ he ku Bm nG (hw.fin (.inr ⟨c,hc,hd⟩));by_cases h:a=e
   ·subst h;rw[ku]at hc;cases hc;rw[Bm]at hd;cases hd
   ·omega
  ·exact Wp.neg (by rw[decide_eq_false_iff_not];omega) (GA hs (by omega) he ku Bm nG (hw.fin (.inl (by omega))))
theorem adU (hc:s[a]? =some c0) (h1:dK c0=false) (h2:isDigit c0=false) (h3:c0.toNat≠34) (h4:c0.toNat≠39):one (s.drop a)=(marks.find? λm=>m.isPrefixOf (s.drop a)).map λm=>(5,m,0,m.length):=by
 rw[drop_at hc,one,if_neg (by rw[h1];decide),if_neg (by rw[h2];decide),if_neg h3,if_neg h4]
theorem adm {b:Nat} {i3 i10 i9 i12:Int} {s11:By} {c:On} {U0:St} (hs:s.length<=1000000000) (ha:a<=s.length) (hu:Up U0 U) (hc:aF U b=some (marks.map .str)) (bX:one (s.drop a)=(marks.find? λm=>m.isPrefixOf (s.drop a)).map λm=>(5,m,0,m.length)):
  ∀(k i:Nat),i+k=marks.length->(marks.find? λm=>m.isPrefixOf (s.drop a))=(marks.drop i).find? (λm=>m.isPrefixOf (s.drop a))->
  Wp (lJ s a U0) λu=>yl u.n u.m1 s a i3 (some (b,0)) marks.length c 1 i i9 i10 s11 i12 U:=by
 have PO:marks.length=29:=rfl;intro k
 induction k with
 |zero=>
  intro i hi hf;refine Ny ?_;refine Wp.neg (by rw[decide_eq_false_iff_not];omega) (Yn ?_);exact vM hu (by rw[bX,hf,show marks.drop i=[]from jB (by omega)];rfl)
 |succ k ih=>
  intro i hi hf;obtain⟨y,hy⟩:∃y,marks[i]? =some y:=⟨marks[i],bk (by omega)⟩
  have hy1:1<=y.length/\y.length<=2:=(by decide:∀m∈marks,1<=m.length/\m.length<=2) y (fF hy);have hw:ah .i64 ((i:Int)+1)=((i+1:Nat):Int):=by rw[wrap64 (by omega) (by omega)];omega
  have im:ah .i64 ((a:Int)+(y.length:Int))=((a+y.length:Nat):Int):=by rw[wrap64 (by omega) (by omega)];omega
  have ii (x:Out):ao (i:Int) marks.length x=x:=bm ⟨by omega,by omega⟩;have nz:marks.drop i=y::marks.drop (i+1):=by
   obtain⟨g1,g2⟩:=bl.1 hy;rw[xP g1,g2]
  have iM:(s.take (a+y.length)).drop a=(s.drop a).take y.length:=by rw[List.drop_take];congr 1;omega
  have nx (h:y.isPrefixOf (s.drop a)=false):=ih (i+1) (by omega) (by rw[hf,nz,List.find?_cons,h]);refine Ny ?_;simp only[an,aU,vo hc hy,aG,im,ii];refine Wp.pos (by rw[decide_eq_true_eq];omega) (Wp.ite (λhle=>?_) λnB=>?_)
  ·rw[decide_eq_true_eq]at hle;have qu (f:By->Out):lU s (a:Int) ((a+y.length:Nat):Int) f=f ((s.take (a+y.length)).drop a):=by rw[uC ⟨by omega,by omega,by omega⟩];simp only[fa]
   simp only[qu];refine Ys ?_;simp only[an,aU,vo hc hy,aG,im,hw,ii];refine Wp.ite (λh=>xF (k:=5) (n:=y.length) hu ?_ rfl) λh=>nx ?_
   ·rw[iM,beq_iff_eq]at h;have hp:y.isPrefixOf (s.drop a)=true:=xQ.2 (List.prefix_iff_eq_take.2 h.symm);rw[bX,hf,nz,List.find?_cons,hp];rfl
   ·rw[iM]at h;cases hp:y.isPrefixOf (s.drop a)with
    |false=>rfl
    |true=>
     have:=List.prefix_iff_eq_take.1 (xQ.1 hp);rw[<-this]at h;simp at h
  ·rw[decide_eq_false_iff_not]at nB;refine Yt ?_;simp only[hw];refine nx ?_;cases hp:y.isPrefixOf (s.drop a)with
   |false=>rfl
   |true=>
    have:=(xQ.1 hp).length_le;rw[mr]at this;omega
theorem adS (hs:s.length<=1000000000) (ha:a<=s.length):Fw ae Lb 28 [.str s,.int .i64 (a:Int)] U (lJ s a U):=by
 refine Ym ?_;refine Wp.ite (λgg=>?_) λgg=>?_
 ·rw[decide_eq_true_eq]at gg;exact xF (k:=0) (n:=0) (e:=a) (Up.refl _) (by rw[qm (by omega)];rfl) rfl
 have al:a<s.length:=by rw[decide_eq_false_iff_not]at gg;omega
 obtain⟨c,hc⟩:∃c,s[a]? =some c:=⟨s[a],bk al⟩
 have e34:((c.toNat:Int)==(34:Int))=(c.toNat==34):=cL (b:=34);have e39:((c.toNat:Int)==(39:Int))=(c.toNat==39):=cL (b:=39);simp only[mC hc];refine Wp.call (QJ c) (λv U1 hv=>?_) λv U1 hv=>by cases hv.1
 obtain⟨hv,rfl⟩:=hv;cases hv;simp only[bp];refine Wp.call (Gz c) (λv U2 hv=>?_) λv U2 hv=>by cases hv.1
 obtain⟨hv,rfl⟩:=hv;cases hv;simp only[bp];refine Wp.ite (λhl=>?_) λhl=>?_
 ·exact Wp.cD (F:=λn m=>yj n m s a 0 (c.toNat:Int) a (isDigit c) 0 0 [] 0 U2) (agQ hs hc hl s.length a (by omega) (aA _) ha .zero)
 refine Yo ?_;refine Wp.ite (λhd=>?_) λhd=>?_
 ·exact Wp.cD (F:=λn m=>AU n m s a 0 (c.toNat:Int) a 0 0 [] 0 U2) (VL hs hc hd hl s.length a (by omega) (aA _) ha .zero)
 refine Yq ?_;simp only[e34,e39];have copy (hq:c.toNat=34\/c.toNat=39) {G:Fu->AV->St->Out} (hG:∀v U',lJ s a U2 (.ret v) U'->Wp (lJ s a U2) λu=>G u v U'):Wp (lJ s a U2) λu=>cW ae Lb u.n 67 [.str s,.int .i64 (a:Int)] U2 (G u):=
  Wp.call (aeV hs hc hq) (λv U1 hv=>hG v U1 hv) λv U1 hv=>by obtain⟨_,_,_,_,_,hv,_⟩:=hv;cases hv
 refine Wp.ite (λh34=>?_) λh34=>Wp.ite (λh39=>?_) λh39=>?_
 ·refine copy (.inl (by simpa using h34)) λv U' hv=>?_;obtain⟨hu,k,tx,nn,e,hv,he⟩:=hv;cases hv;simp only[eY,bc,bK,ag,aG,aZ];exact Wp.ret ⟨hu,k,tx,nn,e,rfl,he⟩
 ·refine copy (.inr (by simpa using h39)) λv U' hv=>?_;obtain⟨hu,k,tx,nn,e,hv,he⟩:=hv;cases hv;simp only[eY,bc,bK,ag,aG,aZ];exact Wp.ret ⟨hu,k,tx,nn,e,rfl,he⟩
 ·refine Wp.call (Qf:=λr U'=>r=.ret (.slice (some (U2.length,0)) marks.length (some marks.length) 1)/\U'=U2++[.cells (marks.map .str) (.rw (.row 9))]) ?_ (λv U1 hv=>?_) λv U1 hv=>by cases hv.1
  ·refine Zx ?_;exact Wp.ret ⟨by kernel_rfl,by kernel_rfl⟩
  obtain⟨hv,hU⟩:=hv;cases hv;have hu:Up U2 U1:=by rw[hU];exact Up.app _
  have iG:aF U1 U2.length=some (marks.map .str):=by rw[hU];unfold aF;rw[bQ (aA _),gJ];rfl
  simp only[aS];have h0:=adm (i3:=0) (i9:=0) (i10:=0) (s11:=[]) (i12:=0) (c:=some marks.length) hs ha hu iG (adU hc hl hd (by simpa using h34) (by simpa using h39)) marks.length 0 (dI _) rfl;rw[show((0:Nat):Int)=0 from rfl]at h0;exact Wp.cD (F:=λn m=>yl n m s a 0 (some (U2.length,0)) marks.length (some marks.length) 1 0 0 0 [] 0 U1) h0
end
def dZ (t:Tok):List AV:=[.int .i64 t.kind,.int .i64 t.at_,.str t.text,.int .i64 t.n]
theorem JO (t:Tok):(dZ t).length=4:=rfl
def kN (s:By):Nat->Nat->List Tok
 |0,_=>[]
 |n+1,at_=>match one (s.drop (at_+skip false (s.drop at_)))with
  |none=>[⟨6,at_+skip false (s.drop at_),[],0⟩]
  |some p=>⟨p.1,at_+skip false (s.drop at_),p.2.1,p.2.2.1⟩::if p.1=0 then[]else kN s n (at_+skip false (s.drop at_)+p.2.2.2)
def Km (U0:St) (L:List Tok):bw:=λr U'=>Up U0 U'/\∃(b:Nat) (c:On),r=.ret (.slice (some (b,0)) L.length c 4)/\(∀x,c=some x->L.length<=x)/\U0.length<=b/\U'[b]? =some (.cells (L.flatMap dZ) (.rw (.row 51)))
def TT (U0 U:St) (a:Ad) (n z:Nat) (L:List Tok):Prop:=
 Up U0 U/\((a=none/\n=0/\L=[])\/∃b,a=some (b,0)/\n=L.length/\z=4/\U0.length<=b/\U[b]? =some (.cells (L.flatMap dZ) (.rw (.row 51))))
theorem TT.app {a:Ad} {n z:Nat} {L:List Tok} {t:Tok} {K:Fu->Ad->Nat->On->St->Out} (h:TT U0 U a n z L) (hn:L.length<=1000000000)
  (hk:∀b U',U0.length<=b->U'[b]? =some (.cells ((L++[t]).flatMap dZ) (.rw (.row 51)))->Up U0 U'->Wp Q λu=>K u (some (b,0)) (L++[t]).length none U'):Wp Q λu=>dT U 51 4 40 a n z 1 (dZ t) (K u):=by
 obtain⟨hu,h⟩:=h;rcases h with⟨rfl,rfl,rfl⟩|⟨b,rfl,rfl,rfl,hb,hc⟩
 ·refine Wp.sj (by decide) (by decide) (hk U.length _ hu.len ?_ (hu.trans (Up.app _)));rw[bQ (aA _),gJ];rfl
 ·have hl:(L.flatMap dZ).length=L.length*4:=by
   rw[List.length_flatMap];have:L.map (λx=>(dZ x).length)=L.map λ_=>4:=List.map_congr_left λ_ _=>rfl;rw[this,List.map_const',List.sum_replicate_nat]
  have e0:(((L.flatMap dZ).drop 0).take (L.length*4))=L.flatMap dZ:=by rw[iy,<-hl,j8]
  refine Wp.sk hc (by omega) (by omega) ?_;rw[e0,show L.length+1=(L++[t]).length by simp];refine hk U.length _ hu.len ?_ (hu.I3 hb);rw[bQ (by simp),iA,gJ,List.flatMap_append];simp[iq]
theorem agp {a2:Ad} {n3 z5:Nat} {c4:On} (hs:s.length<=1000000000):∀(k at_:Nat) {U:St} {a:Ad} {n z:Nat} {c8:On} {L:List Tok},s.length-at_<k->at_<=s.length->L.length<=at_->TT U0 U a n z L->
  Wp (Km U0 (L++kN s k at_)) λu=>AB u.n u.m1 s a2 n3 c4 z5 a n c8 z at_ U:=by
 intro k
 induction k with
 |zero=>intro at_ U a n z c8 L hk;omega
 |succ k ih=>
  intro at_ U a n z c8 L hk qs hn h;refine W9 ?_;refine Wp.call (Un hs qs) (λv U1 hv=>?_) λv U1 hv=>by cases hv.2
  obtain⟨rfl,hv⟩:=hv;cases hv;have pG:=(Cc (s.drop at_)).1;rw[mr]at pG;have hw:ah .i64 ((at_:Int)+((skip false (s.drop at_):Nat):Int))=((at_+skip false (s.drop at_):Nat):Int):=by rw[wrap64 (by omega) (by omega)];omega
  simp only[ag,hw];have hf:at_+skip false (s.drop at_)<=s.length:=by omega
  have hL:kN s (k+1) at_=match one (s.drop (at_+skip false (s.drop at_)))with
   |none=>[⟨6,at_+skip false (s.drop at_),[],0⟩]
   |some p=>⟨p.1,at_+skip false (s.drop at_),p.2.1,p.2.2.1⟩::if p.1=0 then[]else kN s k (at_+skip false (s.drop at_)+p.2.2.2):=rfl
  rw[hL];have gg:at_<=at_+skip false (s.drop at_):=Nat.le_add_right _ _;generalize at_+skip false (s.drop at_)=fr at*;refine Wp.call (adS hs hf) (λv U2 hv=>?_) λv U2 hv=>by obtain⟨_,_,_,_,_,hv,_⟩:=hv;cases hv
  obtain⟨hu,kd,tx,nn,e,hv,he⟩:=hv;cases hv;simp only[eY,bc,bK,ag,aG,aZ];have h2:TT U0 U2 a n z L:=⟨h.1.trans hu,by
   rcases h.2 with h|⟨b,h1,h2,h3,h4,h5⟩
   ·exact .inl h
   ·exact .inr ⟨b,h1,h2,h3,h4,by rw[hu.same b (bB h5)];exact h5⟩⟩
  cases ho:one (s.drop fr)with
  |none=>
   rw[ho]at he;obtain⟨rfl,rfl,rfl⟩:=he;refine h2.app (t:=⟨6,fr,[],0⟩) (by omega) λb U' hb hc yS=>?_;exact Wp.neg rfl (Wp.pos rfl (Wp.ret ⟨yS,b,none,rfl,nofun,hb,hc⟩))
  |some p=>
   rw[ho]at he;obtain⟨rfl,rfl,rfl,rfl⟩:=he;refine h2.app (t:=⟨p.1,fr,p.2.1,p.2.2.1⟩) (by omega) λb U' hb hc yS=>?_;have e0:(((p.1:Nat):Int)==(0:Int))=(p.1==0):=cL (b:=0);have e6:(((p.1:Nat):Int)==(6:Int))=(p.1==6):=cL (b:=6);simp only[e0,e6];obtain⟨k1,t1,n1,q1⟩:=p;have hle:=one_le ho;obtain⟨fD,dR,_⟩:=Jb (at_:=fr) ho;rw[mr]at hle;refine Wp.ite (λh0=>?_) λh0=>Wp.neg (by have:=Fi ho;simp;omega) ?_
   ·have h0:k1=0:=by simpa using h0
    simp only[h0,if_true];subst h0;exact Wp.ret ⟨yS,b,none,rfl,nofun,hb,hc⟩
   ·have h0:k1≠0:=by simpa using h0
    have:=dR h0;simp only[if_neg h0];have ih:=ih (fr+q1) (L:=L++[⟨k1,fr,t1,n1⟩]) (U:=U') (a:=some (b,0)) (n:=(L++[(⟨k1,fr,t1,n1⟩:Tok)]).length) (z:=4) (c8:=none) (by omega) (by omega) (by simp;omega) ⟨yS,.inr ⟨b,rfl,rfl,rfl,hb,hc⟩⟩;rw[aO]at ih;exact ih
theorem ago (hs:s.length<=1000000000):Fw ae Lb 15 [.str s] U (Km U (kN s (s.length+1) 0)):=by
 refine W8 ?_;have h0:TT U U none 0 0 []:=⟨Up.refl U,.inl ⟨rfl,rfl,rfl⟩⟩
 have:=agp (L:=[]) (c8:=some 0) (a2:=none) (n3:=0) (z5:=0) (c4:=some 0) hs (s.length+1) 0 (by omega) (j9 _) (aA _) h0;exact Wp.cD (F:=λn m=>AB n m s none 0 (some 0) 0 none 0 (some 0) 0 (0:Nat) U) this
end
end Go.Front
end
section
set_option maxRecDepth 100000
namespace Go.Front
open Go.AM Go.Proofs
theorem TD:dz ae 48=some false:=by kernel_rfl
theorem TI:dz ae 51=some true:=by kernel_rfl
theorem agf:aE ae 51=4:=by kernel_rfl
def rr (l0:AV) (K:Nat) (tv:AV) (d e a:Int):List AV:=[l0,.int .i64 (K:Int),tv,.int .i64 d,.int .i64 e,.int .i64 a]
def SL (L:List Tok):aq:=.cells (L.flatMap dZ) (.rw (.row 51))
abbrev jO (lb:Nat) (L:List Tok) (lc:On):AV:=.slice (some (lb,0)) L.length lc 4
structure RC (s:By) (fr:Fr) (U:St) (p lb:Nat) (L:List Tok) (lc:On) (K:Nat) (tv:AV) (nd:List Node) (d e a:Int):Prop where
 hs:s.length<=1000000000
 bE:∀b o,fr b=some o->U[b]? =some o
 pf:fr p=none
 fl:fr lb=some (SL L)
 c:U[p]? =some (.cells (rr (jO lb L lc) K tv d e a) (.rw (.box 85)))
 hK:K<L.length
 hL:L.length<=1000000001
 hn:fj fr U p tv nd
 bP:nd.length<=4096
structure Tk (s:By) (L:List Tok) (K:Nat) (st:PS (ai s)):Prop where
 aL:st.tok.kind≠6/\(st.tok.kind=5->st.tok.text∈marks)
 pos:st.gV<=s.length
 c:(st.tok.kind=0/\L[K]? =some st.tok/\L.length=K+1/\(ai s).eP st.pos=.inr (st.tok,st.pos))\/(st.tok.kind≠0/\∃k,s.length-st.gV<k/\L.drop K=st.tok::kN s k st.gV)
theorem Tk.at_ {s:By} {L:List Tok} {K:Nat} {st:PS (ai s)} (h:Tk s L K st):L[K]? =some st.tok:=by
 rcases h.c with⟨_,h,_⟩|⟨_,k,_,h⟩
 ·exact h
 ·rw[<-List.head?_drop,h];rfl
def Md (s:By) (L:List Tok) (K:Nat) (nd:List Node) (d e:Int):Option (PS (ai s))->Prop
 |some st=>e=0/\nd=st.nodes/\d=(st.deep:Int)/\st.deep<=40/\Tk s L K st
 |none=>e≠0
def Rf (s:By) (fr:Fr) (U:St) (p:Nat) (w:Option (PS (ai s))):Prop:=∃lb L lc K tv nd d e a,RC s fr U p lb L lc K tv nd d e a/\Md s L K nd d e w
def HO {α:Type} {s:By} (w:Option (PS (ai s))) (m:PM (ai s) α) (o:Except bd (α×PS (ai s))):Prop:=(∀st,w=some st->m st=some o)/\(w=none->∃e,o=.error e)
def RQ {α:Type} (s:By) (fr:Fr) (p:Nat) (enc:α->AV) (o:Except bd (α×PS (ai s))):bw:=λr U'=>
 ∃(a:α) (w:Option (PS (ai s))),r=.ret (enc a)/\Rf s fr U' p w/\match w with|some st=>o=.ok (a,st)|none=>∃e,o=.error e
def Sr {α:Type} (s:By) (f:FuncId) (xs:List AV) (enc:α->AV) (m:PM (ai s) α):Prop:=
 ∀(fr:Fr) (U:St) (p:Nat) (w:Option (PS (ai s))) (o:Except bd (α×PS (ai s))),Rf s fr U p w->HO w m o->Fw ae Lb f (.ptr (some (p,0))::xs) U (RQ s fr p enc o)
def fO (t:Tok):AV:=.agg (dZ t)
section
variable {s:By} {fr ed:Fr} {U U':St} {p lb K:Nat} {L:List Tok} {lc:On} {tv:AV} {nd:List Node} {d e a:Int} {w:Option (PS (ai s))} {α β γ:Type} {enc:α->AV} {ot:β->AV} {f:FuncId} {xs:List AV} {Q:bw}
theorem Rf.BY {st:PS (ai s)} (hT:Tk s L K st) (hr:RC s fr U p lb L lc K tv nd d e a) (he:e=0) (h1:nd=st.nodes) (h2:d=(st.deep:Int)) (h3:st.deep<=40):Rf s fr U p (some st):=⟨lb,L,lc,K,tv,nd,d,e,a,hr,he,h1,h2,h3,hT⟩
theorem HO.ok {st st':PS (ai s)} {m:PM (ai s) α} {k:α->PM (ai s) β} {o:Except bd (β×PS (ai s))} (h:HO (some st) (m>>=k) o):(∃e,m st=some (.error e)/\o=.error e)\/∃a st',m st=some (.ok (a,st'))/\HO (some st') (k a) o:=by
 rcases PM.bind_some (h.1 st rfl)with h|⟨a,st',h1,h2⟩
 ·exact .inl h
 ·exact .inr ⟨a,st',h1,λx hx=>by cases hx;exact h2,nofun⟩
theorem Rf.sw {args:List AV} {m:PM (ai s) α} {k:α->PM (ai s) β} {o:Except bd (β×PS (ai s))} {KK:Fu->AV->St->Out} (hf:∀o1,HO w m o1->Fw ae Lb f args U (RQ s fr p enc o1)) (ho:HO w (m>>=k) o)
  (hk:∀a w1 U1,Rf s fr U1 p w1->HO w1 (k a) o->Wp Q λu=>KK u (enc a) U1):(Wp Q λu=>cW ae Lb u.n f args U (KK u))/\Wp Q λu=>cZ ae Lb u.n f args U (KK u):=by
 have go (o1:Except bd (α×PS (ai s))) (h1:HO w m o1) (h2:∀a st',o1=.ok (a,st')->HO (some st') (k a) o) (h3:(∃e,o1=.error e)->∃e,o=.error e):(Wp Q λu=>cW ae Lb u.n f args U (KK u))/\Wp Q λu=>cZ ae Lb u.n f args U (KK u):=by
  have hx (v:AV) (U':St) (hv:RQ s fr p enc o1 (.ret v) U'):Wp Q λu=>KK u v U':=by
   obtain⟨x,w',hv,hr,hm⟩:=hv;cases hv;cases w' with
   |some st'=>exact hk x _ U' hr (h2 x st' hm)
   |none=>exact hk x _ U' hr ⟨nofun,λ_=>h3 hm⟩
  have hn (v:AV) (U':St):¬RQ s fr p enc o1 (.pan v) U':=λhv=>by obtain⟨_,_,hv,_⟩:=hv;cases hv
  exact⟨Wp.call (hf o1 h1) hx λv U' hv=>absurd hv (hn v U'),Wp.eE (hf o1 h1) hx hn⟩
 cases w with
 |some st=>
  rcases ho.ok (st':=st)with⟨e,h1,h2⟩|⟨x,st',h1,h2⟩
  ·exact go (.error e) ⟨λx hx=>by cases hx;exact h1,nofun⟩ (λ_ _ h=>by cases h) λ_=>⟨e,h2⟩
  ·exact go (.ok (x,st')) ⟨λy hy=>by cases hy;exact h1,nofun⟩ (λy z h=>by cases h;exact h2) λ⟨_,h⟩=>by cases h
 |none=>
  obtain⟨e,he⟩:=ho.2 rfl;exact go (.error e) ⟨nofun,λ_=>⟨e,rfl⟩⟩ (λ_ _ h=>by cases h) λ_=>⟨e,he⟩
theorem Rf.call {m:PM (ai s) α} {k:α->PM (ai s) β} {o:Except bd (β×PS (ai s))} {KK:Fu->AV->St->Out} (hf:Sr s f xs enc m) (h:Rf s fr U p w) (ho:HO w (m>>=k) o)
  (hk:∀a w1 U1,Rf s fr U1 p w1->HO w1 (k a) o->Wp Q λu=>KK u (enc a) U1):Wp Q λu=>cW ae Lb u.n f (.ptr (some (p,0))::xs) U (KK u):=(Rf.sw (λo1 h1=>hf fr U p w o1 h h1) ho hk).1
theorem Rf.ret {x:α} {o:Except bd (α×PS (ai s))} (h:Rf s fr U p w) (ho:HO w (pure x:PM (ai s) α) o):Wp (RQ s fr p enc o) λ_=>some (.ret (enc x),U):=by
 refine Wp.ret ⟨x,w,rfl,h,?_⟩;cases w with
 |some st=>have:=ho.1 st rfl;rw[PM.zq]at this;cases this;rfl
 |none=>exact ho.2 rfl
theorem Rf.idle {x:α} {o:Except bd (α×PS (ai s))} (h:Rf s fr U p none) (ho:∃e,o=.error e):Wp (RQ s fr p enc o) λ_=>some (.ret (enc x),U):=Wp.ret ⟨x,none,rfl,h,ho⟩
theorem Rf.last {m:PM (ai s) α} {o:Except bd (α×PS (ai s))} {KK:Fu->AV->St->Out} (hf:Sr s f xs enc m) (h:Rf s fr U p w) (ho:HO w m o) (hk:∀u a U1,KK u (enc a) U1=some (.ret (enc a),U1)):
  Wp (RQ s fr p enc o) λu=>cW ae Lb u.n f (.ptr (some (p,0))::xs) U (KK u):=by
 refine Wp.call (hf fr U p w o h ho) (λv U' hv=>?_) λv U' hv=>by obtain⟨_,_,hv,_⟩:=hv;cases hv
 obtain⟨x,w',hv,hr,hm⟩:=hv;cases hv;simp only[hk];exact Wp.ret ⟨x,w',rfl,hr,hm⟩
theorem RC.cc (h:RC s fr U p lb L lc K tv nd d e a):aF U p=some (rr (jO lb L lc) K tv d e a):=by unfold aF;rw[h.c]
theorem RC.lL (h:RC s fr U p lb L lc K tv nd d e a) (f:AV->Out):aI ae 48 U p (0+0) f=f (jO lb L lc):=cq h.cc TD rfl
theorem RC.lK (h:RC s fr U p lb L lc K tv nd d e a) (f:AV->Out):aI ae 3 U p (0+1) f=f (.int .i64 (K:Int)):=cq h.cc fA rfl
theorem RC.lT (h:RC s fr U p lb L lc K tv nd d e a) (f:AV->Out):aI ae 24 U p (0+2) f=f tv:=cq h.cc Cz rfl
theorem RC.lD (h:RC s fr U p lb L lc K tv nd d e a) (f:AV->Out):aI ae 3 U p (0+3) f=f (.int .i64 d):=cq h.cc fA rfl
theorem RC.lE (h:RC s fr U p lb L lc K tv nd d e a) (f:AV->Out):aI ae 3 U p (0+4) f=f (.int .i64 e):=cq h.cc fA rfl
theorem RC.IP (h:RC s fr U p lb L lc K tv nd d e a):aF U lb=some (L.flatMap dZ):=by unfold aF;rw[h.bE _ _ h.fl];rfl
theorem RC.get (h:RC s fr U p lb L lc K tv nd d e a):∃t,L[K]? =some t:=⟨L[K]'h.hK,bk h.hK⟩
theorem RC.ix (h:RC s fr U p lb L lc K tv nd d e a) (x:Out):ao (K:Int) L.length x=x:=bm ⟨by omega,by have:=h.hK;omega⟩
theorem RC.tok {t:Tok} (h:RC s fr U p lb L lc K tv nd d e a) (ht:L[K]? =some t) (f:AV->Out):aI ae 51 U lb (0+((K:Int)).toNat*4) f=f (fO t):=by
 unfold aI;rw[h.IP];exact xr (enc:=dZ) (s:=4) JO TI agf ht (by simp)
theorem RC.FL {t:Tok} (h:RC s fr U p lb L lc K tv nd d e a) (ht:L[K]? =some t) (f:AV->Out):aI ae 3 U lb ((0+((K:Int)).toNat*4)+0) f=f (.int .i64 t.kind):=
 cq h.IP fA (by have:=sL (enc:=dZ) (s:=4) JO ht (j:=0) (by omega);simpa[dZ]using this)
theorem RC.kL {t:Tok} (h:RC s fr U p lb L lc K tv nd d e a) (ht:L[K]? =some t) (f:AV->Out):aI ae 3 U lb ((0+((K:Int)).toNat*4)+1) f=f (.int .i64 t.at_):=
 cq h.IP fA (by have:=sL (enc:=dZ) (s:=4) JO ht (j:=1) (by omega);simpa[dZ]using this)
theorem RC.put {K':Nat} {d' e' a':Int} (h:RC s fr U p lb L lc K tv nd d e a) (hK:K'<L.length):RC s fr (U.set p (.cells (rr (jO lb L lc) K' tv d' e' a') (.rw (.box 85)))) p lb L lc K' tv nd d' e' a' where
 hs:=h.hs
 bE b o hb:=by rw[aD (λe=>by subst e;rw[h.pf]at hb;cases hb)];exact h.bE b o hb
 pf:=h.pf
 fl:=h.fl
 c:=cM (bB h.c)
 hK:=hK
 hL:=h.hL
 hn:=h.hn.mono λb _ hb=>aD (cY hb)
 bP:=h.bP
theorem RC.zC (h:RC s fr U p lb L lc K tv nd d e a) {off:Nat} {x:AV} {cs:List AV} (hl:off+1<=6) (hc:eA (rr (jO lb L lc) K tv d e a) (0+off) [x]=cs) (f:St->Out):aT U p (0+off) [x] f=f (U.set p (.cells cs (.rw (.box 85)))):=by
 unfold aT;rw[h.c];simp only;rw[if_pos (by simp[rr];omega),hc]
theorem J2 {c:Int} (h:RC s fr U p lb L lc K tv nd d e a) (hc:c≠0):Fw ae Lb 29 [.ptr (some (p,0)),.int .i64 c] U λr U'=>r=.ret (.tuple [])/\∃e' a',e'≠0/\RC s fr U' p lb L lc K tv nd d e' a':=by
 obtain⟨t,ht⟩:=h.get;refine Yu ?_;simp only[an,h.lE,ag];refine Wp.ite (λh0=>?_) λh0=>Wp.ret ⟨rfl,e,a,by simpa using h0,h⟩;have h1:RC s fr _ p lb L lc K tv nd d c a:=h.put h.hK;simp only[h.zC (off:=4) (x:=.int .i64 c) (cs:=rr (jO lb L lc) K tv d c a) (by omega) rfl,h1.lL,aS,h1.lK,ag,h1.ix,an,aU,h1.kL ht];have h2:RC s fr _ p lb L lc K tv nd d c t.at_:=h1.put h1.hK;simp only[h1.zC (off:=5) (x:=.int .i64 (t.at_:Int)) (cs:=rr (jO lb L lc) K tv d c t.at_) (by omega) rfl];exact Wp.ret ⟨rfl,c,_,hc,h2⟩
theorem Rf.nW {c:Int} {o:Except bd (α×PS (ai s))} {KK:Fu->AV->St->Out} (h:Rf s fr U p w) (hc:c≠0) (ho:HO w (oT c:PM (ai s) α) o) (hk:∀U1,Rf s fr U1 p none->(∃e,o=.error e)->Wp Q λu=>KK u (.tuple []) U1):
  Wp Q λu=>cW ae Lb u.n 29 [.ptr (some (p,0)),.int .i64 c] U (KK u):=by
 obtain⟨lb,L,lc,K,tv,nd,d,e,a,hr,hm⟩:=h;refine Wp.call (J2 hr hc) (λv U' hv=>?_) λv U' hv=>by cases hv.1
 obtain⟨hv,e',a',he,gy⟩:=hv;cases hv;refine hk U' ⟨lb,L,lc,K,tv,nd,d,e',a',gy,he⟩ ?_;cases w with
 |some st=>have:=ho.1 st rfl;unfold oT at this;cases this;exact⟨_,rfl⟩
 |none=>exact ho.2 rfl
theorem Qr (m:By):Sr s 92 [.str m] cO (jq m):=by
 intro fr U p w o h ho;obtain⟨lb,L,lc,K,tv,nd,d,e,a,hr,hm⟩:=h;obtain⟨t,ht⟩:=hr.get;refine Oz ?_;have e2:((t.kind:Int)==(2:Int))=(t.kind==2):=cL (b:=2);have e5:((t.kind:Int)==(5:Int))=(t.kind==5):=cL (b:=5);simp only[an,hr.lL,aS,hr.lK,ag,hr.ix,aU,hr.tok ht,fO,dZ,bK,bc,aG,aZ,hr.lE,e2,e5];cases w with
 |some st=>
  obtain⟨he,h1,h2,h3,hT⟩:=hm;rw[hT.at_]at ht;cases ht;have:=ho.1 st rfl;unfold jq at this;cases this;have fin {b:Bool} (hb:b=br st.tok m):Wp (RQ s fr p cO (.ok (br st.tok m,st))) λ_=>some (.ret (.bool b),U):=Wp.ret ⟨b,some st,rfl,⟨lb,L,lc,K,tv,nd,d,e,a,hr,he,h1,h2,h3,hT⟩,by rw[hb]⟩;refine Wp.pos (by rw[he];rfl) (Wp.ite (λh=>fin ?_) λh=>Wp.ite (λh'=>fin ?_) λh'=>fin ?_)
  ·unfold br;rw[h];rfl
  ·unfold br;rw[h,h'];rfl
  ·unfold br;rw[h,h'];rfl
 |none=>
  have he:e≠0:=hm;exact Wp.neg (by simpa using he) (Rf.idle (x:=false) ⟨lb,L,lc,K,tv,nd,d,e,a,hr,hm⟩ (ho.2 rfl))
theorem Fc {q:Nat}:(ai s).eP q=match one (s.drop (q+skip false (s.drop q)))with
  |none=>.inl (q+skip false (s.drop q))
  |some p=>.inr (⟨p.1,q+skip false (s.drop q),p.2.1,p.2.2.1⟩,q+skip false (s.drop q)+p.2.2.2):=by
 show(match cut s q with|(f,none)=>Sum.inl f|(_,some (t,q))=>Sum.inr (t,q))=_;unfold cut;simp only;cases one (s.drop (q+skip false (s.drop q)))<;>rfl
theorem Tk.of {k q:Nat} {t:Tok} {q':Nat} {nd:List Node} {dp:Nat} (hq:q<=s.length) (hk:s.length-q<k) (hL:L.drop K=kN s k q) (hx:(ai s).eP q=.inr (t,q')):Tk s L K ⟨t,q',nd,dp⟩:=by
 rw[Fc]at hx;obtain⟨k,rfl⟩:∃k',k=k'+1:=⟨k-1,by omega⟩
 rw[kN]at hL;have pG:=(Cc (s.drop q)).1;rw[mr]at pG;have gg:q<=q+skip false (s.drop q):=Nat.le_add_right _ _;have hle:q+skip false (s.drop q)<=s.length:=by omega
 generalize q+skip false (s.drop q)=fr at*;cases ho:one (s.drop fr)with
 |none=>rw[ho]at hx;cases hx
 |some p=>
  rw[ho]at hx hL;obtain⟨k1,t1,n1,q1⟩:=p;simp only at hx hL;cases hx;have h1:=Fi ho;have h2:=one_le ho;rw[mr]at h2;obtain⟨_,h3,h4⟩:=Jb (at_:=fr) ho;refine⟨⟨by simp only;omega,λh5=>adT (by simp only at h5;rw[h5]at ho;exact ho)⟩,by show fr+q1<=s.length;omega,?_⟩;by_cases h0:k1=0
  ·subst h0;rw[if_pos rfl]at hL;left;have hd:=h4 rfl;rw[hd]at ho;simp only[one,dP,eQ]at ho;obtain⟨_,rfl,rfl,rfl⟩:=ho;have hl:(L.drop K).length=1:=by rw[hL];rfl
   rw[mr]at hl;refine⟨rfl,by rw[<-List.head?_drop,hL];rfl,by omega,?_⟩;show(ai s).eP fr=_;rw[Fc,hd];simp[skip,one,hd]
  ·rw[if_neg h0]at hL;exact .inr ⟨h0,k,by show s.length-(fr+q1)<k;have:=h3 h0;omega,hL⟩
theorem pR:Sr s 93 [] fO (cU:PM (ai s) Tok):=by
 intro fr U p w o h ho;obtain⟨lb,L,lc,K,tv,nd,d,e,a,hr,hm⟩:=h;obtain⟨t,ht⟩:=hr.get;have hL:=hr.hL;refine aac ?_;have hw:ah .i64 ((K:Int)+1)=((K+1:Nat):Int):=by have:=hr.hK;rw[wrap64 (by omega) (by omega)];omega
 simp only[an,hr.lL,aS,hr.lK,ag,hr.ix,aU,hr.tok ht,fO,dZ,bK,bc,aG,aZ,hr.lE,hw];cases w with
 |none=>
  have he:e≠0:=hm;refine Wp.neg (by simpa using he) (aae ?_);exact Rf.idle (enc:=fO) (x:=t) ⟨lb,L,lc,K,tv,nd,d,e,a,hr,hm⟩ (ho.2 rfl)
 |some st=>
  obtain⟨he,h1,h2,h3,hT⟩:=hm;rw[hT.at_]at ht;cases ht;have hn:=ho.1 st rfl;unfold cU at hn;refine Wp.pos (by rw[he];rfl) (aad ?_);rcases hT.c with⟨dD,qs,hlen,hx⟩|⟨dD,k,hk,nz⟩
  ·rw[hx]at hn;cases hn;refine Wp.neg (by rw[decide_eq_false_iff_not];omega) ?_;exact Wp.ret ⟨st.tok,some st,rfl,⟨lb,L,lc,K,tv,nd,d,e,a,hr,he,h1,h2,h3,hT⟩,rfl⟩
  ·have uR:L.drop (K+1)=kN s k st.gV:=by rw[<-oX,nz];rfl
   obtain⟨k,rfl⟩:∃k',k=k'+1:=⟨k-1,by omega⟩
   have bD:kN s (k+1) st.gV≠[]:=by
    rw[kN];cases one (s.drop (st.gV+skip false (s.drop st.gV)))<;>simp
   have hlen:K+1<L.length:=by
    rcases gu (K+1) L.length with h|h
    ·exact h
    ·rw[jB h]at uR;exact absurd uR.symm bD
   refine Wp.pos (by rw[decide_eq_true_eq];omega) ?_;have il:RC s fr _ p lb L lc (K+1) tv nd d e a:=hr.put hlen;obtain⟨t1,pI⟩:=il.get;simp only[an,hr.lK,ag,hw,hr.zC (off:=1) (x:=.int .i64 ((K+1:Nat):Int)) (cs:=rr (jO lb L lc) (K+1) tv d e a) (by omega) rfl,il.lL,aS,il.lK,il.ix,aU,il.FL pI];have e6:((t1.kind:Int)==(6:Int))=(t1.kind==6):=cL (b:=6);rw[e6];have hx:=@Fc s st.gV;have hh:L.drop (K+1)=kN s (k+1) st.gV:=uR;rw[kN]at uR;have Eu:(L.drop (K+1)).head? =some t1:=by rw[List.head?_drop];exact pI
   cases bX:one (s.drop (st.gV+skip false (s.drop st.gV)))with
   |none=>
    rw[bX]at uR hx;rw[uR]at Eu;cases Eu;have hx:(ai s).eP st.pos=.inl _:=hx;rw[hx]at hn;cases hn;refine Wp.pos rfl (Wp.call (J2 il (by decide)) (λv U' hv=>?_) λv U' hv=>by cases hv.1);obtain⟨hv,e',a',bn,gy⟩:=hv;cases hv;exact Wp.ret ⟨st.tok,none,rfl,⟨lb,L,lc,K+1,tv,nd,d,e',a',gy,bn⟩,_,rfl⟩
   |some q=>
    rw[bX]at uR hx;rw[uR]at Eu;cases Eu;have hx:(ai s).eP st.pos=.inr (_,_):=hx;rw[hx]at hn;cases hn;have:=Fi bX;have hT':Tk s L (K+1) ⟨_,_,st.nodes,st.deep⟩:=Tk.of hT.pos hk hh hx;exact Wp.neg (by simp;omega) (Wp.ret ⟨st.tok,_,rfl,Rf.BY hT' il he h1 h2 h3,rfl⟩)
theorem kK (m:By):Sr s 69 [.str m] cO (ep m:PM (ai s) Bool):=by
 intro fr U p w o h ho;refine N9 ?_;unfold ep at ho;refine Rf.call (Qr m) h ho λb w1 U1 h ho=>?_;simp only[cO,bp];refine Wp.ite (λhb=>?_) λhb=>?_
 ·simp only[hb,if_true]at ho|-;refine Rf.call pR h ho λt w1 U1 h ho=>?_;simp only[fO,dZ,bK,bc,ag,aG,aZ];exact Rf.ret (enc:=cO) h ho
 ·simp only[hb,aW,if_false]at ho|-;exact Rf.ret (enc:=cO) h ho
theorem adu {m:By} {S:hJ}:(eL m:PM S Unit)=ep m>>=λb=>if b then pure ()else oT 13:=by
 unfold eL ep;simp only[PM.bind_assoc,PM.jN,PM.pure_bind,if_true,aW,if_false]
theorem iQ (m:By):Sr s 70 [.str m] tS (eL m:PM (ai s) Unit):=by
 intro fr U p w o h ho;refine Zy ?_;rw[adu]at ho;refine Rf.call (kK m) h ho λb w1 U1 h ho=>?_;simp only[cO,bp];cases b with
 |true=>exact Wp.neg rfl (Rf.ret (enc:=tS) h ho)
 |false=>exact Wp.pos rfl (Rf.nW h (by decide) ho λU1 h ho=>Rf.idle (enc:=tS) (x:=()) h ho)
theorem EK (k:Nat):Sr s 71 [.int .i64 (k:Int)] fO (me k:PM (ai s) Tok):=by
 intro fr U p w o h ho;have h0:=h;obtain⟨lb,L,lc,K,tv,nd,d,e,a,hr,hm⟩:=h;obtain⟨t,ht⟩:=hr.get;refine Zz ?_;have ek:((t.kind:Int) !=(k:Int))=(t.kind !=k):=xl;simp only[an,hr.lE,ag,hr.lL,aS,hr.lK,hr.ix,aU,hr.FL ht,ek];cases w with
 |none=>
  have he:e≠0:=hm;refine Wp.pos (by simpa using he) (Rf.nW (α:=Tok) h0 (by decide) ⟨nofun,ho.2⟩ λU1 h ho=>?_);exact Rf.idle (enc:=fO) (x:=⟨0,0,[],0⟩) h ho
 |some st=>
  obtain⟨he,h1,h2,h3,hT⟩:=hm;rw[hT.at_]at ht;cases ht;have hk:=ho.1 st rfl;have hk:(if st.tok.kind=k then cU else oT 13:PM (ai s) Tok) st=some o:=hk;refine Wp.neg (by rw[he];rfl) (Wp.ite (λhn=>?_) λhn=>?_)
  ·have hn:st.tok.kind≠k:=by simpa using hn
   rw[if_neg hn]at hk;refine Rf.nW (α:=Tok) h0 (by decide) ⟨λx hx=>by cases hx;exact hk,nofun⟩ λU1 h ho=>?_;exact Rf.idle (enc:=fO) (x:=⟨0,0,[],0⟩) h ho
  ·have hn:st.tok.kind=k:=by simpa using hn
   rw[if_pos hn]at hk;refine Rf.last pR h0 ⟨λx hx=>by cases hx;exact hk,nofun⟩ λu x U1=>?_;simp only[fO,dZ,bK,bc,ag,aG,aZ]
end
end Go.Front
end
section
set_option maxRecDepth 100000
namespace Go.Front
open Go.AM Go.Proofs
inductive KF (s:By) (fr:Fr) (U:St) (p:Nat) (w:Option (PS (ai s))):AV->List Nat->Prop
 |zero (z:Nat) (h:Rf s fr U p w):KF s fr U p w (.slice none 0 (some 0) z) []
 |one {kids:List Nat} (b:Nat) (c:On) (hc:∀x,c=some x->kids.length<=x) (hf:fr b=none) (h:Rf s (ins fr b (rG kids)) U p w):KF s fr U p w (.slice (some (b,0)) kids.length c 1) kids
section
variable {s:By} {fr ed:Fr} {U U':St} {p lb K:Nat} {L:List Tok} {lc:On} {tv v:AV} {nd:List Node} {d e a:Int} {w:Option (PS (ai s))} {α β γ:Type} {enc:α->AV} {ot:β->AV} {f:FuncId} {xs:List AV} {Q:bw} {kids:List Nat}
theorem RC.iW {b:Nat} (h:RC s (ins fr b (rG kids)) U p lb L lc K tv nd d e a) (hf:fr b=none):RC s fr U p lb L lc K tv nd d e a:=
 ⟨h.hs,λx y hx=>h.bE x y (qz hf hx),qy hf h.pf,by
  have:=h.fl;by_cases e:lb=b
  ·subst e;rw[iN]at this;simp[rG,SL]at this
  ·rwa [jL e]at this,h.c,h.hK,h.hL,h.hn.iW hf,h.bP⟩
theorem Rf.iW {b:Nat} (h:Rf s (ins fr b (rG kids)) U p w) (hf:fr b=none):Rf s fr U p w:=
 let⟨lb,L,lc,K,tv,nd,d,e,a,hr,hm⟩:=h;⟨lb,L,lc,K,tv,nd,d,e,a,hr.iW hf,hm⟩
theorem KF.rf (h:KF s fr U p w v kids):Rf s fr U p w:=by
 cases h with
 |zero z h=>exact h
 |one b c hc hf h=>exact h.iW hf
theorem KF.xf (h:KF s fr U p w v kids):∃ed,Rf s ed U p w/\∀U' w',Rf s ed U' p w'->KF s fr U' p w' v kids:=by
 cases h with
 |zero z h=>exact⟨fr,h,λU' w' h'=>.zero z h'⟩
 |one b c hc hf h=>exact⟨_,h,λU' w' h'=>.one b c hc hf h'⟩
theorem KF.slice (h:KF s fr U p w v kids):∃a n c z,v=.slice a n c z:=by cases h<;>exact⟨_,_,_,_,rfl⟩
theorem RC.lt (h:RC s fr U p lb L lc K tv nd d e a):p<U.length:=bB h.c
theorem RC.lV (h:RC s fr U p lb L lc K tv nd d e a) {b:Nat} (hb:U.length<=b):fr b=none:=by
 cases hf:fr b with
 |none=>rfl
 |some o=>have:=bB (h.bE b o hf);omega
theorem RC.new (h:RC s fr U p lb L lc K tv nd d e a) (kids:List Nat):RC s (ins fr U.length (rG kids)) (U++[rG kids]) p lb L lc K tv nd d e a:=by
 have al:=h.lt;have H5:=bB (h.bE _ _ h.fl);refine⟨h.hs,λx y hx=>?_,by rw[jL (by omega)];exact h.pf,by rw[jL (by omega)];exact h.fl,by rw[bO al];exact h.c,h.hK,h.hL,?_,h.bP⟩
 ·by_cases e:x=U.length
  ·subst e;rw[iN]at hx;cases hx;rw[bQ (aA _),gJ];rfl
  ·rw[jL e]at hx;rw[bO (bB (h.bE x y hx))];exact h.bE x y hx
 ·exact(h.hn.to (aA _)).mono λb hb _=>bO hb
theorem fj.dead {b:Nat} {o:aq} (hn:fj (ins fr b o) U p tv nd) (hf:fr b=none):fj fr (U.set b .dead) p tv nd:=by
 have hx {x:Nat} (hx:ins fr b o x=none):b≠x:=λe=>by subst e;rw[iN]at hx;cases hx
 cases hn with
 |zero z=>exact .zero z
 |one tb l hb gQ hp hk=>
  refine .one tb l (by rw[aD (hx gQ)];exact hb) (qy hf gQ) hp λy hy=>?_;have:=hk y hy;revert this;generalize y.2=v;generalize y.1.kids=kids;intro this;cases this with
  |zero z=>exact .zero z
  |one x c hc qx yF Eo ht=>exact .one x c hc (by rw[aD (hx yF)];exact qx) (qy hf yF) Eo ht
theorem Rf.new {n:Nat} {c:On} {o:aq} (h:Rf s fr U p w) (kids:List Nat) (ho:o=rG kids) (hn:n=kids.length) (hc:c=none\/c=some n):KF s fr (U++[o]) p w (.slice (some (U.length,0)) n c 1) kids:=by
 obtain⟨lb,L,lc,K,tv,nd,d,e,a,hr,hm⟩:=h;subst ho hn;exact .one U.length c (λx hx=>by rcases hc with rfl|rfl<;>cases hx;exact aA _) (hr.lV (aA _)) ⟨lb,L,lc,K,tv,nd,d,e,a,hr.new kids,hm⟩
theorem KF.sw {m:PM (ai s) α} {k:α->PM (ai s) β} {o:Except bd (β×PS (ai s))} {KK:Fu->AV->St->Out} (hf:Sr s f xs enc m) (h:KF s fr U p w v kids) (ho:HO w (m>>=k) o)
  (hk:∀a w1 U1,KF s fr U1 p w1 v kids->HO w1 (k a) o->Wp Q λu=>KK u (enc a) U1):(Wp Q λu=>cW ae Lb u.n f (.ptr (some (p,0))::xs) U (KK u))/\Wp Q λu=>cZ ae Lb u.n f (.ptr (some (p,0))::xs) U (KK u):=by
 obtain⟨ed,h1,h2⟩:=h.xf;exact Rf.sw (λo1 h5=>hf ed U p w o1 h1 h5) ho λa w1 U1 h3 h4=>hk a w1 U1 (h2 U1 w1 h3) h4
theorem KF.call {m:PM (ai s) α} {k:α->PM (ai s) β} {o:Except bd (β×PS (ai s))} {KK:Fu->AV->St->Out} (hf:Sr s f xs enc m) (h:KF s fr U p w v kids) (ho:HO w (m>>=k) o)
  (hk:∀a w1 U1,KF s fr U1 p w1 v kids->HO w1 (k a) o->Wp Q λu=>KK u (enc a) U1):Wp Q λu=>cW ae Lb u.n f (.ptr (some (p,0))::xs) U (KK u):=(KF.sw hf h ho hk).1
theorem KF.app {a:Ad} {n z:Nat} {c:On} {x:Nat} {y:AV} {KK:Fu->Ad->Nat->On->St->Out} (h:KF s fr U p w (.slice a n c z) kids) (hy:y=.int .i64 (x:Int)) (hl:kids.length<=1000000000)
  (hk:∀b U',KF s fr U' p w (.slice (some (b,0)) (kids.length+1) none 1) (kids++[x])->Wp Q λu=>KK u (some (b,0)) (kids.length+1) none U'):
  Wp Q λu=>dT U 3 1 8 a n z 1 [y] (KK u):=by
 subst hy;cases h with
 |zero z h=>exact Wp.sj (by decide) (by decide) (hk U.length _ (h.new [x] rfl rfl (.inl rfl)))
 |one b c hc hf h=>
  obtain⟨lb,L,lc,K,tv,nd,d,e,a,hr,hm⟩:=h;have hb:=hr.bE b _ iN;refine Wp.sk hb (by rw[EH];omega) (by omega) ?_;have e0:((gE kids).drop 0).take (kids.length*1)=gE kids:=by rw[iy,lC,<-EH,j8]
  rw[e0];have D9:b≠p:=λe=>by subst e;have:=hr.pf;rw[iN]at this;cases this
  have hw:=hr.iW hf;have hd:RC s fr (U.set b .dead) p lb L lc K tv nd d e a:=by
   refine⟨hw.hs,λx y hx=>?_,hw.pf,hw.fl,by rw[aD D9];exact hw.c,hw.hK,hw.hL,?_,hw.bP⟩
   ·rw[aD (λe=>by subst e;rw[hf]at hx;cases hx)];exact hw.bE x y hx
   ·exact fj.dead hr.hn hf
  have h2:Rf s fr (U.set b .dead) p w:=⟨lb,L,lc,K,tv,nd,d,e,a,hd,hm⟩
  have h3:=h2.new (kids++[x]) (n:=kids.length+1) (c:=none) (o:=.cells (gE kids++[.int .i64 (x:Int)]) (.rw (iq (.row 3) 3))) (by simp[rG,gE,iq]) (by simp) (.inl rfl);rw[iA]at h3;exact hk U.length _ h3
theorem KF.kv (h:KF s fr U p w v kids):∃lb L lc K tv nd d e a,RC s fr U p lb L lc K tv nd d e a/\Md s L K nd d e w/\∀tb,(∃n c z,tv=.slice (some (tb,0)) n c z)\/U.length<=tb->KV fr U p tb v kids:=by
 cases h with
 |zero z h=>
  obtain⟨lb,L,lc,K,tv,nd,d,e,a,hr,hm⟩:=h;exact⟨lb,L,lc,K,tv,nd,d,e,a,hr,hm,λtb _=>.zero z⟩
 |one b c hc hf h=>
  obtain⟨lb,L,lc,K,tv,nd,d,e,a,hr,hm⟩:=h;have hb:=hr.bE b _ iN;refine⟨lb,L,lc,K,tv,nd,d,e,a,hr.iW hf,hm,λtb ht=>.one b c hc hb hf (λe=>?_) λe=>?_⟩
  ·subst e;have:=hr.pf;rw[iN]at this;cases this
  ·subst e;rcases ht with⟨n,c',z,rfl⟩|ht
   ·have:=hr.hn;cases this with
    |one _ l _ gQ _ _=>rw[iN]at gQ;cases gQ
   ·have:=bB hb;omega
theorem Fb {x:Node} {o:Except bd (Nat×PS (ai s))} (h:KF s fr U p w v x.kids) (ho:HO w (cH x) o):
  Fw ae Lb 31 [.ptr (some (p,0)),.agg [.int .i64 x.kind,.int .i64 x.at_,.str x.text,.int .i64 x.n,.int .i64 x.m,v]] U (RQ s fr p aj o):=by
 obtain⟨va,vn,vc,vz,rfl⟩:=h.slice;have h0:=h.rf;obtain⟨lb,L,lc,K,tv,nd,d,e,a,hr,hm,bh⟩:=h.kv;obtain⟨ta,tc,tz,gC⟩:=zj hr.hn;have hl:=hr.bP;refine Yy ?_;simp only[an,hr.lE,ag,hr.lT,gC,aS];cases w with
 |none=>
  have he:e≠0:=hm;exact Wp.pos (by simpa using he) (Rf.idle (enc:=aj) (x:=0) h0 (ho.2 rfl))
 |some st=>
  obtain⟨he,h1,h2,h3,hT⟩:=hm;have hn:=ho.1 st rfl;unfold cH at hn;refine Wp.neg (by rw[he];rfl) (Wp.ite (λhb=>?_) λhb=>?_)
  ·rw[decide_eq_true_eq]at hb;rw[if_pos (by rw[<-h1];omega)]at hn;exact Rf.nW (α:=Nat) h0 (by decide) ⟨λy hy=>by cases hy;unfold oT;exact hn,nofun⟩ λU1 h ho=>Rf.idle (enc:=aj) (x:=0) h ho
  ·rw[decide_eq_false_iff_not]at hb;rw[if_neg (by rw[<-h1];omega)]at hn;cases hn;refine Q4 hr.hn gC hl hr.lt hr.bE bh λb U' k1 k2 k3=>?_;have Bk:U'[p]? =some (.cells (rr (jO lb L lc) K tv d e a) (.rw (.box 85))):=by rw[k2];exact hr.c
   have iL (f:St->Out):aT U' p (0+2) [.slice (some (b,0)) (nd.length+1) none 6] f=f (U'.set p (.cells (rr (jO lb L lc) K (.slice (some (b,0)) (nd.length+1) none 6) d e a) (.rw (.box 85)))):=by
    unfold aT;rw[Bk];simp only;rw[if_pos (by simp[rr])];rfl
   have sX:RC s fr (U'.set p (.cells (rr (jO lb L lc) K (.slice (some (b,0)) (nd.length+1) none 6) d e a) (.rw (.box 85)))) p lb L lc K (.slice (some (b,0)) (nd.length+1) none 6) (nd++[x]) d e a:=by
    refine⟨hr.hs,λx y hx=>?_,hr.pf,hr.fl,cM (bB Bk),hr.hK,hr.hL,k3.mono λb _ hb=>aD (cY hb),by simp;omega⟩;rw[aD (λe=>by subst e;rw[hr.pf]at hx;cases hx)];exact k1 x y hx
   have hw:ah .i64 (((nd.length+1:Nat):Int)-1)=(nd.length:Int):=by rw[wrap64 (by omega) (by omega)];omega
   simp only[an,iL,sX.lT,aS,hw];exact Wp.ret ⟨st.nodes.length,some {st with nodes:=st.nodes++[x]},by rw[h1];rfl,Rf.BY (st:={st with nodes:=st.nodes++[x]}) ⟨hT.aL,hT.pos,hT.c⟩ sX he (by rw[h1]) h2 h3,rfl⟩
theorem KF.node {x:Node} {k:Nat->PM (ai s) β} {o:Except bd (β×PS (ai s))} {KK:Fu->AV->St->Out} {args:List AV} (h:KF s fr U p w v x.kids) (ho:HO w (cH x>>=k) o)
  (ha:args=[.ptr (some (p,0)),.agg [.int .i64 x.kind,.int .i64 x.at_,.str x.text,.int .i64 x.n,.int .i64 x.m,v]]) (hk:∀a w1 U1,Rf s fr U1 p w1->HO w1 (k a) o->Wp Q λu=>KK u (aj a) U1):
  Wp Q λu=>cW ae Lb u.n 31 args U (KK u):=by
 subst ha;exact(Rf.sw (λo1 h1=>Fb h h1) ho hk).1
theorem KF.fh {x:Node} {o:Except bd (Nat×PS (ai s))} {KK:Fu->AV->St->Out} {args:List AV} (h:KF s fr U p w v x.kids) (ho:HO w (cH x) o)
  (ha:args=[.ptr (some (p,0)),.agg [.int .i64 x.kind,.int .i64 x.at_,.str x.text,.int .i64 x.n,.int .i64 x.m,v]]) (hk:∀u a U1,KK u (aj a) U1=some (.ret (aj a),U1)):
  Wp (RQ s fr p aj o) λu=>cW ae Lb u.n 31 args U (KK u):=by
 subst ha;refine Wp.call (Fb h ho) (λv U' hv=>?_) λv U' hv=>by obtain⟨_,_,hv,_⟩:=hv;cases hv
 obtain⟨y,w',hv,hr,hm⟩:=hv;cases hv;simp only[hk];exact Wp.ret ⟨y,w',rfl,hr,hm⟩
theorem HO.tok {k:Tok->PM (ai s) β} {o:Except bd (β×PS (ai s))} (h:Rf s fr U p w) (ho:HO w (eB>>=k) o):
  ∃lb L lc K tv nd d e a t,RC s fr U p lb L lc K tv nd d e a/\Md s L K nd d e w/\L[K]? =some t/\HO w (k t) o/\(∀st,w=some st->t=st.tok/\e=0/\(t.kind=5->t.text∈marks))/\(w=none->e≠0):=by
 obtain⟨lb,L,lc,K,tv,nd,d,e,a,hr,hm⟩:=h;obtain⟨t,ht⟩:=hr.get;refine⟨lb,L,lc,K,tv,nd,d,e,a,t,hr,hm,ht,?_,?_,?_⟩
 ·refine⟨λst hw=>?_,ho.2⟩;subst hw;rw[hm.2.2.2.2.at_]at ht;cases ht;exact ho.1 st rfl
 ·intro st hw;subst hw;have:=hm.2.2.2.2.at_;rw[this]at ht;cases ht;exact⟨rfl,hm.1,hm.2.2.2.2.aL.2⟩
 ·intro hw;subst hw;exact hm
theorem RC.nodeAt {x:Nat} {y:Node} (h:RC s fr U p lb L lc K tv nd d e a) (hx:nd[x]? =some y) (f:AV->Out):
  (gn tv λa n _ z=>ao (x:Int) n<|af a λb o=>ar z 6<|aI ae 3 U b ((o+((x:Int)).toNat*6)+1) f)=f (.int .i64 y.at_):=h.hn.cell hx (by decide) fA (λk=>rfl) f
theorem KF.place {x:Nat} {k:Node->PM (ai s) β} {o:Except bd (β×PS (ai s))} {KK:Fu->AV->St->Out} (h:Rf s fr U p w) (ho:HO w (iu x>>=k) o)
  (hk:∀y,HO w (k y) o->(∀st,w=some st->st.nodes[x]? =some y)->Wp Q λu=>KK u (.int .i64 y.at_) U):Wp Q λu=>cW ae Lb u.n 198 [.ptr (some (p,0)),.int .i64 (x:Int)] U (KK u):=by
 obtain⟨lb,L,lc,K,tv,nd,d,e,a,hr,hm⟩:=h;obtain⟨ta,tc,tz,gC⟩:=zj hr.hn;have main:Fw ae Lb 198 [.ptr (some (p,0)),.int .i64 (x:Int)] U λr U'=>U'=U/\∃v:Int,r=.ret (.int .i64 v)/\∀y,nd[x]? =some y->v=y.at_:=by
  refine XB ?_;refine Wp.neg (by simp) ?_;simp only[an,hr.lT,gC,aS];refine Wp.ite (λhb=>Wp.ret ⟨rfl,0,rfl,λy hy=>?_⟩) λhb=>?_
  ·rw[decide_eq_true_eq]at hb;have:=(bl.1 hy).1;omega
  ·rw[decide_eq_false_iff_not]at hb;obtain⟨y,hy⟩:∃y,nd[x]? =some y:=⟨nd[x]'(by omega),bk (by omega)⟩
   have:=hr.nodeAt hy;rw[gC]at this;simp only[aS]at this;refine(Wp.ret (Q:=λr U'=>U'=U/\∃v:Int,r=.ret (.int .i64 v)/\∀y,nd[x]? =some y->v=y.at_) (r:=.ret (.int .i64 y.at_)) (U:=U) ⟨rfl,y.at_,rfl,λz hz=>by rw[hy]at hz;cases hz;rfl⟩).eq λu=>?_;rw[this];simp only[ag]
 refine Wp.call main (λv U' hv=>?_) λv U' hv=>by obtain⟨_,_,hv,_⟩:=hv;cases hv
 obtain⟨rfl,v,hv,qs⟩:=hv;cases hv;cases w with
 |none=>
  have:=hk ⟨0,v,[],0,0,[]⟩ ⟨nofun,ho.2⟩ nofun;exact this
 |some st=>
  have hn:=ho.1 st rfl;have hn:PM.bind (iu x) k st=some o:=hn;unfold PM.bind iu at hn;cases hx:st.nodes[x]? with
  |none=>rw[hx]at hn;cases hn
  |some y=>
   rw[hx]at hn;have:=qs y (by rw[hm.2.1];exact hx);subst this;exact hk y ⟨λz hz=>by cases hz;exact hn,nofun⟩ λz hz=>by cases hz;exact hx
theorem C0:Sr s 153 [] tS (ql:PM (ai s) Unit):=by
 intro fr U p w o h ho;have h0:=h;obtain⟨lb,L,lc,K,tv,nd,d,e,a,hr,hm⟩:=h;refine W2 ?_;simp only[an,hr.lE,ag,hr.lD];have idle {U1:St} (h:Rf s fr U1 p none) (ho:∃e,o=.error e):Wp (RQ s fr p tS o) λu=>AA u.n (some (p,0)) U1:=by
  obtain⟨lb,L,lc,K,tv,nd,d,e,a,hr,hm⟩:=h;refine MH ?_;have il:RC s fr _ p lb L lc K tv nd (ah .i64 (d+1)) e a:=hr.put hr.hK;simp only[an,hr.lD,ag,hr.zC (off:=3) (x:=.int .i64 (ah .i64 (d+1))) (cs:=rr (jO lb L lc) K tv (ah .i64 (d+1)) e a) (by omega) rfl];exact Rf.idle (enc:=tS) (x:=()) ⟨lb,L,lc,K,tv,nd,_,e,a,il,hm⟩ ho
 cases w with
 |none=>
  have he:e≠0:=hm;exact Wp.neg (by simpa using he) (idle h0 (ho.2 rfl))
 |some st=>
  obtain⟨he,h1,h2,h3,hT⟩:=hm;have hn:=ho.1 st rfl;unfold ql at hn;refine Wp.pos (by rw[he];rfl) (Wp.ite (λhb=>?_) λhb=>?_)
  ·rw[decide_eq_true_eq]at hb;rw[if_pos (by omega)]at hn;exact Rf.nW (α:=Unit) h0 (by decide) ⟨λy hy=>by cases hy;unfold oT;exact hn,nofun⟩ λU1 h ho=>idle h ho
  ·rw[decide_eq_false_iff_not]at hb;rw[if_neg (by omega)]at hn;cases hn;refine MH ?_;have hw:ah .i64 (d+1)=((st.deep+1:Nat):Int):=by rw[wrap64 (by omega) (by omega)];omega
   have il:RC s fr _ p lb L lc K tv nd ((st.deep+1:Nat):Int) e a:=hr.put hr.hK;simp only[an,hr.lD,ag,hw,hr.zC (off:=3) (x:=.int .i64 ((st.deep+1:Nat):Int)) (cs:=rr (jO lb L lc) K tv ((st.deep+1:Nat):Int) e a) (by omega) rfl];exact Wp.ret ⟨(),some {st with deep:=st.deep+1},rfl,Rf.BY (st:={st with deep:=st.deep+1}) ⟨hT.aL,hT.pos,hT.c⟩ il he h1 rfl (by simp only;omega),rfl⟩
theorem Rf.up {x:α} {y:AV} {o:Except bd (α×PS (ai s))} (h:Rf s fr U p w) (ho:HO w (kO>>=λ_=>(pure x:PM (ai s) α)) o) (hy:y=enc x):
  Wp (RQ s fr p enc o) λ_=>aI ae 3 U p (0+3) λx9=>gY .i64 x9 λi10=>aT U p (0+3) [.int .i64 (ah .i64 (i10-(1:Int)))] λU13=>some (.ret y,U13):=by
 subst hy;obtain⟨lb,L,lc,K,tv,nd,d,e,a,hr,hm⟩:=h;have il:RC s fr _ p lb L lc K tv nd (ah .i64 (d-1)) e a:=hr.put hr.hK;simp only[hr.lD,ag,hr.zC (off:=3) (x:=.int .i64 (ah .i64 (d-1))) (cs:=rr (jO lb L lc) K tv (ah .i64 (d-1)) e a) (by omega) rfl];cases w with
 |none=>exact Rf.idle (enc:=enc) (x:=x) ⟨lb,L,lc,K,tv,nd,_,e,a,il,hm⟩ (ho.2 rfl)
 |some st=>
  obtain⟨he,h1,h2,h3,hT⟩:=hm;have hn:=ho.1 st rfl;by_cases h0:st.deep=0
  ·rw[PM.bind_none (by unfold kO;rw[if_pos h0])]at hn;cases hn
  ·rw[PM.lQ (st':={st with deep:=st.deep-1}) (by unfold kO;rw[if_neg h0])]at hn;rw[PM.zq]at hn;cases hn;have hw:ah .i64 (d-1)=((st.deep-1:Nat):Int):=by rw[wrap64 (by omega) (by omega)];omega
   rw[hw]at il|-;exact Wp.ret ⟨x,some {st with deep:=st.deep-1},rfl,Rf.BY (st:={st with deep:=st.deep-1}) ⟨hT.aL,hT.pos,hT.c⟩ il he h1 rfl (by simp only;omega),rfl⟩
end
end Go.Front
end
section
set_option maxRecDepth 100000
namespace Go.Front
open Go.AM Go.Proofs
def IS:List Nat:=[0,0,0,0,10,10,10,9,9,8,8,7,7,7,7,6,6,5,4,3,2,1]
section
variable {s:By} {fr ed:Fr} {U U':St} {p:Nat} {v:AV} {w:Option (PS (ai s))} {α β γ:Type} {enc:α->AV} {ot:β->AV} {f:FuncId} {xs:List AV} {Q:bw} {kids:List Nat}
theorem QN (op:Nat):Fw ae Lb 152 [.int .i64 op] U λr U'=>r=.ret (.int .i64 (level op))/\U'=U:=by
 refine W1 ?_;refine Wp.neg (by simp) (Wp.ite (λhb=>?_) λhb=>?_)
 ·have hb:22<=op:=by simp at hb;omega
  refine Wp.ret ⟨?_,rfl⟩;unfold level;rw[gq,fP (by simp;omega)];rfl
 ·have hb:op<22:=by simp at hb;omega
  have hx:=(by decide:∀k<22,IS[k]? =some (level k)) op hb;have hp (f:AV->Out):dY ae 3 (IS.map λ(k:Nat)=>AV.int .i64 (k:Int)) op f=f (.int .i64 (level op)):=qJ fA (by rw[gI,hx];rfl);simp only[IS,dO,lA]at hp;simp only[bm (show(0:Int)<=(op:Int)/\(op:Int)<((22:Nat):Int)from⟨by omega,by omega⟩),fa,lC];refine Wp.eq (F:=λ_=>some (.ret (.int .i64 (level op)),U)) (Wp.ret ⟨rfl,rfl⟩) λu=>?_;refine Eq.trans (hp _) ?_;simp only[ag]
theorem Um (x:By):Fw ae Lb 211 [.str x] U λr U'=>r=.ret (.int .i64 (binOp x))/\U'=U:=by
 refine XY ?_;have key:∀(k i:Nat),i+k=18->Wp (λr U'=>r=.ret (.int .i64 (qH (ops.drop i) (4+i) x))/\U'=U) λu=>AL u.n u.m1 x 0 i (ops.map .str) U:=by
  intro k
  induction k with
  |zero=>
   intro i hi;refine Nc ?_;refine Wp.neg (by rw[decide_eq_false_iff_not];omega) (XZ ?_);exact Wp.ret ⟨by rw[jB (by simp[ops];omega)];rfl,rfl⟩
  |succ k ih=>
   intro i hi;have hl:ops.length=18:=rfl;obtain⟨y,hy⟩:∃y,ops[i]? =some y:=⟨ops[i]'(by omega),bk (by omega)⟩
   obtain⟨h1,h2⟩:=bl.1 hy;have hd:ops.drop i=y::ops.drop (i+1):=by rw[xP h1,h2]
   have hp (f:AV->Out):dY ae 9 (ops.map .str) ((i:Int).toNat*1) f=f (.str y):=qJ kX (by rw[gI,fa,lC,hy];rfl);have hw:ah .i64 ((i:Int)+1)=((i+1:Nat):Int):=by rw[wrap64 (by omega) (by omega)];omega
   have BK:ah .i64 (4+(i:Int))=((4+i:Nat):Int):=by rw[wrap64 (by omega) (by omega)];omega
   refine Nc ?_;simp only[bm (show(0:Int)<=(i:Int)/\(i:Int)<((18:Nat):Int)from⟨by omega,by omega⟩),hp,aG,hw,BK];refine Wp.pos (by rw[decide_eq_true_eq];omega) (Wp.ite (λh=>?_) λh=>?_)
   ·have h:y=x:=by simpa using h
    exact Wp.ret ⟨by rw[hd,qH,if_pos h],rfl⟩
   ·have h:¬y=x:=by simpa using h
    rw[hd,qH,if_neg h];exact ih (i+1) (by omega)
 exact Wp.cD (F:=λn m=>AL n m x 0 0 (ops.map .str) U) (key 18 0 rfl)
theorem HO.no {α':Type} {m:PM (ai s) α} {m':PM (ai s) α} {o:Except bd (α×PS (ai s))} (ho:HO none m o):HO none m' o:=⟨nofun,ho.2⟩
theorem Rf.e (h:Rf s fr U p none):∃e:Int,e≠0/\∀f,aI ae 3 U p (0+4) f=f (.int .i64 e):=by
 obtain⟨lb,L,lc,K,tv,nd,d,e,a,hr,hm⟩:=h;exact⟨e,hm,hr.lE⟩
theorem Rf.e0 {st:PS (ai s)} (h:Rf s fr U p (some st)) (f:AV->Out):aI ae 3 U p (0+4) f=f (.int .i64 0):=by
 obtain⟨lb,L,lc,K,tv,nd,d,e,a,hr,hm⟩:=h;rw[hr.lE,hm.1]
theorem Qq (m:By) (h:Rf s fr U p none):Fw ae Lb 92 [.ptr (some (p,0)),.str m] U λr U'=>r=.ret (.bool false)/\U'=U:=by
 obtain⟨lb,L,lc,K,tv,nd,d,e,a,hr,hm⟩:=h;have he:e≠0:=hm;obtain⟨t,ht⟩:=hr.get;refine Oz ?_;simp only[an,hr.lL,aS,hr.lK,ag,hr.ix,aU,hr.tok ht,fO,dZ,bK,bc,aG,aZ,hr.lE];exact Wp.neg (by simpa using he) (Wp.ret ⟨rfl,rfl⟩)
theorem agi (m:By) (h:Rf s fr U p none):Fw ae Lb 69 [.ptr (some (p,0)),.str m] U λr U'=>r=.ret (.bool false)/\U'=U:=by
 refine N9 ?_;refine Wp.call (Qq m h) (λv U' hv=>?_) λv U' hv=>by cases hv.1
 obtain⟨hv,rfl⟩:=hv;cases hv;simp only[bp];exact Wp.neg rfl (Wp.ret ⟨rfl,rfl⟩)
theorem EC {S:hJ} {α:Type} {m:By} {X Y:PM S α}:(jq m>>=λb=>if b=true then(cU>>=λ_=>X)else Y)=ep m>>=λb=>if b=true then X else Y:=by
 unfold ep;simp only[PM.bind_assoc,PM.jN,PM.pure_bind,if_true,aW,if_false]
theorem abV {o:Except bd (Nat×PS (ai s))} (h:Rf s fr U p none) (ho:∃e,o=.error e):Fw ae Lb 219 [.ptr (some (p,0))] U (RQ s fr p aj o):=by
 refine Nd ?_;obtain⟨e,he,hE⟩:=h.e;simp only[an,hE,ag];exact Wp.pos (by simpa using he) (Rf.idle (enc:=aj) (x:=0) h ho)
theorem Ro {o:Except bd (Nat×PS (ai s))} (h:Rf s fr U p none) (ho:∃e,o=.error e):Fw ae Lb 210 [.ptr (some (p,0))] U (RQ s fr p aj o):=by
 obtain⟨e,rfl⟩:=ho;refine Na ?_;refine Rf.call (k:=λ_=>(λ_=>none:PM (ai s) Nat)) (C0 (s:=s)) h ⟨nofun,λ_=>⟨e,rfl⟩⟩ λ_ w1 U1 h ho=>?_;cases w1 with
 |some st=>cases ho.1 st rfl
 |none=>
 refine(Rf.sw (m:=(λ_=>none:PM (ai s) Nat)) (k:=λ_=>(λ_=>none:PM (ai s) Nat)) (λo1 h1=>abV h (h1.2 rfl)) ⟨nofun,ho.2⟩ λx w1 U2 h ho=>?_).1;cases w1 with
 |some st=>cases ho.1 st rfl
 |none=>
 simp only[aj,ag,an];exact Rf.up (enc:=aj) h ⟨nofun,ho.2⟩ rfl
theorem GV {lvl:Int} {x:Nat} {o:Except bd (Nat×PS (ai s))} (h:Rf s fr U p none) (ho:∃e,o=.error e):Wp (RQ s fr p aj o) λu=>wm u.n u.m1 (some (p,0)) lvl 0 x U:=by
 refine MU ?_;obtain⟨e,he,hE⟩:=h.e;simp only[an,hE,ag];exact Wp.neg (by simpa using he) (G9 (Rf.idle (enc:=aj) (x:=x) h ho))
theorem V5 {lvl:Int} {o:Except bd (Nat×PS (ai s))} (h:Rf s fr U p none) (ho:∃e,o=.error e):Fw ae Lb 197 [.ptr (some (p,0)),.int .i64 lvl] U (RQ s fr p aj o):=by
 obtain⟨e,rfl⟩:=ho;refine MT ?_;refine Wp.call (Ro (o:=.error e) h ⟨e,rfl⟩) (λv U' hv=>?_) λv U' hv=>by obtain⟨_,_,hv,_⟩:=hv;cases hv
 obtain⟨x,w1,hv,h,hm⟩:=hv;cases hv;cases w1 with
 |some st=>cases hm
 |none=>
 simp only[aj,ag];refine Wp.cD (F:=λn m=>wm n m (some (p,0)) lvl 0 x U') ?_;exact GV h ⟨e,rfl⟩
theorem F4 {at_:Nat} {tx:By} {kd nn:Int} {a:Ad} {k z:Nat} {c:On} {acc:List Nat} {o:Except bd (Nat×PS (ai s))} (h:KF s fr U p w (.slice a k c z) acc) (ho:HO w (cH ⟨4,at_,tx,0,0,acc⟩) o):
  Wp (RQ s fr p aj o) λu=>AO u.n (some (p,0)) 0 a k c z kd at_ tx nn U:=by
 refine Yb ?_;exact KF.fh h ho rfl λu a U1=>by simp only[aj,ag]
theorem KL {at_:Nat} {tx:By} {kd nn:Int} {a:Ad} {k z:Nat} {c:On} {b:Bool} {acc:List Nat} {o:Except bd (Nat×PS (ai s))} (h:KF s fr U p none (.slice a k c z) acc) (ho:∃e,o=.error e):
  Wp (RQ s fr p aj o) λu=>uK u.n u.m1 (some (p,0)) 0 a k c z b kd at_ tx nn U:=by
 obtain⟨e,he,hE⟩:=h.rf.e;refine Dt ?_;simp only[an,hE,ag];have fin:Wp (RQ s fr p aj o) λu=>AO u.n (some (p,0)) 0 a k c z kd at_ tx nn U:=F4 h ⟨nofun,λ_=>ho⟩;exact Wp.ite (λ_=>Wp.neg (by simpa using he) fin) λ_=>fin
theorem TX {at_:Nat} {tx:By} {kd nn:Int} {ex:Nat->PM (ai s) Nat} (hex:∀l:Nat,Sr s 197 [.int .i64 (l:Int)] aj (ex l)):∀(n:Nat) {acc:List Nat} {U:St} {w:Option (PS (ai s))} {a:Ad} {k z:Nat} {c:On} {o:Except bd (Nat×PS (ai s))},
  acc.length+n<=1000000000->KF s fr U p w (.slice a k c z) acc->HO w (dt (tB ex) n acc>>=λl=>cH ⟨4,at_,tx,0,0,l⟩) o->
  Wp (RQ s fr p aj o) λu=>uK u.n u.m1 (some (p,0)) 0 a k c z false kd at_ tx nn U:=by
 intro n
 induction n with
 |zero=>
  intro acc U w a k z c o _ h ho;cases w with
  |none=>exact KL h (ho.2 rfl)
  |some st=>have:=ho.1 st rfl;rw[PM.bind_none rfl]at this;cases this
 |succ n ih=>
  intro acc U w a k z c o hl h ho;cases w with
  |none=>exact KL h (ho.2 rfl)
  |some st=>
   refine Dt ?_;simp only[an,h.rf.e0,ag];rw[pP]at ho;simp only[tB,PM.bind_assoc,PM.jN,PM.pure_bind,pN,pO]at ho;refine Wp.pos rfl (Wp.pos rfl ?_);refine KF.call (hex 1) h ho λx w1 U1 h ho=>?_;simp only[aj,ag];refine h.app rfl (by omega) λb U2 h=>?_;refine KF.call (kK [41]) h ho λy w1 U1 h ho=>?_;simp only[cO,bp];cases y with
   |true=>
    simp only[if_true]at ho;exact Wp.neg rfl (Dt (Wp.neg rfl (F4 h ho)))
   |false=>
    simp only[aW,if_false]at ho;refine Wp.pos rfl (KF.call (iQ [44]) h ho λ_ w1 U1 h ho=>?_);exact ih (by simp;omega) h ho
theorem aeK {ex:Nat->PM (ai s) Nat} (hex:∀l:Nat,Sr s 197 [.int .i64 (l:Int)] aj (ex l)) {n:Nat} (hn:n<=1000000000):Sr s 227 [] aj (mV ex n):=by
 intro fr U p w o h ho;unfold mV at ho;have h0:=h;obtain⟨lb,L,lc,K,tv,nd,d,e,a,t,hr,hm,ht,ho,_,_⟩:=HO.tok h ho;refine X9 ?_;have e3:((t.kind:Int)==(3:Int))=decide (t.kind=3):=cL (b:=3);have e4:((t.kind:Int)==(4:Int))=decide (t.kind=4):=cL (b:=4);have e1:((t.kind:Int)==(1:Int))=decide (t.kind=1):=cL (b:=1);simp only[an,hr.lL,aS,hr.lK,ag,hr.ix,aU,hr.tok ht,fO,dZ,bK,bc,aG,aZ,e3,e4,e1]
 replace h:=h0
 clear h0 hr hm;refine Wp.ite (λhb=>?_) λhb=>Wp.ite (λbR=>?_) λbR=>Wp.ite (λdG=>?_) λdG=>?_
 ·rw[if_pos (of_decide_eq_true hb)]at ho;refine Rf.call pR h ho λ_ w1 U1 h ho=>?_;simp only[fO,dZ,bK,bc,ag,aG,aZ];exact KF.fh (.zero 0 h) ho rfl λu a U1=>by simp only[aj,ag]
 ·rw[if_neg (of_decide_eq_false hb),if_pos (of_decide_eq_true bR)]at ho;refine Rf.call pR h ho λ_ w1 U1 h ho=>?_;simp only[fO,dZ,bK,bc,ag,aG,aZ];exact KF.fh (.zero 0 h) ho rfl λu a U1=>by simp only[aj,ag]
 ·rw[if_neg (of_decide_eq_false hb),if_neg (of_decide_eq_false bR),if_pos (of_decide_eq_true dG)]at ho;refine Rf.call pR h ho λ_ w1 U1 h ho=>?_;simp only[fO,dZ,bK,bc,ag,aG,aZ];rw[EC]at ho;refine Rf.call (kK [40]) h ho λb w1 U1 h ho=>?_;simp only[cO,bp];cases b with
  |false=>
   simp only[aW,if_false]at ho;refine Wp.pos rfl ?_;exact KF.fh (.zero 0 h) ho rfl λu a U1=>by simp only[aj,ag]
  |true=>
   simp only[if_true,vp,PM.bind_assoc,PM.jN,PM.pure_bind]at ho;refine Wp.neg rfl (Rf.call (kK [41]) h ho λb w1 U1 h ho=>?_);simp only[cO,bp];cases b with
   |true=>
    simp only[if_true]at ho;refine Wp.cD (F:=λn m=>uK n m (some (p,0)) 0 none 0 (some 0) 0 true t.kind t.at_ t.text t.n U1) ?_;exact Dt (Wp.neg rfl (F4 (.zero 0 h) ho))
   |false=>
    simp only[aW,if_false]at ho;refine Wp.cD (F:=λn m=>uK n m (some (p,0)) 0 none 0 (some 0) 0 false t.kind t.at_ t.text t.n U1) ?_;exact TX hex n (by simp;omega) (.zero 0 h) ho
 ·rw[if_neg (of_decide_eq_false hb),if_neg (of_decide_eq_false bR),if_neg (of_decide_eq_false dG)]at ho;refine Ya ?_;refine Rf.call (iQ [40]) h ho λ_ w1 U1 h ho=>?_;cases w1 with
  |none=>
   obtain⟨e,he,hE⟩:=h.e;simp only[an,hE,ag];exact Wp.pos (by simpa using he) (Rf.idle (enc:=aj) (x:=0) h (ho.2 rfl))
  |some st=>
   simp only[an,h.e0,ag];refine Wp.neg rfl ?_;refine Rf.call (hex 1) h ho λx w1 U1 h ho=>?_;simp only[aj,ag];refine Rf.call (iQ [41]) h ho λ_ w1 U1 h ho=>?_;exact Rf.ret (enc:=aj) h ho
theorem abR {ex:Nat->PM (ai s) Nat} {at_:Int} (hex:∀l:Nat,Sr s 197 [.int .i64 (l:Int)] aj (ex l)):∀(n:Nat) {x:Nat} {U:St} {w:Option (PS (ai s))} {o:Except bd (Nat×PS (ai s))},
  Rf s fr U p w->HO w (dt (indexB ex) n x) o->Wp (RQ s fr p aj o) λu=>yg u.n u.m1 (some (p,0)) at_ x U:=by
 have idle {x:Nat} {U:St} {o:Except bd (Nat×PS (ai s))} (h:Rf s fr U p none) (ho:∃e,o=.error e):Wp (RQ s fr p aj o) λu=>yg u.n u.m1 (some (p,0)) at_ x U:=by
  refine Ni ?_;refine Wp.call (agi [91] h) (λv U' hv=>?_) λv U' hv=>by cases hv.1
  obtain⟨hv,rfl⟩:=hv;cases hv;simp only[bp];exact Wp.neg rfl (Nh (Rf.idle (enc:=aj) (x:=x) h ho))
 intro n
 induction n with
 |zero=>
  intro x U w o h ho;cases w with
  |none=>exact idle h (ho.2 rfl)
  |some st=>cases ho.1 st rfl
 |succ n ih=>
  intro x U w o h ho;refine Ni ?_;rw[pP]at ho;simp only[indexB,PM.bind_assoc,PM.jN,PM.pure_bind,pN,pO]at ho;refine Rf.call (kK [91]) h ho λb w1 U1 h ho=>?_;simp only[cO,bp];cases b with
  |true=>
   simp only[if_true]at ho;refine Wp.pos rfl (Rf.call (hex 1) h ho λi w1 U1 h ho=>?_);simp only[aj,ag];refine Rf.call (iQ [93]) h ho λ_ w1 U1 h ho=>?_;refine KF.place h ho λy ho _=>?_;simp only[ag];refine KF.node (h.new [x,i] rfl rfl (.inr rfl)) ho rfl λy w1 U1 h ho=>?_;simp only[aj,ag];exact ih h ho
  |false=>
   simp only[aW,if_false]at ho;exact Wp.neg rfl (Nh (Rf.ret (enc:=aj) h ho))
theorem abW {op:PM (ai s) Nat} {ex:Nat->PM (ai s) Nat} (eF:Sr s 210 [] aj op) (hex:∀l:Nat,Sr s 197 [.int .i64 (l:Int)] aj (ex l)) {n:Nat} (hn:n<=1000000000):Sr s 219 [] aj (eB>>=λt=>th op ex n t.at_):=by
 intro fr U p w o h ho;have h0:=h;obtain⟨lb,L,lc,K,tv,nd,d,e,a,t,hr,hm,ht,ho,h5,h6⟩:=HO.tok h ho;refine Nd ?_;simp only[an,hr.lE,ag,hr.lL,aS,hr.lK,hr.ix,aU,hr.kL ht];cases w with
 |none=>exact Wp.pos (by simpa using h6 rfl) (Rf.idle (enc:=aj) (x:=0) h0 (ho.2 rfl))
 |some st=>
 refine Wp.neg (by rw[(h5 st rfl).2.1];rfl) ?_
 replace h:=h0
 clear h0 h5 h6 hm;generalize t.at_=at_ at*;unfold th at ho;have un {i k:Int} (hw:ah .i64 (i+1)=k) {w:Option (PS (ai s))} {U:St} (h:Rf s fr U p w) (ho:HO w (pX op at_ k) o):Wp (RQ s fr p aj o) λu=>cW ae Lb u.n 210 [.ptr (some (p,0))] U λv14 U13=>
   gY .i64 v14 λi15=>
   cW ae Lb u.n 31 [.ptr (some (p,0)),.agg [.int .i64 (6:Int),.int .i64 at_,.str [],.int .i64 (ah .i64 (i+(1:Int))),.int .i64 (0:Int),.slice (some (U13.length,0)) 1 (some 1) 1]] (U13++[aq.cells [.int .i64 i15] (.rw (.row 3))]:St) λv17 U16=>
   gY .i64 v17 λi18=>
   some (.ret (.int .i64 i18),U16):=by
  unfold pX at ho;rw[hw];refine Rf.call eF h ho λx w1 U1 h ho=>?_;simp only[aj,ag];exact KF.fh (x:=⟨6,at_,[],k,0,[x]⟩) (h.new (o:=aq.cells [.int .i64 (x:Int)] (.rw (.row 3))) [x] rfl rfl (.inr rfl)) ho rfl λu a U1=>by simp only[aj,ag]
 have p0 (f:AV->Out):dY ae 9 [.str [45],.str [33],.str [126]] ((0:Int).toNat*1) f=f (.str [45]):=qJ kX rfl;have p1 (f:AV->Out):dY ae 9 [.str [45],.str [33],.str [126]] ((1:Int).toNat*1) f=f (.str [33]):=qJ kX rfl;have p2 (f:AV->Out):dY ae 9 [.str [45],.str [33],.str [126]] ((2:Int).toNat*1) f=f (.str [126]):=qJ kX rfl;have w0:ah .i64 ((0:Int)+1)=1:=by decide
 have w1:ah .i64 ((1:Int)+1)=2:=by decide
 have w2:ah .i64 ((2:Int)+1)=3:=by decide
 refine Wp.cD (F:=λn m=>Dr n m (some (p,0)) 0 at_ 0 [45] [33] [126] U) (Ds ?_);simp only[p0,aG,bm (show(0:Int)<=0/\(0:Int)<((3:Nat):Int)from by decide)];refine Wp.pos (by decide) (Rf.call (kK [45]) h ho λb S8 U1 h ho=>?_);simp only[cO,bp];cases b with
 |true=>simp only[if_true]at ho;exact Wp.pos rfl (un w0 h ho)
 |false=>
 simp only[aW,if_false,w0]at ho|-;refine Wp.neg rfl (Ds ?_);simp only[p1,aG,bm (show(0:Int)<=1/\(1:Int)<((3:Nat):Int)from by decide)];refine Wp.pos (by decide) (Rf.call (kK [33]) h ho λb S8 U1 h ho=>?_);simp only[cO,bp];cases b with
 |true=>simp only[if_true]at ho;exact Wp.pos rfl (un w1 h ho)
 |false=>
 simp only[aW,if_false,w1]at ho|-;refine Wp.neg rfl (Ds ?_);simp only[p2,aG,bm (show(0:Int)<=2/\(2:Int)<((3:Nat):Int)from by decide)];refine Wp.pos (by decide) (Rf.call (kK [126]) h ho λb S8 U1 h ho=>?_);simp only[cO,bp];cases b with
 |true=>simp only[if_true]at ho;exact Wp.pos rfl (un w2 h ho)
 |false=>
 simp only[aW,if_false,w2]at ho|-;refine Wp.neg rfl (Ds (Wp.neg (by decide) (X5 ?_)));refine Rf.call (aeK hex hn) h ho λx w1 U1 h ho=>?_;simp only[aj,ag];refine Wp.cD (F:=λn m=>yg n m (some (p,0)) 0 x U1) ?_;exact abR hex n h ho
theorem aev {op:PM (ai s) Nat} {ex:Nat->PM (ai s) Nat} (eF:Sr s 210 [] aj op) (hex:∀l:Nat,Sr s 197 [.int .i64 (l:Int)] aj (ex l)) {n:Nat} (hn:n<=1000000000):Sr s 210 [] aj (qI op ex n):=by
 intro fr U p w o h ho;refine Na ?_;unfold qI at ho;refine Rf.call C0 h ho λ_ w1 U1 h ho=>?_;have ho:HO w1 ((eB>>=λt=>th op ex n t.at_)>>=λx=>kO>>=λ_=>pure x) o:=by rw[PM.bind_assoc];exact ho
 refine Rf.call (abW eF hex hn) h ho λx w1 U1 h ho=>?_;simp only[aj,ag,an];exact Rf.up (enc:=aj) h ho rfl
theorem V7 {ex:Nat->PM (ai s) Nat} (hex:∀l:Nat,Sr s 197 [.int .i64 (l:Int)] aj (ex l)) {lvl:Nat}:∀(n:Nat) {x:Nat} {U:St} {w:Option (PS (ai s))} {o:Except bd (Nat×PS (ai s))},
  Rf s fr U p w->HO w (dt (k8 ex lvl) n x) o->Wp (RQ s fr p aj o) λu=>wm u.n u.m1 (some (p,0)) lvl 0 x U:=by
 intro n
 induction n with
 |zero=>
  intro x U w o h ho;cases w with
  |none=>exact GV h (ho.2 rfl)
  |some st=>cases ho.1 st rfl
 |succ n ih=>
  intro x U w o h ho;cases w with
  |none=>exact GV h (ho.2 rfl)
  |some st=>
  refine MU ?_;rw[pP]at ho;simp only[k8,PM.bind_assoc,PM.jN,PM.pure_bind,pN,pO]at ho;have h0:=h;obtain⟨lb,L,lc,K,tv,nd,d,e,a,t,hr,hm,ht,ho,h5,_⟩:=HO.tok h ho;have e5:((t.kind:Int)==(5:Int))=decide (t.kind=5):=cL (b:=5);simp only[an,h.e0,ag,hr.lL,aS,hr.lK,hr.ix,aU,hr.tok ht,fO,dZ,bK,bc,aG,aZ,e5]
  replace h:=h0
  clear h0 hr hm h5;have go {q:Nat} (ho:HO (some st) (if q=0 then pure x else if level q<lvl then pure x else cU>>=λ_=>ex (level q+1)>>=λy=>iu x>>=λa=>cH ⟨7,a.at_,[],q,0,[x,y]⟩>>=λz=>dt (k8 ex lvl) n z:PM (ai s) Nat) o):
    Wp (RQ s fr p aj o) λu=>Dj u.n u.m1 (some (p,0)) lvl 0 x q U:=by
   refine XA ?_;have e0:((q:Int)==(0:Int))=decide (q=0):=cL (b:=0);simp only[e0];refine Wp.ite (λhb=>?_) λhb=>?_
   ·rw[if_pos (of_decide_eq_true hb)]at ho;exact G9 (Rf.ret (enc:=aj) h ho)
   ·rw[if_neg (of_decide_eq_false hb)]at ho;refine Wp.call (QN q) (λv U' hv=>?_) λv U' hv=>by cases hv.1
    obtain⟨hv,rfl⟩:=hv;cases hv;have GF:decide (((level q:Nat):Int)<(lvl:Int))=decide (level q<lvl):=by rw[decide_eq_decide];omega
    simp only[ag,GF];refine Wp.ite (λbR=>?_) λbR=>?_
    ·rw[if_pos (of_decide_eq_true bR)]at ho;exact G9 (Rf.ret (enc:=aj) h ho)
    ·rw[if_neg (of_decide_eq_false bR)]at ho;refine Rf.call pR h ho λ_ w1 U1 h ho=>?_;simp only[fO,dZ,bK,bc,ag,aG,aZ];refine Wp.call (QN q) (λv U' hv=>?_) λv U' hv=>by cases hv.1
     obtain⟨hv,rfl⟩:=hv;cases hv;have pD:level q<=10:=by
      rcases gu q 22 with hq|hq
      ·exact(by decide:∀q<22,level q<=10) q hq
      ·unfold level;rw[gq,fP (by simp;omega)];simp
     have hw:ah .i64 (((level q:Nat):Int)+1)=((level q+1:Nat):Int):=by rw[wrap64 (by omega) (by omega)];omega
     simp only[ag,hw];refine Rf.call (hex (level q+1)) h ho λy w1 U1 h ho=>?_;simp only[aj,ag];refine KF.place h ho λd ho _=>?_;simp only[ag];refine KF.node (h.new [x,y] rfl rfl (.inr rfl)) ho rfl λz w1 U1 h ho=>?_;simp only[aj,ag];exact ih h ho
  refine Wp.pos rfl (Wp.ite (λhb=>?_) λhb=>?_)
  ·rw[if_pos (of_decide_eq_true hb)]at ho;refine Wp.call (Um t.text) (λv U' hv=>?_) λv U' hv=>by cases hv.1
   obtain⟨hv,rfl⟩:=hv;cases hv;simp only[ag];exact go ho
  ·rw[if_neg (of_decide_eq_false hb)]at ho;exact go (q:=0) ho
theorem Wa {op:PM (ai s) Nat} {ex:Nat->PM (ai s) Nat} (eF:Sr s 210 [] aj op) (hex:∀l:Nat,Sr s 197 [.int .i64 (l:Int)] aj (ex l)) {n:Nat} (lvl:Nat):Sr s 197 [.int .i64 (lvl:Int)] aj (qn op ex n lvl):=by
 intro fr U p w o h ho;refine MT ?_;unfold qn at ho;refine Rf.call eF h ho λx w1 U1 h ho=>?_;simp only[aj,ag];refine Wp.cD (F:=λn m=>wm n m (some (p,0)) lvl 0 x U1) ?_;exact V7 hex n h ho
theorem VY:∀(n:Nat),n<=1000000000->Sr s 210 [] aj (ou n none)/\∀l:Nat,Sr s 197 [.int .i64 (l:Int)] aj (ou n (some l)):=by
 intro n
 induction n with
 |zero=>
  intro _;refine⟨?_,λl=>?_⟩
  ·intro fr U p w o h ho;cases w with
   |none=>exact Ro h (ho.2 rfl)
   |some st=>cases ho.1 st rfl
  ·intro fr U p w o h ho;cases w with
   |none=>exact V5 h (ho.2 rfl)
   |some st=>cases ho.1 st rfl
 |succ n ih=>
  intro hn;obtain⟨h1,h2⟩:=ih (by omega);exact⟨aev h1 h2 (by omega),λl=>Wa h1 h2 l⟩
end
end Go.Front
end
section
set_option maxRecDepth 100000
namespace Go.Front
open Go.AM Go.Proofs
section
variable {s:By} {fr ed:Fr} {U U':St} {p:Nat} {v:AV} {w:Option (PS (ai s))} {α β γ:Type} {enc:α->AV} {ot:β->AV} {f:FuncId} {xs:List AV} {Q:bw} {kids:List Nat}
theorem Rt:Sr s 94 [] rM rN:=by
 intro fr U p w o h ho;unfold rN at ho;have h0:=h;obtain⟨lb,L,lc,K,tv,nd,d,e,a,t,hr,hm,ht,ho,_,_⟩:=HO.tok h ho;refine aaf ?_;simp only[an,hr.lL,aS,hr.lK,ag,hr.ix,aU,hr.kL ht]
 replace h:=h0
 clear h0 hr hm;generalize t.at_=a at*;have fin {ty:Int} {U:St} {w:Option (PS (ai s))} (h:Rf s fr U p w) (ho:HO w (me 1>>=λnm=>(pure (a,nm.text,ty):PM (ai s) _)) o):
   Wp (RQ s fr p rM o) λu=>Bb u.n (some (p,0)) 0 0 [] 0 0 none 0 (some 0) 0 18 a [] 0 ty none 0 (some 0) 0 U:=by
  refine aag ?_;refine Rf.call (EK 1) h ho λt w1 U1 h ho=>?_;simp only[fO,dZ,bK,bc,ag,aG,aZ];exact Rf.ret (enc:=rM) h ho
 refine Rf.call (kK [99,104,97,114]) h ho λb w1 U1 h ho=>?_;simp only[cO,bp];cases b with
 |true=>
  simp only[if_true]at ho;refine Wp.pos rfl (Rf.call (iQ [42]) h ho λ_ w1 U1 h ho=>?_);exact fin h ho
 |false=>
  simp only[aW,if_false]at ho;refine Wp.neg rfl (Rf.call (iQ [105,110,116]) h ho λ_ w1 U1 h ho=>?_);refine Rf.call (kK [42]) h ho λb w1 U1 h ho=>?_;simp only[cO,bp];cases b with
  |true=>simp only[if_true]at ho;exact Wp.pos rfl (fin h ho)
  |false=>simp only[aW,if_false]at ho;exact Wp.neg rfl (fin h ho)
theorem LK {ex:Nat->PM (ai s) Nat} (hex:∀l:Nat,Sr s 197 [.int .i64 (l:Int)] aj (ex l)):Sr s 176 [] aj (q9 ex):=by
 intro fr U p w o h ho;refine Xh ?_;unfold q9 at ho;refine Rf.call (iQ [40]) h ho λ_ w1 U1 h ho=>?_;cases w1 with
 |none=>
  obtain⟨e,he,hE⟩:=h.e;simp only[an,hE,ag];exact Wp.pos (by simpa using he) (Rf.idle (enc:=aj) (x:=0) h (ho.2 rfl))
 |some st=>
  simp only[an,h.e0,ag];refine Wp.neg rfl (Rf.call (hex 1) h ho λx w1 U1 h ho=>?_);simp only[aj,ag];refine Rf.call (iQ [41]) h ho λ_ w1 U1 h ho=>?_;exact Rf.ret (enc:=aj) h ho
theorem JW {ex:Nat->PM (ai s) Nat} (hex:∀l:Nat,Sr s 197 [.int .i64 (l:Int)] aj (ex l)):Sr s 177 [] aj (ex 1):=by
 intro fr U p w o h ho;refine Xi ?_;cases w with
 |none=>
  obtain⟨e,he,hE⟩:=h.e;simp only[an,hE,ag];exact Wp.pos (by simpa using he) (Rf.idle (enc:=aj) (x:=0) h (ho.2 rfl))
 |some st=>
  simp only[an,h.e0,ag];refine Wp.neg rfl (Rf.last (hex 1) h ho λu a U1=>by simp only[aj,ag])
theorem K3 {at_:Nat} {acc:List Nat} {a:Ad} {k z:Nat} {c:On} {o:Except bd (Nat×PS (ai s))} (h:KF s fr U p w (.slice a k c z) acc) (ho:HO w (cH ⟨17,at_,[],0,0,acc⟩) o):
  Wp (RQ s fr p aj o) λu=>DP u.n (some (p,0)) 0 at_ a k c z U:=by
 refine aai ?_;exact KF.fh h ho rfl λu a U1=>by simp only[aj,ag]
theorem Uu {sm:PM (ai s) Nat} (eG:Sr s 123 [] aj sm) {at_:Nat}:∀(n:Nat) {acc:List Nat} {U:St} {w:Option (PS (ai s))} {a:Ad} {k z:Nat} {c:On} {o:Except bd (Nat×PS (ai s))},
  acc.length+n<=1000000000->KF s fr U p w (.slice a k c z) acc->HO w (dt (sq sm) n acc>>=λkids=>cU>>=λ_=>cH ⟨17,at_,[],0,0,kids⟩) o->
  Wp (RQ s fr p aj o) λu=>yp u.n u.m1 (some (p,0)) 0 at_ a k c z U:=by
 have idle {acc:List Nat} {U:St} {a:Ad} {k z:Nat} {c:On} {o:Except bd (Nat×PS (ai s))} (h:KF s fr U p none (.slice a k c z) acc) (ho:∃e,o=.error e):Wp (RQ s fr p aj o) λu=>yp u.n u.m1 (some (p,0)) 0 at_ a k c z U:=by
  obtain⟨e,he,hE⟩:=h.rf.e;refine OC ?_;simp only[an,hE,ag];exact Wp.neg (by simpa using he) (K3 h ⟨nofun,λ_=>ho⟩)
 intro n
 induction n with
 |zero=>
  intro acc U w a k z c o _ h ho;cases w with
  |none=>exact idle h (ho.2 rfl)
  |some st=>have:=ho.1 st rfl;rw[PM.bind_none rfl]at this;cases this
 |succ n ih=>
  intro acc U w a k z c o hl h ho;cases w with
  |none=>exact idle h (ho.2 rfl)
  |some st=>
  refine OC ?_;simp only[an,h.rf.e0,ag];rw[pP]at ho;simp only[sq,PM.bind_assoc,PM.jN,PM.pure_bind,pN,pO]at ho;rw[EC]at ho;refine Wp.pos rfl (KF.call (kK [125]) h ho λb w1 U1 h ho=>?_);simp only[cO,bp];cases b with
  |true=>simp only[if_true]at ho;exact Wp.pos rfl (K3 h ho)
  |false=>
   simp only[aW,if_false]at ho;refine Wp.neg rfl (KF.call eG h ho λx w1 U1 h ho=>?_);simp only[aj,ag];refine h.app rfl (by omega) λb U2 h=>?_;exact ih (by simp;omega) h ho
theorem K6 {sm:PM (ai s) Nat} (eG:Sr s 123 [] aj sm) {n:Nat} (hn:n<=1000000000):Sr s 95 [] aj (q6 sm n):=by
 intro fr U p w o h ho;unfold q6 at ho;have h0:=h;obtain⟨lb,L,lc,K,tv,nd,d,e,a,t,hr,hm,ht,ho,_,_⟩:=HO.tok h ho;refine aah ?_;simp only[an,hr.lL,aS,hr.lK,ag,hr.ix,aU,hr.kL ht];refine Rf.call (iQ [123]) h0 ho λ_ w1 U1 h ho=>?_;refine Wp.cD (F:=λn m=>yp n m (some (p,0)) 0 t.at_ none 0 (some 0) 0 U1) ?_;exact Uu eG n (by simp;omega) (.zero 0 h) ho
theorem Rf.is {st:PS (ai s)} {m:By} {KK:Fu->AV->St->Out} (h:Rf s fr U p (some st)) (hk:∀U1,Rf s fr U1 p (some st)->Wp Q λu=>KK u (.bool (br st.tok m)) U1):
  Wp Q λu=>cW ae Lb u.n 92 [.ptr (some (p,0)),.str m] U (KK u):=by
 refine Wp.call (Qr m fr U p (some st) (.ok (br st.tok m,st)) h ⟨λ_ h=>by cases h;rfl,nofun⟩) (λv U' hv=>?_) λv U' hv=>by obtain⟨_,_,hv,_⟩:=hv;cases hv
 obtain⟨a,w',hv,hr,hm⟩:=hv;cases hv;cases w' with
 |none=>obtain⟨_,hm⟩:=hm;cases hm
 |some st'=>cases hm;exact hk U' hr
theorem HO.is {st:PS (ai s)} {m:By} {k:Bool->PM (ai s) α} {o:Except bd (α×PS (ai s))} (ho:HO (some st) (jq m>>=k) o):HO (some st) (k (br st.tok m)) o:=⟨λst' h=>by cases h;exact ho.1 st rfl,nofun⟩
theorem HO.take {st:PS (ai s)} {m:By} {X Y:PM (ai s) α} {o:Except bd (α×PS (ai s))} (ho:HO (some st) (ep m>>=λb=>if b=true then X else Y) o):HO (some st) (if br st.tok m=true then cU>>=λ_=>X else Y) o:=by
 rw[<-EC]at ho;exact ho.is
theorem RC.I5 {p lb K x:Nat} {L:List Tok} {lc:On} {tv:AV} {nd:List Node} {d e a:Int} {y:Node} (h:RC s fr U p lb L lc K tv nd d e a) (hx:nd[x]? =some y) (f:AV->Out):
  (gn tv λa n _ z=>ao (x:Int) n<|af a λb o=>ar z 6<|aI ae 3 U b ((o+((x:Int)).toNat*6)+0) f)=f (.int .i64 y.kind):=h.hn.cell hx (by decide) fA (λk=>rfl) f
theorem aeF {ex:Nat->PM (ai s) Nat} (hex:∀l:Nat,Sr s 197 [.int .i64 (l:Int)] aj (ex l)) (at_:Nat):Sr s 178 [.int .i64 (at_:Int)] aj (tE ex at_):=by
 intro fr U p w o h ho;refine Xj ?_;unfold tE at ho;refine Rf.call (hex 1) h ho λx w1 U1 h ho=>?_;simp only[aj,ag];have fin {w:Option (PS (ai s))} {U:St} (h:Rf s fr U p w) (ho:HO w (eL [59]>>=λ_=>cH ⟨10,at_,[],0,0,[x]⟩) o):Wp (RQ s fr p aj o) λu=>cW ae Lb u.n 70 [.ptr (some (p,0)),.str [59]] U λ_ U22=>
   cW ae Lb u.n 31 [.ptr (some (p,0)),.agg [.int .i64 (10:Int),.int .i64 at_,.str [],.int .i64 (0:Int),.int .i64 (0:Int),.slice (some (U22.length,0)) 1 (some 1) 1]] (U22++[aq.cells [.int .i64 x] (.rw (.row 3))]:St) λv25 U24=>
   gY .i64 v25 λi26=>
   some (.ret (.int .i64 i26),U24):=by
  refine Rf.call (iQ [59]) h ho λ_ w1 U1 h ho=>?_;exact KF.fh (x:=⟨10,at_,[],0,0,[x]⟩) (h.new (o:=aq.cells [.int .i64 (x:Int)] (.rw (.row 3))) [x] rfl rfl (.inr rfl)) ho rfl λu a U1=>by simp only[aj,ag]
 cases w1 with
 |none=>
  refine Wp.call (Qq [61] h) (λv U' hv=>?_) λv U' hv=>by cases hv.1
  obtain⟨hv,rfl⟩:=hv;cases hv;simp only[bp];exact Wp.neg rfl (fin h ⟨nofun,ho.2⟩)
 |some st=>
  refine Rf.is h λU2 h=>?_
  replace ho:=ho.is
  simp only[bp];refine Wp.ite (λhb=>?_) λhb=>?_
  ·simp only[hb,if_true]at ho;have h0:=h;obtain⟨lb,L,lc,K,tv,nd,d,e,a,hr,hm⟩:=h;obtain⟨y,hy,ho⟩:∃y,nd[x]? =some y/\HO (some st) (if y.kind=3\/y.kind=5 then cU>>=λ_=>ex 1>>=λy=>eL [59]>>=λ_=>iu x>>=λa=>cH ⟨11,a.at_,[],0,0,[x,y]⟩else oT 13) o:=by
    have hn:PM.bind (iu x) _ st=some o:=ho.1 st rfl;unfold PM.bind iu at hn;cases hx:st.nodes[x]? with
    |none=>rw[hx]at hn;cases hn
    |some y=>rw[hx]at hn;exact⟨y,by rw[hm.2.1];exact hx,λz hz=>by cases hz;exact hn,nofun⟩
   have e3:(y.kind !=(3:Int))= !decide (y.kind=3):=by rw[bne];rfl
   have e5:(y.kind !=(5:Int))= !decide (y.kind=5):=by rw[bne];rfl
   have hk:=hr.I5 hy;obtain⟨ta,tc,tz,gC⟩:=zj hr.hn;rw[gC]at hk;simp only[aS]at hk;simp only[an,hr.lT,gC,aS,hk,ag,e3,e5]
   replace h:=h0
   clear h0 hr hm hk;have go (ho:HO (some st) (cU>>=λ_=>ex 1>>=λy=>eL [59]>>=λ_=>iu x>>=λa=>cH ⟨11,a.at_,[],0,0,[x,y]⟩) o):Wp (RQ s fr p aj o) λu=>Dg u.n (some (p,0)) at_ 0 x U2:=by
    refine Xk ?_;refine Rf.call pR h ho λ_ w1 U1 h ho=>?_;simp only[fO,dZ,bK,bc,ag,aG,aZ];refine Rf.call (JW hex) h ho λy w1 U1 h ho=>?_;simp only[aj,ag];refine Rf.call (iQ [59]) h ho λ_ w1 U1 h ho=>?_;refine KF.place h ho λd ho _=>?_;simp only[ag];exact KF.fh (x:=⟨11,d.at_,[],0,0,[x,y]⟩) (h.new (o:=aq.cells [.int .i64 (x:Int),.int .i64 (y:Int)] (.rw (.row 3))) [x,y] rfl rfl (.inr rfl)) ho rfl λu a U1=>by simp only[aj,ag]
   by_cases h3:y.kind=3
   ·rw[if_pos (.inl h3)]at ho;exact Wp.neg (by simp[h3]) (go ho)
   ·refine Wp.pos (by simp[h3]) ?_;by_cases h5:y.kind=5
    ·rw[if_pos (.inr h5)]at ho;exact Wp.neg (by simp[h5]) (go ho)
    ·rw[if_neg (by simp[h3,h5])]at ho;refine Wp.pos (by simp[h5]) (Rf.nW h (by decide) ho λU1 h ho=>?_);exact Rf.idle (enc:=aj) (x:=0) h ho
  ·have hb:br st.tok [61]=false:=by simpa using hb
   simp only[hb,aW,if_false]at ho;exact fin h ho
theorem afR {sm:PM (ai s) Nat} {ex:Nat->PM (ai s) Nat} (eG:Sr s 123 [] aj sm) (hex:∀l:Nat,Sr s 197 [.int .i64 (l:Int)] aj (ex l)) {n:Nat} (hn:n<=1000000000) {st:PS (ai s)} {o:Except bd (Nat×PS (ai s))}
  (h:Rf s fr U p (some st)) (ho:HO (some st) (eB>>=λt=>vI sm ex n t.at_) o):Fw ae Lb 154 [.ptr (some (p,0))] U (RQ s fr p aj o):=by
 have h0:=h;obtain⟨lb,L,lc,K,tv,nd,d,e,a,t,hr,hm,ht,ho,h5,_⟩:=HO.tok h ho;obtain⟨rfl,_,BD⟩:=h5 st rfl;refine W3 ?_;have e2:((st.tok.kind:Int)==(2:Int))=decide (st.tok.kind=2):=cL (b:=2);simp only[an,hr.lL,aS,hr.lK,ag,hr.ix,aU,hr.tok ht,fO,dZ,bK,bc,aG,aZ,e2]
 replace h:=h0
 clear h0 hr hm ht;unfold vI at ho;have main {wd:By} (wV:∀m,m≠[]->m∉marks->br st.tok m=(wd==m)):Wp (RQ s fr p aj o) λu=>Dd u.n (some (p,0)) 0 wd st.tok.kind st.tok.at_ st.tok.text st.tok.n U:=by
  refine W4 ?_;refine Rf.is h λU1 h=>?_
  replace ho:=ho.is
  simp only[bp];refine Wp.ite (λhb=>?_) λhb=>?_
  ·simp only[hb,if_true]at ho;exact Rf.last (K6 eG hn) h ho λu a U1=>by simp only[aj,ag]
  simp only[hb,aW,if_false]at ho;clear hb
  replace ho:=ho.take
  rw[wV _ (by decide) (by decide)]at ho;refine Wp.ite (λhb=>?_) λhb=>?_
  ·rw[if_pos hb]at ho;unfold wZ at ho;refine Rf.call pR h ho λ_ w1 U1 h ho=>?_;simp only[fO,dZ,bK,bc,ag,aG,aZ];refine Rf.call (LK hex) h ho λc w1 U1 h ho=>?_;simp only[aj,ag];refine KF.call eG (h.new (o:=aq.cells [.int .i64 (c:Int)] (.rw (.row 3))) [c] rfl rfl (.inr rfl)) ho λx w1 U2 h ho=>?_;simp only[aj,ag];refine h.app rfl (by simp) λb U3 h=>?_;refine KF.call (kK [101,108,115,101]) h ho λy w1 U4 h ho=>?_;simp only[cO,bp];cases y with
   |true=>
    simp only[if_true]at ho;refine Wp.pos rfl (KF.call eG h ho λx w1 U2 h ho=>?_);simp only[aj,ag];refine h.app rfl (by simp) λb U3 h=>?_;exact KF.fh h ho rfl λu a U1=>by simp only[aj,ag]
   |false=>
    simp only[aW,if_false]at ho;refine Wp.neg rfl ?_;exact KF.fh h ho rfl λu a U1=>by simp only[aj,ag]
  rw[if_neg (by simpa using hb)]at ho;clear hb
  replace ho:=ho.take
  rw[wV _ (by decide) (by decide)]at ho;refine Wp.ite (λhb=>?_) λhb=>?_
  ·rw[if_pos hb]at ho;refine Rf.call pR h ho λ_ w1 U1 h ho=>?_;simp only[fO,dZ,bK,bc,ag,aG,aZ];refine Rf.call (LK hex) h ho λc w1 U1 h ho=>?_;simp only[aj,ag];refine Rf.call eG h ho λx w1 U2 h ho=>?_;simp only[aj,ag];exact KF.fh (x:=⟨13,st.tok.at_,[],0,0,[c,x]⟩) (h.new (o:=aq.cells [.int .i64 (c:Int),.int .i64 (x:Int)] (.rw (.row 3))) [c,x] rfl rfl (.inr rfl)) ho rfl λu a U1=>by simp only[aj,ag]
  rw[if_neg (by simpa using hb)]at ho;clear hb
  replace ho:=ho.take
  rw[wV _ (by decide) (by decide)]at ho;refine Wp.ite (λhb=>?_) λhb=>?_
  ·rw[if_pos hb]at ho;refine Rf.call pR h ho λ_ w1 U1 h ho=>?_;simp only[fO,dZ,bK,bc,ag,aG,aZ];refine Rf.call (JW hex) h ho λx w1 U1 h ho=>?_;simp only[aj,ag];refine Rf.call (iQ [59]) h ho λ_ w1 U2 h ho=>?_;exact KF.fh (x:=⟨14,st.tok.at_,[],0,0,[x]⟩) (h.new (o:=aq.cells [.int .i64 (x:Int)] (.rw (.row 3))) [x] rfl rfl (.inr rfl)) ho rfl λu a U1=>by simp only[aj,ag]
  rw[if_neg (by simpa using hb)]at ho;clear hb
  replace ho:=ho.take
  rw[wV _ (by decide) (by decide)]at ho;refine Wp.ite (λhb=>?_) λhb=>?_
  ·rw[if_pos hb]at ho;have hb:wd=[98,114,101,97,107]:=by simpa using hb
   refine W5 ?_;refine Rf.call pR h ho λ_ w1 U1 h ho=>?_;simp only[fO,dZ,bK,bc,ag,aG,aZ];refine Rf.call (iQ [59]) h ho λ_ w1 U2 h ho=>?_;exact Wp.neg (by rw[hb];rfl) (KF.fh (.zero 0 h) ho rfl λu a U1=>by simp only[aj,ag])
  rw[if_neg (by simpa using hb)]at ho;clear hb
  replace ho:=ho.take
  rw[wV _ (by decide) (by decide)]at ho;refine W6 (Wp.ite (λhb=>?_) λhb=>?_)
  ·rw[if_pos hb]at ho;refine Rf.call pR h ho λ_ w1 U1 h ho=>?_;simp only[fO,dZ,bK,bc,ag,aG,aZ];refine Rf.call (iQ [59]) h ho λ_ w1 U2 h ho=>?_;exact Wp.pos hb (KF.fh (.zero 0 h) ho rfl λu a U1=>by simp only[aj,ag])
  rw[if_neg (by simpa using hb)]at ho;clear hb;have var (ho:HO (some st) (pZ ex) o):CZ (ML (Q:=RQ s fr p aj o) (a1:=some (p,0)) (i2:=0) (i3:=st.tok.kind) (i4:=st.tok.at_) (s5:=st.tok.text) (i6:=st.tok.n) (U:=U1)):=by
   show Wp _ _;unfold pZ at ho;refine Rf.call Rt h ho λx w1 U1 h ho=>?_;simp only[rM,bK,bc,ag,aG,aS,aZ];refine Rf.call (kK [61]) h ho λb w1 U1 h ho=>?_;simp only[cO,bp];cases b with
   |true=>
    simp only[if_true]at ho;refine Wp.pos rfl (Rf.call (JW hex) h ho λy w1 U1 h ho=>?_);simp only[aj,ag];refine KF.call (iQ [59]) (h.new (o:=aq.cells [.int .i64 (y:Int)] (.rw (.row 3))) [y] rfl rfl (.inr rfl)) ho λ_ w1 U2 h ho=>?_;exact KF.fh h ho rfl λu a U1=>by simp only[aj,ag]
   |false=>
    simp only[aW,if_false]at ho;refine Wp.neg rfl (Rf.call (iQ [59]) h ho λ_ w1 U2 h ho=>?_);exact KF.fh (.zero 0 h) ho rfl λu a U1=>by simp only[aj,ag]
  replace ho:=ho.is
  rw[wV _ (by decide) (by decide)]at ho;refine Wp.ite (λhb=>?_) λhb=>?_
  ·rw[if_pos hb]at ho;exact ML (var ho)
  rw[if_neg (by simpa using hb)]at ho;clear hb
  replace ho:=ho.is
  rw[wV _ (by decide) (by decide)]at ho;refine W7 (Wp.ite (λhb=>?_) λhb=>?_)
  ·rw[if_pos hb]at ho;exact var ho
  rw[if_neg (by simpa using hb)]at ho;exact Rf.last (aeF hex st.tok.at_) h ho λu a U1=>by simp only[aj,ag]
 refine Wp.ite (λhb=>main λm _ hm=>?_) λhb=>main λm wM hm=>?_
 ·unfold br;rw[of_decide_eq_true hb];rfl
 ·unfold br;have h2:=of_decide_eq_false hb;have:([]==m)=false:=by cases m with
   |nil=>exact absurd rfl wM
   |cons=>rfl
  rw[this];by_cases h5:st.tok.kind=5
  ·have:=BD h5;have:(st.tok.text==m)=false:=by
    rw[beq_eq_false_iff_ne];intro e;rw[e]at this;exact hm this
   rw[this,Bool.and_false]
  ·have e1:(st.tok.kind==2)=false:=by simpa using h2
   have e2:(st.tok.kind==5)=false:=by simpa using h5
   rw[e1,e2];rfl
theorem afX {sm:PM (ai s) Nat} {ex:Nat->PM (ai s) Nat} (eG:Sr s 123 [] aj sm) (hex:∀l:Nat,Sr s 197 [.int .i64 (l:Int)] aj (ex l)) {n:Nat} (hn:n<=1000000000):Sr s 123 [] aj (tO sm ex n):=by
 intro fr U p w o h ho;refine MB ?_;unfold tO at ho;refine Rf.call C0 h ho λ_ w1 U1 h ho=>?_;cases w1 with
 |none=>
  obtain⟨e,he,hE⟩:=h.e;simp only[an,hE,ag];refine Wp.neg (by simpa using he) (G4 ?_);simp only[an];exact Rf.up (enc:=aj) (x:=0) h ⟨nofun,ho.2⟩ rfl
 |some st=>
  have ho:HO (some st) ((eB>>=λt=>vI sm ex n t.at_)>>=λx=>kO>>=λ_=>pure x) o:=by rw[PM.bind_assoc];exact ho
  simp only[an,h.e0,ag];refine Wp.pos rfl (Rf.sw (λo1 h1=>afR eG hex hn h h1) ho λx w1 U1 h ho=>?_).1;simp only[aj,ag];refine G4 ?_;simp only[an];exact Rf.up (enc:=aj) h ho rfl
theorem afG:∀(n:Nat),n<=1000000000->Sr s 123 [] aj (zz n):=by
 intro n
 induction n with
 |zero=>
  intro _ fr U p w o h ho;cases w with
  |some st=>cases ho.1 st rfl
  |none=>
   obtain⟨e,rfl⟩:=ho.2 rfl;refine MB ?_;refine Rf.call (k:=λ_=>(λ_=>none:PM (ai s) Nat)) (C0 (s:=s)) h ⟨nofun,λ_=>⟨e,rfl⟩⟩ λ_ w1 U1 h ho=>?_;cases w1 with
   |some st=>cases ho.1 st rfl
   |none=>
   obtain⟨e,he,hE⟩:=h.e;simp only[an,hE,ag];refine Wp.neg (by simpa using he) (G4 ?_);simp only[an];exact Rf.up (enc:=aj) (x:=0) h ⟨nofun,ho.2⟩ rfl
 |succ n ih=>intro hn;exact afX (ih (by omega)) (VY n (by omega)).2 (by omega)
end
end Go.Front
end
section
set_option maxRecDepth 100000
namespace Go.Front
open Go.AM Go.Proofs
def OT {S:hJ} (n at_:Nat) (nm:By):PM S Nat:=ep [41]>>=λb=>if b=true then np n at_ nm []else dt rO n []>>=λkids=>np n at_ nm kids
section
variable {s:By} {fr ed:Fr} {U0 U U':St} {p:Nat} {v:AV} {w:Option (PS (ai s))} {α β γ:Type} {enc:α->AV} {ot:β->AV} {f:FuncId} {xs:List AV} {Q:bw} {kids:List Nat}
theorem KF.len {a:Ad} {n z:Nat} {c:On} (h:KF s fr U p w (.slice a n c z) kids):n=kids.length:=by
 cases h<;>rfl
theorem KF.adF {x:Node} {k:Nat->PM (ai s) β} {o:Except bd (β×PS (ai s))} {KK:Fu->AV->St->Out} {args:List AV} (h:KF s fr U p w v kids) (ho:HO w (cH x>>=k) o) {z:Nat} (hx:x.kids=[])
  (ha:args=[.ptr (some (p,0)),.agg [.int .i64 x.kind,.int .i64 x.at_,.str x.text,.int .i64 x.n,.int .i64 x.m,.slice none 0 (some 0) z]]) (hk:∀a w1 U1,KF s fr U1 p w1 v kids->HO w1 (k a) o->Wp Q λu=>KK u (aj a) U1):
  Wp Q λu=>cZ ae Lb u.n 31 args U (KK u):=by
 subst ha;obtain⟨ed,h1,h2⟩:=h.xf;exact(Rf.sw (λo1 h5=>Fb (x:=x) (v:=.slice none 0 (some 0) z) (by rw[hx];exact .zero z h1) h5) ho λa w1 U1 h3 h4=>hk a w1 U1 (h2 U1 w1 h3) h4).2
theorem Gd {n at_:Nat} {nm:By} {M:Int} (hn:n<=1000000000) {a:Ad} {k z:Nat} {c:On} {o:Except bd (Nat×PS (ai s))} (hl:kids.length<=1000000000) (h:KF s fr U p w (.slice a k c z) kids) (ho:HO w (np n at_ nm kids) o):
  Wp (RQ s fr p aj o) λu=>DF u.n (some (p,0)) 0 22 at_ nm 0 M a k c z U:=by
 obtain rfl:=h.len;refine ZB ?_;cases w with
 |none=>
  obtain⟨e,he,hE⟩:=h.rf.e;simp only[an,hE,ag];exact Wp.neg (by simpa using he) (KF.fh (x:=⟨22,at_,nm,0,kids.length,kids⟩) h ⟨nofun,ho.2⟩ rfl λu a U1=>by simp only[aj,ag])
 |some st=>
  simp only[an,h.rf.e0,ag];unfold np at ho;refine Wp.pos rfl (KF.sw (K6 (afG n hn) hn) h ho λb w1 U1 h ho=>?_).2;simp only[aj,ag];refine h.app rfl hl λb U2 h=>?_;exact KF.fh h ho rfl λu a U1=>by simp only[aj,ag]
theorem aez {N at_:Nat} {nm:By} {M:Int} (hN:N<=1000000000):∀(n:Nat) {acc:List Nat} {U:St} {w:Option (PS (ai s))} {a:Ad} {k z:Nat} {c:On} {o:Except bd (Nat×PS (ai s))},
  acc.length+n<=1000000000->KF s fr U p w (.slice a k c z) acc->HO w (dt rO n acc>>=λkids=>np N at_ nm kids) o->
  Wp (RQ s fr p aj o) λu=>wy u.n u.m1 (some (p,0)) 0 false 22 at_ nm 0 M a k c z U:=by
 have idle {acc:List Nat} {U:St} {a:Ad} {k z:Nat} {c:On} {o:Except bd (Nat×PS (ai s))} (hl:acc.length<=1000000000) (h:KF s fr U p none (.slice a k c z) acc) (ho:∃e,o=.error e):
   Wp (RQ s fr p aj o) λu=>wy u.n u.m1 (some (p,0)) 0 false 22 at_ nm 0 M a k c z U:=by
  obtain⟨e,he,hE⟩:=h.rf.e;refine DG ?_;simp only[an,hE,ag];exact Wp.pos rfl (Wp.neg (by simpa using he) (Gd hN hl h ⟨nofun,λ_=>ho⟩))
 intro n
 induction n with
 |zero=>
  intro acc U w a k z c o hl h ho;cases w with
  |none=>exact idle (by omega) h (ho.2 rfl)
  |some st=>have:=ho.1 st rfl;rw[PM.bind_none rfl]at this;cases this
 |succ n ih=>
  intro acc U w a k z c o hl h ho;cases w with
  |none=>exact idle (by omega) h (ho.2 rfl)
  |some st=>
  refine DG ?_;simp only[an,h.rf.e0,ag];rw[pP]at ho;simp only[rO,PM.bind_assoc,PM.jN,PM.pure_bind,pN,pO]at ho;refine Wp.pos rfl (Wp.pos rfl (KF.call Rt h ho λx w1 U1 h ho=>?_));simp only[rM,bK,bc,ag,aG,aS,aZ];refine KF.adF h ho rfl rfl λy w1 U1 h ho=>?_;simp only[aj,ag];refine h.app rfl (by omega) λb U2 h=>?_;refine KF.call (kK [41]) h ho λb w1 U1 h ho=>?_;simp only[cO,bp];cases b with
  |true=>
   simp only[if_true]at ho;exact Wp.neg rfl (DG (Wp.neg rfl (Gd hN (by simp;omega) h ho)))
  |false=>
   simp only[aW,if_false]at ho;refine Wp.pos rfl (KF.call (iQ [44]) h ho λ_ w1 U1 h ho=>?_);exact ih (by simp;omega) h ho
theorem aaG {n at_:Nat} {nm:By} {i5 M:Int} (hn:n<=1000000000):Sr s 72 [.agg [.int .i64 i5,.int .i64 at_,.str nm,.int .i64 0,.int .i64 M,.slice none 0 (some 0) 0]] aj (OT n at_ nm):=by
 intro fr U p w o h ho;refine ZA ?_;unfold OT at ho;refine Rf.call (kK [41]) h ho λb w1 U1 h ho=>?_;simp only[cO,bp];refine Wp.cD (F:=λn m=>wy n m (some (p,0)) 0 b 22 at_ nm 0 M none 0 (some 0) 0 U1) ?_;cases b with
 |true=>
  simp only[if_true]at ho;exact DG (Wp.neg rfl (Gd hn (by simp) (.zero 0 h) ho))
 |false=>
  simp only[aW,if_false]at ho;exact aez hn n (by simp;omega) (.zero 0 h) ho
theorem KT {at_:Nat} {nm:By} {N:Int} {ty:Int} {o:Except bd (Nat×PS (ai s))} (h:Rf s fr U p w) (ho:HO w (qX at_ nm ty) o):
  Wp (RQ s fr p aj o) λu=>Dx u.n (some (p,0)) 0 21 at_ nm N ty none 0 (some 0) 0 U:=by
 refine Yx ?_;unfold qX at ho;refine Rf.call (iQ [91]) h ho λ_ w1 U1 h ho=>?_;refine Rf.call (EK 3) h ho λk w1 U1 h ho=>?_;simp only[fO,dZ,bK,bc,ag,aG,aZ];refine Rf.call (iQ [93]) h ho λ_ w1 U1 h ho=>?_;refine Rf.call (iQ [59]) h ho λ_ w1 U1 h ho=>?_;exact KF.fh (.zero 0 h) ho rfl λu a U1=>by simp only[aj,ag]
theorem VA {n:Nat} (hn:n<=1000000000):Sr s 30 [] aj (sF n):=by
 intro fr U p w o h ho;unfold sF at ho;have h0:=h;obtain⟨lb,L,lc,K,tv,nd,d,e,a,t,hr,hm,ht,ho,_,_⟩:=HO.tok h ho;refine Yw ?_;simp only[an,hr.lL,aS,hr.lK,ag,hr.ix,aU,hr.kL ht]
 replace h:=h0
 clear h0 hr hm ht;generalize t.at_=at_ at*;refine Rf.call (kK [99,104,97,114]) h ho λb w1 U1 h ho=>?_;simp only[cO,bp];cases b with
 |true=>
  simp only[if_true]at ho;refine Wp.pos rfl (Nz ?_);refine Rf.call (EK 1) h ho λk w1 U1 h ho=>?_;simp only[fO,dZ,bK,bc,ag,aG,aZ];exact Wp.neg rfl (KT h ho)
 |false=>
  simp only[aW,if_false]at ho;refine Wp.neg rfl (Rf.call (iQ [105,110,116]) h ho λ_ w1 U1 h ho=>?_);refine Nz ?_;refine Rf.call (EK 1) h ho λk w1 U1 h ho=>?_;simp only[fO,dZ,bK,bc,ag,aG,aZ];refine Wp.pos rfl (Rf.call (kK [59]) h ho λb w1 U1 h ho=>?_);simp only[cO,bp];cases b with
  |true=>
   simp only[if_true]at ho;exact Wp.pos rfl (KF.fh (.zero 0 h) ho rfl λu a U1=>by simp only[aj,ag])
  |false=>
   simp only[aW,if_false,wC]at ho;rw[EC]at ho;refine Wp.neg rfl (Rf.call (kK [40]) h ho λb w1 U1 h ho=>?_);simp only[cO,bp];cases b with
   |true=>
    simp only[if_true]at ho;exact Wp.pos rfl (Rf.last (aaG hn) h ho λu a U1=>by simp only[aj,ag])
   |false=>
    simp only[aW,if_false]at ho;exact Wp.neg rfl (KT h ho)
def zr (U0:St) (o:Except bd (List Node)):bw:=λr U'=>Up U0 U'/\
 match o with
 | .ok nd=>∃v,r=.ret (.tuple [v,.int .i64 0,.int .i64 0])/\vZ U' v nd
 | .error _=>∃c a:Int,r=.ret (.tuple [.slice none 0 (some 0) 0,.int .i64 c,.int .i64 a])/\c≠0
theorem Rf.up0 (h:Rf s fr U p w) (fL:∀b,b<U0.length->fr b=U0[b]?) (hp:U0.length<=p):Up U0 U:=by
 obtain⟨lb,L,lc,K,tv,nd,d,e,a,hr,hm⟩:=h;refine⟨by have:=hr.lt;omega,λb hb=>?_⟩;have hx:U0[b]? =some (U0[b]'hb):=bk hb;rw[hx];exact hr.bE b _ (by rw[fL b hb,hx])
theorem RN {acc:List Nat} {a:Ad} {k z:Nat} {c:On} {o:Except bd (Nat×PS (ai s))} (fL:∀b,b<U0.length->fr b=U0[b]?) (hp:U0.length<=p) (h:KF s fr U p w (.slice a k c z) acc)
  (ho:HO w (cH ⟨23,0,[],0,0,acc⟩) o):Wp (zr U0 (vu o)) λu=>Df u.n none 0 (some 0) 0 0 0 p 0 a k c z U:=by
 refine Xe ?_;refine Wp.call (Fb h ho) (λv U' hv=>?_) λv U' hv=>by obtain⟨_,_,hv,_⟩:=hv;cases hv
 obtain⟨y,w',hv,hr,hm⟩:=hv;cases hv;have hu:=hr.up0 fL hp;simp only[aj,ag];obtain⟨lb,L,lc,K,tv,nd,d,e,a,hr,kB⟩:=hr;obtain⟨ta,tc,tz,gC⟩:=zj hr.hn;simp only[hr.lE,ag];cases w' with
 |none=>
  obtain⟨e',rfl⟩:=hm;have he:e≠0:=kB;refine Wp.pos (by simpa using he) ?_;have hA (f:AV->Out):aI ae 3 U' p (0+5) f=f (.int .i64 a):=cq hr.cc fA rfl;simp only[hA,ag];exact Wp.ret ⟨hu,e,a,rfl,he⟩
 |some st=>
  cases hm;refine Wp.neg (by rw[kB.1];rfl) ?_;simp only[hr.lT,gC,aS];refine Wp.ret ⟨hu,_,rfl,?_⟩;have:=hr.hn.src;rw[kB.2.1,gC,kB.2.1]at this;rw[kB.2.1];exact this
theorem aeZ {N:Nat} (hN:N<=1000000000) (fL:∀b,b<U0.length->fr b=U0[b]?) (hp:U0.length<=p):∀(n:Nat) {acc:List Nat} {U:St} {w:Option (PS (ai s))} {a:Ad} {k z:Nat} {c:On} {o:Except bd (Nat×PS (ai s))},
  acc.length+n<=1000000000->KF s fr U p w (.slice a k c z) acc->HO w (dt (sE N) n acc>>=λkids=>cH ⟨23,0,[],0,0,kids⟩) o->
  Wp (zr U0 (vu o)) λu=>ye u.n u.m1 none 0 (some 0) 0 0 0 p 0 a k c z U:=by
 have idle {acc:List Nat} {U:St} {a:Ad} {k z:Nat} {c:On} {o:Except bd (Nat×PS (ai s))} (h:KF s fr U p none (.slice a k c z) acc) (ho:∃e,o=.error e):
   Wp (zr U0 (vu o)) λu=>ye u.n u.m1 none 0 (some 0) 0 0 0 p 0 a k c z U:=by
  obtain⟨e,he,hE⟩:=h.rf.e;refine MN ?_;simp only[hE,ag];exact Wp.neg (by simpa using he) (RN fL hp h ⟨nofun,λ_=>ho⟩)
 intro n
 induction n with
 |zero=>
  intro acc U w a k z c o hl h ho;cases w with
  |none=>exact idle h (ho.2 rfl)
  |some st=>have:=ho.1 st rfl;rw[PM.bind_none rfl]at this;cases this
 |succ n ih=>
  intro acc U w a k z c o hl h ho;cases w with
  |none=>exact idle h (ho.2 rfl)
  |some st=>
  refine MN ?_;rw[pP]at ho;simp only[sE,PM.bind_assoc,PM.jN,PM.pure_bind,pN,pO]at ho;obtain⟨lb,L,lc,K,tv,nd,d,e,a',t,hr,hm,ht,ho,_,_⟩:=HO.tok h.rf ho;have e0:((t.kind:Int) !=(0:Int))= !decide (t.kind=0):=by rw[bne,show((t.kind:Int)==(0:Int))=decide (t.kind=0)from cL (b:=0)]
  simp only[h.rf.e0,ag,an,hr.lL,aS,hr.lK,hr.ix,aU,hr.FL ht,e0];clear hr hm ht;refine Wp.pos rfl (Wp.ite (λhb=>?_) λhb=>?_)
  ·have hb:¬t.kind=0:=by simpa using hb
   rw[if_neg hb]at ho;refine KF.call (VA hN) h ho λx w1 U1 h ho=>?_;simp only[aj,ag];refine h.app rfl (by omega) λb U2 h=>?_;exact ih (by simp;omega) h ho
  ·have hb:t.kind=0:=by simpa using hb
   rw[if_pos hb]at ho;exact RN fL hp h ho
theorem SN:∀(k at_:Nat),(kN s k at_).length<=k
 |0,_=>aA _
 |k+1,at_=>by
  rw[kN];cases one (s.drop (at_+skip false (s.drop at_)))with
  |none=>simp
  |some q=>
   simp only[cr];have:=SN k (at_+skip false (s.drop at_)+q.2.2.2);split
   ·simp
   ·omega
theorem aeY (hs:s.length<=1000000000) {n:Nat} (hn:n<=1000000000) {o:Except bd (List Node)} (ho:qK (ai s) (0:Nat) n=some o):Fw ae Lb 16 [.str s] U (zr U o):=by
 refine Xc ?_;refine Wp.call (ago hs) (λv U2 hv=>?_) λv U2 hv=>by obtain⟨_,_,_,hv,_⟩:=hv;cases hv
 obtain⟨hu,lb,lc,hv,sV,H5,yB⟩:=hv;cases hv;have hlen:=SN (s:=s) (s.length+1) 0;have h1:kN s (s.length+1) 0=match one (s.drop (0+skip false (s.drop 0)))with
   |none=>[⟨6,0+skip false (s.drop 0),[],0⟩]
   |some p=>⟨p.1,0+skip false (s.drop 0),p.2.1,p.2.2.1⟩::if p.1=0 then[]else kN s s.length (0+skip false (s.drop 0)+p.2.2.2):=rfl
 have pE:=@Fc s 0;generalize hLd:kN s (s.length+1) 0=L at*;obtain⟨t,ht,h6,hN⟩:∃t,L[0]? =some t/\(t.kind=6->∃e,o=.error e)/\(t.kind≠6->∃q,(ai s).eP (0:Nat)=.inr (t,q)):=by
  cases bX:one (s.drop (0+skip false (s.drop 0)))with
  |none=>
   rw[bX]at h1 pE;refine⟨_,by rw[h1];rfl,λ_=>?_,λh=>absurd rfl h⟩;unfold qK at ho;rw[pE]at ho;cases ho;exact⟨_,rfl⟩
  |some q=>
   rw[bX]at h1 pE;exact⟨_,by rw[h1];rfl,λh=>by have:=Fi bX;have h:q.1=6:=h;omega,λ_=>⟨_,pE⟩⟩
 have dR:0<L.length:=(bl.1 ht).1
 let fr:Fr:=λb=>if b<U2.length then U2[b]? else none
 have al:=bB yB;have fL:∀b,b<U.length->fr b=U[b]?:=λb hb=>by
  have:=hu.len;show(if b<U2.length then U2[b]? else none)=_;rw[if_pos (by omega),hu.same b hb]
 have hr:RC s fr (U2++[aq.cells (rr (jO lb L lc) 0 (.slice none 0 (some 0) 0) 0 0 0) (.rw (.box 85))]) U2.length lb L lc 0 (.slice none 0 (some 0) 0) [] 0 0 0:=by
  refine⟨hs,λb x hb=>?_,?_,?_,?_,dR,by omega,.zero 0,by simp⟩
  ·have hb:(if b<U2.length then U2[b]? else none)=some x:=hb;split at hb
   ·rw[bO (by assumption)];exact hb
   ·cases hb
  ·show(if U2.length<U2.length then U2[U2.length]? else none)=_;rw[if_neg (Nat.lt_irrefl _)]
  ·show(if lb<U2.length then U2[lb]? else none)=_;rw[if_pos al];exact yB
  ·rw[bQ (aA _),gJ];rfl
 have e6:((t.kind:Int)==(6:Int))=decide (t.kind=6):=cL (b:=6);have hL0 (f:AV->Out):aI ae 48 (U2++[aq.cells (rr (jO lb L lc) 0 (.slice none 0 (some 0) 0) 0 0 0) (.rw (.box 85))]) U2.length 0 f=f (jO lb L lc):=hr.lL f;have hK0 (f:AV->Out):aI ae 3 (U2++[aq.cells (rr (jO lb L lc) 0 (.slice none 0 (some 0) 0) 0 0 0) (.rw (.box 85))]) lb ((0+0)+0) f=f (.int .i64 t.kind):=hr.FL ht f;have HJ:(U2++[aq.cells [.slice (some (lb,0)) L.length lc 4,.int .i64 (0:Int),.slice none 0 (some 0) 0,.int .i64 (0:Int),.int .i64 (0:Int),.int .i64 (0:Int)] (.rw (.box 85))])=U2++[aq.cells (rr (jO lb L lc) 0 (.slice none 0 (some 0) 0) 0 0 0) (.rw (.box 85))]:=rfl;simp only[aS,HJ,hL0,bm (show(0:Int)<=0/\(0:Int)<(L.length:Int)from⟨by omega,by omega⟩),an,aU,hK0,ag,e6];have loop {w:Option (PS (ai s))} {U1:St} {o2:Except bd (Nat×PS (ai s))} (h:Rf s fr U1 U2.length w) (ho:HO w (qP n) o2):Wp (zr U (vu o2)) λu=>De u.n none 0 (some 0) 0 0 0 U2.length 0 U1:=by
  refine Xd ?_;refine Wp.cD (F:=λn m=>ye n m none 0 (some 0) 0 0 0 U2.length 0 none 0 (some 0) 0 U1) ?_;exact aeZ hn fL hu.len n (by simp;omega) (.zero 0 h) ho
 refine Wp.ite (λhb=>?_) λhb=>?_
 ·obtain⟨e,rfl⟩:=h6 (of_decide_eq_true hb);refine Wp.call (J2 hr (by decide)) (λv U' hv=>?_) λv U' hv=>by cases hv.1
  obtain⟨hv,e',a',he,gy⟩:=hv;exact loop (w:=none) (o2:=.error e) ⟨lb,L,lc,0,_,[],0,e',a',gy,he⟩ ⟨nofun,λ_=>⟨e,rfl⟩⟩
 ·obtain⟨q,hq⟩:=hN (of_decide_eq_false hb);unfold qK at ho;rw[hq]at ho;have nJ:∃o2,qP (S:=ai s) n ⟨t,q,[],0⟩=some o2/\o=vu o2:=by
   cases hw:qP (S:=ai s) n ⟨t,q,[],0⟩with
   |none=>simp only[hw]at ho;cases ho
   |some r=>
    simp only[hw]at ho;cases r with
    |error e=>cases ho;exact⟨_,rfl,rfl⟩
    |ok x=>cases ho;exact⟨_,rfl,rfl⟩
  obtain⟨o2,nJ,rfl⟩:=nJ;refine loop (w:=some ⟨t,q,[],0⟩) (Rf.BY (Tk.of (k:=s.length+1) (j9 _) (by omega) (by rw[iy,hLd]) hq) hr rfl rfl rfl (j9 _)) ⟨λst h=>by cases h;exact nJ,nofun⟩
theorem Rx {n:Nat} (hn:n<=1000000000) {o:Except bd (List Node)} (ho:xq s n=some o):Fw ae Lb 9 [.str s] U (zr U o):=by
 refine aaq ?_;unfold xq at ho;refine Wp.ite (λhb=>?_) λhb=>?_
 ·rw[if_pos (by simp at hb;omega)]at ho;cases ho;exact Wp.ret ⟨Up.refl _,15,0,rfl,by decide⟩
 ·have hb:¬s.length>8192:=by simp at hb;omega
  rw[if_neg hb]at ho;refine Wp.call (aeY (by omega) hn ho) (λv U' hv=>?_) λv U' hv=>by
   obtain⟨_,hv⟩:=hv;cases o with
   |ok nd=>obtain⟨_,hv,_⟩:=hv;cases hv
   |error e=>obtain⟨_,_,hv,_⟩:=hv;cases hv
  obtain⟨hu,hv⟩:=hv;cases o with
  |ok nd=>
   obtain⟨v',hv,hs⟩:=hv;cases hv;have:∃a k c z,v'=.slice a k c z:=by cases hs<;>exact⟨_,_,_,_,rfl⟩
   obtain⟨a,k,c,z,rfl⟩:=this;simp only[eY,bc,aS,ag,aZ];exact Wp.ret ⟨hu,_,rfl,hs⟩
  |error e=>
   obtain⟨c,a,hv,hc⟩:=hv;cases hv;simp only[eY,bc,aS,ag,aZ];exact Wp.ret ⟨hu,c,a,rfl,hc⟩
end
end Go.Front
end
section
set_option maxRecDepth 100000
namespace Go.Front
open Go.AM Go.Proofs
structure Sy where
 kind:Int
 ty:Int
 n:Int
 node:Int
 name:By
 deriving DecidableEq
structure W where
 syms:List Sy
 of:List Int
 ty:List Int
structure Cx where
 t:List Node
 fn:List Int
 lp:List Bool
 ex:Nat->Option aq:=λ_=>none
def tn (name:By) (x:Sy):Bool:=x.kind !=4&&x.name==name
def tl (fn:List Int) (f:Int) (name:By) (x:Sy):Bool:=x.kind==4&&x.name==name&&fn[x.node.toNat]? ==some f
def gX (l:List Sy) (name:By):On:=l.findIdx? (tn name)
def jQ (fn:List Int) (l:List Sy) (f:Int) (name:By):On:=l.findIdx? (tl fn f name)
def oS (b:Bool):Int:=if b then 0 else 14
def W.cJ (w:W) (i:Nat) (v:Int):W:={w with ty:=w.ty.set i v}
def W.dn (w:W) (i:Nat) (v:Int):W:={w with of:=w.of.set i v}
def W.add (w:W) (x:Sy):W:={w with syms:=w.syms++[x]}
def ir (w:W) (y:Node) (i:Nat):Int:=w.ty.getD (y.kids.getD i 0) 0
def jG (c:Cx) (w:W) (i:Nat) (y:Node):On:=(jQ c.fn w.syms (c.fn.getD i 0) y.text).or (gX w.syms y.text)
def zH (c:Cx) (s:Sy) (i:Nat):Int:=
 if s.kind=3 then(match c.t[s.node.toNat]? with|some d=>(match c.t[d.kids.getD i 0]? with|some q=>q.m|none=>0)|none=>0)
 else if s.name=[115,121,115]/\0<i\/s.name=[97,100,114]then 0 else 1
def qg (c:Cx) (w:W) (y:Node) (s:Sy):Nat->Nat->Int
 |0,_=>0
 |n+1,i=>if zH c s i≠0/\zH c s i≠ir w y i then 14 else qg c w y s n (i+1)
def B3 (ty:Int):Bool:=ty==2||ty==3
def jS (c:Cx) (w:W) (i:Nat):Nat:=(w.syms.filter λx=>x.kind==4&&c.fn[x.node.toNat]? ==c.fn[i]?).length
def xS {K:Type} (kt:TypeId) (enc:K->AV) (f:K->On) (es:List (AV×AV)):Prop:=
 ∀key,match f key with
  |none=>du ae kt (enc key) es 0=some none
  |some k=>∃j,du ae kt (enc key) es 0=some (some (j,.int .i64 (k:Int)))
theorem IW {kt:TypeId} {key x v:AV}:∀{es:List (AV×AV)} {i:Nat},du ae kt key es i=some none->du ae kt key (es++[(x,v)]) i=match eK ae kt key x with|some true=>some (some (i+es.length,v))|some false=>some none|none=>none
 | [],i,h=>by
  simp only[fx,du,fw,mw];cases eK ae kt key x with
  |none=>rfl
  |some b=>cases b<;>rfl
 |(y,u)::es,i,h=>by
  simp only[du,eI]at h|-;cases hk:eK ae kt key y with
  |none=>rw[hk]at h;cases h
  |some b=>
   rw[hk]at h;cases b with
   |true=>cases h
   |false=>
    simp only at h|-;rw[IW h,cr,show i+1+es.length=i+(es.length+1)from by omega]
theorem QY {kt:TypeId} {key x v:AV} {r:Nat×AV}:∀{es:List (AV×AV)} {i:Nat},du ae kt key es i=some (some r)->du ae kt key (es++[(x,v)]) i=some (some r)
 | [],i,h=>by cases h
 |(y,u)::es,i,h=>by
  simp only[du,eI]at h|-;cases hk:eK ae kt key y with
  |none=>rw[hk]at h;cases h
  |some b=>
   rw[hk]at h;cases b with
   |true=>exact h
   |false=>exact QY h
theorem xS.app {K:Type} [DecidableEq K] {kt:TypeId} {enc:K->AV} {f g:K->On} {es:List (AV×AV)} {key:K} {n:Nat} (h:xS kt enc f es) (hq:∀a b,eK ae kt (enc a) (enc b)=some (decide (a=b))) (hf:f key=none)
  (hg:∀x,g x=if x=key then some n else f x):xS kt enc g (es++[(enc key,.int .i64 (n:Int))]):=by
 intro x;have hx:=h x;rw[hg x];by_cases he:x=key
 ·subst he;rw[hf]at hx;rw[if_pos rfl];exact⟨_,by rw[IW hx,hq,decide_eq_true rfl]⟩
 ·rw[if_neg he];cases pB:f x with
  |none=>
   rw[pB]at hx;show du _ _ _ _ _=_;rw[IW hx,hq,decide_eq_false he]
  |some k=>
   rw[pB]at hx;obtain⟨j,hj⟩:=hx;exact⟨j,QY hj⟩
def ko (x:Int×By):AV:=.agg [.iface 3 (.int .i64 x.1),.iface 9 (.str x.2)]
theorem afp:jt ae 9=true:=by kernel_rfl
theorem BP (a:By):fq ae 9 (.str a)=true:=by unfold fq;rw[afp];rfl
theorem EG (x:Int×By):fq ae 135 (ko x)=true:=by
 have h1:Fl ae 135=true:=by kernel_rfl
 have h2:Fp ae 3 9 .i64=true:=by kernel_rfl
 show(jt ae 135||(Fl ae 135&&Fp ae 3 9 .i64))=true;rw[h1,h2];simp
theorem VU {a b:By}:eK ae 9 (.str a) (.str b)=some (decide (a=b)):=by
 have:eK ae 9 (.str a) (.str b)=some (a==b):=by kernel_rfl
 rw[this];congr 1;rw[tU];simp
theorem VT {a b:Int×By}:eK ae 135 (ko a) (ko b)=some (decide (a=b)):=by
 have h:nQ (ko a) (ko b)=true:=by simp[nQ,ko]
 have:eK ae 135 (ko a) (ko b)=some ((a.1==b.1)&&((a.2==b.2)&&true)):=by
  show(if nQ (ko a) (ko b)then cu ae 100 135 (ko a) (ko b)else none)=_;rw[if_pos h];unfold ko;have cmp (t:TypeId) (h:(ae.info? t).any (·.comparable)=true):∃i,ae.info? t=some i/\i.comparable=true:=by
   cases hi:ae.info? t with
   |none=>rw[hi]at h;cases h
   |some i=>rw[hi]at h;exact⟨i,rfl,h⟩
  obtain⟨i1,c1,d1⟩:=cmp 3 (by kernel_rfl);obtain⟨i2,c2,d2⟩:=cmp 9 (by kernel_rfl);exact GJ (ms:=#[]) (e:=20) (by kernel_rfl) (by kernel_rfl) (by kernel_rfl) (by kernel_rfl) (by kernel_rfl) c1 d1 c2 d2
 rw[this];congr 1;rw[tU];simp[Prod.ext_iff]
def eS (x:Sy):List AV:=[.int .i64 x.kind,.int .i64 x.ty,.int .i64 x.n,.int .i64 x.node,.str x.name]
theorem zF (x:Sy):(eS x).length=5:=rfl
def dF (l:List Int):aq:=.cells (l.map (AV.int .i64)) (.rw (.row 3))
def jC (l:List Bool):aq:=.cells (l.map AV.bool) (.rw (.row 4))
def lu (l:List Sy):aq:=.cells (l.flatMap eS) (.rw (.row 44))
theorem Kr:dz ae 24=some false:=by kernel_rfl
theorem FY:dz ae 27=some false:=by kernel_rfl
theorem zW:dz ae 28=some false:=by kernel_rfl
theorem Kt:dz ae 38=some false:=by kernel_rfl
theorem TE:dz ae 55=some false:=by kernel_rfl
theorem TG:dz ae 56=some false:=by kernel_rfl
theorem CB:dz ae 44=some true:=by kernel_rfl
theorem FJ:aE ae 44=5:=by kernel_rfl
theorem TB:dz ae 30=some true:=by kernel_rfl
theorem agd:aE ae 30=3:=by kernel_rfl
inductive SV (U:St) (n0 mt:Nat):AV->List Sy->Prop
 |zero (z:Nat):SV U n0 mt (.slice none 0 (some 0) z) []
 |one {l:List Sy} (b:Nat) (c:On) (hc:∀x,c=some x->l.length<=x) (hb:U[b]? =some (lu l)) (hn:n0+6<=b) (hm:b≠mt):SV U n0 mt (.slice (some (b,0)) l.length c 5) l
def dH (b n:Nat):AV:=.slice (some (b,0)) n (some n) 1
def kh (U0:St) (tb:Nat) (tc:On) (n mt:Nat) (sv:AV):aq:=
 .cells [.slice (some (tb,0)) n tc 6,sv,dH (U0.length+4) n,dH (U0.length+5) n,dH U0.length n,dH (U0.length+1) n,.map (some mt),.map (some (U0.length+2))] (.rw (.box 58))
structure CC (c:Cx) (U0 U:St) (mt tb:Nat) (tc:On) (w:W) (ls:List Sy):Prop where
 up:Up U0 U
 src:Src U0 tb c.t
 tlen:c.t.length<=10000
 fnl:c.fn.length=c.t.length
 lpl:c.lp.length=c.t.length
 ofl:w.of.length=c.t.length
 tyl:w.ty.length=c.t.length
 syl:w.syms.length<=200000
 mt6:U0.length+6<=mt
 cc:∃sv,U[U0.length+3]? =some (kh U0 tb tc c.t.length mt sv)/\SV U U0.length mt sv w.syms/\∀z o,c.ex z=some o->∀n k q,sv≠ .slice (some (z,0)) n k q
 fn:U[U0.length]? =some (dF c.fn)
 lp:U[U0.length+1]? =some (jC c.lp)
 of:U[U0.length+4]? =some (dF w.of)
 ty:U[U0.length+5]? =some (dF w.ty)
 own:∃es,U[U0.length+2]? =some (.map es)/\xS 135 ko (λx=>jQ c.fn ls x.1 x.2) es
 top:∃es,U[mt]? =some (.map es)/\xS 9 AV.str (gX ls) es
 ext:∀z o,c.ex z=some o->U[z]? =some o/\U0.length+6<=z/\z≠mt
section
variable {c:Cx} {U0 U:St} {mt tb:Nat} {tc:On} {w:W} {ls:List Sy} {y:Node} {i:Nat}
theorem CC.cell {k:Nat} {ty:TypeId} {v:AV} {sv:AV} (h:U[U0.length+3]? =some (kh U0 tb tc c.t.length mt sv)) (ht:dz ae ty=some false) (hk:([AV.slice (some (tb,0)) c.t.length tc 6,sv,dH (U0.length+4) c.t.length,dH (U0.length+5) c.t.length,dH U0.length c.t.length,dH (U0.length+1) c.t.length,.map (some mt),.map (some (U0.length+2))])[k]? =some v) (f:AV->Out):
  aI ae ty U (U0.length+3) k f=f v:=cq (by unfold aF;rw[h];rfl) ht hk
theorem CC.lT (h:CC c U0 U mt tb tc w ls) (f:AV->Out):aI ae 24 U (U0.length+3) (0+0) f=f (.slice (some (tb,0)) c.t.length tc 6):=let⟨sv,h1,_⟩:=h.cc;CC.cell h1 Kr rfl f
theorem CC.lO (h:CC c U0 U mt tb tc w ls) (f:AV->Out):aI ae 28 U (U0.length+3) ((0+1)+1) f=f (dH (U0.length+4) c.t.length):=let⟨sv,h1,_⟩:=h.cc;CC.cell h1 zW rfl f
theorem CC.lY (h:CC c U0 U mt tb tc w ls) (f:AV->Out):aI ae 28 U (U0.length+3) ((0+1)+2) f=f (dH (U0.length+5) c.t.length):=let⟨sv,h1,_⟩:=h.cc;CC.cell h1 zW rfl f
theorem CC.lF (h:CC c U0 U mt tb tc w ls) (f:AV->Out):aI ae 28 U (U0.length+3) (0+4) f=f (dH U0.length c.t.length):=let⟨sv,h1,_⟩:=h.cc;CC.cell h1 zW rfl f
theorem CC.lL (h:CC c U0 U mt tb tc w ls) (f:AV->Out):aI ae 38 U (U0.length+3) (0+5) f=f (dH (U0.length+1) c.t.length):=let⟨sv,h1,_⟩:=h.cc;CC.cell h1 Kt rfl f
theorem CC.lM (h:CC c U0 U mt tb tc w ls) (f:AV->Out):aI ae 56 U (U0.length+3) (0+6) f=f (.map (some mt)):=let⟨sv,h1,_⟩:=h.cc;CC.cell h1 TG rfl f
theorem CC.lW (h:CC c U0 U mt tb tc w ls) (f:AV->Out):aI ae 55 U (U0.length+3) (0+7) f=f (.map (some (U0.length+2))):=let⟨sv,h1,_⟩:=h.cc;CC.cell h1 TE rfl f
theorem CC.qN (h:CC c U0 U mt tb tc w ls):Src U tb c.t:=h.src.up h.up
theorem kE (b n:Nat) (f:Ad->Nat->On->Nat->Out):gn (dH b n) f=f (some (b,0)) n (some n) 1:=rfl
theorem CC.ix (h:CC c U0 U mt tb tc w ls) (hi:i<c.t.length) (x:Out):ao (i:Int) c.t.length x=x:=bm ⟨by omega,by omega⟩
theorem oO {b:Nat} {l:List Int} {v:Int} (h:U[b]? =some (dF l)) (hv:l[i]? =some v) (f:AV->Out):aI ae 3 U b (0+((i:Int)).toNat*1) f=f (.int .i64 v):=
 cq (by unfold aF;rw[h];rfl) fA (by simp[hv])
theorem QF {b:Nat} {l:List Bool} {v:Bool} (h:U[b]? =some (jC l)) (hv:l[i]? =some v) (f:AV->Out):aI ae 4 U b (0+((i:Int)).toNat*1) f=f (.bool v):=
 cq (by unfold aF;rw[h];rfl) Ku (by simp[hv])
theorem lr {b:Nat} {l:List Int} {v:Int} (h:U[b]? =some (dF l)) (hi:i<l.length) (f:St->Out):aT U b (0+((i:Int)).toNat*1) [.int .i64 v] f=f (U.set b (dF (l.set i v))):=by
 unfold aT;rw[h];simp only[dF];rw[if_pos (by simp;omega)];have:0+((i:Int)).toNat*1=i:=by omega
 rw[this];congr 2;congr 1;rw[List.map_set];rfl
theorem xB {b:Nat} {l:List Bool} {v:Bool} (h:U[b]? =some (jC l)) (hi:i<l.length) (f:St->Out):aT U b (0+((i:Int)).toNat*1) [.bool v] f=f (U.set b (jC (l.set i v))):=by
 unfold aT;rw[h];simp only[jC];rw[if_pos (by simp;omega)];have:0+((i:Int)).toNat*1=i:=by omega
 rw[this];congr 2;congr 1;rw[List.map_set];rfl
theorem SV.mono {U':St} {sv:AV} {l:List Sy} (h:SV U U0.length mt sv l) (hs:∀b,U0.length+6<=b->b≠mt->U[b]? =some (lu l)->U'[b]? =some (lu l)):SV U' U0.length mt sv l:=by
 cases h with
 |zero z=>exact .zero z
 |one b c hc hb hn hm=>exact .one b c hc (hs b hn hm hb) hn hm
theorem Up.rS {b:Nat} {o:aq} (h:Up U0 U) (hb:U0.length<=b):Up U0 (U.set b o):=⟨by rw[iA];exact h.len,λx hx=>by rw[aD (by omega)];exact h.same x hx⟩
theorem CC.cJ {v:Int} (h:CC c U0 U mt tb tc w ls):CC c U0 (U.set (U0.length+5) (dF (w.ty.set i v))) mt tb tc (w.cJ i v) ls where
 up:=h.up.rS (by omega)
 src:=h.src
 tlen:=h.tlen
 fnl:=h.fnl
 lpl:=h.lpl
 ofl:=h.ofl
 tyl:=by simp[W.cJ,h.tyl]
 syl:=h.syl
 mt6:=h.mt6
 cc:=by
  obtain⟨sv,h1,h2,h3⟩:=h.cc;exact⟨sv,by rw[aD (by omega)];exact h1,h2.mono λb hb _ hx=>by rw[aD (by omega)];exact hx,h3⟩
 fn:=by rw[aD (by omega)];exact h.fn
 lp:=by rw[aD (by omega)];exact h.lp
 of:=by rw[aD (by omega)];exact h.of
 ty:=cM (bB h.ty)
 own:=by
  obtain⟨es,h1,h2⟩:=h.own;exact⟨es,by rw[aD (by omega)];exact h1,h2⟩
 top:=by
  obtain⟨es,h1,h2⟩:=h.top;have:=h.mt6;exact⟨es,by rw[aD (by omega)];exact h1,h2⟩
 ext:=λz o hz=>by obtain⟨h1,h2,h3⟩:=h.ext z o hz;exact⟨by rw[aD (by omega)];exact h1,h2,h3⟩
theorem CC.dn {v:Int} (h:CC c U0 U mt tb tc w ls):CC c U0 (U.set (U0.length+4) (dF (w.of.set i v))) mt tb tc (w.dn i v) ls where
 up:=h.up.rS (by omega)
 src:=h.src
 tlen:=h.tlen
 fnl:=h.fnl
 lpl:=h.lpl
 ofl:=by simp[W.dn,h.ofl]
 tyl:=h.tyl
 syl:=h.syl
 mt6:=h.mt6
 cc:=by
  obtain⟨sv,h1,h2,h3⟩:=h.cc;exact⟨sv,by rw[aD (by omega)];exact h1,h2.mono λb hb _ hx=>by rw[aD (by omega)];exact hx,h3⟩
 fn:=by rw[aD (by omega)];exact h.fn
 lp:=by rw[aD (by omega)];exact h.lp
 of:=cM (bB h.of)
 ty:=by rw[aD (by omega)];exact h.ty
 own:=by
  obtain⟨es,h1,h2⟩:=h.own;exact⟨es,by rw[aD (by omega)];exact h1,h2⟩
 top:=by
  obtain⟨es,h1,h2⟩:=h.top;have:=h.mt6;exact⟨es,by rw[aD (by omega)];exact h1,h2⟩
 ext:=λz o hz=>by obtain⟨h1,h2,h3⟩:=h.ext z o hz;exact⟨by rw[aD (by omega)];exact h1,h2,h3⟩
def zu (U:St) (v:AV):bw:=λr U'=>r=.ret v/\U'=U
theorem S9 {b:Bool}:Fw ae Lb 84 [.bool b] U (zu U (.int .i64 (oS b))):=by
 refine Z0 (Wp.ite (λh=>?_) λh=>?_)
 ·exact Wp.ret ⟨by rw[h];rfl,rfl⟩
 ·exact Wp.ret ⟨by rw[h];rfl,rfl⟩
theorem RG {a:Int}:Fw ae Lb 87 [.int .i64 a] U (zu U (.bool (B3 a))):=by
 refine Z3 (Wp.ite (λh=>?_) λh=>?_)
 ·exact Wp.ret ⟨by unfold B3;rw[h];rfl,rfl⟩
 ·exact Wp.ret ⟨by unfold B3;rw[h];rfl,rfl⟩
theorem QA {j k:Nat} (h:CC c U0 U mt tb tc w ls) (hy:c.t[i]? =some y) (hk:y.kids[j]? =some k) (nF:k<c.t.length):Fw ae Lb 86 [.ptr (some (U0.length+3,0)),.int .i64 (i:Int),.int .i64 (j:Int)] U (zu U (.int .i64 (ir w y j))):=by
 have hi:=(bl.1 hy).1;have hj:=(bl.1 hk).1;obtain⟨kv,bh,dJ⟩:=h.qN.kids hy;obtain⟨b,kc,rfl,l8⟩:=bh.eg hk;have hv:w.ty[k]? =some (w.ty.getD k 0):=by rw[gq,bk (by rw[h.tyl];exact nF)];rfl
 refine Z2 ?_;simp only[an,h.lY,kE,h.lT,aS,h.ix hi,aU,dJ.1,bm (show(0:Int)<=(j:Int)/\(j:Int)<(y.kids.length:Int)from⟨by omega,by omega⟩),kF l8 hk,ag,h.ix nF,oO h.ty hv];exact Wp.ret ⟨by unfold ir;rw[gq (l:=y.kids),hk];rfl,rfl⟩
theorem adL (h:CC c U0 U mt tb tc w ls) (hi:i<c.t.length):Fw ae Lb 40 [.ptr (some (U0.length+3,0)),.int .i64 (i:Int)] U λr U'=>r=.ret (.int .i64 0)/\CC c U0 U' mt tb tc (w.cJ i 1) ls:=by
 refine YO ?_;simp only[an,h.lY,kE,h.ix hi,aU,lr h.ty (by rw[h.tyl];exact hi)];exact Wp.ret ⟨rfl,h.cJ⟩
theorem agk (h:CC c U0 U mt tb tc w ls) (hi:i<c.t.length):Fw ae Lb 41 [.ptr (some (U0.length+3,0)),.int .i64 (i:Int)] U λr U'=>r=.ret (.int .i64 0)/\CC c U0 U' mt tb tc (w.cJ i 2) ls:=by
 refine YP ?_;simp only[an,h.lY,kE,h.ix hi,aU,lr h.ty (by rw[h.tyl];exact hi)];exact Wp.ret ⟨rfl,h.cJ⟩
def Fj:On->Int
 |some k=>(k:Int)
 |none=>-1
theorem xg {K:Type} {kt:TypeId} {enc:K->AV} {f:K->On} {es:List (AV×AV)} {b:Nat} {key:K} {k:Fu->AV->Bool->Out} {Q:bw} (hm:U[b]? =some (.map es)) (h:xS kt enc f es) (hk:fq ae kt (enc key)=true)
  (hx:Wp Q λu=>k u (.int .i64 (((f key).getD 0:Nat):Int)) (f key).isSome):Wp Q λu=>gF ae kt 3 U (some b) (enc key) (k u):=by
 refine hx.eq λu=>?_;have hz:zeroOf ae 3=some (.int .i64 0):=by kernel_rfl
 unfold gF jR;rw[hk];simp only[if_true,hm];have:=h key;cases hf:f key with
 |none=>rw[hf]at this;rw[this,hz];rfl
 |some n=>rw[hf]at this;obtain⟨j,hj⟩:=this;rw[hj];rfl
theorem CC.DZ (h:CC c U0 U mt tb tc w ls) (hi:i<c.t.length):c.fn[i]? =some (c.fn.getD i 0):=by
 rw[gq,bk (by rw[h.fnl];exact hi)];rfl
theorem aav (h:CC c U0 U mt tb tc w w.syms) (hy:c.t[i]? =some y):Fw ae Lb 83 [.ptr (some (U0.length+3,0)),.int .i64 (i:Int)] U (zu U (.int .i64 (Fj (jG c w i y)))):=by
 have hi:=(bl.1 hy).1;obtain⟨kv,bh,dJ⟩:=h.qN.kids hy;obtain⟨ka,kc,kz,rfl⟩:=bh.slice;obtain⟨es,dC,bW⟩:=h.own;obtain⟨mE,sT,yF⟩:=h.top;refine ZZ ?_;simp only[an,h.lT,aS,h.ix hi,aU,dJ.2,bK,bc,ag,aG,aZ,h.lW,h.lF,kE,oO h.fn (h.DZ hi),kR];refine xg (enc:=ko) (key:=(c.fn.getD i 0,y.text)) dC bW (EG _) ?_;simp only[ag];unfold jG;cases hl:jQ c.fn w.syms (c.fn.getD i 0) y.text with
 |some k=>exact Wp.pos rfl (Wp.ret ⟨rfl,rfl⟩)
 |none=>
  refine Wp.neg rfl ?_;simp only[h.lM,kR];refine xg (enc:=AV.str) (key:=y.text) sT yF (BP _) ?_;simp only[ag];cases ht:gX w.syms y.text with
  |some k=>exact Wp.pos rfl (Wp.ret ⟨rfl,rfl⟩)
  |none=>exact Wp.neg rfl (Wp.ret ⟨rfl,rfl⟩)
end
end Go.Front
end
section
set_option maxRecDepth 100000
namespace Go.Front
open Go.AM Go.Proofs
section
variable {c:Cx} {U0 U:St} {mt tb:Nat} {tc:On} {w:W} {ls:List Sy} {y:Node} {i:Nat} {Q:bw}
theorem SH (l:List Sy):(l.flatMap eS).length=l.length*5:=by
 rw[List.length_flatMap];have:l.map (λx=>(eS x).length)=l.map λ_=>5:=List.map_congr_left λ_ _=>rfl;rw[this,List.map_const',List.sum_replicate_nat]
theorem SV.inv {n0:Nat} {sv:AV} {l:List Sy} (h:SV U n0 mt sv l):(l=[]/\∃z,sv=.slice none 0 (some 0) z)\/∃b sc,sv=.slice (some (b,0)) l.length sc 5/\U[b]? =some (lu l)/\n0+6<=b/\b≠mt:=by
 cases h with
 |zero z=>exact .inl ⟨rfl,z,rfl⟩
 |one b sc hc hb hn hm=>exact .inr ⟨b,sc,rfl,hb,hn,hm⟩
theorem CC.lS (h:CC c U0 U mt tb tc w ls):∃sv,SV U U0.length mt sv w.syms/\∀f,aI ae 27 U (U0.length+3) ((0+1)+0) f=f sv:=by
 obtain⟨sv,h1,h2,_⟩:=h.cc;exact⟨sv,h2,λf=>CC.cell h1 FY rfl f⟩
theorem CC.sym (h:CC c U0 U mt tb tc w ls) {k:Nat} {s:Sy} (hs:w.syms[k]? =some s):∃b sc,(∀f,aI ae 27 U (U0.length+3) ((0+1)+0) f=f (.slice (some (b,0)) w.syms.length sc 5))/\
  (∀f,aI ae 44 U b (0+((k:Int)).toNat*5) f=f (.agg (eS s)))/\(∀j v f,j<4->(eS s)[j]? =some v->aI ae 3 U b ((0+((k:Int)).toNat*5)+j) f=f v)/\∀x,ao (k:Int) w.syms.length x=x:=by
 have hk:=(bl.1 hs).1;obtain⟨sv,h1,h2⟩:=h.lS;rcases h1.inv with⟨he,z,rfl⟩|⟨b,sc,rfl,hb,hn,hm⟩
 ·rw[he]at hs;simp at hs
 ·have l6:aF U b=some (w.syms.flatMap eS):=by unfold aF;rw[hb];rfl
  refine⟨b,sc,h2,λf=>?_,λj v f hj hv=>?_,λx=>bm ⟨by omega,by omega⟩⟩
  ·unfold aI;rw[l6];simp only;exact xr (enc:=eS) zF CB FJ hs (by omega)
  ·refine cq l6 fA ?_;have:=sL (enc:=eS) (s:=5) zF hs (j:=j) (by omega);rw[show 0+((k:Int)).toNat*5+j=k*5+j from by omega,this,hv]
def Kz (c:Cx) (U0 U:St) (mt tb:Nat) (tc:On) (z:Nat):Prop:=z<U.length/\z≠U0.length+3/\∀sv,U[U0.length+3]? =some (kh U0 tb tc c.t.length mt sv)->∀n k q,sv≠ .slice (some (z,0)) n k q
theorem FX (h:CC c U0 U mt tb tc w ls) (hl:w.syms.length<200000) (x:Sy):Fw ae Lb 38 [.ptr (some (U0.length+3,0)),.agg (eS x)] U λr U'=>r=.ret (.int .i64 (w.syms.length:Int))/\CC c U0 U' mt tb tc (w.add x) ls/\∀z,Kz c U0 U mt tb tc z->U'[z]? =U[z]? /\Kz c U0 U' mt tb tc z:=by
 obtain⟨sv,h1,h2,h0⟩:=h.cc;have hS (f:AV->Out):aI ae 27 U (U0.length+3) ((0+1)+0) f=f sv:=CC.cell h1 FY rfl f;have al:=bB h1;refine YM ?_;have fin {b:Nat} {n:Nat} {U':St} (hn:n=w.syms.length+1) (eu:Up U0 U') (hk:∀z,z<U0.length+6\/z=mt->U'[z]? =U[z]?) (hb:U'[b]? =some (lu (w.syms++[x]))) (aP:U0.length+6<=b) (qt:b≠mt) (yK:∀z,Kz c U0 U mt tb tc z->U'[z]? =U[z]? /\z<U'.length/\z≠b):
   Wp (λr U'=>r=.ret (.int .i64 (w.syms.length:Int))/\CC c U0 U' mt tb tc (w.add x) ls/\∀z,Kz c U0 U mt tb tc z->U'[z]? =U[z]? /\Kz c U0 U' mt tb tc z) λu=>af (some (U0.length+3,0)) λb18 o19=>
    aT U' b18 ((o19+1)+0) [.slice (some (b,0)) n none 5] λU20=>af (some (U0.length+3,0)) λb21 o22=>aI ae 27 U20 b21 ((o22+1)+0) λx23=>gn x23 λ_ n25 _ _=>some (.ret (.int .i64 (ah .i64 ((n25:Int)-(1:Int)))),U20):=by
  subst hn;have h3:U'[U0.length+3]? =some (kh U0 tb tc c.t.length mt sv):=by rw[hk _ (.inl (by omega))];exact h1
  have hs (f:St->Out):aT U' (U0.length+3) ((0+1)+0) [.slice (some (b,0)) (w.syms.length+1) none 5] f=f (U'.set (U0.length+3) (kh U0 tb tc c.t.length mt (.slice (some (b,0)) (w.syms.length+1) none 5))):=by
   unfold aT;rw[h3];simp only[kh];rw[if_pos (by simp)];rfl
  have h4:(U'.set (U0.length+3) (kh U0 tb tc c.t.length mt (.slice (some (b,0)) (w.syms.length+1) none 5)))[U0.length+3]? =some (kh U0 tb tc c.t.length mt (.slice (some (b,0)) (w.syms.length+1) none 5)):=cM (bB h3);have hS2 (f:AV->Out):aI ae 27 (U'.set (U0.length+3) (kh U0 tb tc c.t.length mt (.slice (some (b,0)) (w.syms.length+1) none 5))) (U0.length+3) ((0+1)+0) f=f (.slice (some (b,0)) (w.syms.length+1) none 5):=CC.cell h4 FY rfl f;have hw:ah .i64 (((w.syms.length+1:Nat):Int)-1)=(w.syms.length:Int):=by rw[wrap64 (by omega) (by omega)];omega
  simp only[an,hs,hS2,aS,hw];have ne {z:Nat} (hz:z≠U0.length+3) (o:aq):(U'.set (U0.length+3) o)[z]? =U'[z]?:=aD (cY hz);have H8:=h.mt6;have O4 (z:Nat) (o:aq) (hz:c.ex z=some o):Kz c U0 U mt tb tc z:=by
   obtain⟨e1,e2,e3⟩:=h.ext z o hz;refine⟨bB e1,by omega,λSF gA n k q he=>?_⟩;rw[h1]at gA;simp only[kh,dP,aq.cells.injEq,zQ,and_true,true_and]at gA;rw[<-gA]at he;exact h0 z o hz n k q he
  refine Wp.ret ⟨rfl,⟨eu.rS (by omega),h.src,h.tlen,h.fnl,h.lpl,h.ofl,h.tyl,by simp[W.add];omega,h.mt6,⟨_,h4,?_,λz o hz n k q he=>?_⟩,?_,?_,?_,?_,?_,?_,λz o hz=>?_⟩,?_⟩
  ·have:=SV.one (U:=U'.set (U0.length+3) (kh U0 tb tc c.t.length mt (.slice (some (b,0)) (w.syms.length+1) none 5))) (n0:=U0.length) (mt:=mt) (l:=w.syms++[x]) b none (λ_ h=>by cases h) (by rw[ne (by omega)];exact hb) aP qt;rw[az]at this;exact this
  ·cases he;exact(yK _ (O4 _ o hz)).2.2 rfl
  ·rw[ne (by omega),hk _ (.inl (by omega))];exact h.fn
  ·rw[ne (by omega),hk _ (.inl (by omega))];exact h.lp
  ·rw[ne (by omega),hk _ (.inl (by omega))];exact h.of
  ·rw[ne (by omega),hk _ (.inl (by omega))];exact h.ty
  ·obtain⟨es,g1,g2⟩:=h.own;exact⟨es,by rw[ne (by omega),hk _ (.inl (by omega))];exact g1,g2⟩
  ·obtain⟨es,g1,g2⟩:=h.top;exact⟨es,by rw[ne (by omega),hk _ (.inr rfl)];exact g1,g2⟩
  ·obtain⟨e1,e2,e3⟩:=h.ext z o hz;exact⟨by rw[ne (by omega),(yK z (O4 z o hz)).1];exact e1,e2,e3⟩
  ·intro z hz;obtain⟨k1,k2,k3⟩:=yK z hz;refine⟨by rw[ne hz.2.1];exact k1,by rw[iA];exact k2,hz.2.1,λSF gA n k q he=>?_⟩;rw[h4]at gA;simp only[kh,dP,aq.cells.injEq,zQ,and_true,true_and]at gA;rw[he]at gA;cases gA;exact k3 rfl
 have PO:mt<U.length:=by obtain⟨es,g1,_⟩:=h.top;exact bB g1
 have dr:=bB h.ty;rcases h2.inv with⟨he,z,rfl⟩|⟨b,sc,rfl,hb,hn,hm⟩
 ·simp only[an,hS,aS];refine Wp.sj (by decide) (by decide) (fin (b:=U.length) (by rw[he];rfl) (h.up.trans (Up.app _)) (λz hz=>?_) ?_ (by omega) (by omega) λz hz=>⟨bO hz.1,by rw[az];exact uk hz.1 (Nat.le_add_right _ _),Nat.ne_of_lt hz.1⟩)
  ·exact bO (by rcases hz with hz|hz<;>omega)
  ·rw[bQ (aA _),gJ,he];rfl
 ·simp only[an,hS,aS];have cw:=bB hb;have e0:(((w.syms.flatMap eS).drop 0).take (w.syms.length*5))=w.syms.flatMap eS:=by rw[iy,<-SH,j8]
  refine Wp.sk hb (by rw[SH];omega) (by omega) ?_;rw[e0];have IB (z:Nat) (hz:Kz c U0 U mt tb tc z):z≠b:=λe=>by subst e;exact hz.2.2 _ h1 _ _ _ rfl
  refine fin rfl (h.up.I3 (by omega)) (λz hz=>?_) ?_ (by omega) (by omega) λz hz=>⟨by rw[bO (by rw[iA];exact hz.1),aD (cY (IB z hz))],by rw[az,iA];exact uk hz.1 (Nat.le_add_right _ _),Nat.ne_of_lt hz.1⟩
  ·have IB:z≠b:=by rcases hz with hz|hz<;>omega
   rw[bO (by rw[iA];rcases hz with hz|hz<;>omega),aD (cY IB)]
  ·rw[bQ (by simp),iA,gJ];simp[lu,iq,eS]
def jr (c:Cx) (U0:St) (mt tb:Nat) (tc:On) (x:Int×W):bw:=λr U'=>r=.ret (.int .i64 x.1)/\Up U0 U'/\(x.1=0->CC c U0 U' mt tb tc x.2 x.2.syms)
theorem CC.nd {e:Int} (h:CC c U0 U mt tb tc w w.syms):jr c U0 mt tb tc (e,w) (.ret (.int .i64 e)) U:=⟨rfl,h.up,λ_=>h⟩
def xj (c:Cx) (w:W) (i:Nat) (y:Node):Int×W:=
 match jG c w i y with
 |none=>(16,w)
 |some k=>match w.syms[k]? with
  |none=>(16,w)
  |some s=>(oS (s.kind !=3&&s.kind !=5),(w.dn i k).cJ i s.ty)
def q8 (c:Cx) (w:W) (i:Nat) (y:Node):Int×W:=
 match jG c w i y with
 |none=>(16,w)
 |some k=>match w.syms[k]? with
  |none=>(16,w)
  |some s=>if¬(s.kind=3\/s.kind=5)\/(y.kids.length:Int)≠s.n then(14,(w.dn i k).cJ i s.ty)else(qg c ((w.dn i k).cJ i s.ty) y s y.kids.length 0,(w.dn i k).cJ i s.ty)
def y3 (w:W) (i:Nat) (y:Node):Int×W:=(oS (B3 (ir (w.cJ i 1) y 0)&&ir (w.cJ i 1) y 1==1),w.cJ i 1)
def JT (w:W) (i:Nat) (y:Node):Int×W:=(oS (ir (w.cJ i 1) y 0==1),w.cJ i 1)
def q4 (w:W) (i:Nat) (y:Node):Int×W:=
 if y.n=7/\B3 (ir (w.cJ i 1) y 0)=true then(oS (ir ((w.cJ i 1).cJ i (ir (w.cJ i 1) y 0)) y 1==1),(w.cJ i 1).cJ i (ir (w.cJ i 1) y 0))
 else(oS (ir (w.cJ i 1) y 0==1&&ir (w.cJ i 1) y 1==1),w.cJ i 1)
def Ab (c:Cx) (w:W) (y:Node):Bool:=
 match c.t[y.kids.getD 0 0]? with
 |some d=>d.kind==3&&(match w.syms[(w.of.getD (y.kids.getD 0 0) 0).toNat]? with|some s=>s.kind==2|none=>false)
 |none=>false
def tM (c:Cx) (w:W) (y:Node):Int×W:=(oS (!Ab c w y&&ir w y 0==ir w y 1),w)
def Gr (w:W) (y:Node):Int×W:=(oS (ir w y 0==1),w)
def E0 (c:Cx) (w:W) (i:Nat):Int×W:=(if c.lp.getD i false then 0 else 13,w)
def xh (c:Cx) (w:W) (i:Nat) (y:Node):Int×W:=
 match jQ c.fn w.syms (c.fn.getD i 0) y.text with
 |some _=>(9,w)
 |none=>if jS c w i=24 then(15,w)else
  let w':=(w.add ⟨4,y.m,jS c w i,i,y.text⟩).dn i w.syms.length
  (oS (y.kids.length==0||ir w' y 0==y.m),w')
def wb (w:W):Int×W:=
 match gX w.syms [109,97,105,110]with
 |none=>(16,w)
 |some k=>match w.syms[k]? with
  |none=>(16,w)
  |some s=>(if s.kind≠3 then 16 else if s.n≠0 then 16 else 0,w)
theorem yq {k:Nat} (h:jG c w i y=some k):∃s,w.syms[k]? =some s:=by
 have key {p:Sy->Bool} (h:w.syms.findIdx? p=some k):∃s,w.syms[k]? =some s:=by
  obtain⟨al,_⟩:=List.findIdx?_eq_some_iff_findIdx_eq.1 h;exact⟨_,bk al⟩
 unfold jG at h;cases hl:jQ c.fn w.syms (c.fn.getD i 0) y.text with
 |some k'=>rw[hl]at h;cases h;exact key hl
 |none=>rw[hl]at h;exact key h
section
theorem y5 {ks:List Nat} {j:Nat} (h:j<ks.length):ks[j]? =some (ks.getD j 0):=by rw[gq,bk h];rfl
theorem BX {ks:List Nat} {j:Nat} (h:j<ks.length):ks.getD j 0∈ks:=fF (y5 h)
theorem CC.qC {j:Nat} (h:CC c U0 U mt tb tc w ls) (hy:c.t[i]? =some y) (hj:j<y.kids.length) (hk:∀k∈y.kids,k<c.t.length) {K:Fu->AV->St->Out} (hx:Wp Q λu=>K u (.int .i64 (ir w y j)) U):
  Wp Q λu=>cW ae Lb u.n 86 [.ptr (some (U0.length+3,0)),.int .i64 (i:Int),.int .i64 (j:Int)] U (K u):=by
 refine Wp.call (QA h hy (y5 hj) (hk _ (BX hj))) (λv U' hv=>?_) λv U' hv=>by cases hv.1
 obtain⟨hv,rfl⟩:=hv;cases hv;exact hx
theorem CC.qO {b:Bool} {x:Int×W} (h:CC c U0 U mt tb tc x.2 x.2.syms) (hb:x.1=oS b):Wp (jr c U0 mt tb tc x) λu=>cW ae Lb u.n 84 [.bool b] U λv U'=>gY .i64 v λi=>some (.ret (.int .i64 i),U'):=by
 refine Wp.call S9 (λv U' hv=>?_) λv U' hv=>by cases hv.1
 obtain⟨hv,rfl⟩:=hv;cases hv;simp only[ag];exact Wp.ret ⟨by rw[hb],h.up,λ_=>h⟩
theorem abP (h:CC c U0 U mt tb tc w w.syms) (hy:c.t[i]? =some y) (hk:∀k∈y.kids,k<c.t.length) (hn:y.kids.length=2):Fw ae Lb 44 [.ptr (some (U0.length+3,0)),.int .i64 (i:Int)] U (jr c U0 mt tb tc (y3 w i y)):=by
 have hi:=(bl.1 hy).1;refine YU ?_;simp only[an,h.lY,kE,h.ix hi,aU,lr h.ty (by rw[h.tyl];exact hi)]
 replace h:CC c U0 _ mt tb tc (w.cJ i 1) _:=h.cJ
 refine h.qC (j:=0) hy (by omega) hk ?_;simp only[ag];refine Wp.call RG (λv U' hv=>?_) λv U' hv=>by cases hv.1
 obtain⟨hv,rfl⟩:=hv;cases hv;simp only[bp];refine Wp.ite (λhb=>?_) λhb=>?_
 ·refine h.qC (j:=1) hy (by omega) hk ?_;simp only[ag];exact CC.qO (x:=y3 w i y) h (by unfold y3;rw[hb];rfl)
 ·exact CC.qO (x:=y3 w i y) h (by unfold y3;rw[hb];rfl)
theorem agA (h:CC c U0 U mt tb tc w w.syms) (hy:c.t[i]? =some y) (hk:∀k∈y.kids,k<c.t.length) (hn:y.kids.length=1):Fw ae Lb 45 [.ptr (some (U0.length+3,0)),.int .i64 (i:Int)] U (jr c U0 mt tb tc (JT w i y)):=by
 have hi:=(bl.1 hy).1;refine YV ?_;simp only[an,h.lY,kE,h.ix hi,aU,lr h.ty (by rw[h.tyl];exact hi)]
 replace h:CC c U0 _ mt tb tc (w.cJ i 1) _:=h.cJ
 refine h.qC (j:=0) hy (by omega) hk ?_;simp only[ag];exact CC.qO (x:=JT w i y) h rfl
theorem Ul (h:CC c U0 U mt tb tc w w.syms) (hy:c.t[i]? =some y) (hk:∀k∈y.kids,k<c.t.length) (hn:y.kids.length=2):Fw ae Lb 46 [.ptr (some (U0.length+3,0)),.int .i64 (i:Int)] U (jr c U0 mt tb tc (q4 w i y)):=by
 have hi:=(bl.1 hy).1;refine YW ?_;simp only[an,h.lY,kE,h.ix hi,aU,lr h.ty (by rw[h.tyl];exact hi)]
 replace h:CC c U0 _ mt tb tc (w.cJ i 1) _:=h.cJ
 generalize U.set (U0.length+5) (dF (w.ty.set i 1))=U1 at h|-;refine h.qC (j:=0) hy (by omega) hk ?_;have tail {w':W} {a:Int} {U':St} (h:CC c U0 U' mt tb tc w' w'.syms) (hx:(q4 w i y)=(oS (a==1&&ir w' y 1==1),w')):Wp (jr c U0 mt tb tc (q4 w i y)) λu=>A1 u.n (some (U0.length+3,0)) i 0 a U':=by
  rw[hx];refine YZ (Wp.ite (λhb=>?_) λhb=>?_)
  ·refine h.qC (j:=1) hy (by omega) hk ?_;simp only[ag];exact CC.qO (x:=(_,w')) h (by rw[hb];rfl)
  ·exact CC.qO (x:=(_,w')) h (by rw[hb];rfl)
 simp only[ag,an,h.lT,aS,h.ix hi,aU,h.qN.num hy];refine Wp.ite (λhb=>?_) λhb=>?_
 ·refine Wp.call RG (λv U' hv=>?_) λv U' hv=>by cases hv.1
  obtain⟨hv,rfl⟩:=hv;cases hv;simp only[bp];have h7:y.n=7:=by simpa using hb
  refine YX (Wp.ite (λhp=>?_) λhp=>?_)
  ·simp only[an,h.lY,kE,h.ix hi,aU,lr h.ty (by rw[h.tyl];exact hi)];refine tail (w':=(w.cJ i 1).cJ i (ir (w.cJ i 1) y 0)) h.cJ ?_;unfold q4;rw[if_pos ⟨h7,hp⟩];rfl
  ·refine tail h ?_;unfold q4;rw[if_neg (by rw[hp];simp)]
 ·have h7:¬y.n=7:=by simpa using hb
  refine YY (tail h ?_);unfold q4;rw[if_neg (λh=>h7 h.1)]
theorem Vl (h:CC c U0 U mt tb tc w w.syms) (hy:c.t[i]? =some y) (hk:∀k∈y.kids,k<c.t.length) (hn:0<y.kids.length):Fw ae Lb 48 [.ptr (some (U0.length+3,0)),.int .i64 (i:Int)] U (jr c U0 mt tb tc (Gr w y)):=by
 refine Y3 ?_;refine h.qC (j:=0) hy (by omega) hk ?_;simp only[ag];exact CC.qO (x:=Gr w y) h rfl
theorem acV (h:CC c U0 U mt tb tc w w.syms) (hy:c.t[i]? =some y):Fw ae Lb 49 [.ptr (some (U0.length+3,0)),.int .i64 (i:Int)] U (jr c U0 mt tb tc (E0 c w i)):=by
 have hi:=(bl.1 hy).1;have hv:c.lp[i]? =some (c.lp.getD i false):=by rw[gq,bk (by rw[h.lpl];exact hi)];rfl
 refine Y4 ?_;simp only[an,h.lL,kE,h.ix hi,aU,QF h.lp hv,bp];refine Wp.ite (λhb=>?_) λhb=>?_
 ·have hb:c.lp.getD i false=false:=by simpa using hb
  exact Wp.ret ⟨by unfold E0;rw[hb];rfl,h.up,λ_=>h⟩
 ·have hb:c.lp.getD i false=true:=by simpa using hb
  exact Wp.ret ⟨by unfold E0;rw[hb];rfl,h.up,λ_=>h⟩
theorem TK (h:CC c U0 U mt tb tc w w.syms):Fw ae Lb 51 [.ptr (some (U0.length+3,0)),.int .i64 (i:Int)] U (jr c U0 mt tb tc (wb w)):=by
 obtain⟨es,g1,g2⟩:=h.top;refine Ze ?_;simp only[an,h.lM,kR];refine xg (enc:=AV.str) (key:=[109,97,105,110]) g1 g2 (BP _) ?_;simp only[ag];unfold wb;cases hf:gX w.syms [109,97,105,110]with
 |none=>exact Wp.pos rfl (Wp.ret h.nd)
 |some k=>
  obtain⟨al,_⟩:=List.findIdx?_eq_some_iff_findIdx_eq.1 hf;have hs:w.syms[k]? =some w.syms[k]:=bk al;obtain⟨b,sc,l1,l2,l3,l4⟩:=h.sym hs;refine Wp.neg rfl ?_;simp only[qb,an,l1,aS,l4,aU,l3 0 _ _ (by decide) rfl,ag,hs];refine Wp.ite (λhb=>?_) λhb=>?_
  ·rw[if_pos (by simpa using hb)];exact Wp.ret h.nd
  ·rw[if_neg (by simpa using hb)];simp only[l3 2 _ _ (by decide) rfl,ag];refine Wp.ite (λhb=>?_) λhb=>?_
   ·rw[if_pos (by simpa using hb)];exact Wp.ret h.nd
   ·rw[if_neg (by simpa using hb)];exact Wp.ret h.nd
end
end
end Go.Front
end
section
set_option maxRecDepth 100000
namespace Go.Front
open Go.AM Go.Proofs
section
variable {c:Cx} {U0 U:St} {mt tb:Nat} {tc:On} {w:W} {ls:List Sy} {y:Node} {i:Nat} {Q:bw}
structure uo (c:Cx) (s:Sy):Prop where
 fn:s.kind=3->∃(n:Nat) (d:Node),s.node=n/\c.t[n]? =some d/\s.n<d.kids.length/\∀k∈d.kids,k<c.t.length
 loc:s.kind=4->∃n:Nat,s.node=n/\n<c.t.length
theorem OK (h:CC c U0 U mt tb tc w w.syms) (hy:c.t[i]? =some y) {K:Fu->AV->St->Out} (hx:Wp Q λu=>K u (.int .i64 (Fj (jG c w i y))) U):
  Wp Q λu=>cW ae Lb u.n 83 [.ptr (some (U0.length+3,0)),.int .i64 (i:Int)] U (K u):=by
 refine Wp.call (aav h hy) (λv U' hv=>?_) λv U' hv=>by cases hv.1
 obtain⟨hv,rfl⟩:=hv;cases hv;exact hx
theorem adx (h:CC c U0 U mt tb tc w w.syms) (hy:c.t[i]? =some y):Fw ae Lb 42 [.ptr (some (U0.length+3,0)),.int .i64 (i:Int)] U (jr c U0 mt tb tc (xj c w i y)):=by
 have hi:=(bl.1 hy).1;refine YQ ?_;refine OK h hy ?_;simp only[ag];unfold xj;cases hf:jG c w i y with
 |none=>exact Wp.pos rfl (Wp.ret h.nd)
 |some k=>
  obtain⟨s,hs⟩:=yq hf;obtain⟨b,sc,l1,l2,l3,l4⟩:=h.sym hs;have h1:=h.dn (i:=i) (v:=(k:Int));refine Wp.neg (by rw[decide_eq_false_iff_not];show¬((k:Int)<0);omega) ?_;simp only[Fj,an,l1,aS,l4,aU,l2,eS,bK,bc,ag,aG,aZ,h.lO,h.lY,kE,h.ix hi,lr h.of (by rw[h.ofl];exact hi),lr h1.ty (by rw[h1.tyl];exact hi),hs]
  replace h1:CC c U0 _ mt tb tc ((w.dn i k).cJ i s.ty) _:=h1.cJ (i:=i) (v:=s.ty)
  refine Wp.ite (λhb=>?_) λhb=>?_
  ·exact CC.qO (x:=(_,(w.dn i k).cJ i s.ty)) h1 (by rw[hb];rfl)
  ·exact CC.qO (x:=(_,(w.dn i k).cJ i s.ty)) h1 (by rw[hb];rfl)
theorem agI {s:Sy} {j:Nat} (h:CC c U0 U mt tb tc w ls) (ho:uo c s) (hj:(j:Int)<s.n):Fw ae Lb 85 [.ptr (some (U0.length+3,0)),.agg (eS s),.int .i64 (j:Int)] U (zu U (.int .i64 (zH c s j))):=by
 refine Z1 ?_;refine Wp.ite (λhb=>?_) λhb=>?_
 ·have hb:s.kind=3:=by simpa using hb
  obtain⟨n,d,hn,hd,hl,hk⟩:=ho.fn hb;have wO:=(bl.1 hd).1;have lf:j<d.kids.length:=by omega
  obtain⟨kv,bh,dJ⟩:=h.qN.kids hd;obtain⟨b,kc,rfl,l8⟩:=bh.eg (y5 lf);have nF:=hk _ (BX lf);obtain⟨q,hq⟩:∃q,c.t[d.kids.getD j 0]? =some q:=⟨_,bk nF⟩
  have hm (f:AV->Out):aI ae 3 U tb ((0+(((d.kids.getD j 0:Nat):Int)).toNat*6)+4) f=f (.int .i64 q.m):=h.qN.cell hq (by decide) fA (λ_=>rfl) f;simp only[hn,an,h.lT,aS,h.ix wO,aU,dJ.1,bm (show(0:Int)<=(j:Int)/\(j:Int)<(d.kids.length:Int)from⟨by omega,by omega⟩),kF l8 (y5 lf),ag,h.ix nF,hm];refine Wp.ret ⟨?_,rfl⟩;unfold zH;rw[if_pos hb,hn];simp only[fa,hd,hq]
 ·have hb:¬s.kind=3:=by simpa using hb
  have e1:(s.name==[115,121,115])=decide (s.name=[115,121,115]):=by rw[tU];simp
  have e2:(s.name==[97,100,114])=decide (s.name=[97,100,114]):=by rw[tU];simp
  unfold zH;rw[if_neg hb,e1,e2];refine Wp.ite (λh1=>?_) λh1=>?_
  ·refine Wp.ite (λh2=>?_) λh2=>?_
   ·rw[if_pos (.inl ⟨of_decide_eq_true h1,by simpa using h2⟩)];exact Wp.ret ⟨rfl,rfl⟩
   ·have h2:¬0<j:=by simp at h2;omega
    refine Wp.ite (λh3=>?_) λh3=>?_
    ·rw[if_pos (.inr (of_decide_eq_true h3))];exact Wp.ret ⟨rfl,rfl⟩
    ·rw[if_neg (by rintro(h|h);exact h2 h.2;exact of_decide_eq_false h3 h)];exact Wp.ret ⟨rfl,rfl⟩
  ·refine Wp.ite (λh3=>?_) λh3=>?_
   ·rw[if_pos (.inr (of_decide_eq_true h3))];exact Wp.ret ⟨rfl,rfl⟩
   ·rw[if_neg (by rintro(h|h);exact of_decide_eq_false h1 h.1;exact of_decide_eq_false h3 h)];exact Wp.ret ⟨rfl,rfl⟩
theorem TY {s:Sy} (h:CC c U0 U mt tb tc w w.syms) (ho:uo c s) (hy:c.t[i]? =some y) (hk:∀k∈y.kids,k<c.t.length) (hn:(y.kids.length:Int)=s.n) (hl:y.kids.length<=100000):∀(n j:Nat),j+n=y.kids.length->
  Wp (jr c U0 mt tb tc (qg c w y s n j,w)) λu=>ym u.n u.m1 (some (U0.length+3,0)) i 0 y.kids.length j s.kind s.ty s.n s.node s.name U:=by
 intro n
 induction n with
 |zero=>
  intro j hj;refine NK (Wp.neg (by rw[decide_eq_false_iff_not];omega) (YT (Wp.ret h.nd)))
 |succ n ih=>
  intro j hj;have hw:ah .i64 ((j:Int)+1)=((j+1:Nat):Int):=by rw[wrap64 (by omega) (by omega)];omega
  refine NK (Wp.pos (by rw[decide_eq_true_eq];omega) ?_);refine Wp.call (agI h ho (j:=j) (by omega)) (λv U' hv=>?_) λv U' hv=>by cases hv.1
  obtain⟨hv,rfl⟩:=hv;cases hv;simp only[ag,hw];refine Wp.ite (λh1=>?_) λh1=>?_
  ·have h1:zH c s j≠0:=by simpa using h1
   refine h.qC hy (by omega) hk ?_;simp only[ag];refine Wp.ite (λh2=>?_) λh2=>?_
   ·rw[qg,if_pos ⟨h1,by simpa using h2⟩];exact Wp.ret h.nd
   ·rw[qg,if_neg (by rintro⟨_,h⟩;exact h (by simpa using h2))];exact ih (j+1) (by omega)
  ·rw[qg,if_neg (by rintro⟨h,_⟩;exact h (by simpa using h1))];exact ih (j+1) (by omega)
theorem UQ (h:CC c U0 U mt tb tc w w.syms) (hy:c.t[i]? =some y) (hk:∀k∈y.kids,k<c.t.length) (hl:y.kids.length<=100000) (ho:∀s∈w.syms,uo c s):Fw ae Lb 43 [.ptr (some (U0.length+3,0)),.int .i64 (i:Int)] U (jr c U0 mt tb tc (q8 c w i y)):=by
 have hi:=(bl.1 hy).1;refine YR ?_;refine OK h hy ?_;simp only[ag];unfold q8;cases hf:jG c w i y with
 |none=>exact Wp.pos rfl (Wp.ret h.nd)
 |some k=>
  obtain⟨s,hs⟩:=yq hf;obtain⟨b,sc,l1,l2,l3,l4⟩:=h.sym hs;have h1:=h.dn (i:=i) (v:=(k:Int));refine Wp.neg (by rw[decide_eq_false_iff_not];show¬((k:Int)<0);omega) ?_;simp only[Fj,an,l1,aS,l4,aU,l2,eS,bK,bc,ag,aG,aZ,h.lO,h.lY,kE,h.ix hi,lr h.of (by rw[h.ofl];exact hi),lr h1.ty (by rw[h1.tyl];exact hi),hs]
  replace h1:CC c U0 _ mt tb tc ((w.dn i k).cJ i s.ty) _:=h1.cJ (i:=i) (v:=s.ty)
  generalize (U.set (U0.length+4) (dF (w.of.set i (k:Int)))).set (U0.length+5) (dF ((w.dn i (k:Int)).ty.set i s.ty))=U1 at h1|-;have tail (hb:s.kind=3\/s.kind=5):Wp (jr c U0 mt tb tc (if¬(s.kind=3\/s.kind=5)\/(y.kids.length:Int)≠s.n then(14,(w.dn i k).cJ i s.ty)else(qg c ((w.dn i k).cJ i s.ty) y s y.kids.length 0,(w.dn i k).cJ i s.ty))) λu=>
    af (some (U0.length+3,0)) λb52 o53=>
    aI ae 24 U1 b52 (o53+0) λx54=>
    gn x54 λa55 n56 _ z58=>
    ao i n56<|
    af a55 λb59 o60=>
    ar z58 6<|
    aI ae 28 U1 b59 ((o60+((i:Int)).toNat*6)+5) λx61=>
    gn x61 λ_ n63 _ _=>
    cond ((n63:Int) !=s.n) (some (.ret (.int .i64 (14:Int)),U1)) (DA u.n (some (U0.length+3,0)) i (0:Int) s.kind s.ty s.n s.node s.name U1):=by
   obtain⟨kv,bh,dJ⟩:=h1.qN.kids hy;obtain⟨ka,kc,kz,rfl⟩:=bh.slice;simp only[an,h1.lT,aS,h1.ix hi,aU,dJ.1];refine Wp.ite (λh2=>?_) λh2=>?_
   ·rw[if_pos (.inr (by simpa using h2))];exact Wp.ret h1.nd
   ·have h2:(y.kids.length:Int)=s.n:=by simpa using h2
    rw[if_neg (by rintro(h|h);exact h hb;exact h h2)];refine YS ?_;simp only[an,h1.lT,aS,h1.ix hi,aU,dJ.1];refine Wp.cD (F:=λn m=>ym n m (some (U0.length+3,0)) i 0 y.kids.length 0 s.kind s.ty s.n s.node s.name U1) ?_;exact TY h1 (ho s (fF hs)) hy hk h2 hl y.kids.length 0 (by omega)
  refine Wp.ite (λh3=>?_) λh3=>?_
  ·have h3:s.kind≠3:=by simpa using h3
   refine Wp.ite (λh5=>?_) λh5=>tail (.inr (by simpa using h5));rw[if_pos (.inl (by rintro(h|h);exact h3 h;simp[h]at h5))];exact Wp.ret h1.nd
  ·exact tail (.inl (by simpa using h3))
theorem afu (h:CC c U0 U mt tb tc w w.syms) (hy:c.t[i]? =some y) (hk:∀k∈y.kids,k<c.t.length) (hn:y.kids.length=2) (hof:∀d,c.t[y.kids.getD 0 0]? =some d->d.kind=3->∃k:Nat,w.of[y.kids.getD 0 0]? =some (k:Int)/\k<w.syms.length):
  Fw ae Lb 47 [.ptr (some (U0.length+3,0)),.int .i64 (i:Int)] U (jr c U0 mt tb tc (tM c w y)):=by
 have hi:=(bl.1 hy).1;obtain⟨kv,bh,dJ⟩:=h.qN.kids hy;have k0:=y5 (show 0<y.kids.length by omega);obtain⟨b,kc,rfl,l8⟩:=bh.eg k0;have nF:=hk _ (BX (show 0<y.kids.length by omega));obtain⟨d,hd⟩:∃d,c.t[y.kids.getD 0 0]? =some d:=⟨_,bk nF⟩
 have dD (f:AV->Out):aI ae 3 U b (0+0) f=f (.int .i64 ((y.kids.getD 0 0:Nat):Int)):=kF (j:=0) l8 k0 f;have fin {b:Bool} (hb:Ab c w y=b):Wp (jr c U0 mt tb tc (tM c w y)) λu=>Hm u.n (some (U0.length+3,0)) i 0 b U:=by
  refine Y1 (Wp.ite (λh1=>?_) λh1=>?_)
  ·refine h.qC (j:=0) hy (by omega) hk ?_;simp only[ag];refine h.qC (j:=1) hy (by omega) hk ?_;simp only[ag];exact CC.qO (x:=tM c w y) h (by unfold tM;rw[hb,h1];rfl)
  ·exact CC.qO (x:=tM c w y) h (by unfold tM;rw[hb,h1];rfl)
 refine Y0 ?_;simp only[an,h.lT,aS,h.ix hi,aU,dJ.1,bm (show(0:Int)<=0/\(0:Int)<(y.kids.length:Int)from⟨by omega,by omega⟩),dD,ag,h.ix nF,h.qN.kind hd];refine Wp.ite (λh3=>?_) λh3=>?_
 ·have h3:d.kind=3:=by simpa using h3
  obtain⟨k,ho,eW⟩:=hof d hd h3;have hs:w.syms[k]? =some w.syms[k]:=bk eW;obtain⟨b2,sc,l1,l2,l3,l4⟩:=h.sym hs;simp only[an,l1,aS,h.lO,kE,h.ix nF,aU,oO h.of ho,ag,l4,l3 0 _ _ (by decide) rfl];refine fin ?_;unfold Ab;rw[hd];simp only[h3,gq (l:=w.of),ho,qb,fa,hs];rfl
 ·have h3:¬d.kind=3:=by simpa using h3
  have ha:Ab c w y=false:=by
   unfold Ab;rw[hd];simp[h3]
  refine Y2 ?_;refine h.qC (j:=0) hy (by omega) hk ?_;simp only[ag];refine h.qC (j:=1) hy (by omega) hk ?_;simp only[ag];exact CC.qO (x:=tM c w y) h (by unfold tM;rw[ha];rfl)
end
end Go.Front
end
section
set_option maxRecDepth 100000
namespace Go.Front
open Go.AM Go.Proofs
theorem DX {p:Sy->Bool} {l:List Sy} {x:Sy}:(l++[x]).findIdx? p=(l.findIdx? p).or (if p x then some l.length else none):=by
 rw[List.findIdx?_append];congr 1;cases h:p x<;>simp[List.findIdx?_cons,h]
theorem agq {l:List Sy} {x:Sy} (h:x.kind=4) (nm:By):gX (l++[x]) nm=gX l nm:=by
 unfold gX;rw[DX];have:tn nm x=false:=by unfold tn;rw[h];rfl
 rw[this];simp
theorem SO {l:List Sy} {x:Sy} (h:x.kind≠4) (hn:gX l x.name=none) (nm:By):gX (l++[x]) nm=if nm=x.name then some l.length else gX l nm:=by
 unfold gX at hn|-;rw[DX];have hk:(x.kind !=4)=true:=by simpa using h
 by_cases he:nm=x.name
 ·subst he;have:tn x.name x=true:=by unfold tn;rw[hk];simp
  rw[hn,this];simp
 ·have:tn nm x=false:=by unfold tn;rw[hk];simpa using cY he
  rw[this,if_neg he];simp
theorem ac9 {fn:List Int} {l:List Sy} {x:Sy} (h:x.kind≠4) (f:Int) (nm:By):jQ fn (l++[x]) f nm=jQ fn l f nm:=by
 unfold jQ;rw[DX];have:tl fn f nm x=false:=by
  have hk:(x.kind==4)=false:=by simpa using h
  unfold tl;rw[hk];rfl
 rw[this];simp
theorem QT {fn:List Int} {l:List Sy} {x:Sy} {g:Int} (h:x.kind=4) (hf:fn[x.node.toNat]? =some g) (hn:jQ fn l g x.name=none) (k:Int×By):jQ fn (l++[x]) k.1 k.2=if k=(g,x.name)then some l.length else jQ fn l k.1 k.2:=by
 unfold jQ at hn|-;rw[DX];have hk:(x.kind==4)=true:=by simpa using h
 by_cases he:k=(g,x.name)
 ·subst he;have:tl fn g x.name x=true:=by unfold tl;rw[hk,hf];simp
  simp only;rw[hn,this,if_pos rfl];rfl
 ·have:tl fn k.1 k.2 x=false:=by
   unfold tl;rw[hk,hf];by_cases h1:x.name=k.2
   ·have h2:g≠k.1:=λh2=>he (by rw[h2,h1]);simp[h2]
   ·simp[h1]
  rw[this,if_neg he];simp
section
variable {c:Cx} {U0 U:St} {mt tb:Nat} {tc:On} {w:W} {ls:List Sy} {y:Node} {i:Nat} {Q:bw}
theorem CC.EY {x:Sy} {g:Int} {n:Nat} {K:Fu->St->Out} (h:CC c U0 U mt tb tc w ls) (hx:x.kind=4) (hf:c.fn[x.node.toNat]? =some g) (hn:jQ c.fn ls g x.name=none) (hl:ls.length=n) (hk:∀U',CC c U0 U' mt tb tc w (ls++[x])->Wp Q λu=>K u U'):
  Wp Q λu=>bY ae 135 U (.v (.map (some (U0.length+2)))) (.agg [.iface 3 (.int .i64 g),.iface 9 (.str x.name)]) (.int .i64 (n:Int)) (K u):=by
 obtain⟨es,h1,h2⟩:=h.own;have hq:=h2 (g,x.name);simp only[hn]at hq;have H8:=h.mt6;refine(hk (U.set (U0.length+2) (.map (es++[(ko (g,x.name),.int .i64 (n:Int))]))) ?_).eq λu=>?_
 ·refine⟨h.up.rS (by omega),h.src,h.tlen,h.fnl,h.lpl,h.ofl,h.tyl,h.syl,h.mt6,?_,?_,?_,?_,?_,?_,?_,λz o hz=>by obtain⟨h1,h2,h3⟩:=h.ext z o hz;exact⟨by rw[aD (by omega)];exact h1,h2,h3⟩⟩
  ·obtain⟨sv,g1,g2,g3⟩:=h.cc;exact⟨sv,by rw[aD (by omega)];exact g1,g2.mono λb hb _ hx=>by rw[aD (by omega)];exact hx,g3⟩
  ·rw[aD (by omega)];exact h.fn
  ·rw[aD (by omega)];exact h.lp
  ·rw[aD (by omega)];exact h.of
  ·rw[aD (by omega)];exact h.ty
  ·refine⟨_,cM (bB h1),h2.app (λa b=>VT) hn λk=>?_⟩;rw[<-hl];exact QT hx hf hn k
  ·obtain⟨mE,g1,g2⟩:=h.top;refine⟨mE,by rw[aD (by omega)];exact g1,λk=>?_⟩;rw[agq hx];exact g2 k
 ·unfold bY;rw[show fq ae 135 (.agg [.iface 3 (.int .i64 g),.iface 9 (.str x.name)])=true from EG (g,x.name)];simp only[if_true,h1];rw[show du ae 135 (.agg [.iface 3 (.int .i64 g),.iface 9 (.str x.name)]) es 0=some none from hq];rfl
theorem CC.QH {x:Sy} {n:Nat} {K:Fu->St->Out} (h:CC c U0 U mt tb tc w ls) (hx:x.kind≠4) (hn:gX ls x.name=none) (hl:ls.length=n) (hk:∀o,CC c U0 (U.set mt o) mt tb tc w (ls++[x])->Wp Q λu=>K u (U.set mt o)):
  Wp Q λu=>bY ae 9 U (.v (.map (some mt))) (.str x.name) (.int .i64 (n:Int)) (K u):=by
 obtain⟨es,h1,h2⟩:=h.top;have hq:=h2 x.name;simp only[hn]at hq;have H8:=h.mt6;refine(hk (.map (es++[(.str x.name,.int .i64 (n:Int))])) ?_).eq λu=>?_
 ·refine⟨h.up.rS (by omega),h.src,h.tlen,h.fnl,h.lpl,h.ofl,h.tyl,h.syl,h.mt6,?_,?_,?_,?_,?_,?_,?_,λz o hz=>by obtain⟨h1,h2,h3⟩:=h.ext z o hz;exact⟨by rw[aD (by omega)];exact h1,h2,h3⟩⟩
  ·obtain⟨sv,g1,g2,g3⟩:=h.cc;exact⟨sv,by rw[aD (by omega)];exact g1,g2.mono λb hb qt hx=>by rw[aD (cY qt)];exact hx,g3⟩
  ·rw[aD (by omega)];exact h.fn
  ·rw[aD (by omega)];exact h.lp
  ·rw[aD (by omega)];exact h.of
  ·rw[aD (by omega)];exact h.ty
  ·obtain⟨mE,g1,g2⟩:=h.own;refine⟨mE,by rw[aD (by omega)];exact g1,λk=>?_⟩;simp only;rw[ac9 hx];exact g2 k
  ·refine⟨_,cM (bB h1),h2.app (λa b=>VU) hn λk=>?_⟩;rw[<-hl];exact SO hx hn k
 ·unfold bY;rw[BP];simp only[if_true,h1];rw[hq];rfl
theorem CC.bE {U':St} {w':W} {ls':List Sy} (h:CC c U0 U mt tb tc w ls) (h':CC c U0 U' mt tb tc w' ls') {k:Nat} (hk:k=6\/k=7) (x:Out):dS [(U,U',U0.length+3,some (0+k,1))] x=x:=by
 obtain⟨sv,h1,_⟩:=h.cc;obtain⟨SF,h2,_⟩:=h'.cc;unfold dS dS BO;rw[if_pos];show nR _ _=nR _ _;simp only[h1,h2,kh,nR];rcases hk with rfl|rfl<;>rfl
theorem CC.fnK (h:CC c U0 U mt tb tc w ls) (hi:i<c.t.length):∃g,c.fn[i]? =some g/\c.fn.getD i 0=g:=⟨_,h.DZ hi,rfl⟩
def pL (c:Cx) (i:Nat) (x:Sy):Bool:=x.kind==4&&c.fn[x.node.toNat]? ==c.fn[i]?
theorem QX {x20 x21:AV} {i3:Int} {nd:Node} {ka:Ad} {kn kz:Nat} {kc:On} {sa:Ad} {sc:On} {sz:Nat} (h:CC c U0 U mt tb tc w ls) (hi:i<c.t.length) (ho:∀s∈w.syms,uo c s)
  (hs:∀(k:Nat) (s:Sy),w.syms[k]? =some s->∃b,sa=some (b,0)/\sz=5/\∀f,aI ae 44 U b (0+((k:Int)).toNat*5) f=f (.agg (eS s)))
  (hk:Wp Q λu=>DC u.n (some (U0.length+3,0)) i i3 ((w.syms.filter (pL c i)).length:Nat) nd.kind nd.at_ nd.text nd.n nd.m ka kn kc kz x20 x21 U):∀(n j:Nat) (m:Nat),j+n=w.syms.length->m=((w.syms.take j).filter (pL c i)).length->
  Wp Q λu=>uM u.n u.m1 (some (U0.length+3,0)) i i3 m sa w.syms.length sc sz w.syms.length j nd.kind nd.at_ nd.text nd.n nd.m ka kn kc kz x20 x21 U:=by
 have iM:=h.syl;intro n
 induction n with
 |zero=>
  intro j m hj hm;rw[o6 (by omega)]at hm;subst hm;exact NV (Wp.neg (by rw[decide_eq_false_iff_not];omega) hk)
 |succ n ih=>
  intro j m hj hm;have lf:j<w.syms.length:=by omega
  have P5:w.syms[j]? =some w.syms[j]:=bk lf;obtain⟨b,rfl,rfl,l2⟩:=hs j _ P5;have PO:m<=j:=by rw[hm];exact ng (List.length_filter_le _ _) (by rw[r8];omega)
  have hw:ah .i64 ((j:Int)+1)=((j+1:Nat):Int):=by rw[wrap64 (by omega) (by omega)];omega
  have im:ah .i64 ((m:Int)+1)=((m+1:Nat):Int):=by rw[wrap64 (by omega) (by omega)];omega
  have fg:w.syms.take (j+1)=w.syms.take j++[w.syms[j]]:=by rw[List.take_succ,P5];rfl
  have no (hp:pL c i w.syms[j]=false):=ih (j+1) m (by omega) (by rw[fg,List.filter_append,hm];simp[hp]);refine NV ?_;simp only[bm (show(0:Int)<=(j:Int)/\(j:Int)<(w.syms.length:Int)from⟨by omega,by omega⟩),an,aU,l2,eS,bK,bc,ag,aG,aZ,hw,im];refine Wp.pos (by rw[decide_eq_true_eq];omega) (Wp.ite (λh4=>?_) λh4=>no (by unfold pL;rw[h4];rfl));have h4':w.syms[j].kind=4:=by simpa using h4
  obtain⟨q,hq,Er⟩:=(ho _ (List.getElem_mem lf)).loc h4';have f1:=h.DZ Er;have f2:=h.DZ hi;simp only[hq,h.lF,kE,h.ix Er,h.ix hi,an,aU,oO h.fn f1,oO h.fn f2,ag];have hp:pL c i w.syms[j]=(c.fn.getD q 0==c.fn.getD i 0):=by
   unfold pL;rw[h4,hq,fa,f1,f2];simp
  refine Wp.ite (λh5=>?_) λh5=>no (by rw[hp,h5]);have h6:pL c i w.syms[j]=true:=by rw[hp,h5]
  exact ih (j+1) (m+1) (by omega) (by rw[fg,List.filter_append,hm];simp[h6])
theorem ada (h:CC c U0 U mt tb tc w w.syms) (hy:c.t[i]? =some y) (hk:∀k∈y.kids,k<c.t.length) (ho:∀s∈w.syms,uo c s) (hl:w.syms.length<199999):
  Fw ae Lb 50 [.ptr (some (U0.length+3,0)),.int .i64 (i:Int)] U (jr c U0 mt tb tc (xh c w i y)):=by
 have hi:=(bl.1 hy).1;obtain⟨kv,bh,dJ⟩:=h.qN.kids hy;obtain⟨ka,kc,kz,rfl⟩:=bh.slice;obtain⟨es,dC,bW⟩:=h.own;obtain⟨g,hg,hg0⟩:=h.fnK hi;refine Zc ?_;simp only[an,h.lT,aS,h.ix hi,aU,dJ.2,bK,bc,ag,aG,aZ,h.lW,h.lF,kE,oO h.fn hg,kR];refine xg (enc:=ko) (key:=(g,y.text)) dC bW (EG _) ?_;simp only[ag];unfold xh;rw[hg0];cases nH:jQ c.fn w.syms g y.text with
 |some k=>exact Wp.pos rfl (Wp.ret h.nd)
 |none=>
  refine Wp.neg rfl ?_;have j2:Wp (jr c U0 mt tb tc (if jS c w i=24 then(15,w)else(oS (y.kids.length==0||ir ((w.add ⟨4,y.m,jS c w i,i,y.text⟩).dn i w.syms.length) y 0==y.m),(w.add ⟨4,y.m,jS c w i,i,y.text⟩).dn i w.syms.length))) λu=>
    DC u.n (some (U0.length+3,0)) i 0 ((w.syms.filter (pL c i)).length:Nat) y.kind y.at_ y.text y.n y.m ka y.kids.length kc kz (.iface 3 (.int .i64 g)) (.iface 9 (.str y.text)) U:=by
   refine Zd ?_;refine Wp.ite (λh1=>?_) λh1=>?_
   ·have h1:(((w.syms.filter (pL c i)).length:Nat):Int)=24:=by simpa using h1
    have h1:jS c w i=24:=by show(w.syms.filter (pL c i)).length=24;omega
    rw[if_pos h1];exact Wp.ret h.nd
   ·have h1:¬(((w.syms.filter (pL c i)).length:Nat):Int)=24:=by simpa using h1
    have h1:¬jS c w i=24:=by show¬(w.syms.filter (pL c i)).length=24;omega
    rw[if_neg h1];simp only[an,h.lW];refine Wp.eE (FX h (by omega) ⟨4,y.m,jS c w i,i,y.text⟩) (λv U1 hv=>?_) λv U' hv=>by cases hv.1
    obtain⟨hv,h2,_⟩:=hv;cases hv;simp only[ag,h.bE h2 (.inr rfl)];refine h2.EY (x:=⟨4,y.m,jS c w i,i,y.text⟩) rfl hg nH rfl λU2 h3=>?_;obtain⟨VV,g1,g2⟩:=h3.own;simp only[an,h3.lO,kE,h3.lW,kR];refine xg (enc:=ko) (key:=(g,y.text)) g1 g2 (EG _) ?_;have HU:jQ c.fn (w.syms++[⟨4,y.m,jS c w i,i,y.text⟩]) g y.text=some w.syms.length:=by
     have:=QT (x:=⟨4,y.m,jS c w i,i,y.text⟩) (l:=w.syms) rfl hg nH (g,y.text);rw[if_pos rfl]at this;exact this
    simp only[HU,qb,ag,h3.ix hi,an,aU,lr h3.of (by rw[h3.ofl];exact hi)]
    replace h3:CC c U0 _ mt tb tc ((w.add ⟨4,y.m,jS c w i,i,y.text⟩).dn i w.syms.length) _:=h3.dn (i:=i) (v:=(w.syms.length:Int))
    generalize hw':(w.add ⟨4,y.m,jS c w i,i,y.text⟩).dn i w.syms.length=w' at h3|-;have wT:w'.syms=w.syms++[⟨4,y.m,jS c w i,i,y.text⟩]:=by rw[<-hw'];rfl
    rw[<-wT]at h3;have h4:=h3;have fin {b:Bool} {U':St} (h4:CC c U0 U' mt tb tc w' w'.syms) (hb:(y.kids.length==0||ir w' y 0==y.m)=b):Wp (jr c U0 mt tb tc (oS (y.kids.length==0||ir w' y 0==y.m),w')) λu=>cZ ae Lb u.n 84 [.bool b] U' λv U'=>gY .i64 v λi=>some (.ret (.int .i64 i),U'):=by
     refine Wp.eE S9 (λv U' hv=>?_) λv U' hv=>by cases hv.1
     obtain⟨hv,rfl⟩:=hv;cases hv;simp only[ag];exact Wp.ret ⟨by rw[hb],h4.up,λ_=>h4⟩
    have e0:((y.kids.length:Int)==(0:Int))=(y.kids.length==0):=cL (b:=0);rw[e0];refine Wp.ite (λh0=>fin h4 (by rw[h0];rfl)) λh0=>?_;have wD:y.kids.length≠0:=λe=>by rw[e]at h0;cases h0
    have dR:0<y.kids.length:=Nat.pos_of_ne_zero wD;refine Wp.eE (QA h4 hy (y5 dR) (hk _ (BX dR))) (λv U' hv=>?_) λv U' hv=>by cases hv.1
    obtain⟨hv,rfl⟩:=hv;cases hv;simp only[ag];exact fin h4 (by rw[h0];rfl)
  obtain⟨sv,gA,PD⟩:=h.lS;rcases gA.inv with⟨he,z,rfl⟩|⟨b,sc,rfl,hb,hn,hm⟩
  ·simp only[an,PD,aS];refine Wp.cD (F:=λn m=>uM n m (some (U0.length+3,0)) i 0 0 none 0 (some 0) z 0 0 y.kind y.at_ y.text y.n y.m ka y.kids.length kc kz (.iface 3 (.int .i64 g)) (.iface 9 (.str y.text)) U) ?_;have:=QX (sa:=none) (sc:=some 0) (sz:=z) (nd:=y) h hi ho (λk s hs=>by rw[he]at hs;simp at hs) j2 0 0 0 (by rw[he];rfl) rfl;have nG:w.syms.length=0:=by rw[he];rfl
   rw[nG]at this|-;exact this
  ·simp only[an,PD,aS];have l6:aF U b=some (w.syms.flatMap eS):=by unfold aF;rw[hb];rfl
   refine Wp.cD (F:=λn m=>uM n m (some (U0.length+3,0)) i 0 0 (some (b,0)) w.syms.length sc 5 w.syms.length 0 y.kind y.at_ y.text y.n y.m ka y.kids.length kc kz (.iface 3 (.int .i64 g)) (.iface 9 (.str y.text)) U) ?_;exact QX (nd:=y) h hi ho (λk s hs=>⟨b,rfl,rfl,λf=>by
    unfold aI;rw[l6];simp only;exact xr (enc:=eS) zF CB FJ hs (by omega)⟩) j2 w.syms.length 0 0 (by omega) rfl
end
end Go.Front
end

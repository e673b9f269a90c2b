/- Part of a proof over an abstract machine. -/
import Derived.Test.YtjjhefdfjagkaaaGreatDoorBk2
import Derived.Shelf.Strings.Builder2
import Derived.Shelf.Strings.Trim
import Derived.Shelf.Small.Utf8
import Derived.Shelf.Small.Strs
import Derived.Shelf.Strings.BuilderF
import Derived.Shelf.Strings.BuilderK
import Derived.Shelf.Utf8.RuneCount
import Derived.Shelf.Strings.Builder2Cap
import Derived.Shelf.Strconv.Itoa0
import Derived.Shelf.Strconv.Itoa1
import Derived.Shelf.LaysM
import Derived.Shelf.Strconv.Itoa2
import Derived.Shelf.Strconv.Itoa3
import Derived.Shelf.Strconv.Itoa4
import Derived.Shelf.Strconv.ParseIntEmpty
import Derived.Shelf.Strconv.Clone
import Derived.Shelf.Strconv.SyntaxError
import Derived.Shelf.LaysC
import Derived.Shelf.Strconv.ToError
import Derived.Shelf.Strconv.Lower
import Derived.Shelf.Strconv.ParseUint10
import Derived.Shelf.Strconv.ParseUint10Empty
import Derived.Shelf.Strconv.ParseUint10Any
import Derived.Shelf.Strconv.ParseInt10
import Derived.Shelf.Strconv.RangeError
import Derived.Shelf.Strconv.ToErrorRange
import Derived.Shelf.Strconv.ParseUintEmpty
import Derived.Shelf.Strconv.ParseUint10b64
import Derived.Shelf.Strconv.ParseUint10b32
import Derived.Shelf.Strconv.ParseUint10b16
import Derived.Shelf.Strconv.ParseUint10b8
import Derived.Shelf.Strconv.ParseUint10At
import Derived.Shelf.Strconv.ParseInt10At64
import Derived.Shelf.Strconv.ParseInt10At32
import Derived.Shelf.Strconv.ParseInt10At16
import Derived.Shelf.Strconv.ParseInt10At8
import Derived.Shelf.Strconv.ParseInt10All
import Derived.Shelf.Strconv.ParseIntPublic10
import Derived.Shelf.Strings.Search1
import Derived.Shelf.Strings.Search2
import Derived.Shelf.Strings.Search3
import Derived.Shelf.Strings.Count
import Derived.Shelf.Strings.Shaped
import Derived.Shelf.Strings.Prefix
import Derived.Shelf.Strings.Split
import Derived.Shelf.Strings.Fields
import Derived.Shelf.Strings.SplitShaped
import Derived.Shelf.Unicode.Latin
import Derived.Shelf.Unicode.Decode
import Derived.Shelf.Strings.Runes
import Derived.Shelf.Strings.RuneCount
import Derived.Shelf.Strings.AsciiSet
import Derived.Shelf.Unicode.DecodeSlow
import Derived.Shelf.Unicode.DecodeAny
import Derived.Shelf.Unicode.Is16White
import Derived.Shelf.Unicode.IsSpaceAny
import Derived.Shelf.Unicode.DecodeLast
import Derived.Shelf.Unicode.Is16WhiteD
import Derived.Shelf.Unicode.IsSpaceAnyD
import Derived.Shelf.Strings.FieldsAny
import Derived.Shelf.Strings.FieldsFuncAny
import Derived.Shelf.Unicode.Is16Any
import Derived.Shelf.Unicode.Is32Any
import Derived.Shelf.Unicode.ExclAny
import Derived.Shelf.Strings.FieldsFuncGrows
import Derived.Conc.MuLone
set_option linter.all false
open List renaming append_nil→cg,append_assoc→aO,flatMap_cons→eU,map_cons→dO,mem_cons→bS,not_mem_nil→ec,mem_append→cX,mem_cons_of_mem→ua,length_map→lz,map_append→fi,length_append→az,length_cons→cr,getElem?_append_right→bQ,getElem?_map→gI,cons_append→eI,nil_append→fx,range'→fy,length_nil→fw,map_nil→lA,mem_of_getElem?→fF,getElem?_eq_some_iff→bl,getElem?_cons_zero→ja,getElem?_eq_getElem→bk,getElem?_set_self→cM,drop_zero→iy,isPrefixOf_iff_prefix→xQ,drop_eq_getElem_cons→xP,drop_eq_nil_of_le→jB,set_set→se,take_length→j8,getElem?_set_ne→aD,getElem?_append_left→bO,take_of_length_le→o6,getElem?_cons_succ→oY,drop_drop→oX,length_singleton→p9,length_set→iA,getElem?_eq_none→fP,takeWhile_cons→ug,length_drop→mr,take_add_one→uh,getD_eq_getElem?_getD→gq,set_append_right→sd,mem_reverse→uc,replicate→bL,singleton_append→uf
open Nat renaming le_refl→aA,add_assoc→eD,zero_add→dI,le_trans→ng,mul_one→lC,add_zero→mw,lt_or_ge→gu,sub_self→gJ,zero_le→j9
open Go.Shelf renaming Ren→xN
open Go.Proofs.Lays renaming n169→ahg,n160→ahf,n137→ahd,n157→ahe
open Go.Proofs.Tryz renaming prog→ae,underlying9→ur,underlying4→uq
open Go.Proofs.LaysM renaming n171→ahi,n173→ahj
open Go.Lib renaming itoa→iZ,parseIntB→jA,fields→p8
open Go.Proofs.LaysC renaming n174→ahh
open Array renaming getElem?_eq_some_iff→qQ
open Go.Extern.BytealgCount renaming count→ag6
open Go.Conc.Locks renaming MuLink→aha,MuLib→ag9
open Int renaming toNat_natCast→fa
open Bool renaming eq_iff_iff→tU,false_eq_true→aW
open Go.IntKind renaming wrap→ah
open UInt8 renaming toNat_inj→ke
open Ne renaming symm→cY
open Option renaming map_some→je,map_eq_some_iff→my
open Option.some renaming injEq→dP
open Prod.mk renaming injEq→eQ
section
set_option maxRecDepth 100000
namespace Go.Front
def oN:List UInt8:=[105,110,116]
def BN:List UInt8:=[99,104,97,114]
def vi:List UInt8:=[101,108,115,101]
def iR (ty:Int) (s:List UInt8):List Tok:=if ty=1 then[fZ oN,mT s]else if ty=3 then[fZ oN,aC [42],mT s]else[fZ BN,aC [42],mT s]
mutual
def Sm.tk:Sm->List Tok
 | .expr _ x=>x.tk++[aC [59]]
 | .set x y=>x.tk++aC [61]::(y.tk++[aC [59]])
 | .if1 _ c a=>fZ [105,102]::aC [40]::(c.tk++aC [41]::a.tk)
 | .if2 _ c a b=>fZ [105,102]::aC [40]::(c.tk++aC [41]::(a.tk++fZ vi::b.tk))
 | .while _ c a=>fZ [119,104,105,108,101]::aC [40]::(c.tk++aC [41]::a.tk)
 | .ret _ x=>fZ [114,101,116,117,114,110]::(x.tk++[aC [59]])
 | .brk _=>[fZ [98,114,101,97,107],aC [59]]
 | .next _=>[fZ [99,111,110,116,105,110,117,101],aC [59]]
 | .block _ l=>aC [123]::(Sm.jW l++[aC [125]])
 | .var _ s ty=>iR ty s++[aC [59]]
 | .vari _ s ty x=>iR ty s++aC [61]::(x.tk++[aC [59]])
def Sm.jW:List Sm->List Tok
 | []=>[]
 |x::l=>x.tk++Sm.jW l
end
def mg:List nh->List Tok
 | []=>[]
 |p::r=>aC [44]::(iR p.2.2 p.2.1++mg r)
def Dc.tk:Dc->List Tok
 | .var _ s=>[fZ oN,mT s,aC [59]]
 | .array _ s ty n=>[fZ (if ty=2 then BN else oN),mT s,aC [91],vt n,aC [93],aC [59]]
 | .fn _ s ps _ l=>fZ oN::mT s::aC [40]::((mg ps).tail++aC [41]::aC [123]::(Sm.jW l++[aC [125]]))
def oi (l:List Dc):List Tok:=l.flatMap Dc.tk
theorem nT:spell []=[]:=rfl
theorem FH (ty:Int) (s:List UInt8):spell (iR ty s)=mU ty s:=by
 unfold iR mU;split
 ·simp[spell,oN]
 ·split<;>simp[spell,oN,BN]
mutual
theorem Sm.iU:∀e:Sm,spell e.tk=e.pr
 | .expr _ x=>by simp only[Sm.tk,Sm.pr,ju,gW,nT,Ex.iU,iS,cg]
 | .set x y=>by simp only[Sm.tk,Sm.pr,ju,gW,nT,Ex.iU,iS,cg,aO]
 | .if1 _ c a=>by simp only[Sm.tk,Sm.pr,ju,gW,nT,Ex.iU,Sm.iU a,iS,tN,cg,aO]
 | .if2 _ c a b=>by simp only[Sm.tk,Sm.pr,ju,gW,nT,Ex.iU,Sm.iU a,Sm.iU b,iS,tN,vi,cg,aO]
 | .while _ c a=>by simp only[Sm.tk,Sm.pr,ju,gW,nT,Ex.iU,Sm.iU a,iS,tN,cg,aO]
 | .ret _ x=>by simp only[Sm.tk,Sm.pr,ju,gW,nT,Ex.iU,iS,tN,cg,aO]
 | .brk _=>by simp only[Sm.tk,Sm.pr,gW,nT,iS,tN,cg]
 | .next _=>by simp only[Sm.tk,Sm.pr,gW,nT,iS,tN,cg]
 | .block _ l=>by simp only[Sm.tk,Sm.pr,ju,gW,nT,Sm.JJ l,iS,cg,aO]
 | .var _ s ty=>by simp only[Sm.tk,Sm.pr,ju,gW,nT,FH,iS,cg,aO]
 | .vari _ s ty x=>by simp only[Sm.tk,Sm.pr,ju,gW,nT,FH,Ex.iU,iS,cg,aO]
theorem Sm.JJ:∀l:List Sm,spell (Sm.jW l)=Sm.fN l
 | []=>rfl
 |x::l=>by simp only[Sm.jW,Sm.fN,ju,Sm.iU x,Sm.JJ l]
end
theorem Sq:∀ps:List nh,spell (mg ps)=ps.flatMap λp=>aK [44]++mU p.2.2 p.2.1
 | []=>rfl
 |p::r=>by simp only[mg,gW,ju,FH,Sq r,eU,iS,aO]
theorem afM (ps:List nh):spell (mg ps).tail=nP (ps.map λp=>mU p.2.2 p.2.1):=by
 cases ps with
 |nil=>rfl
 |cons p r=>
  simp only[mg,List.tail_cons,dO,nP,ju,FH,Sq r,List.flatMap_map]
theorem Dc.iU (e:Dc):spell e.tk=e.pr:=by
 cases e with
 |var _ s=>simp only[Dc.tk,Dc.pr,gW,nT,tN,zA,iS,oN,cg,aO]
 |array _ s ty n=>simp only[Dc.tk,Dc.pr,gW,nT,tN,zA,iS,JG,oN,BN,cg,aO]
 |fn _ s ps _ l=>simp only[Dc.tk,Dc.pr,gW,ju,nT,tN,zA,iS,oN,afM,Sm.JJ,cg,aO]
theorem Sn:∀l:List Dc,spell (oi l)=eM l
 | []=>rfl
 |x::l=>by
  have:=Sn l;simp only[oi,eM,eU,ju,Dc.iU]at this|-;rw[this]
theorem Jf {ty:Int} {s:List UInt8} (h:gT s):∀t∈iR ty s,kW t:=by
 intro t ht;unfold iR at ht;split at ht
 ·simp only[bS,ec,or_false]at ht;rcases ht with rfl|rfl
  ·exact .kw (by decide)
  ·exact .nm h
 ·split at ht
  all_goals
   simp only[bS,ec,or_false]at ht;rcases ht with rfl|rfl|rfl
   ·exact .kw (by decide)
   ·exact .mk (by decide)
   ·exact .nm h
mutual
theorem Sm.iw {len:Nat}:∀e:Sm,e.aL len->∀t∈e.tk,kW t
 | .expr _ x,h,t,ht=>by
  simp only[Sm.tk,bS,cX,ec,or_false]at ht;rcases ht with ht|rfl
  ·exact Ex.iw x h.2.1 t ht
  ·exact .mk (by decide)
 | .set x y,h,t,ht=>by
  simp only[Sm.tk,bS,cX,ec,or_false]at ht;rcases ht with ht|rfl|ht|rfl
  ·exact Ex.iw x h.1 t ht
  ·exact .mk (by decide)
  ·exact Ex.iw y h.2.1 t ht
  ·exact .mk (by decide)
 | .if1 _ c a,h,t,ht=>by
  simp only[Sm.tk,bS,cX,ec,or_false]at ht;rcases ht with rfl|rfl|ht|rfl|ht
  ·exact .kw (by decide)
  ·exact .mk (by decide)
  ·exact Ex.iw c h.2.1 t ht
  ·exact .mk (by decide)
  ·exact Sm.iw a h.2.2.2.1 t ht
 | .if2 _ c a b,h,t,ht=>by
  simp only[Sm.tk,bS,cX,ec,or_false]at ht;rcases ht with rfl|rfl|ht|rfl|ht|rfl|ht
  ·exact .kw (by decide)
  ·exact .mk (by decide)
  ·exact Ex.iw c h.2.1 t ht
  ·exact .mk (by decide)
  ·exact Sm.iw a h.2.2.2.1 t ht
  ·exact .kw (by decide)
  ·exact Sm.iw b h.2.2.2.2.2.1 t ht
 | .while _ c a,h,t,ht=>by
  simp only[Sm.tk,bS,cX,ec,or_false]at ht;rcases ht with rfl|rfl|ht|rfl|ht
  ·exact .kw (by decide)
  ·exact .mk (by decide)
  ·exact Ex.iw c h.2.1 t ht
  ·exact .mk (by decide)
  ·exact Sm.iw a h.2.2.2.1 t ht
 | .ret _ x,h,t,ht=>by
  simp only[Sm.tk,bS,cX,ec,or_false]at ht;rcases ht with rfl|ht|rfl
  ·exact .kw (by decide)
  ·exact Ex.iw x h.2.1 t ht
  ·exact .mk (by decide)
 | .brk _,h,t,ht=>by
  simp only[Sm.tk,bS,ec,or_false]at ht;rcases ht with rfl|rfl
  ·exact .kw (by decide)
  ·exact .mk (by decide)
 | .next _,h,t,ht=>by
  simp only[Sm.tk,bS,ec,or_false]at ht;rcases ht with rfl|rfl
  ·exact .kw (by decide)
  ·exact .mk (by decide)
 | .block _ l,h,t,ht=>by
  simp only[Sm.tk,bS,cX,ec,or_false]at ht;rcases ht with rfl|ht|rfl
  ·exact .mk (by decide)
  ·exact Sm.JP l h.2 t ht
  ·exact .mk (by decide)
 | .var _ s ty,h,t,ht=>by
  simp only[Sm.tk,bS,cX,ec,or_false]at ht;rcases ht with ht|rfl
  ·exact Jf h.2.1 t ht
  ·exact .mk (by decide)
 | .vari _ s ty x,h,t,ht=>by
  simp only[Sm.tk,bS,cX,ec,or_false]at ht;rcases ht with ht|rfl|ht|rfl
  ·exact Jf h.2.1 t ht
  ·exact .mk (by decide)
  ·exact Ex.iw x h.2.2.2.1 t ht
  ·exact .mk (by decide)
theorem Sm.JP {len a:Nat}:∀l:List Sm,Sm.fm len a l->∀t∈Sm.jW l,kW t
 | [],_,t,ht=>by cases ht
 |x::l,h,t,ht=>by
  simp only[Sm.jW,cX]at ht;rcases ht with ht|ht
  ·exact Sm.iw x h.1 t ht
  ·exact Sm.JP l h.2.2 t ht
end
theorem Rq:∀{ps:List nh},(∀x∈ps,gT x.2.1)->∀t∈mg ps,kW t
 | [],_,t,ht=>by cases ht
 |p::r,h,t,ht=>by
  simp only[mg,bS,cX]at ht;rcases ht with rfl|ht|ht
  ·exact .mk (by decide)
  ·exact Jf (h p (by simp)) t ht
  ·exact Rq (λx hx=>h x (ua _ hx)) t ht
theorem Dc.iw {len:Nat} (e:Dc) (h:e.aL len):∀t∈e.tk,kW t:=by
 intro t ht;cases e with
 |var _ s=>
  simp only[Dc.tk,bS,ec,or_false]at ht;rcases ht with rfl|rfl|rfl
  ·exact .kw (by decide)
  ·exact .nm h.2
  ·exact .mk (by decide)
 |array _ s ty n=>
  simp only[Dc.tk,bS,ec,or_false]at ht;rcases ht with rfl|rfl|rfl|rfl|rfl|rfl
  ·exact .kw (by split<;>decide)
  ·exact .nm h.2.1
  ·exact .mk (by decide)
  ·exact .num h.2.2.2.1 h.2.2.2.2
  ·exact .mk (by decide)
  ·exact .mk (by decide)
 |fn _ s ps _ l=>
  simp only[Dc.tk,bS,cX,ec,or_false]at ht;rcases ht with rfl|rfl|rfl|ht|rfl|rfl|ht|rfl
  ·exact .kw (by decide)
  ·exact .nm h.2.1
  ·exact .mk (by decide)
  ·exact Rq (λx hx=>(h.2.2.1 x hx).2.2.1) t (List.mem_of_mem_tail ht)
  ·exact .mk (by decide)
  ·exact .mk (by decide)
  ·exact Sm.JP l h.2.2.2.2.2.1 t ht
  ·exact .mk (by decide)
theorem TJ {len:Nat} {l:List Dc} (h:∀x∈l,x.aL len):∀t∈oi l,kW t:=by
 intro t ht;unfold oi at ht;obtain⟨x,hx,ht⟩:=List.mem_flatMap.1 ht;exact x.iw (h x hx) t ht
section
variable {S:hJ} {α β:Type} {A B C:Cf} {P:β->Prop} {ts:List Tok} {nd:List Node} {d:Nat} {t:Tok}
theorem Rb.takeN {w:List UInt8} {X Y:PM S β} (hb:br (db A.ts) w=false) (h:Rb Y A P C):Rb (ep w>>=λb=>if b=true then X else Y) A P C:=.oQ hb (by simpa using h)
theorem Rb.nU {w:List UInt8} {X Y:PM S β} (hb:br t w=true) (h:Rb X ⟨ts,nd,d⟩ P C):Rb (ep w>>=λb=>if b=true then X else Y) ⟨t::ts,nd,d⟩ P C:=.xC hb (by simpa using h)
theorem Rb.gR {w:List UInt8} {X Y:PM S β} (hb:br (db A.ts) w=false) (h:Rb Y A P C):Rb (jq w>>=λb=>if b=true then X else Y) A P C:=.is (by simpa[hb]using h)
theorem Rb.rE {w:List UInt8} {X Y:PM S β} (hb:br (db A.ts) w=true) (h:Rb X A P C):Rb (jq w>>=λb=>if b=true then X else Y) A P C:=.is (by simpa[hb]using h)
theorem Fs {s:List UInt8} {ty:Int} (eH:pW ty):Rb (rN:PM S _) ⟨iR ty s++ts,nd,d⟩ (λx=>x.2=(s,ty)) ⟨ts,nd,d⟩:=by
 unfold rN;refine .eB λt ht=>?_;rcases eH with rfl|rfl|rfl
 ·refine .takeN rfl (.dm rfl (.takeN rfl (.kind rfl λt' gB=>.pure ?_)));have:t'.text=s:=gB.2.1;rw[this]
 ·refine .nU rfl (.dm rfl (.kind rfl λt' gB=>.pure ?_));have:t'.text=s:=gB.2.1;rw[this]
 ·refine .takeN rfl (.dm rfl (.nU rfl (.kind rfl λt' gB=>.pure ?_)));have:t'.text=s:=gB.2.1;rw[this]
def fs (b:Nat) (e:Sm):List Node:=(e.flat b).map Node.strip
def rk (b:Nat) (l:List Sm):List Node:=(Sm.cR b l).map Node.strip
theorem sM (b:Nat) (e:Sm):(fs b e).length=e.size:=by unfold fs;rw[lz,Sm.bI]
theorem D1 (b:Nat) (l:List Sm):(rk b l).length=Sm.aB l:=by unfold rk;rw[lz,Sm.fk]
theorem aaC (b:Nat) (x:Sm) (l:List Sm):rk b (x::l)=fs b x++rk (b+x.size) l:=by unfold rk fs;rw[Sm.cR,fi]
theorem Sm.first {len:Nat} (e:Sm) (h:e.aL len) (ts:List Tok):br (db (e.tk++ts)) [125]=false/\br (db (e.tk++ts)) vi=false:=by
 have par (ty:Int) (s:List UInt8) (r:List Tok):br (db (iR ty s++r)) [125]=false/\br (db (iR ty s++r)) vi=false:=by
  unfold iR;split
  ·exact⟨rfl,rfl⟩
  ·split<;>exact⟨rfl,rfl⟩
 cases e with
 |expr _ x=>rw[Sm.tk,aO];exact⟨(Ex.fst x _ h.2.1).not (by decide),(Ex.fst x _ h.2.1).not (by decide)⟩
 |set x y=>rw[Sm.tk,aO];exact⟨(Ex.fst x _ h.1).not (by decide),(Ex.fst x _ h.1).not (by decide)⟩
 |var _ s ty=>rw[Sm.tk,aO];exact par ..
 |vari _ s ty x=>rw[Sm.tk,aO];exact par ..
 |_=>exact⟨rfl,rfl⟩
def Cy (n len:Nat) (sm:PM S Nat):Prop:=∀(e:Sm) (ts:List Tok) (nd:List Node) (d:Nat),4*e.size+2<=n->e.aL len->e.dep+d<=40->nd.length+e.size<=4096->(e.open=true->br (db ts) vi=false)->
 Rb sm ⟨e.tk++ts,nd,d⟩ (·=nd.length+e.size-1) ⟨ts,nd++fs nd.length e,d⟩
variable {n len:Nat} {sm:PM S Nat} {op:PM S Nat} {ex:Nat->PM S Nat}
theorem SA (hs:Cy n len sm):∀(l:List Sm) (acc:List Nat) (k:Nat) (ts:List Tok) (nd:List Node) (d a:Nat),l.length<k->4*Sm.aB l+2<=n->Sm.fm len a l->Sm.eV l+d<=40->nd.length+Sm.aB l<=4096->
  Rb (dt (sq sm) k acc) ⟨Sm.jW l++aC [125]::ts,nd,d⟩ (·=acc++Sm.roots nd.length l) ⟨aC [125]::ts,nd++rk nd.length l,d⟩
 |_,_,0,_,_,_,_,hk,_,_,_,_=>by omega
 | [],acc,k+1,ts,nd,d,a,hk,hn,hg,hd,hl=>by
  refine Rb.to (Rb.y9 (P:=(·=acc++Sm.roots nd.length [])) (B:=⟨aC [125]::ts,nd,d⟩) (b:=acc) ?_ (by simp[Sm.roots])) ?_
  ·unfold sq;exact .rE rfl (.pure rfl)
  ·rw[show rk nd.length []=[]from rfl,cg]
 |x::l,acc,k+1,ts,nd,d,a,hk,hn,hg,hd,hl=>by
  simp only[Sm.eV,Sm.aB]at hd hl hn;have Ew:=Sm.size_pos x;have ih:=SA hs l (acc++[nd.length+x.size-1]) k ts (nd++fs nd.length x) d a (by simpa using hk) (by omega) hg.2.2 (by omega) (by rw[az,sM];omega);have El:br (db (Sm.jW l++aC [125]::ts)) vi=false:=by
   cases l with
   |nil=>rfl
   |cons z l=>rw[Sm.jW,aO];exact(z.first hg.2.2.1 _).2
  refine Rb.y8 (a':=acc++[nd.length+x.size-1]) (B:=⟨Sm.jW l++aC [125]::ts,nd++fs nd.length x,d⟩) ?_ (Rb.mono (ih.to ?_) ?_)
  ·unfold sq;refine Rb.from (A:=⟨x.tk++(Sm.jW l++aC [125]::ts),nd,d⟩) (.gR (x.first hg.1 _).1 (Rb.bind (hs x _ nd d (by omega) hg.1 (by omega) (by omega) λ_=>El) λr hr=>?_)) ?_
   ·subst hr;exact .pure rfl
   ·rw[Sm.jW,aO]
  ·rw[aaC nd.length x,az,sM,aO]
  ·intro r hr;rw[hr,az,sM];simp[Sm.roots]
theorem Sm.Se:∀l:List Sm,l.length<=Sm.aB l
 | []=>aA _
 |x::l=>by have:=Sm.size_pos x;have:=Sm.Se l;rw[Sm.aB,cr];omega
theorem K4 (hs:Cy n len sm) {l:List Sm} {k a:Nat} (hk:Sm.aB l<k) (hn:4*Sm.aB l+2<=n) (hg:Sm.fm len a l) (hd:Sm.eV l+d<=40) (hl:nd.length+Sm.aB l+1<=4096):
  Rb (q6 sm k) ⟨aC [123]::(Sm.jW l++aC [125]::ts),nd,d⟩ (·=nd.length+Sm.aB l) ⟨ts,nd++(rk nd.length l++[⟨17,0,[],0,0,Sm.roots nd.length l⟩]),d⟩:=by
 unfold q6;refine .eB λt ht=>.dm rfl (Rb.bind (SA hs l [] k ts nd d a (by have:=Sm.Se l;omega) hn hg hd (by omega)) λr hr=>?_);subst hr;refine .cU λ_ _=>Rb.to (Rb.node (by rw[az,D1];omega) (by rw[az,D1])) ?_;rw[aO];rfl
theorem Gs (he:ni n len op ex) (c:Ex) (hn:4*c.size+2<=n) (hg:c.aL len) (hd:c.dep+d<=40) (hl:nd.length+c.size<=4096):
  Rb (q9 ex) ⟨aC [40]::(c.tk++aC [41]::ts),nd,d⟩ (·=nd.length+c.size-1) ⟨ts,nd++fl nd.length c,d⟩:=by
 unfold q9;refine .dm rfl (Rb.bind (he.x c 1 _ nd d (Ex.vq hg) hn hg hd hl Gk (zi (by decide))) λr hr=>?_);subst hr;exact .dm rfl (.pure rfl)
theorem As (he:ni n len op ex) (x:Ex) {m:List UInt8} (hm:m=[59]\/m=[61]\/m=[93]\/m=[41]) (hn:4*x.size+2<=n) (hg:x.aL len) (hd:x.dep+d<=40) (hl:nd.length+x.size<=4096):
  Rb (ex 1) ⟨x.tk++aC m::ts,nd,d⟩ (·=nd.length+x.size-1) ⟨aC m::ts,nd++fl nd.length x,d⟩:=by
 have h:calm (aC m)/\pS 1 (aC m):=by
  rcases hm with rfl|rfl|rfl|rfl<;>exact⟨⟨rfl,rfl⟩,zi (by decide)⟩
 exact he.x x 1 _ nd d (Ex.vq hg) hn hg hd hl h.1 h.2
theorem aeD {x:Ex} {b:Nat} (h:x.y4=true):(x.root b).kind=3\/(x.root b).kind=5:=by
 cases x<;>first|exact .inl rfl|exact .inr rfl|cases h
theorem afa {x:Ex} {y:Node} (hp:x.y4=true) (h:(nd++fl nd.length x)[nd.length+x.size-1]? =some y.strip):y.kind=3\/y.kind=5:=by
 have hx:=Ex.size_pos x;rw[bQ (by omega)]at h;unfold fl at h;rw[show nd.length+x.size-1-nd.length=x.size-1 by omega,gI,Ex.Hx]at h;have h2:(x.root nd.length).strip=y.strip:=by simpa using h
 have:=(SE h2).1;rw[<-this];exact aeD hp
theorem afV (he:ni n len op ex) (hs:Cy n len sm) (e:Sm) (ts:List Tok) (nd:List Node) (d:Nat) (hn:4*e.size+2<=n+1) (hg:e.aL len) (hd:e.dep+d<=40) (hl:nd.length+e.size<=4096) (ho:e.open=true->br (db ts) vi=false):
  Rb (tO sm ex n) ⟨e.tk++ts,nd,d⟩ (·=nd.length+e.size-1) ⟨ts,nd++fs nd.length e,d⟩:=by
 have yC:1<=e.dep:=by cases e<;>simp only[Sm.dep]<;>omega
 unfold tO;refine .down (by omega) (.eB λt ht=>Rb.bind (Q:=(·=nd.length+e.size-1)) (B:=⟨ts,nd++fs nd.length e,d+1⟩) ?_ λr hr=>.up (.pure hr));have cm:=Sm.size_pos e;have fin {k:Int} {at_:Int} {tx:List UInt8} {m:Int} {ks:List Nat} {E6:List Node} {nd2:List Node} (h1:E6=nd++nd2) (h2:nd2.length+1=e.size) (h3:fs nd.length e=nd2++[⟨k,0,tx,0,m,ks⟩]):
   Rb (cH ⟨k,at_,tx,0,m,ks⟩:PM S Nat) ⟨ts,E6,d+1⟩ (·=nd.length+e.size-1) ⟨ts,nd++fs nd.length e,d+1⟩:=by
  subst h1;refine Rb.to (Rb.node (by rw[az];omega) (by rw[az];omega)) ?_;rw[h3,aO];rfl
 unfold vI;cases e with
 |expr a x=>
  simp only[Sm.size,Sm.dep]at hn hd hl;have hf:=Ex.fst x ([aC [59]]++ts) hg.2.1;rw[Sm.tk,aO];refine .gR (hf.not (by decide)) (.takeN (hf.not (by decide)) (.takeN (hf.not (by decide)) (.takeN (hf.not (by decide)) (.takeN (hf.not (by decide)) (.takeN (hf.not (by decide)) (.gR (hf.not (by decide)) (.gR (hf.not (by decide)) ?_)))))));unfold tE;refine Rb.bind (As he x (.inl rfl) (by omega) hg.2.1 (by omega) (by omega)) λr hr=>?_;subst hr;refine .gR rfl (.dm rfl (fin rfl (by rw[dQ,Sm.size]) ?_));unfold fs fl;rw[Sm.flat,fi];rfl
 |set x y=>
  simp only[Sm.size,Sm.dep]at hn hd hl;have hf:=Ex.fst x (aC [61]::(y.tk++aC [59]::ts)) hg.1;have fg:(Sm.set x y).tk++ts=x.tk++aC [61]::(y.tk++aC [59]::ts):=by simp only[Sm.tk,aO,eI,fx]
  rw[fg];refine .gR (hf.not (by decide)) (.takeN (hf.not (by decide)) (.takeN (hf.not (by decide)) (.takeN (hf.not (by decide)) (.takeN (hf.not (by decide)) (.takeN (hf.not (by decide)) (.gR (hf.not (by decide)) (.gR (hf.not (by decide)) ?_)))))));have Ew:=Ex.size_pos x;have hyp:=Ex.size_pos y;unfold tE;refine Rb.bind (As he x (.inr (.inl rfl)) (by omega) hg.1 (by omega) (by omega)) λr hr=>?_;subst hr;refine .rE rfl (.nodeAt (by rw[az,dQ];omega) λahE hX=>?_);rw[if_pos (afa hg.2.2.2 hX)];refine .cU λ_ _=>Rb.bind (As he y (.inl rfl) (by omega) hg.2.1 (by omega) (by rw[az,dQ];omega)) λr hr=>?_;subst hr;refine .dm rfl (.nodeAt (by rw[az,az,dQ];omega) λa2 _=>fin (nd2:=fl nd.length x++fl (nd.length+x.size) y) (by rw[az,dQ,aO]) (by rw[az,dQ,dQ,Sm.size]) ?_);rw[az,dQ];unfold fs fl;rw[Sm.flat,fi,fi];rfl
 |if1 a c b=>
  simp only[Sm.size,Sm.dep]at hn hd hl;have fg:(Sm.if1 a c b).tk++ts=fZ [105,102]::aC [40]::(c.tk++aC [41]::(b.tk++ts)):=by simp only[Sm.tk,aO,eI,fx]
  rw[fg];have D9:=Sm.size_pos b;refine .gR rfl (.nU rfl ?_);unfold wZ;refine Rb.bind (Gs he c (by omega) hg.2.1 (by omega) (by omega)) λr hr=>?_;subst hr;refine Rb.bind (hs b ts _ (d+1) (by omega) hg.2.2.2.1 (by omega) (by rw[az,dQ];omega) λ_=>ho rfl) λr hr=>?_;subst hr;refine .takeN (ho rfl) (fin (nd2:=fl nd.length c++fs (nd.length+c.size) b) (by rw[az,dQ,aO]) (by rw[az,dQ,sM,Sm.size]) ?_);rw[az,dQ];unfold fs fl;rw[Sm.flat,fi,fi];rfl
 |if2 a c b z=>
  simp only[Sm.size,Sm.dep]at hn hd hl;have fg:(Sm.if2 a c b z).tk++ts=fZ [105,102]::aC [40]::(c.tk++aC [41]::(b.tk++fZ vi::(z.tk++ts))):=by simp only[Sm.tk,aO,eI,fx]
  rw[fg];have D9:=Sm.size_pos b;have hzp:=Sm.size_pos z;obtain⟨_,hgc,_,jI,_,hgz,_,abr⟩:=hg;refine .gR rfl (.nU rfl ?_);unfold wZ;refine Rb.bind (Gs he c (by omega) hgc (by omega) (by omega)) λr hr=>?_;subst hr;refine Rb.bind (hs b _ _ (d+1) (by omega) jI (by omega) (by rw[az,dQ];omega) λh=>by rw[abr]at h;cases h) λr hr=>?_;subst hr;refine .nU rfl (Rb.bind (hs z ts _ (d+1) (by omega) hgz (by omega) (by rw[az,az,dQ,sM];omega) ho) λr hr=>?_);subst hr;refine fin (nd2:=fl nd.length c++(fs (nd.length+c.size) b++fs (nd.length+c.size+b.size) z)) (by simp only[az,dQ,sM,aO,eD]) (by simp only[az,dQ,sM,Sm.size];omega) ?_;simp only[az,dQ,sM];unfold fs fl;rw[Sm.flat,fi,fi,fi];simp only[aO,eD];rfl
 |«while» a c b=>
  simp only[Sm.size,Sm.dep]at hn hd hl;have fg:(Sm.while a c b).tk++ts=fZ [119,104,105,108,101]::aC [40]::(c.tk++aC [41]::(b.tk++ts)):=by simp only[Sm.tk,aO,eI,fx]
  rw[fg];have D9:=Sm.size_pos b;refine .gR rfl (.takeN rfl (.nU rfl ?_));refine Rb.bind (Gs he c (by omega) hg.2.1 (by omega) (by omega)) λr hr=>?_;subst hr;refine Rb.bind (hs b ts _ (d+1) (by omega) hg.2.2.2.1 (by omega) (by rw[az,dQ];omega) ho) λr hr=>?_;subst hr;refine fin (nd2:=fl nd.length c++fs (nd.length+c.size) b) (by rw[az,dQ,aO]) (by rw[az,dQ,sM,Sm.size]) ?_;rw[az,dQ];unfold fs fl;rw[Sm.flat,fi,fi];rfl
 |ret a x=>
  simp only[Sm.size,Sm.dep]at hn hd hl;have fg:(Sm.ret a x).tk++ts=fZ [114,101,116,117,114,110]::(x.tk++aC [59]::ts):=by simp only[Sm.tk,aO,eI,fx]
  rw[fg];refine .gR rfl (.takeN rfl (.takeN rfl (.nU rfl ?_)));refine Rb.bind (As he x (.inl rfl) (by omega) hg.2.1 (by omega) (by omega)) λr hr=>?_;subst hr;refine .dm rfl (fin rfl (by rw[dQ,Sm.size]) ?_);unfold fs fl;rw[Sm.flat,fi];rfl
 |brk a=>
  refine Rb.from (A:=⟨fZ [98,114,101,97,107]::aC [59]::ts,nd,d+1⟩) (.gR rfl (.takeN rfl (.takeN rfl (.takeN rfl (.nU rfl (.dm rfl (fin (nd2:=[]) (by simp) rfl rfl))))))) rfl
 |next a=>
  refine Rb.from (A:=⟨fZ [99,111,110,116,105,110,117,101]::aC [59]::ts,nd,d+1⟩) (.gR rfl (.takeN rfl (.takeN rfl (.takeN rfl (.takeN rfl (.nU rfl (.dm rfl (fin (nd2:=[]) (by simp) rfl rfl)))))))) rfl
 |block a l=>
  simp only[Sm.size,Sm.dep]at hn hd hl;have fg:(Sm.block a l).tk++ts=aC [123]::(Sm.jW l++aC [125]::ts):=by simp only[Sm.tk,aO,eI,fx]
  rw[fg];refine .rE rfl (Rb.mono (Rb.to (K4 hs (a:=a) (by omega) (by omega) hg.2 (by omega) (by omega)) ?_) λr hr=>by rw[hr,Sm.size];omega);congr 2;unfold fs rk;rw[Sm.flat,fi];rfl
 |var a s ty=>
  obtain⟨_,kC,eH⟩:=hg;have fp:nd.length+1<=4096:=hl;have fg:(Sm.var a s ty).tk++ts=iR ty s++aC [59]::ts:=by simp only[Sm.tk,aO,eI,fx]
  rw[fg];have body:Rb (pZ ex) ⟨iR ty s++aC [59]::ts,nd,d+1⟩ (·=nd.length+(Sm.var a s ty).size-1) ⟨ts,nd++fs nd.length (.var a s ty),d+1⟩:=by
   unfold pZ;refine Rb.bind (Fs eH) λx hx=>.takeN rfl (.dm rfl (fin (nd2:=[]) (by simp) rfl ?_));rw[hx];rfl
  rcases eH with rfl|rfl|rfl
  ·exact .gR rfl (.takeN rfl (.takeN rfl (.takeN rfl (.takeN rfl (.takeN rfl (.rE rfl body))))))
  ·exact .gR rfl (.takeN rfl (.takeN rfl (.takeN rfl (.takeN rfl (.takeN rfl (.gR rfl (.rE rfl body)))))))
  ·exact .gR rfl (.takeN rfl (.takeN rfl (.takeN rfl (.takeN rfl (.takeN rfl (.rE rfl body))))))
 |vari a s ty x=>
  simp only[Sm.size,Sm.dep]at hn hd hl;obtain⟨_,kC,eH,yH,_⟩:=hg;have fg:(Sm.vari a s ty x).tk++ts=iR ty s++aC [61]::(x.tk++aC [59]::ts):=by simp only[Sm.tk,aO,eI,fx]
  rw[fg];have body:Rb (pZ ex) ⟨iR ty s++aC [61]::(x.tk++aC [59]::ts),nd,d+1⟩ (·=nd.length+(Sm.vari a s ty x).size-1) ⟨ts,nd++fs nd.length (.vari a s ty x),d+1⟩:=by
   unfold pZ;refine Rb.bind (Fs eH) λy hy=>.nU rfl (Rb.bind (As he x (.inl rfl) (by omega) yH (by omega) (by omega)) λr hr=>?_);subst hr;refine .dm rfl (fin rfl (by rw[dQ,Sm.size]) ?_);rw[hy];unfold fs fl;rw[Sm.flat,fi];rfl
  rcases eH with rfl|rfl|rfl
  ·exact .gR rfl (.takeN rfl (.takeN rfl (.takeN rfl (.takeN rfl (.takeN rfl (.rE rfl body))))))
  ·exact .gR rfl (.takeN rfl (.takeN rfl (.takeN rfl (.takeN rfl (.takeN rfl (.gR rfl (.rE rfl body)))))))
  ·exact .gR rfl (.takeN rfl (.takeN rfl (.takeN rfl (.takeN rfl (.takeN rfl (.rE rfl body))))))
theorem Sg (len:Nat):∀n:Nat,Cy (S:=S) n len (zz n)
 |0=>λ_ _ _ _ h=>by omega
 |n+1=>λe ts nd d=>afV (At len n) (Sg len n) e ts nd d
theorem Rv:∀(r:List nh) (p:nh) (acc:List Nat) (k:Nat) (ts:List Tok) (nd:List Node),r.length<k->(∀x∈p::r,pW x.2.2)->nd.length+r.length+1<=4096->
  Rb (dt (rO (S:=S)) k acc) ⟨iR p.2.2 p.2.1++(mg r++aC [41]::ts),nd,d⟩ (·=acc++fy nd.length (r.length+1)) ⟨ts,nd++(p::r).map λx=>(mf x).strip,d⟩
 |_,_,_,0,_,_,hk,_,_=>by omega
 | [],p,acc,k+1,ts,nd,hk,ht,hl=>by
  refine Rb.y9 (P:=(·=acc++fy nd.length (0+1))) (b:=acc++[nd.length]) ?_ rfl;unfold rO;refine Rb.bind (Fs (ht p (by simp))) λx hx=>Rb.bind (Rb.node (by simp at hl;omega) rfl) λi hi=>?_;subst hi;refine Rb.nU rfl (Rb.to (.pure rfl) ?_);rw[hx];rfl
 |q::r,p,acc,k+1,ts,nd,hk,ht,hl=>by
  simp only[cr]at hk hl;have ih:=Rv r q (acc++[nd.length]) k ts (nd++[(mf p).strip]) (by omega) (λx hx=>ht x (ua _ hx)) (by simp;omega);refine Rb.y8 (a':=acc++[nd.length]) (B:=⟨iR q.2.2 q.2.1++(mg r++aC [41]::ts),nd++[(mf p).strip],d⟩) ?_ (Rb.mono (ih.to ?_) ?_)
  ·unfold rO;refine Rb.from (A:=⟨iR p.2.2 p.2.1++aC [44]::(iR q.2.2 q.2.1++(mg r++aC [41]::ts)),nd,d⟩) (Rb.bind (Fs (ht p (by simp))) λx hx=>Rb.bind (Rb.node (by omega) rfl) λi hi=>?_) ?_
   ·subst hi;refine Rb.takeN rfl (.dm rfl (Rb.to (.pure rfl) ?_));rw[hx];rfl
   ·simp only[mg,eI,aO]
  ·simp
  ·intro y hy;rw[hy,aO,az,cr];congr 1
def fd (b:Nat) (e:Dc):List Node:=(e.flat b).map Node.strip
def fds (b:Nat) (l:List Dc):List Node:=(Dc.cR b l).map Node.strip
theorem Hw (b:Nat) (e:Dc):(fd b e).length=e.size:=by unfold fd;rw[lz,Dc.bI]
theorem aar (b:Nat) (x:Dc) (l:List Dc):fds b (x::l)=fd b x++fds (b+x.size) l:=by unfold fds fd;rw[Dc.cR,fi]
theorem K8 {at_:Nat} {s:List UInt8} {ps:List nh} {l:List Sm} {a bat:Nat} (hn:4*Sm.aB l+3<=n) (hg:Sm.fm len bat l) (hd:Sm.eV l<=40) (hl:nd.length+ps.length+Sm.aB l+2<=4096):
  Rb (np (S:=S) n at_ s (fy nd.length ps.length)) ⟨aC [123]::(Sm.jW l++aC [125]::ts),nd++ps.map (λx=>(mf x).strip),0⟩ (·=nd.length+(Dc.fn a s ps bat l).size-1) ⟨ts,nd++fd nd.length (.fn a s ps bat l),0⟩:=by
 unfold np;refine Rb.bind (K4 (Sg len n) (a:=bat) (by omega) (by omega) hg (by omega) (by rw[az,lz];omega)) λr hr=>?_;subst hr;refine Rb.to (Rb.node (by simp only[az,lz,D1,cr,fw];omega) (by simp only[az,lz,D1,cr,fw,Dc.size];omega)) ?_;simp only[az,lz,List.length_range',aO];congr 2;unfold fd rk;rw[Dc.flat];simp only[fi,List.map_map,aO];rfl
theorem Vy (e:Dc) (ts:List Tok) (nd:List Node) (hn:4*e.size+4<=n) (hg:e.aL len) (hl:nd.length+e.size<=4096):
  Rb (sF (S:=S) n) ⟨e.tk++ts,nd,0⟩ (·=nd.length+e.size-1) ⟨ts,nd++fd nd.length e,0⟩:=by
 unfold sF;cases e with
 |var a s=>
  simp only[Dc.size]at hl hn;refine .eB λt ht=>Rb.from (A:=⟨fZ oN::mT s::aC [59]::ts,nd,0⟩) (.takeN rfl (.dm rfl (.kind rfl λt' gB=>.nU rfl (Rb.to (Rb.node (by omega) rfl) ?_)))) rfl;have:t'.text=s:=gB.2.1;rw[this];rfl
 |array a s ty v=>
  simp only[Dc.size]at hl hn;have arr (at_:Nat):Rb (qX (S:=S) at_ s ty) ⟨aC [91]::vt v::aC [93]::aC [59]::ts,nd,0⟩ (·=nd.length+(Dc.array a s ty v).size-1) ⟨ts,nd++fd nd.length (.array a s ty v),0⟩:=by
   unfold qX;refine .dm rfl (.kind rfl λt' gB=>.dm rfl (.dm rfl (Rb.to (Rb.node (by omega) rfl) ?_)));have:t'.n=v:=gB.2.2;rw[this];rfl
  rcases hg.2.2.1 with rfl|rfl
  ·refine .eB λt ht=>Rb.from (A:=⟨fZ BN::mT s::aC [91]::vt v::aC [93]::aC [59]::ts,nd,0⟩) (.nU rfl (.kind rfl λt' gB=>?_)) rfl;have:t'.text=s:=gB.2.1;rw[this];exact arr _
  ·refine .eB λt ht=>Rb.from (A:=⟨fZ oN::mT s::aC [91]::vt v::aC [93]::aC [59]::ts,nd,0⟩) (.takeN rfl (.dm rfl (.kind rfl λt' gB=>.takeN rfl (.gR rfl ?_)))) rfl;have:t'.text=s:=gB.2.1;rw[this];exact arr _
 |fn a s ps bat l=>
  simp only[Dc.size]at hl hn;obtain⟨_,kC,ma,_,_,wJ,Bo⟩:=hg;refine .eB λt ht=>Rb.from (A:=⟨fZ oN::mT s::aC [40]::((mg ps).tail++aC [41]::aC [123]::(Sm.jW l++aC [125]::ts)),nd,0⟩) (.takeN rfl (.dm rfl (.kind rfl λt' gB=>.takeN rfl (.rE rfl ?_)))) ?_
  ·have:t'.text=s:=gB.2.1;rw[this];unfold wC;refine .cU λ_ _=>?_;cases ps with
   |nil=>
    refine .nU rfl ?_;have:=K8 (S:=S) (at_:=t.at_) (s:=s) (ps:=[]) (l:=l) (a:=a) (bat:=bat) (ts:=ts) (nd:=nd) (n:=n) (len:=len) (by omega) wJ Bo (by simp at hl|-;omega);rw[lA,cg]at this;exact this
   |cons p r=>
    simp only[cr]at hl hn;have hp:=ma p (by simp);have iG:br (db (iR p.2.2 p.2.1++(mg r++aC [41]::aC [123]::(Sm.jW l++aC [125]::ts)))) [41]=false:=by
     rcases hp.2.2.2 with h|h|h<;>rw[h]<;>rfl
    refine Rb.from (A:=⟨iR p.2.2 p.2.1++(mg r++aC [41]::aC [123]::(Sm.jW l++aC [125]::ts)),nd,0⟩) (.takeN iG (Rb.bind (Rv r p [] n _ nd (by omega) (λx hx=>(ma x hx).2.2.2) (by omega)) λy hy=>?_)) ?_
    ·subst hy;rw[fx];exact K8 (S:=S) (ps:=p::r) (l:=l) (nd:=nd) (ts:=ts) (a:=a) (bat:=bat) (len:=len) (by omega) wJ Bo (by simp only[cr];omega)
    ·simp only[mg,List.tail_cons,aO]
  ·simp only[Dc.tk,eI,aO,fx]
theorem L1:∀(l:List Dc) (acc:List Nat) (k:Nat) (nd:List Node),l.length<k->(∀x∈l,x.aL len/\4*x.size+4<=n)->nd.length+Dc.aB l<=4096->
  Rb (dt (sE (S:=S) n) k acc) ⟨oi l,nd,0⟩ (·=acc++Dc.roots nd.length l) ⟨[],nd++fds nd.length l,0⟩
 |_,_,0,_,hk,_,_=>by omega
 | [],acc,k+1,nd,hk,hg,hl=>by
  refine Rb.to (Rb.y9 (P:=(·=acc++Dc.roots nd.length [])) (B:=⟨[],nd,0⟩) (b:=acc) ?_ (by simp[Dc.roots])) ?_
  ·unfold sE;refine .eB λt ht=>?_;have hk:t.kind=0:=ht.1;rw[if_pos hk];exact .pure rfl
  ·rw[show fds nd.length []=[]from rfl,cg]
 |x::l,acc,k+1,nd,hk,hg,hl=>by
  rw[Dc.aB]at hl;obtain⟨hx,Ev⟩:=hg x (by simp);have Ew:=Dc.size_pos x;have ih:=L1 l (acc++[nd.length+x.size-1]) k (nd++fd nd.length x) (by simpa using hk) (λy hy=>hg y (ua _ hy)) (by rw[az,Hw];omega);refine Rb.y8 (a':=acc++[nd.length+x.size-1]) (B:=⟨oi l,nd++fd nd.length x,0⟩) ?_ (Rb.mono (ih.to ?_) ?_)
  ·unfold sE;refine Rb.from (A:=⟨x.tk++oi l,nd,0⟩) (.eB λt ht=>?_) rfl;have dD:t.kind≠0:=by
    have h1:t.kind=(db (x.tk++oi l)).kind:=ht.1;rw[h1];cases x<;>(show(2:Nat)≠0;decide)
   rw[if_neg dD];refine Rb.bind (Vy x (oi l) nd Ev hx (by omega)) λr hr=>?_;subst hr;exact .pure rfl
  ·rw[aar nd.length x,az,Hw,aO]
  ·intro r hr;rw[hr,az,Hw];simp[Dc.roots]
theorem Dc.size_le:∀(l:List Dc),∀y∈l,y.size<=Dc.aB l
 |x::l,y,hy=>by
  rcases bS.1 hy with rfl|hy
  ·rw[Dc.aB];omega
  ·have:=Dc.size_le l y hy;rw[Dc.aB];omega
theorem Dc.QI:∀l:List Dc,l.length<=Dc.aB l
 | []=>aA _
 |x::l=>by have:=Dc.size_pos x;have:=Dc.QI l;rw[Dc.aB,cr];omega
theorem back {l:List Dc} (hg:∀x∈l,x.aL len) (hl:(bJ l).length<=4096) {n:Nat} (hn:16400<=n):∃nd,qK (ai (eM l)) (0:Nat) n=some (.ok nd)/\(bJ l).map Node.strip=nd.map Node.strip:=by
 have hlen:Dc.aB l+1<=4096:=by simpa[bJ,Dc.fk]using hl
 have hf:vU (ai (eM l)) (0:Nat) (oi l):=OG (oi l) 0 (TJ hg) (.inl (by rw[Sn];rfl));obtain⟨t,q,h1,h2,h3⟩:=hf.eP;have his:Is (ai (eM l)) ⟨t,q,[],0⟩ ⟨oi l,[],0⟩:=⟨h2,h3,rfl,rfl⟩
 have yL:=Dc.QI l;have hw:Rb (qP (S:=ai (eM l)) n) ⟨oi l,[],0⟩ (λ_=>True) ⟨[],(bJ l).map Node.strip,0⟩:=by
  unfold qP;refine Rb.bind (L1 (S:=ai (eM l)) (n:=n) l [] n [] (by omega) (λx hx=>⟨hg x hx,by have:=Dc.size_le l x hx;omega⟩) (by simp;omega)) λr hr=>?_;subst hr;refine Rb.to (Rb.node (by simp only[fx];unfold fds;rw[lz,Dc.fk];omega) trivial) ?_;unfold bJ fds;rw[fi];rfl
 obtain⟨a,st',h4,_,h5⟩:=hw _ his;refine⟨st'.nodes,?_,h5.nodes.symm⟩;unfold qK;rw[h1];simp only;rw[h4]
end
end Go.Front
end
section
namespace Go.Proofs
open Go.Shelf
def Tryz.QC:xN:=⟨λ|169=>34|n=>n,λ|70=>90|9=>9|0=>0|72=>92|37=>74|127=>127|3=>3|5=>5|n=>n,λ|n=>n⟩
theorem Tryz.QB:ahg ae Tryz.QC:={
 mixed:=by kernel_rfl
 f169:=Tryz.func34.trans (congrArg some (by kernel_rfl))
 t0:=Tryz.underlying0
 a0:=Tryz.isAgg0
 z0:=Tryz.sizeOf0
 v0:=Tryz.zeroValue0
 t3:=Tryz.underlying3
 a3:=Tryz.isAgg3
 z3:=Tryz.sizeOf3
 v3:=Tryz.zeroValue3
 t9:=ur
 a9:=Tryz.isAgg9
 z9:=Tryz.sizeOf9
 v9:=Tryz.zeroValue9
 t37:=Tryz.underlying74
 a37:=Tryz.isAgg74
 z37:=Tryz.sizeOf74
 v37:=Tryz.zeroValue74
 t70:=Tryz.underlying90
 a70:=Tryz.isAgg90
 z70:=Tryz.sizeOf90
 v70:=Tryz.zeroValue90
 t72:=Tryz.underlying92
 a72:=Tryz.isAgg92
 z72:=Tryz.sizeOf92
 v72:=Tryz.zeroValue92
 t127:=Tryz.underlying127
 a127:=Tryz.isAgg127
 z127:=Tryz.sizeOf127
 v127:=Tryz.zeroValue127}
theorem Tryz.Kb:Builder.Extra ae Tryz.QC:={
 sizeBuilder:=by kernel_rfl
 liesBuilder:=by kernel_rfl
 t5:=Tryz.underlying5
 a5:=Tryz.isAgg5
 z5:=Tryz.sizeOf5
 v5:=Tryz.zeroValue5
 infoByte:=by kernel_rfl
 cellsByte:=by kernel_rfl
 sizeByte:=by kernel_rfl
 neB5:=by decide}
open Go.RowKit in
def Tryz.acy:xN:=⟨λ|160=>98|232=>126|231=>125|227=>127|234=>129|233=>128|236=>131|235=>130|228=>155|271=>158|151=>157|197=>156|120=>181|152=>180|260=>179|137=>174|119=>199|224=>200|225=>201|217=>191|266=>207|n=>n,λ|9=>9|4=>4|3=>3|5=>5|117=>161|116=>160|0=>0|124=>164|21=>21|105=>174|46=>182|119=>187|139=>226|138=>225|n=>n,λ|3=>5|4=>6|n=>n⟩
theorem Tryz.acx:ahf ae Tryz.acy:={
 mixed:=by kernel_rfl
 f119:=Tryz.func199.trans (congrArg some (by kernel_rfl))
 f120:=Tryz.func181.trans (congrArg some (by kernel_rfl))
 f137:=Tryz.func174.trans (congrArg some (by kernel_rfl))
 f151:=Tryz.func157.trans (congrArg some (by kernel_rfl))
 f152:=Tryz.func180.trans (congrArg some (by kernel_rfl))
 f160:=Tryz.func98.trans (congrArg some (by kernel_rfl))
 f197:=Tryz.func156.trans (congrArg some (by kernel_rfl))
 f217:=Tryz.func191.trans (congrArg some (by kernel_rfl))
 f224:=Tryz.func200.trans (congrArg some (by kernel_rfl))
 f225:=Tryz.func201.trans (congrArg some (by kernel_rfl))
 f227:=Tryz.func127.trans (congrArg some (by kernel_rfl))
 f228:=Tryz.func155.trans (congrArg some (by kernel_rfl))
 f231:=Tryz.func125.trans (congrArg some (by kernel_rfl))
 f232:=Tryz.func126.trans (congrArg some (by kernel_rfl))
 f233:=Tryz.func128.trans (congrArg some (by kernel_rfl))
 f234:=Tryz.func129.trans (congrArg some (by kernel_rfl))
 f235:=Tryz.func130.trans (congrArg some (by kernel_rfl))
 f236:=Tryz.func131.trans (congrArg some (by kernel_rfl))
 f260:=Tryz.func179.trans (congrArg some (by kernel_rfl))
 f266:=Tryz.func207.trans (congrArg some (by kernel_rfl))
 f271:=Tryz.func158.trans (congrArg some (by kernel_rfl))
 t0:=Tryz.underlying0
 a0:=Tryz.isAgg0
 z0:=Tryz.sizeOf0
 v0:=Tryz.zeroValue0
 t3:=Tryz.underlying3
 a3:=Tryz.isAgg3
 z3:=Tryz.sizeOf3
 v3:=Tryz.zeroValue3
 t4:=uq
 a4:=Tryz.isAgg4
 z4:=Tryz.sizeOf4
 v4:=Tryz.zeroValue4
 t5:=Tryz.underlying5
 a5:=Tryz.isAgg5
 z5:=Tryz.sizeOf5
 v5:=Tryz.zeroValue5
 t9:=ur
 a9:=Tryz.isAgg9
 z9:=Tryz.sizeOf9
 v9:=Tryz.zeroValue9
 t21:=Tryz.underlying21
 a21:=Tryz.isAgg21
 z21:=Tryz.sizeOf21
 v21:=Tryz.zeroValue21
 t46:=Tryz.underlying182
 a46:=Tryz.isAgg182
 z46:=Tryz.sizeOf182
 v46:=Tryz.zeroValue182
 t105:=Tryz.underlying174
 a105:=Tryz.isAgg174
 z105:=Tryz.sizeOf174
 v105:=Tryz.zeroValue174
 t116:=Tryz.underlying160
 a116:=Tryz.isAgg160
 z116:=Tryz.sizeOf160
 t117:=Tryz.underlying161
 a117:=Tryz.isAgg161
 z117:=Tryz.sizeOf161
 v117:=Tryz.zeroValue161
 t119:=Tryz.underlying187
 a119:=Tryz.isAgg187
 z119:=Tryz.sizeOf187
 t124:=Tryz.underlying164
 a124:=Tryz.isAgg164
 z124:=Tryz.sizeOf164
 v124:=Tryz.zeroValue164
 t138:=Tryz.underlying225
 a138:=Tryz.isAgg225
 z138:=Tryz.sizeOf225
 v138:=Tryz.zeroValue225
 t139:=Tryz.underlying226
 a139:=Tryz.isAgg226
 z139:=Tryz.sizeOf226
 v139:=Tryz.zeroValue226
 g3:=by kernel_rfl
 g4:=by kernel_rfl}
open Go.RowKit in
theorem Tryz.strings_Trim_one (s:ByteArray) (c:UInt8) (hc:c.toNat<128) (w:World) (hs:s.size<=9223372036854775807):
  Calls ae 98 #[.string s,.string ⟨#[c]⟩] w λe w'=>e=.returned (.string ⟨(Lib.trimB s.data.toList c).toArray⟩)/\(w'=w\/w'=w.drew):=Any.strings_Trim_one Tryz.acx s c hc w hs
def Tryz.acu:xN:=⟨λ|137=>174|217=>191|266=>207|n=>n,λ|9=>9|5=>5|3=>3|n=>n,λ|n=>n⟩
theorem Tryz.acs:ahd ae Tryz.acu:={
 mixed:=by kernel_rfl
 f137:=Tryz.func174.trans (congrArg some (by kernel_rfl))
 f217:=Tryz.func191.trans (congrArg some (by kernel_rfl))
 f266:=Tryz.func207.trans (congrArg some (by kernel_rfl))
 t3:=Tryz.underlying3
 a3:=Tryz.isAgg3
 z3:=Tryz.sizeOf3
 v3:=Tryz.zeroValue3
 t5:=Tryz.underlying5
 a5:=Tryz.isAgg5
 z5:=Tryz.sizeOf5
 v5:=Tryz.zeroValue5
 t9:=ur
 a9:=Tryz.isAgg9
 z9:=Tryz.sizeOf9
 v9:=Tryz.zeroValue9}
open Go.RowKit in
theorem Tryz.strings_IndexByte (s:ByteArray) (c:Int) (w:World):
  Calls ae 174 #[.string s,.int .u8 c] w λe w'=>e=.returned (.int .i64 (Lib.indexByte s.data.toList c.toNat.toUInt8))/\w'=w:=Any.strings_IndexByte Tryz.acs s c w
def Tryz.acB:xN:=⟨λ|171=>96|243=>124|246=>101|283=>133|284=>134|285=>135|286=>136|129=>161|317=>160|318=>162|319=>163|320=>164|337=>182|338=>183|n=>n,λ|3=>3|9=>9|2=>2|4=>4|171=>165|0=>0|53=>137|37=>74|5=>5|173=>168|212=>179|51=>180|20=>20|213=>181|46=>182|232=>228|233=>229|n=>n,λ|17=>0|18=>7|19=>8|n=>n⟩
theorem Tryz.acA:ahi ae Tryz.acB:={
 mixed:=by kernel_rfl
 f129:=Tryz.func161.trans (congrArg some (by kernel_rfl))
 f171:=Tryz.func96.trans (congrArg some (by kernel_rfl))
 f243:=Tryz.func124.trans (congrArg some (by kernel_rfl))
 f246:=Tryz.func101.trans (congrArg some (by kernel_rfl))
 f283:=Tryz.func133.trans (congrArg some (by kernel_rfl))
 f284:=Tryz.func134.trans (congrArg some (by kernel_rfl))
 f285:=Tryz.func135.trans (congrArg some (by kernel_rfl))
 f286:=Tryz.func136.trans (congrArg some (by kernel_rfl))
 f317:=Tryz.func160.trans (congrArg some (by kernel_rfl))
 f318:=Tryz.func162.trans (congrArg some (by kernel_rfl))
 f319:=Tryz.func163.trans (congrArg some (by kernel_rfl))
 f320:=Tryz.func164.trans (congrArg some (by kernel_rfl))
 f337:=Tryz.func182.trans (congrArg some (by kernel_rfl))
 f338:=Tryz.func183.trans (congrArg some (by kernel_rfl))
 t0:=Tryz.underlying0
 a0:=Tryz.isAgg0
 z0:=Tryz.sizeOf0
 v0:=Tryz.zeroValue0
 t2:=Tryz.underlying2
 a2:=Tryz.isAgg2
 z2:=Tryz.sizeOf2
 v2:=Tryz.zeroValue2
 t3:=Tryz.underlying3
 a3:=Tryz.isAgg3
 z3:=Tryz.sizeOf3
 v3:=Tryz.zeroValue3
 t4:=uq
 a4:=Tryz.isAgg4
 z4:=Tryz.sizeOf4
 v4:=Tryz.zeroValue4
 t5:=Tryz.underlying5
 a5:=Tryz.isAgg5
 z5:=Tryz.sizeOf5
 v5:=Tryz.zeroValue5
 t9:=ur
 a9:=Tryz.isAgg9
 z9:=Tryz.sizeOf9
 v9:=Tryz.zeroValue9
 t20:=Tryz.underlying20
 a20:=Tryz.isAgg20
 z20:=Tryz.sizeOf20
 v20:=Tryz.zeroValue20
 t37:=Tryz.underlying74
 a37:=Tryz.isAgg74
 z37:=Tryz.sizeOf74
 v37:=Tryz.zeroValue74
 t46:=Tryz.underlying182
 a46:=Tryz.isAgg182
 z46:=Tryz.sizeOf182
 v46:=Tryz.zeroValue182
 t51:=Tryz.underlying180
 a51:=Tryz.isAgg180
 z51:=Tryz.sizeOf180
 v51:=Tryz.zeroValue180
 t53:=Tryz.underlying137
 a53:=Tryz.isAgg137
 z53:=Tryz.sizeOf137
 v53:=Tryz.zeroValue137
 t171:=Tryz.underlying165
 a171:=Tryz.isAgg165
 z171:=Tryz.sizeOf165
 v171:=Tryz.zeroValue165
 t173:=Tryz.underlying168
 a173:=Tryz.isAgg168
 z173:=Tryz.sizeOf168
 v173:=Tryz.zeroValue168
 t212:=Tryz.underlying179
 a212:=Tryz.isAgg179
 z212:=Tryz.sizeOf179
 v212:=Tryz.zeroValue179
 t213:=Tryz.underlying181
 a213:=Tryz.isAgg181
 z213:=Tryz.sizeOf181
 t232:=Tryz.underlying228
 a232:=Tryz.isAgg228
 z232:=Tryz.sizeOf228
 v232:=Tryz.zeroValue228
 t233:=Tryz.underlying229
 a233:=Tryz.isAgg229
 z233:=Tryz.sizeOf229
 v233:=Tryz.zeroValue229
 g17:=by kernel_rfl
 g18:=by kernel_rfl
 g19:=by kernel_rfl
 i0:=by kernel_rfl
 i2:=by kernel_rfl
 i3:=by kernel_rfl
 i4:=by kernel_rfl
 i5:=by kernel_rfl
 i9:=by kernel_rfl
 i20:=by kernel_rfl
 i37:=by kernel_rfl
 i46:=by kernel_rfl
 i51:=by kernel_rfl
 i53:=by kernel_rfl
 i171:=by kernel_rfl
 i173:=by kernel_rfl
 i212:=by kernel_rfl
 i232:=by kernel_rfl
 i233:=by kernel_rfl
 m17:=by kernel_rfl
 m18:=by kernel_rfl
 m19:=by kernel_rfl}
open Go.RowKit Go.Sort Go.Lib in
theorem Tryz.strconv_Itoa (n:Int) (h0:-9223372036854775808<=n) (h1:n<=9223372036854775807) (w:World) (BJ:Lib.TabIs ae w "internal/strconv.uint64pow10" .u64 Lib.pow10Tab):
  Calls ae 96 #[.int .i64 n] w λe w'=>e=.returned (.string ⟨(iZ n).toArray⟩)/\∃k os,w'=grow (w.drewN k) os:=Any.strconv_Itoa Tryz.acA n h0 h1 w BJ
def Tryz.acD:xN:=⟨λ|173=>75|246=>101|283=>133|284=>134|285=>135|286=>136|129=>161|317=>160|318=>162|319=>163|320=>164|337=>182|338=>183|n=>n,λ|2=>2|3=>3|9=>9|4=>4|171=>165|0=>0|53=>137|37=>74|5=>5|173=>168|212=>179|51=>180|20=>20|213=>181|46=>182|232=>228|233=>229|n=>n,λ|17=>0|18=>7|19=>8|n=>n⟩
theorem Tryz.acC:ahj ae Tryz.acD:={
 mixed:=by kernel_rfl
 f129:=Tryz.func161.trans (congrArg some (by kernel_rfl))
 f173:=Tryz.func75.trans (congrArg some (by kernel_rfl))
 f246:=Tryz.func101.trans (congrArg some (by kernel_rfl))
 f283:=Tryz.func133.trans (congrArg some (by kernel_rfl))
 f284:=Tryz.func134.trans (congrArg some (by kernel_rfl))
 f285:=Tryz.func135.trans (congrArg some (by kernel_rfl))
 f286:=Tryz.func136.trans (congrArg some (by kernel_rfl))
 f317:=Tryz.func160.trans (congrArg some (by kernel_rfl))
 f318:=Tryz.func162.trans (congrArg some (by kernel_rfl))
 f319:=Tryz.func163.trans (congrArg some (by kernel_rfl))
 f320:=Tryz.func164.trans (congrArg some (by kernel_rfl))
 f337:=Tryz.func182.trans (congrArg some (by kernel_rfl))
 f338:=Tryz.func183.trans (congrArg some (by kernel_rfl))
 t0:=Tryz.underlying0
 a0:=Tryz.isAgg0
 z0:=Tryz.sizeOf0
 v0:=Tryz.zeroValue0
 t2:=Tryz.underlying2
 a2:=Tryz.isAgg2
 z2:=Tryz.sizeOf2
 v2:=Tryz.zeroValue2
 t3:=Tryz.underlying3
 a3:=Tryz.isAgg3
 z3:=Tryz.sizeOf3
 v3:=Tryz.zeroValue3
 t4:=uq
 a4:=Tryz.isAgg4
 z4:=Tryz.sizeOf4
 v4:=Tryz.zeroValue4
 t5:=Tryz.underlying5
 a5:=Tryz.isAgg5
 z5:=Tryz.sizeOf5
 v5:=Tryz.zeroValue5
 t9:=ur
 a9:=Tryz.isAgg9
 z9:=Tryz.sizeOf9
 v9:=Tryz.zeroValue9
 t20:=Tryz.underlying20
 a20:=Tryz.isAgg20
 z20:=Tryz.sizeOf20
 v20:=Tryz.zeroValue20
 t37:=Tryz.underlying74
 a37:=Tryz.isAgg74
 z37:=Tryz.sizeOf74
 v37:=Tryz.zeroValue74
 t46:=Tryz.underlying182
 a46:=Tryz.isAgg182
 z46:=Tryz.sizeOf182
 v46:=Tryz.zeroValue182
 t51:=Tryz.underlying180
 a51:=Tryz.isAgg180
 z51:=Tryz.sizeOf180
 v51:=Tryz.zeroValue180
 t53:=Tryz.underlying137
 a53:=Tryz.isAgg137
 z53:=Tryz.sizeOf137
 v53:=Tryz.zeroValue137
 t171:=Tryz.underlying165
 a171:=Tryz.isAgg165
 z171:=Tryz.sizeOf165
 v171:=Tryz.zeroValue165
 t173:=Tryz.underlying168
 a173:=Tryz.isAgg168
 z173:=Tryz.sizeOf168
 v173:=Tryz.zeroValue168
 t212:=Tryz.underlying179
 a212:=Tryz.isAgg179
 z212:=Tryz.sizeOf179
 v212:=Tryz.zeroValue179
 t213:=Tryz.underlying181
 a213:=Tryz.isAgg181
 z213:=Tryz.sizeOf181
 t232:=Tryz.underlying228
 a232:=Tryz.isAgg228
 z232:=Tryz.sizeOf228
 v232:=Tryz.zeroValue228
 t233:=Tryz.underlying229
 a233:=Tryz.isAgg229
 z233:=Tryz.sizeOf229
 v233:=Tryz.zeroValue229
 g17:=by kernel_rfl
 g18:=by kernel_rfl
 g19:=by kernel_rfl
 i0:=by kernel_rfl
 i2:=by kernel_rfl
 i3:=by kernel_rfl
 i4:=by kernel_rfl
 i5:=by kernel_rfl
 i9:=by kernel_rfl
 i20:=by kernel_rfl
 i37:=by kernel_rfl
 i46:=by kernel_rfl
 i51:=by kernel_rfl
 i53:=by kernel_rfl
 i171:=by kernel_rfl
 i173:=by kernel_rfl
 i212:=by kernel_rfl
 i232:=by kernel_rfl
 i233:=by kernel_rfl
 m17:=by kernel_rfl
 m18:=by kernel_rfl
 m19:=by kernel_rfl}
open Go.RowKit Go.Sort Go.Lib in
theorem Tryz.strconv_FormatInt_10 (n:Int) (h0:-9223372036854775808<=n) (h1:n<=9223372036854775807) (w:World) (BJ:Lib.TabIs ae w "internal/strconv.uint64pow10" .u64 Lib.pow10Tab):
  Calls ae 75 #[.int .i64 n,.int .i64 10] w λe w'=>e=.returned (.string ⟨(iZ n).toArray⟩)/\∃k os,w'=grow (w.drewN k) os:=Any.strconv_FormatInt_10 Tryz.acC n h0 h1 w BJ
def Tryz.acz:xN:=⟨λ|174=>109|247=>144|245=>145|287=>169|279=>170|280=>171|281=>172|282=>173|321=>187|322=>188|316=>189|171=>96|205=>190|243=>124|246=>101|283=>133|284=>134|285=>135|286=>136|129=>161|317=>160|318=>162|319=>163|320=>164|337=>182|338=>183|n=>n,λ|9=>9|3=>3|2=>2|75=>147|85=>152|4=>4|167=>190|5=>5|53=>137|175=>191|46=>182|168=>193|37=>74|0=>0|210=>222|21=>21|127=>127|145=>245|143=>243|171=>165|173=>168|212=>179|51=>180|20=>20|213=>181|232=>228|233=>229|80=>95|n=>n,λ|15=>3|16=>4|17=>0|18=>7|19=>8|n=>n⟩
theorem Tryz.IN:ahh ae Tryz.acz:={
 mixed:=by kernel_rfl
 f129:=Tryz.func161.trans (congrArg some (by kernel_rfl))
 f171:=Tryz.func96.trans (congrArg some (by kernel_rfl))
 f174:=Tryz.func109.trans (congrArg some (by kernel_rfl))
 f205:=Tryz.func190.trans (congrArg some (by kernel_rfl))
 f243:=Tryz.func124.trans (congrArg some (by kernel_rfl))
 f245:=Tryz.func145.trans (congrArg some (by kernel_rfl))
 f246:=Tryz.func101.trans (congrArg some (by kernel_rfl))
 f247:=Tryz.func144.trans (congrArg some (by kernel_rfl))
 f279:=Tryz.func170.trans (congrArg some (by kernel_rfl))
 f280:=Tryz.func171.trans (congrArg some (by kernel_rfl))
 f281:=Tryz.func172.trans (congrArg some (by kernel_rfl))
 f282:=Tryz.func173.trans (congrArg some (by kernel_rfl))
 f283:=Tryz.func133.trans (congrArg some (by kernel_rfl))
 f284:=Tryz.func134.trans (congrArg some (by kernel_rfl))
 f285:=Tryz.func135.trans (congrArg some (by kernel_rfl))
 f286:=Tryz.func136.trans (congrArg some (by kernel_rfl))
 f287:=Tryz.func169.trans (congrArg some (by kernel_rfl))
 f316:=Tryz.func189.trans (congrArg some (by kernel_rfl))
 f317:=Tryz.func160.trans (congrArg some (by kernel_rfl))
 f318:=Tryz.func162.trans (congrArg some (by kernel_rfl))
 f319:=Tryz.func163.trans (congrArg some (by kernel_rfl))
 f320:=Tryz.func164.trans (congrArg some (by kernel_rfl))
 f321:=Tryz.func187.trans (congrArg some (by kernel_rfl))
 f322:=Tryz.func188.trans (congrArg some (by kernel_rfl))
 f337:=Tryz.func182.trans (congrArg some (by kernel_rfl))
 f338:=Tryz.func183.trans (congrArg some (by kernel_rfl))
 t0:=Tryz.underlying0
 a0:=Tryz.isAgg0
 z0:=Tryz.sizeOf0
 v0:=Tryz.zeroValue0
 t2:=Tryz.underlying2
 a2:=Tryz.isAgg2
 z2:=Tryz.sizeOf2
 v2:=Tryz.zeroValue2
 t3:=Tryz.underlying3
 a3:=Tryz.isAgg3
 z3:=Tryz.sizeOf3
 v3:=Tryz.zeroValue3
 t4:=uq
 a4:=Tryz.isAgg4
 z4:=Tryz.sizeOf4
 v4:=Tryz.zeroValue4
 t5:=Tryz.underlying5
 a5:=Tryz.isAgg5
 z5:=Tryz.sizeOf5
 v5:=Tryz.zeroValue5
 t9:=ur
 a9:=Tryz.isAgg9
 z9:=Tryz.sizeOf9
 v9:=Tryz.zeroValue9
 t20:=Tryz.underlying20
 a20:=Tryz.isAgg20
 z20:=Tryz.sizeOf20
 v20:=Tryz.zeroValue20
 t21:=Tryz.underlying21
 a21:=Tryz.isAgg21
 z21:=Tryz.sizeOf21
 v21:=Tryz.zeroValue21
 t37:=Tryz.underlying74
 a37:=Tryz.isAgg74
 z37:=Tryz.sizeOf74
 v37:=Tryz.zeroValue74
 t46:=Tryz.underlying182
 a46:=Tryz.isAgg182
 z46:=Tryz.sizeOf182
 v46:=Tryz.zeroValue182
 t51:=Tryz.underlying180
 a51:=Tryz.isAgg180
 z51:=Tryz.sizeOf180
 v51:=Tryz.zeroValue180
 t53:=Tryz.underlying137
 a53:=Tryz.isAgg137
 z53:=Tryz.sizeOf137
 v53:=Tryz.zeroValue137
 t75:=Tryz.underlying147
 a75:=Tryz.isAgg147
 z75:=Tryz.sizeOf147
 v75:=Tryz.zeroValue147
 t85:=Tryz.underlying152
 a85:=Tryz.isAgg152
 z85:=Tryz.sizeOf152
 v85:=Tryz.zeroValue152
 t127:=Tryz.underlying127
 a127:=Tryz.isAgg127
 z127:=Tryz.sizeOf127
 v127:=Tryz.zeroValue127
 t143:=Tryz.underlying243
 a143:=Tryz.isAgg243
 z143:=Tryz.sizeOf243
 v143:=Tryz.zeroValue243
 t145:=Tryz.underlying245
 a145:=Tryz.isAgg245
 z145:=Tryz.sizeOf245
 v145:=Tryz.zeroValue245
 t167:=Tryz.underlying190
 a167:=Tryz.isAgg190
 z167:=Tryz.sizeOf190
 v167:=Tryz.zeroValue190
 t168:=Tryz.underlying193
 a168:=Tryz.isAgg193
 z168:=Tryz.sizeOf193
 v168:=Tryz.zeroValue193
 t171:=Tryz.underlying165
 a171:=Tryz.isAgg165
 z171:=Tryz.sizeOf165
 v171:=Tryz.zeroValue165
 t173:=Tryz.underlying168
 a173:=Tryz.isAgg168
 z173:=Tryz.sizeOf168
 v173:=Tryz.zeroValue168
 t175:=Tryz.underlying191
 a175:=Tryz.isAgg191
 z175:=Tryz.sizeOf191
 v175:=Tryz.zeroValue191
 t210:=Tryz.underlying222
 a210:=Tryz.isAgg222
 z210:=Tryz.sizeOf222
 v210:=Tryz.zeroValue222
 t212:=Tryz.underlying179
 a212:=Tryz.isAgg179
 z212:=Tryz.sizeOf179
 v212:=Tryz.zeroValue179
 t213:=Tryz.underlying181
 a213:=Tryz.isAgg181
 z213:=Tryz.sizeOf181
 t232:=Tryz.underlying228
 a232:=Tryz.isAgg228
 z232:=Tryz.sizeOf228
 v232:=Tryz.zeroValue228
 t233:=Tryz.underlying229
 a233:=Tryz.isAgg229
 z233:=Tryz.sizeOf229
 v233:=Tryz.zeroValue229
 g15:=by kernel_rfl
 g16:=by kernel_rfl
 g17:=by kernel_rfl
 g18:=by kernel_rfl
 g19:=by kernel_rfl
 t80:=Tryz.underlying95
 a80:=Tryz.isAgg95
 z80:=Tryz.sizeOf95
 v80:=Tryz.zeroValue95
 i0:=by kernel_rfl
 i2:=by kernel_rfl
 i3:=by kernel_rfl
 i4:=by kernel_rfl
 i5:=by kernel_rfl
 i9:=by kernel_rfl
 i20:=by kernel_rfl
 i21:=by kernel_rfl
 i37:=by kernel_rfl
 i46:=by kernel_rfl
 i51:=by kernel_rfl
 i53:=by kernel_rfl
 i75:=by kernel_rfl
 i80:=by kernel_rfl
 i85:=by kernel_rfl
 i127:=by kernel_rfl
 i143:=by kernel_rfl
 i145:=by kernel_rfl
 i167:=by kernel_rfl
 i168:=by kernel_rfl
 i171:=by kernel_rfl
 i173:=by kernel_rfl
 i175:=by kernel_rfl
 i210:=by kernel_rfl
 i212:=by kernel_rfl
 i232:=by kernel_rfl
 i233:=by kernel_rfl
 m15:=by kernel_rfl
 m16:=by kernel_rfl
 m17:=by kernel_rfl
 m18:=by kernel_rfl
 m19:=by kernel_rfl
 c0:=by kernel_rfl
 c2:=by kernel_rfl
 c3:=by kernel_rfl
 c4:=by kernel_rfl
 c5:=by kernel_rfl
 c9:=by kernel_rfl
 c20:=by kernel_rfl
 c21:=by kernel_rfl
 c37:=by kernel_rfl
 c46:=by kernel_rfl
 c51:=by kernel_rfl
 c53:=by kernel_rfl
 c75:=by kernel_rfl
 c80:=by kernel_rfl
 c85:=by kernel_rfl
 c127:=by kernel_rfl
 c143:=by kernel_rfl
 c145:=by kernel_rfl
 c167:=by kernel_rfl
 c168:=by kernel_rfl
 c171:=by kernel_rfl
 c173:=by kernel_rfl
 c175:=by kernel_rfl
 c210:=by kernel_rfl
 c212:=by kernel_rfl
 c213:=by kernel_rfl
 c232:=by kernel_rfl
 c233:=by kernel_rfl}
open Go.RowKit in
theorem Tryz.strconv_ParseInt_10_at64_ok (s:ByteArray) (H9:s.size<=9223372036854775806) (v:Int) (h:jA 64 s.data.toList=.ok v) (w:World):
  Calls ae 109 #[.string s,.int .i64 10,.int .i64 64] w λe w'=>e=.returned (.tuple #[.int .i64 v,.nilIface])/\(w'=w\/∃t,w'=Lib.bytesWorld w 5 t):=Any.strconv_ParseInt_10_at64_ok Tryz.IN s H9 v h w
open Go.RowKit in
theorem Tryz.strconv_ParseInt_10_at64_syntax (s:ByteArray) (H7:s.size<=281474976710656) (h:jA 64 s.data.toList=.«syntax») (ev:Value) (w:World) (hv:w.cell? ⟨3,0,none⟩=some ev) (HT:ev=.nilIface\/∃te pe,ev=.iface te pe):
  Calls ae 109 #[.string s,.int .i64 10,.int .i64 64] w λe w'=>∃N,e=.returned (.tuple #[.int .i64 (0),.iface 193 (.pointer (some ⟨N,0,none⟩))])/\w.heap.size<=N/\w'.heap[N]? =some (.cells #[.string ⟨#[80,97,114,115,101,73,110,116]⟩,.string s,ev] 222 (0,0))/\Below w.heap.size w w':=Any.strconv_ParseInt_10_at64_syntax Tryz.IN s H7 h ev w hv HT
open Go.RowKit in
theorem Tryz.strconv_ParseInt_10_at64_range (s:ByteArray) (H7:s.size<=281474976710656) (h:jA 64 s.data.toList=.range) (ev:Value) (w:World) (hv:w.cell? ⟨4,0,none⟩=some ev) (HT:ev=.nilIface\/∃te pe,ev=.iface te pe):
  Calls ae 109 #[.string s,.int .i64 10,.int .i64 64] w λe w'=>∃N,e=.returned (.tuple #[.int .i64 (Lib.intSat 64 s.data.toList),.iface 193 (.pointer (some ⟨N,0,none⟩))])/\w.heap.size<=N/\w'.heap[N]? =some (.cells #[.string ⟨#[80,97,114,115,101,73,110,116]⟩,.string s,ev] 222 (0,0))/\Below w.heap.size w w':=Any.strconv_ParseInt_10_at64_range Tryz.IN s H7 h ev w hv HT
def Tryz.acw:xN:=⟨λ|157=>143|229=>167|199=>168|261=>186|311=>205|312=>206|n=>n,λ|9=>9|31=>45|3=>3|5=>5|4=>4|119=>187|0=>0|40=>189|152=>215|21=>21|154=>217|51=>180|141=>219|196=>235|193=>232|198=>238|49=>236|194=>233|201=>241|226=>260|46=>182|227=>261|n=>n,λ|0=>1|6=>2|n=>n⟩
theorem Tryz.acv:ahe ae Tryz.acw:={
 mixed:=by kernel_rfl
 f157:=Tryz.func143.trans (congrArg some (by kernel_rfl))
 f199:=Tryz.func168.trans (congrArg some (by kernel_rfl))
 f229:=Tryz.func167.trans (congrArg some (by kernel_rfl))
 f261:=Tryz.func186.trans (congrArg some (by kernel_rfl))
 f311:=Tryz.func205.trans (congrArg some (by kernel_rfl))
 f312:=Tryz.func206.trans (congrArg some (by kernel_rfl))
 t0:=Tryz.underlying0
 a0:=Tryz.isAgg0
 z0:=Tryz.sizeOf0
 v0:=Tryz.zeroValue0
 t3:=Tryz.underlying3
 a3:=Tryz.isAgg3
 z3:=Tryz.sizeOf3
 v3:=Tryz.zeroValue3
 t4:=uq
 a4:=Tryz.isAgg4
 z4:=Tryz.sizeOf4
 v4:=Tryz.zeroValue4
 t5:=Tryz.underlying5
 a5:=Tryz.isAgg5
 z5:=Tryz.sizeOf5
 v5:=Tryz.zeroValue5
 t9:=ur
 a9:=Tryz.isAgg9
 z9:=Tryz.sizeOf9
 v9:=Tryz.zeroValue9
 t21:=Tryz.underlying21
 a21:=Tryz.isAgg21
 z21:=Tryz.sizeOf21
 v21:=Tryz.zeroValue21
 t31:=Tryz.underlying45
 a31:=Tryz.isAgg45
 z31:=Tryz.sizeOf45
 v31:=Tryz.zeroValue45
 t40:=Tryz.underlying189
 a40:=Tryz.isAgg189
 z40:=Tryz.sizeOf189
 v40:=Tryz.zeroValue189
 t46:=Tryz.underlying182
 a46:=Tryz.isAgg182
 z46:=Tryz.sizeOf182
 v46:=Tryz.zeroValue182
 t49:=Tryz.underlying236
 a49:=Tryz.isAgg236
 z49:=Tryz.sizeOf236
 v49:=Tryz.zeroValue236
 t51:=Tryz.underlying180
 a51:=Tryz.isAgg180
 z51:=Tryz.sizeOf180
 v51:=Tryz.zeroValue180
 t119:=Tryz.underlying187
 a119:=Tryz.isAgg187
 z119:=Tryz.sizeOf187
 t141:=Tryz.underlying219
 a141:=Tryz.isAgg219
 z141:=Tryz.sizeOf219
 v141:=Tryz.zeroValue219
 t152:=Tryz.underlying215
 a152:=Tryz.isAgg215
 z152:=Tryz.sizeOf215
 v152:=Tryz.zeroValue215
 t154:=Tryz.underlying217
 a154:=Tryz.isAgg217
 z154:=Tryz.sizeOf217
 v154:=Tryz.zeroValue217
 t193:=Tryz.underlying232
 a193:=Tryz.isAgg232
 z193:=Tryz.sizeOf232
 v193:=Tryz.zeroValue232
 t194:=Tryz.underlying233
 a194:=Tryz.isAgg233
 z194:=Tryz.sizeOf233
 v194:=Tryz.zeroValue233
 t196:=Tryz.underlying235
 a196:=Tryz.isAgg235
 z196:=Tryz.sizeOf235
 v196:=Tryz.zeroValue235
 t198:=Tryz.underlying238
 a198:=Tryz.isAgg238
 z198:=Tryz.sizeOf238
 v198:=Tryz.zeroValue238
 t201:=Tryz.underlying241
 a201:=Tryz.isAgg241
 z201:=Tryz.sizeOf241
 v201:=Tryz.zeroValue241
 t226:=Tryz.underlying260
 a226:=Tryz.isAgg260
 z226:=Tryz.sizeOf260
 v226:=Tryz.zeroValue260
 t227:=Tryz.underlying261
 a227:=Tryz.isAgg261
 z227:=Tryz.sizeOf261
 v227:=Tryz.zeroValue261
 g0:=by kernel_rfl
 g6:=by kernel_rfl}
open Go.RowKit Go.Lib in
theorem Tryz.strings_Fields (s:ByteArray) (w:World) (hs:s.size<4294967281) (aaU:∀(j:Nat) b,s.data.toList[j]? =some b->b.toNat<128) (BJ:Lib.TabIs ae w "strings.asciiSpace" .u8 Lib.asciiSpaceTab):
  Calls ae 143 #[.string s] w λe w'=>
   e=.returned (.slice (some ⟨w.heap.size,0,none⟩) (p8 s.data.toList).length (p8 s.data.toList).length)/\w'=w.alloc (.cells ((p8 s.data.toList).map λl=>Value.string ⟨l.toArray⟩).toArray 9):=Any.strings_Fields Tryz.acv (by kernel_rfl) (by kernel_rfl) s w hs aaU BJ
end Go.Proofs
end
section
set_option maxRecDepth 100000
namespace Go.Proofs
open Go.AM Go.RowKit Go.Sort
section
variable {V:aM} {U:St} {w:World} {args:List AV} {bM:Array Value} {out:fH×St}
theorem CG {l:List Value} (h:bM.toList=l):bM=l.toArray:=by subst h;simp
theorem we {x:AV} (h:aQ V [x] bM.toList):∃v,bM= #[v]/\aN V x v:=by
 generalize hl:bM.toList=l at h;cases h with
 |cons _ v _ _ h r=>cases r;exact⟨v,CG hl,h⟩
theorem zZ {x y:AV} (h:aQ V [x,y] bM.toList):∃v u,bM= #[v,u]/\aN V x v/\aN V y u:=by
 generalize hl:bM.toList=l at h;cases h with
 |cons _ v _ _ h r=>cases r with|cons _ u _ _ h' r=>cases r;exact⟨v,u,CG hl,h,h'⟩
theorem TW {x y z:AV} (h:aQ V [x,y,z] bM.toList):∃v u t,bM= #[v,u,t]/\aN V x v/\aN V y u/\aN V z t:=by
 generalize hl:bM.toList=l at h;cases h with
 |cons _ v _ _ h r=>cases r with|cons _ u _ _ h' r=>cases r with|cons _ t _ _ h'' r=>cases r;exact⟨v,u,t,CG hl,h,h',h''⟩
theorem zD {s:By} {v:Value} (h:aN V (.str s) v):v=.string ⟨s.toArray⟩:=by cases h;rfl
theorem qA {k:IntKind} {n:Int} {v:Value} (h:aN V (.int k n) v):v=.int k n:=by cases h;rfl
theorem JX {x y:AV} {v u:Value} (h:aN V x v) (h':aN V y u):aN V (.tuple [x,y]) (.tuple #[v,u]):=.tuple _ _ (.cons _ _ _ _ h (.cons _ _ _ _ h' .nil))
theorem QD (w:World):∀n,Below w.heap.size w (w.drewN n)
 |0=>Below.refl _ _
 |n+1=>(QD w n).drew
theorem QE (w:World) (k:Nat) (os:Array Obj):Below w.heap.size w (grow (w.drewN k) os):=by
 have h:=QD w k;refine⟨h.os,h.tape,h.output,?_,λj hj=>?_⟩
 ·have:=h.size;simp only[grow,Array.size_append];omega
 ·rw[<-h.block j hj];have:=h.size;simp only[grow];rw[Array.getElem?_append_left (by omega)]
theorem JN {g:Nat} {nm:String} {k:IntKind} {zs:List Int} {ob:Obj} (hg:ae.globalNamed nm=some g) (ff:w.heap[g]? =some ob) (hp:∃ty fr,ob=.cells (zs.map λz=>Value.int k z).toArray ty fr):
  Lib.TabIs ae w nm k zs:=by
 obtain⟨ty,fr,rfl⟩:=hp;unfold Lib.TabIs World.var?;rw[hg];simp[ff]
theorem RD:ae.globalNamed "internal/strconv.uint64pow10"=some 0:=by kernel_rfl
theorem T5:ae.globalNamed "strings.asciiSpace"=some 1:=by kernel_rfl
theorem acJ (h:ER args U=some out) (hR:R V U w) (ha:aQ V args bM.toList):Calls ae 96 bM w (iX V w out):=by
 unfold ER at h;split at h
 ·rename_i n;split at h
  ·rename_i hc;cases h;obtain⟨v,rfl,hv⟩:=we ha;cases qA hv;obtain⟨ob,ff,hp⟩:=hR.BQ hc.1;refine(Tryz.strconv_Itoa n hc.2.1 hc.2.2 w (JN RD ff hp)).mono λe w' ⟨he,k,os,hw⟩=>?_;subst he;subst hw;exact sG hR (QE _ _ _) (.str _)
  ·cases h
 ·cases h
theorem acH (h:EO args U=some out) (hR:R V U w) (ha:aQ V args bM.toList):Calls ae 75 bM w (iX V w out):=by
 unfold EO at h;split at h
 ·rename_i n b;split at h
  ·rename_i hc;cases h;obtain⟨v,u,rfl,hv,hu⟩:=zZ ha;cases qA hv;cases qA hu;obtain⟨ob,ff,hp⟩:=hR.BQ hc.1;obtain⟨_,rfl,h0,h1⟩:=hc;refine(Tryz.strconv_FormatInt_10 n h0 h1 w (JN RD ff hp)).mono λe w' ⟨he,k,os,hw⟩=>?_;subst he;subst hw;exact sG hR (QE _ _ _) (.str _)
  ·cases h
 ·cases h
theorem acR (w:World) (o:Obj):Below w.heap.size w (w.alloc o):=(Below.refl _ w).alloc (aA _) o
theorem agb {V:aM} (l:List (By)):aQ V (l.map .str) (l.map λs=>Value.string ⟨s.toArray⟩):=by
 induction l with
 |nil=>exact .nil
 |cons x l ih=>exact .cons _ _ _ _ (.str _) ih
theorem acG (h:EN args U=some out) (hR:R V U w) (ha:aQ V args bM.toList):Calls ae 143 bM w (iX V w out):=by
 unfold EN at h;split at h
 ·rename_i s;split at h
  ·rename_i hc;cases h;obtain⟨v,rfl,hv⟩:=we ha;cases zD hv;obtain⟨ob,ff,hp⟩:=hR.BQ hc.1.asc;refine(Tryz.strings_Fields ⟨s.toArray⟩ w hc.2.1 (λj b hj=>hc.2.2 b (fF hj)) (JN T5 ff hp)).mono λe w' ⟨he,hw⟩=>?_;subst he;subst hw;refine GH hR (acR _ _) (e:=⟨w.heap.size,0,(p8 s).length,false⟩) (aA _) (by rw[(e8.alloc w _).size];exact Nat.lt_succ_self _) ?_ ?_
   ·refine⟨_,_,_,(e8.alloc w _).new,?_,by simp,by simp,λt h=>by cases h⟩;refine eZ.zn ?_ (by simp[AV.one]);simpa using agb _
   ·exact .slice U.length 0 ⟨w.heap.size,0,(p8 s).length,false⟩ _ (some _) 1 _ _ (mi _ _ _) ⟨rfl,rfl⟩ (λ_=>rfl) (by simp) (λc' h=>by cases h;rfl) (aA _)
  ·cases h
 ·cases h
theorem acM (h:BR args U=some out) (hR:R V U w) (ha:aQ V args bM.toList):Calls ae 109 bM w (iX V w out):=by
 unfold BR at h;split at h
 ·rename_i s b wd;split at h
  ·rename_i hc;obtain⟨v,u,t,rfl,hv,hu,ht⟩:=TW ha;cases zD hv;cases qA hu;cases qA ht;obtain⟨hk,rfl,rfl,hl⟩:=hc;have fp:(⟨s.toArray⟩:ByteArray).size<=281474976710656:=hl;split at h
   ·rename_i v hp;cases h;refine(Tryz.strconv_ParseInt_10_at64_ok ⟨s.toArray⟩ (by omega) v hp w).mono λe w' ⟨he,hw⟩=>?_;subst he;refine sG hR ?_ (JX (.int _ _) .niface);rcases hw with rfl|⟨t,rfl⟩
    ·exact Below.refl _ _
    ·exact⟨rfl,rfl,rfl,by rw[Lib.bytesWorld_size];omega,λk hk=>Lib.bytesWorld_at_old _ _ _ _ hk⟩
   ·rename_i hp;cases h;obtain⟨ob,ff,te,pe,ty,fr,rfl⟩:=hR.BQ hk.syn;refine(Tryz.strconv_ParseInt_10_at64_syntax ⟨s.toArray⟩ fp hp _ w (by simp[World.cell?,ff]) (.inr ⟨te,pe,rfl⟩)).mono λe w' ⟨N,he,hN,hh,hb⟩=>?_;subst he;have al:N<w'.heap.size:=(qQ.1 hh).1;exact GH hR hb (o:=.dead) (e:=⟨N,0,0,false⟩) hN al trivial (JX (.int _ _) (.iface _ _ _ (.ptr _ _ _ (mi _ _ _))))
   ·rename_i hp;cases h;obtain⟨ob,ff,te,pe,ty,fr,rfl⟩:=hR.BQ hk.rng;refine(Tryz.strconv_ParseInt_10_at64_range ⟨s.toArray⟩ fp hp _ w (by simp[World.cell?,ff]) (.inr ⟨te,pe,rfl⟩)).mono λe w' ⟨N,he,hN,hh,hb⟩=>?_;subst he;have al:N<w'.heap.size:=(qQ.1 hh).1;exact GH hR hb (o:=.dead) (e:=⟨N,0,0,false⟩) hN al trivial (JX (.int _ _) (.iface _ _ _ (.ptr _ _ _ (mi _ _ _))))
  ·cases h
 ·cases h
theorem Tryz.pok:fz ae:=aeH (by kernel_rfl) (by kernel_rfl) (by kernel_rfl)
theorem acP (h:EU args U=some out) (hR:R V U w) (ha:aQ V args bM.toList):Calls ae 98 bM w (iX V w out):=by
 unfold EU at h;split at h
 ·rename_i s c;split at h
  ·rename_i hc;cases h;obtain⟨v,u,rfl,hv,hu⟩:=zZ ha;cases zD hv;cases zD hu;refine(Tryz.strings_Trim_one ⟨s.toArray⟩ c hc.1 w (by have:(⟨s.toArray⟩:ByteArray).size=s.length:=rfl;omega)).mono λe w' ⟨he,hw⟩=>?_;subst he;refine sG hR ?_ (.str _);rcases hw with rfl|rfl
   ·exact Below.refl _ _
   ·exact(Below.refl _ _).drew
  ·cases h
 ·cases h
theorem acI (h:EP args U=some out) (hR:R V U w) (ha:aQ V args bM.toList):Calls ae 174 bM w (iX V w out):=by
 unfold EP at h;split at h
 ·rename_i s c;cases h;obtain⟨v,u,rfl,hv,hu⟩:=zZ ha;cases zD hv;cases qA hu;refine(Tryz.strings_IndexByte ⟨s.toArray⟩ c w).mono λe w' ⟨he,hw⟩=>?_;subst he;subst hw;exact sG hR (Below.refl _ _) (.int _ _)
 ·cases h
theorem acE (h:xd args U=some out) (hR:R V U w) (ha:aQ V args bM.toList):Calls ae 132 bM w (iX V w out):=by
 unfold xd at h;split at h
 ·rename_i b o;obtain⟨v,rfl,hv⟩:=we ha;cases hv with
  |ptr _ _ e he=>
   split at h
   ·rename_i cs t bg;obtain⟨e',bn,ff⟩:=hR.obj b _ bg;rw[he]at bn;cases bn;obtain⟨au,ty,fr,h1,h2,h3,h4,h5⟩:=ff;obtain⟨hw,ij,eH,h0,hn⟩:=h5 _ rfl;subst eH;rw[h0,dI];split at h
    ·rename_i ho;split at h
     ·rename_i BA;cases h;obtain⟨⟨u,hu,mc⟩,_⟩:=h2 o _ ho;have al:o<cs.length:=(bl.1 ho).1;rw[h0,dI]at hu;cases mc;refine(Ve e.blk o ty au.size w (by rw[cell_of_heap h1];exact hu) (by simp[World.shape?,h1]) (by omega) (by rw[<-hn];exact BA)
       (by rw[frozen_of_heap h1];have:=ij o (by omega) (by omega);simpa using this)).mono λe2 w' ⟨bW,im⟩=>?_
      subst bW;subst im;have eu:=FF h1 o (.pointer (some ⟨e.blk,o,none⟩));have gd:=h2.set (off:=o) (aN.ptr (V:=V) b o e he) (by rfl) (by omega);rw[h0,dI]at gd;have oD:=hR.vO bg he hw rfl eu (o':=.cells (cs.set o (.ptr (some (b,o)))) (.rw (.box ty))) ⟨_,ty,fr,eu.at_,by rw[h0];exact gd,by simpa using h3,by simpa using h4,
       λt1 pI=>by cases pI;exact⟨hw,ij,rfl,h0,by simpa using hn⟩⟩
      exact⟨V,oD,Ext.refl _ _,eu.fr he hw,_,rfl,.tuple [] #[] .nil⟩
     ·cases h
    ·rename_i p ho;split at h
     ·rename_i hp;subst hp;cases h;obtain⟨⟨u,hu,mc⟩,_⟩:=h2 o _ ho;rw[h0,dI]at hu;cases mc with
      |ptr _ _ e2 bW=>
       rw[he]at bW;cases bW;rw[h0,dI]at hu;refine(Vh e.blk o w (by rw[cell_of_heap h1];exact hu)).mono λe2 w' ⟨bW,im⟩=>?_;subst bW;subst im;exact sG hR (Below.refl _ _) (.tuple [] #[] .nil)
     ·cases h
    ·cases h
   ·cases h
 ·cases h
theorem Ln:∀{cs:List AV} {l:By},sr cs=some l->∀{vs:List Value},aQ V cs vs->l.length=cs.length/\∀(j:Nat) x,l[j]? =some x->vs[j]? =some (.int .u8 x.toNat)
 | [],l,h,vs,_=>by simp[sr]at h;subst h;exact⟨rfl,λj x hj=>by simp at hj⟩
 |y::r,l,h,vs,hv=>by
  cases y with
  |int kx n=>
   cases kx with
   |u8=>
    simp only[sr]at h;split at h
    ·rename_i hn;split at h
     ·rename_i l' hl;cases h;cases hv with
      |cons _ v _ S7 hx hr=>
       cases hx;obtain⟨h1,h2⟩:=Ln hl hr;refine⟨by simp[h1],λj x hj=>?_⟩;cases j with
       |zero=>simp at hj;subst hj;simp only[ja];rw[<-hn]
       |succ j=>simpa using h2 j x (by simpa using hj)
     ·cases h
    ·cases h
   |_=>simp[sr]at h
  |_=>simp[sr]at h
theorem aaA {w:World} {b q n:Nat} {au:Array Value} {ty:TypeId} {fr:Nat×Nat} (hb:w.heap[b]? =some (.cells au ty fr)) (hn:n≠0):
  qd w (w.freeze ⟨b,q,none⟩ n) b (.cells au ty (if fr.1==fr.2 then(q,q+n)else(min fr.1 q,max fr.2 (q+n)))) where
 os:=by simp[World.freeze,hn]
 tape:=by simp[World.freeze,hn]
 output:=by simp[World.freeze,hn]
 size:=by simp[World.freeze,hn]
 at_:=by simp[World.freeze,hn,Array.getElem?_modify,hb]
 other:=λk hk=>by simp only[World.freeze,hn,if_false,Array.getElem?_modify];rw[if_neg (λh=>hk h.symm)]
theorem acO (h:xe args U=some out) (hR:R V U w) (ha:aQ V args bM.toList):Calls ae 34 bM w (iX V w out):=by
 unfold xe at h;split at h
 ·rename_i b o;obtain⟨v,rfl,hv⟩:=we ha;cases hv with
  |ptr _ _ e he=>
   split at h
   ·rename_i cs bg;obtain⟨wr,hs⟩:=CS bg;obtain⟨e',bn,ff⟩:=hR.obj b _ hs;rw[he]at bn;cases bn;obtain⟨au,ty,fr,h1,h2,h3,h4,h5⟩:=ff;split at h
    ·rename_i z ho;cases h;obtain⟨⟨u,hu,mc⟩,_⟩:=h2 _ _ ho;cases mc;refine(af7 Tryz.QB Tryz.Kb e.blk (e.off+o) w (by rw[cell_of_heap h1];exact hu)).mono λe2 w' ⟨bW,im⟩=>?_;subst bW;subst im;exact sG hR (Below.refl _ _).drew (.str [])
    ·rename_i g q n cap z ho;split at h
     ·rename_i hz;obtain⟨rfl,Ie,hn⟩:=hz;split at h
      ·rename_i bs t hg;split at h
       ·rename_i ht;obtain⟨rfl,hl⟩:=ht;split at h
        ·rename_i l dj;cases h;obtain⟨⟨u,hu,mc⟩,_⟩:=h2 _ _ ho;have abI:=mc;cases mc with
         |slice _ _ e2 _ _ _ ad c bW Pv gv l6 gf hlen=>
          have qq:=gv (by omega);subst qq;obtain⟨e3,Pl,Ii⟩:=hR.obj g _ hg;rw[bW]at Pl;cases Pl;obtain⟨dA,Ci,Bc,k1,k2,k3,k4,k5⟩:=Ii;obtain⟨hw,ij,eH⟩:=k5 _ rfl;have abH:Ci=5:=eH;subst abH;have aa4:aF U g=some bs:=by unfold aF;rw[hg]
          obtain⟨vs,g1,g2,g3,g4⟩:=Cd hR abI aa4 (m:=n) (by omega) hl;obtain⟨wL,yB⟩:=Ln dj g2;have yL:l.length=n:=by rw[wL];simp;omega
          have bD:l≠[]:=by intro h0;rw[h0]at yL;simp at yL;omega
          refine(af8 Tryz.QB Tryz.Kb e.blk (e.off+o) e2.blk (e2.off+q) c dA.size l w bD (by omega) (by rw[cell_of_heap h1,yL];exact hu) (by simp[World.shape?,k1];rfl) (by omega) (by omega)
           (λj x hj=>g3 j _ (yB j x hj))).mono λe4 w' ⟨he4,BK⟩=>?_
          subst he4;subst BK;have hd:w.drew.heap[e2.blk]? =some (.cells dA 5 Bc):=k1;have yT:=aaA (q:=e2.off+q) (n:=l.length) hd (by omega);have eu:qd w (w.drew.freeze ⟨e2.blk,e2.off+q,none⟩ l.length) e2.blk _:=⟨yT.os,yT.tape,yT.output,yT.size,yT.at_,yT.other⟩
          have oD:=hR.vO hg bW hw rfl eu (o':=.cells bs .ro) ⟨_,_,_,eu.at_,k2,k3,k4,λt1 pI=>by cases pI⟩;exact⟨V,oD,Ext.refl _ _,eu.fr bW hw,_,rfl,.str _⟩
        ·cases h
       ·cases h
      ·cases h
     ·cases h
    ·cases h
   ·cases h
 ·cases h
theorem JC {b o:Nat} {cs:List AV} {m:Mk} {e:gp} {x y:AV} {v:Value} (hR:R V U w) (bg:U[b]? =some (.cells cs (.rw m))) (he:V b=some e) (ho:cs[o]? =some x) (hy:aN V y v) (h1y:y.one=true):
  (∃u,w.cell? ⟨e.blk,e.off+o,none⟩=some u/\aN V x u)/\w.frozen? ⟨e.blk,e.off+o,none⟩=false/\R V (U.set b (.cells (cs.set o y) (.rw m))) (w.setCell ⟨e.blk,e.off+o,none⟩ v)/\Fr V w (w.setCell ⟨e.blk,e.off+o,none⟩ v):=by
 obtain⟨e',bn,ff⟩:=hR.obj b _ bg;rw[he]at bn;cases bn;obtain⟨au,ty,fr,h1,h2,h3,h4,h5⟩:=ff;obtain⟨hw,ij,eH⟩:=h5 _ rfl;obtain⟨⟨u,hu,mc⟩,_⟩:=h2 o _ ho;have al:o<cs.length:=(bl.1 ho).1;have eu:=FF h1 (e.off+o) v;have gd:=h2.set (off:=o) hy h1y (by omega);have oD:=hR.vO bg he hw rfl eu (o':=.cells (cs.set o y) (.rw m)) ⟨_,ty,fr,eu.at_,gd,by simpa using h3,by simpa using h4,
  λt1 pI=>by cases pI;exact⟨hw,ij,by simpa using eH⟩⟩
 refine⟨⟨u,by rw[cell_of_heap h1];exact hu,mc⟩,?_,oD,eu.fr he hw⟩;rw[frozen_of_heap h1];have:=ij (e.off+o) (by omega) (by omega);simpa using this
def FT (f:Nat) (bM:Array Value) (w:World) (R:Ending->World->Prop):Prop:=∃v w',(callFunc f bM).run ae w=.ok (.value v) w'/\R (.returned v) w'
theorem acK (h:ES args U=some out) (hR:R V U w) (ha:aQ V args bM.toList):FT 212 bM w (iX V w out):=by
 unfold ES at h;split at h
 ·rename_i b o;obtain⟨v,rfl,hv⟩:=we ha;cases hv with
  |ptr _ _ e he=>
   split at h
   ·rename_i cs wr bg;split at h
    ·rename_i n ho;cases h;obtain⟨e',bn,ff⟩:=hR.obj b _ bg;rw[he]at bn;cases bn;obtain⟨au,ty,fr,h1,h2,h3,h4,h5⟩:=ff;obtain⟨⟨u,hu,mc⟩,_⟩:=h2 o _ ho;cases qA mc;have hc:w.cell? ⟨e.blk,e.off+o,none⟩=some (.int .u32 n):=by rw[cell_of_heap h1];exact hu
     exact⟨_,_,run_call_load Tryz.func212 (by kernel_rfl) (by kernel_rfl) (by kernel_rfl) .u32 (by kernel_rfl) hc,sG hR (Below.refl _ _) (.int _ _)⟩
    ·cases h
   ·cases h
 ·cases h
theorem acN (h:ET args U=some out) (hR:R V U w) (ha:aQ V args bM.toList):FT 222 bM w (iX V w out):=by
 unfold ET at h;split at h
 ·rename_i b o y;obtain⟨v,u,rfl,hv,hu⟩:=zZ ha;cases qA hu;cases hv with
  |ptr _ _ e he=>
   split at h
   ·rename_i cs m bg;split at h
    ·rename_i ho;cases h;obtain⟨⟨u,hc,_⟩,hz,oD,hF⟩:=JC hR bg he (bk ho) (aN.int (V:=V) .u32 y) rfl;exact⟨_,_,run_call_store Tryz.func222 (by kernel_rfl) (by kernel_rfl) (by kernel_rfl) (by kernel_rfl) hc hz,V,oD,Ext.refl _ _,hF,_,rfl,.tuple [] #[] .nil⟩
    ·cases h
   ·cases h
 ·cases h
theorem acF (h:EM args U=some out) (hR:R V U w) (ha:aQ V args bM.toList):FT 279 bM w (iX V w out):=by
 unfold EM at h;split at h
 ·rename_i s c;cases h;obtain⟨v,u,rfl,hv,hu⟩:=zZ ha;cases zD hv;cases qA hu;refine⟨_,_,?_,sG hR (Below.refl _ _) (.int _ _)⟩;rw[run_callFunc_extern Tryz.func279 (by kernel_rfl) (by kernel_rfl) (by kernel_rfl) (e:=ag6) (by kernel_rfl)];rw[Lib.run_countString];rfl
 ·cases h
abbrev adt:aha:={lock:=213,unlock:=214,ilock:=220,iunlock:=221,lockSlow:=232,unlockSlow:=235,disable:=228,enable:=230,acquire:=231,relMerge:=233,cas32:=229,add32:=234,tMutex:=207,tIMutex:=205,tPMutex:=263,tPIMutex:=278,tPI32:=280,tUP:=177,tNoCopy:=200,tU32:=180}
theorem Q3:ag9 ae adt:=by
 constructor
 all_goals first|kernel_rfl|(intro w;kernel_rfl)
theorem acL (h:rI 0 1 args U=some out) (hR:R V U w) (ha:aQ V args bM.toList):Calls ae 213 bM w (iX V w out):=by
 unfold rI at h;split at h
 ·rename_i b o;obtain⟨v,rfl,hv⟩:=we ha;cases hv with
  |ptr _ _ e he=>
   split at h
   ·rename_i cs m bg;split at h
    ·rename_i ho;cases h;obtain⟨⟨u,hc,mc⟩,hz,oD,hF⟩:=JC hR bg he ho (aN.int (V:=V) .i32 1) rfl;cases qA mc;refine(Go.MuLone.lock_free Q3 _ w hc hz).mono λe2 w' ⟨bW,im⟩=>?_;subst bW;subst im;exact⟨V,oD,Ext.refl _ _,hF,_,rfl,.tuple [] #[] .nil⟩
    ·cases h
   ·cases h
 ·cases h
theorem acQ (h:rI 1 0 args U=some out) (hR:R V U w) (ha:aQ V args bM.toList):Calls ae 221 bM w (iX V w out):=by
 unfold rI at h;split at h
 ·rename_i b o;obtain⟨v,rfl,hv⟩:=we ha;cases hv with
  |ptr _ _ e he=>
   split at h
   ·rename_i cs m bg;split at h
    ·rename_i ho;cases h;obtain⟨⟨u,hc,mc⟩,hz,oD,hF⟩:=JC hR bg he ho (aN.int (V:=V) .i32 0) rfl;cases qA mc;refine(Go.MuLone.iunlock_held Q3 _ w hc hz).mono λe2 w' ⟨bW,im⟩=>?_;subst bW;subst im;exact⟨V,oD,Ext.refl _ _,hF,_,rfl,.tuple [] #[] .nil⟩
    ·cases h
   ·cases h
 ·cases h
theorem rn (f:Nat) {fn:Func} (h:ae.funcs[f]? =some fn) (hb:fn.body.isSome=true):∃fn,ae.funcs[f]? =some fn/\fn.body.isSome=true:=⟨fn,h,hb⟩
end
theorem To:kT ae Lb:=by
 intro f args U out h;unfold Lb at h;split at h
 ·exact .inl ⟨rn 34 Tryz.func34 (by kernel_rfl),λV w bM hR ha=>acO h hR ha⟩
 ·exact .inl ⟨rn 109 Tryz.func109 (by kernel_rfl),λV w bM hR ha=>acM h hR ha⟩
 ·exact .inl ⟨rn 75 Tryz.func75 (by kernel_rfl),λV w bM hR ha=>acH h hR ha⟩
 ·exact .inl ⟨rn 143 Tryz.func143 (by kernel_rfl),λV w bM hR ha=>acG h hR ha⟩
 ·exact .inl ⟨rn 96 Tryz.func96 (by kernel_rfl),λV w bM hR ha=>acJ h hR ha⟩
 ·exact .inl ⟨rn 98 Tryz.func98 (by kernel_rfl),λV w bM hR ha=>acP h hR ha⟩
 ·exact .inl ⟨rn 174 Tryz.func174 (by kernel_rfl),λV w bM hR ha=>acI h hR ha⟩
 ·exact .inl ⟨rn 132 Tryz.func132 (by kernel_rfl),λV w bM hR ha=>acE h hR ha⟩
 ·exact .inr ⟨⟨_,Tryz.func212,by kernel_rfl⟩,λV w bM hR ha=>acK h hR ha⟩
 ·exact .inl ⟨rn 213 Tryz.func213 (by kernel_rfl),λV w bM hR ha=>acL h hR ha⟩
 ·exact .inl ⟨rn 221 Tryz.func221 (by kernel_rfl),λV w bM hR ha=>acQ h hR ha⟩
 ·exact .inr ⟨⟨_,Tryz.func222,by kernel_rfl⟩,λV w bM hR ha=>acN h hR ha⟩
 ·exact .inr ⟨⟨_,Tryz.func279,by kernel_rfl⟩,λV w bM hR ha=>acF h hR ha⟩
 ·cases h
end Go.Proofs
end
section
set_option maxRecDepth 100000
namespace Go.Front
open Go.AM Go.Proofs
theorem fA:dz ae 3=some false:=by kernel_rfl
theorem Kq:dz ae 2=some false:=by kernel_rfl
theorem kX:dz ae 9=some false:=by kernel_rfl
theorem Cz:dz ae 24=some false:=by kernel_rfl
theorem TC:dz ae 98=some true:=by kernel_rfl
theorem age:aE ae 98=4:=by kernel_rfl
def Tok.cells (t:Tok):List AV:=[.int .i64 t.kind,.int .i64 t.at_,.str t.text,.int .i64 t.n]
def Tok.av (t:Tok):AV:=.agg t.cells
def rc (s:By) (at_:Nat) (t:Tok) (tv:AV) (deep:Int):List AV:=
 [.str s,.int .i64 at_,.int .i64 t.kind,.int .i64 t.at_,.str t.text,.int .i64 t.n,tv,.int .i64 deep]
structure bz (U:St) (p:Nat) (s:By) (at_:Nat) (t:Tok) (tv:AV) (deep:Int):Prop where
 h:U[p]? =some (.cells (rc s at_ t tv deep) (.rw (.box 100)))
section
variable {U:St} {p:Nat} {s:By} {at_:Nat} {t:Tok} {tv:AV} {deep:Int}
theorem bz.c (h:bz U p s at_ t tv deep):aF U p=some (rc s at_ t tv deep):=by unfold aF;rw[h.h]
theorem cq {b ty off:Nat} {cs:List AV} {x:AV} {f:AV->Out} (hc:aF U b=some cs) (ha:dz ae ty=some false) (hx:cs[off]? =some x):aI ae ty U b off f=f x:=by
 unfold aI;rw[hc];simp only;exact qJ ha hx
theorem bz.s_ (h:bz U p s at_ t tv deep) (f:AV->Out):aI ae 9 U p (0+0) f=f (.str s):=cq h.c kX rfl
theorem bz.fJ (h:bz U p s at_ t tv deep) (f:AV->Out):aI ae 3 U p (0+1) f=f (.int .i64 at_):=cq h.c fA rfl
theorem bz.kind (h:bz U p s at_ t tv deep) (f:AV->Out):aI ae 3 U p (0+2+0) f=f (.int .i64 t.kind):=cq h.c fA rfl
theorem bz.kL (h:bz U p s at_ t tv deep) (f:AV->Out):aI ae 3 U p (0+2+1) f=f (.int .i64 t.at_):=cq h.c fA rfl
theorem bz.text (h:bz U p s at_ t tv deep) (f:AV->Out):aI ae 9 U p (0+2+2) f=f (.str t.text):=cq h.c kX rfl
theorem bz.nodes (h:bz U p s at_ t tv deep) (f:AV->Out):aI ae 24 U p (0+6) f=f tv:=cq h.c Cz rfl
theorem bz.CW (h:bz U p s at_ t tv deep) (f:AV->Out):aI ae 3 U p (0+7) f=f (.int .i64 deep):=cq h.c fA rfl
theorem bz.tok (h:bz U p s at_ t tv deep) (f:AV->Out):aI ae 98 U p (0+2) f=f t.av:=by
 unfold aI;rw[h.c];simp only;rw[Ry TC age (by simp[rc])];rfl
theorem bB {o:aq} {b:Nat} (h:U[b]? =some o):b<U.length:=(bl.1 h).1
theorem bz.lt (h:bz U p s at_ t tv deep):p<U.length:=bB h.h
theorem bz.mj (h:bz U p s at_ t tv deep) (n:Nat) (f:St->Out):aT U p (0+1) [.int .i64 n] f=f (U.set p (.cells (rc s n t tv deep) (.rw (.box 100)))):=by
 unfold aT;rw[h.h];simp only;rw[if_pos (by simp[rc])];rfl
theorem bz.Sz (h:bz U p s at_ t tv deep) (t2:Tok) (f:St->Out):aT U p (0+2) t2.cells f=f (U.set p (.cells (rc s at_ t2 tv deep) (.rw (.box 100)))):=by
 unfold aT;rw[h.h];simp only;rw[if_pos (by simp[rc,Tok.cells])];rfl
theorem bz.afQ (h:bz U p s at_ t tv deep) (v:AV) (f:St->Out):aT U p (0+6) [v] f=f (U.set p (.cells (rc s at_ t v deep) (.rw (.box 100)))):=by
 unfold aT;rw[h.h];simp only;rw[if_pos (by simp[rc])];rfl
theorem bz.Sx (h:bz U p s at_ t tv deep) (n:Int) (f:St->Out):aT U p (0+7) [.int .i64 n] f=f (U.set p (.cells (rc s at_ t tv n) (.rw (.box 100)))):=by
 unfold aT;rw[h.h];simp only;rw[if_pos (by simp[rc])];rfl
theorem bz.put (h:bz U p s at_ t tv deep) {s2:By} {at2:Nat} {t2:Tok} {FN:AV} {L2:Int}:bz (U.set p (.cells (rc s2 at2 t2 FN L2) (.rw (.box 100)))) p s2 at2 t2 FN L2:=
 ⟨by rw[cM h.lt]⟩
end
theorem cL {a b:Nat}:((a:Int)==(b:Int))=(a==b):=by
 by_cases h:a=b
 ·subst h;simp
 ·have h2:((a:Int)==(b:Int))=false:=by rw[beq_eq_false_iff_ne];omega
  have h3:(a==b)=false:=by rw[beq_eq_false_iff_ne];exact h
  rw[h2,h3]
theorem ab0 {U:St} {p:Nat} {s:By} {at_:Nat} {t:Tok} {tv:AV} {deep:Int} (h:bz U p s at_ t tv deep) (m:By):Fw ae Lb 116 [.ptr (some (p,0)),.str m] U λr U'=>r=.ret (.bool (br t m))/\U'=U:=by
 refine WB ?_;simp only[an,h.kind,ag,h.text,aG];have e2:((t.kind:Int)==(2:Int))=(t.kind==2):=cL (b:=2);have e5:((t.kind:Int)==(5:Int))=(t.kind==5):=cL (b:=5);rw[e2,e5];unfold br;refine Wp.ite (λh1=>Wp.ret ⟨by rw[h1];simp,rfl⟩) λh1=>Wp.ite (λh2=>Wp.ret ⟨by rw[h1,h2];simp,rfl⟩) λh2=>Wp.ret ⟨by rw[h1,h2];simp,rfl⟩
end Go.Front
/-Small ahu of the ahD. -/
namespace Go.Front
open Go.AM Go.Proofs
def gO (e at_:Int):AV:=.iface 129 (.agg [.int .i64 e,.int .i64 at_])
section
variable {U:St}
theorem Ck (e a:Int):Fw ae Lb 108 [.int .i64 e,.int .i64 a] U λr U'=>r=.pan (gO e a)/\U'=U:=
 Wo (Wp.ret ⟨rfl,rfl⟩)
theorem aeI (s m:By):Fw ae Lb 148 [.str s,.str m] U λr U'=>r=.ret (.bool (m.isPrefixOf s))/\U'=U:=by
 refine WU ?_;refine Wp.ite (λh=>?_) λh=>Wp.ret ⟨?_,rfl⟩
 ·have hl:m.length<=s.length:=by simpa using h
  simp only[uC (s:=s) (l:=0) (h:=(m.length:Int)) ⟨Int.le_refl _,by omega,by omega⟩];refine Wp.ret ⟨?_,rfl⟩;congr 2;simp only[fa,Int.toNat_zero,iy];rw[tU];simp only[beq_iff_eq,xQ];exact⟨λh=>h▸List.take_prefix _ _,λh=>(List.prefix_iff_eq_take.1 h).symm⟩
 ·have hl:s.length<m.length:=by simpa using h
  congr 2
  symm
  rw[Bool.eq_false_iff];intro hp;have:=(xQ.1 hp).length_le;omega
theorem O8 (s m:By):Fw ae Lb 112 [.str s,.str m] U λr U'=>r=.ret (.bool (m.isPrefixOf s))/\U'=U:=by
 refine Wx ?_;refine Wp.call (aeI s m) (λv U' h=>?_) λv U' h=>by cases h.1
 obtain⟨h1,rfl⟩:=h;cases h1;simp only[bp];exact Wp.ret ⟨rfl,rfl⟩
theorem QK (c:UInt8):Fw ae Lb 104 [.int .u8 c.toNat] U λr U'=>r=.ret (.bool (dK c))/\U'=U:=by
 refine Wj ?_;simp only[CT];have e95:((c.toNat:Int)==(95:Int))=(c.toNat==95):=cL (b:=95);refine(Wp.ret (Q:=λr U'=>r=.ret (.bool (dK c))/\U'=U) ⟨rfl,rfl⟩).eq λu=>?_;unfold dK;rw[e95];simp only[decide_eq_true_eq];by_cases h1:97<=c.toNat<;>by_cases h2:c.toNat<=122<;>by_cases h3:65<=c.toNat<;>by_cases h4:c.toNat<=90<;>
  simp[h1,h2,h3,h4,show((c.toNat:Int)>=97)=(97<=c.toNat)from propext (by omega),show((c.toNat:Int)<=122)=(c.toNat<=122)from propext (by omega),
   show((c.toNat:Int)>=65)=(65<=c.toNat)from propext (by omega),show((c.toNat:Int)<=90)=(c.toNat<=90)from propext (by omega)]
theorem GB (c:UInt8):Fw ae Lb 105 [.int .u8 c.toNat] U λr U'=>r=.ret (.bool (isDigit c))/\U'=U:=by
 refine Wk ?_;simp only[CT];refine(Wp.ret (Q:=λr U'=>r=.ret (.bool (isDigit c))/\U'=U) ⟨rfl,rfl⟩).eq λu=>?_;unfold isDigit;simp only[decide_eq_true_eq];by_cases h1:48<=c.toNat<;>by_cases h2:c.toNat<=57<;>
  simp[h1,h2,show((c.toNat:Int)>=48)=(48<=c.toNat)from propext (by omega),show((c.toNat:Int)<=57)=(c.toNat<=57)from propext (by omega)]
end
end Go.Front
/-ahs:ahI goes behind ahH. -/
namespace Go.Front
open Go.AM Go.Proofs
theorem rT {U:St} {b:Nat} {o:aq} (h:U[b]? =some o):U.set b o=U:=by
 obtain⟨hl,he⟩:=bl.1 h;rw[<-he];exact List.set_getElem_self hl
section
variable {U:St} {p:Nat} {s:By} {at_:Nat} {t:Tok} {tv:AV} {deep:Int}
def sn (U:St) (p:Nat) (s:By) (n:Nat) (t:Tok) (tv:AV) (deep:Int):bw:=λr U'=>r=.ret (.tuple [])/\U'=U.set p (.cells (rc s n t tv deep) (.rw (.box 100)))
theorem drop_at {c:UInt8} (h:s[at_]? =some c):s.drop at_=c::s.drop (at_+1):=by
 obtain⟨hl,he⟩:=bl.1 h;rw[<-he];exact xP hl
theorem kP (hs:s.length<=4611686018427387904) (h:at_<s.length):ah .i64 ((at_:Int)+1)=((at_+1:Nat):Int):=by
 rw[wrap64 (by omega) (by omega)];omega
theorem Us (hs:s.length<=4611686018427387904):∀(k:Nat) {U:St} {at_:Nat},at_+k=s.length->bz U p s at_ t tv deep->
  (Wp (sn U p s (at_+skip false (s.drop at_)) t tv deep) λu=>re u.n u.m1 (some (p,0)) U)/\
  Wp (sn U p s (at_+skip true (s.drop at_)) t tv deep) λu=>yc u.n u.m1 u.m2 (some (p,0)) U:=by
 intro k
 induction k with
 |zero=>
  intro U at_ hk h;have hd:s.drop at_=[]:=jB (by omega);have h1:Wp (sn U p s at_ t tv deep) λu=>re u.n u.m1 (some (p,0)) U:=by
   refine Mq ?_;simp only[an,h.fJ,h.s_,ag,aG];refine Wp.neg (by simp;omega) (Wp.ret ⟨rfl,(rT h.h).symm⟩)
  rw[hd];refine⟨h1,?_⟩;refine GX ?_;simp only[an,h.fJ,h.s_,ag,aG];exact Wp.neg (by simp;omega) h1
 |succ k ih=>
  intro U at_ hk h;have al:at_<s.length:=by omega
  obtain⟨c,hc⟩:∃c,s[at_]? =some c:=⟨s[at_],bk al⟩
  have hd:=drop_at hc;have hw:=kP (at_:=at_) hs al;have fe (f:UInt8->Out):cP s (at_:Int) f=f c:=ib (by omega) (by simpa using hc);have jl:bz (U.set p (.cells (rc s (at_+1) t tv deep) (.rw (.box 100)))) p s (at_+1) t tv deep:=h.put;obtain⟨i1,i2⟩:=ih (at_:=at_+1) (by omega) jl;have up {n:Nat}:∀r U',sn (U.set p (.cells (rc s (at_+1) t tv deep) (.rw (.box 100)))) p s n t tv deep r U'->sn U p s n t tv deep r U':=λr U' ⟨h1,h2⟩=>⟨h1,by rw[h2,se]⟩
  have n10:((c.toNat:Int)==(10:Int))=(c.toNat==10):=cL (b:=10);have n32:((c.toNat:Int)==(32:Int))=(c.toNat==32):=cL (b:=32);have n9:((c.toNat:Int)==(9:Int))=(c.toNat==9):=cL (b:=9);have blank:Wp (sn U p s (at_+1+skip false (s.drop (at_+1))) t tv deep) λu=>C6 u.n u.m1 (some (p,0)) U:=by
   refine Wg ?_;simp only[an,h.fJ,ag,hw,h.mj];exact i1.mono up
  have LG (h10:c.toNat≠10):Wp (sn U p s (at_+1+skip true (s.drop (at_+1))) t tv deep) λu=>yc u.n u.m1 u.m2 (some (p,0)) U:=by
   refine GX ?_;simp only[an,h.fJ,h.s_,ag,aG,fe,hw,h.mj];refine Wp.pos (by simp;omega) (Wp.pos ?_ (i2.mono up));rw[bne,n10];simpa using h10
  have first:Wp (sn U p s (at_+skip false (s.drop at_)) t tv deep) λu=>re u.n u.m1 (some (p,0)) U:=by
   refine Mq ?_;simp only[an,h.fJ,h.s_,ag,aG,fe];refine Wp.pos (by simp;omega) ?_;rw[n32,n9,n10];have br (hb:c.toNat=32\/c.toNat=9\/c.toNat=10):at_+skip false (s.drop at_)=at_+1+skip false (s.drop (at_+1)):=by
    rw[hd];simp only[skip];rw[if_pos hb];omega
   refine Wp.ite (λhb=>?_) λaaW=>Wp.ite (λhb=>?_) λhb9=>?_
   ·rw[br (.inl (by simpa using hb))];exact blank
   ·rw[br (.inr (.inl (by simpa using hb)))];exact blank
   ·refine Wi ?_;simp only[an,h.fJ,h.s_,ag,aG,hw,h.mj];refine Wp.ite (λhb=>?_) λaaV=>?_
    ·rw[br (.inr (.inr (by simpa using hb)))];exact i1.mono up
    ·have nb:¬(c.toNat=32\/c.toNat=9\/c.toNat=10):=by
      rintro(h'|h'|h')<;>simp[h']at aaW hb9 aaV
     simp only[uC (s:=s) (l:=(at_:Int)) (h:=(s.length:Int)) ⟨by omega,by omega,by omega⟩,fa,j8];refine Wp.eE (O8 (s.drop at_) [47,47]) (λv U' hv=>?_) (λv U' hv=>by cases hv.1);obtain⟨hv,rfl⟩:=hv;cases hv;simp only[bp];have Il:List.isPrefixOf [47,47] (s.drop at_)=(c==47&&(s.drop (at_+1)).head? ==some 47):=by
      rw[hd];cases s.drop (at_+1)with
      |nil=>simp[List.isPrefixOf]
      |cons d r=>simp[List.isPrefixOf,Bool.beq_comm (a:=(47:UInt8))]
     rw[Il];have pG:skip false (s.drop at_)=if c.toNat=47/\(s.drop (at_+1)).head? =some 47 then skip true (s.drop (at_+1))+1 else 0:=by
      rw[hd];simp only[skip];rw[if_neg nb]
     have c47:(c==47)=decide (c.toNat=47):=by
      rw[tU];simp only[beq_iff_eq,decide_eq_true_eq];exact⟨λh=>by rw[h];rfl,λh=>by apply ke.1;rw[h];rfl⟩
     refine Wp.ite (λhb=>?_) λhb=>?_
     ·rw[c47]at hb;simp only[Bool.and_eq_true,decide_eq_true_eq,beq_iff_eq]at hb;rw[pG,if_pos hb];have:=LG (by omega);rw[show at_+(skip true (s.drop (at_+1))+1)=at_+1+skip true (s.drop (at_+1))from by omega];exact Wp.yu (F:=λn m1 m2=>yc n m1 m2 (some (p,0)) U') this
     ·rw[c47]at hb;have hn:¬(c.toNat=47/\(s.drop (at_+1)).head? =some 47):=by
       rintro⟨h1,h2⟩;simp[h1,h2]at hb
      rw[pG,if_neg hn];exact Wp.ret ⟨rfl,(rT h.h).symm⟩
  refine⟨first,?_⟩;by_cases h10:c.toNat=10
  ·have e:at_+skip true (s.drop at_)=at_+skip false (s.drop at_):=by
    rw[hd];simp only[skip];rw[if_pos h10,if_pos (.inr (.inr h10))]
   rw[e];refine GX ?_;simp only[an,h.fJ,h.s_,ag,aG,fe,hw,h.mj];refine Wp.pos (by simp;omega) (Wp.neg ?_ first);rw[bne,n10];simpa using h10
  ·have e:at_+skip true (s.drop at_)=at_+1+skip true (s.drop (at_+1)):=by
    rw[hd];simp only[skip];rw[if_neg h10];omega
   rw[e];exact LG h10
theorem Ur (hs:s.length<=4611686018427387904) (ha:at_<=s.length) (h:bz U p s at_ t tv deep):Fw ae Lb 103 [.ptr (some (p,0))] U (sn U p s (at_+skip false (s.drop at_)) t tv deep):=by
 refine Wf ?_;exact Wp.cD (F:=λn m=>re n m (some (p,0)) U) (Us hs (s.length-at_) (by omega) h).1
end
end Go.Front
/-escape:a byte within ahG. -/
namespace Go.Front
open Go.AM Go.Proofs
theorem agw (d:UInt8):((d.toNat:Int).toNat.toUInt8)=d:=by simp
theorem abM (d:UInt8):(fU d=none/\Lib.indexByte [110,116,48,92,39,34] d= -1)\/(∃b i,fU d=some b/\Lib.indexByte [110,116,48,92,39,34] d=((i:Nat):Int)/\ [(10:UInt8),9,0,92,39,34][i]? =some b):=by
 have inj (n:UInt8):d.toNat=n.toNat↔n=d:=⟨λh=>(ke.1 h).symm,λh=>by rw[h]⟩
 unfold fU;by_cases h1:d=110
 ·subst h1;exact .inr ⟨10,0,rfl,rfl,rfl⟩
 by_cases h2:d=116
 ·subst h2;exact .inr ⟨9,1,rfl,rfl,rfl⟩
 by_cases h3:d=48
 ·subst h3;exact .inr ⟨0,2,rfl,rfl,rfl⟩
 by_cases h4:d=92
 ·subst h4;exact .inr ⟨92,3,rfl,rfl,rfl⟩
 by_cases h5:d=39
 ·subst h5;exact .inr ⟨39,4,rfl,rfl,rfl⟩
 by_cases h6:d=34
 ·subst h6;exact .inr ⟨34,5,rfl,rfl,rfl⟩
 left;have n1:d.toNat≠110:=λh=>h1 ((inj 110).1 h).symm;have n2:d.toNat≠116:=λh=>h2 ((inj 116).1 h).symm;have n3:d.toNat≠48:=λh=>h3 ((inj 48).1 h).symm;have n4:d.toNat≠92:=λh=>h4 ((inj 92).1 h).symm;have n5:d.toNat≠39:=λh=>h5 ((inj 39).1 h).symm;have n6:d.toNat≠34:=λh=>h6 ((inj 34).1 h).symm;refine⟨by rw[if_neg n1,if_neg n2,if_neg n3,if_neg n4,if_neg n5,if_neg n6],?_⟩;simp[Lib.indexByte,cY h1,cY h2,cY h3,cY h4,cY h5,cY h6]
section
variable {U:St} {p:Nat} {s:By} {at_:Nat} {t:Tok} {tv:AV} {deep:Int}
def uG (U:St) (p:Nat) (s:By) (at_ q:Nat) (t:Tok) (tv:AV) (deep:Int):bw:=λr U'=>
 match escape q (s.drop at_)with
 |some (b,k)=>r=.ret (.tuple [.int .u8 b.toNat,.bool true])/\U'=U.set p (.cells (rc s (at_+k) t tv deep) (.rw (.box 100)))
 |none=>∃x n,r=.ret (.tuple [.int .u8 x,.bool false])/\U'=U.set p (.cells (rc s n t tv deep) (.rw (.box 100)))
theorem GN (hs:s.length<=4611686018427387904) (ha:at_<=s.length) (q:Nat) (h:bz U p s at_ t tv deep):Fw ae Lb 146 [.ptr (some (p,0)),.int .u8 q] U (uG U p s at_ q t tv deep):=by
 refine WS ?_;unfold uG;simp only[an,h.fJ,h.s_,ag,aG];refine Wp.ite (λh0=>?_) λh0=>?_
 ·have hd:s.drop at_=[]:=jB (by simp at h0;omega);rw[hd];exact Wp.ret ⟨0,at_,rfl,(rT h.h).symm⟩
 ·have al:at_<s.length:=by simp at h0;omega
  obtain⟨c,hc⟩:∃c,s[at_]? =some c:=⟨s[at_],bk al⟩
  have hd:=drop_at hc;have hw:=kP (at_:=at_) hs al;have fe (f:UInt8->Out):cP s (at_:Int) f=f c:=ib (by omega) (by simpa using hc);have jl:bz (U.set p (.cells (rc s (at_+1) t tv deep) (.rw (.box 100)))) p s (at_+1) t tv deep:=h.put;simp only[fe,hw,h.mj,jl.fJ,jl.s_,ag,aG];have adw:((c.toNat:Int)==(92:Int))=(c.toNat==92):=cL (b:=92);have n92:((c.toNat:Int) !=(92:Int))= !(c.toNat==92):=by rw[bne,adw]
  have nq:((c.toNat:Int) !=(q:Int))= !(c.toNat==q):=by rw[bne,cL]
  rw[n92,nq];refine Wp.ite (λh1=>?_) λh1=>?_
  ·have mI:c.toNat≠92:=by simpa using h1
   have e:escape q (s.drop at_)=if 32<=c.toNat/\c.toNat<=126/\c.toNat≠q then some (c,1)else none:=by rw[hd];simp only[escape];rw[if_neg mI]
   rw[e];refine Wp.ite (λh2=>Wp.ite (λh3=>?_) λh3=>?_) λh2=>?_
   ·have g2:32<=c.toNat:=by simp at h2;omega
    have g3:c.toNat<=126:=by simp at h3;omega
    by_cases h4:c.toNat=q
    ·rw[if_neg (by rintro⟨_,_,h⟩;exact h h4)];exact Wp.ret ⟨(c.toNat:Int),at_+1,by rw[h4];simp,rfl⟩
    ·rw[if_pos ⟨g2,g3,h4⟩];have:(!(c.toNat==q))=true:=by simpa using h4
     exact Wp.ret ⟨by rw[this],rfl⟩
   ·rw[if_neg (by rintro⟨_,h,_⟩;simp at h3;omega)];exact Wp.ret ⟨_,at_+1,rfl,rfl⟩
   ·rw[if_neg (by rintro⟨h,_,_⟩;simp at h2;omega)];exact Wp.ret ⟨_,at_+1,rfl,rfl⟩
  ·have mI:c.toNat=92:=by simpa using h1
   refine Wp.ite (λh2=>?_) λh2=>?_
   ·have Ed:s.drop (at_+1)=[]:=jB (by simp at h2;omega);have e:escape q (s.drop at_)=none:=by rw[hd,Ed];simp only[escape];rw[if_pos mI]
    rw[e];exact Wp.ret ⟨0,at_+1,rfl,rfl⟩
   ·have oH:at_+1<s.length:=by simp at h2;omega
    obtain⟨d,jk⟩:∃d,s[at_+1]? =some d:=⟨s[at_+1],bk oH⟩
    have Ed:=drop_at jk;have im:=kP (at_:=at_+1) hs oH;have aaX (f:UInt8->Out):cP s ((at_+1:Nat):Int) f=f d:=ib (by omega) (by simpa using jk);have e:escape q (s.drop at_)=(fU d).map λb=>(b,2):=by rw[hd,Ed];simp only[escape];rw[if_pos mI]
    rw[e];simp only[aaX];refine Wp.eE (Fw.jP (Q:=λr U'=>r=.ret (.int .i64 (Lib.indexByte [110,116,48,92,39,34] d))/\U'=U.set p (.cells (rc s (at_+1) t tv deep) (.rw (.box 100)))) (r:=.ret (.int .i64 (Lib.indexByte [110,116,48,92,39,34] d))) (U':=U.set p (.cells (rc s (at_+1) t tv deep) (.rw (.box 100)))) (by
     simp only[Lb,EP,agw]) ⟨rfl,rfl⟩) (λv U' hv=>?_) (λv U' hv=>by cases hv.1)
    obtain⟨hv,rfl⟩:=hv;cases hv;simp only[ag,jl.fJ,im,jl.mj,se];rcases abM d with⟨h3,h4⟩|⟨b,i,h3,h4,h5⟩
    ·rw[h3,h4];refine Wp.pos (by decide) ?_;exact Wp.ret ⟨0,at_+1+1,rfl,rfl⟩
    ·rw[h3,h4];refine Wp.neg (by simp) ?_;simp only[ib (s:=[10,9,0,92,39,34]) (i:=(i:Int)) (b:=b) (by omega) (by simpa using h5)];exact Wp.ret ⟨rfl,rfl⟩
end
end Go.Front
/-A builder of ahF own,in the heap. -/
namespace Go.Front
open Go.AM Go.Proofs
theorem si:dz ae 74=some false:=by kernel_rfl
theorem ac2:liesAt ae ae.depth 92 (2/ae.cellsOf 92) 0 92 1=true:=by kernel_rfl
structure Tl (n0:Nat) (U:St) (q:Nat) (a:Ad) (z:Nat):Prop where
 h:U[q]? =some (.cells [.ptr a,.slice none 0 (some 0) z] (.rw (.box 92)))
 ha:a=none\/a=some (q,0)
 hq:n0<=q
structure Tm (n0:Nat) (U:St) (q g:Nat) (l:By):Prop where
 h:U[q]? =some (.cells [.ptr (some (q,0)),.slice (some (g,0)) l.length none 1] (.rw (.box 92)))
 hg:U[g]? =some (.cells (bH l) (.rw (.row 5)))
 hq:n0<=q
 hn:n0<=g
 ne:g≠q
 l0:l≠[]
def Bu (n0:Nat) (U:St) (q:Nat) (l:By):Prop:=(l=[]/\∃a z,Tl n0 U q a z)\/∃g,Tm n0 U q g l
structure fG (n0:Nat) (U U':St):Prop where
 len:U.length<=U'.length
 same:∀x,x<n0->U'[x]? =U[x]?
theorem fG.refl (n0:Nat) (U:St):fG n0 U U:=⟨aA _,λ_ _=>rfl⟩
theorem fG.trans {n0:Nat} {U U1 U2:St} (h:fG n0 U U1) (g:fG n0 U1 U2):fG n0 U U2:=⟨ng h.len g.len,λx hx=>(g.same x hx).trans (h.same x hx)⟩
theorem fG.set {n0:Nat} {U:St} {b:Nat} {o:aq} (h:n0<=b):fG n0 U (U.set b o):=⟨by simp,λx hx=>aD (by omega)⟩
theorem fG.app {n0:Nat} {U τ:St} (h:n0<=U.length):fG n0 U (U++τ):=⟨by simp,λx hx=>bO (by omega)⟩
section
variable {U:St} {n0 q:Nat} {l:By}
theorem LA {a:Ad} {v:AV} (h:U[q]? =some (.cells [.ptr a,v] (.rw (.box 92)))) (ha:a=none\/a=some (q,0)):
  Fw ae Lb 132 [.ptr (some (q,0))] U λr U'=>r=.ret (.tuple [])/\U'=U.set q (.cells [.ptr (some (q,0)),v] (.rw (.box 92))):=by
 rcases ha with rfl|rfl
 ·refine Fw.jP (r:=.ret (.tuple [])) (U':=U.set q (.cells [.ptr (some (q,0)),v] (.rw (.box 92)))) ?_ ⟨rfl,rfl⟩;simp only[Lb,xd,h,ja];exact if_pos ac2
 ·refine Fw.jP (r:=.ret (.tuple [])) (U':=U) ?_ ⟨rfl,(rT h).symm⟩;simp only[Lb,xd,h,ja,if_true]
theorem afw {U:St} {b:Nat} {o o':aq} (h:U[b]? =some o):(U.set b o')[b]? =some o':=cM (bB h)
theorem Tb (hn:n0<=U.length) (hl:l.length<=1000000000) (h:Bu n0 U q l) (b:UInt8):Fw ae Lb 100 [.ptr (some (q,0)),.int .u8 b.toNat] U λr U'=>r=.ret .nilIface/\Bu n0 U' q (l++[b])/\fG n0 U U':=by
 refine Mo ?_;rcases h with⟨rfl,a,z,h⟩|⟨g,h⟩
 ·refine Wp.call (LA h.h h.ha) (λv U' hv=>?_) (λv U' hv=>by cases hv.1);obtain⟨_,rfl⟩:=hv;have h1:=afw (o':=.cells [.ptr (some (q,0)),.slice none 0 (some 0) z] (.rw (.box 92))) h.h;have dJ (f:AV->Out):aI ae 74 (U.set q (.cells [.ptr (some (q,0)),.slice none 0 (some 0) z] (.rw (.box 92)))) q (0+1) f=f (.slice none 0 (some 0) z):=
   cq (cs:=[.ptr (some (q,0)),.slice none 0 (some 0) z]) (by unfold aF;rw[h1]) si rfl
  simp only[an,dJ,aS];refine Wp.sj (by decide) (by decide) ?_;have hq:=bB h.h;refine Wp.st (cs:=[.ptr (some (q,0)),.slice none 0 (some 0) z]) (m:=.box 92) (by rw[bO (by simpa using hq)];exact h1) (by simp) ?_;refine Wp.ret ⟨rfl,.inr ⟨U.length,?_,?_,h.hq,hn,by omega,by simp⟩,?_⟩
  ·rw[cM (by simp;omega)];simp[eA]
  ·rw[aD (by omega),bQ (by simp)];simp[bH]
  ·refine((fG.set (b:=q) h.hq).trans (fG.app (by simpa using hn))).trans (fG.set h.hq)
 ·refine Wp.call (LA h.h (.inr rfl)) (λv U' hv=>?_) (λv U' hv=>by cases hv.1);obtain⟨_,rfl⟩:=hv;rw[rT h.h];have dJ (f:AV->Out):aI ae 74 U q (0+1) f=f (.slice (some (g,0)) l.length none 1):=
   cq (cs:=[.ptr (some (q,0)),.slice (some (g,0)) l.length none 1]) (by unfold aF;rw[h.h]) si rfl
  simp only[an,dJ,aS];refine Wp.sk (cs:=bH l) (m:=.row 5) h.hg (by simp[bH]) ⟨by omega,by omega⟩ ?_;have hq:=bB h.h;have e:((bH l).drop 0).take (l.length*1)++[AV.int .u8 (b.toNat:Int)]=bH (l++[b]):=by
   have:(bH l).length=l.length:=by simp[bH]
   rw[iy,lC,o6 (by omega)];simp[bH]
  rw[e];refine Wp.st (cs:=[.ptr (some (q,0)),.slice (some (g,0)) l.length none 1]) (m:=.box 92) (by rw[bO (by simpa using hq),aD h.ne];exact h.h) (by simp) ?_;refine Wp.ret ⟨rfl,.inr ⟨U.length,?_,?_,h.hq,hn,by omega,by simp⟩,?_⟩
  ·rw[cM (by simp;omega)];simp[eA]
  ·rw[aD (by omega),bQ (by simp)];simp[iq]
  ·exact((fG.set (b:=g) h.hn).trans (fG.app (by simpa using hn))).trans (fG.set h.hq)
theorem acX (h:Bu n0 U q l):Fw ae Lb 147 [.ptr (some (q,0))] U λr U'=>r=.ret (.int .i64 l.length)/\U'=U:=by
 refine WT ?_;rcases h with⟨rfl,a,z,h⟩|⟨g,h⟩
 ·have dJ (f:AV->Out):aI ae 74 U q (0+1) f=f (.slice none 0 (some 0) z):=cq (cs:=[.ptr a,.slice none 0 (some 0) z]) (by unfold aF;rw[h.h]) si rfl;simp only[an,dJ,aS];exact Wp.ret ⟨rfl,rfl⟩
 ·have dJ (f:AV->Out):aI ae 74 U q (0+1) f=f (.slice (some (g,0)) l.length none 1):=cq (cs:=[.ptr (some (q,0)),.slice (some (g,0)) l.length none 1]) (by unfold aF;rw[h.h]) si rfl;simp only[an,dJ,aS];exact Wp.ret ⟨rfl,rfl⟩
theorem SD (hl:l.length<=1000000000) (h:Bu n0 U q l):Fw ae Lb 34 [.ptr (some (q,0))] U λr U'=>r=.ret (.str l)/\fG n0 U U':=by
 rcases h with⟨rfl,a,z,h⟩|⟨g,h⟩
 ·refine Fw.jP (r:=.ret (.str [])) (U':=U) ?_ ⟨rfl,fG.refl _ _⟩;have hc:aF U q=some [.ptr a,.slice none 0 (some 0) z]:=by unfold aF;rw[h.h]
  simp only[Lb,xe,hc];rfl
 ·refine Fw.jP (r:=.ret (.str l)) (U':=U.set g (.cells (bH l) .ro)) ?_ ⟨rfl,fG.set h.hn⟩;have hc:aF U q=some [.ptr (some (q,0)),.slice (some (g,0)) l.length none 1]:=by unfold aF;rw[h.h]
  have h0:0<l.length:=List.length_pos_iff.2 h.l0;have hlen:(bH l).length=l.length:=by simp[bH]
  simp only[Lb,xe,hc,dI,oY,ja];rw[if_pos ⟨trivial,h0,by omega⟩,h.hg];simp only;rw[if_pos ⟨trivial,by omega⟩,iy,o6 (by omega),Lm]
end
end Go.Front
end
section
set_option maxRecDepth 100000
namespace Go.Front
open Go.AM Go.Proofs
structure Kp (n0 p:Nat) (U U':St):Prop where
 len:U.length<=U'.length
 same:∀x,x<n0->x≠p->U'[x]? =U[x]?
theorem Kp.trans {n0 p:Nat} {U U1 U2:St} (h:Kp n0 p U U1) (g:Kp n0 p U1 U2):Kp n0 p U U2:=⟨ng h.len g.len,λx hx hp=>(g.same x hx hp).trans (h.same x hx hp)⟩
theorem Kp.set {n0 p:Nat} {U:St} {o:aq}:Kp n0 p U (U.set p o):=⟨by simp,λx hx hp=>aD (cY hp)⟩
theorem fG.kp {n0 p:Nat} {U U':St} (h:fG n0 U U'):Kp n0 p U U':=⟨h.len,λx hx _=>h.same x hx⟩
theorem af5 {c:UInt8} {r:By} {n:Nat} (hc:c.toNat≠34):dd (c::r) n=(match escape 34 (c::r)with
  |none=>none
  |some (b,k)=>if b=0\/n=100 then none else(dd ((c::r).drop k) (n+1)).map λp=>(b::p.1,p.2+k)):=by
 cases r with
 |nil=>
  simp only[dd,escape];rw[if_neg hc];by_cases h1:c.toNat=92
  ·rw[if_pos h1]
  ·rw[if_neg h1];by_cases h2:32<=c.toNat/\c.toNat<=126
   ·rw[if_pos ⟨h2.1,h2.2,hc⟩];simp[dd]
   ·rw[if_neg (λh=>h2 ⟨h.1,h.2.1⟩)]
 |cons d r=>
  simp only[dd,escape];rw[if_neg hc];by_cases h1:c.toNat=92
  ·rw[if_pos h1,if_pos h1];cases fU d with
   |none=>rfl
   |some b=>simp
  ·rw[if_neg h1,if_neg h1];by_cases h2:32<=c.toNat/\c.toNat<=126
   ·have e3:(if 32<=c.toNat/\c.toNat<=126/\c.toNat≠34 then some (c,1)else none)=some (c,1):=if_pos ⟨h2.1,h2.2,hc⟩;have h0:¬c=0:=by intro e;subst e;simp at h2
    rw[e3,if_pos h2];simp[h0]
   ·have e3:(if 32<=c.toNat/\c.toNat<=126/\c.toNat≠34 then some (c,1)else none)=none:=if_neg (λh=>h2 ⟨h.1,h.2.1⟩);rw[e3,if_neg h2]
section
variable {U:St} {p n0 q from_:Nat} {s:By} {at_:Nat} {t:Tok} {tv:AV} {deep:Int}
def vL (n0 p from_:Nat) (s:By) (at_:Nat) (l:By) (t:Tok) (tv:AV) (deep:Int) (U:St):bw:=λr U'=>
 match dd (s.drop at_) l.length with
 |some (l',k)=>r=.ret (Tok.av ⟨4,from_,l++l',0⟩)/\bz U' p s (at_+k+1) t tv deep/\Kp n0 p U U'
 |none=>r=.pan (gO 13 from_)/\Kp n0 p U U'/\∃n,bz U' p s n t tv deep
theorem aeT (hs:s.length<=4611686018427387904) {l:By} (hl:l.length<=1000000000) (hp:p<n0) (h:bz U p s at_ t tv deep) (hb:Bu n0 U q l) (hc:s[at_]? =some 34):
  Wp (λr U'=>r=.ret (Tok.av ⟨4,from_,l,0⟩)/\bz U' p s (at_+1) t tv deep/\Kp n0 p U U')
   λu=>wk u.n (some (p,0)) from_ 34 q 0 0 0 [] 0 U:=by
 have al:at_<s.length:=(bl.1 hc).1;have fe (f:UInt8->Out):cP s (at_:Int) f=f 34:=ib (by omega) (by simpa using hc);have hw:=kP (at_:=at_) hs al;refine Mx ?_;simp only[an,h.fJ,h.s_,ag,aG,fe];refine Wp.neg (by simp;omega) (Wp.neg (by decide) ?_);refine MA ?_;simp only[an,h.fJ,ag,hw,h.mj];refine Wp.pos (by decide) ?_;have jl:bz (U.set p (.cells (rc s (at_+1) t tv deep) (.rw (.box 100)))) p s (at_+1) t tv deep:=h.put;have bR:Bu n0 (U.set p (.cells (rc s (at_+1) t tv deep) (.rw (.box 100)))) q l:=by
  rcases hb with⟨rfl,a,z,hb⟩|⟨g,hb⟩
  ·have:=hb.hq;exact .inl ⟨rfl,a,z,by rw[aD (by omega)];exact hb.h,hb.ha,hb.hq⟩
  ·have:=hb.hq;have:=hb.hn;exact .inr ⟨g,by rw[aD (by omega)];exact hb.h,by rw[aD (by omega)];exact hb.hg,hb.hq,hb.hn,hb.ne,hb.l0⟩
 refine Wp.call (SD hl bR) (λv U' hv=>?_) (λv U' hv=>by cases hv.1);obtain⟨hv,ru⟩:=hv;cases hv;simp only[aG];exact Wp.ret ⟨rfl,⟨by rw[ru.same p hp];exact jl.h⟩,Kp.set.trans ru.kp⟩
theorem Bu.low {l:By} {U':St} (h:Bu n0 U q l) (hg:∀x,n0<=x->U'[x]? =U[x]?):Bu n0 U' q l:=by
 rcases h with⟨rfl,a,z,h⟩|⟨g,h⟩
 ·exact .inl ⟨rfl,a,z,by rw[hg _ h.hq];exact h.h,h.ha,h.hq⟩
 ·exact .inr ⟨g,by rw[hg _ h.hq];exact h.h,by rw[hg _ h.hn];exact h.hg,h.hq,h.hn,h.ne,h.l0⟩
theorem Ml {q:Nat} {l:By} {b:UInt8} {k:Nat} (h:escape q l=some (b,k)):1<=k/\k<=l.length:=by
 cases l with
 |nil=>cases h
 |cons c r=>
  simp only[escape]at h;split at h
  ·cases r with
   |nil=>cases h
   |cons d r=>
    simp only at h;cases he:fU d with
    |none=>rw[he]at h;cases h
    |some x=>rw[he]at h;simp at h;obtain⟨_,rfl⟩:=h;simp
  ·split at h
   ·simp at h;obtain⟨_,rfl⟩:=h;simp
   ·cases h
theorem af6 (hs:s.length<=1000000000) (hp:p<n0):∀(k:Nat) {U:St} {at_:Nat} {l:By},s.length-at_<=k->at_<=s.length->l.length<=at_->n0<=U.length->bz U p s at_ t tv deep->Bu n0 U q l->
  Wp (vL n0 p from_ s at_ l t tv deep U) λu=>sI u.n u.m1 (some (p,0)) from_ 34 q 0 0 0 [] 0 U:=by
 intro k
 induction k with
 |zero=>
  intro U at_ l hk ha Eh hn h hb;have he:at_=s.length:=by omega
  have hd:s.drop at_=[]:=jB (by omega);refine G2 ?_;simp only[an,h.fJ,h.s_,ag,aG];refine Wp.neg (by decide) (Wp.pos (by simp;omega) ?_);refine G0 ?_;refine Wp.call (GN (q:=34) (by omega) ha h) (λv U' hv=>?_) (λv U' hv=>?_)
  ·unfold uG at hv;rw[hd]at hv;simp only[escape]at hv;obtain⟨x,n,hv,rfl⟩:=hv;cases hv;simp only[eY,bc,ag,bp,aZ];refine Wp.pos rfl ?_;refine G1 ?_;refine Wp.call (Ck 13 from_) (λv U' hv=>by cases hv.1) (λv U' hv=>?_);obtain⟨hv,rfl⟩:=hv;cases hv;unfold vL;rw[hd];exact⟨rfl,Kp.set,_,h.put⟩
  ·unfold uG at hv;rw[hd]at hv;simp only[escape]at hv;obtain⟨x,n,hv,_⟩:=hv;cases hv
 |succ k ih=>
  intro U at_ l hk ha Eh hn h hb;by_cases he:at_=s.length
  ·exact ih (by omega) ha Eh hn h hb
  have al:at_<s.length:=by omega
  obtain⟨c,hc⟩:∃c,s[at_]? =some c:=⟨s[at_],bk al⟩
  have hd:=drop_at hc;have fe (f:UInt8->Out):cP s (at_:Int) f=f c:=ib (by omega) (by simpa using hc);have n34:((c.toNat:Int)==(34:Int))=(c.toNat==34):=cL (b:=34);refine G2 ?_;simp only[an,h.fJ,h.s_,ag,aG,fe];refine Wp.neg (by decide) (Wp.neg (by simp;omega) ?_);rw[bne,n34];refine Wp.ite (λh1=>?_) λh1=>?_
  ·have h34:c.toNat≠34:=by simpa using h1
   have mb:=af5 (c:=c) (r:=s.drop (at_+1)) (n:=l.length) h34;rw[<-hd]at mb;refine G0 ?_;refine Wp.call (GN (q:=34) (by omega) ha h) (λv U' hv=>?_) (λv U' hv=>?_)
   ·unfold uG at hv;have bad {x:Int} {U':St} (hk:Kp n0 p U U') (hr:∃n,bz U' p s n t tv deep) (hn:dd (s.drop at_) l.length=none):Wp (vL n0 p from_ s at_ l t tv deep U) λu=>C8 u.n u.m1 (some (p,0)) from_ 34 q 0 x 0 0 [] 0 U':=by
     refine G1 ?_;refine Wp.call (Ck 13 from_) (λv U' hv=>by cases hv.1) (λv U' hv=>?_);obtain⟨hv,rfl⟩:=hv;cases hv;unfold vL;rw[hn];exact⟨rfl,hk,hr⟩
    split at hv
    ·rename_i b k2 sS;rw[sS]at mb;obtain⟨hv,rfl⟩:=hv;cases hv;simp only[eY,bc,ag,bp,aZ];refine Wp.neg rfl (Wp.pos (by decide) ?_);have n0':((b.toNat:Int)==(0:Int))=(b.toNat==0):=cL (b:=0);rw[n0'];have jl:bz (U.set p (.cells (rc s (at_+k2) t tv deep) (.rw (.box 100)))) p s (at_+k2) t tv deep:=h.put;have bR:Bu n0 (U.set p (.cells (rc s (at_+k2) t tv deep) (.rw (.box 100)))) q l:=hb.low λx hx=>aD (by omega);refine Wp.ite (λh2=>?_) λh2=>?_
     ·have pn:b=0:=ke.1 (by simpa using h2);exact bad Kp.set ⟨_,jl⟩ (by rw[mb];simp[pn])
     ·have pn:¬b=0:=by intro e;subst e;simp at h2
      have gi:=Ml sS;have dj:at_+k2<=s.length:=by have:=gi.2;simp at this;omega
      refine Wp.call (acX bR) (λv U' hv=>?_) (λv U' hv=>by cases hv.1);obtain⟨hv,rfl⟩:=hv;cases hv;simp only[ag];have n100:((l.length:Int)==(100:Int))=(l.length==100):=cL (b:=100);rw[n100];refine Wu ?_;refine Wp.ite (λh3=>?_) λh3=>?_
      ·refine Wp.call (Ck 13 from_) (λv U' hv=>by cases hv.1) (λv U' hv=>?_);obtain⟨hv,rfl⟩:=hv;cases hv;have h100:l.length=100:=by simpa using h3
       unfold vL;rw[mb];simp only[h100,or_true,if_true];exact⟨trivial,Kp.set,_,jl⟩
      ·have h100:¬l.length=100:=by simpa using h3
       refine Wp.call (Tb (by simpa using hn) (by omega) bR b) (λv U' hv=>?_) (λv U' hv=>by cases hv.1);obtain⟨_,dG,ru⟩:=hv;refine Wp.neg (by decide) ?_;have Im:bz U' p s (at_+k2) t tv deep:=⟨by rw[ru.same p hp];exact jl.h⟩
       refine(ih (U:=U') (at_:=at_+k2) (l:=l++[b]) (by omega) dj (by simp;omega) (by have:=ru.len;simp at this;omega) Im dG).mono λr U2 hq=>?_;unfold vL at hq|-;rw[mb];simp only[pn,h100,or_self,if_false,oX];rw[az,p9]at hq;cases Bj:dd (s.drop (at_+k2)) (l.length+1)with
       |none=>
        rw[Bj]at hq;exact⟨hq.1,(Kp.set.trans ru.kp).trans hq.2.1,hq.2.2⟩
       |some pr=>
        obtain⟨l',k'⟩:=pr;rw[Bj]at hq;simp only[je]at hq|-;obtain⟨q1,q2,q3⟩:=hq;refine⟨by rw[q1];simp,?_,(Kp.set.trans ru.kp).trans q3⟩;have e:at_+(k'+k2)+1=at_+k2+k'+1:=by omega
        rw[e];exact q2
    ·rename_i sS;rw[sS]at mb;obtain⟨x,n,hv,rfl⟩:=hv;cases hv;simp only[eY,bc,ag,bp,aZ];exact Wp.pos rfl (bad Kp.set ⟨_,h.put⟩ mb)
   ·unfold uG at hv;split at hv
    ·cases hv.1
    ·obtain⟨x,n,hv,_⟩:=hv;cases hv
  ·have h34:c=34:=ke.1 (by simpa using h1);subst h34;refine(aeT (by omega) (by omega) hp h hb hc).mono λr U' hq=>?_;unfold vL;rw[hd];have:dd (34::s.drop (at_+1)) l.length=some ([],0):=by cases s.drop (at_+1)<;>simp[dd]
   rw[this];simpa using hq
def zG (n0 p:Nat) (s:By) (from_:Nat) (o:Option (Tok×Nat)) (t:Tok) (tv:AV) (deep:Int) (U:St):bw:=λr U'=>
 match o with
 |some (x,at2)=>r=.ret x.av/\bz U' p s at2 t tv deep/\Kp n0 p U U'
 |none=>r=.pan (gO 13 from_)/\Kp n0 p U U'/\∃n,bz U' p s n t tv deep
def Cg (s:By) (from_:Nat):Option (Tok×Nat):=(dd (s.drop (from_+1)) 0).map λx=>(⟨4,from_,x.1,0⟩,from_+x.2+2)
def sB (s:By) (from_:Nat):Option (Tok×Nat):=
 match escape 39 (s.drop (from_+1))with
 |some (b,k)=>if s[from_+1+k]? =some 39 then some (⟨3,from_,[],(b.toNat:Int)⟩,from_+k+2)else none
 |none=>none
theorem aeX (hs:s.length<=1000000000) (h:bz U p s at_ t tv deep) (hc:s[from_]? =some 34):
  Fw ae Lb 110 [.ptr (some (p,0)),.int .i64 from_] U (zG U.length p s from_ (Cg s from_) t tv deep U):=by
 have al:from_<s.length:=(bl.1 hc).1;have fe (f:UInt8->Out):cP s (from_:Int) f=f 34:=ib (by omega) (by simpa using hc);have hw:=kP (at_:=from_) (s:=s) (by omega) al;refine Mw ?_;simp only[an,h.s_,aG,fe,hw,h.mj,iA];have jl:bz (U.set p (.cells (rc s (from_+1) t tv deep) (.rw (.box 100)))) p s (from_+1) t tv deep:=h.put;have BF:bz (U.set p (.cells (rc s (from_+1) t tv deep) (.rw (.box 100)))++[aq.cells [.ptr none,.slice none 0 (some 0) 0] (.rw (.box 92))]) p s (from_+1) t tv deep:=
  ⟨by rw[bO (by simpa using h.lt)];exact jl.h⟩
 have hb:Bu U.length (U.set p (.cells (rc s (from_+1) t tv deep) (.rw (.box 100)))++[aq.cells [.ptr none,.slice none 0 (some 0) 0] (.rw (.box 92))]) U.length []:=
  .inl ⟨rfl,none,0,by rw[bQ (by simp)];simp,.inl rfl,aA _⟩
 refine(Wp.cD (F:=λn m=>sI n m (some (p,0)) from_ 34 U.length 0 0 0 [] 0 _) (af6 (from_:=from_) hs h.lt _ (aA _) (by omega) (by simp) (by simp) BF hb)).mono λr U' hq=>?_;have hk:Kp U.length p U (U.set p (.cells (rc s (from_+1) t tv deep) (.rw (.box 100)))++[aq.cells [.ptr none,.slice none 0 (some 0) 0] (.rw (.box 92))]):=
  Kp.set.trans (fG.app (by simp)).kp
 unfold vL at hq;unfold zG Cg;simp only[fw]at hq;cases Bj:dd (s.drop (from_+1)) 0 with
 |none=>rw[Bj]at hq;exact⟨hq.1,hk.trans hq.2.1,hq.2.2⟩
 |some pr=>
  obtain⟨l',k'⟩:=pr;rw[Bj]at hq;simp only[je,fx]at hq|-;refine⟨hq.1,?_,hk.trans hq.2.2⟩;rw[show from_+k'+2=from_+1+k'+1 from by omega];exact hq.2.1
theorem aeW (hs:s.length<=1000000000) (h:bz U p s at_ t tv deep) (hc:s[from_]? =some 39):
  Fw ae Lb 110 [.ptr (some (p,0)),.int .i64 from_] U (zG U.length p s from_ (sB s from_) t tv deep U):=by
 have al:from_<s.length:=(bl.1 hc).1;have fe (f:UInt8->Out):cP s (from_:Int) f=f 39:=ib (by omega) (by simpa using hc);have hw:=kP (at_:=from_) (s:=s) (by omega) al;refine Mw ?_;simp only[an,h.s_,aG,fe,hw,h.mj,iA];have jl:bz (U.set p (.cells (rc s (from_+1) t tv deep) (.rw (.box 100)))) p s (from_+1) t tv deep:=h.put;have BF:bz (U.set p (.cells (rc s (from_+1) t tv deep) (.rw (.box 100)))++[aq.cells [.ptr none,.slice none 0 (some 0) 0] (.rw (.box 92))]) p s (from_+1) t tv deep:=
  ⟨by rw[bO (by simpa using h.lt)];exact jl.h⟩
 have hb:Bu U.length (U.set p (.cells (rc s (from_+1) t tv deep) (.rw (.box 100)))++[aq.cells [.ptr none,.slice none 0 (some 0) 0] (.rw (.box 92))]) U.length []:=
  .inl ⟨rfl,none,0,by rw[bQ (by simp)];simp,.inl rfl,aA _⟩
 have hk:Kp U.length p U (U.set p (.cells (rc s (from_+1) t tv deep) (.rw (.box 100)))++[aq.cells [.ptr none,.slice none 0 (some 0) 0] (.rw (.box 92))]):=
  Kp.set.trans (fG.app (by simp)).kp
 have hn:U.length<=(U.set p (.cells (rc s (from_+1) t tv deep) (.rw (.box 100)))++[aq.cells [.ptr none,.slice none 0 (some 0) 0] (.rw (.box 92))]).length:=by simp
 have hp:=h.lt;refine Wp.cD (F:=λn m=>sI n m (some (p,0)) from_ 39 U.length 0 0 0 [] 0 _) ?_;generalize PY:U.length=n0 at*;generalize iD:U.set p (.cells (rc s (from_+1) t tv deep) (.rw (.box 100)))++[aq.cells [.ptr none,.slice none 0 (some 0) 0] (.rw (.box 92))]=U1 at*;refine G2 ?_;refine Wp.pos (by decide) ?_;refine G0 ?_;have bad {U':St} {F:Fu->AV->St->Out} (gx:Kp n0 p U U') (hr:∃n,bz U' p s n t tv deep) (hn:sB s from_=none):Wp (zG n0 p s from_ (sB s from_) t tv deep U) λu=>cW ae Lb u.n 108 [.int .i64 (13:Int),.int .i64 from_] U' (F u):=by
  refine Wp.call (Ck 13 from_) (λv U' hv=>by cases hv.1) (λv U' hv=>?_);obtain⟨hv,rfl⟩:=hv;cases hv;rw[hn];exact⟨rfl,gx,hr⟩
 refine Wp.call (GN (q:=39) (by omega) (by omega) BF) (λv U' hv=>?_) (λv U' hv=>?_)
 ·unfold uG at hv;split at hv
  ·rename_i b k2 sS;obtain⟨hv,rfl⟩:=hv;cases hv;simp only[eY,bc,ag,bp,aZ];have gi:=Ml sS;have dj:from_+1+k2<=s.length:=by have:=gi.2;simp at this;omega
   refine Wp.neg rfl (Wp.neg (by decide) ?_);have Im:bz (U1.set p (.cells (rc s (from_+1+k2) t tv deep) (.rw (.box 100)))) p s (from_+1+k2) t tv deep:=BF.put;have dG:Bu n0 (U1.set p (.cells (rc s (from_+1+k2) t tv deep) (.rw (.box 100)))) n0 []:=hb.low λx hx=>aD (by omega);refine Wv ?_;refine Wp.call (Tb (by simpa using hn) (by simp) dG b) (λv U' hv=>?_) (λv U' hv=>by cases hv.1);obtain⟨_,lZ,ru⟩:=hv;refine Wp.pos (by decide) ?_;have wP:bz U' p s (from_+1+k2) t tv deep:=⟨by rw[ru.same p hp];exact Im.h⟩
   have Bw:Kp n0 p U U':=(hk.trans Kp.set).trans ru.kp;have HN:sB s from_=if s[from_+1+k2]? =some 39 then some (⟨3,from_,[],(b.toNat:Int)⟩,from_+k2+2)else none:=by unfold sB;rw[sS]
   refine Mx ?_;simp only[an,wP.fJ,wP.s_,ag,aG];refine Wp.ite (λh0=>?_) λh0=>?_
   ·refine bad Bw ⟨_,wP⟩ ?_;rw[HN,fP (by simp at h0;omega)];simp
   ·have PL:from_+1+k2<s.length:=by simp at h0;omega
    obtain⟨c,Bl⟩:∃c,s[from_+1+k2]? =some c:=⟨s[from_+1+k2],bk PL⟩
    have aaY (f:UInt8->Out):cP s ((from_+1+k2:Nat):Int) f=f c:=ib (by omega) (by rw[fa];exact Bl);have hw3:=kP (at_:=from_+1+k2) (s:=s) (by omega) PL;simp only[aaY];have n39:((c.toNat:Int)==(39:Int))=(c.toNat==39):=cL (b:=39);rw[bne,n39];refine Wp.ite (λh1=>?_) λh1=>?_
    ·refine bad Bw ⟨_,wP⟩ ?_;rw[HN,Bl];rw[if_neg];intro e;cases e;simp at h1
    ·have aaZ:c=39:=ke.1 (by simpa using h1);subst aaZ;rw[HN,Bl,if_pos rfl];refine MA ?_;simp only[an,wP.fJ,ag,hw3,wP.mj];refine Wp.neg (by decide) ?_;have gP:Bu n0 (U'.set p (.cells (rc s (from_+1+k2+1) t tv deep) (.rw (.box 100)))) n0 ([]++[b]):=lZ.low λx hx=>aD (by omega);refine Wp.call (SD (by simp) gP) (λv U2 hv=>?_) (λv U2 hv=>by cases hv.1);obtain⟨hv,PJ⟩:=hv;cases hv;simp only[aG,fx];simp only[ib (s:=[b]) (i:=0) (b:=b) (by omega) rfl];have hwb:ah .i64 (b.toNat:Int)=(b.toNat:Int):=wrap64 (by omega) (by have:=UInt8.toNat_lt b;omega);rw[hwb];refine Wp.ret ⟨rfl,?_,(Bw.trans Kp.set).trans PJ.kp⟩;rw[show from_+k2+2=from_+1+k2+1 from by omega];exact⟨by rw[PJ.same p hp];exact(wP.put (at2:=from_+1+k2+1)).h⟩
  ·rename_i sS;obtain⟨x,n,hv,rfl⟩:=hv;cases hv;simp only[eY,bc,ag,bp,aZ];refine Wp.pos rfl ?_;refine G1 ?_;exact bad (hk.trans Kp.set) ⟨_,BF.put⟩ (by unfold sB;rw[sS])
 ·unfold uG at hv;split at hv
  ·cases hv.1
  ·obtain⟨x,n,hv,_⟩:=hv;cases hv
end
end Go.Front
end
section
set_option maxRecDepth 100000
namespace Go.Front
open Go.AM Go.Proofs
theorem Mg:cu ae 100 147 .nilIface .nilIface=some true:=by kernel_rfl
theorem Me {t:TypeId} {v:AV}:cu ae 100 147 (.iface t v) .nilIface=some false:=by kernel_rfl
theorem Mc:ra ae 147=true:=by kernel_rfl
theorem vo {U:St} {b i:Nat} {l:List (By)} {x:By} (hc:aF U b=some (l.map .str)) (h:l[i]? =some x) (f:AV->Out):aI ae 9 U b (0+(((i:Nat):Int).toNat*1)) f=f (.str x):=
 cq hc kX (by simp[h])
theorem drop_cons {α:Type} {l:List α} {i:Nat} {x:α} (h:l[i]? =some x):l.drop i=x::l.drop (i+1):=by
 obtain⟨hl,he⟩:=bl.1 h;rw[<-he];exact xP hl
section
variable {U:St} {p:Nat} {s:By} {at_:Nat} {t:Tok} {tv:AV} {deep:Int}
theorem TL {b:Nat} {l:List (By)} {c:On} (hl:l.length<=1000000000) (hc:aF U b=some (l.map .str)) (x:By):
  Fw ae Lb 106 [.slice (some (b,0)) l.length c 1,.str x] U λr U'=>r=.ret (.bool (l.contains x))/\U'=U:=by
 refine Wl ?_;have key:∀(k i:Nat),i+k=l.length->Wp (λr U'=>r=.ret (.bool ((l.drop i).contains x))/\U'=U) λu=>Au u.n u.m1 x (some (b,0)) l.length c 1 l.length i U:=by
  intro k
  induction k with
  |zero=>
   intro i hi;refine Ms ?_;refine Wp.neg (by simp;omega) (Wm ?_);refine Wp.ret ⟨?_,rfl⟩;rw[jB (by omega)];rfl
  |succ k ih=>
   intro i hi;obtain⟨y,hy⟩:∃y,l[i]? =some y:=⟨l[i],bk (by omega)⟩
   have hw:ah .i64 ((i:Int)+1)=((i+1:Nat):Int):=by rw[wrap64 (by omega) (by omega)];omega
   refine Ms ?_;simp only[an,aU,vo hc hy,aG,hw];refine Wp.pos (by simp;omega) ?_;simp only[bm (show(0:Int)<=(i:Int)/\(i:Int)<(l.length:Int)from⟨by omega,by omega⟩)];rw[drop_cons hy];refine Wp.ite (λh=>?_) λh=>?_
   ·refine Wp.ret ⟨?_,rfl⟩;have:y=x:=by simpa using h
    subst this;simp
   ·refine(ih (i+1) (by omega)).mono λr U' hq=>⟨?_,hq.2⟩
    rw[hq.1];have:¬y=x:=by simpa using h
    simp[List.contains_cons,cY this]
 exact Wp.cD (F:=λn m=>Au n m x (some (b,0)) l.length c 1 l.length 0 U) (key l.length 0 (by omega))
theorem DV (hk:Kn U) {x:By} {l:List (By)} (hx:x.length<4294967281/\∀b∈x,b.toNat<128) (hl:p8 x=l):
  Fw ae Lb 143 [.str x] U λr U'=>r=.ret (.slice (some (U.length,0)) l.length (some l.length) 1)/\U'=U++[.cells (l.map .str) .ro]:=by
 subst hl;refine Fw.jP (r:=.ret (.slice (some (U.length,0)) (p8 x).length (some (p8 x).length) 1)) (U':=U++[.cells ((p8 x).map .str) .ro]) ?_ ⟨rfl,rfl⟩;simp only[Lb,EN];rw[if_pos ⟨hk,hx⟩]
theorem agR (hk:Kn U):Fw ae Lb 107 [] U λr U'=>r=.ret (.slice (some (U.length,0)) words.length (some words.length) 1)/\U'=U++[.cells (words.map .str) .ro]:=by
 refine Wn ?_;refine Wp.call (DV hk (l:=words) (by decide) (by kernel_rfl)) (λv U' hv=>?_) λv U' hv=>by cases hv.1
 obtain⟨hv,rfl⟩:=hv;cases hv;simp only[aS];exact Wp.ret ⟨rfl,rfl⟩
theorem adn (hk:Kn U):Fw ae Lb 111 [] U λr U'=>r=.ret (.slice (some (U.length,0)) marks.length (some marks.length) 1)/\U'=U++[.cells (marks.map .str) .ro]:=by
 refine Ww ?_;refine Wp.call (DV hk (l:=marks) (by decide) (by kernel_rfl)) (λv U' hv=>?_) λv U' hv=>by cases hv.1
 obtain⟨hv,rfl⟩:=hv;cases hv;simp only[aS];exact Wp.ret ⟨rfl,rfl⟩
theorem acY {Q:bw} {i2 i3 i4 i6:Int} {s5:By} (hs:s.length<=1000000000):∀(k:Nat) {U:St} {a:Nat},a+k=s.length->bz U p s a t tv deep->
  Wp Q (λu=>DL u.n (some (p,0)) i2 i3 i4 s5 i6 (U.set p (.cells (rc s (a+((s.drop a).takeWhile λc=>dK c||isDigit c).length) t tv deep) (.rw (.box 100)))))->
  Wp Q λu=>wz u.n u.m1 (some (p,0)) i2 i3 i4 s5 i6 U:=by
 intro k
 induction k with
 |zero=>
  intro U a hk h hj;rw[jB (by omega),List.takeWhile_nil,fw,mw,rT h.h]at hj;refine Oo ?_;simp only[an,h.fJ,h.s_,ag,aG];exact Wp.neg (by simp;omega) hj
 |succ k ih=>
  intro U a hk h hj;have al:a<s.length:=by omega
  obtain⟨c,hc⟩:∃c,s[a]? =some c:=⟨s[a],bk al⟩
  have hd:=drop_at hc;have fe (f:UInt8->Out):cP s (a:Int) f=f c:=ib (by omega) (by simpa using hc);have hw:=kP (at_:=a) (s:=s) (by omega) al;have jl:bz (U.set p (.cells (rc s (a+1) t tv deep) (.rw (.box 100)))) p s (a+1) t tv deep:=h.put;refine Oo ?_;simp only[an,h.fJ,h.s_,ag,aG,fe,hw,h.mj];refine Wp.pos (by simp;omega) ?_;have go (hy:(dK c||isDigit c)=true):Wp Q λu=>wz u.n u.m1 (some (p,0)) i2 i3 i4 s5 i6 (U.set p (.cells (rc s (a+1) t tv deep) (.rw (.box 100)))):=by
   refine ih (by omega) jl ?_;rw[se];rw[hd,ug,if_pos hy,cr]at hj;rw[show a+1+((s.drop (a+1)).takeWhile λc=>dK c||isDigit c).length=a+(((s.drop (a+1)).takeWhile λc=>dK c||isDigit c).length+1)from by omega];exact hj
  refine Wp.eE (QK c) (λv U' hv=>?_) (λv U' hv=>by cases hv.1);obtain⟨hv,rfl⟩:=hv;cases hv;simp only[bp,h.fJ,h.s_,ag,aG,fe,hw,h.mj];refine Wp.ite (λh1=>go (by rw[h1];rfl)) λh1=>?_;refine Wp.eE (GB c) (λv U' hv=>?_) (λv U' hv=>by cases hv.1);obtain⟨hv,rfl⟩:=hv;cases hv;simp only[bp,h.fJ,h.s_,ag,aG,fe,hw,h.mj];refine Wp.ite (λh2=>go (by rw[h1,h2];rfl)) λh2=>?_;rw[hd,ug,if_neg (by rw[h1,h2];simp),fw,mw,rT h.h]at hj;exact hj
theorem VK {Q:bw} {i2 i3 i4 i5 i7:Int} {s6:By} (hs:s.length<=1000000000):∀(k:Nat) {U:St} {a:Nat},a+k=s.length->bz U p s a t tv deep->
  Wp Q (λu=>DM u.n (some (p,0)) i2 i3 i4 i5 s6 i7 (U.set p (.cells (rc s (a+((s.drop a).takeWhile isDigit).length) t tv deep) (.rw (.box 100)))))->
  Wp Q λu=>A9 u.n u.m1 (some (p,0)) i2 i3 i4 i5 s6 i7 U:=by
 intro k
 induction k with
 |zero=>
  intro U a hk h hj;rw[jB (by omega),List.takeWhile_nil,fw,mw,rT h.h]at hj;refine Oq ?_;simp only[an,h.fJ,h.s_,ag,aG];exact Wp.neg (by simp;omega) hj
 |succ k ih=>
  intro U a hk h hj;have al:a<s.length:=by omega
  obtain⟨c,hc⟩:∃c,s[a]? =some c:=⟨s[a],bk al⟩
  have hd:=drop_at hc;have fe (f:UInt8->Out):cP s (a:Int) f=f c:=ib (by omega) (by simpa using hc);have hw:=kP (at_:=a) (s:=s) (by omega) al;have jl:bz (U.set p (.cells (rc s (a+1) t tv deep) (.rw (.box 100)))) p s (a+1) t tv deep:=h.put;refine Oq ?_;simp only[an,h.fJ,h.s_,ag,aG,fe,hw,h.mj];refine Wp.pos (by simp;omega) ?_;refine Wp.eE (GB c) (λv U' hv=>?_) (λv U' hv=>by cases hv.1);obtain⟨hv,rfl⟩:=hv;cases hv;simp only[bp,h.fJ,h.s_,ag,aG,fe,hw,h.mj];refine Wp.ite (λh2=>?_) λh2=>?_
  ·refine ih (by omega) jl ?_;rw[se];rw[hd,ug,if_pos h2,cr]at hj;rw[show a+1+((s.drop (a+1)).takeWhile isDigit).length=a+(((s.drop (a+1)).takeWhile isDigit).length+1)from by omega];exact hj
  ·rw[hd,ug,if_neg (by rw[h2];simp),fw,mw,rT h.h]at hj;exact hj
def Aj (U:St) (p:Nat) (s:By) (t:Tok) (tv:AV) (deep:Int) (o:Nat×Option (Tok×Nat)):bw:=λr U'=>
 match o with
 |(_,some (x,q))=>r=.ret x.av/\bz U' p s q t tv deep/\Kp U.length p U U'
 |(f,none)=>r=.pan (gO 13 f)/\Kp U.length p U U'/\∃n,bz U' p s n t tv deep
theorem _root_.Go.Proofs.Kn.kp {U U':St} (h:Kn U) (hk:Kp U.length p U U') (hp:4<=p):Kn U':=by
 have hl:=h.len;refine⟨?_,?_,?_,?_⟩<;>rw[hk.same _ (by omega) (by omega)]
 ·exact h.asc
 ·exact h.pow
 ·exact h.syn
 ·exact h.rng
theorem bz.app {τ:St} (h:bz U p s at_ t tv deep):bz (U++τ) p s at_ t tv deep:=⟨by rw[bO h.lt];exact h.h⟩
theorem Kp.app {n0:Nat} {U τ:St} (h:n0<=U.length):Kp n0 p U (U++τ):=(fG.app h).kp
theorem xJ {Q:bw} {e:Int} {a:Nat} {F:Fu->AV->St->Out} (h:Q (.pan (gO e a)) U):Wp Q λu=>cW ae Lb u.n 108 [.int .i64 e,.int .i64 a] U (F u):=by
 refine Wp.call (Ck e a) (λv U' hv=>by cases hv.1) (λv U' hv=>?_);obtain⟨hv,rfl⟩:=hv;cases hv;exact h
theorem SK {f:UInt8->Bool} (from_:Nat):(s.take (from_+((s.drop from_).takeWhile f).length)).drop from_=(s.drop from_).takeWhile f:=by
 rw[List.drop_take,Nat.add_sub_cancel_left];exact(List.prefix_iff_eq_take.1 (List.takeWhile_prefix f)).symm
theorem SW {f:UInt8->Bool} {from_:Nat} (h:from_<=s.length):from_+((s.drop from_).takeWhile f).length<=s.length:=by
 have:=(List.takeWhile_prefix f (l:=s.drop from_)).length_le;rw[mr]at this;omega
theorem adl {U0:St} {from_ b:Nat} {i9 i10 i12:Int} {s11:By} {c:On} (hs:s.length<=1000000000) (hf:from_<=s.length) (h:bz U p s from_ t tv deep) (hc:aF U b=some (marks.map .str)) (h0:Kp U0.length p U0 U)
  (ho:∀o,one (s.drop from_)=o->o=(marks.find? λm=>m.isPrefixOf (s.drop from_)).map λm=>(5,m,0,m.length)):∀(k i:Nat),i+k=marks.length->(∀m∈marks.take i,m.isPrefixOf (s.drop from_)=false)->
  Wp (Aj U0 p s t tv deep (from_,(one (s.drop from_)).map λx=>(⟨x.1,from_,x.2.1,x.2.2.1⟩,from_+x.2.2.2))) λu=>Ba u.n u.m1 (some (p,0)) from_ (some (b,0)) marks.length c 1 marks.length i i9 i10 s11 i12 U:=by
 intro k
 induction k with
 |zero=>
  intro i hi dW;refine Ot ?_;refine Wp.neg (by simp;omega) (ZS ?_);refine xJ ?_;have yJ:i=marks.length:=by omega
  rw[yJ,j8]at dW;rw[ho _ rfl,List.find?_eq_none.2 λm hm=>by rw[dW m hm];simp];exact⟨rfl,h0,_,h⟩
 |succ k ih=>
  intro i hi dW;obtain⟨m,hm⟩:∃m,marks[i]? =some m:=⟨marks[i],bk (by omega)⟩
  have hw:ah .i64 ((i:Int)+1)=((i+1:Nat):Int):=by
   have:marks.length=29:=rfl;rw[wrap64 (by omega) (by omega)];omega
  refine Ot ?_;simp only[an,aU,vo hc hm,aG,hw,h.s_];refine Wp.pos (by simp;omega) ?_;simp only[bm (show(0:Int)<=(i:Int)/\(i:Int)<(marks.length:Int)from⟨by omega,by omega⟩)];simp only[uC (s:=s) (l:=(from_:Int)) (h:=(s.length:Int)) ⟨by omega,by omega,by omega⟩,fa,j8];refine Wp.call (O8 (s.drop from_) m) (λv U' hv=>?_) (λv U' hv=>by cases hv.1);obtain⟨hv,rfl⟩:=hv;cases hv;simp only[bp,h.fJ,ag];refine Wp.ite (λh1=>?_) λh1=>?_
  ·have jJ:m.length<=s.length-from_:=by
    have:=(xQ.1 h1).length_le;rw[mr]at this;exact this
   have im:ah .i64 ((from_:Int)+(m.length:Int))=((from_+m.length:Nat):Int):=by rw[wrap64 (by omega) (by omega)];omega
   simp only[im,h.mj];refine Wp.ret ?_;have HV:(marks.find? λm=>m.isPrefixOf (s.drop from_))=some m:=by
    have hd:marks=marks.take i++m::marks.drop (i+1):=by rw[<-drop_cons hm,List.take_append_drop]
    rw[hd,List.find?_append,List.find?_eq_none.2 λx hx=>by rw[dW x hx];simp,Option.none_or];exact List.find?_cons_of_pos (p:=λm:By=>m.isPrefixOf (s.drop from_)) h1
   rw[ho _ rfl,HV];exact⟨rfl,h.put,h0.trans Kp.set⟩
  ·refine ih (i+1) (by omega) λx hx=>?_;rw[uh,hm]at hx;rcases cX.1 hx with hx|hx
   ·exact dW x hx
   ·simp at hx;subst hx;exact h1
theorem ac1 {w:By} {v:Int} (hk:Kn U/\(10:Int)=10/\(64:Int)=64/\w.length<=281474976710656) (h:jA 64 w=.ok v):
  Lb 109 [.str w,.int .i64 10,.int .i64 64] U=some (.ret (.tuple [.int .i64 v,.nilIface]),U):=by
 simp only[Lb,BR];rw[if_pos hk,h]
theorem ac0 {w:By} (hk:Kn U/\(10:Int)=10/\(64:Int)=64/\w.length<=281474976710656) (h:∀v,jA 64 w≠ .ok v):
  ∃x,Lb 109 [.str w,.int .i64 10,.int .i64 64] U=some (.ret (.tuple [.int .i64 x,.iface 193 (.ptr (some (U.length,0)))]),U++[.dead]):=by
 simp only[Lb,BR];rw[if_pos hk];cases h2:jA 64 w
 case ok v=>exact absurd h2 (h v)
 all_goals exact⟨_,rfl⟩
theorem LV (hs:s.length<=1000000000) (hk:Kn U) (hp:4<=p) (ha:at_<=s.length) (h:bz U p s at_ t tv deep):Fw ae Lb 80 [.ptr (some (p,0))] U (Aj U p s t tv deep (cut s at_)):=by
 refine ZN ?_;refine Wp.call (Ur (by omega) ha h) (λv U' hv=>?_) (λv U' hv=>by cases hv.1);obtain⟨_,rfl⟩:=hv;have abB:∀(l:By),skip false l<=l.length/\skip true l<=l.length:=by
  intro l
  induction l with
  |nil=>simp[skip]
  |cons c r ih=>simp only[skip,cr];(repeat' split)<;>omega
 have yG:at_+skip false (s.drop at_)<=s.length:=by have:=(abB (s.drop at_)).1;rw[mr]at this;omega
 unfold cut;generalize at_+skip false (s.drop at_)=from_ at*;have h1:bz (U.set p (.cells (rc s from_ t tv deep) (.rw (.box 100)))) p s from_ t tv deep:=h.put;have k1:Kp U.length p U (U.set p (.cells (rc s from_ t tv deep) (.rw (.box 100)))):=Kp.set;have xc:=hk.kp k1 hp;have l1:U.length<=(U.set p (.cells (rc s from_ t tv deep) (.rw (.box 100)))).length:=by simp
 generalize U.set p (.cells (rc s from_ t tv deep) (.rw (.box 100)))=U1 at*;simp only[an,h1.fJ,h1.s_,ag,aG];have PK:=h1.lt;refine Wp.ite (λhe=>?_) λhe=>?_
 ·have he:from_=s.length:=by have:=eq_of_beq he;omega
  refine Wp.ret ?_;rw[jB (by omega)];exact⟨by simp[Tok.av,Tok.cells],h1,k1⟩
 have al:from_<s.length:=by
  have:¬from_=s.length:=λe=>by subst e;simp at he
  omega
 obtain⟨c,hc⟩:∃c,s[from_]? =some c:=⟨s[from_],bk al⟩
 have hd:=drop_at hc;have fe (f:UInt8->Out):cP s (from_:Int) f=f c:=ib (by omega) (by simpa using hc);simp only[fe];refine Wp.call (QK c) (λv U' hv=>?_) (λv U' hv=>by cases hv.1);obtain⟨hv,rfl⟩:=hv;cases hv;simp only[bp];refine Wp.ite (λhL=>?_) λhL=>?_
 ·refine Wp.cD (F:=λn m=>wz n m (some (p,0)) from_ 0 0 [] 0 U') (acY hs (s.length-from_) (by omega) h1 ?_);have hle:=SW (s:=s) (f:=λc=>dK c||isDigit c) yG;have fg:=SK (s:=s) (f:=λc=>dK c||isDigit c) from_;have bX:one (s.drop from_)=(if words.contains ((s.drop from_).takeWhile λc=>dK c||isDigit c)then some (2,(s.drop from_).takeWhile λc=>dK c||isDigit c,0,((s.drop from_).takeWhile λc=>dK c||isDigit c).length)
    else if((s.drop from_).takeWhile λc=>dK c||isDigit c).length<=14 then some (1,(s.drop from_).takeWhile λc=>dK c||isDigit c,0,((s.drop from_).takeWhile λc=>dK c||isDigit c).length)else none):=by
   rw[hd];simp only[one];rw[if_pos hL]
  rw[bX];generalize (s.drop from_).takeWhile (λc=>dK c||isDigit c)=w at*;have h2:bz (U'.set p (.cells (rc s (from_+w.length) t tv deep) (.rw (.box 100)))) p s (from_+w.length) t tv deep:=h1.put;have k2:Kp U.length p U (U'.set p (.cells (rc s (from_+w.length) t tv deep) (.rw (.box 100)))):=k1.trans Kp.set;have IL:=hk.kp k2 hp;have l2:U.length<=(U'.set p (.cells (rc s (from_+w.length) t tv deep) (.rw (.box 100)))).length:=by simpa using l1
  generalize U'.set p (.cells (rc s (from_+w.length) t tv deep) (.rw (.box 100)))=U2 at*;refine ZP ?_;simp only[an,h2.fJ,h2.s_,ag,aG];simp only[uC (s:=s) (l:=(from_:Int)) (h:=((from_+w.length:Nat):Int)) ⟨by omega,by omega,by omega⟩,fa,fg];refine Wp.call (agR IL) (λv U3 hv=>?_) (λv U3 hv=>by cases hv.1);obtain⟨hv,rfl⟩:=hv;cases hv;simp only[aS];refine Wp.call (TL (b:=U2.length) (by decide) (by unfold aF;rw[bQ (aA _)];simp) w) (λv U3 hv=>?_) (λv U3 hv=>by cases hv.1);obtain⟨hv,rfl⟩:=hv;cases hv;simp only[bp];have h3:bz (U2++[.cells (words.map .str) .ro]) p s (from_+w.length) t tv deep:=h2.app;have k3:Kp U.length p U (U2++[.cells (words.map .str) .ro]):=k2.trans (Kp.app l2);refine Wp.ite (λhw=>?_) λhw=>Wp.ite (λh14=>?_) λh14=>?_
  ·rw[if_pos hw];exact Wp.ret ⟨rfl,h3,k3⟩
  ·rw[if_neg (by rw[hw];simp),if_neg (by simp at h14;omega)];exact xJ ⟨rfl,k3,_,h3⟩
  ·rw[if_neg (by rw[hw];simp),if_pos (by simp at h14;omega)];exact Wp.ret ⟨rfl,h3,k3⟩
 refine Wp.call (GB c) (λv U2 hv=>?_) (λv U2 hv=>by cases hv.1);obtain⟨hv,rfl⟩:=hv;cases hv;simp only[bp];have nL:¬dK c=true:=by rw[hL];simp
 refine Wp.ite (λhD=>?_) λhD=>?_
 ·refine Wp.cD (F:=λn m=>A9 n m (some (p,0)) from_ c.toNat 0 0 [] 0 U2) (VK hs (s.length-from_) (by omega) h1 ?_);have hle:=SW (s:=s) (f:=isDigit) yG;have fg:=SK (s:=s) (f:=isDigit) from_;have bX:one (s.drop from_)=numOf c ((s.drop from_).takeWhile isDigit) (jA 64 ((s.drop from_).takeWhile isDigit)):=by
   rw[hd];simp only[one];rw[if_neg nL,if_pos hD]
  have fY:1<=((s.drop from_).takeWhile isDigit).length:=by rw[hd,ug,if_pos hD];simp
  rw[bX];generalize (s.drop from_).takeWhile isDigit=w at*;have h2:bz (U2.set p (.cells (rc s (from_+w.length) t tv deep) (.rw (.box 100)))) p s (from_+w.length) t tv deep:=h1.put;have k2:Kp U.length p U (U2.set p (.cells (rc s (from_+w.length) t tv deep) (.rw (.box 100)))):=k1.trans Kp.set;have IL:=hk.kp k2 hp;have l2:U.length<=(U2.set p (.cells (rc s (from_+w.length) t tv deep) (.rw (.box 100)))).length:=by simpa using l1
  generalize U2.set p (.cells (rc s (from_+w.length) t tv deep) (.rw (.box 100)))=U3 at*;refine ZQ ?_;simp only[an,h2.fJ,h2.s_,ag,aG];simp only[uC (s:=s) (l:=(from_:Int)) (h:=((from_+w.length:Nat):Int)) ⟨by omega,by omega,by omega⟩,fa,fg];have hwl:w.length<=281474976710656:=by omega
  have iF:=And.intro IL (And.intro (rfl:(10:Int)=10) (And.intro (rfl:(64:Int)=64) hwl));have Ue {x:Int}:Wp (Aj U p s t tv deep (from_,none)) λu=>
    ji ae 147 (.iface 193 (.ptr (some (U3.length,0)))) .nilIface λb25=>
     cond (!b25) (cW ae Lb u.n 108 [.int .i64 (13:Int),.int .i64 from_] (U3++[.dead]) λ_ U26=>ri u.n (some (p,0)) from_ x 0 0 [] 0 U26)
      (cond ((c.toNat:Int)==(48:Int)) (aI ae 3 (U3++[.dead]) p (0+1) λx30=>gY .i64 x30 λi31=>cond (decide (i31>(ah .i64 ((from_:Int)+(1:Int)))))
       (cW ae Lb u.n 108 [.int .i64 (13:Int),.int .i64 from_] (U3++[.dead]) λ_ U32=>ri u.n (some (p,0)) from_ x 0 0 [] 0 U32)
       (ri u.n (some (p,0)) from_ x 0 0 [] 0 (U3++[.dead]))) (ri u.n (some (p,0)) from_ x 0 0 [] 0 (U3++[.dead]))):=by
   simp only[ji,Mc,if_true,Mg,Me];refine Wp.pos rfl (xJ ⟨rfl,k2.trans (Kp.app l2),_,h2.app⟩)
  cases PX:jA 64 w
  case ok v=>
   refine Wp.eE (Fw.jP (Q:=λr U'=>r=.ret (.tuple [.int .i64 v,.nilIface])/\U'=U3) (ac1 iF PX) ⟨rfl,rfl⟩) (λv U4 hv=>?_) (λv U4 hv=>by cases hv.1);obtain⟨hv,rfl⟩:=hv;cases hv;simp only[eY,bc,ag,aZ];simp only[ji,Mc,if_true,Mg,Me];refine Wp.neg rfl ?_;have n48:((c.toNat:Int)==(48:Int))=(c.toNat==48):=cL (b:=48);rw[n48];have fin (hz:¬(c.toNat=48/\w.length≠1)):Wp (Aj U p s t tv deep (from_,(numOf c w (.ok v)).map λx=>(⟨x.1,from_,x.2.1,x.2.2.1⟩,from_+x.2.2.2))) λu=>ri u.n (some (p,0)) from_ v 0 0 [] 0 U4:=by
    simp only[numOf];rw[if_neg hz];refine ZR ?_;exact Wp.ret ⟨rfl,h2,k2⟩
   refine Wp.ite (λh48=>?_) λh48=>fin (by simp at h48;omega);have hwf:ah .i64 ((from_:Int)+1)=((from_+1:Nat):Int):=kP (by omega) al;simp only[h2.fJ,ag,hwf];refine Wp.ite (λhg=>?_) λhg=>fin (by simp at hg;omega);simp only[numOf];rw[if_pos (by simp at h48 hg;omega)];exact xJ ⟨rfl,k2,_,h2⟩
  all_goals
   obtain⟨x,hx⟩:=ac0 iF (λv=>by rw[PX];intro h;cases h);refine Wp.eE (Fw.jP (Q:=λr U'=>∃x,r=.ret (.tuple [.int .i64 x,.iface 193 (.ptr (some (U3.length,0)))])/\U'=U3++[.dead]) hx ⟨_,rfl,rfl⟩) (λv U4 hv=>?_) (λv U4 hv=>by obtain⟨_,hv,_⟩:=hv;cases hv);obtain⟨x,hv,rfl⟩:=hv;cases hv;simp only[eY,bc,ag,aZ];exact Ue
 have nD:¬isDigit c=true:=by rw[hD];simp
 have n34:((c.toNat:Int)==(34:Int))=(c.toNat==34):=cL (b:=34);have n39:((c.toNat:Int)==(39:Int))=(c.toNat==39):=cL (b:=39);rw[n34,n39];have tok {o:Option (Tok×Nat)} {r:fH} {U':St} (hq:zG U2.length p s from_ o t tv deep U2 r U'):Aj U p s t tv deep (from_,o) r U':=by
  unfold zG at hq;cases o with
  |none=>exact⟨hq.1,k1.trans ⟨hq.2.1.len,λx hx hn=>hq.2.1.same x (by omega) hn⟩,hq.2.2⟩
  |some y=>exact⟨hq.1,hq.2.1,k1.trans ⟨hq.2.2.len,λx hx hn=>hq.2.2.same x (by omega) hn⟩⟩
 refine Wp.ite (λh34=>?_) λh34=>Wp.ite (λh39=>?_) λh39=>?_
 ·have e34:c=34:=ke.1 (by simpa using h34);subst e34;have bX:(one (s.drop from_)).map (λx=>((⟨x.1,from_,x.2.1,x.2.2.1⟩:Tok),from_+x.2.2.2))=Cg s from_:=by
   rw[hd];simp only[one,Cg];rw[if_neg nL,if_neg nD,if_pos (by decide),Option.map_map];rfl
  simp only[bX];refine Wp.call (aeX hs h1 hc) (λv U3 hv=>?_) (λv U3 hv=>tok hv);have lh:=tok hv;cases ho:Cg s from_ with
  |none=>rw[ho]at hv;cases hv.1
  |some y=>
   obtain⟨y,q⟩:=y;rw[ho]at lh;obtain⟨jo,Iv⟩:=lh;cases jo;simp only[Tok.av,Tok.cells,bK,bc,ag,aG,aZ];exact Wp.ret ⟨rfl,Iv⟩
 ·have e39:c=39:=ke.1 (by simpa using h39);subst e39;have bX:(one (s.drop from_)).map (λx=>((⟨x.1,from_,x.2.1,x.2.2.1⟩:Tok),from_+x.2.2.2))=sB s from_:=by
   rw[hd];simp only[one,sB];rw[if_neg nL,if_neg nD,if_neg (by decide),if_pos (by decide)];cases escape 39 (s.drop (from_+1))with
   |none=>rfl
   |some y=>
    obtain⟨y,k⟩:=y;simp only[oX,List.head?_drop];split<;>rfl
  simp only[bX];refine Wp.call (aeW hs h1 hc) (λv U3 hv=>?_) (λv U3 hv=>tok hv);have lh:=tok hv;cases ho:sB s from_ with
  |none=>rw[ho]at hv;cases hv.1
  |some y=>
   obtain⟨y,q⟩:=y;rw[ho]at lh;obtain⟨jo,Iv⟩:=lh;cases jo;simp only[Tok.av,Tok.cells,bK,bc,ag,aG,aZ];exact Wp.ret ⟨rfl,Iv⟩
 ·refine ZO ?_;refine Wp.call (adn xc) (λv U3 hv=>?_) (λv U3 hv=>by cases hv.1);obtain⟨hv,rfl⟩:=hv;cases hv;simp only[aS];have abq:∀o,one (s.drop from_)=o->o=(marks.find? λm=>m.isPrefixOf (s.drop from_)).map λm=>(5,m,0,m.length):=λo ho=>by
   rw[<-ho,hd];simp only[one];rw[if_neg nL,if_neg nD,if_neg (by simpa using h34),if_neg (by simpa using h39)]
  have Ei:=adl (i9:=0) (i10:=0) (i12:=0) (s11:=[]) (b:=U2.length) (c:=some marks.length) (U0:=U) (U:=U2++[.cells (marks.map .str) .ro]) hs yG h1.app (by unfold aF;rw[bQ (aA _)];simp) (k1.trans (Kp.app l1)) abq marks.length 0 (by omega) (by simp)
  ·rw[show((0:Nat):Int)=0 from rfl]at Ei;generalize U2++[.cells (marks.map .str) .ro]=U3 at Ei|-;generalize marks.length=ml at Ei|-;refine Wp.cD (F:=λn m=>Ba n m (some (p,0)) from_ (some (U2.length,0)) ml (some ml) 1 ml (0:Int) 0 0 [] 0 U3) ?_;exact Ei
end
end Go.Front
end
section
set_option maxRecDepth 100000
namespace Go.Front
open Go.AM Go.Proofs
abbrev Fr:=Nat->Option aq
def ins (fr:Fr) (b:Nat) (o:aq):Fr:=λx=>if x=b then some o else fr x
theorem iN {fr:Fr} {b:Nat} {o:aq}:ins fr b o b=some o:=if_pos rfl
theorem jL {fr:Fr} {b x:Nat} {o:aq} (h:x≠b):ins fr b o x=fr x:=if_neg h
def gE (kids:List Nat):List AV:=kids.map λ(k:Nat)=>AV.int .i64 (k:Int)
def rG (kids:List Nat):aq:=.cells (gE kids) (.rw (.row 3))
theorem ab8 (k1 k2:List Nat):gE (k1++k2)=gE k1++gE k2:=by unfold gE;exact fi
theorem EH (k:List Nat):(gE k).length=k.length:=by simp[gE]
inductive KV (fr:Fr) (U:St) (p tb:Nat):AV->List Nat->Prop
 |zero (z:Nat):KV fr U p tb (.slice none 0 (some 0) z) []
 |one {kids:List Nat} (b:Nat) (c:On) (hc:∀x,c=some x->kids.length<=x) (hb:U[b]? =some (rG kids)) (hf:fr b=none) (hp:b≠p) (ht:b≠tb):KV fr U p tb (.slice (some (b,0)) kids.length c 1) kids
def jT (x:Node×AV):List AV:=[.int .i64 x.1.kind,.int .i64 x.1.at_,.str x.1.text,.int .i64 x.1.n,.int .i64 x.1.m,x.2]
theorem vr (x:Node×AV):(jT x).length=6:=rfl
inductive fj (fr:Fr) (U:St) (p:Nat):AV->List Node->Prop
 |zero (z:Nat):fj fr U p (.slice none 0 (some 0) z) []
 |one (tb:Nat) (l:List (Node×AV)) (hb:U[tb]? =some (.cells (l.flatMap jT) (.rw (.row 42)))) (hf:fr tb=none) (hp:tb≠p) (hk:∀x∈l,KV fr U p tb x.2 x.1.kids):
  fj fr U p (.slice (some (tb,0)) l.length none 6) (l.map Prod.fst)
structure zP (fr:Fr):Prop where
 asc:fr 0=some (.know 1 Cs)
 pow:fr 1=some (.know 0 tZ)
 syn:fr 2=some (.know 3 tY)
 rng:fr 3=some (.know 4 tY)
def PS.gV {s:By} (st:PS (ai s)):Nat:=st.pos
structure de (s:By) (fr:Fr) (U:St) (p:Nat) (st:PS (ai s)) (d:Int):Prop where
 hs:s.length<=1000000000
 kf:zP fr
 bE:∀b o,fr b=some o->U[b]? =some o
 pf:fr p=none
 bP:st.nodes.length<=4096
 c:∃tv,bz U p s st.gV st.tok tv d/\fj fr U p tv st.nodes
def Rd (s:By) (fr:Fr) (U:St) (p:Nat) (st:PS (ai s)):Prop:=de s fr U p st st.deep/\st.deep<=40/\st.gV<=s.length
section
variable {s:By} {fr:Fr} {U U':St} {p:Nat} {st st':PS (ai s)} {d d':Int} {tv v:AV} {kids:List Nat}
theorem KV.mono {tb:Nat} (h:KV fr U p tb v kids) (hs:∀b,b<U.length->b≠p->b≠tb->U'[b]? =U[b]?):KV fr U' p tb v kids:=by
 cases h with
 |zero z=>exact .zero z
 |one b c hc hb hf hp ht=>exact .one b c hc (by rw[hs b (bB hb) hp ht];exact hb) hf hp ht
theorem fj.mono {nd:List Node} (h:fj fr U p tv nd) (hs:∀b,b<U.length->b≠p->U'[b]? =U[b]?):fj fr U' p tv nd:=by
 cases h with
 |zero z=>exact .zero z
 |one tb l hb hf hp hk=>exact .one tb l (by rw[hs tb (bB hb) hp];exact hb) hf hp λx hx=>(hk x hx).mono λb h1 h2 h3=>hs b h1 h2
theorem de.kn (h:de s fr U p st d):Kn U:=⟨h.bE _ _ h.kf.asc,h.bE _ _ h.kf.pow,h.bE _ _ h.kf.syn,h.bE _ _ h.kf.rng⟩
theorem de.p4 (h:de s fr U p st d):4<=p:=by
 have hf:=h.pf;rcases gu p 4 with hp|hp
 ·obtain rfl|rfl|rfl|rfl:p=0\/p=1\/p=2\/p=3:=by omega
  ·rw[h.kf.asc]at hf;cases hf
  ·rw[h.kf.pow]at hf;cases hf
  ·rw[h.kf.syn]at hf;cases hf
  ·rw[h.kf.rng]at hf;cases hf
 ·exact hp
theorem de.lt (h:de s fr U p st d):p<U.length:=let⟨_,hc,_⟩:=h.c;hc.lt
theorem de.go (h:de s fr U p st d) (hs:∀b,b<U.length->b≠p->U'[b]? =U[b]?) (hn:st'.nodes=st.nodes)
  (hc:∀tv,bz U p s st.gV st.tok tv d->bz U' p s st'.gV st'.tok tv d'):de s fr U' p st' d':=by
 obtain⟨tv,h1,h2⟩:=h.c;refine⟨h.hs,h.kf,λb o hb=>?_,h.pf,by rw[hn];exact h.bP,tv,hc tv h1,by rw[hn];exact h2.mono hs⟩;rw[hs b (bB (h.bE b o hb)) (λe=>by subst e;rw[h.pf]at hb;cases hb)];exact h.bE b o hb
theorem de.app (h:de s fr U p st d) (τ:St):de s fr (U++τ) p st d:=
 h.go (λb hb _=>bO hb) rfl λtv hc=>hc.app
theorem Rd.app (h:Rd s fr U p st) (τ:St):Rd s fr (U++τ) p st:=⟨h.1.app τ,h.2⟩
theorem Rd.kn (h:Rd s fr U p st):Kn U:=h.1.kn
theorem de.lV (h:de s fr U p st d) {b:Nat} (hb:U.length<=b):fr b=none:=by
 cases hf:fr b with
 |none=>rfl
 |some o=>have:=bB (h.bE b o hf);omega
theorem Rd.kL (h:Rd s fr U p st) (f:AV->Out):aI ae 3 U p (0+2+1) f=f (.int .i64 st.tok.at_):=let⟨_,hc,_⟩:=h.1.c;hc.kL f
theorem Rd.kind (h:Rd s fr U p st) (f:AV->Out):aI ae 3 U p (0+2+0) f=f (.int .i64 st.tok.kind):=let⟨_,hc,_⟩:=h.1.c;hc.kind f
theorem Rd.text (h:Rd s fr U p st) (f:AV->Out):aI ae 9 U p (0+2+2) f=f (.str st.tok.text):=let⟨_,hc,_⟩:=h.1.c;hc.text f
theorem Rd.tok (h:Rd s fr U p st) (f:AV->Out):aI ae 98 U p (0+2) f=f st.tok.av:=let⟨_,hc,_⟩:=h.1.c;hc.tok f
theorem Rd.CW (h:Rd s fr U p st) (f:AV->Out):aI ae 3 U p (0+7) f=f (.int .i64 (st.deep:Int)):=let⟨_,hc,_⟩:=h.1.c;hc.CW f
theorem fj.cell {nd:List Node} {x j ty:Nat} {y:Node} {w:AV} (hn:fj fr U p tv nd) (hx:nd[x]? =some y) (hj:j<5) (ht:dz ae ty=some false) (hw:∀k,(jT (y,k))[j]? =some w) (f:AV->Out):
  (gn tv λa n _ z=>ao (x:Int) n<|af a λb o=>ar z 6<|aI ae ty U b ((o+((x:Int)).toNat*6)+j) f)=f w:=by
 cases hn with
 |zero z=>simp at hx
 |one tb l hb hf hp hk=>
  have al:x<l.length:=by have:=(bl.1 hx).1;simpa using this
  rw[gI]at hx;obtain⟨⟨y',k⟩,hy,he⟩:=my.1 hx;simp only at he;subst he;simp only[aS,an,aU,bm (show(0:Int)<=(x:Int)/\(x:Int)<(l.length:Int)from⟨by omega,by omega⟩)];refine cq (cs:=l.flatMap jT) (by unfold aF;rw[hb]) ht ?_;have:=sL (enc:=jT) (s:=6) vr hy (j:=j) (by omega);rw[show 0+((x:Int)).toNat*6+j=x*6+j from by omega,this,hw]
theorem Rd.nodeAt {x:Nat} {y:Node} (h:Rd s fr U p st) (hx:st.nodes[x]? =some y) (f:AV->Out):
  (aI ae 24 U p (0+6) λw=>gn w λa n _ z=>ao (x:Int) n<|af a λb o=>ar z 6<|aI ae 3 U b ((o+((x:Int)).toNat*6)+1) f)=f (.int .i64 y.at_):=by
 obtain⟨tv,hc,hn⟩:=h.1.c;rw[hc.nodes];exact hn.cell hx (by decide) fA (λk=>rfl) f
theorem Rd.I5 {x:Nat} {y:Node} (h:Rd s fr U p st) (hx:st.nodes[x]? =some y) (f:AV->Out):
  (aI ae 24 U p (0+6) λw=>gn w λa n _ z=>ao (x:Int) n<|af a λb o=>ar z 6<|aI ae 3 U b ((o+((x:Int)).toNat*6)+0) f)=f (.int .i64 y.kind):=by
 obtain⟨tv,hc,hn⟩:=h.1.c;rw[hc.nodes];exact hn.cell hx (by decide) fA (λk=>rfl) f
end
def PQ {α:Type} (s:By) (fr:Fr) (p:Nat) (enc:α->AV) (o:Except bd (α×PS (ai s))):bw:=λr U'=>
 match o with
 | .ok (a,st)=>r=.ret (enc a)/\Rd s fr U' p st
 | .error e=>r=.pan (gO e.1 e.2)/\∃st d,de s fr U' p st d
def Sp {α:Type} (s:By) (f:FuncId) (xs:List AV) (enc:α->AV) (m:PM (ai s) α):Prop:=
 ∀(fr:Fr) (U:St) (p:Nat) (st:PS (ai s)) (o:Except bd (α×PS (ai s))),Rd s fr U p st->m st=some o->Fw ae Lb f (.ptr (some (p,0))::xs) U (PQ s fr p enc o)
def aj (n:Nat):AV:=.int .i64 (n:Int)
def cO (b:Bool):AV:=.bool b
def tS (_:Unit):AV:=.tuple []
section
variable {s:By} {fr ed:Fr} {U U':St} {p:Nat} {st st':PS (ai s)} {d d':Int} {α β γ:Type} {enc:α->AV} {ot:β->AV} {f:FuncId} {xs:List AV}
theorem Rd.su {Q:bw} {m:PM (ai s) α} {k:α->PM (ai s) β} {o:Except bd (β×PS (ai s))} {K:Fu->AV->St->Out} (hf:Sp s f xs enc m) (h:Rd s ed U p st) (ho:(m>>=k) st=some o)
  (hp:∀e,o=.error e->∀U',(∃st d,de s ed U' p st d)->Q (.pan (gO e.1 e.2)) U') (hk:∀a ak U1,Rd s ed U1 p ak->k a ak=some o->Wp Q λu=>K u (enc a) U1):
  Wp Q λu=>cW ae Lb u.n f (.ptr (some (p,0))::xs) U (K u):=by
 rcases PM.bind_some ho with⟨e,h1,h2⟩|⟨a,ak,h1,h2⟩
 ·refine Wp.call (hf ed U p st _ h h1) (λv U' hv=>by cases hv.1) λv U' hv=>?_;obtain⟨hv,hx⟩:=hv;cases hv;exact hp e h2 U' hx
 ·refine Wp.call (hf ed U p st _ h h1) (λv U' hv=>?_) λv U' hv=>by cases hv.1
  obtain⟨hv,hx⟩:=hv;cases hv;exact hk a ak U' hx h2
theorem Rd.call {m:PM (ai s) α} {k:α->PM (ai s) β} {o:Except bd (β×PS (ai s))} {K:Fu->AV->St->Out} (hf:Sp s f xs enc m) (h:Rd s fr U p st) (ho:(m>>=k) st=some o)
  (hk:∀a ak U1,Rd s fr U1 p ak->k a ak=some o->Wp (PQ s fr p ot o) λu=>K u (enc a) U1):
  Wp (PQ s fr p ot o) λu=>cW ae Lb u.n f (.ptr (some (p,0))::xs) U (K u):=
 Rd.su hf h ho (λe he U' hx=>by subst he;exact⟨rfl,hx⟩) hk
theorem Rd.last {m:PM (ai s) α} {o:Except bd (α×PS (ai s))} {K:Fu->AV->St->Out} (hf:Sp s f xs enc m) (h:Rd s fr U p st) (ho:m st=some o) (hk:∀u a U1,K u (enc a) U1=some (.ret (enc a),U1)):
  Wp (PQ s fr p enc o) λu=>cW ae Lb u.n f (.ptr (some (p,0))::xs) U (K u):=by
 cases o with
 |error e=>
  refine Wp.call (hf fr U p st _ h ho) (λv U' hv=>by cases hv.1) λv U' hv=>?_;exact hv
 |ok x=>
  obtain⟨a,ak⟩:=x;refine Wp.call (hf fr U p st _ h ho) (λv U' hv=>?_) λv U' hv=>by cases hv.1
  obtain⟨hv,hx⟩:=hv;cases hv;simp only[hk];exact Wp.ret ⟨rfl,hx⟩
theorem Rd.ret {a:α} {o:Except bd (α×PS (ai s))} (h:Rd s fr U p st) (ho:(pure a:PM (ai s) α) st=some o):Wp (PQ s fr p enc o) λ_=>some (.ret (enc a),U):=by
 rw[PM.zq]at ho;cases ho;exact Wp.ret ⟨rfl,h⟩
theorem Rd.nW {e:Int} {o:Except bd (α×PS (ai s))} {K:Fu->AV->St->Out} (h:Rd s fr U p st) (ho:(oT e:PM (ai s) α) st=some o):
  Wp (PQ s fr p enc o) λu=>cW ae Lb u.n 108 [.int .i64 e,.int .i64 st.tok.at_] U (K u):=by
 unfold oT at ho;cases ho;exact xJ ⟨rfl,st,st.deep,h.1⟩
theorem de.up (h:de s fr U p st d):∃U',(∀(n:Nat) (u:Option AV),js ae (cd ae Lb n) n 193 [.ptr (some (p,0))] u U=some (u,U'))/\de s fr U' p st (ah .i64 (d-1)):=by
 obtain⟨tv,hc,hn⟩:=h.c;refine⟨U.set p (.cells (rc s st.gV st.tok tv (ah .i64 (d-1))) (.rw (.box 100))),λn u=>Xs (y:=.tuple []) u ?_,?_⟩
 ·simp only[G8,an,hc.CW,ag,hc.Sx]
 ·refine h.go (λb _ hb=>aD (cY hb)) rfl λxG mK=>?_;have e:xG=tv:=by have:=mK.h;rw[hc.h]at this;simp[rc]at this;exact this.symm
  subst e;exact hc.put
theorem de.S3 {Q:bw} {e:bd} {R:Fu->St->Out} (h:de s fr U p st d) (hq:∀U',(∃st d,de s fr U' p st d)->Q (.pan (gO e.1 e.2)) U'):
  Wp Q λu=>bC ae Lb u.n 193 [.ptr (some (p,0))] (some (gO e.1 e.2)) U λx U'=>bq x (λv=>some (.pan v,U')) (R u U'):=by
 obtain⟨U',h1,h2⟩:=h.up;refine Wp.df ⟨0,λn _=>h1 n (some (gO e.1 e.2))⟩ (Wp.vq (Wp.ret (hq U' ⟨st,_,h2⟩)))
theorem Rd.pY {a:α} {o:Except bd (α×PS (ai s))} (h:Rd s fr U p st) (ho:(kO>>=λ_=>(pure a:PM (ai s) α)) st=some o):
  Wp (PQ s fr p enc o) λu=>bC ae Lb u.n 193 [.ptr (some (p,0))] none U λx U'=>bq x (λv=>some (.pan v,U')) (some (.ret (enc a),U')):=by
 by_cases h0:st.deep=0
 ·rw[PM.bind_none (by unfold kO;rw[if_pos h0])]at ho;cases ho
 ·rw[PM.lQ (st':={st with deep:=st.deep-1}) (by unfold kO;rw[if_neg h0])]at ho;rw[PM.zq]at ho;cases ho;obtain⟨U',h1,h2⟩:=h.1.up;refine Wp.df ⟨0,λn _=>h1 n none⟩ (Wp.E2 (Wp.ret ⟨rfl,?_,by have:=h.2.1;simp only;omega,h.2.2⟩));have hd:=h.2.1;rw[wrap64 (by omega) (by omega),show(st.deep:Int)-1=((st.deep-1:Nat):Int)from by omega]at h2;exact⟨h2.hs,h2.kf,h2.bE,h2.pf,h2.bP,h2.c⟩
theorem Rd.Lr {Q:bw} {m:PM (ai s) α} {k:α->PM (ai s) β} {o:Except bd (β×PS (ai s))} {K:Fu->AV->St->Out} {R:Fu->St->Out} (hf:Sp s f xs enc m) (h:Rd s ed U p st) (ho:(m>>=k) st=some o)
  (hp:∀e,o=.error e->∀U',(∃st d,de s ed U' p st d)->Q (.pan (gO e.1 e.2)) U') (hk:∀a ak U1,Rd s ed U1 p ak->k a ak=some o->Wp Q λu=>K u (enc a) U1):
  Wp Q λu=>ck ae Lb u.n f (.ptr (some (p,0))::xs) U (K u) λv U=>bC ae Lb u.n 193 [.ptr (some (p,0))] (some v) U λx U'=>bq x (λv'=>some (.pan v',U')) (R u U'):=by
 rcases PM.bind_some ho with⟨e,h1,h2⟩|⟨a,ak,h1,h2⟩
 ·refine Wp.di (hf ed U p st _ h h1) (λv U' hv=>by cases hv.1) λv U' hv=>?_;obtain⟨hv,aX,d2,hx⟩:=hv;cases hv;exact hx.S3 (hp e h2)
 ·refine Wp.di (hf ed U p st _ h h1) (λv U' hv=>?_) λv U' hv=>by cases hv.1
  obtain⟨hv,hx⟩:=hv;cases hv;exact hk a ak U' hx h2
theorem Rd.di {m:PM (ai s) α} {k:α->PM (ai s) β} {o:Except bd (β×PS (ai s))} {K:Fu->AV->St->Out} {R:Fu->St->Out} (hf:Sp s f xs enc m) (h:Rd s fr U p st) (ho:(m>>=k) st=some o)
  (hk:∀a ak U1,Rd s fr U1 p ak->k a ak=some o->Wp (PQ s fr p ot o) λu=>K u (enc a) U1):
  Wp (PQ s fr p ot o) λu=>ck ae Lb u.n f (.ptr (some (p,0))::xs) U (K u) λv U=>bC ae Lb u.n 193 [.ptr (some (p,0))] (some v) U λx U'=>bq x (λv'=>some (.pan v',U')) (R u U'):=
 Rd.Lr hf h ho (λe he U' hx=>by subst he;exact⟨rfl,hx⟩) hk
inductive KR (s:By) (fr:Fr) (U:St) (p:Nat) (st:PS (ai s)):AV->List Nat->Prop
 |zero (z:Nat) (h:Rd s fr U p st):KR s fr U p st (.slice none 0 (some 0) z) []
 |one {kids:List Nat} (b:Nat) (c:On) (hc:∀x,c=some x->kids.length<=x) (hf:fr b=none) (kf:zP fr) (h:Rd s (ins fr b (rG kids)) U p st):KR s fr U p st (.slice (some (b,0)) kids.length c 1) kids
theorem qz {b:Nat} {o:aq} (hf:fr b=none) {x:Nat} {y:aq} (hx:fr x=some y):ins fr b o x=some y:=by
 rw[jL (λe=>by subst e;rw[hf]at hx;cases hx)];exact hx
theorem qy {b:Nat} {o:aq} (hf:fr b=none) {x:Nat} (hx:ins fr b o x=none):fr x=none:=by
 by_cases e:x=b
 ·subst e;exact hf
 ·rw[jL e]at hx;exact hx
theorem KV.iW {b tb:Nat} {o:aq} {v:AV} {kids:List Nat} (h:KV (ins fr b o) U p tb v kids) (hf:fr b=none):KV fr U p tb v kids:=by
 cases h with
 |zero z=>exact .zero z
 |one b c hc hb gQ hp ht=>exact .one b c hc hb (qy hf gQ) hp ht
theorem fj.iW {b:Nat} {o:aq} {tv:AV} {nd:List Node} (h:fj (ins fr b o) U p tv nd) (hf:fr b=none):fj fr U p tv nd:=by
 cases h with
 |zero z=>exact .zero z
 |one tb l hb gQ hp hk=>exact .one tb l hb (qy hf gQ) hp λx hx=>(hk x hx).iW hf
theorem de.iW {b:Nat} {o:aq} (h:de s (ins fr b o) U p st d) (hf:fr b=none) (kf:zP fr):de s fr U p st d:=by
 obtain⟨tv,hc,hn⟩:=h.c;exact⟨h.hs,kf,λx y hx=>h.bE x y (qz hf hx),qy hf h.pf,h.bP,tv,hc,hn.iW hf⟩
theorem KR.rd {v:AV} {kids:List Nat} (h:KR s fr U p st v kids):Rd s fr U p st:=by
 cases h with
 |zero z h=>exact h
 |one b c hc hf kf h=>exact⟨h.1.iW hf kf,h.2⟩
theorem KR.xf {v:AV} {kids:List Nat} (h:KR s fr U p st v kids):∃ed,Rd s ed U p st/\(∀U' st',Rd s ed U' p st'->KR s fr U' p st' v kids)/\∀U' st' d,de s ed U' p st' d->de s fr U' p st' d:=by
 cases h with
 |zero z h=>exact⟨fr,h,λU' st' h'=>.zero z h',λ_ _ _ h'=>h'⟩
 |one b c hc hf kf h=>exact⟨_,h,λU' st' h'=>.one b c hc hf kf h',λ_ _ _ h'=>h'.iW hf kf⟩
theorem KV.to {b tb:Nat} {o:aq} {v:AV} {kids:List Nat} (h:KV fr U p tb v kids) (hb:U.length<=b):KV (ins fr b o) U p tb v kids:=by
 cases h with
 |zero z=>exact .zero z
 |one x c hc hx hf hp ht=>exact .one x c hc hx (by rw[jL (by have:=bB hx;omega)];exact hf) hp ht
theorem fj.to {b:Nat} {o:aq} {tv:AV} {nd:List Node} (h:fj fr U p tv nd) (hb:U.length<=b):fj (ins fr b o) U p tv nd:=by
 cases h with
 |zero z=>exact .zero z
 |one tb l hx hf hp hk=>exact .one tb l hx (by rw[jL (by have:=bB hx;omega)];exact hf) hp λx hx=>(hk x hx).to hb
theorem de.xn (h:de s fr U p st d) (o:aq):de s (ins fr U.length o) (U++[o]) p st d:=by
 obtain⟨tv,hc,hn⟩:=h.c;have hf:=h.lV (aA U.length);refine⟨h.hs,⟨qz hf h.kf.asc,qz hf h.kf.pow,qz hf h.kf.syn,qz hf h.kf.rng⟩,λx y hx=>?_,by rw[jL (by have:=h.lt;omega)];exact h.pf,h.bP,tv,hc.app,?_⟩
 ·by_cases e:x=U.length
  ·subst e;rw[iN]at hx;cases hx;rw[bQ (aA _)];simp
  ·rw[jL e]at hx;have:=h.bE x y hx;rw[bO (bB this)];exact this
 ·exact(hn.to (aA _)).mono λb hb _=>bO hb
theorem Rd.new (h:Rd s fr U p st) {b n:Nat} {c:On} {l:List AV} (kids:List Nat) (hb:b=U.length) (hl:l=gE kids) (hn:n=kids.length) (hc:∀x,c=some x->kids.length<=x:=by intro _ h;cases h<;>simp):KR s fr (U++[aq.cells l (.rw (.row 3))]) p st (.slice (some (b,0)) n c 1) kids:=by
 subst hn;subst hb;subst hl;exact .one U.length _ hc (h.1.lV (aA _)) h.1.kf ⟨h.1.xn _,h.2⟩
theorem de.kill {b:Nat} {o:aq} (h:de s (ins fr b o) U p st d) (hf:fr b=none) (kf:zP fr):de s fr (U.set b .dead) p st d:=by
 obtain⟨tv,hc,hn⟩:=h.c;have hp:b≠p:=λe=>by subst e;have:=h.pf;rw[iN]at this;cases this
 refine⟨h.hs,kf,λx y hx=>?_,qy hf h.pf,h.bP,tv,⟨by rw[aD hp];exact hc.h⟩,?_⟩
 ·have:=h.bE x y (qz hf hx);rw[aD (λe=>by subst e;rw[hf]at hx;cases hx)];exact this
 ·have hx {x:Nat} (hx:ins fr b o x=none):b≠x:=λe=>by subst e;rw[iN]at hx;cases hx
  generalize st.nodes=nd at hn;cases hn with
  |zero z=>exact .zero z
  |one tb l hb gQ hp hk=>
   refine .one tb l (by rw[aD (hx gQ)];exact hb) (qy hf gQ) hp λy hy=>?_;have:=hk y hy;revert this;generalize y.2=v;generalize y.1.kids=kids;intro this;cases this with
   |zero z=>exact .zero z
   |one b' c hc hb Pp hp ht=>exact .one b' c hc (by rw[aD (hx Pp)];exact hb) (qy hf Pp) hp ht
theorem KR.app {Q:bw} {kids:List Nat} {a:Ad} {n z:Nat} {c:On} {x:Nat} {y:AV} {K:Fu->Ad->Nat->On->St->Out} (h:KR s fr U p st (.slice a n c z) kids) (hy:y=.int .i64 (x:Int)) (hl:kids.length<=1000000000)
  (hk:∀b U',KR s fr U' p st (.slice (some (b,0)) (kids.length+1) none 1) (kids++[x])->Wp Q λu=>K u (some (b,0)) (kids.length+1) none U'):
  Wp Q λu=>dT U 3 1 8 a n z 1 [y] (K u):=by
 subst hy;cases h with
 |zero z h=>
  exact Wp.sj (by decide) (by decide) (hk U.length _ (h.new [x] rfl rfl rfl))
 |one b c hc hf kf h=>
  have hb:=h.1.bE b _ iN;refine Wp.sk hb (by rw[EH];omega) (by omega) ?_;have hd:Rd s fr (U.set b .dead) p st:=⟨h.1.kill hf kf,h.2⟩
  have e:((gE kids).drop 0).take (kids.length*1)=gE kids:=by rw[iy,lC,<-EH,j8]
  rw[e];exact hk U.length _ (hd.new (kids++[x]) (by simp) (ab8 kids [x]).symm (by simp))
end
end Go.Front
end
section
set_option maxRecDepth 100000
namespace Go.Front
open Go.AM Go.Proofs
section
variable {s:By} {fr ed:Fr} {U U':St} {p:Nat} {st st':PS (ai s)} {d d':Int} {α β γ:Type} {enc:α->AV} {ot:β->AV} {f:FuncId} {xs:List AV}
theorem tp (m:By):Sp s 116 [.str m] cO (jq m):=by
 intro fr U p st o h ho;unfold jq at ho;cases ho;obtain⟨tv,hc,hn⟩:=h.1.c;exact(ab0 hc m).mono λr U' ⟨h1,h2⟩=>⟨h1,by rw[h2];exact h⟩
theorem af2:∀(m:Nat) (l:By) (n:Nat) {b:By} {k:Nat},l.length<=m->dd l n=some (b,k)->k+1<=l.length:=by
 intro m
 induction m with
 |zero=>intro l n b k hl h;cases l with|nil=>simp[dd]at h|cons _ _=>simp at hl
 |succ m ih=>
  intro l n b k hl h
  match l with
  | []=>simp[dd]at h
  | [c]=>
   simp only[dd]at h;split at h
   ·simp only[dP,eQ]at h;simp;omega
   ·cases h
  |c::d::r=>
   simp only[dd]at h;simp only[cr]at hl|-;split at h
   ·simp only[dP,eQ]at h;omega
   split at h
   ·cases he:fU d with
    |none=>rw[he]at h;cases h
    |some x=>
     rw[he]at h;simp only at h;split at h
     ·cases h
     ·obtain⟨⟨b',k'⟩,h1,h2⟩:=my.1 h;have:=ih r (n+1) (by omega) h1;simp only[eQ]at h2;omega
   split at h
   ·split at h
    ·cases h
    ·obtain⟨⟨b',k'⟩,h1,h2⟩:=my.1 h;have:=ih (d::r) (n+1) (by simp;omega) h1;simp only[eQ,cr]at h2 this;omega
   ·cases h
theorem one_le {l:By} {k:Nat} {t:By} {n:Int} {q:Nat} (h:one l=some (k,t,n,q)):q<=l.length:=by
 cases l with
 |nil=>simp[one]at h;omega
 |cons c r=>
  simp only[one]at h;split at h
  ·have hl:=(List.takeWhile_prefix (λc=>dK c||isDigit c) (l:=c::r)).length_le;split at h
   ·simp only[dP,eQ]at h;omega
   ·split at h
    ·simp only[dP,eQ]at h;omega
    ·cases h
  split at h
  ·have hl:=(List.takeWhile_prefix isDigit (l:=c::r)).length_le;cases hp:jA 64 (List.takeWhile isDigit (c::r))
   case ok v=>
    rw[hp]at h;simp only[numOf]at h;split at h
    ·cases h
    ·simp only[dP,eQ]at h;omega
   all_goals rw[hp]at h;cases h
  split at h
  ·cases hb:dd r 0 with
   |none=>rw[hb]at h;cases h
   |some x=>
    obtain⟨b,k'⟩:=x;rw[hb]at h;have:=af2 r.length r 0 (aA _) hb;simp only[je,dP,eQ,cr]at h|-;omega
  split at h
  ·cases he:escape 39 r with
   |none=>rw[he]at h;cases h
   |some x=>
    obtain⟨b,k'⟩:=x;rw[he]at h;simp only at h;split at h
    ·rename_i hh;simp only[dP,eQ,cr]at h|-;rw[List.head?_drop]at hh;have:=(bl.1 hh).1;omega
    ·cases h
  ·cases hf:marks.find? λm=>m.isPrefixOf (c::r)with
   |none=>rw[hf]at h;cases h
   |some m=>
    rw[hf]at h;have Il:=List.find?_some (p:=λm:By=>m.isPrefixOf (c::r)) hf;have:=(xQ.1 Il).length_le;simp only[je,dP,eQ]at h;omega
theorem Cc (l:By):skip false l<=l.length/\skip true l<=l.length:=by
 induction l with
 |nil=>simp[skip]
 |cons c r ih=>simp only[skip,cr];(repeat' split)<;>omega
theorem Gx (s:By) (a:Nat) (h:a<=s.length) {t:Tok} {q:Nat} (hc:(cut s a).2=some (t,q)):q<=s.length:=by
 unfold cut at hc;simp only at hc;obtain⟨⟨k,tx,n,l⟩,h1,h2⟩:=my.1 hc;have:=one_le h1;have hs:=(Cc (s.drop a)).1;simp only[eQ]at h2;rw[mr]at this hs;omega
theorem qG:Sp s 149 [] Tok.av cU:=by
 intro fr U p st o h ho;refine WV ?_;obtain⟨tv,hc,hn⟩:=h.1.c;simp only[an,hc.tok,Tok.av,Tok.cells,bK,bc,ag,aG,aZ];have qu:=LV h.1.hs h.1.kn h.1.p4 h.2.2 hc;unfold cU at ho;have pE:(ai s).eP st.pos=match cut s st.gV with|(f,none)=>.inl f|(_,some (t,q))=>.inr (t,q):=rfl
 rw[pE]at ho;have hle:=@Gx s st.gV h.2.2;generalize cut s st.gV=c at*;obtain⟨f,c⟩:=c;cases c with
 |none=>
  simp only at ho;cases ho;refine Wp.call qu (λv U' hv=>by cases hv.1) λv U' hv=>?_;obtain⟨hv,hk,n,hr⟩:=hv;cases hv;refine⟨rfl,{st with pos:=n},st.deep,h.1.go (λb hb hp=>hk.same b hb hp) rfl λxG mK=>?_⟩;have e:xG=tv:=by have:=mK.h;rw[hc.h]at this;simp[rc]at this;exact this.symm
  subst e;exact hr
 |some x=>
  obtain⟨t,q⟩:=x;simp only at ho;cases ho;refine Wp.call qu (λv U' hv=>?_) λv U' hv=>by cases hv.1
  obtain⟨hv,hr,hk⟩:=hv;cases hv;simp only[Tok.av,Tok.cells,bK,bc,ag,aG,aZ];have eX:=hr.Sz t;unfold Tok.cells at eX;simp only[eX];refine Wp.ret ⟨rfl,?_,h.2.1,hle rfl⟩;refine h.1.go (st':={st with tok:=t,pos:=q}) (λb hb hp=>?_) rfl λxG mK=>?_
  ·rw[aD (cY hp)];exact hk.same b hb hp
  ·have e:xG=tv:=by have:=mK.h;rw[hc.h]at this;simp[rc]at this;exact this.symm
   subst e;exact hr.put
theorem tQ {k:Tok->PM (ai s) β}:(eB>>=k) st=k st.tok st:=PM.lQ rfl
theorem Fa {x:Nat} {k:Node->PM (ai s) β} {o:Except bd (β×PS (ai s))} (h:(iu x>>=k) st=some o):∃y,st.nodes[x]? =some y/\k y st=some o:=by
 cases hx:st.nodes[x]? with
 |none=>rw[PM.bind_none (by unfold iu;rw[hx])]at h;cases h
 |some y=>rw[PM.lQ (st':=st) (a:=y) (by unfold iu;rw[hx])]at h;exact⟨y,rfl,h⟩
theorem jV (m:By):Sp s 113 [.str m] cO (ep m):=by
 intro fr U p st o h ho;refine Wy ?_;unfold ep at ho;refine Rd.call (tp m) h ho λb ak U1 h ho=>?_;simp only[cO,bp];refine Wp.ite (λhb=>?_) λhb=>?_
 ·simp only[hb,if_true]at ho;refine Rd.call qG h ho λt aX U2 h ho=>?_;simp only[Tok.av,Tok.cells,bK,bc,ag,aG,aZ];exact Rd.ret h ho
 ·simp only[hb,aW,if_false]at ho;exact Rd.ret h ho
theorem iP (m:By):Sp s 114 [.str m] tS (eL m):=by
 intro fr U p st o h ho;refine Wz ?_;unfold eL at ho;refine Rd.call (tp m) h ho λb ak U1 h ho=>?_;simp only[cO,bp];refine Wp.ite (λhb=>?_) λhb=>?_
 ·have hb:b=false:=by simpa using hb
  simp only[hb,aW,if_false]at ho;simp only[an,h.kL,ag];exact Rd.nW h ho
 ·have hb:b=true:=by simpa using hb
  simp only[hb,if_true]at ho;refine Rd.call qG h ho λt aX U2 h ho=>?_;simp only[Tok.av,Tok.cells,bK,bc,ag,aG,aZ];exact Rd.ret (enc:=tS) h ho
theorem EJ (k:Nat):Sp s 115 [.int .i64 k] Tok.av (me k):=by
 intro fr U p st o h ho;refine WA ?_;unfold me at ho;rw[tQ]at ho;have hk:((st.tok.kind:Int) !=(k:Int))= !decide (st.tok.kind=k):=by
  rw[bne,cL];congr 1
 simp only[an,h.kind,ag,hk];refine Wp.ite (λhb=>?_) λhb=>?_
 ·have hb:¬st.tok.kind=k:=by simpa using hb
  simp only[hb,if_false]at ho;simp only[h.kL,ag];exact Rd.nW h ho
 ·have hb:st.tok.kind=k:=by simpa using hb
  simp only[hb,if_true]at ho;exact Rd.last qG h ho λu a U1=>by simp only[Tok.av,Tok.cells,bK,bc,ag,aG,aZ]
theorem L8:Sp s 192 [] tS ql:=by
 intro fr U p st o h ho;refine Xr ?_;have hk:((st.deep:Int)==(40:Int))=(st.deep==40):=cL (b:=40);obtain⟨tv,hc,hn⟩:=h.1.c;have h40:=h.2.1;have hw:ah .i64 ((st.deep:Int)+1)=((st.deep+1:Nat):Int):=by rw[wrap64 (by omega) (by omega)];omega
 simp only[an,h.CW,ag,hk,hw];unfold ql at ho;refine Wp.ite (λhb=>?_) λhb=>?_
 ·have hb:st.deep=40:=by simpa using hb
  rw[if_pos hb]at ho;simp only[h.kL,ag];cases ho;exact xJ ⟨rfl,st,st.deep,h.1⟩
 ·have hb:¬st.deep=40:=by simpa using hb
  rw[if_neg hb]at ho;cases ho;simp only[hc.Sx];refine Wp.ret ⟨rfl,?_,by simp only;omega,h.2.2⟩;refine h.1.go (st':={st with deep:=st.deep+1}) (λb hb hp=>aD (cY hp)) rfl λxG mK=>?_;have e:xG=tv:=by have:=mK.h;rw[hc.h]at this;simp[rc]at this;exact this.symm
  subst e;exact hc.put
def levels:List Nat:=[10,10,10,9,9,8,8,7,7,7,7,6,6,5,4,3,2,1]
theorem BV (op:Nat):Fw ae Lb 142 [.int .i64 op] U λr U'=>r=.ret (.int .i64 (level op))/\U'=U:=by
 refine WR ?_;refine Wp.ite (λhb=>?_) λhb=>Wp.ite (λbR=>?_) λbR=>?_
 ·have hb:op<4:=by simp at hb;omega
  refine Wp.ret ⟨?_,rfl⟩;have:∀k<4,level k=0:=by decide
  rw[this op hb];rfl
 ·have hb:21<op:=by simp at bR;omega
  refine Wp.ret ⟨?_,rfl⟩;unfold level;rw[gq,fP (by simp;omega)];rfl
 ·have h1:4<=op:=by simp at hb;omega
  have h2:op<=21:=by simp at bR;omega
  have hw:ah .i64 ((op:Int)-4)=((op-4:Nat):Int):=by rw[wrap64 (by omega) (by omega)];omega
  have pD:∀k<18,levels[k]? =some (level (k+4)):=by decide
  have hx:=pD (op-4) (by omega);rw[show op-4+4=op from by omega]at hx;simp only[hw,bm (show(0:Int)<=((op-4:Nat):Int)/\((op-4:Nat):Int)<((18:Nat):Int)from⟨by omega,by omega⟩),fa,lC];have hp (f:AV->Out):dY ae 3 (levels.map λ(k:Nat)=>AV.int .i64 (k:Int)) (op-4) f=f (.int .i64 (level op)):=qJ fA (by rw[gI,hx];rfl);have PW:=λf=>(hp f)
  simp only[levels,dO,lA]at PW;refine Wp.eq (F:=λ_=>some (.ret (.int .i64 (level op)),U)) (Wp.ret ⟨rfl,rfl⟩) λu=>?_;refine Eq.trans (PW _) ?_;simp only[ag]
theorem Uk (hk:Kn U) (x:By):Fw ae Lb 209 [.str x] U λr U'=>r=.ret (.int .i64 (binOp x))/\U'=U++[.cells (ops.map .str) .ro]:=by
 refine XV ?_;refine Wp.call (DV hk (l:=ops) (by decide) (by kernel_rfl)) (λv U' hv=>?_) λv U' hv=>by cases hv.1
 obtain⟨hv,rfl⟩:=hv;cases hv;simp only[aS];have hc:aF (U++[aq.cells (ops.map .str) .ro]) U.length=some (ops.map .str):=by unfold aF;rw[bQ (aA _)];simp
 generalize U++[aq.cells (ops.map .str) .ro]=U1 at*;have hlen:ops.length=18:=rfl;have key:∀(k i:Nat),i+k=ops.length->Wp (λr U'=>r=.ret (.int .i64 (qH (ops.drop i) (4+i) x))/\U'=U1) λu=>AK u.n u.m1 x 0 (some (U.length,0)) ops.length (some ops.length) 1 ops.length i U1:=by
  intro k
  induction k with
  |zero=>
   intro i hi;refine M9 ?_;refine Wp.neg (by simp;omega) (XW ?_);refine Wp.ret ⟨?_,rfl⟩;rw[jB (by omega)];rfl
  |succ k ih=>
   intro i hi;obtain⟨y,hy⟩:∃y,ops[i]? =some y:=⟨ops[i],bk (by omega)⟩
   have hw:ah .i64 ((i:Int)+1)=((i+1:Nat):Int):=by rw[wrap64 (by omega) (by omega)];omega
   have BK:ah .i64 (4+(i:Int))=((4+i:Nat):Int):=by rw[wrap64 (by omega) (by omega)];omega
   refine M9 ?_;simp only[an,aU,vo hc hy,aG,hw,BK];refine Wp.pos (by simp;omega) ?_;simp only[bm (show(0:Int)<=(i:Int)/\(i:Int)<(ops.length:Int)from⟨by omega,by omega⟩)];rw[drop_cons hy];simp only[qH];refine Wp.ite (λh=>?_) λh=>?_
   ·have:y=x:=by simpa using h
    rw[if_pos this];exact Wp.ret ⟨rfl,rfl⟩
   ·have:¬y=x:=by simpa using h
    rw[if_neg this];exact ih (i+1) (by omega)
 have h0:=key ops.length 0 (by omega);rw[show((0:Nat):Int)=0 from rfl]at h0;generalize ops.length=ml at h0|-;refine Wp.cD (F:=λn m=>AK n m x 0 (some (U.length,0)) ml (some ml) 1 ml (0:Int) U1) ?_;exact h0
theorem KR.slice {v:AV} {kids:List Nat} (h:KR s fr U p st v kids):∃a n c z,v=.slice a n c z:=by cases h<;>exact⟨_,_,_,_,rfl⟩
theorem zj {nd:List Node} {tv:AV} (hn:fj fr U p tv nd):∃a c z,tv=.slice a nd.length c z:=by
 cases hn with
 |zero z=>exact⟨_,_,_,rfl⟩
 |one tb l hb hf hp hk=>exact⟨_,_,_,by rw[lz]⟩
theorem Q4 {Q:bw} {nd:List Node} {tv v:AV} {x:Node} {a:Ad} {n z:Nat} {c:On} {K:Fu->Ad->Nat->On->St->Out} (hn:fj fr U p tv nd) (gC:tv=.slice a n c z) (hl:nd.length<=4096)
  (jJ:p<U.length) (fL:∀b o,fr b=some o->U[b]? =some o)
  (kv:∀tb,(∃n c z,tv=.slice (some (tb,0)) n c z)\/U.length<=tb->KV fr U p tb v x.kids)
  (hk:∀b U',(∀b' o,fr b'=some o->U'[b']? =some o)->U'[p]? =U[p]? ->fj fr U' p (.slice (some (b,0)) (nd.length+1) none 6) (nd++[x])->Wp Q λu=>K u (some (b,0)) (nd.length+1) none U'):
  Wp Q λu=>dT U 42 6 72 a n z 1 [.int .i64 x.kind,.int .i64 x.at_,.str x.text,.int .i64 x.n,.int .i64 x.m,v] (K u):=by
 have lV {b:Nat} (hb:U.length<=b):fr b=none:=by
  cases hf:fr b with
  |none=>rfl
  |some o=>have:=bB (fL b o hf);omega
 cases hn with
 |zero z'=>
  cases gC;refine Wp.sj (by decide) (by decide) (hk U.length _ (λb o hb=>?_) ?_ ?_)
  ·rw[bO (bB (fL b o hb))];exact fL b o hb
  ·rw[bO jJ]
  ·have dc:=kv U.length (.inr (aA _));refine fj.one U.length [(x,v)] ?_ (lV (aA _)) (by omega) λy hy=>?_
   ·rw[bQ (aA _)];simp[jT]
   ·simp at hy;subst hy;exact dc.mono λb hb _ _=>bO hb
 |one tb l hb hf hp bh=>
  cases gC;have dr:=bB hb;rw[lz]at hl hk;refine Wp.sk hb (by rw[DY vr];omega) (by omega) (hk U.length _ (λb o pq=>?_) ?_ ?_)
  ·have bD:tb≠b:=λe=>by subst e;rw[hf]at pq;cases pq
   rw[bO (by simpa using bB (fL b o pq)),aD bD];exact fL b o pq
  ·rw[bO (by simpa using jJ),aD hp]
  ·have dc:=kv tb (.inl ⟨_,_,_,rfl⟩);have td:∀b,b<U.length->b≠tb->(U.set tb .dead++[aq.cells (((l.flatMap jT).drop 0).take (l.length*6)++[.int .i64 x.kind,.int .i64 x.at_,.str x.text,.int .i64 x.n,.int .i64 x.m,v]) (.rw (iq (.row 42) 42))])[b]? =U[b]?:=λb hb bD=>by
    rw[bO (by simpa using hb),aD (cY bD)]
   have mv {w:AV} {ks:List Nat} (hw:KV fr U p tb w ks):KV fr (U.set tb .dead++[aq.cells (((l.flatMap jT).drop 0).take (l.length*6)++[.int .i64 x.kind,.int .i64 x.at_,.str x.text,.int .i64 x.n,.int .i64 x.m,v]) (.rw (iq (.row 42) 42))]) p U.length w ks:=by
    cases hw with
    |zero z=>exact .zero z
    |one b c hc hb hf hp ht=>exact .one b c hc (by rw[td b (bB hb) ht];exact hb) hf hp (by have:=bB hb;omega)
   have:=fj.one (fr:=fr) (p:=p) (U:=U.set tb .dead++[aq.cells (((l.flatMap jT).drop 0).take (l.length*6)++[.int .i64 x.kind,.int .i64 x.at_,.str x.text,.int .i64 x.n,.int .i64 x.m,v]) (.rw (iq (.row 42) 42))]) U.length (l++[(x,v)]) ?_ (lV (aA _)) (by omega) λy hy=>?_
   ·rw[az,p9,fi]at this;exact this
   ·rw[bQ (by simp)];simp only[iA,gJ,ja,dP];have e:((l.flatMap jT).drop 0).take (l.length*6)=l.flatMap jT:=by rw[iy,<-DY vr l,j8]
    rw[e,List.flatMap_append];rfl
   ·rcases cX.1 hy with hy|hy
    ·exact mv (bh y hy)
    ·simp at hy;subst hy;exact mv dc
theorem KR.kv {v tv:AV} {kids:List Nat} (h:KR s fr U p st v kids) (hc:bz U p s st.gV st.tok tv d) (tb:Nat) (ht:(∃n c z,tv=.slice (some (tb,0)) n c z)\/U.length<=tb):KV fr U p tb v kids:=by
 cases h with
 |zero z h=>exact .zero z
 |one b c mK hf kf h=>
  have hb:=h.1.bE b _ iN;refine .one b c mK hb hf (λe=>?_) λe=>?_
  ·subst e;have:=h.1.pf;rw[iN]at this;cases this
  ·subst e;rcases ht with⟨n,c',z,rfl⟩|ht
   ·obtain⟨FN,gd,hn⟩:=h.1.c;have e:FN=.slice (some (b,0)) n c' z:=by have:=gd.h;rw[hc.h]at this;simp[rc]at this;exact this.1.symm
    generalize st.nodes=nd at hn;cases hn with
    |zero z=>cases e
    |one tb l hb hf hp hk=>cases e;rw[iN]at hf;cases hf
   ·have:=bB hb;omega
theorem xo {x:Node} {v:AV} {o:Except bd (Nat×PS (ai s))} (h:KR s fr U p st v x.kids) (ho:cH x st=some o):
  Fw ae Lb 82 [.ptr (some (p,0)),.agg [.int .i64 x.kind,.int .i64 x.at_,.str x.text,.int .i64 x.n,.int .i64 x.m,v]] U (PQ s fr p aj o):=by
 obtain⟨a,n,c,z,rfl⟩:=h.slice;refine ZX ?_;have hr:=h.rd;obtain⟨tv,hc,hn⟩:=hr.1.c;have hl:=hr.1.bP;have hlen:=zj hn;obtain⟨ta,tc,tz,gC⟩:=hlen;have hk:((st.nodes.length:Int)==(4096:Int))=(st.nodes.length==4096):=cL (b:=4096);simp only[an,hc.nodes,gC,aS,hk];unfold cH at ho;refine Wp.ite (λhb=>?_) λhb=>?_
 ·have hb:st.nodes.length=4096:=by simpa using hb
  rw[if_pos hb]at ho;cases ho;simp only[hr.kL,ag];exact xJ ⟨rfl,st,st.deep,hr.1⟩
 ·have hb:¬st.nodes.length=4096:=by simpa using hb
  rw[if_neg hb]at ho;cases ho;refine ZY ?_;simp only[an,hc.nodes,gC,aS];refine Q4 hn gC hl hr.1.lt hr.1.bE (λtb ht=>h.kv hc tb ht) λb U' h1 h2 h3=>?_;have Bk:bz U' p s st.gV st.tok tv st.deep:=⟨by rw[h2];exact hc.h⟩
  have hw:ah .i64 (((st.nodes.length+1:Nat):Int)-1)=(st.nodes.length:Int):=by rw[wrap64 (by omega) (by omega)];omega
  simp only[Bk.afQ];have gd:bz (U'.set p (.cells (rc s st.gV st.tok (.slice (some (b,0)) (st.nodes.length+1) none 6) st.deep) (.rw (.box 100)))) p s st.gV st.tok (.slice (some (b,0)) (st.nodes.length+1) none 6) st.deep:=Bk.put;simp only[gd.nodes,aS,hw];refine Wp.ret ⟨rfl,⟨hr.1.hs,hr.1.kf,λx y hx=>?_,hr.1.pf,by simp;omega,_,gd,h3.mono λb hb hp=>aD (cY hp)⟩,hr.2⟩;rw[aD (λe=>by subst e;rw[hr.1.pf]at hx;cases hx)];exact h1 x y hx
end
end Go.Front
end
section
set_option maxRecDepth 100000
namespace Go.Front
theorem aeA {c:UInt8} {r:List UInt8} {v:Int} (hc:isDigit c=true) (h:jA 64 (c::r)=.ok v):0<=v/\v<9223372036854775808:=by
 have h1:48<=c.toNat/\c.toNat<=57:=by unfold isDigit at hc;simpa using hc
 unfold jA at h;simp only at h;rw[if_neg (by omega)]at h;cases hu:Lib.parseUintB 64 (c::r)
 case ok u=>
  rw[hu]at h;simp only at h;split at h
  ·cases h
  ·rename_i h2;split at h
   ·cases h
   ·rw[if_neg (by omega)]at h;cases h;have:¬(2^(64-1)<=u):=λh3=>h2 ⟨by omega,h3⟩;have e:(2:Nat)^(64-1)=9223372036854775808:=by decide
    omega
 all_goals rw[hu]at h;cases h
theorem VW {d b:UInt8} (h:fU d=some b) (h0:b≠0):(32<=b.toNat/\b.toNat<=126)\/b=9\/b=10:=by
 unfold fU at h
 repeat' split at h
 all_goals first|cases h|skip
 all_goals simp at h0|-
theorem af3:∀(m:Nat) (l:List UInt8) (n:Nat) {b:List UInt8} {k:Nat},l.length<=m->n<=100->dd l n=some (b,k)->b.length+n<=100/\∀x∈b,(32<=x.toNat/\x.toNat<=126)\/x=9\/x=10:=by
 intro m
 induction m with
 |zero=>intro l n b k hl hn h;cases l with|nil=>simp[dd]at h|cons _ _=>simp at hl
 |succ m ih=>
  intro l n b k hl hn h
  match l with
  | []=>simp[dd]at h
  | [c]=>
   simp only[dd]at h;split at h
   ·simp only[dP,eQ]at h;obtain⟨rfl,_⟩:=h;simp;exact hn
   ·cases h
  |c::d::r=>
   simp only[dd]at h;simp only[cr]at hl;split at h
   ·simp only[dP,eQ]at h;obtain⟨rfl,_⟩:=h;simp;exact hn
   split at h
   ·cases he:fU d with
    |none=>rw[he]at h;cases h
    |some x=>
     rw[he]at h;simp only at h;split at h
     ·cases h
     ·rename_i h0;obtain⟨⟨b',k'⟩,h1,h2⟩:=my.1 h;have:=ih r (n+1) (by omega) (by omega) h1;simp only[eQ]at h2;obtain⟨rfl,_⟩:=h2;refine⟨by simp only[cr];omega,λy hy=>?_⟩;cases hy with
      |head=>exact VW he (λe=>h0 (.inl e))
      |tail _ hy=>exact this.2 y hy
   split at h
   ·rename_i hr;split at h
    ·cases h
    ·obtain⟨⟨b',k'⟩,h1,h2⟩:=my.1 h;have:=ih (d::r) (n+1) (by simp;omega) (by omega) h1;simp only[eQ]at h2;obtain⟨rfl,_⟩:=h2;refine⟨by simp only[cr];omega,λy hy=>?_⟩;cases hy with
     |head=>exact .inl hr
     |tail _ hy=>exact this.2 y hy
   ·cases h
theorem SU {f:UInt8->Bool}:∀(l:List UInt8),∀x∈l.takeWhile f,f x=true
 | [],x,h=>by cases h
 |c::r,x,h=>by
  rw[ug]at h;split at h
  ·cases h with
   |head=>assumption
   |tail _ h=>exact SU r x h
  ·cases h
theorem Jb {l:List UInt8} {k:Nat} {t:List UInt8} {n:Int} {q at_:Nat} (h:one l=some (k,t,n,q)):FV ⟨k,at_,t,n⟩/\(k≠0->1<=q)/\(k=0->l=[]):=by
 cases l with
 |nil=>
  simp only[one,dP,eQ]at h;obtain⟨rfl,_⟩:=h;exact⟨⟨nofun,nofun,nofun⟩,λh=>absurd rfl h,λ_=>rfl⟩
 |cons c r=>
  simp only[one]at h;split at h
  ·rename_i hL;have hw:(c::r).takeWhile (λc=>dK c||isDigit c)=c::r.takeWhile (λc=>dK c||isDigit c):=by rw[ug,if_pos (by rw[hL];rfl)]
   split at h
   ·simp only[dP,eQ]at h;obtain⟨rfl,_,_,rfl⟩:=h;exact⟨⟨nofun,nofun,nofun⟩,λ_=>by rw[hw];simp,nofun⟩
   ·rename_i hnw;split at h
    ·rename_i h14;simp only[dP,eQ]at h;obtain⟨rfl,rfl,_,rfl⟩:=h;refine⟨⟨λ_=>⟨h14,by simpa using hnw,c,_,hw,hL,λx hx=>?_⟩,nofun,nofun⟩,λ_=>by rw[hw];simp,nofun⟩;have:=SU r x hx;simpa using this
    ·cases h
  split at h
  ·rename_i hD;have hw:(c::r).takeWhile isDigit=c::r.takeWhile isDigit:=by rw[ug,if_pos hD]
   cases hp:jA 64 (List.takeWhile isDigit (c::r))
   case ok v=>
    have hr:=hp;rw[hw]at hr;have hr:=aeA hD hr;rw[hp]at h;simp only[numOf]at h;split at h
    ·cases h
    ·simp only[dP,eQ]at h;obtain⟨rfl,_,rfl,rfl⟩:=h;exact⟨⟨nofun,λ_=>hr,nofun⟩,λ_=>by rw[hw];simp,nofun⟩
   all_goals rw[hp]at h;cases h
  split at h
  ·cases hb:dd r 0 with
   |none=>rw[hb]at h;cases h
   |some x=>
    obtain⟨b,k'⟩:=x;rw[hb]at h;have:=af3 r.length r 0 (aA _) (by omega) hb;simp only[je,dP,eQ]at h;obtain⟨rfl,rfl,_,rfl⟩:=h;exact⟨⟨nofun,nofun,λ_=>⟨by have:=this.1;omega,this.2⟩⟩,λ_=>by omega,nofun⟩
  split at h
  ·cases he:escape 39 r with
   |none=>rw[he]at h;cases h
   |some x=>
    obtain⟨b,k'⟩:=x;rw[he]at h;simp only at h;split at h
    ·simp only[dP,eQ]at h;obtain⟨rfl,_,rfl,rfl⟩:=h;exact⟨⟨nofun,λ_=>by have:=UInt8.toNat_lt b;simp only;omega,nofun⟩,λ_=>by omega,nofun⟩
    ·cases h
  ·cases hf:marks.find? λm=>m.isPrefixOf (c::r)with
   |none=>rw[hf]at h;cases h
   |some m=>
    rw[hf]at h;have hm:1<=m.length:=(by decide:∀m∈marks,1<=m.length) m (List.mem_of_find?_eq_some hf);simp only[je,dP,eQ]at h;obtain⟨rfl,_,_,rfl⟩:=h;exact⟨⟨nofun,nofun,nofun⟩,λ_=>hm,nofun⟩
def zE (s:List UInt8):og (ai s) s.length where
 val:=λ(q:Nat)=>q<=s.length
 lo:=λ(q:Nat)=>q
 left:=λ(q:Nat)=>s.length-q
 ok:=by
  refineλ(q:Nat) t (q':Nat) hv h=>?_;have hv:q<=s.length:=hv;have pE:(ai s).eP q=match cut s q with|(f,none)=>.inl f|(_,some (t,q))=>.inr (t,q):=rfl
  rw[pE]at h;have hle:=@Gx s q hv;unfold cut at h hle;simp only at h hle;have hs:=(Cc (s.drop q)).1;rw[mr]at hs;have hq:(q:Nat)<=q+skip false (s.drop q):=Nat.le_add_right _ _;have hf:q+skip false (s.drop q)<=s.length:=by omega
  generalize q+skip false (s.drop q)=from_ at*;cases ho:one (s.drop from_)with
  |none=>rw[ho]at h;cases h
  |some x=>
   obtain⟨k,tx,n,l⟩:=x;rw[ho]at h hle;simp only[je]at h hle;cases h;obtain⟨h1,h2,h3⟩:=Jb (at_:=from_) ho;have h4:=hle rfl;refine⟨h1,hq,hf,λhk=>?_,h4⟩;have:=h2 hk;refine⟨?_,?_,?_⟩
   ·show from_<from_+l;omega
   ·show from_<s.length;omega
   ·show s.length-(from_+l)<s.length-q;omega
 bad:=by
  refineλ(q:Nat) f hv h=>?_;have hv:q<=s.length:=hv;have pE:(ai s).eP q=match cut s q with|(f,none)=>.inl f|(_,some (t,q))=>.inr (t,q):=rfl
  rw[pE]at h;have hs:=(Cc (s.drop q)).1;rw[mr]at hs;unfold cut at h;simp only at h;cases ho:one (s.drop (q+skip false (s.drop q)))with
  |none=>rw[ho]at h;cases h;omega
  |some x=>rw[ho]at h;cases h
end Go.Front
end
section
set_option maxRecDepth 100000
namespace Go.Front
open Go.AM Go.Proofs
def LQ (s:By) (fr:Fr) (p:Nat) (o:Except bd (List Nat×PS (ai s))):bw:=λr U'=>
 match o with
 | .ok (kids,st)=>∃v,r=.ret v/\KR s fr U' p st v kids
 | .error e=>r=.pan (gO e.1 e.2)/\∃st d,de s fr U' p st d
def qF {S:hJ} {α β:Type} (go:α->PM S β):Sum α β->PM S β
 | .inl a=>go a
 | .inr b=>pure b
theorem pP {S:hJ} {α β:Type} (body:α->PM S (Sum α β)) (n:Nat) (a:α):dt body (n+1) a=body a>>=qF (dt body n):=by
 show(body a>>=_)=_;congr 1
theorem pN {S:hJ} {α β:Type} {go:α->PM S β} {a:α}:qF go (.inl a)=go a:=rfl
theorem pO {S:hJ} {α β:Type} {go:α->PM S β} {b:β}:qF go (.inr b)=pure b:=rfl
section
variable {s:By} {fr ed:Fr} {U U':St} {p:Nat} {st st':PS (ai s)} {d d':Int} {α β γ:Type} {enc:α->AV} {ot:β->AV} {f:FuncId} {xs:List AV} {v:AV} {kids:List Nat}
theorem KR.call {Q:bw} {m:PM (ai s) α} {k:α->PM (ai s) β} {o:Except bd (β×PS (ai s))} {K:Fu->AV->St->Out} (hf:Sp s f xs enc m) (h:KR s fr U p st v kids) (ho:(m>>=k) st=some o)
  (hp:∀e,o=.error e->∀U',(∃st d,de s fr U' p st d)->Q (.pan (gO e.1 e.2)) U') (hk:∀a ak U1,KR s fr U1 p ak v kids->k a ak=some o->Wp Q λu=>K u (enc a) U1):
  Wp Q λu=>cW ae Lb u.n f (.ptr (some (p,0))::xs) U (K u):=by
 obtain⟨ed,h1,h2,h3⟩:=h.xf;exact Rd.su hf h1 ho (λe he U' hx=>by obtain⟨st,d,hx⟩:=hx;exact hp e he U' ⟨st,d,h3 U' st d hx⟩) λa ak U1 h4 h5=>hk a ak U1 (h2 U1 ak h4) h5
theorem KR.di {Q:bw} {m:PM (ai s) α} {k:α->PM (ai s) β} {o:Except bd (β×PS (ai s))} {K:Fu->AV->St->Out} {R:Fu->St->Out} (hf:Sp s f xs enc m) (h:KR s fr U p st v kids) (ho:(m>>=k) st=some o)
  (hp:∀e,o=.error e->∀U',(∃st d,de s fr U' p st d)->Q (.pan (gO e.1 e.2)) U') (hk:∀a ak U1,KR s fr U1 p ak v kids->k a ak=some o->Wp Q λu=>K u (enc a) U1):
  Wp Q λu=>ck ae Lb u.n f (.ptr (some (p,0))::xs) U (K u) λv U=>bC ae Lb u.n 193 [.ptr (some (p,0))] (some v) U λx U'=>bq x (λv'=>some (.pan v',U')) (R u U'):=by
 obtain⟨ed,h1,h2,h3⟩:=h.xf;exact Rd.Lr hf h1 ho (λe he U' hx=>by obtain⟨st,d,hx⟩:=hx;exact hp e he U' ⟨st,d,h3 U' st d hx⟩) λa ak U1 h4 h5=>hk a ak U1 (h2 U1 ak h4) h5
theorem PQ.err {o:Except bd (α×PS (ai s))}:∀e,o=.error e->∀U',(∃st d,de s fr U' p st d)->PQ s fr p enc o (.pan (gO e.1 e.2)) U':=λe he U' hx=>by subst he;exact⟨rfl,hx⟩
theorem LQ.err {o:Except bd (List Nat×PS (ai s))}:∀e,o=.error e->∀U',(∃st d,de s fr U' p st d)->LQ s fr p o (.pan (gO e.1 e.2)) U':=λe he U' hx=>by subst he;exact⟨rfl,hx⟩
theorem KR.fh {x:Node} {o:Except bd (Nat×PS (ai s))} {K:Fu->AV->St->Out} {args:List AV} (h:KR s fr U p st v x.kids) (ho:cH x st=some o)
  (ha:args=[.ptr (some (p,0)),.agg [.int .i64 x.kind,.int .i64 x.at_,.str x.text,.int .i64 x.n,.int .i64 x.m,v]]) (hk:∀u a U1,K u (aj a) U1=some (.ret (aj a),U1)):
  Wp (PQ s fr p aj o) λu=>cW ae Lb u.n 82 args U (K u):=by
 subst ha;have hf:=xo h ho;cases o with
 |error e=>exact Wp.call hf (λv U' hv=>by cases hv.1) λv U' hv=>hv
 |ok x=>
  refine Wp.call hf (λv U' hv=>?_) λv U' hv=>by cases hv.1
  obtain⟨hv,hx⟩:=hv;cases hv;simp only[hk];exact Wp.ret ⟨rfl,hx⟩
theorem KR.node {Q:bw} {x:Node} {k:Nat->PM (ai s) β} {o:Except bd (β×PS (ai s))} {K:Fu->AV->St->Out} {args:List AV} (h:KR s fr U p st v x.kids) (ho:(cH x>>=k) st=some o)
  (ha:args=[.ptr (some (p,0)),.agg [.int .i64 x.kind,.int .i64 x.at_,.str x.text,.int .i64 x.n,.int .i64 x.m,v]])
  (hp:∀e,o=.error e->∀U',(∃st d,de s fr U' p st d)->Q (.pan (gO e.1 e.2)) U') (hk:∀a ak U1,Rd s fr U1 p ak->k a ak=some o->Wp Q λu=>K u (aj a) U1):
  Wp Q λu=>cW ae Lb u.n 82 args U (K u):=by
 subst ha;rcases PM.bind_some ho with⟨e,h1,h2⟩|⟨a,ak,h1,h2⟩
 ·exact Wp.call (xo h h1) (λv U' hv=>by cases hv.1) λv U' hv=>by obtain⟨hv,hx⟩:=hv;cases hv;exact hp e h2 U' hx
 ·refine Wp.call (xo h h1) (λv U' hv=>?_) λv U' hv=>by cases hv.1
  obtain⟨hv,hx⟩:=hv;cases hv;exact hk a ak U' hx h2
theorem KR.rL {Q:bw} {x:Node} {k:Nat->PM (ai s) β} {o:Except bd (β×PS (ai s))} {K:Fu->AV->St->Out} {R:Fu->St->Out} {args:List AV} (h:KR s fr U p st v x.kids) (ho:(cH x>>=k) st=some o)
  (ha:args=[.ptr (some (p,0)),.agg [.int .i64 x.kind,.int .i64 x.at_,.str x.text,.int .i64 x.n,.int .i64 x.m,v]])
  (hp:∀e,o=.error e->∀U',(∃st d,de s fr U' p st d)->Q (.pan (gO e.1 e.2)) U') (hk:∀a ak U1,Rd s fr U1 p ak->k a ak=some o->Wp Q λu=>K u (aj a) U1):
  Wp Q λu=>ck ae Lb u.n 82 args U (K u) λv U=>bC ae Lb u.n 193 [.ptr (some (p,0))] (some v) U λx U'=>bq x (λv'=>some (.pan v',U')) (R u U'):=by
 subst ha;rcases PM.bind_some ho with⟨e,h1,h2⟩|⟨a,ak,h1,h2⟩
 ·exact Wp.di (xo h h1) (λv U' hv=>by cases hv.1) λv U' hv=>by obtain⟨hv,aX,d2,hx⟩:=hv;cases hv;exact hx.S3 (hp e h2)
 ·refine Wp.di (xo h h1) (λv U' hv=>?_) λv U' hv=>by cases hv.1
  obtain⟨hv,hx⟩:=hv;cases hv;exact hk a ak U' hx h2
theorem ac5 {ex:Nat->PM (ai s) Nat} (hex:∀l:Nat,Sp s 195 [.int .i64 (l:Int)] aj (ex l)):∀(n:Nat) {acc:List Nat} {U:St} {st:PS (ai s)} {a:Ad} {k z:Nat} {c:On} {o:Except bd (List Nat×PS (ai s))},
  acc.length+n<=1000000000->KR s fr U p st (.slice a k c z) acc->dt (tB ex) n acc st=some o->
  Wp (LQ s fr p o) λu=>AN u.n u.m1 (some (p,0)) none 0 (some 0) 0 a k c z U:=by
 intro n
 induction n with
 |zero=>intro acc U st a k z c o _ _ ho;cases ho
 |succ n ih=>
  intro acc U st a k z c o hl h ho;refine X8 ?_;rw[pP]at ho;simp only[tB,PM.bind_assoc,PM.jN,PM.pure_bind,pN,pO]at ho;refine KR.call (hex 1) h ho LQ.err λx ak U1 h ho=>?_;simp only[aj,ag];refine h.app rfl (by omega) λb U2 h=>?_;refine KR.call (jV [41]) h ho LQ.err λy ak U1 h ho=>?_;simp only[cO,bp];refine Wp.ite (λhb=>?_) λhb=>?_
  ·simp only[hb,if_true]at ho;rw[PM.zq]at ho;cases ho;exact Wp.ret ⟨_,rfl,h⟩
  ·simp only[hb,aW,if_false]at ho;refine KR.call (iP [44]) h ho LQ.err λy ak U1 h ho=>?_;exact ih (by simp;omega) h ho
theorem list_fn {ex:Nat->PM (ai s) Nat} (hex:∀l:Nat,Sp s 195 [.int .i64 (l:Int)] aj (ex l)) {n:Nat} (hn:n<=1000000000) {o:Except bd (List Nat×PS (ai s))} (h:Rd s fr U p st) (ho:vp ex n st=some o):
  Fw ae Lb 226 [.ptr (some (p,0))] U (LQ s fr p o):=by
 refine X7 ?_;unfold vp at ho;refine Rd.su (jV [41]) h ho LQ.err λy ak U1 h ho=>?_;simp only[cO,bp];refine Wp.ite (λhb=>?_) λhb=>?_
 ·simp only[hb,if_true]at ho;rw[PM.zq]at ho;cases ho;exact Wp.ret ⟨_,rfl,.zero 0 h⟩
 ·simp only[hb,aW,if_false]at ho;refine Wp.cD (F:=λn m=>AN n m (some (p,0)) none 0 (some 0) 0 none 0 (some 0) 0 U1) ?_;exact ac5 hex n (by simp;omega) (.zero 0 h) ho
theorem aeJ {ex:Nat->PM (ai s) Nat} (hex:∀l:Nat,Sp s 195 [.int .i64 (l:Int)] aj (ex l)) {n:Nat} (hn:n<=1000000000):Sp s 218 [] aj (mV ex n):=by
 intro fr U p st o h ho;refine X4 ?_;unfold mV at ho;rw[tQ]at ho;generalize ht:st.tok=t at*;have e3:((t.kind:Int)==(3:Int))=decide (t.kind=3):=cL (b:=3);have e4:((t.kind:Int)==(4:Int))=decide (t.kind=4):=cL (b:=4);have e1:((t.kind:Int)==(1:Int))=decide (t.kind=1):=cL (b:=1);simp only[an,h.tok,ht,Tok.av,Tok.cells,bK,bc,ag,aG,aZ,e3,e4,e1];refine Wp.ite (λhb=>?_) λhb=>Wp.ite (λbR=>?_) λbR=>Wp.ite (λdG=>?_) λdG=>?_
 ·rw[if_pos (of_decide_eq_true hb)]at ho;refine Rd.call qG h ho λ_ ak U1 h ho=>?_;simp only[Tok.av,Tok.cells,bK,bc,ag,aG,aZ];exact KR.fh (.zero 0 h) ho rfl λu a U1=>by simp only[aj,ag]
 ·rw[if_neg (of_decide_eq_false hb),if_pos (of_decide_eq_true bR)]at ho;refine Rd.call qG h ho λ_ ak U1 h ho=>?_;simp only[Tok.av,Tok.cells,bK,bc,ag,aG,aZ];exact KR.fh (.zero 0 h) ho rfl λu a U1=>by simp only[aj,ag]
 ·rw[if_neg (of_decide_eq_false hb),if_neg (of_decide_eq_false bR),if_pos (of_decide_eq_true dG)]at ho;refine Rd.call qG h ho λ_ ak U1 h ho=>?_;simp only[Tok.av,Tok.cells,bK,bc,ag,aG,aZ];refine Rd.call (tp [40]) h ho λb ak U1 h ho=>?_;simp only[cO,bp];refine Wp.ite (λhb=>?_) λhb=>?_
  ·have hb:b=false:=by simpa using hb
   simp only[hb,aW,if_false]at ho;exact KR.fh (.zero 0 h) ho rfl λu a U1=>by simp only[aj,ag]
  ·have hb:b=true:=by simpa using hb
   simp only[hb,if_true]at ho;refine Rd.call qG h ho λ_ ak U1 h ho=>?_;simp only[Tok.av,Tok.cells,bK,bc,ag,aG,aZ];rcases PM.bind_some ho with⟨e,h1,h2⟩|⟨l,aX,h1,h2⟩
   ·subst h2;exact Wp.call (list_fn hex hn h h1) (λv U' hv=>by obtain⟨hv,_⟩:=hv;cases hv) λv U' hv=>hv
   ·refine Wp.call (list_fn hex hn h h1) (λv U' hv=>?_) λv U' hv=>by obtain⟨_,hv,_⟩:=hv;cases hv
    obtain⟨v',hv,PB⟩:=hv;cases hv;obtain⟨a,n,c,z,rfl⟩:=PB.slice;simp only[aS];exact KR.fh PB h2 rfl λu a U1=>by simp only[aj,ag]
 ·rw[if_neg (of_decide_eq_false hb),if_neg (of_decide_eq_false bR),if_neg (of_decide_eq_false dG)]at ho;refine Rd.call (iP [40]) h ho λ_ ak U1 h ho=>?_;refine Rd.call (hex 1) h ho λx ak U1 h ho=>?_;simp only[aj,ag];refine Rd.call (iP [41]) h ho λ_ ak U1 h ho=>?_;exact Rd.ret (enc:=aj) h ho
theorem JU {op:PM (ai s) Nat} (eF:Sp s 208 [] aj op) {at_:Nat} {k:Int} {o:Except bd (Nat×PS (ai s))} (h:Rd s fr U p st) (ho:(pX op at_ k>>=λx=>kO>>=λ_=>pure x) st=some o):
  Wp (PQ s fr p aj o) λu=>Dn u.n u.m1 (some (p,0)) 0 at_ k [] [45] [33] [126] k true (some (p,0)) U:=by
 refine M4 ?_;unfold pX at ho;simp only[PM.bind_assoc]at ho;refine Wp.pos rfl ?_;refine Rd.di eF h ho λx ak U1 h ho=>?_;simp only[aj,ag];refine KR.rL (h.new [x] rfl rfl rfl) ho rfl PQ.err λy ak U1 h ho=>?_;simp only[aj,ag];exact Rd.pY h ho
theorem abQ {ex:Nat->PM (ai s) Nat} (hex:∀l:Nat,Sp s 195 [.int .i64 (l:Int)] aj (ex l)):∀(n:Nat) {x:Nat} {U:St} {st:PS (ai s)} {o:Except bd (Nat×PS (ai s))},
  Rd s fr U p st->(dt (indexB ex) n x>>=λx=>kO>>=λ_=>pure x) st=some o->
  Wp (PQ s fr p aj o) λu=>AJ u.n u.m1 (some (p,0)) 0 x (some (p,0)) U:=by
 intro n
 induction n with
 |zero=>intro x U st o _ ho;rw[PM.bind_none rfl]at ho;cases ho
 |succ n ih=>
  intro x U st o h ho;refine XU ?_;rw[pP]at ho;simp only[indexB,PM.bind_assoc,PM.jN,PM.pure_bind,pN,pO]at ho;refine Rd.di (jV [91]) h ho λb ak U1 h ho=>?_;simp only[cO,bp];refine Wp.ite (λhb=>?_) λhb=>?_
  ·simp only[hb,if_true]at ho;refine Rd.di (hex 1) h ho λi ak U1 h ho=>?_;simp only[aj,ag];refine Rd.di (iP [93]) h ho λ_ ak U1 h ho=>?_;obtain⟨y,hy,ho⟩:=Fa ho;simp only[an,h.nodeAt hy,ag];refine KR.rL (h.new [x,i] rfl rfl rfl) ho rfl PQ.err λy ak U1 h ho=>?_;simp only[aj,ag];exact ih h ho
  ·simp only[hb,aW,if_false]at ho;refine XT ?_;exact Rd.pY (a:=x) h ho
theorem aeu {op:PM (ai s) Nat} {ex:Nat->PM (ai s) Nat} (eF:Sp s 208 [] aj op) (hex:∀l:Nat,Sp s 195 [.int .i64 (l:Int)] aj (ex l)) {n:Nat} (hn:n<=1000000000):Sp s 208 [] aj (qI op ex n):=by
 intro fr U p st o h ho;refine XQ ?_;unfold qI at ho;refine Rd.call L8 h ho λ_ ak U1 h ho=>?_;rw[tQ]at ho;simp only[an,h.kL,ag];generalize ak.tok.at_=at_ at ho|-;unfold th at ho;simp only[PM.bind_assoc,PM.jN]at ho;have p0 (f:AV->Out):dY ae 9 [.str [],.str [45],.str [33],.str [126]] ((0:Int).toNat*1) f=f (.str []):=qJ kX rfl;have p1 (f:AV->Out):dY ae 9 [.str [],.str [45],.str [33],.str [126]] ((1:Int).toNat*1) f=f (.str [45]):=qJ kX rfl;have p2 (f:AV->Out):dY ae 9 [.str [],.str [45],.str [33],.str [126]] ((2:Int).toNat*1) f=f (.str [33]):=qJ kX rfl;have p3 (f:AV->Out):dY ae 9 [.str [],.str [45],.str [33],.str [126]] ((3:Int).toNat*1) f=f (.str [126]):=qJ kX rfl;have w0:ah .i64 ((0:Int)+1)=1:=by decide
 have w1:ah .i64 ((1:Int)+1)=2:=by decide
 have w2:ah .i64 ((2:Int)+1)=3:=by decide
 have w3:ah .i64 ((3:Int)+1)=4:=by decide
 have skip {i j:Int} {U:St} (hw:ah .i64 (i+1)=j) (hr:Wp (PQ s fr p aj o) λu=>yf u.n u.m1 (some (p,0)) 0 at_ [] [45] [33] [126] j (some (p,0)) U):Wp (PQ s fr p aj o) λu=>Dn u.n u.m1 (some (p,0)) 0 at_ i [] [45] [33] [126] i false (some (p,0)) U:=by
  refine M4 ?_;simp only[hw];exact Wp.neg rfl hr
 refine Wp.cD (F:=λn m=>yf n m (some (p,0)) 0 at_ [] [45] [33] [126] 0 (some (p,0)) U1) (AI ?_);simp only[p0,aG,bm (show(0:Int)<=0/\(0:Int)<((4:Nat):Int)from by decide)];refine Wp.pos (by decide) (Wp.neg (by decide) ?_);refine XR ?_;simp only[w0];refine AI ?_;simp only[p1,aG,bm (show(0:Int)<=1/\(1:Int)<((4:Nat):Int)from by decide)];refine Wp.pos (by decide) (Wp.pos (by decide) ?_);refine Rd.di (jV [45]) h ho λb ak U1 h ho=>?_;simp only[cO,bp];cases b
 case true=>simp only[if_true]at ho;exact JU eF h ho
 simp only[aW,if_false]at ho;refine skip w1 (AI ?_);simp only[p2,aG,bm (show(0:Int)<=2/\(2:Int)<((4:Nat):Int)from by decide)];refine Wp.pos (by decide) (Wp.pos (by decide) ?_);refine Rd.di (jV [33]) h ho λb ak U1 h ho=>?_;simp only[cO,bp];cases b
 case true=>simp only[if_true]at ho;exact JU eF h ho
 simp only[aW,if_false]at ho;refine skip w2 (AI ?_);simp only[p3,aG,bm (show(0:Int)<=3/\(3:Int)<((4:Nat):Int)from by decide)];refine Wp.pos (by decide) (Wp.pos (by decide) ?_);refine Rd.di (jV [126]) h ho λb ak U1 h ho=>?_;simp only[cO,bp];cases b
 case true=>simp only[if_true]at ho;exact JU eF h ho
 simp only[aW,if_false]at ho;refine skip w3 (AI ?_);refine Wp.neg (by decide) ?_;refine XS ?_;refine Rd.di (aeJ hex hn) h ho λx ak U1 h ho=>?_;simp only[aj,ag];refine Wp.cD (F:=λn m=>AJ n m (some (p,0)) 0 x (some (p,0)) U1) ?_;exact abQ hex n h ho
theorem V6 {ex:Nat->PM (ai s) Nat} (hex:∀l:Nat,Sp s 195 [.int .i64 (l:Int)] aj (ex l)) {lvl:Nat}:∀(n:Nat) {x:Nat} {U:St} {st:PS (ai s)} {o:Except bd (Nat×PS (ai s))},
  Rd s fr U p st->dt (k8 ex lvl) n x st=some o->Wp (PQ s fr p aj o) λu=>AE u.n u.m1 (some (p,0)) lvl 0 x U:=by
 intro n
 induction n with
 |zero=>intro x U st o _ ho;cases ho
 |succ n ih=>
  intro x U st o h ho;refine Xx ?_;have e5:((st.tok.kind:Int)==(5:Int))=decide (st.tok.kind=5):=cL (b:=5);simp only[an,h.kind,h.text,ag,aG,e5];rw[pP]at ho;simp only[k8,PM.bind_assoc,PM.jN,PM.pure_bind,pN,pO]at ho;rw[tQ]at ho;have go {q:Nat} {U:St} (h:Rd s fr U p st) (ho:(if q=0 then pure x else if level q<lvl then pure x else cU>>=λ_=>ex (level q+1)>>=λy=>iu x>>=λa=>cH ⟨7,a.at_,[],q,0,[x,y]⟩>>=λz=>dt (k8 ex lvl) n z:PM (ai s) Nat) st=some o):
    Wp (PQ s fr p aj o) λu=>Di u.n u.m1 (some (p,0)) lvl 0 x q U:=by
   refine Xw ?_;have e0:((q:Int)==(0:Int))=decide (q=0):=cL (b:=0);simp only[e0];refine Wp.ite (λhb=>?_) λhb=>?_
   ·rw[if_pos (of_decide_eq_true hb)]at ho;exact Rd.ret (enc:=aj) h ho
   ·rw[if_neg (of_decide_eq_false hb)]at ho;refine Wp.call (BV q) (λv U' hv=>?_) λv U' hv=>by cases hv.1
    obtain⟨hv,rfl⟩:=hv;cases hv;have GF:decide (((level q:Nat):Int)<(lvl:Int))=decide (level q<lvl):=by rw[decide_eq_decide];omega
    simp only[ag,GF];refine Wp.ite (λbR=>?_) λbR=>?_
    ·rw[if_pos (of_decide_eq_true bR)]at ho;exact Rd.ret (enc:=aj) h ho
    ·rw[if_neg (of_decide_eq_false bR)]at ho;refine Rd.call qG h ho λ_ ak U1 h ho=>?_;simp only[Tok.av,Tok.cells,bK,bc,ag,aG,aZ];refine Wp.call (BV q) (λv U' hv=>?_) λv U' hv=>by cases hv.1
     obtain⟨hv,rfl⟩:=hv;cases hv;have pD:level q<=10:=by
      rcases gu q 22 with hq|hq
      ·exact(by decide:∀q<22,level q<=10) q hq
      ·unfold level;rw[gq,fP (by simp;omega)];simp
     have hw:ah .i64 (((level q:Nat):Int)+1)=((level q+1:Nat):Int):=by rw[wrap64 (by omega) (by omega)];omega
     simp only[ag,hw];refine Rd.call (hex (level q+1)) h ho λy ak U1 h ho=>?_;simp only[aj,ag];obtain⟨d,hd,ho⟩:=Fa ho;simp only[an,h.nodeAt hd,ag];refine KR.node (h.new [x,y] rfl rfl rfl) ho rfl PQ.err λz ak U1 h ho=>?_;simp only[aj,ag];exact ih h ho
  refine Wp.ite (λhb=>?_) λhb=>?_
  ·rw[if_pos (of_decide_eq_true hb)]at ho;refine Wp.call (Uk h.kn st.tok.text) (λv U' hv=>?_) λv U' hv=>by cases hv.1
   obtain⟨hv,rfl⟩:=hv;cases hv;simp only[ag];exact go (h.app _) ho
  ·rw[if_neg (of_decide_eq_false hb)]at ho;exact go (q:=0) h ho
theorem V9 {op:PM (ai s) Nat} {ex:Nat->PM (ai s) Nat} (eF:Sp s 208 [] aj op) (hex:∀l:Nat,Sp s 195 [.int .i64 (l:Int)] aj (ex l)) {n:Nat} (lvl:Nat):Sp s 195 [.int .i64 (lvl:Int)] aj (qn op ex n lvl):=by
 intro fr U p st o h ho;refine Xv ?_;unfold qn at ho;refine Rd.call eF h ho λx ak U1 h ho=>?_;simp only[aj,ag];refine Wp.cD (F:=λn m=>AE n m (some (p,0)) lvl 0 x U1) ?_;exact V6 hex n h ho
theorem VX:∀(n:Nat),n<=1000000000->Sp s 208 [] aj (ou n none)/\∀l:Nat,Sp s 195 [.int .i64 (l:Int)] aj (ou n (some l)):=by
 intro n
 induction n with
 |zero=>
  intro _;refine⟨?_,λl=>?_⟩
  ·intro fr U p st o h ho;cases ho
  ·intro fr U p st o h ho;cases ho
 |succ n ih=>
  intro hn;obtain⟨h1,h2⟩:=ih (by omega);exact⟨aeu h1 h2 (by omega),λl=>V9 h1 h2 l⟩
end
end Go.Front
end
section
set_option maxRecDepth 100000
namespace Go.Front
open Go.AM Go.Proofs
def rM (x:Nat×By×Int):AV:=.agg [.int .i64 18,.int .i64 (x.1:Int),.str x.2.1,.int .i64 0,.int .i64 x.2.2,.slice none 0 (some 0) 0]
section
variable {s:By} {fr ed:Fr} {U U':St} {p:Nat} {st st':PS (ai s)} {d d':Int} {α β γ:Type} {enc:α->AV} {ot:β->AV} {f:FuncId} {xs:List AV} {v:AV} {kids:List Nat}
theorem Rs:Sp s 150 [] rM rN:=by
 intro fr U p st o h ho;refine WW ?_;unfold rN at ho;rw[tQ]at ho;simp only[an,h.kL,ag];generalize st.tok.at_=a at ho|-;have fin {ty:Int} {U:St} {st:PS (ai s)} (h:Rd s fr U p st) (ho:(me 1>>=λnm=>(pure (a,nm.text,ty):PM (ai s) _)) st=some o):
   Wp (PQ s fr p rM o) λu=>Ay u.n (some (p,0)) a ty 0 0 [] 0 0 none 0 (some 0) 0 U:=by
  refine WX ?_;refine Rd.call (EJ 1) h ho λt ak U1 h ho=>?_;simp only[Tok.av,Tok.cells,bK,bc,ag,aG,aZ];exact Rd.ret (enc:=rM) h ho
 refine Rd.call (jV [99,104,97,114]) h ho λb ak U1 h ho=>?_;simp only[cO,bp];refine Wp.ite (λhb=>?_) λhb=>?_
 ·simp only[hb,if_true]at ho;refine Rd.call (iP [42]) h ho λ_ ak U1 h ho=>?_;exact fin h ho
 ·simp only[hb,aW,if_false]at ho;refine Rd.call (iP [105,110,116]) h ho λ_ ak U1 h ho=>?_;refine Rd.call (jV [42]) h ho λb ak U1 h ho=>?_;simp only[cO,bp];refine Wp.ite (λhb=>?_) λhb=>?_
  ·simp only[hb,if_true]at ho;exact fin h ho
  ·simp only[hb,aW,if_false]at ho;exact fin h ho
theorem LJ {ex:Nat->PM (ai s) Nat} (hex:∀l:Nat,Sp s 195 [.int .i64 (l:Int)] aj (ex l)):Sp s 194 [] aj (q9 ex):=by
 intro fr U p st o h ho;refine Xu ?_;unfold q9 at ho;refine Rd.call (iP [40]) h ho λ_ ak U1 h ho=>?_;refine Rd.call (hex 1) h ho λx ak U1 h ho=>?_;simp only[aj,ag];refine Rd.call (iP [41]) h ho λ_ ak U1 h ho=>?_;exact Rd.ret (enc:=aj) h ho
theorem Ut {sm:PM (ai s) Nat} (eG:Sp s 175 [] aj sm) {at_:Nat}:∀(n:Nat) {acc:List Nat} {U:St} {st:PS (ai s)} {a:Ad} {k z:Nat} {c:On} {o:Except bd (Nat×PS (ai s))},
  acc.length+n<=1000000000->KR s fr U p st (.slice a k c z) acc->(dt (sq sm) n acc>>=λkids=>cU>>=λ_=>cH ⟨17,at_,[],0,0,kids⟩) st=some o->
  Wp (PQ s fr p aj o) λu=>Az u.n u.m1 (some (p,0)) 0 at_ a k c z U:=by
 intro n
 induction n with
 |zero=>intro acc U st a k z c o _ _ ho;rw[PM.bind_none rfl]at ho;cases ho
 |succ n ih=>
  intro acc U st a k z c o hl h ho;refine W0 ?_;rw[pP]at ho;simp only[sq,PM.bind_assoc,PM.jN,PM.pure_bind,pN,pO]at ho;refine KR.call (tp [125]) h ho PQ.err λb ak U1 h ho=>?_;simp only[cO,bp];refine Wp.ite (λhb=>?_) λhb=>?_
  ·have hb:b=false:=by simpa using hb
   simp only[hb,aW,if_false]at ho;refine KR.call eG h ho PQ.err λx ak U1 h ho=>?_;simp only[aj,ag];refine h.app rfl (by omega) λb U2 h=>?_;exact ih (by simp;omega) h ho
  ·have hb:b=true:=by simpa using hb
   simp only[hb,if_true]at ho;refine WZ ?_;refine KR.call qG h ho PQ.err λ_ ak U1 h ho=>?_;simp only[Tok.av,Tok.cells,bK,bc,ag,aG,aZ];exact KR.fh h ho rfl λu a U1=>by simp only[aj,ag]
theorem K5 {sm:PM (ai s) Nat} (eG:Sp s 175 [] aj sm) {n:Nat} (hn:n<=1000000000):Sp s 151 [] aj (q6 sm n):=by
 intro fr U p st o h ho;refine WY ?_;unfold q6 at ho;rw[tQ]at ho;simp only[an,h.kL,ag];generalize st.tok.at_=at_ at ho|-;refine Rd.call (iP [123]) h ho λ_ ak U1 h ho=>?_;refine Wp.cD (F:=λn m=>Az n m (some (p,0)) 0 at_ none 0 (some 0) 0 U1) ?_;exact Ut eG n (by simp;omega) (.zero 0 h) ho
theorem aeE {ex:Nat->PM (ai s) Nat} (hex:∀l:Nat,Sp s 195 [.int .i64 (l:Int)] aj (ex l)) (at_:Nat):Sp s 196 [.int .i64 (at_:Int)] aj (tE ex at_):=by
 intro fr U p st o h ho;refine Xy ?_;unfold tE at ho;refine Rd.call (hex 1) h ho λx ak U1 h ho=>?_;simp only[aj,ag];refine Rd.call (tp [61]) h ho λb ak U1 h ho=>?_;simp only[cO,bp];refine Wp.ite (λhb=>?_) λhb=>?_
 ·simp only[hb,if_true]at ho;obtain⟨y,hy,ho⟩:=Fa ho;have e3:(y.kind !=(3:Int))= !decide (y.kind=3):=by rw[bne];rfl
  have e5:(y.kind !=(5:Int))= !decide (y.kind=5):=by rw[bne];rfl
  simp only[an,h.I5 hy,ag,e3,e5];have go (ho:(cU>>=λ_=>ex 1>>=λy=>eL [59]>>=λ_=>iu x>>=λa=>cH ⟨11,a.at_,[],0,0,[x,y]⟩:PM (ai s) Nat) ak=some o):
    Wp (PQ s fr p aj o) λu=>AF u.n (some (p,0)) at_ 0 x U1:=by
   refine Xz ?_;refine Rd.call qG h ho λ_ ak U1 h ho=>?_;simp only[Tok.av,Tok.cells,bK,bc,ag,aG,aZ];refine Rd.call (hex 1) h ho λy ak U1 h ho=>?_;simp only[aj,ag];refine Rd.call (iP [59]) h ho λ_ ak U1 h ho=>?_;obtain⟨d,hd,ho⟩:=Fa ho;simp only[an,h.nodeAt hd,ag];exact KR.fh (x:=⟨11,d.at_,[],0,0,[x,y]⟩) (h.new (n:=2) (c:=some 2) [x,y] rfl rfl rfl) ho rfl λu a U1=>by simp only[aj,ag]
  refine Wp.ite (λdG=>?_) λdG=>?_
  ·have dG:¬y.kind=3:=by simpa using dG
   refine Wp.ite (λgP=>?_) λgP=>?_
   ·have gP:¬y.kind=5:=by simpa using gP
    rw[if_neg (by omega)]at ho;simp only[h.kL,ag];exact Rd.nW h ho
   ·have gP:y.kind=5:=by simpa using gP
    rw[if_pos (.inr gP)]at ho;exact go ho
  ·have dG:y.kind=3:=by simpa using dG
   rw[if_pos (.inl dG)]at ho;exact go ho
 ·simp only[hb,aW,if_false]at ho;refine Rd.call (iP [59]) h ho λ_ ak U1 h ho=>?_;exact KR.fh (x:=⟨10,at_,[],0,0,[x]⟩) (h.new (n:=1) (c:=some 1) [x] rfl rfl rfl) ho rfl λu a U1=>by simp only[aj,ag]
theorem S6 {ex:Nat->PM (ai s) Nat} (hex:∀l:Nat,Sp s 195 [.int .i64 (l:Int)] aj (ex l)) {i3:Int} {o:Except bd (Nat×PS (ai s))} (h:Rd s fr U p st) (ho:(pZ ex>>=λx=>kO>>=λ_=>pure x) st=some o):
  CZ (MP (Q:=PQ s fr p aj o) (a1:=some (p,0)) (i2:=0) (i3:=i3) (a4:=some (p,0)) (U:=U)):=by
 unfold pZ at ho;simp only[PM.bind_assoc,PM.jN]at ho;refine Rd.di Rs h ho λx ak U1 h ho=>?_;simp only[rM,bK,bc,ag,aG,aS,aZ];refine Rd.di (jV [61]) h ho λb ak U1 h ho=>?_;simp only[cO,bp];refine Wp.ite (λhb=>?_) λhb=>?_
 ·simp only[hb,if_true]at ho;refine Rd.di (hex 1) h ho λy ak U1 h ho=>?_;simp only[aj,ag];refine KR.di (iP [59]) (h.new (n:=1) (c:=some 1) [y] rfl rfl rfl) ho PQ.err λ_ ak U1 h ho=>?_;refine KR.rL h ho rfl PQ.err λy ak U1 h ho=>?_;simp only[aj,ag];exact Rd.pY h ho
 ·simp only[hb,aW,if_false]at ho;refine Rd.di (iP [59]) h ho λ_ ak U1 h ho=>?_;refine KR.rL (.zero 0 h) ho rfl PQ.err λy ak U1 h ho=>?_;simp only[aj,ag];exact Rd.pY h ho
theorem afW {sm:PM (ai s) Nat} {ex:Nat->PM (ai s) Nat} (eG:Sp s 175 [] aj sm) (hex:∀l:Nat,Sp s 195 [.int .i64 (l:Int)] aj (ex l)) {n:Nat} (hn:n<=1000000000):Sp s 175 [] aj (tO sm ex n):=by
 intro fr U p st o h ho;refine Xf ?_;unfold tO at ho;refine Rd.call L8 h ho λ_ ak U1 h ho=>?_;rw[tQ]at ho;simp only[an,h.kL,ag];generalize ak.tok.at_=at_ at ho|-;unfold vI at ho;simp only[PM.bind_assoc,PM.jN]at ho;refine Rd.di (tp [123]) h ho λb ak U1 h ho=>?_;simp only[cO,bp];refine Wp.ite (λhb=>?_) λhb=>?_
 ·simp only[hb,if_true]at ho;refine Rd.di (K5 eG hn) h ho λx ak U1 h ho=>?_;simp only[aj,ag];exact Rd.pY h ho
 simp only[hb,aW,if_false]at ho;clear hb;refine Rd.di (jV [105,102]) h ho λb ak U1 h ho=>?_;simp only[cO,bp];refine Wp.ite (λhb=>?_) λhb=>?_
 ·simp only[hb,if_true]at ho;unfold wZ at ho;simp only[PM.bind_assoc,PM.jN]at ho;refine Rd.di (LJ hex) h ho λc ak U1 h ho=>?_;simp only[aj,ag];refine KR.di eG (h.new (n:=1) (c:=some 1) [c] rfl rfl rfl) ho PQ.err λa ak U1 h ho=>?_;simp only[aj,ag];refine h.app rfl (by simp) λb U2 h=>?_;refine KR.di (jV [101,108,115,101]) h ho PQ.err λy ak U1 h ho=>?_;simp only[cO,bp];refine Wp.ite (λhb=>?_) λhb=>?_
  ·simp only[hb,if_true]at ho;refine KR.di eG h ho PQ.err λe ak U1 h ho=>?_;simp only[aj,ag];refine h.app rfl (by simp) λb U2 h=>?_;refine KR.rL h ho rfl PQ.err λy ak U1 h ho=>?_;simp only[aj,ag];exact Rd.pY h ho
  ·simp only[hb,aW,if_false]at ho;refine KR.rL h ho rfl PQ.err λy ak U1 h ho=>?_;simp only[aj,ag];exact Rd.pY h ho
 simp only[hb,aW,if_false]at ho;clear hb;refine Rd.di (jV [119,104,105,108,101]) h ho λb ak U1 h ho=>?_;simp only[cO,bp];refine Wp.ite (λhb=>?_) λhb=>?_
 ·simp only[hb,if_true]at ho;refine Rd.di (LJ hex) h ho λc ak U1 h ho=>?_;simp only[aj,ag];refine Rd.di eG h ho λa ak U1 h ho=>?_;simp only[aj,ag];refine KR.rL (h.new (n:=2) (c:=some 2) [c,a] rfl rfl rfl) ho rfl PQ.err λy ak U1 h ho=>?_;simp only[aj,ag];exact Rd.pY h ho
 simp only[hb,aW,if_false]at ho;clear hb;refine Rd.di (jV [114,101,116,117,114,110]) h ho λb ak U1 h ho=>?_;simp only[cO,bp];refine Wp.ite (λhb=>?_) λhb=>?_
 ·simp only[hb,if_true]at ho;refine Rd.di (hex 1) h ho λc ak U1 h ho=>?_;simp only[aj,ag];refine Rd.di (iP [59]) h ho λ_ ak U1 h ho=>?_;refine KR.rL (h.new (n:=1) (c:=some 1) [c] rfl rfl rfl) ho rfl PQ.err λy ak U1 h ho=>?_;simp only[aj,ag];exact Rd.pY h ho
 simp only[hb,aW,if_false]at ho;clear hb;refine Rd.di (jV [98,114,101,97,107]) h ho λb ak U1 h ho=>?_;simp only[cO,bp];refine Wp.ite (λhb=>?_) λhb=>?_
 ·simp only[hb,if_true]at ho;refine Rd.di (iP [59]) h ho λ_ ak U1 h ho=>?_;refine KR.rL (.zero 0 h) ho rfl PQ.err λy ak U1 h ho=>?_;simp only[aj,ag];exact Rd.pY h ho
 simp only[hb,aW,if_false]at ho;clear hb;refine Rd.di (jV [99,111,110,116,105,110,117,101]) h ho λb ak U1 h ho=>?_;simp only[cO,bp];refine Wp.ite (λhb=>?_) λhb=>?_
 ·simp only[hb,if_true]at ho;refine Rd.di (iP [59]) h ho λ_ ak U1 h ho=>?_;refine KR.rL (.zero 0 h) ho rfl PQ.err λy ak U1 h ho=>?_;simp only[aj,ag];exact Rd.pY h ho
 simp only[hb,aW,if_false]at ho;clear hb;refine Rd.di (tp [105,110,116]) h ho λb ak U1 h ho=>?_;simp only[cO,bp];refine Wp.ite (λhb=>?_) λhb=>?_
 ·simp only[hb,if_true]at ho;exact MP (S6 hex (i3:=at_) h ho)
 simp only[hb,aW,if_false]at ho;clear hb;refine Rd.di (tp [99,104,97,114]) h ho λb ak U1 h ho=>?_;simp only[cO,bp];refine Xg ?_;refine Wp.ite (λhb=>?_) λhb=>?_
 ·simp only[hb,if_true]at ho;exact S6 hex (i3:=at_) h ho
 simp only[hb,aW,if_false]at ho;refine Rd.di (aeE hex at_) h ho λx ak U1 h ho=>?_;simp only[aj,ag];exact Rd.pY h ho
theorem afF:∀(n:Nat),n<=1000000000->Sp s 175 [] aj (zz n):=by
 intro n
 induction n with
 |zero=>intro _ fr U p st o h ho;cases ho
 |succ n ih=>intro hn;exact afW (ih (by omega)) (VX n (by omega)).2 (by omega)
end
end Go.Front
/-ag4:function,declaration. -/
namespace Go.Front
open Go.AM Go.Proofs
section
variable {s:By} {fr ed:Fr} {U U':St} {p:Nat} {st st':PS (ai s)} {d d':Int} {α β γ:Type} {enc:α->AV} {ot:β->AV} {f:FuncId} {xs:List AV} {v:AV} {kids:List Nat}
theorem KR.len {a:Ad} {n z:Nat} {c:On} (h:KR s fr U p st (.slice a n c z) kids):n=kids.length:=by
 cases h<;>rfl
theorem KR.adE {Q:bw} {x:Node} {k:Nat->PM (ai s) β} {o:Except bd (β×PS (ai s))} {K:Fu->AV->St->Out} {args:List AV} (h:KR s fr U p st v kids) (ho:(cH x>>=k) st=some o) {z:Nat} (hx:x.kids=[])
  (ha:args=[.ptr (some (p,0)),.agg [.int .i64 x.kind,.int .i64 x.at_,.str x.text,.int .i64 x.n,.int .i64 x.m,.slice none 0 (some 0) z]])
  (hp:∀e,o=.error e->∀U',(∃st d,de s fr U' p st d)->Q (.pan (gO e.1 e.2)) U') (hk:∀a ak U1,KR s fr U1 p ak v kids->k a ak=some o->Wp Q λu=>K u (aj a) U1):
  Wp Q λu=>cW ae Lb u.n 82 args U (K u):=by
 obtain⟨ed,h1,h2,h3⟩:=h.xf;exact KR.node (x:=x) (v:=.slice none 0 (some 0) z) (by rw[hx];exact .zero z h1) ho ha (λe he U' hx=>by obtain⟨st,d,hx⟩:=hx;exact hp e he U' ⟨st,d,h3 U' st d hx⟩) λa ak U1 h4 h5=>hk a ak U1 (h2 U1 ak h4) h5
theorem La {n at_:Nat} {nm:By} (hn:n<=1000000000) {a:Ad} {k z:Nat} {c:On} {o:Except bd (Nat×PS (ai s))} (hl:kids.length<=1000000000) (h:KR s fr U p st (.slice a k c z) kids) (ho:np n at_ nm kids st=some o):
  Wp (PQ s fr p aj o) λu=>Da u.n (some (p,0)) at_ nm 0 a k c z U:=by
 obtain rfl:=h.len;refine WD ?_;unfold np at ho;refine KR.call (K5 (afF n hn) hn) h ho PQ.err λb ak U1 h ho=>?_;simp only[aj,ag];refine h.app rfl hl λb U2 h=>?_;exact KR.fh h ho rfl λu a U1=>by simp only[aj,ag]
theorem aey {N at_:Nat} {nm:By} (hN:N<=1000000000):∀(n:Nat) {acc:List Nat} {U:St} {st:PS (ai s)} {a:Ad} {k z:Nat} {c:On} {o:Except bd (Nat×PS (ai s))},
  acc.length+n<=1000000000->KR s fr U p st (.slice a k c z) acc->(dt rO n acc>>=λkids=>np N at_ nm kids) st=some o->
  Wp (PQ s fr p aj o) λu=>Aw u.n u.m1 (some (p,0)) at_ nm 0 a k c z U:=by
 intro n
 induction n with
 |zero=>intro acc U st a k z c o _ _ ho;rw[PM.bind_none rfl]at ho;cases ho
 |succ n ih=>
  intro acc U st a k z c o hl h ho;refine WE ?_;rw[pP]at ho;simp only[rO,PM.bind_assoc,PM.jN,PM.pure_bind,pN,pO]at ho;refine KR.call Rs h ho PQ.err λx ak U1 h ho=>?_;simp only[rM,bK,bc,ag,aG,aS,aZ];refine KR.adE h ho rfl rfl PQ.err λy ak U1 h ho=>?_;simp only[aj,ag];refine h.app rfl (by omega) λb U2 h=>?_;refine KR.call (jV [41]) h ho PQ.err λb ak U1 h ho=>?_;simp only[cO,bp];refine Wp.ite (λhb=>?_) λhb=>?_
  ·simp only[hb,if_true]at ho;exact La hN (by simp;omega) h ho
  ·simp only[hb,aW,if_false]at ho;refine KR.call (iP [44]) h ho PQ.err λ_ ak U1 h ho=>?_;exact ih (by simp;omega) h ho
theorem aaF {n at_:Nat} {nm:By} (hn:n<=1000000000):Sp s 117 [.int .i64 (at_:Int),.str nm] aj (wC n at_ nm):=by
 intro fr U p st o h ho;refine WC ?_;unfold wC at ho;refine Rd.call qG h ho λ_ ak U1 h ho=>?_;simp only[Tok.av,Tok.cells,bK,bc,ag,aG,aZ];refine Rd.call (jV [41]) h ho λb ak U1 h ho=>?_;simp only[cO,bp];refine Wp.ite (λhb=>?_) λhb=>?_
 ·have hb:b=false:=by simpa using hb
  simp only[hb,aW,if_false]at ho;refine Wp.cD (F:=λn m=>Aw n m (some (p,0)) at_ nm 0 none 0 (some 0) 0 U1) ?_;exact aey hn n (by simp;omega) (.zero 0 h) ho
 ·have hb:b=true:=by simpa using hb
  simp only[hb,if_true]at ho;exact La hn (by simp) (.zero 0 h) ho
theorem KS {at_:Nat} {nm:By} {ty:Int} {o:Except bd (Nat×PS (ai s))} (h:Rd s fr U p st) (ho:qX at_ nm ty st=some o):
  Wp (PQ s fr p aj o) λu=>yo u.n (some (p,0)) 0 at_ ty nm U:=by
 refine ZW ?_;unfold qX at ho;refine Rd.call (iP [91]) h ho λ_ ak U1 h ho=>?_;refine Rd.call (EJ 3) h ho λk ak U1 h ho=>?_;simp only[Tok.av,Tok.cells,bK,bc,ag,aG,aZ];refine Rd.call (iP [93]) h ho λ_ ak U1 h ho=>?_;refine Rd.call (iP [59]) h ho λ_ ak U1 h ho=>?_;exact KR.fh (.zero 0 h) ho rfl λu a U1=>by simp only[aj,ag]
theorem Vz {n:Nat} (hn:n<=1000000000):Sp s 81 [] aj (sF n):=by
 intro fr U p st o h ho;refine ZT ?_;unfold sF at ho;rw[tQ]at ho;simp only[an,h.kL,ag];generalize st.tok.at_=at_ at ho|-;refine Rd.call (jV [99,104,97,114]) h ho λb ak U1 h ho=>?_;simp only[cO,bp];refine Wp.ite (λhb=>?_) λhb=>?_
 ·simp only[hb,if_true]at ho;refine Ou ?_;refine Rd.call (EJ 1) h ho λk ak U1 h ho=>?_;simp only[Tok.av,Tok.cells,bK,bc,ag,aG,aZ];refine Wp.neg (by decide) ?_;refine ZV ?_;exact Wp.neg (by decide) (KS h ho)
 ·simp only[hb,aW,if_false]at ho;refine Rd.call (iP [105,110,116]) h ho λ_ ak U1 h ho=>?_;refine Ou ?_;refine Rd.call (EJ 1) h ho λk ak U1 h ho=>?_;simp only[Tok.av,Tok.cells,bK,bc,ag,aG,aZ];refine Wp.pos (by decide) ?_;refine Rd.call (jV [59]) h ho λb ak U1 h ho=>?_;simp only[cO,bp];refine ZU ?_;refine Wp.ite (λhb=>?_) λhb=>?_
  ·simp only[hb,if_true]at ho;exact KR.fh (.zero 0 h) ho rfl λu a U1=>by simp only[aj,ag]
  ·simp only[hb,aW,if_false]at ho;refine Wp.pos (by decide) ?_;refine Rd.call (tp [40]) h ho λb ak U1 h ho=>?_;simp only[cO,bp];refine Wp.ite (λhb=>?_) λhb=>?_
   ·simp only[hb,if_true]at ho;exact Rd.last (aaF hn) h ho λu a U1=>by simp only[aj,ag]
   ·simp only[hb,aW,if_false]at ho;exact KS h ho
theorem KR.UT {Q:bw} {m:PM (ai s) α} {k:α->PM (ai s) β} {o:Except bd (β×PS (ai s))} {K KP:Fu->AV->St->Out} (hf:Sp s f xs enc m) (h:KR s fr U p st v kids) (ho:(m>>=k) st=some o)
  (hp:∀e,o=.error e->∀U',(∃st d,de s fr U' p st d)->Wp Q λu=>KP u (gO e.1 e.2) U') (hk:∀a ak U1,KR s fr U1 p ak v kids->k a ak=some o->Wp Q λu=>K u (enc a) U1):
  Wp Q λu=>ck ae Lb u.n f (.ptr (some (p,0))::xs) U (K u) (KP u):=by
 obtain⟨ed,h1,h2,h3⟩:=h.xf;rcases PM.bind_some ho with⟨e,h4,h5⟩|⟨a,ak,h4,h5⟩
 ·refine Wp.di (hf ed U p st _ h1 h4) (λv U' hv=>by cases hv.1) λv U' hv=>?_;obtain⟨hv,aX,d2,hx⟩:=hv;cases hv;exact hp e h5 U' ⟨aX,d2,h3 U' aX d2 hx⟩
 ·refine Wp.di (hf ed U p st _ h1 h4) (λv U' hv=>?_) λv U' hv=>by cases hv.1
  obtain⟨hv,hx⟩:=hv;cases hv;exact hk a ak U' (h2 U' ak hx) h5
theorem KR.adH {Q:bw} {x:Node} {o:Except bd (Nat×PS (ai s))} {K KP:Fu->AV->St->Out} {args:List AV} (h:KR s fr U p st v x.kids) (ho:cH x st=some o)
  (ha:args=[.ptr (some (p,0)),.agg [.int .i64 x.kind,.int .i64 x.at_,.str x.text,.int .i64 x.n,.int .i64 x.m,v]])
  (hp:∀e,o=.error e->∀U',(∃st d,de s fr U' p st d)->Wp Q λu=>KP u (gO e.1 e.2) U') (hk:∀a ak U1,Rd s fr U1 p ak->o=.ok (a,ak)->Wp Q λu=>K u (aj a) U1):
  Wp Q λu=>ck ae Lb u.n 82 args U (K u) (KP u):=by
 subst ha;cases o with
 |error e=>exact Wp.di (xo h ho) (λv U' hv=>by cases hv.1) λv U' hv=>by obtain⟨hv,hx⟩:=hv;cases hv;exact hp e rfl U' hx
 |ok y=>
  obtain⟨a,ak⟩:=y;refine Wp.di (xo h ho) (λv U' hv=>?_) λv U' hv=>by cases hv.1
  obtain⟨hv,hx⟩:=hv;cases hv;exact hk a ak U' hx rfl
end
inductive fu (U:St):AV->List Nat->Prop
 |zero (z:Nat):fu U (.slice none 0 (some 0) z) []
 |one {kids:List Nat} (b:Nat) (c:On) (hc:∀x,c=some x->kids.length<=x) (hb:aF U b=some (gE kids)):fu U (.slice (some (b,0)) kids.length c 1) kids
inductive vZ (U:St):AV->List Node->Prop
 |zero (z:Nat):vZ U (.slice none 0 (some 0) z) []
 |one (tb:Nat) (c:On) (l:List (Node×AV)) (hb:aF U tb=some (l.flatMap jT)) (hk:∀x∈l,fu U x.2 x.1.kids):vZ U (.slice (some (tb,0)) l.length c 6) (l.map Prod.fst)
def Up (U U':St):Prop:=fG U.length U U'
theorem Up.refl (U:St):Up U U:=fG.refl _ _
theorem Up.trans {U U1 U2:St} (h:Up U U1) (g:Up U1 U2):Up U U2:=⟨ng h.len g.len,λx hx=>(g.same x (Nat.lt_of_lt_of_le hx h.len)).trans (h.same x hx)⟩
theorem Up.app {U:St} (τ:St):Up U (U++τ):=fG.app (aA _)
theorem Up.cells {U U':St} (h:Up U U') {b:Nat} {cs:List AV} (hc:aF U b=some cs):aF U' b=some cs:=by
 unfold aF at hc|-;cases hb:U[b]? with
 |none=>rw[hb]at hc;cases hc
 |some o=>rw[h.same b (bB hb)];exact hc
theorem fu.up {U U':St} (h:Up U U') {v:AV} {kids:List Nat} (hk:fu U v kids):fu U' v kids:=by
 cases hk with
 |zero z=>exact .zero z
 |one b c hc hb=>exact .one b c hc (h.cells hb)
theorem _root_.Go.Proofs.Kn.up {U U':St} (hk:Kn U) (h:Up U U'):Kn U':=by
 have hl:=hk.len;refine⟨?_,?_,?_,?_⟩<;>rw[h.same _ (by omega)]
 ·exact hk.asc
 ·exact hk.pow
 ·exact hk.syn
 ·exact hk.rng
theorem fj.src {fr:Fr} {U:St} {p:Nat} {tv:AV} {nd:List Node} (h:fj fr U p tv nd):vZ U tv nd:=by
 cases h with
 |zero z=>exact .zero z
 |one tb l hb hf hp hk=>
  refine .one tb _ l (by unfold aF;rw[hb]) λx hx=>?_;have:=hk x hx;revert this;generalize x.2=v;generalize x.1.kids=kids;intro this;cases this with
  |zero z=>exact .zero z
  |one b c hc hb hf hp ht=>exact .one b c hc (by unfold aF;rw[hb];rfl)
end Go.Front
/-ahr,and whole. -/
namespace Go.Front
open Go.AM Go.Proofs
theorem Ku:dz ae 4=some false:=by kernel_rfl
def xq (s:By) (n:Nat):Option (Except bd (List Node)):=if s.length>8192 then some (.error (15,0))else qK (ai s) (0:Nat) n
def D0 (U:St):Fr:=λb=>U[b]?
section
variable {s:By} {U0 U U':St} {p:Nat} {st:PS (ai s)} {d:Int}
theorem FE {b:Nat} {t:AV} {m:Mk} {y:AV} {f:St->Out} (h:U[b]? =some (.cells [t] (.rw m))):aT U b 0 [y] f=f (U.set b (.cells [y] (.rw m))):=by
 unfold aT;rw[h];simp only;rw[if_pos (by simp)];rfl
def vu (o:Except bd (Nat×PS (ai s))):Except bd (List Node):=
 match o with
 | .error e=>.error e
 | .ok x=>.ok x.2.nodes
theorem fj.ads {fr:Fr} {tv:AV} {nd:List Node} (h:fj fr U p tv nd) (hs:∀b,b<U.length->fr b=none->b≠p->U'[b]? =U[b]?):fj fr U' p tv nd:=by
 cases h with
 |zero z=>exact .zero z
 |one tb l hb hf hp hk=>
  refine .one tb l (by rw[hs tb (bB hb) hf hp];exact hb) hf hp λx hx=>?_;have:=hk x hx;revert this;generalize x.2=v;generalize x.1.kids=kids;intro this;cases this with
  |zero z=>exact .zero z
  |one b c hc hb hf hp ht=>exact .one b c hc (by rw[hs b (bB hb) hf hp];exact hb) hf hp ht
end
end Go.Front
end
section
set_option maxRecDepth 100000
namespace Go.Front
open Go.AM Go.Proofs
theorem Ks:dz ae 42=some true:=by kernel_rfl
theorem SI:aE ae 42=6:=by kernel_rfl
theorem CA:dz ae 28=some false:=by kernel_rfl
theorem JA:jt ae 3=true:=by kernel_rfl
theorem FD:jt ae 4=true:=by kernel_rfl
theorem C1 {a b:Int}:cu ae 100 3 (.int .i64 a) (.int .i64 b)=some (a==b):=by kernel_rfl
theorem GI {a b:Bool}:cu ae 100 4 (.bool a) (.bool b)=some (a==b):=by kernel_rfl
theorem agY:zeroOf ae 9=some (.str []):=by kernel_rfl
def Src (U:St) (tb:Nat) (nd:List Node):Prop:=∃l:List (Node×AV),l.map Prod.fst=nd/\aF U tb=some (l.flatMap jT)/\∀x∈l,fu U x.2 x.1.kids
theorem vZ.src {U:St} {v:AV} {nd:List Node} (h:vZ U v nd) (bD:nd≠[]):∃tb c,v=.slice (some (tb,0)) nd.length c 6/\Src U tb nd:=by
 cases h with
 |zero z=>exact absurd rfl bD
 |one tb c l hb hk=>exact⟨tb,c,by rw[lz],l,rfl,hb,hk⟩
theorem Src.up {U U':St} {tb:Nat} {nd:List Node} (h:Src U tb nd) (hu:Up U U'):Src U' tb nd:=by
 obtain⟨l,h1,h2,h3⟩:=h;exact⟨l,h1,hu.cells h2,λx hx=>(h3 x hx).up hu⟩
section
variable {U:St} {tb i:Nat} {nd:List Node} {y:Node}
theorem Src.cell {ty j:Nat} {w:AV} (h:Src U tb nd) (hy:nd[i]? =some y) (hj:j<5) (ht:dz ae ty=some false) (hw:∀k,(jT (y,k))[j]? =some w) (f:AV->Out):
  aI ae ty U tb ((0+((i:Int)).toNat*6)+j) f=f w:=by
 obtain⟨l,rfl,h2,h3⟩:=h;rw[gI]at hy;obtain⟨⟨y',k⟩,tg,he⟩:=my.1 hy;simp only at he;subst he;refine cq h2 ht ?_;have:=sL (enc:=jT) (s:=6) vr tg (j:=j) (by omega);rw[show 0+((i:Int)).toNat*6+j=i*6+j from by omega,this,hw]
theorem Src.kind (h:Src U tb nd) (hy:nd[i]? =some y) (f:AV->Out):aI ae 3 U tb ((0+((i:Int)).toNat*6)+0) f=f (.int .i64 y.kind):=h.cell hy (by decide) fA (λ_=>rfl) f
theorem Src.text (h:Src U tb nd) (hy:nd[i]? =some y) (f:AV->Out):aI ae 9 U tb ((0+((i:Int)).toNat*6)+2) f=f (.str y.text):=h.cell hy (by decide) kX (λ_=>rfl) f
theorem Src.num (h:Src U tb nd) (hy:nd[i]? =some y) (f:AV->Out):aI ae 2 U tb ((0+((i:Int)).toNat*6)+3) f=f (.int .i64 y.n):=h.cell hy (by decide) Kq (λ_=>rfl) f
theorem Src.kids (h:Src U tb nd) (hy:nd[i]? =some y):∃kv,fu U kv y.kids/\(∀f,aI ae 28 U tb ((0+((i:Int)).toNat*6)+5) f=f kv)/\
  ∀f,aI ae 42 U tb (0+((i:Int)).toNat*6) f=f (.agg [.int .i64 y.kind,.int .i64 y.at_,.str y.text,.int .i64 y.n,.int .i64 y.m,kv]):=by
 obtain⟨l,rfl,h2,h3⟩:=h;rw[gI]at hy;obtain⟨⟨y',k⟩,tg,he⟩:=my.1 hy;simp only at he;subst he;refine⟨k,h3 _ (fF tg),λf=>?_,λf=>?_⟩
 ·refine cq h2 CA ?_;have:=sL (enc:=jT) (s:=6) vr tg (j:=5) (by omega);rw[show 0+((i:Int)).toNat*6+5=i*6+5 from by omega,this];rfl
 ·unfold aI;rw[h2];simp only;exact xr (enc:=jT) vr Ks SI tg (by omega)
theorem Src.rH (h:Src U tb nd) (hy:nd[i]? =some y):∃kv,fu U kv y.kids/\∀U',Up U U'->(∀f,aI ae 28 U' tb ((0+((i:Int)).toNat*6)+5) f=f kv)/\
  ∀f,aI ae 42 U' tb (0+((i:Int)).toNat*6) f=f (.agg [.int .i64 y.kind,.int .i64 y.at_,.str y.text,.int .i64 y.n,.int .i64 y.m,kv]):=by
 obtain⟨l,rfl,h2,h3⟩:=h;rw[gI]at hy;obtain⟨⟨y',k⟩,tg,he⟩:=my.1 hy;simp only at he;subst he;refine⟨k,h3 _ (fF tg),λU' hu=>⟨λf=>?_,λf=>?_⟩⟩
 ·refine cq (hu.cells h2) CA ?_;have:=sL (enc:=jT) (s:=6) vr tg (j:=5) (by omega);rw[show 0+((i:Int)).toNat*6+5=i*6+5 from by omega,this];rfl
 ·unfold aI;rw[hu.cells h2];simp only;exact xr (enc:=jT) vr Ks SI tg (by omega)
theorem fu.slice {kv:AV} {ks:List Nat} (h:fu U kv ks):∃a c z,kv=.slice a ks.length c z:=by
 cases h with
 |zero z=>exact⟨_,_,_,rfl⟩
 |one b c hc hb=>exact⟨_,_,_,rfl⟩
theorem fu.eg {kv:AV} {ks:List Nat} {j k:Nat} (h:fu U kv ks) (hk:ks[j]? =some k):∃b c,kv=.slice (some (b,0)) ks.length c 1/\aF U b=some (gE ks):=by
 cases h with
 |zero z=>simp at hk
 |one b c hc hb=>exact⟨b,c,rfl,hb⟩
theorem kF {b j k:Nat} {ks:List Nat} (h:aF U b=some (gE ks)) (hk:ks[j]? =some k) (f:AV->Out):aI ae 3 U b (0+((j:Int)).toNat*1) f=f (.int .i64 (k:Int)):=
 cq h fA (by simp[gE,hk])
end
def nv (l:List (Int×By)):List (AV×AV):=l.map λx=>(.int .i64 x.1,.str x.2)
def mF:List (Int×By)->Int->Option (By)
 | [],_=>none
 |(x,v)::r,a=>if a=x then some v else mF r a
theorem E4 (a:Int):∀(l:List (Int×By)) (i:Nat),(mF l a=none->du ae 3 (.int .i64 a) (nv l) i=some none)/\∀v,mF l a=some v->∃j,du ae 3 (.int .i64 a) (nv l) i=some (some (j,.str v))
 | [],i=>⟨λ_=>rfl,λv h=>by cases h⟩
 |(x,v)::l,i=>by
  obtain⟨h1,h2⟩:=E4 a l (i+1);have he:nv ((x,v)::l)=(.int .i64 x,.str v)::nv l:=rfl;simp only[he,du,eK,mF];by_cases hx:a=x
  ·subst hx;simp only[C1,beq_self_eq_true,if_true];exact⟨nofun,λv' h=>by cases h;exact⟨i,rfl⟩⟩
  ·have:(a==x)=false:=by simpa using hx
   simp only[C1,this,if_neg hx];exact⟨h1,h2⟩
section
variable {Q:bw} {U:St}
theorem Wp.nV {l:List (Int×By)} {a:Int} {s:By} {k:Fu->St->Out} (h:mF l a=none) (hk:Wp Q λu=>k u (U++[aq.map (nv (l++[(a,s)]))])):
  Wp Q λu=>bY ae 3 (U++[aq.map (nv l)]) (.v (.map (some U.length))) (.int .i64 a) (.str s) (k u):=by
 refine hk.eq λu=>?_;unfold bY fq;rw[JA];simp only[Bool.true_or,if_true];rw[bQ (aA _)];simp only[gJ,ja];rw[(E4 a l 0).1 h];simp only;rw[sd _ _ (aA _)];simp[nv,lj]
theorem Wp.lkH {m:Nat} {l:List (Int×By)} {a:Int} {k:Fu->AV->Bool->Out} (hm:U[m]? =some (.map (nv l))) (hk:Wp Q λu=>k u (.str ((mF l a).getD [])) (mF l a).isSome):
  Wp Q λu=>gF ae 3 9 U (some m) (.int .i64 a) (k u):=by
 refine hk.eq λu=>?_;unfold gF jR fq;rw[JA];simp only[Bool.true_or,if_true,hm];cases hf:mF l a with
 |none=>rw[(E4 a l 0).1 hf,agY];rfl
 |some v=>obtain⟨j,hj⟩:=(E4 a l 0).2 v hf;rw[hj];rfl
end
def na (k:Int):Int:=if 1<=k/\k<=7 then 1 else if 10<=k/\k<=18 then 2 else if 20<=k/\k<=22 then 3 else if k=23 then 4 else 0
theorem afK (k:Int):iZ (na k)=[vF k]:=by
 unfold na vF
 repeat' split
 all_goals simp[iZ,Lib.decDigits]
theorem afJ {U:St} (k:Int):Fw ae Lb 97 [.int .i64 k] U λr U'=>r=.ret (.int .i64 (na k))/\U'=U:=by
 refine aaj ?_;have j6 (h1:¬(1<=k/\k<=7)) (h2:¬(10<=k/\k<=18)) (h3:¬(20<=k/\k<=22)):Wp (λr U'=>r=.ret (.int .i64 (na k))/\U'=U) λu=>DT u.n k 0 U:=by
  refine aao ?_;unfold na;rw[if_neg h1,if_neg h2,if_neg h3];refine Wp.ite (λh=>?_) λh=>?_
  ·rw[if_pos (by simpa using h)];exact Wp.ret ⟨rfl,rfl⟩
  ·rw[if_neg (by simpa using h)];exact Wp.ret ⟨rfl,rfl⟩
 have j4 (h1:¬(1<=k/\k<=7)) (h2:¬(10<=k/\k<=18)):Wp (λr U'=>r=.ret (.int .i64 (na k))/\U'=U) λu=>DS u.n k 0 U:=by
  refine aan ?_;refine Wp.ite (λh=>?_) λh=>j6 h1 h2 (by simp at h;omega);refine OF ?_;refine Wp.ite (λh'=>?_) λh'=>?_
  ·unfold na;rw[if_neg h1,if_neg h2,if_pos (by simp at h h';omega)];exact Wp.ret ⟨rfl,rfl⟩
  ·have:=j6 h1 h2 (by simp at h h';omega);unfold na;rw[if_neg h1,if_neg h2,if_neg (by simp at h h';omega)];refine Wp.ite (λh=>?_) λh=>?_
   ·rw[if_pos (by simpa using h)];exact Wp.ret ⟨rfl,rfl⟩
   ·rw[if_neg (by simpa using h)];exact Wp.ret ⟨rfl,rfl⟩
 have j3 (h1:¬(1<=k/\k<=7)) (hk:k>=10):Wp (λr U'=>r=.ret (.int .i64 (na k))/\U'=U) λu=>DQ u.n k 0 (decide (k<=18)) U:=by
  refine aam ?_;refine Wp.ite (λh=>?_) λh=>?_
  ·unfold na;rw[if_neg h1,if_pos (by simp at h;omega)];exact Wp.ret ⟨rfl,rfl⟩
  ·have:=j4 h1 (by simp at h;omega);have h2:¬(10<=k/\k<=18):=by simp at h;omega
   refine Wp.ite (λh'=>?_) λh'=>j6 h1 h2 (by simp at h';omega);refine OF ?_;unfold na;rw[if_neg h1,if_neg h2];refine Wp.ite (λh3=>?_) λh3=>?_
   ·rw[if_pos (by simp at h' h3;omega)];exact Wp.ret ⟨rfl,rfl⟩
   ·rw[if_neg (by simp at h' h3;omega)];refine Wp.ite (λh=>?_) λh=>?_
    ·rw[if_pos (by simpa using h)];exact Wp.ret ⟨rfl,rfl⟩
    ·rw[if_neg (by simpa using h)];exact Wp.ret ⟨rfl,rfl⟩
 refine Wp.ite (λh=>?_) λh=>?_
 ·refine aak ?_;refine Wp.ite (λh7=>?_) λh7=>?_
  ·unfold na;rw[if_pos (by simp at h h7;omega)];exact Wp.ret ⟨rfl,rfl⟩
  ·have h1:¬(1<=k/\k<=7):=by simp at h7;omega
   exact Wp.ite (λh10=>j3 h1 (by simpa using h10)) λh10=>j4 h1 (by simp at h10;omega)
 ·have h1:¬(1<=k/\k<=7):=by simp at h;omega
  refine aal ?_;exact Wp.ite (λh10=>j3 h1 (by simpa using h10)) λh10=>j4 h1 (by simp at h10;omega)
end Go.Front
/-kinds,shaped. -/
namespace Go.Front
open Go.AM Go.Proofs
def want:List (Int×By):=[(1,[]),(2,[]),(3,[]),(5,[49,49]),(6,[49]),(7,[49,49]),(10,[49]),(11,[49,49]),(13,[49,50]),(14,[49]),(15,[]),(16,[]),(20,[]),(21,[])]
theorem L9:∀{l:By} {c:UInt8},(∀x∈l,x=c)->l.dropWhile (·==c)=[]
 | [],_,_=>rfl
 |x::l,c,h=>by
  have hx:=h x (by simp);subst hx;rw[List.dropWhile_cons,if_pos (by simp)];exact L9 λy hy=>h y (by simp[hy])
theorem ags {l:By} {c:UInt8} (h:∀x∈l,x=c):Lib.trimB l c=[]:=by
 have h1:Lib.trimRightB l c=[]:=by
  unfold Lib.trimRightB;rw[L9 λx hx=>h x (uc.1 hx)];rfl
 unfold Lib.trimB;rw[h1];rfl
section
variable {Q:bw} {U:St} {tb:Nat} {t:List Node} {nd:Node}
theorem agt {s:By} {c:UInt8} (hc:c.toNat<128) (hs:s.length<=4611686018427387904):Fw ae Lb 98 [.str s,.str [c]] U λr U'=>r=.ret (.str (Lib.trimB s c))/\U'=U:=by
 refine Fw.jP (r:=.ret (.str (Lib.trimB s c))) (U':=U) ?_ ⟨rfl,rfl⟩;simp only[Lb,EU];rw[if_pos ⟨hc,hs⟩]
theorem ab2 (hk:Kn U) {n:Int} (hn:-9223372036854775808<=n/\n<=9223372036854775807):Fw ae Lb 96 [.int .i64 n] U λr U'=>r=.ret (.str (iZ n))/\U'=U:=by
 refine Fw.jP (r:=.ret (.str (iZ n))) (U':=U) ?_ ⟨rfl,rfl⟩;simp only[Lb,ER];rw[if_pos ⟨hk.pow,hn⟩]
def rV (U:St):bw:=λr U'=>r=.ret (.bool true)/\U'=U
theorem HD:(bT t nd).length=nd.kids.length:=by simp[bT]
theorem ach (hs:Src U tb t) {kv:AV} (bh:fu U kv nd.kids) (hk:∀k∈nd.kids,∃y,t[k]? =some y) (fD:cQ t nd) (hl:nd.kids.length<=4096) {a:Ad} {n z:Nat} {c c2:On} (he:kv=.slice a n c z):
  CZ (Oa (Q:=rV U) (a1:=some (tb,0)) (n2:=t.length) (c3:=c2) (z4:=6) (s5:=bT t nd) (s6:=(mF want nd.kind).getD []) (b7:=(mF want nd.kind).isSome) (i8:=nd.kind) (i9:=nd.at_) (s10:=nd.text) (i11:=nd.n) (i12:=nd.m) (a13:=a) (n14:=n) (c15:=c) (z16:=z) (U:=U)):=by
 have wJ:=HD (t:=t) (nd:=nd);have fixed {k:Int} {w:By} (h:nd.kind=k) (hw:mF want k=some w) (hg:bT t nd=w) {F:Fu->Out}:Wp (rV U) λu=>cond (mF want nd.kind).isSome (some (.ret (.bool (bT t nd==(mF want nd.kind).getD [])),U)) (F u):=by
  rw[h,hw,hg];refine Wp.pos rfl (Wp.ret ⟨by simp,rfl⟩)
 have FM {x:UInt8} (hx:x.toNat<128) (hg:∀y∈bT t nd,y=x) {K:Fu->AV->St->Out} (hK:Wp (rV U) λu=>K u (.str []) U):Wp (rV U) λu=>cW ae Lb u.n 98 [.str (bT t nd),.str [x]] U (K u):=by
  refine Wp.call (agt hx (by omega)) (λv U' hv=>?_) λv U' hv=>by cases hv.1
  obtain⟨hv,rfl⟩:=hv;cases hv;rw[ags hg];exact hK
 cases fD with
 |leaf h hg=>rcases h with h|h|h|h|h|h|h<;>exact fixed h rfl hg
 |index h hg=>exact fixed h rfl hg
 |un h hg hn=>exact fixed h rfl hg
 |bin h hg hn=>exact fixed h rfl hg
 |one h hg=>rcases h with h|h<;>exact fixed h rfl hg
 |set h hg=>exact fixed h rfl hg
 |«while» h hg=>exact fixed h rfl hg
 |call h hg=>
  rw[h];refine Wp.neg rfl (Wp.pos (by decide) (FM (by decide) hg ?_));simp only[aG];exact Wp.ret ⟨rfl,rfl⟩
 |cond h hg=>
  rw[h];refine Wp.neg rfl (Wp.neg (by decide) (Wp.pos (by decide) ?_));rcases hg with hg|hg
  ·rw[hg];exact Wp.pos (by decide) (Wp.ret ⟨rfl,rfl⟩)
  ·rw[hg];exact Wp.neg (by decide) (Wp.ret ⟨rfl,rfl⟩)
 |block h hg=>
  rw[h];refine Wp.neg rfl (Wp.neg (by decide) (Wp.neg (by decide) (Wp.pos (by decide) (FM (by decide) hg ?_))));simp only[aG];exact Wp.ret ⟨rfl,rfl⟩
 |var h hg=>
  rw[h];refine Wp.neg rfl (Wp.neg (by decide) (Wp.neg (by decide) (Wp.neg (by decide) (Wp.pos (by decide) ?_))));rcases hg with hg|hg
  ·rw[hg];exact Wp.pos (by decide) (Wp.ret ⟨rfl,rfl⟩)
  ·rw[hg];exact Wp.neg (by decide) (Wp.ret ⟨rfl,rfl⟩)
 |fn h hg m k hm eW uV hb=>
  rw[h,hm];obtain⟨b,c',dE,cw⟩:=bh.eg uV;rw[dE]at he;cases he;obtain⟨y,hy⟩:=hk k (fF uV);have hyl:k<t.length:=(bl.1 hy).1;have hw:ah .i64 ((m:Int)+1)=((m+1:Nat):Int):=by rw[wrap64 (by omega) (by omega)];omega
  refine Wp.neg rfl (Wp.neg (by decide) (Wp.neg (by decide) (Wp.neg (by decide) (Wp.neg (by decide) (Wp.pos (by decide) (Wp.pos (by simp) (Wp.pos ?_ (FM (by decide) hg ?_))))))))
  ·rw[hw,wJ,eW];simp
  ·simp only[aG];refine Wp.pos rfl ?_;have abJ:y.kind=17:=by unfold vl at hb;rw[hy]at hb;exact hb
   simp only[an,aU,kF cw uV,ag,hs.kind hy,bm (show(0:Int)<=(m:Int)/\(m:Int)<(nd.kids.length:Int)from⟨by omega,by omega⟩),bm (show(0:Int)<=(k:Int)/\(k:Int)<(t.length:Int)from⟨by omega,by omega⟩)];exact Wp.ret ⟨by rw[abJ];rfl,rfl⟩
 |all h hg=>
  rw[h];refine Wp.neg rfl (Wp.neg (by decide) (Wp.neg (by decide) (Wp.neg (by decide) (Wp.neg (by decide) (Wp.neg (by decide) (Wp.pos (by decide) (FM (by decide) hg ?_)))))));simp only[aG];exact Wp.ret ⟨rfl,rfl⟩
theorem acf (hs:Src U tb t) {kv:AV} (bh:fu U kv nd.kids) (hk:∀k∈nd.kids,∃y,t[k]? =some y) (fD:cQ t nd) (hl:nd.kids.length<=4096) {a:Ad} {n z m:Nat} {c c2:On} (he:kv=.slice a n c z) (hm:U[m]? =some (.map (nv want))):
  Wp (rV U) λu=>Hr u.n (some (tb,0)) t.length c2 6 (some m) (bT t nd) nd.kind nd.at_ nd.text nd.n nd.m a n c z U:=by
 refine ZD ?_;refine Wp.lkH hm ?_;simp only[aG];have tail:=ach (c2:=c2) hs bh hk fD hl he;have j5:Wp (rV U) λu=>DI u.n (some (tb,0)) t.length c2 6 (bT t nd) ((mF want nd.kind).getD []) (mF want nd.kind).isSome nd.kind nd.at_ nd.text nd.n nd.m a n c z U:=Oa tail;by_cases h6:nd.kind=6
 ·have hn:1<=nd.n/\nd.n<=3:=by
   cases fD with
   |un h hg hn=>exact hn
   |leaf h hg=>rcases h with h|h|h|h|h|h|h<;>(rw[h6]at h;exact absurd h (by decide))
   |one h hg=>rcases h with h|h<;>(rw[h6]at h;exact absurd h (by decide))
   |fn h hg m k hm hl hk hb=>rw[h6]at h;exact absurd h (by decide)
   |index h hg=>rw[h6]at h;exact absurd h (by decide)
   |bin h hg hn=>rw[h6]at h;exact absurd h (by decide)
   |set h hg=>rw[h6]at h;exact absurd h (by decide)
   |«while» h hg=>rw[h6]at h;exact absurd h (by decide)
   |call h hg=>rw[h6]at h;exact absurd h (by decide)
   |cond h hg=>rw[h6]at h;exact absurd h (by decide)
   |block h hg=>rw[h6]at h;exact absurd h (by decide)
   |var h hg=>rw[h6]at h;exact absurd h (by decide)
   |all h hg=>rw[h6]at h;exact absurd h (by decide)
  refine Wp.pos (by rw[h6];decide) (Wp.neg (by simp;omega) (Wp.neg (by simp;omega) (Wp.neg (by rw[h6];decide) j5)))
 ·refine Wp.neg (by simpa using h6) ?_;by_cases h7:nd.kind=7
  ·have hn:4<=nd.n/\nd.n<=21:=by
    cases fD with
    |bin h hg hn=>exact hn
    |leaf h hg=>rcases h with h|h|h|h|h|h|h<;>(rw[h7]at h;exact absurd h (by decide))
    |one h hg=>rcases h with h|h<;>(rw[h7]at h;exact absurd h (by decide))
    |fn h hg m k hm hl hk hb=>rw[h7]at h;exact absurd h (by decide)
    |index h hg=>rw[h7]at h;exact absurd h (by decide)
    |un h hg hn=>rw[h7]at h;exact absurd h (by decide)
    |set h hg=>rw[h7]at h;exact absurd h (by decide)
    |«while» h hg=>rw[h7]at h;exact absurd h (by decide)
    |call h hg=>rw[h7]at h;exact absurd h (by decide)
    |cond h hg=>rw[h7]at h;exact absurd h (by decide)
    |block h hg=>rw[h7]at h;exact absurd h (by decide)
    |var h hg=>rw[h7]at h;exact absurd h (by decide)
    |all h hg=>rw[h7]at h;exact absurd h (by decide)
   refine Wp.pos (by rw[h7];decide) (Wp.neg (by simp;omega) ?_);refine ZE ?_;exact Wp.neg (by simp;omega) tail
  ·exact Wp.neg (by simpa using h7) j5
theorem acg (hs:Src U tb t) (mM:Kn U) {kv:AV} (bh:fu U kv nd.kids) (hk:∀k∈nd.kids,∃y,t[k]? =some y) (fD:cQ t nd) (hl:nd.kids.length<=4096) {a:Ad} {n z m:Nat} {c c2:On} (he:kv=.slice a n c z) (hm:U[m]? =some (.map (nv want))):
  ∀(k i:Nat),i+k=nd.kids.length->Wp (rV U) λu=>A7 u.n u.m1 (some (tb,0)) t.length c2 6 (some m) ((bT t nd).take i) a n c z n i nd.kind nd.at_ nd.text nd.n nd.m a n c z U:=by
 have wJ:=HD (t:=t) (nd:=nd);intro k
 induction k with
 |zero=>
  intro i hi;obtain⟨_,_,_,bW⟩:=bh.slice;rw[bW]at he;cases he;refine Ob ?_;refine Wp.neg (by simp;omega) ?_;rw[o6 (by omega)];exact acf hs bh hk fD hl bW hm
 |succ k ih=>
  intro i hi;obtain⟨x,hx⟩:∃x,nd.kids[i]? =some x:=⟨nd.kids[i],bk (by omega)⟩
  obtain⟨y,hy⟩:=hk x (fF hx);have hyl:x<t.length:=(bl.1 hy).1;obtain⟨b,c',dE,cw⟩:=bh.eg hx;rw[dE]at he;cases he;have hw:ah .i64 ((i:Int)+1)=((i+1:Nat):Int):=by rw[wrap64 (by omega) (by omega)];omega
  refine Ob ?_;simp only[an,aU,kF cw hx,ag,hs.kind hy,hw,bm (show(0:Int)<=(i:Int)/\(i:Int)<(nd.kids.length:Int)from⟨by omega,by omega⟩),bm (show(0:Int)<=(x:Int)/\(x:Int)<(t.length:Int)from⟨by omega,by omega⟩)];refine Wp.pos (by simp;omega) ?_;refine Wp.call (afJ y.kind) (λv U' hv=>?_) λv U' hv=>by cases hv.1
  obtain⟨hv,rfl⟩:=hv;cases hv;simp only[ag];have wS:-9223372036854775808<=na y.kind/\na y.kind<=9223372036854775807:=by unfold na;(repeat' split)<;>decide
  refine Wp.call (ab2 mM wS) (λv U' hv=>?_) λv U' hv=>by cases hv.1
  obtain⟨hv,rfl⟩:=hv;cases hv;rw[afK];simp only[aG,Gm (show((bT t nd).take i).length+[vF y.kind].length<=4611686018427387904 from by simp;omega)];have hti:(bT t nd).take i++[vF y.kind]=(bT t nd).take (i+1):=by
   rw[uh];congr 1;unfold bT;rw[gI,hx];simp only[je,Option.toList_some];unfold vl;rw[hy]
  rw[hti];exact ih (i+1) (by omega)
theorem ace (hs:Src U tb t) (mM:Kn U) {kv:AV} (bh:fu U kv nd.kids) (hk:∀k∈nd.kids,∃y,t[k]? =some y) (fD:cQ t nd) (hl:nd.kids.length<=4096) {c2:On}:
  Fw ae Lb 73 [.slice (some (tb,0)) t.length c2 6,.agg [.int .i64 nd.kind,.int .i64 nd.at_,.str nd.text,.int .i64 nd.n,.int .i64 nd.m,kv]] U λr U'=>r=.ret (.bool true)/\Up U U':=by
 obtain⟨a,c,z,rfl⟩:=bh.slice;refine ZC ?_;refine Wp.nV (l:=[]) rfl ?_;refine Wp.nV (l:=[(1,[])]) rfl ?_;refine Wp.nV (l:=[(1,[]),(2,[])]) rfl ?_;refine Wp.nV (l:=[(1,[]),(2,[]),(3,[])]) rfl ?_;refine Wp.nV (l:=[(1,[]),(2,[]),(3,[]),(5,[49,49])]) rfl ?_;refine Wp.nV (l:=[(1,[]),(2,[]),(3,[]),(5,[49,49]),(6,[49])]) rfl ?_;refine Wp.nV (l:=[(1,[]),(2,[]),(3,[]),(5,[49,49]),(6,[49]),(7,[49,49])]) rfl ?_;refine Wp.nV (l:=[(1,[]),(2,[]),(3,[]),(5,[49,49]),(6,[49]),(7,[49,49]),(10,[49])]) rfl ?_;refine Wp.nV (l:=[(1,[]),(2,[]),(3,[]),(5,[49,49]),(6,[49]),(7,[49,49]),(10,[49]),(11,[49,49])]) rfl ?_;refine Wp.nV (l:=[(1,[]),(2,[]),(3,[]),(5,[49,49]),(6,[49]),(7,[49,49]),(10,[49]),(11,[49,49]),(13,[49,50])]) rfl ?_;refine Wp.nV (l:=[(1,[]),(2,[]),(3,[]),(5,[49,49]),(6,[49]),(7,[49,49]),(10,[49]),(11,[49,49]),(13,[49,50]),(14,[49])]) rfl ?_;refine Wp.nV (l:=[(1,[]),(2,[]),(3,[]),(5,[49,49]),(6,[49]),(7,[49,49]),(10,[49]),(11,[49,49]),(13,[49,50]),(14,[49]),(15,[])]) rfl ?_;refine Wp.nV (l:=[(1,[]),(2,[]),(3,[]),(5,[49,49]),(6,[49]),(7,[49,49]),(10,[49]),(11,[49,49]),(13,[49,50]),(14,[49]),(15,[]),(16,[])]) rfl ?_;refine Wp.nV (l:=[(1,[]),(2,[]),(3,[]),(5,[49,49]),(6,[49]),(7,[49,49]),(10,[49]),(11,[49,49]),(13,[49,50]),(14,[49]),(15,[]),(16,[]),(20,[])]) rfl ?_;have hu:Up U (U++[aq.map (nv want)]):=Up.app _;have hm:(U++[aq.map (nv want)])[U.length]? =some (.map (nv want)):=by rw[bQ (aA _)];simp
 have h0:=acg (c2:=c2) (hs.up hu) (mM.up hu) (bh.up hu) hk fD hl rfl hm nd.kids.length 0 (by omega);rw[show((0:Nat):Int)=0 from rfl,List.take_zero]at h0;refine Wp.cD (F:=λn m'=>A7 n m' (some (tb,0)) t.length c2 6 (some U.length) [] a nd.kids.length c z nd.kids.length 0 nd.kind nd.at_ nd.text nd.n nd.m a nd.kids.length c z (U++[aq.map (nv want)])) ?_;exact h0.mono λr U' ⟨h1,h2⟩=>⟨h1,by rw[h2];exact hu⟩
end
end Go.Front
/-shaped,same. -/
namespace Go.Front
open Go.AM Go.Proofs
theorem agW:zeroOf ae 3=some (.int .i64 0):=by kernel_rfl
theorem UF:jh ae 3=8:=by kernel_rfl
def oo (F:Nat->Nat) (i n:Nat):List AV:=(List.range n).map λj=>AV.int .i64 (if j<i then((F j:Nat):Int)else 0)
theorem Lt {F:Nat->Nat} {i n:Nat}:(oo F i n).length=n:=by simp[oo]
theorem UY {F:Nat->Nat} {n:Nat}:oo F 0 n=bL n (.int .i64 0):=by
 simp[oo,List.map_const']
theorem Ls {F:Nat->Nat} {i n j:Nat} (hj:j<i) (hn:j<n):(oo F i n)[j]? =some (.int .i64 (F j:Int)):=by
 simp[oo,hn,hj]
theorem UX {F:Nat->Nat} {i n:Nat} (hn:i<n):(oo F i n).set i (.int .i64 (F i:Int))=oo F (i+1) n:=by
 apply List.ext_getElem?;intro j;by_cases hj:j=i
 ·subst hj;rw[cM (by rw[Lt];exact hn),Ls (by omega) hn]
 ·rw[aD (cY hj)];simp only[oo,gI];by_cases hjn:j<n
  ·simp only[List.getElem?_range hjn,je];congr 2;by_cases h:j<i
   ·rw[if_pos h,if_pos (by omega)]
   ·rw[if_neg h,if_neg (by omega)]
  ·rw[fP (by simp;omega)];rfl
section
variable {Q:bw} {U U0:St} {tb:Nat} {t:List Node} {nd:Node}
theorem Wp.adh {n:Nat} (hn:n<=4096) {k:Fu->St->Out} (h:Wp Q λu=>k u (U++[aq.cells (bL n (.int .i64 0)) (.rw (.row 3))])):Wp Q λu=>lq ae 3 1 (n:Int) (n:Int) U (k u):=by
 refine h.eq λu=>?_;unfold lq;rw[agW,UF];simp only;rw[if_pos ⟨rfl,⟨by omega,Int.le_refl _,by omega,by rw[fa];omega⟩,rfl⟩];have hz:∀n:Nat,eT [AV.int .i64 0] n=bL n (.int .i64 0):=by
  intro n
  induction n with
  |zero=>rfl
  |succ n ih=>simp only[eT,uf,ih,List.replicate_succ]
 have e:eT (AV.cells (.int .i64 0)) ((n:Int)).toNat=bL n (.int .i64 0):=by rw[fa];exact hz n
 rw[e]
structure Sh (U0 U:St) (fb:Nat) (F:Nat->Nat) (i n:Nat):Prop where
 up:Up U0 U
 ge:U0.length<=fb
 row:U[fb]? =some (.cells (oo F i n) (.rw (.row 3)))
theorem Sh.ld {fb i n j:Nat} {F:Nat->Nat} (h:Sh U0 U fb F i n) (hj:j<i) (hn:j<n) (f:AV->Out):aI ae 3 U fb (0+((j:Int)).toNat*1) f=f (.int .i64 (F j:Int)):=
 cq (cs:=oo F i n) (by unfold aF;rw[h.row]) fA (by rw[show 0+((j:Int)).toNat*1=j from by omega];exact Ls hj hn)
theorem Sh.st {fb i n:Nat} {F:Nat->Nat} (h:Sh U0 U fb F i n) (hn:i<n) (f:St->Out):aT U fb (0+((i:Int)).toNat*1) [.int .i64 (F i:Int)] f=f (U.set fb (.cells (oo F (i+1) n) (.rw (.row 3)))):=by
 unfold aT;rw[h.row];simp only;rw[show 0+((i:Int)).toNat*1=i from by omega,if_pos (by rw[Lt];simp;omega)];simp only[eA];rw[UX hn]
theorem Sh.next {fb i n:Nat} {F:Nat->Nat} (h:Sh U0 U fb F i n):Sh U0 (U.set fb (.cells (oo F (i+1) n) (.rw (.row 3)))) fb F (i+1) n:=
 ⟨⟨by simpa using h.up.len,λx hx=>by rw[aD (by have:=h.ge;omega)];exact h.up.same x hx⟩,h.ge,cM (bB h.row)⟩
theorem Sh.up' {U':St} {fb i n:Nat} {F:Nat->Nat} (h:Sh U0 U fb F i n) (hu:Up U U'):Sh U0 U' fb F i n:=
 ⟨h.up.trans hu,h.ge,by rw[hu.same fb (bB h.row)];exact h.row⟩
theorem afy {len fb i:Nat} {F:Nat->Nat} {a:Ad} {z:Nat} {c c2:On} (hf:zN len t F i nd) (hS:Sh U0 U fb F i t.length) (dr:t.length<=4096) (bh:fu U (.slice a nd.kids.length c z) nd.kids) (eW:nd.kids.length<=4096):
  ∀(j from_:Nat),j<=nd.kids.length->chain F from_ (nd.kids.take j).reverse=some (F i)->(∀k∈nd.kids.take j,k<i)->
  (Wp Q λu=>Hk u.n u.m1 (some (tb,0)) t.length c2 6 (some (fb,0)) t.length (some t.length) 1 i (F i) (some (tb,0)) t.length c2 6 t.length i nd.kind nd.at_ nd.text nd.n nd.m a nd.kids.length c z U)->
  Wp Q λu=>AX u.n u.m1 u.m2 (some (tb,0)) t.length c2 6 (some (fb,0)) t.length (some t.length) 1 i from_ ((j:Int)-1) (some (tb,0)) t.length c2 6 t.length i nd.kind nd.at_ nd.text nd.n nd.m a nd.kids.length c z U:=by
 intro j;have pC:i<t.length:=(bl.1 hf.at_).1
 induction j with
 |zero=>
  intro from_ hj hc al hk;rw[List.take_zero,List.reverse_nil]at hc;simp only[chain,dP]at hc;subst hc;refine ND ?_;exact Wp.neg (by simp) hk
 |succ j ih=>
  intro from_ hj hc al hk;obtain⟨k,nE⟩:∃k,nd.kids[j]? =some k:=⟨nd.kids[j],bk (by omega)⟩
  have uV:k∈nd.kids.take (j+1):=by rw[uh,nE];simp
  have sU:=al k uV;rw[uh,nE,Option.toList_some,List.reverse_append,List.reverse_singleton,uf]at hc;simp only[chain]at hc;have yG:k+1=from_:=by
   by_cases h:k+1=from_
   ·exact h
   ·rw[if_neg h]at hc;cases hc
  rw[if_pos yG]at hc;subst yG;obtain⟨b,c',dE,cw⟩:=bh.eg nE;cases dE;have fY:ah .i64 (((k+1:Nat):Int)-1)=(k:Int):=by rw[wrap64 (by omega) (by omega)];omega
  have im:ah .i64 ((((j+1:Nat):Int)-1)-1)=((j:Nat):Int)-1:=by rw[wrap64 (by omega) (by omega)];omega
  have H2:(((j+1:Nat):Int)-1)=((j:Nat):Int):=by omega
  refine ND ?_;simp only[fY,im];rw[H2];refine Wp.pos (by simp) ?_;simp only[an,aU,kF cw nE,ag,bm (show(0:Int)<=(j:Int)/\(j:Int)<(nd.kids.length:Int)from⟨by omega,by omega⟩)];refine Wp.neg (by simp) (Wp.neg (by simp;omega) ?_);simp only[bm (show(0:Int)<=(k:Int)/\(k:Int)<(t.length:Int)from⟨by omega,by omega⟩),hS.ld sU (by omega),ag];exact ih (F k) (by omega) hc (λx hx=>al x (by rw[uh];exact List.mem_append_left _ hx)) hk
theorem afz {len fb:Nat} {F:Nat->Nat} {c2:On} (mM:Kn U0) (hs:Src U0 tb t) (dr:t.length<=4096) (dR:0<t.length) (pz:iY len t F 0 t.length) (h0:F (t.length-1)=0):
  ∀(k i:Nat) {U:St},i+k=t.length->Sh U0 U fb F i t.length->
  Wp (λr U'=>r=.ret (.bool true)/\Up U0 U') λu=>AW u.n u.m1 (some (tb,0)) t.length c2 6 (some (fb,0)) t.length (some t.length) 1 (some (tb,0)) t.length c2 6 t.length i U:=by
 intro k
 induction k with
 |zero=>
  intro i U hi hS;have hi:i=t.length:=by omega
  subst hi;refine NC ?_;refine Wp.neg (by simp) ?_;refine YA ?_;have hw:ah .i64 ((t.length:Int)-1)=((t.length-1:Nat):Int):=by rw[wrap64 (by omega) (by omega)];omega
  simp only[hw,an,aU,bm (show(0:Int)<=((t.length-1:Nat):Int)/\((t.length-1:Nat):Int)<(t.length:Int)from⟨by omega,by omega⟩),hS.ld (show t.length-1<t.length by omega) (by omega),ag,h0];exact Wp.ret ⟨rfl,hS.up⟩
 |succ k ih=>
  intro i U hi hS;obtain⟨nd,hf⟩:=pz i (j9 _) (by omega);have hsU:=hs.up hS.up;obtain⟨kv,Bx,kA⟩:=hs.rH hf.at_;have bh:=Bx.up hS.up;obtain⟨_,nI⟩:=kA U hS.up;obtain⟨a,c,z,rfl⟩:=bh.slice;have eW:nd.kids.length<=4096:=by
   have hle:∀x∈nd.kids.reverse,F x<=x:=λx hx=>by
    obtain⟨h1,kd,h2,_⟩:=hf.kids x (uc.1 hx);obtain⟨E6,gQ⟩:=pz x (j9 _) (by omega);exact gQ.le
   have:=Gn _ _ _ hf.ch hle;rw[List.length_reverse]at this;omega
  have hw:ah .i64 ((nd.kids.length:Int)-1)=(nd.kids.length:Int)-1:=wrap64 (by omega) (by omega);have hwi:ah .i64 ((i:Int)+1)=((i+1:Nat):Int):=by rw[wrap64 (by omega) (by omega)];omega
  refine NC ?_;simp only[an,aU,nI,bK,bc,ag,aG,aS,aZ,hw,bm (show(0:Int)<=(i:Int)/\(i:Int)<(t.length:Int)from⟨by omega,by omega⟩)];refine Wp.pos (by simp;omega) ?_;refine Wp.yu (F:=λn m1 m2=>AX n m1 m2 (some (tb,0)) t.length c2 6 (some (fb,0)) t.length (some t.length) 1 i i ((nd.kids.length:Int)-1) (some (tb,0)) t.length c2 6 t.length i nd.kind nd.at_ nd.text nd.n nd.m a nd.kids.length c z U) ?_;refine afy hf hS dr bh eW nd.kids.length i (aA _) (by rw[j8];exact hf.ch) (λx hx=>(hf.kids x (by rw[j8]at hx;exact hx)).1) ?_;refine YB ?_;simp only[an,aU,hS.st (show i<t.length by omega),bm (show(0:Int)<=(i:Int)/\(i:Int)<(t.length:Int)from⟨by omega,by omega⟩)];have D4:=hS.next;have iL:=hs.up D4.up;have dE:=Bx.up D4.up;refine Wp.call (ace iL (mM.up D4.up) dE (λx hx=>⟨_,(hf.kids x hx).2.choose_spec.1⟩) hf.ok eW) (λv U' hv=>?_) λv U' hv=>by cases hv.1
  obtain⟨hv,hu⟩:=hv;cases hv;simp only[bp];refine Wp.neg rfl ?_;refine YC ?_;simp only[hwi];exact ih (i+1) (by omega) (D4.up' hu)
theorem afx {len:Nat} {F:Nat->Nat} {c2:On} (mM:Kn U0) (hs:Src U0 tb t) (dr:t.length<=4096) (dR:0<t.length) (pz:iY len t F 0 t.length) (h0:F (t.length-1)=0) (h23:∃nd,t[t.length-1]? =some nd/\nd.kind=23):
  Fw ae Lb 32 [.slice (some (tb,0)) t.length c2 6] U0 λr U'=>r=.ret (.bool true)/\Up U0 U':=by
 obtain⟨nd,rA,hk⟩:=h23;refine Yz ?_;have hw:ah .i64 ((t.length:Int)-1)=((t.length-1:Nat):Int):=by rw[wrap64 (by omega) (by omega)];omega
 simp only[hw,an,aU,hs.kind rA,ag,bm (show(0:Int)<=((t.length-1:Nat):Int)/\((t.length-1:Nat):Int)<(t.length:Int)from⟨by omega,by omega⟩)];refine Wp.neg (by rw[beq_eq_false_iff_ne];omega) (Wp.neg (by rw[decide_eq_false_iff_not];omega) (Wp.neg (by rw[hk];rfl) (Wp.adh dr ?_)));simp only[fa];have hS:Sh U0 (U0++[aq.cells (bL t.length (.int .i64 0)) (.rw (.row 3))]) U0.length F 0 t.length:=
  ⟨Up.app _,aA _,by rw[bQ (aA _),UY];simp⟩
 have h:=afz (c2:=c2) mM hs dr dR pz h0 t.length 0 (by omega) hS;rw[show((0:Nat):Int)=0 from rfl]at h;refine Wp.cD (F:=λn m=>AW n m (some (tb,0)) t.length c2 6 (some (U0.length,0)) t.length (some t.length) 1 (some (tb,0)) t.length c2 6 t.length 0 (U0++[aq.cells (bL t.length (.int .i64 0)) (.rw (.row 3))])) ?_;exact h
end
end Go.Front
/-same;whole. -/
namespace Go.Front
open Go.AM Go.Proofs
section
variable {Q:bw} {U U0:St} {ta tb:Nat} {a b:List Node} {nd:Node}
theorem afk {ks:List Nat} {a1 a5 aa ab:Ad} {n2 n6 z4 z8 za zb:Nat} {c3 c7 ca cb:On} {i9 i10 k1 k2 n1 n3 m1 m2 at1 at2:Int} {s1 s2:By} (hl:ks.length<=1000000000) (ha:fu U (.slice aa ks.length ca za) ks) (hb:fu U (.slice ab ks.length cb zb) ks)
  (hk:Wp Q λu=>Dz u.n u.m1 a1 n2 c3 z4 a5 n6 c7 z8 i9 i10 U):
  ∀(k j:Nat),j+k=ks.length->Wp Q λu=>A0 u.n u.m1 u.m2 a1 n2 c3 z4 a5 n6 c7 z8 i9 i10 ks.length j k1 at1 s1 n1 m1 aa ks.length ca za k2 at2 s2 n3 m2 ab ks.length cb zb U:=by
 intro k
 induction k with
 |zero=>
  intro j hj;refine NI ?_;exact Wp.neg (by rw[decide_eq_false_iff_not];omega) hk
 |succ k ih=>
  intro j hj;obtain⟨x,hx⟩:∃x,ks[j]? =some x:=⟨ks[j],bk (by omega)⟩
  obtain⟨b1,c1,e1,h1⟩:=ha.eg hx;obtain⟨b2,c2,e2,h2⟩:=hb.eg hx;cases e1;cases e2;have hw:ah .i64 ((j:Int)+1)=((j+1:Nat):Int):=by rw[wrap64 (by omega) (by omega)];omega
  refine NI ?_;simp only[an,aU,kF h1 hx,kF h2 hx,ag,hw,bm (show(0:Int)<=(j:Int)/\(j:Int)<(ks.length:Int)from⟨by omega,by omega⟩)];refine Wp.pos (by rw[decide_eq_true_eq];omega) (Wp.neg (by simp) ?_);exact ih (j+1) (by omega)
theorem afl {ca cb:On} (Ip:Src U ta a) (wR:Src U tb b) (rm:a.map Node.strip=b.map Node.strip) (hl:a.length<=1000000000) (eW:∀x∈a,x.kids.length<=1000000000):
  ∀(k i:Nat),i+k=a.length->Wp (rV U) λu=>AZ u.n u.m1 (some (ta,0)) a.length ca 6 (some (tb,0)) b.length cb 6 a.length i U:=by
 have PE:a.length=b.length:=by have:=congrArg List.length rm;simpa using this
 intro k
 induction k with
 |zero=>
  intro i hi;refine NH ?_;refine Wp.neg (by rw[decide_eq_false_iff_not];omega) (YJ ?_);exact Wp.ret ⟨rfl,rfl⟩
 |succ k ih=>
  intro i hi;obtain⟨x,hx⟩:∃x,a[i]? =some x:=⟨a[i],bk (by omega)⟩
  obtain⟨y,hy⟩:∃y,b[i]? =some y:=⟨b[i],bk (by omega)⟩
  have wW:x.strip=y.strip:=by
   have:=congrArg (λl=>l[i]?) rm;simpa[hx,hy]using this
  obtain⟨e1,e2,e3,e4,e5⟩:=SE wW;obtain⟨kva,Pz,_,hna⟩:=Ip.kids hx;obtain⟨kvb,l8,_,Ig⟩:=wR.kids hy;obtain⟨aa,UJ,za,rfl⟩:=Pz.slice;obtain⟨ab,UK,zb,rfl⟩:=l8.slice;have pK:=eW x (fF hx);have hw:ah .i64 ((i:Int)+1)=((i+1:Nat):Int):=by rw[wrap64 (by omega) (by omega)];omega
  refine NH ?_;simp only[an,aU,hna,Ig,bK,bc,ag,aG,aS,aZ,bm (show(0:Int)<=(i:Int)/\(i:Int)<(a.length:Int)from⟨by omega,by omega⟩),bm (show(0:Int)<=(i:Int)/\(i:Int)<(b.length:Int)from⟨by omega,by omega⟩)];refine Wp.pos (by rw[decide_eq_true_eq];omega) (Wp.neg (by rw[e1];simp) (Wp.neg (by rw[e2];simp) (Wp.neg (by rw[e3];simp) (Wp.neg (by rw[e4];simp) ?_))));rw[<-e5]at l8|-;refine YI ?_;refine Wp.neg (by simp) ?_;have hj6:Wp (rV U) λu=>Dz u.n u.m1 (some (ta,0)) a.length ca 6 (some (tb,0)) b.length cb 6 a.length i U:=by
   refine YK ?_;simp only[hw];exact ih (i+1) (by omega)
  have h0:=afk (k1:=x.kind) (at1:=x.at_) (s1:=x.text) (n1:=x.n) (m1:=x.m) (k2:=y.kind) (at2:=y.at_) (s2:=y.text) (n3:=y.n) (m2:=y.m) pK Pz l8 hj6 x.kids.length 0 (by omega);rw[show((0:Nat):Int)=0 from rfl]at h0;refine Wp.yu (F:=λn q1 q2=>A0 n q1 q2 (some (ta,0)) a.length ca 6 (some (tb,0)) b.length cb 6 a.length i x.kids.length 0 x.kind x.at_ x.text x.n x.m aa x.kids.length UJ za y.kind y.at_ y.text y.n y.m ab x.kids.length UK zb U) ?_;exact h0
theorem afj {ca cb:On} (Ip:Src U ta a) (wR:Src U tb b) (rm:a.map Node.strip=b.map Node.strip) (hl:a.length<=1000000000) (eW:∀x∈a,x.kids.length<=1000000000):
  Fw ae Lb 36 [.slice (some (ta,0)) a.length ca 6,.slice (some (tb,0)) b.length cb 6] U (rV U):=by
 have PE:a.length=b.length:=by have:=congrArg List.length rm;simpa using this
 refine YH ?_;refine Wp.neg (by rw[PE];simp) ?_;have h0:=afl (ca:=ca) (cb:=cb) Ip wR rm hl eW a.length 0 (by omega);rw[show((0:Nat):Int)=0 from rfl]at h0;refine Wp.cD (F:=λn m=>AZ n m (some (ta,0)) a.length ca 6 (some (tb,0)) b.length cb 6 a.length 0 U) ?_;exact h0
end
def kY (U:St) (s:By):St:=U++[aq.cells [.str s,.int .i64 (0:Int),.int .i64 (0:Int),.int .i64 (0:Int),.str [],.int .i64 (0:Int),.slice none 0 (some 0) 0,.int .i64 (0:Int)] (.rw (.box 100))]++[aq.cells [.slice none 0 (some 0) 0] (.rw (.box 24))]++[aq.cells [.bool false] (.rw (.box 4))]
def mG (U:St) (s:By):Fr:=λb=>if b=U.length then none else(kY U s)[b]?
def FP (U:St) (o:Except bd (List Node)):bw:=λr U'=>Up U U'/\
 match o with
 | .ok nd=>∃v,r=.ret (.tuple [v,.bool true])/\vZ U' v nd
 | .error e=>r=.ret (.tuple [.slice none 0 (some 0) 0,.bool false])
section
variable {s:By} {U0 U U':St} {st:PS (ai s)} {d:Int}
structure pa (U0 U':St) (t e:AV):Prop where
 up:Up U0 U'
 ht:U'[U0.length+1]? =some (.cells [t] (.rw (.box 24)))
 he:U'[U0.length+2]? =some (.cells [e] (.rw (.box 4)))
theorem UB:(kY U0 s).length=U0.length+3:=by simp[kY]
theorem Li {b:Nat} (hb:b<U0.length):(kY U0 s)[b]? =U0[b]?:=by
 simp only[kY,aO];rw[bO hb]
theorem UC:(kY U0 s)[U0.length]? =some (aq.cells [.str s,.int .i64 (0:Int),.int .i64 (0:Int),.int .i64 (0:Int),.str [],.int .i64 (0:Int),.slice none 0 (some 0) 0,.int .i64 (0:Int)] (.rw (.box 100))):=by
 simp only[kY,aO];rw[bQ (by omega)];simp
theorem UD:(kY U0 s)[U0.length+1]? =some (.cells [.slice none 0 (some 0) 0] (.rw (.box 24))):=by
 simp only[kY,aO];rw[bQ (by omega)];simp
theorem UA:(kY U0 s)[U0.length+2]? =some (.cells [.bool false] (.rw (.box 4))):=by
 simp only[kY,aO];rw[bQ (by omega)];simp
theorem OW:mG U0 s (U0.length+1)=some (.cells [.slice none 0 (some 0) 0] (.rw (.box 24))):=by unfold mG;rw[if_neg (by omega)];exact UD
theorem Hz:mG U0 s (U0.length+2)=some (.cells [.bool false] (.rw (.box 4))):=by unfold mG;rw[if_neg (by omega)];exact UA
theorem FA (h:de s (mG U0 s) U U0.length st d):pa U0 U (.slice none 0 (some 0) 0) (.bool false):=by
 refine⟨⟨?_,λx hx=>?_⟩,h.bE _ _ OW,h.bE _ _ Hz⟩
 ·have:=bB (h.bE _ _ Hz);omega
 ·obtain⟨o,ho⟩:∃o,U0[x]? =some o:=⟨U0[x],bk hx⟩
  rw[ho];exact h.bE x o (by unfold mG;rw[if_neg (by omega),Li hx];exact ho)
theorem pa.Sc {t e:AV} (h:pa U0 U t e) (t':AV):pa U0 (U.set (U0.length+1) (.cells [t'] (.rw (.box 24)))) t' e:=
 ⟨⟨by simpa using h.up.len,λx hx=>by rw[aD (by omega)];exact h.up.same x hx⟩,cM (bB h.ht),by rw[aD (by omega)];exact h.he⟩
theorem pa.R4 {t e:AV} (h:pa U0 U t e) (e':AV):pa U0 (U.set (U0.length+2) (.cells [e'] (.rw (.box 4)))) t e':=
 ⟨⟨by simpa using h.up.len,λx hx=>by rw[aD (by omega)];exact h.up.same x hx⟩,by rw[aD (by omega)];exact h.ht,cM (bB h.he)⟩
theorem pa.y7 {t e:AV} (h:pa U0 U t e) (f:AV->Out):aI ae 24 U (U0.length+1) 0 f=f t:=cq (cs:=[t]) (by unfold aF;rw[h.ht]) Cz rfl
theorem pa.QG {t e:AV} (h:pa U0 U t e) (f:AV->Out):aI ae 4 U (U0.length+2) 0 f=f e:=cq (cs:=[e]) (by unfold aF;rw[h.he]) Ku rfl
theorem JZ {e:bd} (h:pa U0 U (.slice none 0 (some 0) 0) (.bool false)):
  Wp (FP U0 (.error e)) λu=>bC ae Lb u.n 79 [.ptr (some (U0.length+1,0)),.ptr (some (U0.length+2,0))] (some (gO e.1 e.2)) U λu6 U7=>
   bq u6 (λv8=>some (.pan v8,U7)) (aI ae 24 U7 (U0.length+1) 0 λx9=>aI ae 4 U7 (U0.length+2) 0 λx10=>some (.ret (.tuple [x9,x10]),U7)):=by
 have r1:=h.Sc (.slice none 0 (some 0) 0);have r2:=r1.R4 (.bool false);refine Wp.df (x':=none) (U':=_) ⟨0,λn _=>Ok (y:=.tuple []) (U':=((U.set (U0.length+1) (.cells [.slice none 0 (some 0) 0] (.rw (.box 24)))).set (U0.length+2) (.cells [.bool false] (.rw (.box 4))))) ?_⟩ (Wp.E2 ?_)
 ·simp only[DK,Option.getD_some,gO,qZ,if_true,bK,bc,ag,aZ,FE h.ht,FE r1.he]
 ·simp only[r2.y7,r2.QG];exact Wp.ret ⟨r2.up,rfl⟩
theorem agL {a:Ad} {k z:Nat} {c:On} {kids:List Nat} {o:Except bd (Nat×PS (ai s))} (h:KR s (mG U0 s) U U0.length st (.slice a k c z) kids) (ho:cH ⟨23,0,[],0,0,kids⟩ st=some o):
  Wp (FP U0 (vu o)) λu=>Hl u.n (some (U0.length,0)) (U0.length+1) 0 (U0.length+2) 0 a k c z (U0.length+1) 0 (U0.length+2) 0 U:=by
 refine YF ?_;refine KR.adH h ho rfl (λe he U' hx=>?_) λx ak U1 h he=>?_
 ·subst he;obtain⟨aX,d2,hx⟩:=hx;exact JZ (FA hx)
 ·subst he;obtain⟨tv,hc,hn⟩:=h.1.c;obtain⟨ta,tc,tz,gC⟩:=zj hn;have r0:=FA h.1;have r1:=r0.Sc tv;have r2:=r1.R4 (.bool true);simp only[aj,ag,an,hc.nodes];rw[gC]at r1 r2 hn|-;simp only[aS,FE r0.ht,FE r1.he];refine Wp.df (x':=none) (U':=_) ⟨0,λn _=>Ok (y:=.tuple []) (by simp only[DK,Option.getD_none,qZ];rfl)⟩ (Wp.E2 ?_);simp only[r2.y7,r2.QG];refine Wp.ret ⟨r2.up,_,rfl,fj.src (fr:=mG U0 s) (p:=U0.length) (hn.ads λb hb hf hp=>?_)⟩;rw[aD (λe=>by subst e;rw[Hz]at hf;cases hf),aD (λe=>by subst e;rw[OW]at hf;cases hf)]
theorem agN {N:Nat} (hN:N<=1000000000):∀(n:Nat) {acc:List Nat} {U:St} {st:PS (ai s)} {a:Ad} {k z:Nat} {c:On} {o:Except bd (Nat×PS (ai s))},
  acc.length+n<=1000000000->KR s (mG U0 s) U U0.length st (.slice a k c z) acc->(dt (sE N) n acc>>=λkids=>cH ⟨23,0,[],0,0,kids⟩) st=some o->
  Wp (FP U0 (vu o)) λu=>AY u.n u.m1 (some (U0.length,0)) (U0.length+1) 0 (U0.length+2) 0 a k c z (U0.length+1) 0 (U0.length+2) 0 U:=by
 intro n
 induction n with
 |zero=>intro acc U st a k z c o _ _ ho;rw[PM.bind_none rfl]at ho;cases ho
 |succ n ih=>
  intro acc U st a k z c o hl h ho;refine YG ?_;have hr:=h.rd;have e00:((st.tok.kind:Int)==(0:Int))=decide (st.tok.kind=0):=cL (b:=0);have e0:((st.tok.kind:Int) !=(0:Int))= !decide (st.tok.kind=0):=by rw[bne,e00]
  simp only[an,hr.kind,ag,e0];rw[pP]at ho;simp only[sE,PM.bind_assoc,PM.jN,PM.pure_bind,pN,pO]at ho;rw[tQ]at ho;refine Wp.ite (λhb=>?_) λhb=>?_
  ·have hb:¬st.tok.kind=0:=by simpa using hb
   rw[if_neg hb]at ho;refine KR.UT (Vz hN) h ho (λe he U' hx=>?_) λx ak U1 h ho=>?_
   ·subst he;obtain⟨aX,d2,hx⟩:=hx;exact JZ (FA hx)
   ·simp only[aj,ag];refine h.app rfl (by omega) λb U2 h=>?_;exact ih (by simp;omega) h ho
  ·have hb:st.tok.kind=0:=by simpa using hb
   rw[if_pos hb]at ho;exact agL h ho
theorem agM (hk:Kn U0) (hs:s.length<=1000000000) {n:Nat} (hn:n<=1000000000) {o:Except bd (List Node)} (ho:qK (ai s) (0:Nat) n=some o):
  Fw ae Lb 35 [.ptr (some (U0.length,0))] (U0++[aq.cells [.str s,.int .i64 (0:Int),.int .i64 (0:Int),.int .i64 (0:Int),.str [],.int .i64 (0:Int),.slice none 0 (some 0) 0,.int .i64 (0:Int)] (.rw (.box 100))]) (FP U0 o):=by
 refine YE ?_;have l1 (x:aq):(U0++[x]).length=U0.length+1:=by simp
 have l2 (x y:aq):(U0++[x]++[y]).length=U0.length+2:=by simp
 have HJ:(U0++[aq.cells [.str s,.int .i64 (0:Int),.int .i64 (0:Int),.int .i64 (0:Int),.str [],.int .i64 (0:Int),.slice none 0 (some 0) 0,.int .i64 (0:Int)] (.rw (.box 100))]++[aq.cells [.slice none 0 (some 0) 0] (.rw (.box 24))]++[aq.cells [.bool false] (.rw (.box 4))]:St)=kY U0 s:=rfl;simp only[l1,l2,HJ];unfold qK at ho;have pE:(ai s).eP (0:Nat)=match cut s 0 with|(f,none)=>.inl f|(_,some (t,q))=>.inr (t,q):=rfl
 rw[pE]at ho;have h0:bz (kY U0 s) U0.length s 0 ⟨0,0,[],0⟩ (.slice none 0 (some 0) 0) 0:=⟨UC⟩
 have hu:Up U0 (kY U0 s):=⟨by rw[UB];omega,λx hx=>Li hx⟩
 have xc:=hk.up hu;have hp4:4<=U0.length:=hk.len;have fL:zP (mG U0 s):=by
  have q {x:Nat} (hx:x<4):mG U0 s x=(kY U0 s)[x]?:=by unfold mG;rw[if_neg (by omega)]
  exact⟨by rw[q (by omega)];exact xc.asc,by rw[q (by omega)];exact xc.pow,by rw[q (by omega)];exact xc.syn,by rw[q (by omega)];exact xc.rng⟩
 have qu:=LV (at_:=0) hs xc hp4 (j9 _) h0;have hle:=@Gx s 0 (j9 _);have rB {U':St} (dN:Kp (kY U0 s).length U0.length (kY U0 s) U') {t:Tok} {q:Nat} (hc:bz U' U0.length s q t (.slice none 0 (some 0) 0) 0):de s (mG U0 s) U' U0.length (⟨t,q,[],0⟩:PS (ai s)) 0:=by
  refine⟨hs,fL,λb o pq=>?_,by unfold mG;rw[if_pos rfl],by simp,_,hc,.zero 0⟩;unfold mG at pq;split at pq
  ·cases pq
  ·rw[dN.same b (bB pq) (by assumption)];exact pq
 generalize cut s 0=ct at*;obtain⟨f,ct⟩:=ct;cases ct with
 |none=>
  simp only at ho;cases ho;refine Wp.di qu (λv U' hv=>by cases hv.1) λv U' hv=>?_;obtain⟨hv,dN,q,hc⟩:=hv;cases hv;exact JZ (e:=(13,f)) (FA (rB dN hc))
 |some x=>
  obtain⟨t,q⟩:=x;simp only at ho;have nJ:∃o2,qP (S:=ai s) n ⟨t,q,[],0⟩=some o2/\o=vu o2:=by
   cases hw:qP (S:=ai s) n ⟨t,q,[],0⟩with
   |none=>rw[hw]at ho;cases ho
   |some r=>
    rw[hw]at ho;cases r with
    |error e=>cases ho;exact⟨_,rfl,rfl⟩
    |ok x=>cases ho;exact⟨_,rfl,rfl⟩
  obtain⟨o2,nJ,rfl⟩:=nJ;refine Wp.di qu (λv U' hv=>?_) λv U' hv=>by cases hv.1
  obtain⟨hv,hc,dN⟩:=hv;cases hv;simp only[Tok.av,Tok.cells,bK,bc,ag,aG,aZ,an];have eX (f:St->Out):aT U' U0.length (0+2) [.int .i64 t.kind,.int .i64 t.at_,.str t.text,.int .i64 t.n] f=_:=hc.Sz t f;simp only[eX];have gd:bz (U'.set U0.length (.cells (rc s q t (.slice none 0 (some 0) 0) 0) (.rw (.box 100)))) U0.length s q t (.slice none 0 (some 0) 0) 0:=hc.put;have h2:=rB (dN.trans Kp.set) gd;refine Wp.cD (F:=λn m=>AY n m (some (U0.length,0)) (U0.length+1) 0 (U0.length+2) 0 none 0 (some 0) 0 (U0.length+1) 0 (U0.length+2) 0 (U'.set U0.length (.cells (rc s q t (.slice none 0 (some 0) 0) 0) (.rw (.box 100))))) ?_;exact agN hn n (by simp;omega) (.zero 0 ⟨h2,j9 _,hle rfl⟩) nJ
end
end Go.Front
end
section
set_option maxRecDepth 100000
namespace Go.Front
open Go.AM Go.Proofs
theorem ac3:liesAt ae ae.depth 94 (3/ae.cellsOf 94) 1 92 1=true:=by kernel_rfl
structure Pw (U0:St) (fr:Fr) (U:St) (w:Nat) (tv:AV) (l:By):Prop where
 kn:Kn U0
 base:∀b o,U0[b]? =some o->fr b=some o
 bE:∀b o,fr b=some o->U[b]? =some o
 wf:fr w=none
 bu:(l=[]/\∃a z,(a=none\/a=some (w,1))/\U[w]? =some (.cells [tv,.ptr a,.slice none 0 (some 0) z] (.rw (.box 94))))\/
  ∃g,l≠[]/\U[w]? =some (.cells [tv,.ptr (some (w,1)),.slice (some (g,0)) l.length none 1] (.rw (.box 94)))/\U[g]? =some (.cells (bH l) (.rw (.row 5)))/\g≠w/\fr g=none
section
variable {U0 U U':St} {fr:Fr} {w:Nat} {tv:AV} {l:By} {Q:bw}
theorem Pw.up (h:Pw U0 fr U w tv l):Up U0 U:=by
 have td:∀x,x<U0.length->U[x]? =U0[x]?:=λx hx=>by
  obtain⟨o,ho⟩:∃o,U0[x]? =some o:=⟨U0[x],bk hx⟩
  rw[ho];exact h.bE x o (h.base x o ho)
 refine⟨?_,td⟩;rcases gu U.length U0.length with hl|hl
 ·have:=td U.length hl;rw[fP (aA _),bk hl]at this;cases this
 ·exact hl
theorem Pw.lt (h:Pw U0 fr U w tv l):w<U.length:=by
 rcases h.bu with⟨_,a,z,_,h⟩|⟨g,_,h,_⟩<;>exact bB h
theorem Pw.lV (h:Pw U0 fr U w tv l) {b:Nat} (hb:U.length<=b):fr b=none:=by
 cases hf:fr b with
 |none=>rfl
 |some o=>have:=bB (h.bE b o hf);omega
theorem Pw.xn (h:Pw U0 fr U w tv l) (o:aq):Pw U0 (ins fr U.length o) (U++[o]) w tv l:=by
 have hf:=h.lV (aA U.length);have hw:=h.lt;refine⟨h.kn,λb y hb=>qz hf (h.base b y hb),λb y hb=>?_,by rw[jL (by omega)];exact h.wf,?_⟩
 ·by_cases e:b=U.length
  ·subst e;rw[iN]at hb;cases hb;rw[bQ (aA _)];simp
  ·rw[jL e]at hb;have:=h.bE b y hb;rw[bO (bB this)];exact this
 ·rcases h.bu with⟨h1,a,z,h2,h3⟩|⟨g,h1,h2,h3,h4,h5⟩
  ·exact .inl ⟨h1,a,z,h2,by rw[bO hw];exact h3⟩
  ·exact .inr ⟨g,h1,by rw[bO hw];exact h2,by rw[bO (bB h3)];exact h3,h4,by rw[jL (by have:=bB h3;omega)];exact h5⟩
theorem Pw.iW {b:Nat} {o:aq} (h:Pw U0 (ins fr b o) U w tv l) (hf:fr b=none) (hb:∀b o,U0[b]? =some o->fr b=some o):Pw U0 fr U w tv l:=by
 refine⟨h.kn,hb,λx y hx=>h.bE x y (qz hf hx),qy hf h.wf,?_⟩;rcases h.bu with h1|⟨g,h1,h2,h3,h4,h5⟩
 ·exact .inl h1
 ·exact .inr ⟨g,h1,h2,h3,h4,qy hf h5⟩
theorem Pw.grow (h:Pw U0 fr U w tv l) (hu:Up U U'):Pw U0 fr U' w tv l:=by
 have hw:=h.lt;refine⟨h.kn,h.base,λb o hb=>?_,h.wf,?_⟩
 ·have:=h.bE b o hb;rw[hu.same b (bB this)];exact this
 ·rcases h.bu with⟨h1,a,z,h2,h3⟩|⟨g,h1,h2,h3,h4,h5⟩
  ·exact .inl ⟨h1,a,z,h2,by rw[hu.same w hw];exact h3⟩
  ·exact .inr ⟨g,h1,by rw[hu.same w hw];exact h2,by rw[hu.same g (bB h3)];exact h3,h4,h5⟩
theorem Pw.tree (h:Pw U0 fr U w tv l) (f:AV->Out):aI ae 24 U w (0+0) f=f tv:=by
 rcases h.bu with⟨_,a,z,_,h⟩|⟨g,_,h,_⟩<;>exact cq (by unfold aF;rw[h]) Cz rfl
def kU (U0:St) (fr:Fr) (w:Nat) (tv:AV) (l:By):bw:=λr U'=>r=.ret (.tuple [])/\Pw U0 fr U' w tv l
theorem LP {a:Ad} {v:AV} (h:U[w]? =some (.cells [tv,.ptr a,v] (.rw (.box 94)))) (ha:a=none\/a=some (w,1)):
  Fw ae Lb 132 [.ptr (some (w,1))] U λr U'=>r=.ret (.tuple [])/\U'=U.set w (.cells [tv,.ptr (some (w,1)),v] (.rw (.box 94))):=by
 rcases ha with rfl|rfl
 ·refine Fw.jP (r:=.ret (.tuple [])) (U':=U.set w (.cells [tv,.ptr (some (w,1)),v] (.rw (.box 94)))) ?_ ⟨rfl,rfl⟩;simp only[Lb,xd,h,oY,ja];exact if_pos ac3
 ·refine Fw.jP (r:=.ret (.tuple [])) (U':=U) ?_ ⟨rfl,(rT h).symm⟩;simp only[Lb,xd,h,oY,ja,if_true]
theorem lR {s:By}:(bH s).length=s.length:=by simp[bH]
theorem Gf {s t:By}:bH (s++t)=bH s++bH t:=by simp[bH]
theorem Pw.write {n z:Nat} {a:Ad} {c:On} {s:By} {K:Fu->St->Out} (h:Pw U0 fr U w tv l) (hl:l.length+s.length<=1000000000)
  (hc:∃v,U[w]? =some (.cells [tv,.ptr (some (w,1)),v] (.rw (.box 94)))/\v=.slice a n c z)
  (hk:∀U',Pw U0 fr U' w tv (l++s)->Wp Q λu=>K u U'):
  Wp Q λu=>dT U 5 1 1 a n z s.length (bH s) λa12 n13 c14 U15=>aT U15 w (1+1) [.slice a12 n13 c14 1] λU18=>K u U18:=by
 obtain⟨v,hv,rfl⟩:=hc;have hw:=h.lt;have dw {τ:St} {y x:AV} {k:St->Out} (hx:τ[w]? =some (.cells [tv,.ptr (some (w,1)),x] (.rw (.box 94)))):aT τ w (1+1) [y] k=k (τ.set w (.cells [tv,.ptr (some (w,1)),y] (.rw (.box 94)))):=by
  unfold aT;rw[hx];simp only;rw[if_pos (by simp)];rfl
 rcases h.bu with⟨h1,a',z',h2,h3⟩|⟨g,h1,h2,h3,h4,h5⟩
 ·rw[hv]at h3;cases h3;subst h1;cases s with
  |nil=>
   refine Wp.TO ?_;simp only[dw hv];refine hk _ ⟨h.kn,h.base,λb o hb=>?_,h.wf,.inl ⟨rfl,some (w,1),1,.inr rfl,cM hw⟩⟩;rw[aD (λe=>by subst e;rw[h.wf]at hb;cases hb)];exact h.bE b o hb
  |cons x s=>
   refine Wp.sj (by simp) (by simp only[fw,cr]at hl|-;omega) ?_;have Iu:(U++[aq.cells (bH (x::s)) (.rw (.row 5))])[w]? =some (.cells [tv,.ptr (some (w,1)),.slice none 0 (some 0) z] (.rw (.box 94))):=by rw[bO hw];exact hv
   simp only[dw Iu];refine hk _ ⟨h.kn,h.base,λb o hb=>?_,h.wf,.inr ⟨U.length,by simp,by rw[cM (by simp;omega)];rfl,?_,by omega,h.lV (aA _)⟩⟩
   ·rw[aD (λe=>by subst e;rw[h.wf]at hb;cases hb),bO (bB (h.bE b o hb))];exact h.bE b o hb
   ·rw[aD (by omega),bQ (aA _)];simp
 ·rw[hv]at h2;cases h2;have hg:=bB h3;refine Wp.sk h3 (by rw[lR];omega) (by omega) ?_;have Iu:(U.set g .dead++[aq.cells (((bH l).drop 0).take (l.length*1)++bH s) (.rw (iq (.row 5) 5))])[w]? =some (.cells [tv,.ptr (some (w,1)),.slice (some (g,0)) l.length none 1] (.rw (.box 94))):=by
   rw[bO (by simpa using hw),aD h4];exact hv
  simp only[dw Iu];refine hk _ ⟨h.kn,h.base,λb o hb=>?_,h.wf,.inr ⟨U.length,by simp[h1],by rw[cM (by simp;omega)];simp,?_,by omega,h.lV (aA _)⟩⟩
  ·have bD:g≠b:=λe=>by subst e;rw[h5]at hb;cases hb
   rw[aD (λe=>by subst e;rw[h.wf]at hb;cases hb),bO (by simpa using bB (h.bE b o hb)),aD bD];exact h.bE b o hb
  ·rw[aD (by omega),bQ (by simp)];simp only[iA,gJ,ja];have e:((bH l).drop 0).take (l.length*1)=bH l:=by rw[iy,lC,<-lR,j8]
   rw[e,<-Gf];rfl
theorem Pw.checked (h:Pw U0 fr U w tv l):∃a n c z a0,U[w]? =some (.cells [tv,.ptr a0,.slice a n c z] (.rw (.box 94)))/\(a0=none\/a0=some (w,1))/\
  (U.set w (.cells [tv,.ptr (some (w,1)),.slice a n c z] (.rw (.box 94))))[w]? =some (.cells [tv,.ptr (some (w,1)),.slice a n c z] (.rw (.box 94)))/\Pw U0 fr (U.set w (.cells [tv,.ptr (some (w,1)),.slice a n c z] (.rw (.box 94)))) w tv l:=by
 have hw:=h.lt;have hk:∀{x:aq} b o,fr b=some o->(U.set w x)[b]? =some o:=λb o hb=>by
  rw[aD (λe=>by subst e;rw[h.wf]at hb;cases hb)];exact h.bE b o hb
 rcases h.bu with⟨h1,a',z',h2,h3⟩|⟨g,h1,h2,h3,h4,h5⟩
 ·exact⟨_,_,_,_,_,h3,h2,cM hw,h.kn,h.base,hk,h.wf,.inl ⟨h1,some (w,1),z',.inr rfl,cM hw⟩⟩
 ·exact⟨_,_,_,_,_,h2,.inr rfl,cM hw,h.kn,h.base,hk,h.wf,.inr ⟨g,h1,cM hw,by rw[aD (cY h4)];exact h3,h4,h5⟩⟩
theorem agT {s:By} (h:Pw U0 fr U w tv l) (hl:l.length+s.length<=1000000000):Fw ae Lb 99 [.ptr (some (w,1)),.str s] U λr U'=>r=.ret (.tuple [.int .i64 (s.length:Int),.nilIface])/\Pw U0 fr U' w tv (l++s):=by
 refine aap ?_;obtain⟨a,n,c,z,a0,h1,h2,h3,h4⟩:=h.checked;refine Wp.call (LP h1 h2) (λv U' hv=>?_) λv U' hv=>by cases hv.1
 obtain⟨hv,rfl⟩:=hv;have dJ (f:AV->Out):aI ae 74 (U.set w (.cells [tv,.ptr (some (w,1)),.slice a n c z] (.rw (.box 94)))) w (1+1) f=f (.slice a n c z):=cq (by unfold aF;rw[h3]) si rfl;simp only[an,dJ,aS];exact h4.write hl ⟨_,h3,rfl⟩ λU' hp=>Wp.ret ⟨rfl,hp⟩
theorem JY {b:UInt8} (h:Pw U0 fr U w tv l) (hl:l.length+1<=1000000000):Fw ae Lb 100 [.ptr (some (w,1)),.int .u8 b.toNat] U λr U'=>r=.ret .nilIface/\Pw U0 fr U' w tv (l++[b]):=by
 refine Mo ?_;obtain⟨a,n,c,z,a0,h1,h2,h3,h4⟩:=h.checked;refine Wp.call (LP h1 h2) (λv U' hv=>?_) λv U' hv=>by cases hv.1
 obtain⟨hv,rfl⟩:=hv;have dJ (f:AV->Out):aI ae 74 (U.set w (.cells [tv,.ptr (some (w,1)),.slice a n c z] (.rw (.box 94)))) w (1+1) f=f (.slice a n c z):=cq (by unfold aF;rw[h3]) si rfl;simp only[an,dJ,aS];exact h4.write (s:=[b]) hl ⟨_,h3,rfl⟩ λU' hp=>Wp.ret ⟨rfl,hp⟩
theorem aeR {b:Nat} {c:On} {strs:List (By)} (iM:strs.length<=1000) (hb:fr b=some (.cells (strs.map .str) (.rw (.row 9)))):
  ∀(k i:Nat) {l:By} {U:St},i+k=strs.length->Pw U0 fr U w tv l->(l++(strs.drop i).flatMap aK).length<=1000000000->
  Wp (kU U0 fr w tv (l++(strs.drop i).flatMap aK)) λu=>sJ u.n u.m1 (some (w,0)) (some (b,0)) strs.length c 1 strs.length i U:=by
 intro k
 induction k with
 |zero=>
  intro i l U hi h hl;refine Od ?_;refine Wp.neg (by rw[decide_eq_false_iff_not];omega) (Wp.ret ⟨rfl,?_⟩);rw[jB (by omega)];simpa using h
 |succ k ih=>
  intro i l U hi h hl;obtain⟨s,hs⟩:∃s,strs[i]? =some s:=⟨strs[i],bk (by omega)⟩
  have hc:aF U b=some (strs.map .str):=by unfold aF;rw[h.bE b _ hb]
  have hw:ah .i64 ((i:Int)+1)=((i+1:Nat):Int):=by rw[wrap64 (by omega) (by omega)];omega
  rw[drop_cons hs,eU]at hl|-;rw[<-aO]at hl|-;have ma:(aK s).length=s.length+1:=by simp[aK]
  have fS:l.length+s.length+1<=1000000000:=by simp only[az,ma]at hl;omega
  refine Od ?_;simp only[an,aU,vo hc hs,aG,bm (show(0:Int)<=(i:Int)/\(i:Int)<(strs.length:Int)from⟨by omega,by omega⟩)];refine Wp.pos (by rw[decide_eq_true_eq];omega) ?_;refine Wp.call (agT (w:=w) h (by omega)) (λv U' hv=>?_) λv U' hv=>by cases hv.1
  obtain⟨hv,h⟩:=hv;cases hv;simp only[eY,bc,ag,aZ];have nl (he:aK s=s++[10]) (hF:∀U',Pw U0 fr U' w tv (l++aK s)->Wp (kU U0 fr w tv (l++aK s++(strs.drop (i+1)).flatMap aK)) λu=>sJ u.n u.m1 (some (w,0)) (some (b,0)) strs.length c 1 strs.length (i+1:Nat) U'):
    Wp (kU U0 fr w tv (l++aK s++(strs.drop (i+1)).flatMap aK)) λu=>DJ u.n u.m1 (some (w,0)) (some (b,0)) strs.length c 1 strs.length i U':=by
   refine ZG ?_;simp only[an,hw];refine Wp.call (JY (b:=10) (w:=w) h (by simp;omega)) (λv U2 hv=>?_) λv U' hv=>by cases hv.1
   obtain⟨_,h2⟩:=hv;refine hF U2 ?_;rw[he,<-aO];exact h2
  have next:∀U',Pw U0 fr U' w tv (l++aK s)->Wp (kU U0 fr w tv (l++aK s++(strs.drop (i+1)).flatMap aK)) λu=>sJ u.n u.m1 (some (w,0)) (some (b,0)) strs.length c 1 strs.length (i+1:Nat) U':=
   λU' hp=>ih (i+1) (by omega) hp hl
  have p1 (h1:(s==[59])=true):aK s=s++[10]:=by
   have:s=[59]:=by simpa using h1
   unfold aK;rw[if_pos (.inl this)]
  have p2 (h1:(s==[123])=true):aK s=s++[10]:=by
   have:s=[123]:=by simpa using h1
   unfold aK;rw[if_pos (.inr (.inl this))]
  refine Wp.ite (λh1=>nl (p1 h1) next) λh1=>Wp.ite (λh2=>nl (p2 h2) next) λh2=>?_;refine ZH ?_;simp only[an,hw];refine Wp.ite (λh3=>?_) λh3=>?_
  ·refine Wp.call (JY (b:=10) (w:=w) h (by simp;omega)) (λv U2 hv=>?_) λv U' hv=>by cases hv.1
   obtain⟨_,h4⟩:=hv;refine next U2 ?_
   have:aK s=s++[10]:=by
    have:s=[125]:=by simpa using h3
    unfold aK;rw[if_pos (.inr (.inr this))]
   rw[this,<-aO];exact h4
  ·refine Wp.call (JY (b:=32) (w:=w) h (by simp;omega)) (λv U2 hv=>?_) λv U' hv=>by cases hv.1
   obtain⟨_,h4⟩:=hv;refine next U2 ?_
   have:aK s=s++[32]:=by
    unfold aK;rw[if_neg];rintro(e|e|e)<;>subst e<;>simp at h1 h2 h3
   rw[this,<-aO];exact h4
theorem RL {b:Nat} {c:On} {strs:List (By)} (iM:strs.length<=1000) (hb:fr b=some (.cells (strs.map .str) (.rw (.row 9)))) (h:Pw U0 fr U w tv l) (hl:(l++strs.flatMap aK).length<=1000000000):
  Fw ae Lb 74 [.ptr (some (w,0)),.slice (some (b,0)) strs.length c 1] U (kU U0 fr w tv (l++strs.flatMap aK)):=by
 refine ZF ?_;have h0:=aeR (c:=c) iM hb strs.length 0 (by omega) h (by simpa using hl);rw[show((0:Nat):Int)=0 from rfl,iy]at h0;exact Wp.cD (F:=λn m=>sJ n m (some (w,0)) (some (b,0)) strs.length c 1 strs.length 0 U) h0
theorem Pw.put {K:Fu->AV->St->Out} {b n:Nat} {c:On} {cs:List AV} (strs:List (By)) (h:Pw U0 fr U w tv l) (hb:b=U.length) (hn:n=strs.length) (bg:cs=strs.map .str) (iM:strs.length<=1000) (hl:(l++strs.flatMap aK).length<=1000000000)
  (hk:∀U',Pw U0 fr U' w tv (l++strs.flatMap aK)->Wp Q λu=>K u (.tuple []) U'):
  Wp Q λu=>cW ae Lb u.n 74 [.ptr (some (w,0)),.slice (some (b,0)) n c 1] (U++[aq.cells cs (.rw (.row 9))]) (K u):=by
 subst hb;subst hn;subst bg;refine Wp.call (RL iM iN (h.xn _) hl) (λv U' hv=>?_) λv U' hv=>by cases hv.1
 obtain⟨hv,hp⟩:=hv;cases hv;exact hk U' (hp.iW (h.lV (aA _)) h.base)
theorem Pw.B5 {K:Fu->AV->St->Out} {b n:Nat} {c:On} {cs:List AV} (strs:List (By)) (h:Pw U0 fr U w tv l) (hb:b=U.length) (hn:n=strs.length) (bg:cs=strs.map .str) (iM:strs.length<=1000) (hl:(l++strs.flatMap aK).length<=1000000000)
  (hk:∀U',Pw U0 fr U' w tv (l++strs.flatMap aK)->Wp Q λu=>K u (.tuple []) U'):
  Wp Q λu=>cZ ae Lb u.n 74 [.ptr (some (w,0)),.slice (some (b,0)) n c 1] (U++[aq.cells cs (.rw (.row 9))]) (K u):=by
 subst hb;subst hn;subst bg;refine Wp.eE (RL iM iN (h.xn _) hl) (λv U' hv=>?_) λv U' hv=>by cases hv.1
 obtain⟨hv,hp⟩:=hv;cases hv;exact hk U' (hp.iW (h.lV (aA _)) h.base)
end
end Go.Front
end
section
set_option maxRecDepth 100000
namespace Go.Front
open Go.AM Go.Proofs
theorem Kv:dz ae 89=some false:=by kernel_rfl
theorem TH:dz ae 71=some false:=by kernel_rfl
theorem JM {τ:St} {cs ys:List AV} {m:Mk} {f:St->Out} (h:ys.length=cs.length):aT (τ++[aq.cells cs (.rw m)]) τ.length 0 ys f=f (τ++[aq.cells ys (.rw m)]):=by
 unfold aT;rw[bQ (aA _)];simp only[gJ,ja];rw[if_pos (by omega),sd _ _ (aA _),R5 _ _ h];simp
def B0 (y:Node) (kv:AV):List AV:=[.int .i64 y.kind,.int .i64 y.at_,.str y.text,.int .i64 y.n,.int .i64 y.m,kv]
def jD (w:Nat):aq:=.cells [.ptr (some (w,0))] (.rw (.box 89))
def pd (y:Node) (kv:AV):aq:=.cells (B0 y kv) (.rw (.box 42))
def wg (n0:Nat):aq:=.cells [.func (.func 137) [] [.ptr (some (n0,0)),.ptr (some (n0+1,0))]] (.rw (.box 71))
structure jy (τ:St) (n0 w:Nat) (y:Node) (kv:AV):Prop where
 a:τ[n0]? =some (jD w)
 b:τ[n0+1]? =some (pd y kv)
 c:τ[n0+2]? =some (wg n0)
section
variable {τ:St} {n0 w:Nat} {y:Node} {kv:AV}
theorem jy.ll (h:jy τ n0 w y kv) (f:AV->Out):aI ae 89 τ n0 0 f=f (.ptr (some (w,0))):=cq (cs:=[.ptr (some (w,0))]) (by unfold aF;rw[h.a];rfl) Kv rfl
theorem jy.cb (h:jy τ n0 w y kv):aF τ (n0+1)=some (B0 y kv):=by unfold aF;rw[h.b];rfl
theorem jy.acU (h:jy τ n0 w y kv) (f:AV->Out):aI ae 3 τ (n0+1) 0 f=f (.int .i64 y.kind):=cq h.cb fA rfl
theorem jy.tw (h:jy τ n0 w y kv) (f:AV->Out):aI ae 2 τ (n0+1) 3 f=f (.int .i64 y.n):=cq h.cb Kq rfl
theorem jy.y7 (h:jy τ n0 w y kv) (f:AV->Out):aI ae 9 τ (n0+1) 2 f=f (.str y.text):=cq h.cb kX rfl
theorem jy.BS (h:jy τ n0 w y kv) (f:AV->Out):aI ae 28 τ (n0+1) 5 f=f kv:=cq h.cb CA rfl
theorem jy.IQ (h:jy τ n0 w y kv) (f:AV->Out):aI ae 28 τ (n0+1) (0+5) f=f kv:=cq h.cb CA rfl
theorem jy.EV (h:jy τ n0 w y kv) (f:AV->Out):aI ae 71 τ (n0+2) 0 f=f (.func (.func 137) [] [.ptr (some (n0,0)),.ptr (some (n0+1,0))]):=cq (cs:=[.func (.func 137) [] [.ptr (some (n0,0)),.ptr (some (n0+1,0))]]) (by unfold aF;rw[h.c];rfl) TH rfl
end
theorem Ex.ae9 (e:Ex) (b:Nat):(e.root b).kind=7↔e.kD=true:=by cases e<;>simp[Ex.root,Ex.kD]
theorem Ex.afd (e:Ex) (b:Nat):((e.root b).kind=6\/(e.root b).kind=7)↔e.gD=true:=by cases e<;>simp[Ex.root,Ex.gD]
theorem Ex.afb (e:Ex) (b:Nat) (h:(e.root b).kind=7):∃op:Nat,(e.root b).n=(op:Int)/\e.lv=level op:=by
 cases e<;>simp[Ex.root]at h
 exact⟨_,rfl,rfl⟩
theorem Ex.afc (e:Ex) (b:Nat) (h:¬(e.root b).kind=7):e.lv=99:=by
 cases e<;>simp[Ex.root,Ex.lv]at h|-
section
variable {U0 U τ:St} {fr:Fr} {w tb n0 i k:Nat} {tv kv:AV} {l:By} {Q:bw} {t:List Node} {c2:On} {y z:Node}
theorem vm {b k:Nat} {ks:List Nat} (h:aF U b=some (gE ks)) (hk:ks[0]? =some k) (f:AV->Out):aI ae 3 U b (0+0) f=f (.int .i64 (k:Int)):=
 cq h fA (by simp[gE,hk])
theorem EW {b k:Nat} {ks:List Nat} (h:aF U b=some (gE ks)) (hk:ks[1]? =some k) (f:AV->Out):aI ae 3 U b (0+1) f=f (.int .i64 (k:Int)):=
 cq h fA (by simp[gE,hk])
theorem EI (h:Pw U0 fr τ w (.slice (some (tb,0)) t.length c2 6) l) (hb:jy τ n0 w y kv) (bh:fu U0 kv y.kids) (hs:Src U0 tb t) (hk:y.kids[i]? =some k) (hz:t[k]? =some z):
  Fw ae Lb 137 [.int .i64 (i:Int),.ptr (some (n0,0)),.ptr (some (n0+1,0))] τ λr U'=>r=.ret (.int .i64 z.kind)/\U'=τ:=by
 obtain⟨b,c,rfl,cw⟩:=bh.eg hk;have hi:=(bl.1 hk).1;have eW:=(bl.1 hz).1;refine WG ?_;simp only[hb.ll,jX,an,h.tree,aS,hb.IQ,aU,bm (show(0:Int)<=(i:Int)/\(i:Int)<(y.kids.length:Int)from⟨by omega,by omega⟩),kF (h.up.cells cw) hk,ag,
  bm (show(0:Int)<=(k:Int)/\(k:Int)<(t.length:Int)from⟨by omega,by omega⟩),(hs.up h.up).kind hz]
 exact Wp.ret ⟨rfl,rfl⟩
theorem QL {e:Ex} {b0:Nat} (h:Pw U0 fr τ w (.slice (some (tb,0)) t.length c2 6) l) (hb:jy τ n0 w y kv) (bh:fu U0 kv y.kids) (hs:Src U0 tb t) (hk:y.kids[i]? =some k) (hz:t[k]? =some (e.root b0)):
  Fw ae Lb 141 [.int .i64 (i:Int),.ptr (some (n0+2,0)),.ptr (some (n0,0)),.ptr (some (n0+1,0))] τ λr U'=>r=.ret (.int .i64 (e.lv:Int))/\U'=τ:=by
 obtain⟨b,c,dE,cw⟩:=bh.eg hk;have hi:=(bl.1 hk).1;have eW:=(bl.1 hz).1;refine WQ ?_;simp only[hb.EV];refine Wp.CR (Wp.call (EI h hb bh hs hk hz) (λv U' hv=>?_) λv U' hv=>by cases hv.1);obtain⟨hv,rfl⟩:=hv;cases hv;simp only[ag];refine Wp.ite (λh7=>?_) λh7=>?_
 ·refine Wp.ret ⟨?_,rfl⟩;rw[Ex.afc e b0 (by simpa using h7)];rfl
 ·have h7:(e.root b0).kind=7:=by simpa using h7
  obtain⟨op,eF,pD⟩:=Ex.afb e b0 h7;rw[dE]at hb;simp only[hb.ll,jX,an,h.tree,aS,hb.IQ,aU,bm (show(0:Int)<=(i:Int)/\(i:Int)<(y.kids.length:Int)from⟨by omega,by omega⟩),kF (h.up.cells cw) hk,ag,
   bm (show(0:Int)<=(k:Int)/\(k:Int)<(t.length:Int)from⟨by omega,by omega⟩),(hs.up h.up).num hz,eF]
  refine Wp.eE (BV op) (λv U' hv=>?_) λv U' hv=>by cases hv.1
  obtain⟨hv,rfl⟩:=hv;cases hv;simp only[ag];exact Wp.ret ⟨by rw[pD],rfl⟩
theorem Rk (hk:Kn U) {op:Nat} (h1:1<=op) (h2:op<=21):Fw ae Lb 140 [.int .i64 (op:Int)] U λr U'=>r=.ret (.str (fE op))/\U'=U++[.cells (pT.map .str) .ro]:=by
 refine WO ?_;refine Wp.call (DV hk (l:=pT) (by decide) (by kernel_rfl)) (λv U' hv=>?_) λv U' hv=>by cases hv.1
 obtain⟨hv,rfl⟩:=hv;cases hv;simp only[aS];have hc:aF (U++[aq.cells (pT.map .str) .ro]) U.length=some (pT.map .str):=by unfold aF;rw[bQ (aA _)];simp
 have hlen:pT.length=21:=rfl;have hw:ah .i64 ((op:Int)-1)=((op-1:Nat):Int):=by rw[wrap64 (by omega) (by omega)];omega
 have hx:pT[op-1]? =some (fE op):=by
  unfold fE;rw[gq,bk (by omega)];rfl
 simp only[hw,an,aU,bm (show(0:Int)<=((op-1:Nat):Int)/\((op-1:Nat):Int)<(pT.length:Int)from⟨by omega,by omega⟩),vo hc hx,aG];exact Wp.ret ⟨rfl,rfl⟩
def Co (U0:St) (w:Nat) (tv:AV) (e:Ex) (x:Nat):Prop:=∀fr U l,Pw U0 fr U w tv l->(l++e.pr).length<=1000000000->Fw ae Lb 102 [.ptr (some (w,0)),.int .i64 (x:Int)] U (kU U0 fr w tv (l++e.pr))
theorem Cj {e:Ex} {x:Nat} {is:Bool} (he:Co U0 w tv e x) (h:Pw U0 fr U w tv l) (hl:(l++jg is e.pr).length<=1000000000):Fw ae Lb 139 [.ptr (some (w,0)),.int .i64 (x:Int),.bool is] U (kU U0 fr w tv (l++jg is e.pr)):=by
 refine WJ ?_;cases is with
 |true=>
  have HH:l++jg true e.pr=l++[[40]].flatMap aK++e.pr++[[41]].flatMap aK:=by simp[jg]
  rw[HH]at hl|-;refine Wp.pos rfl ?_;refine h.put [[40]] rfl rfl rfl (by decide) (by simp only[az]at hl|-;omega) λU1 h1=>?_;refine MC ?_;refine Wp.call (he _ _ _ h1 (by simp only[az]at hl|-;omega)) (λv U' hv=>?_) λv U' hv=>by cases hv.1
  refine Wp.pos rfl ?_;refine hv.2.put [[41]] rfl rfl rfl (by decide) hl λU2 h2=>Wp.ret ⟨rfl,h2⟩
 |false=>
  have HH:l++jg false e.pr=l++e.pr:=by simp[jg]
  rw[HH]at hl|-;refine Wp.neg rfl ?_;refine MC ?_;refine Wp.call (he _ _ _ h hl) (λv U' hv=>?_) λv U' hv=>by cases hv.1
  exact Wp.neg rfl (Wp.ret ⟨rfl,hv.2⟩)
def w9 (i:Nat) (r:List (By)):By:=if i=0 then nP r else r.flatMap λy=>aK [44]++y
theorem ab3 {i:Nat} {x:By} {r:List (By)}:w9 i (x::r)=(if i=0 then[]else aK [44])++x++w9 (i+1) r:=by
 unfold w9;by_cases h:i=0
 ·subst h;simp[nP]
 ·simp[h]
theorem ab4 {i:Nat}:w9 i []=[]:=by unfold w9;split<;>rfl
def KP (U0:St) (kv:AV) (ks:List Nat):Prop:=(∃a c z,kv=.slice a ks.length c z)/\∀(i x:Nat),ks[i]? =some x->∃b c,kv=.slice (some (b,0)) ks.length c 1/\∀U,Up U0 U->∀f,aI ae 3 U b (0+((i:Int)).toNat*1) f=f (.int .i64 (x:Int))
theorem fu.kp {ks:List Nat} (h:fu U0 kv ks):KP U0 kv ks:=
 ⟨h.slice,λi x hx=>by obtain⟨b,c,h1,h2⟩:=h.eg hx;exact⟨b,c,h1,λU hu f=>kF (hu.cells h2) hx f⟩⟩
theorem Vj {f:FuncId} {ks:List Nat} {outs:List (By)} (hlen:outs.length=ks.length) (eW:ks.length<=1000000) (bh:KP U0 kv ks) {a:Ad} {n z:Nat} {c:On} (he:kv=.slice a n c z)
  (bX:∀(j k:Nat) (out:By),ks[j]? =some k->outs[j]? =some out->∀fr U l,Pw U0 fr U w tv l->(l++out).length<=1000000000->Fw ae Lb f [.ptr (some (w,0)),.int .i64 (k:Int)] U (kU U0 fr w tv (l++out))):
  ∀(k i:Nat) {l:By} {U:St},i+k=ks.length->Pw U0 fr U w tv l->(l++w9 i (outs.drop i)).length<=1000000000->
  Wp (kU U0 fr w tv (l++w9 i (outs.drop i))) λu=>yn u.n u.m1 (some (w,0)) (.func (.func f) [.ptr (some (w,0))] []) a n c z n i U:=by
 intro k
 induction k with
 |zero=>
  intro i l U hi h hl;obtain⟨_,_,_,bW⟩:=bh.1;rw[bW]at he;cases he;refine Oe ?_;refine Wp.neg (by rw[decide_eq_false_iff_not];omega) (Wp.ret ⟨rfl,?_⟩);rw[jB (by omega),ab4,cg];exact h
 |succ k ih=>
  intro i l U hi h hl;obtain⟨x,hx⟩:∃x,ks[i]? =some x:=⟨ks[i],bk (by omega)⟩
  obtain⟨o,ho⟩:∃o,outs[i]? =some o:=⟨outs[i],bk (by omega)⟩
  obtain⟨b,c',dE,cw⟩:=bh.2 i x hx;rw[dE]at he;cases he;have hw:ah .i64 ((i:Int)+1)=((i+1:Nat):Int):=by rw[wrap64 (by omega) (by omega)];omega
  rw[drop_cons ho,ab3,<-aO,<-aO]at hl|-;refine Oe ?_;simp only[an,aU,cw U h.up,ag,hw,bm (show(0:Int)<=(i:Int)/\(i:Int)<(ks.length:Int)from⟨by omega,by omega⟩)];refine Wp.pos (by rw[decide_eq_true_eq];omega) (Wp.ite (λhp=>?_) λhp=>?_)
  ·have h0:¬i=0:=by simp at hp;omega
   rw[if_neg h0]at hl|-;refine h.put [[44]] rfl rfl rfl (by decide) (by simp only[eU,List.flatMap_nil,cg,az]at hl|-;omega) λU1 h1=>?_;rw[show([[44]]:List (By)).flatMap aK=aK [44] by simp]at h1;refine Wp.CR (Wp.call (bX i x o hx ho _ _ _ h1 (by simp only[az]at hl|-;omega)) (λv U' hv=>?_) λv U' hv=>by cases hv.1);exact ih (i+1) (by omega) hv.2 hl
  ·have h0:i=0:=by simp at hp;omega
   rw[if_pos h0,cg]at hl|-;refine Wp.CR (Wp.call (bX i x o hx ho _ _ _ h (by simp only[az]at hl|-;omega)) (λv U' hv=>?_) λv U' hv=>by cases hv.1);exact ih (i+1) (by omega) hv.2 hl
theorem LH {f:FuncId} {ks:List Nat} {outs:List (By)} (hlen:outs.length=ks.length) (eW:ks.length<=1000000) (bh:KP U0 kv ks)
  (bX:∀(j k:Nat) (out:By),ks[j]? =some k->outs[j]? =some out->∀fr U l,Pw U0 fr U w tv l->(l++out).length<=1000000000->Fw ae Lb f [.ptr (some (w,0)),.int .i64 (k:Int)] U (kU U0 fr w tv (l++out)))
  (h:Pw U0 fr U w tv l) (hl:(l++nP outs).length<=1000000000):Fw ae Lb 76 [.ptr (some (w,0)),kv,.func (.func f) [.ptr (some (w,0))] []] U (kU U0 fr w tv (l++nP outs)):=by
 obtain⟨a,c,z,rfl⟩:=bh.1;refine ZI ?_;have h0:=Vj (fr:=fr) hlen eW bh rfl bX ks.length 0 (by omega) h hl;rw[show((0:Nat):Int)=0 from rfl]at h0;exact Wp.cD (F:=λn m=>yn n m (some (w,0)) (.func (.func f) [.ptr (some (w,0))] []) a ks.length c z ks.length 0 U) h0
end
end Go.Front
end

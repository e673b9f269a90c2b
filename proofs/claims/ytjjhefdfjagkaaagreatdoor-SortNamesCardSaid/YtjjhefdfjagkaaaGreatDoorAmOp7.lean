/- Part of a proof over an abstract machine. -/
import Derived.Orders
import Derived.Below
import Derived.Laws.Append
import Derived.Deep.AppendSrc
import Derived.Deep.Upon
import Derived.Laws.IdiomCopy
import Derived.Laws.StructEq
import Derived.Tactics
import Derived.Laws.MakeOwn
import Derived.Laws.OwnMore
import Derived.Laws.RangeString
import Derived.Laws.IdiomStrings
import Derived.Lib.OthersKept
import Derived.MapKept
set_option linter.all false
open BitVec renaming ofInt→rY
open List renaming range→r9,getElem?_eq_none→fP,getElem?_set_self→cM,getElem?_set_ne→aD,getElem?_append_right→bQ,getElem?_append_left→bO,getElem?_eq_some_iff→bl,all_eq_true→mq,mem_of_getElem?→fF,getElem?_map→gI,map_cons→dO,mem_map→nZ,drop_zero→iy,take_length→j8,nil_append→fx,length_set→iA,mem_append→cX,map_nil→lA,getD_eq_getElem?_getD→gq,mem_cons→bS,set_set→se,cons_append→eI,mem_singleton→oZ,length_take→r8
open Go.Region renaming binds→o9
open Nat renaming le_refl→aA,le_trans→ng,lt_of_lt_of_le→uk,lt_or_ge→gu,add_assoc→eD,lt_asymm→sf,zero_add→dI,add_zero→mw,add_mul→jc,one_mul→sg,mul_le_mul_right→vX,mul_one→lC
open Array renaming getElem?_setIfInBounds_ne→vT,getElem?_toList→p5,toList_append→tT,getElem?_eq_some_iff→qQ
open Go.Sem renaming run_bind→bG,run_pure→dh
open Go.Result renaming andThen_ok→bF
open Bool renaming false_eq_true→aW,and_eq_true→gH
open Ne renaming symm→cY
open Go.Instr renaming sureAddr→r6,checkKey→vV,sameBits→rZ
open Option renaming isSome_iff_exists→od,getD_some→qb,map_some→je
open ByteArray renaming ext→FR
open Go.Op renaming equalIn→jd,operands→da
open ForInStep renaming yield→Kf
open Std.Legacy.Range renaming forIn_eq_forIn_range'→Tt,size→Tu
open Go.Builtin renaming zeroCells→xL
open List.cons renaming injEq→zQ
open Go.Deferred renaming ofValue→Ke
open Option.some renaming injEq→dP
open Go.Call renaming operands→qR
open List.Perm renaming refl→Cu
open List.Pairwise renaming nil→Tp
section
namespace Go.AM
abbrev Ad:=Option (Nat×Nat)
abbrev On:=Option Nat
abbrev By:=List UInt8
inductive AV where
 |bool (b:Bool)
 |int (k:IntKind) (n:Int)
 |str (s:By)
 |ptr (a:Ad)
 |slice (a:Ad) (len:Nat) (cap:On) (sz:Nat)
 |map (r:On)
 |func (fn:Fn) (first captured:List AV)
 |nilFunc
 |iface (t:TypeId) (v:AV)
 |nilIface
 |agg (cs:List AV)
 |tuple (vs:List AV)
 deriving Inhabited
inductive TV where
 |v (x:AV)
 |lp (k off:Nat)
 |ls (k len:Nat)
 |gl (g off:Nat)
 |rs (b:Nat)
 |no
 deriving Inhabited
inductive Mk where
 |any|row (t:TypeId)|box (t:TypeId)
 deriving Inhabited,DecidableEq
inductive Wr where
 |ro
 |rw(t:Mk)
 deriving Inhabited,DecidableEq
inductive aq where
 |cells (cs:List AV) (wr:Wr)
 |glob (g:Nat) (cs:List AV)
 |know (g:Nat) (p:Obj->Prop)
 |map (es:List (AV×AV))
 |iter (s:By) (pos:Nat)
 |dead
 |fresh
 deriving Inhabited
abbrev St:=List aq
abbrev mu:=List (Nat×List AV)
abbrev Defs:=List (FuncId×List AV)
structure Env where
 tmps:List TV
 locs:mu
 defs:Defs
inductive fH where
 |ret (v:AV)
 |pan (v:AV)
abbrev Out:=Option (fH×St)
abbrev bU:=FuncId->List AV->St->Out
inductive X where
 |normal|exit (id:Nat)|ret
def AV.one:AV->Bool
 | .agg _| .tuple _=>false
 |_=>true
def AV.cells:AV->List AV
 | .agg cs=>cs
 |x=>[x]
def AV.oB:AV->Bool
 | .bool _| .int _ _| .str _| .ptr none| .slice none _ _ _| .map none| .nilFunc| .nilIface=>true
 |_=>false
def AV.yr:AV->Bool
 | .agg cs=>cs.all AV.oB
 |x=>x.oB
def AV.flat:AV->Bool
 | .tuple vs=>vs.all AV.yr
 |x=>x.yr
def Ff:Value->Option AV
 | .bool b=>some (.bool b)
 | .int k n=>some (.int k n)
 | .string s=>some (.str s.data.toList)
 | .pointer none=>some (.ptr none)
 | .slice none 0 0=>some (.slice none 0 (some 0) 0)
 | .map none=>some (.map none)
 | .nilFunc=>some .nilFunc
 | .nilIface=>some .nilIface
 |_=>none
def zl:List Value->Option (List AV)
 | []=>some []
 |v::vs=>match Ff v with
  |some x=>match zl vs with
   |some xs=>some (x::xs)
   |none=>none
  |none=>none
def Fe:Value->Option AV
 | .agg cs=>match zl cs.toList with|some xs=>some (.agg xs)|none=>none
 | .tuple cs=>match zl cs.toList with|some xs=>some (.tuple xs)|none=>none
 |v=>Ff v
def Env.get (env:Env):Operand->TV
 | .tmp t=>env.tmps.getD t .no
 | .const c=>match Fe c with|some x=>.v x|none=>.no
 | .global g=>.gl g 0
 | .func f=>.v (.func (.func f) [] [])
def Env.put (env:Env) (dst:Option Tmp) (t:TV):Env:=
 match dst with
 |some d=>{env with tmps:=env.tmps.set d t}
 |none=>env
def eh:mu->Nat->Option (List AV)
 | [],_=>none
 |(k,cs)::r,j=>if k=j then some cs else eh r j
def ft:mu->Nat->List AV->mu
 | [],j,cs=>[(j,cs)]
 |(k,c)::r,j,cs=>if k=j then(k,cs)::r else if j<k then(j,cs)::(k,c)::r else(k,c)::ft r j cs
def vk (j:Nat):TV->TV
 | .lp k off=>if k=j then .no else .lp k off
 | .ls k n=>if k=j then .no else .ls k n
 |t=>t
def eA (cs:List AV) (off:Nat):List AV->List AV
 | []=>cs
 |x::xs=>eA (cs.set off x) (off+1) xs
def aE (P:Program) (t:TypeId):Nat:=match P.info? t with|some i=>i.size|none=>0
def jh (P:Program) (t:TypeId):Nat:=match P.info? t with|some i=>i.bytes|none=>0
def dz (P:Program) (t:TypeId):Option Bool:=
 match P.underlying t with
 |some (.struct _)=>some true
 |some (.array _ _)=>some true
 |some _=>some false
 |none=>none
def zeroOf (P:Program) (t:TypeId):Option AV:=
 match P.info? t with
 |some i=>match i.zero with|some z=>Fe z|none=>none
 |none=>none
def oU (P:Program) (t:TypeId):Bool:=match zeroOf P t with|some z=>z.cells.length==aE P t|none=>false
def dY (P:Program) (t:TypeId) (cs:List AV) (off:Nat) (k:AV->Out):Out:=
 match dz P t with
 |some true=>if off+aE P t<=cs.length then k (.agg ((cs.drop off).take (aE P t)))else none
 |some false=>(match cs[off]? with
  |some x=>k x
  |none=>none)
 |none=>none
def mh (P:Program) (t:TypeId) (cs:List AV) (off:Nat):Option AV:=
 match dz P t with
 |some true=>if off+aE P t<=cs.length then some (.agg ((cs.drop off).take (aE P t)))else none
 |some false=>cs[off]?
 |none=>none
def yX (op:BinOp) (k:IntKind) (a b:Int):Option AV:=
 match op with
 | .add=>some (.int k (k.wrap (a+b)))
 | .sub=>some (.int k (k.wrap (a-b)))
 | .mul=>some (.int k (k.wrap (a*b)))
 | .quo=>if b=0 then none else some (.int k (k.wrap (a.tdiv b)))
 | .rem=>if b=0 then none else some (.int k (a.tmod b))
 | .and=>some (.int k (k.wrap ((rY k.bits a&&&rY k.bits b).toNat:Nat)))
 | .or=>some (.int k (k.wrap ((rY k.bits a|||rY k.bits b).toNat:Nat)))
 | .xor=>some (.int k (k.wrap ((rY k.bits a^^^rY k.bits b).toNat:Nat)))
 | .andNot=>some (.int k (k.wrap ((rY k.bits a&&& ~~~rY k.bits b).toNat:Nat)))
 | .eql=>some (.bool (a==b))
 | .neq=>some (.bool (a !=b))
 | .lss=>some (.bool (decide (a<b)))
 | .leq=>some (.bool (decide (a<=b)))
 | .gtr=>some (.bool (decide (a>b)))
 | .geq=>some (.bool (decide (a>=b)))
 | .shl=>if b<0 then none else some (.int k (k.wrap (a*2^(min b.toNat k.bits))))
 | .shr=>if b<0 then none else some (.int k (a.fdiv (2^(min b.toNat k.bits))))
def zw (op:BinOp) (a b:By):Option AV:=
 match op with
 | .add=>if a.length+b.length<=4611686018427387904 then some (.str (a++b))else none
 | .eql=>some (.bool (a==b))
 | .neq=>some (.bool (!(a==b)))
 | .lss=>some (.bool (Op.bytesLess a b))
 | .leq=>some (.bool (Op.bytesLess a b||a==b))
 | .gtr=>some (.bool (!(Op.bytesLess a b||a==b)))
 | .geq=>some (.bool (!(Op.bytesLess a b)))
 |_=>none
def rb (f:TypeId->AV->AV->Option Bool) (P:Program) (xs ys:List AV):List (TypeId×Nat)->Option Bool
 | []=>some true
 |(t,off)::r=>
  match mh P t xs off with
  |some x=>match mh P t ys off with
   |some y=>match f t x y with
    |some b=>match rb f P xs ys r with
     |some c=>some (b&&c)
     |none=>none
    |none=>none
   |none=>none
  |none=>none
def KO (e n:Nat) (size:Nat):List (TypeId×Nat):=(r9 n).map λi=>(e,i*size)
def cu (P:Program):Nat->TypeId->AV->AV->Option Bool
 |0,_,_,_=>none
 |d+1,t,x,y=>
  match P.underlying t with
  |some .bool=>match x,y with| .bool a,.bool b=>some (a==b)|_,_=>none
  |some (.int _)=>match x,y with| .int k a,.int k' b=>if k=k' then some (a==b)else none|_,_=>none
  |some .string=>match x,y with| .str a,.str b=>some (a==b)|_,_=>none
  |some (.pointer e)=>match x,y with| .ptr none,.ptr b=>some b.isNone| .ptr (some _),.ptr none=>some false| .ptr (some p),.ptr (some q)=>if p.1=q.1/\aE P e≠0 then some (p.2==q.2)else none|_,_=>none
  |some (.slice _)=>match x,y with| .slice none _ _ _,.slice b _ _ _=>some b.isNone| .slice (some _) _ _ _,.slice none _ _ _=>some false|_,_=>none
  |some (.map _ _)=>match x,y with| .map none,.map b=>some b.isNone| .map (some _),.map none=>some false|_,_=>none
  |some (.func _ _ _)=>match x,y with| .nilFunc,.nilFunc=>some true| .nilFunc,.func _ _ _=>some false| .func _ _ _,.nilFunc=>some false|_,_=>none
  |some (.interface _)=>match x,y with
   | .nilIface,.nilIface=>some true
   | .nilIface,.iface _ _=>some false
   | .iface _ _,.nilIface=>some false
   | .iface tx vx,.iface ty vy=>if tx=ty then(match P.info? tx with|some i=>if i.comparable then cu P d tx vx vy else none|none=>none)else some false
   |_,_=>none
  |some (.struct fs)=>if P.stoodInHeld t then none else
   match x,y with
   | .agg xs,.agg ys=>rb (cu P d) P xs ys ((fs.toList.filter λf=>decide (f.name≠ "_")).map λf=>(f.type,f.offset))
   |_,_=>none
  |some (.array n e)=>match x,y with
   | .agg xs,.agg ys=>rb (cu P d) P xs ys (KO e n (aE P e))
   |_,_=>none
  |_=>none
def ra (P:Program) (t:TypeId):Bool:=
 match P.underlying t with
 |some (.struct _)=>!(P.eqGuardType P.depth t)
 |some (.array _ _)=>!(P.eqGuardType P.depth t)
 |_=>true
def Operand.const?:Operand->Bool
 | .const _=>true
 |_=>false
def tD (px py:Operand) (x y:AV):Bool:=
 Operand.const? px||Operand.const? py||(match x,y with| .nilIface,.nilIface=>false|_,_=>true)
def nk (P:Program) (op:BinOp) (t:TypeId) (x y:AV) (k:AV->Out):Out:=
 match x,y with
 | .int kx a,.int ky b=>
  if op=.shl\/op=.shr\/kx=ky then
   match yX op kx a b with|some r=>k r|none=>none
  else none
 | .str a,.str b=>match zw op a b with|some r=>k r|none=>none
 |x,y=>
  match op with
  | .eql=>if ra P t then match cu P 100 t x y with|some b=>k (.bool b)|none=>none else none
  | .neq=>if ra P t then match cu P 100 t x y with|some b=>k (.bool (!b))|none=>none else none
  |_=>none
def tR (op:UnOp) (x:AV) (k:AV->Out):Out:=
 match op,x with
 | .neg,.int kx n=>k (.int kx (kx.wrap (0-n)))
 | .xor,.int kx n=>k (.int kx (kx.wrap ((rY kx.bits (if kx.signed then-1 else kx.max)^^^rY kx.bits n).toNat:Nat)))
 | .not,.bool b=>k (.bool (!b))
 |_,_=>none
def fT (x:TV) (k:Int->Out):Out:=
 match x with
 | .v (.int _ n)=>k n
 |_=>none
def aF (U:St) (b:Nat):Option (List AV):=
 match U[b]? with
 |some (.cells cs _)=>some cs
 |_=>none
def yw (U:St) (g:Nat) (k:List AV->Out):Out:=
 match U[g]? with
 |some (.glob g' cs)=>if g'=g then k cs else none
 |_=>none
def qE (P:Program) (t:TypeId) (env:Env) (U:St) (a:TV) (k:AV->Out):Out:=
 match a with
 | .lp key off=>match eh env.locs key with|some cs=>dY P t cs off k|none=>none
 | .v (.ptr (some (b,off)))=>match aF U b with|some cs=>dY P t cs off k|none=>none
 | .gl g off=>yw U g λcs=>dY P t cs off k
 |_=>none
def vK (P:Program) (t:TypeId) (env:Env) (U:St) (a:TV) (x:TV) (k:mu->St->Out):Out:=
 match x with
 | .v y=>
  if y.cells.length=aE P t/\(P.info? t).isSome=true then
   if y.cells.all AV.one then
    match a with
    | .lp key off=>match eh env.locs key with
     |some cs=>if off+y.cells.length<=cs.length then k (ft env.locs key (eA cs off y.cells)) U else none
     |none=>none
    | .v (.ptr (some (b,off)))=>match U[b]? with
     |some (.cells cs (.rw ty))=>if off+y.cells.length<=cs.length then k env.locs (U.set b (.cells (eA cs off y.cells) (.rw ty)))else none
     |_=>none
    |_=>none
   else none
  else none
 |_=>none
def Env.pQ (env:Env) (d:Nat) (cs:List AV):Env:={tmps:=env.tmps.map (vk d),locs:=ft env.locs d cs,defs:=env.defs}
def nr (t:TypeId) (loc:Bool) (dst:Option Tmp) (env:Env) (U:St) (cs:List AV) (k:TV->Env->St->Out):Out:=
 if cs.all AV.one then
  match loc,dst with
  |true,some d=>k (.lp d 0) (env.pQ d cs) U
  |_,_=>k (.v (.ptr (some (U.length,0)))) env (U++[.cells cs (.rw (.box t))])
 else none
def kq (place:Nat->Ad) (cells:List AV):List (Nat×TV)->Option (List AV)
 | []=>some cells
 |(i,.v x)::rest=>
  match place i with
  |none=>none
  |some (off,size)=>
   if x.cells.length=size/\off+x.cells.length<=cells.length then kq place (eA cells off x.cells) rest else none
 |_::_=>none
def Jj (P:Program) (fs:Array Field) (i:Nat):Ad:=
 match fs[i]? with
 |some f=>some (f.offset,aE P f.type)
 |none=>none
def Af (P:Program) (t:TypeId) (parts:List (Nat×TV)):Option AV:=
 match zeroOf P t with
 |some z=>
  match P.underlying t with
  |some (.struct fs)=>match kq (Jj P fs) z.cells parts with|some cs=>some (.agg cs)|none=>none
  |some (.array _ e)=>match kq (λi=>some (i*aE P e,aE P e)) z.cells parts with|some cs=>some (.agg cs)|none=>none
  |_=>none
 |none=>none
def eT (z:List AV):Nat->List AV
 |0=>[]
 |n+1=>z++eT z n
def rj (P:Program) (s:TypeId) (f:Nat):Option Field:=
 match P.underlying s with
 |some (.struct fs)=>fs[f]?
 |_=>none
def kJ (isStr:Bool) (env:Env) (U:St) (size:Nat) (x:TV) (k:Nat->List AV->Out):Out:=
 match isStr,x with
 |false,.ls key n=>match eh env.locs key with|some cs=>if n*size=cs.length then k n cs else none|none=>none
 |true,.v (.str s)=>if size=1 then k s.length (s.map λb=>.int .u8 b.toNat)else none
 |false,.v (.slice none 0 _ _)=>k 0 []
 |false,.v (.slice (some (b,o)) n _ sz)=>if sz=size then
   match aF U b with|some cs=>if o+n*size<=cs.length then k n ((cs.drop o).take (n*size))else none|none=>none
  else none
 |_,_=>none
def iq (t:Mk) (e:TypeId):Mk:=if t=.row e then t else .any
def pb (isStr:Bool) (e:TypeId) (size bytes:Nat) (env:Env) (U:St) (s x:TV) (k:AV->St->Out):Out:=
 kJ isStr env U size x λn new=>
  match s with
  | .v (.slice none _ _ _)=>if n=0 then k (.slice none 0 (some 0) size) U else
    if n*bytes<=140737488355328/\n<9223372036854775807 then k (.slice (some (U.length,0)) n none size) (U++[.cells new (.rw (.row e))])else none
  | .v (.slice (some (b,o)) len _ sz)=>
   if sz=size then
    match U[b]? with
    |some (.cells cs (.rw t))=>
     if o+len*size<=cs.length then
      if(len+n)*bytes<=140737488355328/\len+n<9223372036854775807 then
       k (.slice (some (U.length,0)) (len+n) none size) (U.set b .dead++[.cells ((cs.drop o).take (len*size)++new) (.rw (iq t e))])
      else none
     else none
    |_=>none
   else none
  |_=>none
def BU (P:Program) (t:TypeId) (x:TV):Option Int:=
 match P.underlying t with
 |some .string=>match x with| .v (.str s)=>some s.length|_=>none
 |some (.slice _)=>match x with| .v (.slice _ n _ _)=>some n| .ls _ n=>some n|_=>none
 |some (.array n _)=>some n
 |some (.map _ _)=>match x with| .v (.map none)=>some 0|_=>none
 |_=>none
def zf:Int->List Int->Int
 |m,[]=>m
 |m,y::r=>zf (if y<m then y else m) r
def zd:Int->List Int->Int
 |m,[]=>m
 |m,y::r=>zd (if y>m then y else m) r
def tj:List TV->Option (List Int)
 | []=>some []
 | .v (.int _ n)::r=>match tj r with|some l=>some (n::l)|none=>none
 |_=>none
def ic (call:bU) (f:FuncId) (args:List AV) (U:St) (k:AV->St->Out) (kp:AV->St->Out):Out:=
 match call f args U with
 |some (.ret v,U')=>k v U'
 |some (.pan v,U')=>kp v U'
 |none=>none
open Classical in
noncomputable def ze (P:Program) (t:TypeId) (name:String):Option FuncId:=
 if h:∃f,∀(rv:Value) (w:World),(method (P.types.size+Made.depth) t rv name).run P w=.ok (f,rv) w then some h.choose else none
noncomputable def wh (P:Program) (call:bU) (x:AV) (name:String) (args:List AV) (U:St) (k:AV->St->Out) (kp:AV->St->Out):Out:=
 match x with
 | .iface t v=>(match ze P t name with|some f=>ic call f (v::args) U k kp|none=>none)
 |_=>none
def gk:List TV->Option (List AV)
 | []=>some []
 | .v x::r=>match gk r with|some l=>some (x::l)|none=>none
 |_=>none
def bytesOf:List AV->Option (By)
 | []=>some []
 | .int .u8 n::r=>match bytesOf r with|some l=>some (UInt8.ofNat n.toNat::l)|none=>none
 |_=>none
def kj (P:Program) (src dst:TypeId) (U:St) (x:AV) (k:AV->St->Out):Out:=
 match P.underlying src,P.underlying dst with
 |some _,some (.int kd)=>match x with| .int _ n=>k (.int kd (kd.wrap n)) U|_=>none
 |some (.slice e),some .string=>
  match P.underlying e with
  |some (.int .u8)=>match x with
   | .slice none _ _ _=>k (.str []) U
   | .slice (some (b,o)) n _ 1=>match aF U b with
    |some cs=>if o+n<=cs.length then match bytesOf ((cs.drop o).take n)with|some s=>k (.str s) U|none=>none else none
    |none=>none
   |_=>none
  |_=>none
 |some _,some .string=>match x with| .str s=>k (.str s) U|_=>none
 |_,_=>none
def gN (x:Option TV) (d:Int) (f:Int->Out):Out:=match x with|some v=>fT v f|none=>f d
def qM (P:Program) (t:TypeId) (x:TV) (lo hi:Option TV) (k:AV->Out):Out:=
 match P.underlying t with
 |some .string=>match x with
  | .v (.str s)=>gN hi s.length λh=>gN lo 0 λl=>
    if 0<=l/\l<=h/\h<=s.length then k (.str ((s.take h.toNat).drop l.toNat))else none
  |_=>none
 |some (.slice e)=>match x with
  | .v (.slice none n _ sz)=>gN hi n λh=>gN lo 0 λl=>if 0<=l/\l<=h/\h<=(0:Nat)then k (.slice none 0 (some 0) sz)else none
  | .v (.slice (some (b,off)) n cap sz)=>if sz=aE P e then gN hi n λh=>gN lo 0 λl=>
    if 0<=l/\l<=h/\h<=(cap.getD n:Nat)then
     k (.slice (some (b,off+l.toNat*sz)) (h.toNat-l.toNat) (match cap with|some c=>some (c-l.toNat)|none=>none) sz)
    else none
   else none
  |_=>none
 |_=>none
def bH (s:By):List AV:=s.map λb=>.int .u8 b.toNat
def w8 (P:Program) (s d:TypeId):Option TypeId:=
 match P.underlying s,P.underlying d with
 |some .string,some (.slice e)=>match P.underlying e with|some (.int .u8)=>some e|_=>none
 |_,_=>none
def w7 (P:Program) (t:TypeId):Option (Nat×TypeId):=
 match P.underlying t with
 |some (.pointer arr)=>match P.underlying arr with|some (.array n e)=>some (n,e)|_=>none
 |some (.array n e)=>some (n,e)
 |_=>none
def Env.kI (env:Env) (dst:Option Tmp):On:=match dst with|some d=>(match env.tmps.getD d .no with| .rs b=>some b|_=>none)|none=>none
def ow (U:St) (b:Nat) (x:Out):Out:=match U[b]? with|some .fresh=>x|_=>none
def mZ (s:On) (U:St) (o:aq) (f:Nat->St->Out):Out:=match s with|none=>f U.length (U++[o])|some b=>ow U b (f b (U.set b o))
def zh (P:Program) (t:TypeId) (l c:Int) (s:On) (U:St) (k:AV->St->Out):Out:=
 match P.underlying t with
 |some (.slice e)=>match zeroOf P e with
  |some z=>if z.cells.length=aE P e/\(0<=l/\l<=c/\c<=140737488355328/\c.toNat*jh P e<=140737488355328)/\z.cells.all AV.one=true then
    mZ s U (.cells (eT z.cells c.toNat) (.rw (.row e))) λb U'=>k (.slice (some (b,0)) l.toNat (some c.toNat) (aE P e)) U'
   else none
  |none=>none
 |_=>none
def Ah (P:Program) (t:TypeId) (x:TV):Option Int:=
 match P.underlying t with
 |some (.slice _)=>match x with| .v (.slice none _ _ _)=>some 0| .v (.slice (some _) _ (some c) _)=>some c|_=>none
 |some (.array n _)=>some n
 |_=>none
def Aa (size n:Nat) (U:St) (x:TV) (lo hi:Option TV) (k:AV->Out):Out:=
 match x with
 | .v (.ptr (some (b,off)))=>match aF U b with
  |some cs=>if off+n*size<=cs.length then gN hi n λh=>gN lo 0 λl=>
    if 0<=l/\l<=h/\h<=n then k (.slice (some (b,off+l.toNat*size)) (h.toNat-l.toNat) (some (n-l.toNat)) size)else none
   else none
  |none=>none
 |_=>none
def qi (isStr:Bool) (env:Env) (U:St) (size:Nat) (d x:TV) (k:Int->St->Out):Out:=
 kJ isStr env U size x λn new=>
  match d with
  | .v (.slice none _ _ _)=>k 0 U
  | .v (.slice (some (b,o)) m _ sz)=>
   if sz=size then
    match U[b]? with
    |some (.cells cs (.rw t))=>
     if o+min n m*size<=cs.length then k (min n m:Nat) (U.set b (.cells (eA cs o (new.take (min n m*size))) (.rw t)))else none
    |_=>none
   else none
  |_=>none
def E9 (U:St) (b:Nat) (k:AV->St->Out):Out:=
 match U[b]? with
 |some (.iter s pos)=>
  if pos<s.length then
   k (.tuple [.bool true,.int .i64 pos,.int .i32 (Utf8.decode ⟨s.toArray⟩ pos).1]) (U.set b (.iter s (pos+(Utf8.decode ⟨s.toArray⟩ pos).2)))
  else k (.tuple [.bool false]) U
 |_=>none
def jt (P:Program) (t:TypeId):Bool:=
 match P.underlying t with
 |some .bool=>true
 |some (.int _)=>true
 |some .string=>true
 |_=>false
def Gq (P:Program) (t:TypeId):Bool:=match P.info? t with|some i=>i.comparable|none=>false
def Fp (P:Program) (t1 t2:TypeId) (k1:IntKind):Bool:=
 (match P.underlying t1 with|some (.int k)=>decide (k=k1)|_=>false)&&(match P.underlying t2 with|some .string=>true|_=>false)&&Gq P t1&&Gq P t2
def Fl (P:Program) (kt:TypeId):Bool:=
 match P.underlying kt with
 |some (.array 2 e)=>aE P e==1&&(match P.underlying e with|some (.interface _)=>true|_=>false)
 |_=>false
def Fm (P:Program) (kt:TypeId):AV->Bool
 | .agg [.iface t1 (.int k1 _),.iface t2 (.str _)]=>Fl P kt&&Fp P t1 t2 k1
 |_=>false
def nQ:AV->AV->Bool
 | .agg [.iface t1 (.int k1 _),.iface t2 (.str _)],.agg [.iface u1 (.int j1 _),.iface u2 (.str _)]=>decide (t1=u1/\k1=j1/\t2=u2)
 |_,_=>false
def fq (P:Program) (kt:TypeId) (key:AV):Bool:=jt P kt||Fm P kt key
def eK (P:Program) (kt:TypeId) (x y:AV):Option Bool:=
 match x,y with
 | .agg _,_=>if nQ x y then cu P 100 kt x y else none
 |_,_=>cu P 100 kt x y
def du (P:Program) (kt:TypeId) (key:AV):List (AV×AV)->Nat->Option (Option (Nat×AV))
 | [],_=>some none
 |(x,v)::r,i=>match eK P kt key x with
  |some true=>some (some (i,v))
  |some false=>du P kt key r (i+1)
  |none=>none
def jR (P:Program) (kt et:TypeId) (U:St) (m:TV) (key:AV) (k:AV->Bool->Out):Out:=
 if fq P kt key then
  match m with
  | .v (.map none)=>(match zeroOf P et with|some z=>k z false|none=>none)
  | .v (.map (some b))=>(match U[b]? with
   |some (.map es)=>(match du P kt key es 0 with
    |some (some (_,v))=>k v true
    |some none=>(match zeroOf P et with|some z=>k z false|none=>none)
    |none=>none)
   |_=>none)
  |_=>none
 else none
def lj (key v:AV) (es:List (AV×AV)):List (AV×AV):=
 match key with
 | .bool false=>(key,v)::es
 |_=>es++[(key,v)]
def bY (P:Program) (kt:TypeId) (U:St) (m:TV) (key v:AV) (k:St->Out):Out:=
 if fq P kt key then
  match m with
  | .v (.map (some b))=>(match U[b]? with
   |some (.map es)=>(match du P kt key es 0 with
    |some (some (i,_))=>k (U.set b (.map (es.set i (key,v))))
    |some none=>k (U.set b (.map (lj key v es)))
    |none=>none)
   |_=>none)
  |_=>none
 else none
def zg (P:Program) (t:TypeId) (r:Option TV) (k:Out):Out:=
 match P.underlying t with
 |some (.map _ _)=>(match r with
  |none=>k
  |some (.v (.int _ _))=>k
  |_=>none)
 |_=>none
def xX (P:Program) (x:TV) (ty:TypeId) (ok:Bool) (k:AV->Out):Out:=
 match x with
 | .v .nilIface=>cond ok (match zeroOf P ty with|some z=>k (.tuple [z,.bool false])|none=>none) none
 | .v (.iface t v)=>if t=ty then k (cond ok (.tuple [v,.bool true]) v)else cond ok (match zeroOf P ty with|some z=>k (.tuple [z,.bool false])|none=>none) none
 |_=>none
def qY (P:Program) (x:TV) (ty:TypeId) (ok:Bool) (k:AV->Out):Out:=
 match P.underlying ty with
 |some (.interface _)=>none
 |some _=>xX P x ty ok k
 |none=>none
noncomputable def aw (P:Program) (lm:Nat) (call:bU) (env:Env) (U:St) (o:Oper) (k:TV->Env->St->Out) (kp:AV->Env->St->Out):Out:=
 let loc:Bool:=match o.dst with|some d=>lm.testBit d|none=>false
 let kv (x:AV):Out:=k (.v x) env U
 match o.op with
 | .move x=>k (env.get x) env U
 | .assign x=>k (env.get x) env U
 | .pick c a b=>match env.get c with
  | .v (.bool t)=>cond t (k (env.get a) env U) (k (env.get b) env U)
  |_=>none
 | .alloc t=>match zeroOf P t with|some z=>nr t loc o.dst env U z.cells k|none=>none
 | .box t x=>match env.get x with| .v y=>nr t loc o.dst env U y.cells k|_=>none
 | .build t parts=>match Af P t (parts.toList.map λp=>(p.1,env.get p.2))with|some x=>kv x|none=>none
 | .buildSlice t n parts=>
  match P.underlying t with
  |some (.slice e)=>
   match zeroOf P e with
   |some z=>
    if z.cells.length=aE P e/\n*aE P e<=16777216 then
     match kq (λi=>some (i*aE P e,aE P e)) (eT z.cells n) (parts.toList.map λp=>(p.1,env.get p.2))with
     |some cs=>
      if cs.all AV.one then
       match loc,o.dst with
       |true,some d=>k (.ls d n) (env.pQ d cs) U
       |_,_=>k (.v (.slice (some (U.length,0)) n (some n) (aE P e))) env (U++[.cells cs (.rw (.row e))])
      else none
     |none=>none
    else none
   |none=>none
  |_=>none
 | .load t a=>qE P t env U (env.get a) kv
 | .store t a x=>vK P t env U (env.get a) (env.get x) λls U'=>k .no {env with locs:=ls} U'
 | .nilCheck x=>match env.get x with
  | .lp key off=>k (.lp key off) env U
  | .gl g off=>k (.gl g off) env U
  | .v (.ptr (some a))=>kv (.ptr (some a))
  | .v (.func (.func f) l c)=>kv (.func (.func f) l c)
  |_=>none
 | .binOp op t x y _=>match env.get x with
  | .v a=>match env.get y with| .v b=>cond (tD x y a b) (nk P op t a b kv) none|_=>none
  |_=>none
 | .unOp op _ x=>match env.get x with| .v a=>tR op a kv|_=>none
 | .convert s d x=>match w8 P s d with
  |some e=>match env.get x with| .v (.str bs)=>k (.v (.slice (some (U.length,0)) bs.length none 1)) env (U++[.cells (bH bs) (.rw (.row e))])|_=>none
  |none=>match env.get x with| .v a=>kj P s d U a λr U'=>k (.v r) env U'|_=>none
 | .slice t x lo hi none=>match w7 P t with
  |some (n,e)=>Aa (aE P e) n U (env.get x) (lo.map env.get) (hi.map env.get) kv
  |none=>qM P t (env.get x) (lo.map env.get) (hi.map env.get) kv
 | .makeFunc fn first captured=>match fn with
  | .func f=>match gk (first.toList.map env.get)with
   |some l=>match gk (captured.toList.map env.get)with
    |some c=>kv (.func (.func f) l c)
    |none=>none
   |none=>none
  |_=>none
 | .makeSlice t l c=>fT (env.get l) λl=>fT (env.get c) λc=>zh P t l c (env.kI o.dst) U λv U'=>k (.v v) env U'
 | .range t x=>match P.underlying t with
  |some .string=>match env.get x with| .v (.str s)=>k (.v (.ptr (some (U.length,0)))) env (U++[.iter s 0])|_=>none
  |_=>none
 | .next it true=>match env.get it with| .v (.ptr (some (b,0)))=>E9 U b λv U'=>k (.v v) env U'|_=>none
 | .fieldAddr s x f=>match rj P s f with
  |some fl=>if aE P fl.type=0 then none else match env.get x with
   | .lp key off=>k (.lp key (off+fl.offset)) env U
   | .gl g off=>k (.gl g (off+fl.offset)) env U
   | .v (.ptr (some (b,off)))=>kv (.ptr (some (b,off+fl.offset)))
   |_=>none
  |none=>none
 | .field s x f=>match rj P s f with
  |some fl=>match env.get x with| .v (.agg cs)=>dY P fl.type cs fl.offset kv|_=>none
  |none=>none
 | .indexAddr t x ix=>fT (env.get ix) λi=>
  match P.underlying t with
  |some (.array n e)=>if 0<=i/\i<n then match env.get x with
    | .lp key off=>k (.lp key (off+i.toNat*aE P e)) env U
    | .gl g off=>k (.gl g (off+i.toNat*aE P e)) env U
    | .v (.ptr (some (b,off)))=>kv (.ptr (some (b,off+i.toNat*aE P e)))
    |_=>none
   else none
  |some (.slice e)=>match env.get x with
   | .ls key n=>if 0<=i/\i<n then k (.lp key (i.toNat*aE P e)) env U else none
   | .v (.slice (some (b,off)) n _ sz)=>if 0<=i/\i<n then(if sz=aE P e then kv (.ptr (some (b,off+i.toNat*aE P e)))else none)else none
   |_=>none
  |_=>none
 | .index t x ix=>fT (env.get ix) λi=>
  match P.underlying t with
  |some (.array n e)=>match env.get x with
   | .v (.agg cs)=>if 0<=i/\i<n then dY P e cs (i.toNat*aE P e) kv else none
   |_=>none
  |some .string=>match env.get x with
   | .v (.str s)=>if 0<=i then match s[i.toNat]? with|some b=>kv (.int .u8 b.toNat)|none=>none else none
   |_=>none
  |_=>none
 | .extract x i=>match env.get x with
  | .v (.tuple vs)=>match vs[i]? with|some y=>kv y|none=>none
  |_=>none
 | .makeInterface t x=>match env.get x with
  | .v a=>match P.underlying t with|some (.interface _)=>none|some _=>kv (.iface t a)|none=>none
  |_=>none
 | .call c=>
  match c.callee with
  | .value f=>match env.get f with
   | .v (.func (.func jF) first captured)=>match gk (c.args.toList.map env.get)with
    |some args=>ic call jF (first++args++captured) U (λv U'=>k (.v v) env U') (λv U'=>kp v env U')
    |none=>none
   |_=>none
  | .invoke x name=>match env.get x with
   | .v xv=>match gk (c.args.toList.map env.get)with
    |some args=>wh P call xv name args U (λv U'=>k (.v v) env U') (λv U'=>kp v env U')
    |none=>none
   |_=>none
  | .builtin .len=>match c.argTypes.toList,c.args.toList with
   |t::_,x::_=>match BU P t (env.get x)with|some n=>kv (.int .i64 n)|none=>none
   |_,_=>none
  | .builtin .append=>match c.argTypes.toList,c.args.toList with
   | [t,t2],[s,x]=>match P.underlying t with
    |some (.slice e)=>match P.underlying t2 with
     |some (.slice _)=>if oU P e then pb false e (aE P e) (jh P e) env U (env.get s) (env.get x) λv U'=>k (.v v) env U' else none
     |some .string=>if oU P e then pb true e (aE P e) (jh P e) env U (env.get s) (env.get x) λv U'=>k (.v v) env U' else none
     |_=>none
    |_=>none
   |_,_=>none
  | .builtin .cap=>match c.argTypes.toList,c.args.toList with
   |t::_,x::_=>match Ah P t (env.get x)with|some n=>kv (.int .i64 n)|none=>none
   |_,_=>none
  | .builtin .copy=>match c.argTypes.toList,c.args.toList with
   |t::t2::_,d::x::_=>match P.underlying t with
    |some (.slice e)=>match P.underlying t2 with
     |some (.slice _)=>if oU P e then qi false env U (aE P e) (env.get d) (env.get x) λn U'=>k (.v (.int .i64 n)) env U' else none
     |some .string=>if oU P e then qi true env U (aE P e) (env.get d) (env.get x) λn U'=>k (.v (.int .i64 n)) env U' else none
     |_=>none
    |_=>none
   |_,_=>none
  | .builtin .min=>match c.args.toList.map env.get with
   | .v (.int kx m)::r=>match tj r with|some l=>kv (.int kx (zf m l))|none=>none
   |_=>none
  | .builtin .max=>match c.args.toList.map env.get with
   | .v (.int kx m)::r=>match tj r with|some l=>kv (.int kx (zd m l))|none=>none
   |_=>none
  |_=>none
 | .panic x=>match env.get x with| .v (.iface t v)=>kp (.iface t v) env U|_=>none
 | .makeMap t r=>zg P t (r.map env.get) (mZ (env.kI o.dst) U (.map []) λb U'=>k (.v (.map (some b))) env U')
 | .lookup t x ix ok=>match P.underlying t with
  |some (.map kt et)=>(match env.get ix with
   | .v key=>jR P kt et U (env.get x) key λv b=>kv (cond ok (.tuple [v,.bool b]) v)
   |_=>none)
  |_=>none
 | .mapUpdate t m ix x=>match P.underlying t with
  |some (.map kt _)=>(match env.get ix,env.get x with
   | .v key,.v v=>bY P kt U (env.get m) key v λU'=>k .no env U'
   |_,_=>none)
  |_=>none
 | .insert t m ix x=>match P.underlying t with
  |some (.map kt _)=>(match env.get ix,env.get x with
   | .v key,.v v=>bY P kt U (env.get m) key v λU'=>k .no env U'
   |_,_=>none)
  |_=>none
 | .typeAssert x _ ty ok=>qY P (env.get x) ty ok kv
 |_=>none
noncomputable def vR (P:Program) (lm:Nat) (call:bU) (env:Env) (U:St) (o:Oper) (k:TV->Env->St->Out) (kp:AV->Env->St->Out):Out:=
 match o.op with
 | .defer c=>match c.callee with
  | .value f=>match env.get f with
   | .v (.func (.func jF) first captured)=>match gk (c.args.toList.map env.get)with
    |some args=>k .no {env with defs:=(jF,first++args++captured)::env.defs} U
    |none=>none
   |_=>none
  |_=>none
 |_=>aw P lm call env U o k kp
noncomputable def nS (P:Program) (lm:Nat) (call:bU) (ops:Array Oper) (k:Env->St->Out) (kp:AV->Env->St->Out):List Oper->Env->St->Out
 | [],env,U=>k env U
 |o::r,env,U=>
  match o.guard with
  |none=>vR P lm call env U o (λt cV U'=>nS P lm call ops k kp r (cV.put o.dst t) U') kp
  |some (j,want)=>
   match (ops[j]?).bind (·.dst)with
   |some d=>match env.tmps.getD d .no with
    | .v (.bool b)=>
     cond b
      (let e:Env:={env with tmps:=env.tmps.set d (.v (.bool true))}
       cond want (vR P lm call e U o (λt cV U'=>nS P lm call ops k kp r (cV.put o.dst t) U') kp) (nS P lm call ops k kp r (e.put o.dst (.v (.tuple []))) U))
      (let e:Env:={env with tmps:=env.tmps.set d (.v (.bool false))}
       cond want (nS P lm call ops k kp r (e.put o.dst (.v (.tuple []))) U) (vR P lm call e U o (λt cV U'=>nS P lm call ops k kp r (cV.put o.dst t) U') kp))
    | .v (.tuple [])=>nS P lm call ops k kp r (env.put o.dst (.v (.tuple []))) U
    |_=>none
   |none=>none
def tP:Operand->Nat
 | .tmp t=>2^t
 |_=>0
def adW (ops:Array Oper) (o:Oper):Nat:=
 o.op.operands.toList.foldl (λm x=>m|||tP x) (match o.guard with|some (j,_)=>(match (ops[j]?).bind (·.dst)with|some d=>2^d|none=>0)|none=>0)
def Rp (ops:Array Oper):List Oper->Nat->Nat×Nat
 | [],d=>(0,d)
 |o::r,d=>
  let m:=adW ops o
  let(a,d'):=Rp ops r (match o.dst with|some t=>d|||2^t|none=>d)
  (((m|||d)^^^d)|||a,d')
def uA:Code->Nat->Nat×Nat
 | .region _ ops _,d=>Rp ops ops.toList d
 | .seq a b,d=>let(x,d1):=uA a d;let(y,d2):=uA b d1;(x|||y,d2)
 | .cond c a b,d=>let(x,d1):=uA a d;let(y,d2):=uA b d;(((tP c|||d)^^^d)|||x|||y,d1&&&d2)
 | .block _ b,d=>((uA b d).1,d)
 | .loop b,d=>((uA b d).1,d)
 | .scope b,d=>((uA b d).1,d)
 |_,d=>(0,d)
def ew (c:Code):Nat:=(uA c 0).1
def sC (live:Nat):Nat->List TV->List TV
 |_,[]=>[]
 |i,t::r=>(if live.testBit i then t else .no)::sC live (i+1) r
def uz (bE:Nat->Bool):mu->mu
 | []=>[]
 |(k,cs)::r=>if bE k then(k,cs)::uz bE r else uz bE r
def leadsTo (k:Nat):TV->Bool
 | .lp j _=>j==k
 | .ls j _=>j==k
 |_=>false
def Env.clean (live:Nat) (env:Env):Env:={tmps:=sC live 0 env.tmps,locs:=uz (λk=>live.testBit k||(sC live 0 env.tmps).any (leadsTo k)) env.locs,defs:=env.defs}
def Env.know (env:Env) (c:Operand) (b:Bool):Env:=
 match c with
 | .tmp t=>{env with tmps:=env.tmps.set t (.v (.bool b))}
 |_=>env
def qF (live:Nat) (f:(X->Env->St->Out)->Env->St->Out) (k:X->Env->St->Out):Nat->Env->St->Out
 |0,_,_=>none
 |n+1,env,U=>f (λx cV U'=>match x with| .normal=>qF live f k n (cV.clean live) U'|x=>k x cV U') env U
def keyOf:TV->List Nat
 | .lp k _=>[k]
 | .ls k _=>[k]
 |_=>[]
def ez (lm:Nat) (o:Oper):List Nat:=
 match o.op with
 | .alloc _| .box _ _| .buildSlice _ _ _=>(match o.dst with|some d=>if lm.testBit d then[d]else[]|none=>[])
 |_=>[]
structure bN where
 keys:List Nat
 w:Bool
 hp:Nat
 hb:On
 tr:Option (St×St)
 ik:Option Bool
 vw:Ad
def AV.lone:AV->Bool
 | .int _ _=>true
 | .str _=>true
 |_=>false
def RH (P:Program) (f:FuncId):Bool:=match P.funcs[f]? with|some fn=>fn.name== "strconv.FormatInt"||fn.name== "strconv.Itoa"|none=>false
def pV (P:Program) (o:Oper):Option FuncId:=
 match o.op with
 | .call c=>(match c.callee with| .value (.func f)=>if RH P f then some f else none|_=>none)
 |_=>none
def pU (call:bU) (f:FuncId) (args:List AV) (U:St) (k:AV->Out):Out:=
 match U[(1:Nat)]? with
 |some (.know g p)=>(match call f args [.dead,.know g p]with
  |some (.ret v,_)=>if v.flat=true/\args.all AV.flat=true then k v else none
  |_=>none)
 |_=>none
def oL (P:Program) (o:Oper):Option Bool:=
 match o.op with
 | .insert t _ (.const (.bool b)) _=>(match P.underlying t with
  |some (.map kt _)=>(match P.underlying kt with|some .bool=>some b|_=>none)
  |_=>none)
 |_=>none
def mH (b:Bool) (ob:Option aq):Bool:=
 match ob with
 |some (.map es)=>es.all λe=>match e.1 with| .bool c=>c !=b|_=>false
 |_=>false
def iO (U:St) (r:Nat) (b:Bool) (v:AV):St:=match U[r]? with|some (.map es)=>U.set r (.map (lj (.bool b) v es))|_=>U
def nO (b:Bool) (U:St) (r:Nat) (v:AV) (k:St->Out):Out:=cond (mH b U[r]?) (k (iO U r b v)) none
def vh (env:Env) (o:Oper):On:=
 match o.op with
 | .insert _ m _ _=>(match env.get m with| .v (.map (some r))=>some r|_=>none)
 |_=>none
def mL (lm:Nat) (env:Env) (o:Oper):Nat:=
 match o.op with
 | .load _ a=>(match env.get a with| .lp _ _=>0| .v (.tuple _)=>0|_=>1)
 | .store _ a _=>(match env.get a with| .lp _ _=>0|_=>2)
 | .alloc _| .box _ _| .buildSlice _ _ _=>if(ez lm o).isEmpty then 2 else 0
 | .convert _ _ x=>(match env.get x with| .v p=>if p.lone then 0 else 1|_=>1)
 | .call c=>(match c.callee with| .builtin .append=>2| .builtin .copy=>2| .builtin _=>0|_=>2)
 | .makeMap _ _=>2
 | .makeSlice _ _ _=>2
 | .mapUpdate _ _ _ _=>2
 | .lookup _ _ _ _=>1
 |_=>0
def eJ (P:Program) (lm:Nat) (env:Env) (o:Oper):Nat:=match pV P o with|some _=>1|none=>match oL P o with|some _=>2|none=>mL lm env o
def mJ (env:Env) (o:Oper):On:=
 match o.op with
 | .load _ a=>(match env.get a with| .v (.ptr (some (b,_)))=>some b|_=>none)
 | .store _ a _=>(match env.get a with| .v (.ptr (some (b,_)))=>some b|_=>none)
 | .lookup _ x _ _=>(match env.get x with| .v (.map (some b))=>some b|_=>none)
 | .makeSlice _ _ _=>env.kI o.dst
 | .makeMap _ _=>env.kI o.dst
 |_=>none
def la (P:Program) (env:Env) (o:Oper):On:=match pV P o with|some _=>some 1|none=>match oL P o with|some _=>vh env o|none=>mJ env o
def FO (P:Program) (t:TypeId):Nat:=match dz P t with|some true=>aE P t|_=>1
def vQ (P:Program) (env:Env) (o:Oper):Ad:=
 match o.op with
 | .load t a=>(match env.get a with| .v (.ptr (some (_,off)))=>some (off,FO P t)|_=>none)
 |_=>none
def nR (v:Ad) (ob:Option aq):Option aq:=
 match v with
 |none=>ob
 |some (off,n)=>match ob with
  |some (.cells cs _)=>if off+n<=cs.length then some (.cells ((cs.drop off).take n) .ro)else none
  |_=>none
def vg (P:Program) (o:Oper):Option Bool:=match pV P o with|some _=>none|none=>oL P o
def aV (P:Program) (lm:Nat) (env:Env) (o:Oper):bN where
 keys:=o.op.operands.toList.flatMap (λx=>keyOf (env.get x))++ez lm o
 w:=match o.op with| .store _ a _=>(match env.get a with| .lp _ _=>true|_=>false)|_=>!(ez lm o).isEmpty
 hp:=eJ P lm env o
 hb:=la P env o
 tr:=none
 ik:=vg P o
 vw:=vQ P env o
def bN.kG (c:bN) (U U':St):bN:={c with tr:=if c.hp==2&&c.hb.isNone then some (U,U')else none}
def bN.Fk (a b:bN):Bool:=match a.hb,b.hb with|some _,some _=>false|none,some _=>b.hp !=1|_,none=>true
def bN.Gu (a b:bN):Bool:=((a.w||b.w)&&a.keys.any b.keys.contains)||(a.hp==2&&b.hp !=0&&a.Fk b)||(b.hp==2&&a.hp !=0&&b.Fk a)
def bN.IF (a b:bN):Bool:=match a.ik,b.ik with|some x,some y=>x !=y&&a.vw.isNone&&b.vw.isNone|_,_=>false
def bN.E7 (a b:bN):List (Nat×Nat):=cond (a.hp==2&&b.hp !=0||b.hp==2&&a.hp !=0) (cond (a.IF b) [] (match a.hb,b.hb with|some x,some y=>[(x,y)]|_,_=>[])) []
def xm (anc:List Nat) (i:Nat) (c:bN):List (Nat×Oper×bN)->List (Nat×Nat)
 | []=>[]
 |(j,_,cj)::r=>if(anc.getD i 0).testBit j then xm anc i c r else cj.E7 c++xm anc i c r
def lN:List (Nat×Nat)->Out->Out
 | [],x=>x
 |(a,b)::r,x=>if a=b then none else lN r x
abbrev Kp:=St×St×Nat×Ad
def bN.vj (a b:bN):List Kp:=if b.hp==1 then(match a.tr with|some (s1,s2)=>(match b.hb with|some y=>[(s1,s2,y,b.vw)]|none=>[])|none=>[])else[]
def tq (anc:List Nat) (i:Nat) (c:bN):List (Nat×Oper×bN)->List Kp
 | []=>[]
 |(j,_,cj)::r=>if(anc.getD i 0).testBit j then tq anc i c r else cj.vj c++c.vj cj++tq anc i c r
open Classical in
def Kp.ok (p:Kp):Prop:=nR p.2.2.2 p.2.1[p.2.2.1]? =nR p.2.2.2 p.1[p.2.2.1]?
open Classical in
noncomputable def BO (p:Kp) (x:Out):Out:=if p.ok then x else none
noncomputable def dS:List Kp->Out->Out
 | [],x=>x
 |p::r,x=>BO p (dS r x)
def F1 (acc:List Nat) (o:Oper):Nat:=o.after.toList.foldl (λs e=>if o9 .any e then s|||(2^e.on|||acc.getD e.on 0)else s) 0
def F0:List Oper->List Nat->List Nat
 | [],acc=>acc
 |o::r,acc=>F0 r (acc++[F1 acc o])
def xW (ops:Array Oper):List Nat:=F0 ops.toList []
def An (lm:Nat) (ops:Array Oper) (anc:List Nat) (i:Nat) (o:Oper) (rest:List Oper) (c:bN) (acc:List (Nat×Oper×bN)):Bool:=
 (acc.all λ(j,oj,cj)=>(anc.getD i 0).testBit j||(Oper.apart ops oj o&& !(cj.Gu c)))&&(rest.all λr=>(ez lm r).all λd=>!c.keys.contains d)
def mD (P:Program) (o:Oper):Bool:=
 match o.op with
 | .convert s d _=>(w8 P s d).isNone
 | .slice t _ _ _ none=>(w7 P t).isNone
 | .range _ _=>false
 | .next _ _=>false
 | .makeMap _ r=>r.isNone
 | .insert _ _ _ _=>(oL P o).isSome
 | .call c=>(match c.callee with| .invoke _ _=>false|_=>true)
 |_=>true
noncomputable def kS (P:Program) (lm:Nat) (call:bU) (env:Env) (U:St) (o:Oper) (k:TV->Env->St->Out) (kp:AV->Env->St->Out):Out:=
 match pV P o with
 |some f=>(match o.op with
  | .call c=>(match gk (c.args.toList.map env.get)with
   |some args=>pU call f args U λv=>k (.v v) env U
   |none=>none)
  |_=>none)
 |none=>match oL P o with
  |some b=>(match o.op with
   | .insert _ _ _ x=>(match vh env o,env.get x with
    |some r,.v v=>nO b U r v λU'=>k .no env U'
    |_,_=>none)
   |_=>none)
  |none=>aw P lm call env U o k kp
noncomputable def tK (P:Program) (lm:Nat) (call:bU) (ops:Array Oper) (anc:List Nat) (k:Env->St->Out):Nat->List Oper->List (Nat×Oper×bN)->Env->St->Out
 |_,[],_,env,U=>k env U
 |i,o::r,acc,env,U=>
  let c:=aV P lm env o
  let K:TV->Env->St->Out:=λt cV U'=>dS (tq anc i (c.kG U U') acc) (tK P lm call ops anc k (i+1) r (acc++[(i,o,c.kG U U')]) (cV.put o.dst t) U')
  cond (An lm ops anc i o r c acc&&mD P o)
   (lN (xm anc i c acc) (match o.guard with
   |none=>kS P lm call env U o K (λ_ _ _=>none)
   |some (j,want)=>
    match (ops[j]?).bind (·.dst)with
    |some d=>match env.tmps.getD d .no with
     | .v (.bool b)=>
      cond b
       (let e:Env:={env with tmps:=env.tmps.set d (.v (.bool true))}
        cond want (kS P lm call e U o K (λ_ _ _=>none)) (K (.v (.tuple [])) e U))
       (let e:Env:={env with tmps:=env.tmps.set d (.v (.bool false))}
        cond want (K (.v (.tuple [])) e U) (kS P lm call e U o K (λ_ _ _=>none)))
     | .v (.tuple [])=>K (.v (.tuple [])) env U
     |_=>none
    |none=>none))
   none
def I2 (lm:Nat) (ops:List Oper) (tmps:List TV):Bool:=ops.all λo=>(ez lm o).all λd=>tmps.all λt=>!(keyOf t).contains d
def IG (o:Oper):Bool:=match o.op with| .makeSlice _ _ _=>true|_=>false
def IH (o:Oper):Bool:=match o.op with| .makeSlice _ _ _=>true| .makeMap _ none=>true|_=>false
def vC:List Oper->Env->St->(Env->St->Out)->Out
 | [],env,U,k=>k env U
 |o::r,env,U,k=>cond (IH o) (vC r (env.put o.dst (.rs U.length)) (U++[.fresh]) k) (vC r env U k)
def xx (ops:List Oper) (env:Env) (U:St) (k:Env->St->Out):Out:=cond (ops.any IG) (vC ops env U k) (k env U)
def x7 (ops:Array Oper):Bool:=(ops.toList.zipIdx).all λ(o,i)=>o.after.all λe=>!o9 .any e||decide (e.on<i)
def qB:Code->Bool
 | .cond _ _ _=>true
 | .block _ _=>true
 | .seq _ b=>qB b
 | .region _ ops _=>ops.toList.any λo=>o.guard.isSome
 |_=>false
noncomputable def run (P:Program) (lm:Nat) (call:bU) (n:Nat) (kp:AV->Env->St->Out):Code->Nat->(X->Env->St->Out)->Env->St->Out
 | .skip,_,k,env,U=>k .normal env U
 | .region _ ops draw,_,k,env,U=>
  cond draw (xx ops.toList env U λenv U=>cond (I2 lm ops.toList env.tmps&&x7 ops) (tK P lm call ops (xW ops) (k .normal) 0 ops.toList [] env U) none) (nS P lm call ops (k .normal) kp ops.toList env U)
 | .seq a b,live,k,env,U=>run P lm call n kp a (live|||ew b) (λx env U=>match x with| .normal=>run P lm call n kp b live k (cond (qB a) (env.clean (live|||ew b)) env) U|x=>k x env U) env U
 | .cond c a b,live,k,env,U=>match env.get c with
  | .v (.bool t)=>cond t (run P lm call n kp a live k (env.know c true) U) (run P lm call n kp b live k (env.know c false) U)
  |_=>none
 | .block id b,live,k,env,U=>run P lm call n kp b live (λx env U=>match x with| .exit j=>if j=id then k .normal (env.clean live) U else k (.exit j) env U|x=>k x env U) env U
 | .loop b,live,k,env,U=>qF (live|||ew b) (λk env U=>run P lm call n kp b (live|||ew b) k env U) k n (env.clean (live|||ew b)) U
 | .exit id,_,k,env,U=>k (.exit id) env U
 | .ret,_,k,env,U=>k .ret env U
 |_,_,_,_,_=>none
def vB:ResultVar->Nat
 | .tmp t=>2^t
 | .cell t _=>2^t
def zt (P:Program) (env:Env) (U:St):List ResultVar->(List AV->Out)->Out
 | [],k=>k []
 | .tmp t::r,k=>match env.tmps.getD t .no with| .v x=>zt P env U r λl=>k (x::l)|_=>none
 | .cell t ty::r,k=>qE P ty env U (env.tmps.getD t .no) λx=>zt P env U r λl=>k (x::l)
def Uf (o:Oper) (bad:Nat):Nat:=
 let all:=o.op.operands.toList.foldl (λm x=>m|||tP x) 0
 let kept (x:Operand):Nat:=match o.dst with|some d=>if bad.testBit d then tP x else 0|none=>tP x
 match o.op with
 | .load _ _=>0
 | .store _ _ v=>tP v
 | .fieldAddr _ x _=>kept x
 | .indexAddr _ x i=>kept x|||tP i
 | .nilCheck x=>kept x
 | .move x=>kept x
 | .assign x=>kept x
 | .call {callee:=.builtin .len,..}=>0
 | .call {callee:=.builtin .append,args,..}=>match args[0]? with|some x=>tP x|none=>0
 |_=>all
def so:Code->Nat->Nat
 | .region _ ops _,m=>ops.toList.foldr (λo m=>m|||Uf o m) m
 | .seq a b,m=>so a (so b m)
 | .cond c a b,m=>so a (so b (m|||tP c))
 | .block _ b,m=>so b m
 | .loop b,m=>so b (so b m)
 | .scope b,m=>so b m
 |_,m=>m
def BW (fn:Func):Nat:=
 match fn.body with
 |some c=>(2^fn.ntmps-1)^^^((so c (fn.results.toList.foldl (λm r=>match r with| .tmp t=>m|||2^t| .cell _ _=>m) 0))&&&(2^fn.ntmps-1))
 |none=>0
def B7 (P:Program) (rs:List ResultVar) (env:Env) (U:St):Out:=
 zt P env U rs λl=>match l with
  | [y]=>some (.ret y,U)
  |l=>some (.ret (.tuple l),U)
abbrev zM:=FuncId->List AV->Option AV->St->Option (Option AV×St)
def bq (u:Option AV) (f:AV->Out) (x:Out):Out:=match u with|none=>x|some v=>f v
def Am (D:zM) (f:FuncId) (args:List AV) (u:Option AV) (U:St) (k:Option AV->St->Out):Out:=
 match D f args u U with
 |some (u',U')=>k u' U'
 |none=>none
def tA (P:Program) (D:zM) (rs:List ResultVar):Defs->Option AV->Env->St->Out
 | [],u,env,U=>bq u (λv=>some (.pan v,U)) (B7 P rs env U)
 |(f,args)::ds,u,env,U=>Am D f args u U λu' U'=>tA P D rs ds u' env U'
def B6 (fn:Func):Nat:=fn.results.toList.foldl (λm r=>m|||vB r) 0
def sH (fn:Func) (args:List AV):Env:={tmps:=args.map .v++List.replicate (fn.ntmps-args.length) .no,locs:=[],defs:=[]}
def vv:Code->Option (Array Oper×Oper×List Oper×Code)
 | .seq (.region _ ops false) b=>match ops.toList with
  |o::r=>match o.op with
   | .call c=>match c.callee with
    | .builtin .recover=>if o.guard.isNone then some (ops,o,r,b)else none
    |_=>none
   |_=>none
  | []=>none
 |_=>none
def Ao (P:Program) (rs:List ResultVar):X->Env->St->Out:=λx env U=>match x with
 | .exit _=>none
 |_=>(match env.defs with| []=>B7 P rs env U|_=>none)
noncomputable def js (P:Program) (call:bU) (n:Nat):zM:=λf args u U=>
 match P.funcs[f]? with
 |some fn=>
  match fn.body with
  |some c=>
   match vv c with
   |some (ops,o,r,b)=>
    match nS P (BW fn) call ops (λenv U=>run P (BW fn) call n (λ_ _ _=>none) b (B6 fn)
      (Ao P fn.results.toList) env U)
      (λ_ _ _=>none) r ((sH fn args).put o.dst (.v (u.getD .nilIface))) U with
    |some (.ret _,U')=>some (none,U')
    |_=>none
   |none=>
    match run P (BW fn) call n (λ_ _ _=>none) c (B6 fn)
      (Ao P fn.results.toList) (sH fn args) U with
    |some (.ret _,U')=>some (u,U')
    |_=>none
  |none=>none
 |none=>none
noncomputable def cd (P:Program) (B:bU):Nat->FuncId->List AV->St->Out
 |0,_,_,_=>none
 |n+1,f,args,U=>
  match B f args U with
  |some r=>some r
  |none=>
  match P.funcs[f]? with
  |some fn=>
   match fn.body with
   |some c=>
    run P (BW fn) (cd P B n) n (λv env U'=>tA P (js P (cd P B n) n) fn.results.toList env.defs (some v) env U') c (B6 fn)
     (λx env U'=>match x with
      | .exit _=>none
      |_=>tA P (js P (cd P B n) n) fn.results.toList env.defs none env U')
     (sH fn args) U
   |none=>none
  |none=>none
end Go.AM
end
section
namespace Go.AM
open Go.RowKit
structure gp where
 blk:Nat
 off:Nat
 room:Nat
 wr:Bool
abbrev aM:=Nat->Option gp
mutual
inductive aN (V:aM):AV->Value->Prop
 |bool (b:Bool):aN V (.bool b) (.bool b)
 |int (k:IntKind) (n:Int):aN V (.int k n) (.int k n)
 |str (s:By):aN V (.str s) (.string ⟨s.toArray⟩)
 |nptr:aN V (.ptr none) (.pointer none)
 |ptr (b o:Nat) (e:gp) (h:V b=some e):aN V (.ptr (some (b,o))) (.pointer (some ⟨e.blk,e.off+o,none⟩))
 |nslice (sz:Nat):aN V (.slice none 0 (some 0) sz) (.slice none 0 0)
 |slice (b o:Nat) (e:gp) (len:Nat) (cap:On) (sz:Nat) (a:Addr) (c:Nat) (h:V b=some e) (ha:a.block=e.blk/\a.spot=none) (gv:0<c->a=⟨e.blk,e.off+o,none⟩)
   (hc:o+c*sz<=e.room) (gf:∀c',cap=some c'->c'=c) (hl:len<=c):aN V (.slice (some (b,o)) len cap sz) (.slice (some a) len c)
 |nmap:aN V (.map none) (.map none)
 |map (r:Nat) (e:gp) (h:V r=some e):aN V (.map (some r)) (.map (some e.blk))
 |func (fn:Fn) (l c:List AV) (l' c':Array Value) (hl:aQ V l l'.toList) (hc:aQ V c c'.toList):aN V (.func fn l c) (.func fn l' c')
 |nfunc:aN V .nilFunc .nilFunc
 |iface (t:TypeId) (x:AV) (v:Value) (h:aN V x v):aN V (.iface t x) (.iface t v)
 |niface:aN V .nilIface .nilIface
 |agg (cs:List AV) (au:Array Value) (h:aQ V cs au.toList):aN V (.agg cs) (.agg au)
 |tuple (cs:List AV) (au:Array Value) (h:aQ V cs au.toList):aN V (.tuple cs) (.tuple au)
inductive aQ (V:aM):List AV->List Value->Prop
 |nil:aQ V [] []
 |cons (x:AV) (v:Value) (xs:List AV) (vs:List Value) (h:aN V x v) (r:aQ V xs vs):aQ V (x::xs) (v::vs)
end
def aM.le (V V':aM):Prop:=∀b e,V b=some e->V' b=some e
theorem aM.le_refl (V:aM):V.le V:=λ_ _ h=>h
theorem aM.le_trans {a b c:aM} (h:a.le b) (k:b.le c):a.le c:=λx e hx=>k x e (h x e hx)
mutual
theorem aN.mono {V V':aM} (hm:V.le V'):∀{x:AV} {v:Value},aN V x v->aN V' x v
 |_,_,.bool b=>.bool b
 |_,_,.int k n=>.int k n
 |_,_,.str s=>.str s
 |_,_,.nptr=>.nptr
 |_,_,.ptr b o e h=>.ptr b o e (hm _ _ h)
 |_,_,.nslice sz=>.nslice sz
 |_,_,.slice b o e len cap sz a c h ha gv hc gf hl=>.slice b o e len cap sz a c (hm _ _ h) ha gv hc gf hl
 |_,_,.nmap=>.nmap
 |_,_,.map r e h=>.map r e (hm _ _ h)
 |_,_,.func fn l c l' c' hl hc=>.func fn l c l' c' (aQ.mono hm hl) (aQ.mono hm hc)
 |_,_,.nfunc=>.nfunc
 |_,_,.iface t x v h=>.iface t x v (aN.mono hm h)
 |_,_,.niface=>.niface
 |_,_,.agg cs au h=>.agg cs au (aQ.mono hm h)
 |_,_,.tuple cs au h=>.tuple cs au (aQ.mono hm h)
theorem aQ.mono {V V':aM} (hm:V.le V'):∀{xs:List AV} {vs:List Value},aQ V xs vs->aQ V' xs vs
 |_,_,.nil=>.nil
 |_,_,.cons x v xs vs h r=>.cons x v xs vs (aN.mono hm h) (aQ.mono hm r)
end
section
variable {V:aM}
theorem aQ.length {xs:List AV} {vs:List Value} (h:aQ V xs vs):xs.length=vs.length:=by
 induction xs generalizing vs with
 |nil=>cases h;rfl
 |cons x xs ih=>cases h with|cons _ v _ vs h r=>simp[ih r]
theorem aQ.get {xs:List AV} {vs:List Value} (h:aQ V xs vs):∀{i:Nat} {x:AV},xs[i]? =some x->∃v,vs[i]? =some v/\aN V x v:=by
 induction xs generalizing vs with
 |nil=>intro i x hi;simp at hi
 |cons y ys ih=>
  cases h with
  |cons _ v _ vs h r=>
   intro i x hi;cases i with
   |zero=>simp at hi;subst hi;exact⟨v,by simp,h⟩
   |succ i=>simp at hi;simpa using ih r hi
theorem aQ.zm:∀{xs:List AV} {vs:List Value},xs.length=vs.length->(∀(i:Nat) x,xs[i]? =some x->∃v,vs[i]? =some v/\aN V x v)->aQ V xs vs
 | [],[],_,_=>.nil
 |x::xs,v::vs,hl,h=>.cons _ _ _ _ (by obtain⟨v',e,r⟩:=h 0 x (by simp);simp at e;subst e;exact r)
   (aQ.zm (by simpa using hl) λi y hi=>by obtain⟨v',e,r⟩:=h (i+1) y (by simpa using hi);exact⟨v',by simpa using e,r⟩)
 | [],_::_,hl,_=>by simp at hl
 |_::_,[],hl,_=>by simp at hl
theorem aQ.append {xs ys:List AV} {vs us:List Value} (h:aQ V xs vs) (k:aQ V ys us):aQ V (xs++ys) (vs++us):=by
 induction xs generalizing vs with
 |nil=>cases h;exact k
 |cons x xs ih=>cases h with|cons _ v _ vs h r=>exact .cons _ _ _ _ h (ih r)
theorem aQ.drop {xs:List AV} {vs:List Value} (h:aQ V xs vs) (n:Nat):aQ V (xs.drop n) (vs.drop n):=by
 induction n generalizing xs vs with
 |zero=>simpa using h
 |succ n ih=>cases h with|nil=>simpa using aQ.nil|cons _ _ _ _ _ r=>simpa using ih r
theorem aQ.take {xs:List AV} {vs:List Value} (h:aQ V xs vs) (n:Nat):aQ V (xs.take n) (vs.take n):=by
 induction n generalizing xs vs with
 |zero=>simpa using aQ.nil
 |succ n ih=>cases h with|nil=>simpa using aQ.nil|cons _ _ _ _ h r=>simpa using aQ.cons _ _ _ _ h (ih r)
theorem aQ.set {xs:List AV} {vs:List Value} (h:aQ V xs vs) {x:AV} {v:Value} (hx:aN V x v) (n:Nat):aQ V (xs.set n x) (vs.set n v):=by
 induction n generalizing xs vs with
 |zero=>cases h with|nil=>simpa using aQ.nil|cons _ _ _ _ h r=>simpa using aQ.cons _ _ _ _ hx r
 |succ n ih=>cases h with|nil=>simpa using aQ.nil|cons _ _ _ _ h r=>simpa using aQ.cons _ _ _ _ h (ih r)
theorem aN.one {x:AV} {v:Value} (h:aN V x v):v.oneCell'=x.one:=by cases h<;>rfl
theorem aN.cells {x:AV} {v:Value} (h:aN V x v):aQ V x.cells v.cells.toList:=by
 cases h<;>first|exact‹aQ V _ _›|exact .cons _ _ _ _ (by constructor<;>assumption) .nil
theorem Q8 {v:Value} {x:AV} (h:Ff v=some x):aN V x v:=by
 unfold Ff at h;split at h<;>simp at h<;>subst h
 ·exact .bool _
 ·exact .int _ _
 ·rename_i s;exact .str _
 ·exact .nptr
 ·exact .nslice 0
 ·exact .nmap
 ·exact .nfunc
 ·exact .niface
theorem I8:∀{vs:List Value} {xs:List AV},zl vs=some xs->aQ V xs vs
 | [],xs,h=>by simp[zl]at h;subst h;exact .nil
 |v::vs,xs,h=>by
  unfold zl at h;split at h
  ·rename_i x hx;split at h
   ·rename_i ys hy;simp at h;subst h;exact .cons _ _ _ _ (Q8 hx) (I8 hy)
   ·simp at h
  ·simp at h
theorem Fg {v:Value} {x:AV} (h:Fe v=some x):aN V x v:=by
 unfold Fe at h;split at h
 ·split at h
  ·rename_i hx;simp at h;subst h;exact .agg _ _ (I8 hx)
  ·simp at h
 ·split at h
  ·rename_i hx;simp at h;subst h;exact .tuple _ _ (I8 hx)
  ·simp at h
 ·exact Q8 h
end
def eZ (V:aM) (cs:List AV) (au:Array Value) (off:Nat):Prop:=∀(i:Nat) x,cs[i]? =some x->(∃v,au[off+i]? =some v/\aN V x v)/\x.one=true
theorem eZ.mono {V V':aM} (hm:V.le V') {cs:List AV} {au:Array Value} {off:Nat} (h:eZ V cs au off):eZ V' cs au off:=
 λi x hi=>let⟨⟨v,hv,hr⟩,ho⟩:=h i x hi;⟨⟨v,hv,hr.mono hm⟩,ho⟩
def jb (V:aM):List (AV×AV)->List MapEntry->Prop
 | [],[]=>True
 |(k,v)::r,e::r'=>aN V k e.key/\aN V v e.val/\jb V r r'
 |_,_=>False
theorem jb.mono {V V':aM} (hm:V.le V'):∀{es:List (AV×AV)} {es':List MapEntry},jb V es es'->jb V' es es'
 | [],[],_=>trivial
 |(_,_)::_,_::_,h=>⟨h.1.mono hm,h.2.1.mono hm,jb.mono hm h.2.2⟩
 | [],_::_,h=>h.elim
 |_::_,[],h=>h.elim
def Mk.ok (m:Mk) (ty:TypeId) (off n n':Nat):Prop:=
 match m with
 | .any=>True
 | .row t=>ty=t
 | .box t=>ty=t/\off=0/\n=n'
def mY:AV->AV->Prop
 | .bool _,.bool _=>True
 | .int k _,.int k' _=>k=k'
 | .str _,.str _=>True
 | .agg a,.agg b=>nQ (.agg a) (.agg b)=true
 |_,_=>False
def nY (es:List (AV×AV)):Prop:=es.Pairwise λx y=>mY x.1 y.1/\x.1≠y.1
def lH (V:aM) (w:World) (o:aq) (e:gp):Prop:=
 match o with
 | .cells cs wr=>∃au ty fr,w.heap[e.blk]? =some (.cells au ty fr)/\eZ V cs au e.off/\cs.length<=e.room/\e.off+e.room<=au.size/\
   (∀t,wr=.rw t->e.wr=true/\(∀j,e.off<=j->j<e.off+e.room->¬(fr.1<=j/\j<fr.2))/\t.ok ty e.off cs.length au.size)
 | .know g p=>∃ob,w.heap[e.blk]? =some ob/\p ob/\e.blk=g
 | .glob g cs=>∃au ty fr,w.heap[e.blk]? =some (.cells au ty fr)/\eZ V cs au e.off/\e.blk=g/\e.off=0
 | .map es=>∃es' clock,w.heap[e.blk]? =some (.map es' clock)/\(∃l,l.Perm es/\jb V l es'.toList)/\nY es/\e.wr=true
 | .iter s pos=>w.heap[e.blk]? =some (.stringIter ⟨s.toArray⟩ pos)/\e.wr=true/\e.off=0
 | .dead=>True
 | .fresh=>False
def aq.live:aq->Bool
 | .dead=>false
 | .fresh=>false
 |_=>true
structure R (V:aM) (U:St) (w:World):Prop where
 dom:∀b,(V b).isSome=true->b<U.length
 lt:∀b e,V b=some e->e.blk<w.heap.size
 obj_:∀(b:Nat) o,U[b]? =some o->(∃e,V b=some e/\lH V w o e)\/o.live=false/\V b=none
 inj:∀(b b':Nat) o o' e e',U[b]? =some o->U[b']? =some o'->V b=some e->V b'=some e'->o.live=true->o'.live=true->e.wr=true->e'.blk=e.blk->b'=b
theorem R.obj {V:aM} {U:St} {w:World} (h:R V U w) (b:Nat) (o:aq) (hb:U[b]? =some o) (hl:o.live=true:=by rfl):∃e,V b=some e/\lH V w o e:=by
 rcases h.obj_ b o hb with h|⟨h,_⟩
 ·exact h
 ·rw[hl]at h;cases h
theorem R.slot {V:aM} {U:St} {w:World} (h:R V U w) {b:Nat} (hb:U[b]? =some .fresh):V b=none:=by
 rcases h.obj_ b _ hb with⟨_,_,h⟩|⟨_,h⟩
 ·exact h.elim
 ·exact h
structure Fr (V:aM) (w w':World):Prop where
 os:w'.os=w.os
 tape:w'.tape=w.tape
 output:w'.output=w.output
 size:w.heap.size<=w'.heap.size
 bE:∀k,k<w.heap.size->(∀b e,V b=some e->e.wr=true->e.blk≠k)->w'.heap[k]? =w.heap[k]?
structure Ext (V V':aM) (w:World):Prop where
 le:V.le V'
 new:∀b e,V' b=some e->V b=none->w.heap.size<=e.blk\/∃b0 e0,V b0=some e0/\e0.blk=e.blk/\e0.wr=true
theorem Fr.refl (V:aM) (w:World):Fr V w w:=⟨rfl,rfl,rfl,aA _,λ_ _ _=>rfl⟩
theorem Ext.refl (V:aM) (w:World):Ext V V w:=⟨V.le_refl,λb e h h'=>by rw[h']at h;cases h⟩
theorem Fr.trans {V V1:aM} {w w1 w2:World} (h:Fr V w w1) (x:Ext V V1 w) (h1:Fr V1 w1 w2):Fr V w w2:=by
 refine⟨h1.os.trans h.os,h1.tape.trans h.tape,h1.output.trans h.output,ng h.size h1.size,λk hk hn=>?_⟩;rw[h1.bE k (uk hk h.size) λb e hb hw pw=>?_,h.bE k hk hn];cases hm:V b with
 |some e'=>have:=x.le _ _ hm;rw[hb]at this;cases this;exact hn _ _ hm hw pw
 |none=>
  rcases x.new b e hb hm with h'|⟨b0,e0,pn,yE,Ix⟩
  ·omega
  ·exact hn _ _ pn Ix (yE.trans pw)
theorem Ext.trans {V V1 V2:aM} {w w1:World} (h:Ext V V1 w) (hs:w.heap.size<=w1.heap.size) (h1:Ext V1 V2 w1):Ext V V2 w:=by
 refine⟨aM.le_trans h.le h1.le,λb e hb hn=>?_⟩;cases hm:V1 b with
 |some e'=>have:=h1.le _ _ hm;rw[hb]at this;cases this;exact h.new _ _ hm hn
 |none=>
  rcases h1.new b e hb hm with h'|⟨b0,e0,pn,yE,Ix⟩
  ·exact .inl (ng hs h')
  ·cases BB:V b0 with
   |some e'=>have:=h.le _ _ BB;rw[pn]at this;cases this;exact .inr ⟨b0,e0,BB,yE,Ix⟩
   |none=>
    rcases h.new b0 e0 pn BB with h'|⟨b1,e1,lX,dC,fY⟩
    ·exact .inl (by omega)
    ·exact .inr ⟨b1,e1,lX,dC.trans yE,fY⟩
abbrev j7:=Nat->On
inductive fI (V:aM) (lam:j7):TV->Value->Prop
 |v (x:AV) (v:Value) (h:aN V x v):fI V lam (.v x) v
 |lp (k off blk:Nat) (h:lam k=some blk):fI V lam (.lp k off) (.pointer (some ⟨blk,off,none⟩))
 |ls (k n blk:Nat) (h:lam k=some blk):fI V lam (.ls k n) (.slice (some ⟨blk,0,none⟩) n n)
 |gl (g off:Nat):fI V lam (.gl g off) (.pointer (some ⟨g,off,none⟩))
 |rs (b:Nat) (v:Value):fI V lam (.rs b) v
 |no (v:Value):fI V lam .no v
theorem fI.mono {V V':aM} {lam:j7} (hm:V.le V') {t:TV} {v:Value} (h:fI V lam t v):fI V' lam t v:=by
 cases h with
 |v x v h=>exact .v _ _ (h.mono hm)
 |lp k off blk h=>exact .lp _ _ _ h
 |ls k n blk h=>exact .ls _ _ _ h
 |gl g off=>exact .gl _ _
 |rs b v=>exact .rs _ _
 |no v=>exact .no v
def Ct (V:aM) (w:World) (cs:List AV) (blk:Nat):Prop:=
 ∃au ty fr,w.heap[blk]? =some (.cells au ty fr)/\eZ V cs au 0/\cs.length=au.size/\(∀j,j<au.size->¬(fr.1<=j/\j<fr.2))/\∀b e,V b=some e->e.blk≠blk
inductive tV (V:aM):Defs->List Deferred->Prop
 |nil:tV V [] []
 |cons (f:FuncId) (args:List AV) (cap ia:Array Value) (ds:Defs) (ph:List Deferred) (h:aQ V args (ia++cap).toList) (r:tV V ds ph):
   tV V ((f,args)::ds) ({target:=.fn (.func f) cap,args:=ia}::ph)
theorem tV.mono {V V':aM} (hm:V.le V'):∀{ds:Defs} {ph:List Deferred},tV V ds ph->tV V' ds ph
 |_,_,.nil=>.nil
 |_,_,.cons f args cap ia ds ph h r=>.cons f args cap ia ds ph (h.mono hm) (r.mono hm)
structure aR (V0:aM) (w0:World) (V:aM) (lam:j7) (env:Env) (U:St) (a:Act) (w:World):Prop where
 r:R V U w
 ext:Ext V0 V w0
 fr:Fr V0 w0 w
 size:env.tmps.length=a.tmps.size
 tmps:∀(i:Nat) t,env.tmps[i]? =some t->fI V lam t (a.tmps.getD i undef)
 locs:∀(k:Nat) cs,eh env.locs k=some cs->∃blk,lam k=some blk/\Ct V w cs blk
 inj:∀k k' blk,lam k=some blk->lam k'=some blk->k'=k
 ge:∀k blk,lam k=some blk->w0.heap.size<=blk
 lamlt:∀k blk,lam k=some blk->blk<w.heap.size
 defers:tV V env.defs a.defers
section
variable {V0 V:aM} {w0 w:World} {lam:j7} {env:Env} {U:St} {a:Act}
theorem aR.get (h:aR V0 w0 V lam env U a w) (x:Operand):fI V lam (env.get x) (a.eval x):=by
 cases x with
 |tmp t=>
  simp only[Env.get,Act.eval];cases ht:env.tmps[t]? with
  |none=>simp[List.getD,ht];exact .no _
  |some y=>simp[List.getD,ht];simpa using h.tmps t y ht
 |const c=>
  simp only[Env.get,Act.eval];split
  ·rename_i y hy;exact .v _ _ (Fg hy)
  ·exact .no _
 |global g=>exact .gl _ _
 |func f=>exact .v _ _ (.func _ _ _ _ _ .nil .nil)
theorem aR.put (h:aR V0 w0 V lam env U a w) {t:TV} {v:Value} (ht:fI V lam t v) (dst:Option Tmp):aR V0 w0 V lam (env.put dst t) U (a.put dst v) w:=by
 cases dst with
 |none=>exact h
 |some d=>
  refine{h with size:=by simp[Env.put,Act.put,h.size],tmps:=λi y hi=>?_,defers:=h.defers,locs:=h.locs};simp only[Env.put,Act.put]at hi|-;by_cases hd:d=i
  ·subst hd;have al:d<env.tmps.length:=by
    rcases gu d env.tmps.length with al|gg
    ·exact al
    ·rw[fP (by simpa using gg)]at hi;cases hi
   rw[cM al]at hi;cases hi;have Ej:d<a.tmps.size:=h.size▸al;simpa[Ej]using ht
  ·rw[aD hd]at hi;simpa[vT hd]using h.tmps i y hi
theorem Ct.frame {V':aM} {w':World} {cs:List AV} {blk:Nat} (h:Ct V w cs blk) (al:blk<w.heap.size) (x:Ext V V' w) (f:Fr V w w'):Ct V' w' cs blk:=by
 obtain⟨au,ty,fr,hb,hc,hl,fL,hn⟩:=h;refine⟨au,ty,fr,?_,hc.mono x.le,hl,fL,λb e he pw=>?_⟩
 ·rw[f.bE blk al λb e bZ _=>hn b e bZ];exact hb
 ·cases hm:V b with
  |some e'=>have:=x.le _ _ hm;rw[he]at this;cases this;exact hn _ _ hm pw
  |none=>
   rcases x.new b e he hm with h'|⟨b0,e0,pn,yE,_⟩
   ·omega
   ·exact hn _ _ pn (yE.trans pw)
theorem aR.step {V':aM} {U':St} {w':World} (h:aR V0 w0 V lam env U a w) (r:R V' U' w') (x:Ext V V' w) (f:Fr V w w'):aR V0 w0 V' lam env U' a w' where
 r:=r
 ext:=h.ext.trans h.fr.size x
 fr:=h.fr.trans h.ext f
 size:=h.size
 tmps:=λi t hi=>(h.tmps i t hi).mono x.le
 locs:=λk cs hk=>let⟨blk,hb,hl⟩:=h.locs k cs hk;⟨blk,hb,hl.frame (h.lamlt _ _ hb) x f⟩
 inj:=h.inj
 ge:=h.ge
 lamlt:=λk blk hk=>uk (h.lamlt k blk hk) f.size
 defers:=h.defers.mono x.le
end
end Go.AM
end
section
namespace Go.AM
open Go.RowKit
section
variable {P:Program}
theorem info_of_underlying {t:TypeId} {d:TypeDesc} (h:P.underlying t=some d):∃i,P.info? t=some i:=by
 cases hi:P.info? t with
 |some i=>exact⟨i,rfl⟩
 |none=>simp[Program.underlying,hi]at h
theorem Kw {t:TypeId} {b:Bool} (h:dz P t=some b):∃d,P.underlying t=some d:=by
 unfold dz at h;split at h<;>first|exact⟨_,‹_›⟩|cases h
theorem FC {t:TypeId} {b:Bool} (h:dz P t=some b) (w:World):(isAgg t).run P w=.ok b w:=by
 unfold dz at h;split at h
 ·rename_i hu;cases h;simp[isAgg,run_underlying hu]
 ·rename_i hu;cases h;simp[isAgg,run_underlying hu]
 ·rename_i ef fW hu;cases h;simp only[isAgg,bG,run_underlying hu,bF];rfl
 ·cases h
theorem run_sizeOf {t:TypeId} {i:TypeInfo} (h:P.info? t=some i) (w:World):(sizeOf t).run P w=.ok (aE P t) w:=by
 simp[sizeOf,typeInfo,h,aE]
theorem RZ {t:TypeId} {d:TypeDesc} (h:P.underlying t=some d) (w:World):(sizeOf t).run P w=.ok (aE P t) w:=
 let⟨_,hi⟩:=info_of_underlying h;run_sizeOf hi w
theorem rP {t:TypeId} {cs:List AV} {off:Nat} {k:AV->Out} {out:fH×St} (h:dY P t cs off k=some out):
  ∃x,mh P t cs off=some x/\k x=some out:=by
 unfold dY at h;unfold mh;split at h
 ·rename_i ha;split at h
  ·rename_i hl;exact⟨_,if_pos hl,h⟩
  ·cases h
 ·split at h
  ·rename_i x hx;exact⟨x,hx,h⟩
  ·cases h
 ·cases h
theorem addr_add (b o n:Nat):(⟨b,o,none⟩:Addr).add n=⟨b,o+n,none⟩:=by unfold Addr.add;split<;>simp_all
theorem cell_of_heap {w:World} {b:Nat} {cs:Array Value} {ty:TypeId} {fr:Nat×Nat} (h:w.heap[b]? =some (.cells cs ty fr)) (o:Nat):w.cell? ⟨b,o,none⟩=cs[o]?:=by
 simp[World.cell?,h]
theorem frozen_of_heap {w:World} {b:Nat} {cs:Array Value} {ty:TypeId} {fr:Nat×Nat} (h:w.heap[b]? =some (.cells cs ty fr)) (o:Nat):w.frozen? ⟨b,o,none⟩=(decide (fr.1<=o)&&decide (o<fr.2)):=by
 simp[World.frozen?,h]
theorem Jw {V:aM} {t:TypeId} {cs:List AV} {off:Nat} {x:AV} (hp:mh P t cs off=some x)
  {w:World} {b base:Nat} {au:Array Value} {ty:TypeId} {fr:Nat×Nat} (hb:w.heap[b]? =some (.cells au ty fr)) (hc:eZ V cs au base):
  ∃v,(loadVar t ⟨b,base+off,none⟩).run P w=.ok v w/\aN V x v:=by
 unfold mh at hp;split at hp
 ·rename_i ha;split at hp
  ·rename_i hl;cases hp;obtain⟨d,hd⟩:=Kw ha;have yB:∀j,j<aE P t->w.cell? ((⟨b,base+off,none⟩:Addr).add j)=some (au.getD (base+off+j) undef):=by
    intro j hj;rw[addr_add,cell_of_heap hb];have al:off+j<cs.length:=by omega
    obtain⟨⟨v,hv,_⟩,_⟩:=hc (off+j) cs[off+j] (by simp[al]);rw[<-eD]at hv;simp[hv]
   have bA:=run_loadCells (P:=P) w ⟨b,base+off,none⟩ (aE P t) (λj=>au.getD (base+off+j) undef) yB;refine⟨.agg ((r9 (aE P t)).map λj=>au.getD (base+off+j) undef).toArray,?_,.agg _ _ (aQ.zm ?_ ?_)⟩
   ·simp only[loadVar,bG,FC ha,bF,if_true,RZ hd,bA,dh]
   ·simp;omega
   ·intro i y hi;have yI:i<aE P t/\cs[off+i]? =some y:=by
     rw[List.getElem?_take]at hi;split at hi
     ·rename_i al;exact⟨al,by simpa[List.getElem?_drop]using hi⟩
     ·cases hi
    obtain⟨⟨v,hv,hr⟩,_⟩:=hc (off+i) y yI.2;rw[<-eD]at hv;exact⟨v,by simp[yI.1,hv],hr⟩
  ·cases hp
 ·rename_i ha;obtain⟨⟨v,hv,hr⟩,_⟩:=hc off x hp;refine⟨v,?_,hr⟩;simp only[loadVar,bG,FC ha,bF,aW,if_false,run_load,cell_of_heap hb,hv]
 ·cases hp
structure qd (w w':World) (b:Nat) (o:Obj):Prop where
 os:w'.os=w.os
 tape:w'.tape=w.tape
 output:w'.output=w.output
 size:w'.heap.size=w.heap.size
 at_:w'.heap[b]? =some o
 other:∀k,k≠b->w'.heap[k]? =w.heap[k]?
theorem zy (xs:List AV):∀(cs:List AV) (off:Nat),(eA cs off xs).length=cs.length:=by
 induction xs with
 |nil=>intro cs off;rfl
 |cons x xs ih=>intro cs off;simp[eA,ih]
theorem eZ.set {V:aM} {cs:List AV} {au:Array Value} {base off:Nat} (h:eZ V cs au base) {x:AV} {v:Value} (hx:aN V x v) (ho:x.one=true) (hl:base+cs.length<=au.size):
  eZ V (cs.set off x) (au.setIfInBounds (base+off) v) base:=by
 intro i y hi;by_cases he:off=i
 ·subst he;have al:off<cs.length:=by
   rcases gu off cs.length with al|gg
   ·exact al
   ·rw[fP (by simpa using gg)]at hi;cases hi
  rw[cM al]at hi;cases hi;exact⟨⟨v,by rw[Array.getElem?_setIfInBounds_self_of_lt (by omega)],hx⟩,ho⟩
 ·rw[aD he]at hi;obtain⟨⟨u,hu,hr⟩,lg⟩:=h i y hi;exact⟨⟨u,by rw[vT (by omega)];exact hu,hr⟩,lg⟩
theorem FF {w:World} {b:Nat} {au:Array Value} {ty:TypeId} {fr:Nat×Nat} (hb:w.heap[b]? =some (.cells au ty fr)) (o:Nat) (v:Value):
  qd w (w.setCell ⟨b,o,none⟩ v) b (.cells (au.setIfInBounds o v) ty fr) where
 os:=rfl
 tape:=rfl
 output:=rfl
 size:=by simp[World.setCell]
 at_:=by simp[World.setCell,Array.getElem?_modify,hb]
 other:=λk hk=>by simp only[World.setCell,Array.getElem?_modify];rw[if_neg (λh=>hk h.symm)]
theorem Jy {V:aM} {b base:Nat} {ty:TypeId} {fr:Nat×Nat}:∀(xs:List AV) (vs:List Value),aQ V xs vs->xs.all AV.one=true->
  ∀(off i:Nat) (cs:List AV) (au:Array Value) (w:World),w.heap[b]? =some (.cells au ty fr)->eZ V cs au base->off+i+xs.length<=cs.length->base+cs.length<=au.size->
   (∀j,base<=j->j<base+cs.length->¬(fr.1<=j/\j<fr.2))->
   ∃w' dA,(storeCells ⟨b,base+off,none⟩ vs i).run P w=.ok () w'/\qd w w' b (.cells dA ty fr)/\eZ V (eA cs (off+i) xs) dA base/\dA.size=au.size:=by
 intro xs
 induction xs with
 |nil=>
  intro vs hv _ off i cs au w hb hc _ _ _;cases hv;exact⟨w,au,rfl,⟨rfl,rfl,rfl,rfl,hb,λ_ _=>rfl⟩,hc,rfl⟩
 |cons x xs ih=>
  intro vs hv bX off i cs au w hb hc hl hs hf;cases hv with
  |cons _ v _ vs hx hr=>
   simp only[List.all_cons,gH]at bX;simp only[List.length_cons]at hl;have al:off+i<cs.length:=by omega
   obtain⟨⟨u,hu,_⟩,_⟩:=hc (off+i) cs[off+i] (by simp[al]);have sO:w.cell? ⟨b,base+off+i,none⟩=some u:=by rw[cell_of_heap hb,eD];exact hu
   have fL:w.frozen? ⟨b,base+off+i,none⟩=false:=by
    rw[frozen_of_heap hb];have:=hf (base+off+i) (by omega) (by omega);simp only[Bool.and_eq_false_iff,decide_eq_false_iff_not];omega
   have eX:(store ((⟨b,base+off,none⟩:Addr).add i) v).run P w=.ok () (w.setCell ⟨b,base+off+i,none⟩ v):=by
    rw[addr_add,run_store P w _ v .plain (by rw[hx.one];exact bX.1),sO,fL];rfl
   have eu:=FF hb (base+off+i) v;have gd:eZ V (cs.set (off+i) x) (au.setIfInBounds (base+off+i) v) base:=by
    have:=hc.set (off:=off+i) hx bX.1 hs
    rwa [<-eD]at this
   obtain⟨w',dA,bA,dk,Bl,cm⟩:=ih vs hr bX.2 off (i+1) (cs.set (off+i) x) (au.setIfInBounds (base+off+i) v) (w.setCell ⟨b,base+off+i,none⟩ v) eu.at_ gd
    (by simp;omega) (by simpa using hs) (by simpa using hf)
   refine⟨w',dA,?_,?_,?_,?_⟩
   ·simp only[storeCells,bG,eX,bF,bA]
   ·exact⟨dk.os,dk.tape,dk.output,dk.size.trans eu.size,dk.at_,λk hk=>(dk.other k hk).trans (eu.other k hk)⟩
   ·simpa[eA,eD]using Bl
   ·simpa using cm
theorem lH.carry {V:aM} {w w':World} {o:aq} {e:gp} (h:lH V w o e) (hb:w'.heap[e.blk]? =w.heap[e.blk]?):lH V w' o e:=by
 cases o<;>simp only[lH]at h|-
 ·rw[hb];exact h
 ·rw[hb];exact h
 ·rw[hb];exact h
 ·rw[hb];exact h
 ·rw[hb];exact h
theorem lH.mono {V V':aM} (hm:V.le V') {w:World} {o:aq} {e:gp} (h:lH V w o e):lH V' w o e:=by
 cases o<;>simp only[lH]at h|-
 ·obtain⟨au,ty,fr,h1,h2,h3⟩:=h;exact⟨au,ty,fr,h1,h2.mono hm,h3⟩
 ·obtain⟨au,ty,fr,h1,h2,h3⟩:=h;exact⟨au,ty,fr,h1,h2.mono hm,h3⟩
 ·exact h
 ·obtain⟨es',clock,h1,⟨l,hl,h2⟩,h3⟩:=h;exact⟨es',clock,h1,⟨l,hl,h2.mono hm⟩,h3⟩
 ·exact h
theorem R.vO {V:aM} {U:St} {w w':World} (h:R V U w) {b:Nat} {o o':aq} {e:gp} {ob:Obj} (hb:U[b]? =some o) (he:V b=some e) (hw:e.wr=true) (hl:o.live=true)
  (u:qd w w' e.blk ob) (ho:lH V w' o' e):R V (U.set b o') w':=by
 have al:b<U.length:=by
  rcases gu b U.length with h'|h'
  ·exact h'
  ·rw[fP h']at hb;cases hb
 refine⟨λb' h'=>by simpa using h.dom b' h',λb' e' h'=>by rw[u.size];exact h.lt b' e' h',λb' o2 h2=>?_,λb1 b2 o1 o2 e1 e2 h1 h2 dC bW fS dj fY oE=>?_⟩
 ·by_cases ie:b=b'
  ·subst ie;rw[cM al]at h2;cases h2;exact .inl ⟨e,he,ho⟩
  ·rw[aD ie]at h2;refine(h.obj_ b' o2 h2).imp (λ⟨e2,bW,nJ⟩=>?_) id;refine⟨e2,bW,?_⟩;cases PH:o2.live with
   |false=>cases o2<;>first|exact trivial|exact nJ|cases PH
   |true=>
    refine nJ.carry (u.other _ λpw=>ie ?_);exact(h.inj b b' o o2 e e2 hb h2 he bW hl PH hw pw).symm
 ·have live (b':Nat) (o2:aq) (h2:(U.set b o')[b']? =some o2) (dj:o2.live=true):∃o3,U[b']? =some o3/\o3.live=true:=by
   by_cases ie:b=b'
   ·subst ie;exact⟨o,hb,hl⟩
   ·rw[aD ie]at h2;exact⟨o2,h2,dj⟩
  obtain⟨o3,h3,Bz⟩:=live b1 o1 h1 fS;obtain⟨o4,h4,H4⟩:=live b2 o2 h2 dj;exact h.inj b1 b2 o3 o4 e1 e2 h3 h4 dC bW Bz H4 fY oE
theorem qd.fr {V:aM} {w w':World} {b:Nat} {e:gp} {ob:Obj} (he:V b=some e) (hw:e.wr=true) (u:qd w w' e.blk ob):Fr V w w':=
 ⟨u.os,u.tape,u.output,Nat.le_of_eq u.size.symm,λk _ hn=>u.other k λhk=>hn b e he hw hk.symm⟩
def aM.push (V:aM) (n:Nat) (e:gp):aM:=λb=>if b=n then some e else V b
theorem aM.rQ {V:aM} {n:Nat} {e:gp} (h:V n=none):V.le (V.push n e):=by
 intro b e' hb;unfold aM.push;split
 ·rename_i aP;subst aP;rw[h]at hb;cases hb
 ·exact hb
theorem R.fresh {V:aM} {U:St} {w:World} (h:R V U w):V U.length=none:=by
 cases hm:V U.length with
 |none=>rfl
 |some e=>have:=h.dom U.length (by simp[hm]);omega
structure e8 (w w':World) (ob:Obj):Prop where
 os:w'.os=w.os
 tape:w'.tape=w.tape
 output:w'.output=w.output
 heap:w'.heap=w.heap.push ob
theorem e8.old {w w':World} {ob:Obj} (g:e8 w w' ob) {k:Nat} (h:k<w.heap.size):w'.heap[k]? =w.heap[k]?:=by
 rw[g.heap,Array.getElem?_push,if_neg (by omega)]
theorem e8.new {w w':World} {ob:Obj} (g:e8 w w' ob):w'.heap[w.heap.size]? =some ob:=by
 rw[g.heap];simp
theorem e8.size {w w':World} {ob:Obj} (g:e8 w w' ob):w'.heap.size=w.heap.size+1:=by
 rw[g.heap];simp
theorem e8.fr {w w':World} {ob:Obj} (g:e8 w w' ob) (V:aM):Fr V w w':=
 ⟨g.os,g.tape,g.output,by rw[g.size];omega,λ_ hk _=>g.old hk⟩
theorem e8.alloc (w:World) (ob:Obj):e8 w (w.alloc ob) ob:=⟨rfl,rfl,rfl,rfl⟩
theorem e8.GD (w:World) (ob:Obj):e8 w (w.drew.alloc ob) ob:=⟨rfl,rfl,rfl,rfl⟩
theorem R.grow {V:aM} {U:St} {w w':World} (h:R V U w) {ob:Obj} (g:e8 w w' ob) {o:aq} {e:gp} (uS:e.blk=w.heap.size) (ho:lH (V.push U.length e) w' o e):
  R (V.push U.length e) (U++[o]) w'/\Ext V (V.push U.length e) w:=by
 have hf:=h.fresh;have hle:=aM.rQ (e:=e) hf;have old (b:Nat) (hb:b≠U.length):V.push U.length e b=V b:=by unfold aM.push;rw[if_neg hb]
 have new:V.push U.length e U.length=some e:=by unfold aM.push;rw[if_pos rfl]
 refine⟨⟨λb hb=>?_,λb e' hb=>?_,λb o' hb=>?_,λb1 b2 o1 o2 e1 e2 h1 h2 dC bW fS dj fY oE=>?_⟩,⟨hle,λb e' hb hn=>?_⟩⟩
 ·by_cases aP:b=U.length
  ·subst aP;simp
  ·rw[old b aP]at hb;have:=h.dom b hb;simp;omega
 ·rw[g.size];by_cases aP:b=U.length
  ·subst aP;rw[new]at hb;cases hb;omega
  ·rw[old b aP]at hb;have:=h.lt b e' hb;omega
 ·by_cases aP:b=U.length
  ·subst aP;rw[bQ (aA _)]at hb;simp at hb;subst hb;exact .inl ⟨e,new,ho⟩
  ·have al:b<U.length:=by
    rcases gu b U.length with h'|h'
    ·exact h'
    ·rw[fP (by simp;omega)]at hb;cases hb
   rw[bO al]at hb;exact(h.obj_ b o' hb).imp (λ⟨e',bn,lg⟩=>⟨e',hle _ _ bn,(lg.mono hle).carry (g.old (h.lt b e' bn))⟩) λ⟨h1,h2⟩=>⟨h1,by rw[old b aP];exact h2⟩
 ·have side (b:Nat) (o':aq) (e':gp) (hb:(U++[o])[b]? =some o') (bn:V.push U.length e b=some e'):(b=U.length/\e'.blk=w.heap.size)\/(b<U.length/\U[b]? =some o'/\V b=some e'/\e'.blk<w.heap.size):=by
   by_cases aP:b=U.length
   ·left;subst aP;rw[new]at bn;cases bn;exact⟨rfl,uS⟩
   ·right;have al:b<U.length:=by
     rcases gu b U.length with h'|h'
     ·exact h'
     ·rw[fP (by simp;omega)]at hb;cases hb
    rw[bO al]at hb;rw[old b aP]at bn;exact⟨al,hb,bn,h.lt b e' bn⟩
  rcases side b1 o1 e1 h1 dC with⟨lX,gh⟩|⟨lX,iL,wM,gh⟩<;>rcases side b2 o2 e2 h2 bW with⟨bR,gi⟩|⟨bR,pF,dV,gi⟩
  ·omega
  ·omega
  ·omega
  ·exact h.inj b1 b2 o1 o2 e1 e2 iL pF wM dV fS dj fY oE
 ·left;by_cases aP:b=U.length
  ·subst aP;rw[new]at hb;cases hb;omega
  ·rw[old b aP,hn]at hb;cases hb
theorem R.res {V:aM} {U:St} {w:World} (h:R V U w):R V (U++[.fresh]) w:=by
 have side (b:Nat) (o:aq) (hb:(U++[aq.fresh])[b]? =some o):o=.fresh/\V b=none\/U[b]? =some o:=by
  by_cases aP:b=U.length
  ·subst aP;rw[bQ (aA _)]at hb;simp at hb;exact .inl ⟨hb.symm,h.fresh⟩
  ·have al:b<U.length:=by
    rcases gu b U.length with h'|h'
    ·exact h'
    ·rw[fP (by simp;omega)]at hb;cases hb
   rw[bO al]at hb;exact .inr hb
 refine⟨λb hb=>by have:=h.dom b hb;simp;omega,h.lt,λb o hb=>?_,λb1 b2 o1 o2 e1 e2 h1 h2 dC bW fS dj=>?_⟩
 ·rcases side b o hb with⟨rfl,h2⟩|h2
  ·exact .inr ⟨rfl,h2⟩
  ·exact h.obj_ b o h2
 ·rcases side b1 o1 h1 with⟨rfl,_⟩|mI
  ·cases fS
  ·rcases side b2 o2 h2 with⟨rfl,_⟩|uQ
   ·cases dj
   ·exact h.inj b1 b2 o1 o2 e1 e2 mI uQ dC bW fS dj
theorem R.fill {V:aM} {U:St} {w w':World} (h:R V U w) {ob:Obj} (g:e8 w w' ob) {o:aq} {e:gp} {n:Nat} (hn:U[n]? =some .fresh) (uS:e.blk=w.heap.size) (ho:lH (V.push n e) w' o e):
  R (V.push n e) (U.set n o) w'/\Ext V (V.push n e) w:=by
 have hf:=h.slot hn;have hle:=aM.rQ (e:=e) hf;have al:n<U.length:=(bl.1 hn).1;have old (b:Nat) (hb:b≠n):V.push n e b=V b:=by unfold aM.push;rw[if_neg hb]
 have new:V.push n e n=some e:=by unfold aM.push;rw[if_pos rfl]
 refine⟨⟨λb hb=>?_,λb e' hb=>?_,λb o' hb=>?_,λb1 b2 o1 o2 e1 e2 h1 h2 dC bW fS dj fY oE=>?_⟩,⟨hle,λb e' hb sW=>?_⟩⟩
 ·by_cases aP:b=n
  ·subst aP;simpa using al
  ·rw[old b aP]at hb;have:=h.dom b hb;simpa using this
 ·rw[g.size];by_cases aP:b=n
  ·subst aP;rw[new]at hb;cases hb;omega
  ·rw[old b aP]at hb;have:=h.lt b e' hb;omega
 ·by_cases aP:b=n
  ·subst aP;rw[cM al]at hb;cases hb;exact .inl ⟨e,new,ho⟩
  ·rw[aD (cY aP)]at hb;exact(h.obj_ b o' hb).imp (λ⟨e',bn,lg⟩=>⟨e',hle _ _ bn,(lg.mono hle).carry (g.old (h.lt b e' bn))⟩) λ⟨h1,h2⟩=>⟨h1,by rw[old b aP];exact h2⟩
 ·have side (b:Nat) (o':aq) (e':gp) (hb:(U.set n o)[b]? =some o') (bn:V.push n e b=some e'):(b=n/\e'.blk=w.heap.size)\/(b≠n/\U[b]? =some o'/\V b=some e'/\e'.blk<w.heap.size):=by
   by_cases aP:b=n
   ·left;subst aP;rw[new]at bn;cases bn;exact⟨rfl,uS⟩
   ·right;rw[aD (cY aP)]at hb;rw[old b aP]at bn;exact⟨aP,hb,bn,h.lt b e' bn⟩
  rcases side b1 o1 e1 h1 dC with⟨lX,gh⟩|⟨lX,iL,wM,gh⟩<;>rcases side b2 o2 e2 h2 bW with⟨bR,gi⟩|⟨bR,pF,dV,gi⟩
  ·omega
  ·omega
  ·omega
  ·exact h.inj b1 b2 o1 o2 e1 e2 iL pF wM dV fS dj fY oE
 ·left;by_cases aP:b=n
  ·subst aP;rw[new]at hb;cases hb;omega
  ·rw[old b aP,sW]at hb;cases hb
theorem eZ.zn {V:aM} {xs:List AV} {vs:Array Value} (h:aQ V xs vs.toList) (ho:xs.all AV.one=true):eZ V xs vs 0:=by
 intro i x hi;obtain⟨v,hv,hr⟩:=h.get hi;refine⟨⟨v,by simpa using hv,hr⟩,?_⟩;exact mq.1 ho x (fF hi)
end
end Go.AM
end
section
namespace Go.AM
open Go.RowKit
def iX (V:aM) (w:World) (out:fH×St) (e:Ending) (w':World):Prop:=
 ∃V',R V' out.2 w'/\Ext V V' w/\Fr V w w'/\
  match out.1 with
  | .ret x=>∃v,e=.returned v/\aN V' x v
  | .pan x=>∃v,e=.panicked [{v,recovered:=false}]/\aN V' x v
def kT (P:Program) (call:bU):Prop:=
 ∀f args U out,call f args U=some out->
  ((∃fn,P.funcs[f]? =some fn/\fn.body.isSome=true)/\∀V w (bM:Array Value),R V U w->aQ V args bM.toList->Calls P f bM w (iX V w out))\/
  ((∃fn,P.funcs[f]? =some fn/\fn.body.isSome=false)/\∀V w (bM:Array Value),R V U w->aQ V args bM.toList->∃v w',(callFunc f bM).run P w=.ok (.value v) w'/\iX V w out (.returned v) w')
def cQ (V0:aM) (w0:World) (a:Act) (dst:Option Tmp) (next:Act->World->Prop) (out:fH×St) (k:TV->Env->St->Out):Prop:=
 ∀t env U V lam v w,aR V0 w0 V lam env U a w->fI V lam t v->k t env U=some out->next (a.put dst v) w
def qV (V0:aM) (w0:World) (Q:Exit->Act->World->Prop) (out:fH×St) (kp:AV->Env->St->Out):Prop:=
 ∀x env U V lam a v w,aR V0 w0 V lam env U a w->aN V x v->kp x env U=some out->Q (.panic [{v,recovered:=false}]) a w
section
variable {P:Program} {V0 V:aM} {w0 w:World} {lam:j7} {env:Env} {U:St} {a:Act} {o:Oper} {next:Act->World->Prop} {Q:Exit->Act->World->Prop} {out:fH×St} {k:TV->Env->St->Out} {kp:AV->Env->St->Out}
theorem lx {v:Value} {w':World} (h:(execOp a.eval o).run P w=.ok (.value v) w') (hn:next (a.put o.dst v) w'):o.wp P a w next Q:=by
 unfold Oper.wp;rw[h];exact hn
theorem J1 {w':World} (h:(execOp a.eval o).run P w=.ok .skip w') (hn:next (a.put o.dst undef) w'):o.wp P a w next Q:=by
 unfold Oper.wp;rw[h];exact hn
theorem dX (H:aR V0 w0 V lam env U a w) (hk:cQ V0 w0 a o.dst next out k) {t:TV} {v:Value} (h:(execOp a.eval o).run P w=.ok (.value v) w) (ht:fI V lam t v) (hx:k t env U=some out):o.wp P a w next Q:=
 lx h (hk _ _ _ _ _ _ _ H ht hx)
theorem fI.val {x:AV} {v:Value} (h:fI V lam (.v x) v):aN V x v:=by cases h;assumption
theorem Rm {x:Operand} (H:aR V0 w0 V lam env U a w) (hk:cQ V0 w0 a o.dst next out k) (ho:o.op=.move x\/o.op=.assign x) (hx:k (env.get x) env U=some out):o.wp P a w next Q:=
 dX H hk (by rcases ho with ho|ho<;>simp[execOp,ho]) (H.get x) hx
theorem aem {c x y:Operand} (H:aR V0 w0 V lam env U a w) (hk:cQ V0 w0 a o.dst next out k) (ho:o.op=.pick c x y)
  (hx:(match env.get c with| .v (.bool t)=>cond t (k (env.get x) env U) (k (env.get y) env U)|_=>none)=some out):o.wp P a w next Q:=by
 have hc:=H.get c;split at hx
 ·rename_i t ht;rw[ht]at hc;have hb:=hc.val;generalize hv:a.eval c=v at hb;cases hb;cases t
  ·exact dX H hk (v:=a.eval y) (by simp[execOp,ho,hv,asBool]) (H.get y) hx
  ·exact dX H hk (v:=a.eval x) (by simp[execOp,ho,hv,asBool]) (H.get x) hx
 ·cases hx
theorem acb {lk:j7} {t:TV} {v:Value} {d:Nat} (h:fI V lam t v) (hl:∀j,j≠d->lk j=lam j):fI V lk (vk d t) v:=by
 cases h with
 |v x v h=>exact .v _ _ h
 |lp k off blk h=>
  show fI V lk (if k=d then .no else .lp k off) _;by_cases hk:k=d
  ·rw[if_pos hk];exact .no _
  ·rw[if_neg hk];exact .lp _ _ _ (by rw[hl _ hk];exact h)
 |ls k n blk h=>
  show fI V lk (if k=d then .no else .ls k n) _;by_cases hk:k=d
  ·rw[if_pos hk];exact .no _
  ·rw[if_neg hk];exact .ls _ _ _ (by rw[hl _ hk];exact h)
 |gl g off=>exact .gl _ _
 |rs b v=>exact .rs _ _
 |no v=>exact .no _
theorem QU (l:mu) (d:Nat) (cs:List AV):eh (ft l d cs) d=some cs:=by
 induction l with
 |nil=>simp[ft,eh]
 |cons p r ih=>
  obtain⟨k,c⟩:=p;unfold ft;split
  ·rename_i hk;subst hk;simp[eh]
  ·rename_i hk;split
   ·simp[eh]
   ·simp[eh,hk,ih]
theorem IT (l:mu) (d:Nat) (cs:List AV) {j:Nat} (h:j≠d):eh (ft l d cs) j=eh l j:=by
 induction l with
 |nil=>simp[ft,eh];omega
 |cons p r ih=>
  obtain⟨k,c⟩:=p;unfold ft;split
  ·rename_i hk;subst hk;simp[eh];rw[if_neg (λe=>h e.symm),if_neg (λe=>h e.symm)]
  ·split
   ·rw[eh,if_neg (λe=>h e.symm)]
   ·simp[eh,ih]
theorem afs (l:mu) {a b:Nat} (h:a≠b) (x y:List AV):ft (ft l a x) b y=ft (ft l b y) a x:=by
 induction l with
 |nil=>
  rcases Nat.lt_or_gt_of_ne h with al|nB
  ·simp only[ft,if_neg h,if_neg h.symm,if_pos al,if_neg (sf al)]
  ·simp only[ft,if_neg h,if_neg h.symm,if_pos nB,if_neg (sf nB)]
 |cons p r ih=>
  obtain⟨k,c⟩:=p;by_cases ha:k=a
  ·subst ha;rcases Nat.lt_or_gt_of_ne h with al|nB
   ·simp[ft,h,sf al]
   ·simp[ft,h,h.symm,nB,sf nB]
  ·by_cases hb:k=b
   ·subst hb;rcases Nat.lt_or_gt_of_ne h with al|nB
    ·simp[ft,h,h.symm,al,sf al]
    ·simp[ft,h.symm,sf nB]
   ·by_cases gv:a<k
    ·by_cases bZ:b<k
     ·rcases Nat.lt_or_gt_of_ne h with al|nB
      ·simp[ft,ha,hb,gv,bZ,h,h.symm,al,sf al]
      ·simp[ft,ha,hb,gv,bZ,h,h.symm,nB,sf nB]
     ·have rm:a<b:=by omega
      simp[ft,ha,hb,gv,bZ,h,rm,sf rm]
    ·by_cases bZ:b<k
     ·have Pb:b<a:=by omega
      simp[ft,ha,hb,gv,bZ,h.symm,Pb,sf Pb]
     ·simp[ft,ha,hb,gv,bZ,ih]
theorem aR.pQ {w':World} {cs:List AV} {au:Array Value} {ty:TypeId} (H:aR V0 w0 V lam env U a w) (g:e8 w w' (.cells au ty)) (hc:aQ V cs au.toList) (ho:cs.all AV.one=true) (d:Nat):
  aR V0 w0 V (λj=>if j=d then some w.heap.size else lam j) (env.pQ d cs) U a w' where
 r:=by
  refine⟨H.r.dom,λb e h=>?_,λb o h=>?_,H.r.inj⟩
  ·rw[g.size];have:=H.r.lt b e h;omega
  ·exact(H.r.obj_ b o h).imp (λ⟨e,he,hr⟩=>⟨e,he,hr.carry (g.old (H.r.lt b e he))⟩) id
 ext:=H.ext
 fr:=H.fr.trans H.ext (g.fr V)
 size:=by simp[Env.pQ,H.size]
 tmps:=λi t hi=>by
  simp only[Env.pQ,gI]at hi;cases ht:env.tmps[i]? with
  |none=>rw[ht]at hi;cases hi
  |some t0=>rw[ht]at hi;cases hi;exact acb (H.tmps i t0 ht) λj hj=>if_neg hj
 locs:=λj c hj=>by
  simp only[Env.pQ]at hj;by_cases hd:j=d
  ·subst hd;rw[QU]at hj;cases hj;refine⟨w.heap.size,if_pos rfl,au,ty,(0,0),g.new,eZ.zn hc ho,by simpa using hc.length,λj _ h=>by simp at h,λb e hb=>?_⟩;have:=H.r.lt b e hb;omega
  ·rw[IT _ _ _ hd]at hj;obtain⟨blk,hb,dA,Ci,Bc,h1,h2,h3,h4,h5⟩:=H.locs j c hj;exact⟨blk,by rw[if_neg hd];exact hb,dA,Ci,Bc,by rw[g.old (H.lamlt _ _ hb)];exact h1,h2,h3,h4,h5⟩
 inj:=λj j' blk h h'=>by
  by_cases hd:j=d<;>by_cases oF:j'=d
  ·omega
  ·rw[if_pos hd]at h;rw[if_neg oF]at h';cases h;have:=H.lamlt _ _ h';omega
  ·rw[if_neg hd]at h;rw[if_pos oF]at h';cases h';have:=H.lamlt _ _ h;omega
  ·rw[if_neg hd]at h;rw[if_neg oF]at h';exact H.inj _ _ _ h h'
 ge:=λj blk h=>by
  by_cases hd:j=d
  ·rw[if_pos hd]at h;cases h;exact H.fr.size
  ·rw[if_neg hd]at h;exact H.ge _ _ h
 lamlt:=λj blk h=>by
  rw[g.size];by_cases hd:j=d
  ·rw[if_pos hd]at h;cases h;omega
  ·rw[if_neg hd]at h;have:=H.lamlt _ _ h;omega
 defers:=H.defers
theorem aR.E8 {w':World} {cs:List AV} {au:Array Value} {ty:TypeId} (H:aR V0 w0 V lam env U a w) (g:e8 w w' (.cells au ty)) (hc:eZ V cs au 0) (hl:cs.length<=au.size) {t:Mk} (ht:t.ok ty 0 cs.length au.size):
  aR V0 w0 (V.push U.length ⟨w.heap.size,0,au.size,true⟩) lam env (U++[.cells cs (.rw t)]) a w':=by
 obtain⟨r,x⟩:=H.r.grow g (o:=.cells cs (.rw t)) (e:=⟨w.heap.size,0,au.size,true⟩) rfl
  ⟨au,ty,(0,0),g.new,hc.mono (aM.rQ H.r.fresh),hl,by simp,λt1 h1=>by cases h1;exact⟨rfl,λj _ _ h=>by simp at h,ht⟩⟩
 exact H.step r x (g.fr V)
theorem aR.aas {w':World} {cs:List AV} {au:Array Value} {ty:TypeId} {b:Nat} (H:aR V0 w0 V lam env U a w) (g:e8 w w' (.cells au ty)) (hb:U[b]? =some .fresh) (hc:eZ V cs au 0) (hl:cs.length<=au.size) {t:Mk} (ht:t.ok ty 0 cs.length au.size):
  aR V0 w0 (V.push b ⟨w.heap.size,0,au.size,true⟩) lam env (U.set b (.cells cs (.rw t))) a w':=by
 obtain⟨r,x⟩:=H.r.fill g hb (o:=.cells cs (.rw t)) (e:=⟨w.heap.size,0,au.size,true⟩) rfl
  ⟨au,ty,(0,0),g.new,hc.mono (aM.rQ (H.r.slot hb)),hl,by simp,λt1 h1=>by cases h1;exact⟨rfl,λj _ _ h=>by simp at h,ht⟩⟩
 exact H.step r x (g.fr V)
theorem mi (V:aM) (n:Nat) (e:gp):V.push n e n=some e:=by unfold aM.push;rw[if_pos rfl]
theorem Lf {loc:Bool} {dst:Option Tmp} {cs:List AV} {au:Array Value} {ty:TypeId} {w':World} (H:aR V0 w0 V lam env U a w) (hk:cQ V0 w0 a o.dst next out k) (g:e8 w w' (.cells au ty)) (hc:aQ V cs au.toList)
  (h:(execOp a.eval o).run P w=.ok (.value (.pointer (some ⟨w.heap.size,0,none⟩))) w') (hx:nr ty loc dst env U cs k=some out):o.wp P a w next Q:=by
 unfold nr at hx;split at hx
 ·rename_i bX;split at hx
  ·rename_i d;exact lx h (hk _ _ _ _ _ _ _ (H.pQ g hc bX d) (.lp _ _ _ (if_pos rfl)) hx)
  ·have:=H.E8 g (eZ.zn hc bX) (by simpa using Nat.le_of_eq hc.length) (t:=.box ty) ⟨rfl,rfl,by simpa using hc.length⟩;refine lx h (hk _ _ _ _ _ _ _ this (.v _ _ ?_) hx);have hp:=aN.ptr (V:=V.push U.length ⟨w.heap.size,0,au.size,true⟩) U.length 0 _ (mi _ _ _);simpa using hp
 ·cases hx
theorem xy {t:TypeId} {z:AV} (h:zeroOf P t=some z) (V:aM) (w:World):∃v,(zeroValue t).run P w=.ok v w/\aN V z v:=by
 unfold zeroOf at h;split at h
 ·rename_i i hi;split at h
  ·rename_i v hv;exact⟨v,by simp[zeroValue,typeInfo,hi,hv],Fg h⟩
  ·cases h
 ·cases h
theorem adX {t:TypeId} {loc:Bool} (H:aR V0 w0 V lam env U a w) (hk:cQ V0 w0 a o.dst next out k) (ho:o.op=.alloc t)
  (hx:(match zeroOf P t with|some z=>nr t loc o.dst env U z.cells k|none=>none)=some out):o.wp P a w next Q:=by
 split at hx
 ·rename_i z hz;obtain⟨v,hv,hr⟩:=xy (P:=P) hz V w;exact Lf H hk (e8.alloc w (.cells v.cells t)) hr.cells (by simp[execOp,ho,Instr.alloc,hv,newVar,newRow]) hx
 ·cases hx
theorem ad0 {t:TypeId} {x:Operand} {loc:Bool} (H:aR V0 w0 V lam env U a w) (hk:cQ V0 w0 a o.dst next out k) (ho:o.op=.box t x)
  (hx:(match env.get x with| .v y=>nr t loc o.dst env U y.cells k|_=>none)=some out):o.wp P a w next Q:=by
 have hr:=H.get x;split at hx
 ·rename_i y hy;rw[hy]at hr;exact Lf H hk (e8.alloc w (.cells (a.eval x).cells t)) hr.val.cells (by simp[execOp,ho,Instr.box,newVar,newRow]) hx
 ·cases hx
theorem CS {b:Nat} {cs:List AV} (h:aF U b=some cs):∃wr,U[b]? =some (.cells cs wr):=by
 unfold aF at h;split at h
 ·rename_i c wr hc;cases h;exact⟨wr,hc⟩
 ·cases h
theorem QR {t:TypeId} {x:TV} {v:Value} {kv:AV->Out} (H:aR V0 w0 V lam env U a w) (hr:fI V lam x v) (hx:qE P t env U x kv=some out):
  ∃y u,(Instr.loadAt t v).run P w=.ok u w/\aN V y u/\kv y=some out:=by
 unfold qE at hx;split at hx
 ·rename_i key off;split at hx
  ·rename_i cs bg;cases hr with
   |lp _ _ blk hl=>
    obtain⟨CJ,bZ,au,ty,fr,h1,h2,_,_,_⟩:=H.locs key cs bg;rw[hl]at bZ;cases bZ;obtain⟨y,hy,mN⟩:=rP hx;obtain⟨u,hu,BH⟩:=Jw hy h1 h2;rw[dI]at hu;exact⟨y,u,by simp[Instr.loadAt,r6,hu],BH,mN⟩
  ·cases hx
 ·rename_i b off;split at hx
  ·rename_i cs bg;obtain⟨wr,hs⟩:=CS bg;have hv:=hr.val;cases hv with
   |ptr _ _ e he=>
    obtain⟨e',bn,au,ty,fr,h1,h2,_⟩:=H.r.obj b _ hs;rw[he]at bn;cases bn;obtain⟨y,hy,mN⟩:=rP hx;obtain⟨u,hu,BH⟩:=Jw hy h1 h2;exact⟨y,u,by simp[Instr.loadAt,r6,hu],BH,mN⟩
  ·cases hx
 ·rename_i g off;unfold yw at hx;split at hx
  ·rename_i g' cs hs;split at hx
   ·rename_i hg;subst hg;cases hr with
    |gl _ _=>
     obtain⟨e',bn,au,ty,fr,h1,h2,h3,h4⟩:=H.r.obj g' _ hs;obtain⟨y,hy,mN⟩:=rP hx;obtain⟨u,hu,BH⟩:=Jw hy h1 h2;rw[h3,h4,dI]at hu;exact⟨y,u,by simp[Instr.loadAt,r6,hu],BH,mN⟩
   ·cases hx
  ·cases hx
 ·cases hx
theorem aed {t:TypeId} {x:Operand} (H:aR V0 w0 V lam env U a w) (hk:cQ V0 w0 a o.dst next out k) (ho:o.op=.load t x)
  (hx:qE P t env U (env.get x) (λy=>k (.v y) env U)=some out):o.wp P a w next Q:=by
 obtain⟨y,u,hu,hr,mN⟩:=QR H (H.get x) hx;exact dX H hk (by simp[execOp,ho,hu]) (.v _ _ hr) mN
theorem aR.agH {w':World} {key blk:Nat} {cs Gw:List AV} {au dA:Array Value} {ty:TypeId} {fr:Nat×Nat} (H:aR V0 w0 V lam env U a w) (bg:eh env.locs key=some cs) (hl:lam key=some blk)
  (h1:w.heap[blk]? =some (.cells au ty fr)) (u:qd w w' blk (.cells dA ty fr)) (hc:eZ V Gw dA 0) (cm:dA.size=au.size) (hlen:Gw.length=cs.length):
  aR V0 w0 V lam {env with locs:=ft env.locs key Gw} U a w':=by
 obtain⟨CJ,bZ,cs3,SX,wA,g1,g2,g3,g4,g5⟩:=H.locs key cs bg;rw[hl]at bZ;cases bZ;rw[h1]at g1;cases g1;refine{H with r:=?_,fr:=?_,locs:=?_,lamlt:=?_}
 ·refine⟨H.r.dom,λb e h=>by rw[u.size];exact H.r.lt b e h,λb o h=>?_,H.r.inj⟩;exact(H.r.obj_ b o h).imp (λ⟨e,he,hr⟩=>⟨e,he,hr.carry (u.other _ (g5 b e he))⟩) id
 ·refine⟨u.os.trans H.fr.os,u.tape.trans H.fr.tape,u.output.trans H.fr.output,by rw[u.size];exact H.fr.size,λk hk hn=>?_⟩;rw[u.other k (λe=>by have:=H.ge _ _ hl;omega)];exact H.fr.bE k hk hn
 ·intro j c hj;by_cases hd:j=key
  ·subst hd;rw[QU]at hj;cases hj;exact⟨blk,hl,dA,ty,fr,u.at_,hc,by rw[hlen,g3,cm],by rw[cm];exact g4,g5⟩
  ·rw[IT _ _ _ hd]at hj;obtain⟨K0,bR,x4,ty4,fr4,k1,k2,k3,k4,k5⟩:=H.locs j c hj;refine⟨K0,bR,x4,ty4,fr4,?_,k2,k3,k4,k5⟩;rw[u.other K0 (λe=>hd (by subst e;exact H.inj _ _ _ hl bR))];exact k1
 ·intro j b hj;rw[u.size];exact H.lamlt j b hj
theorem aer {t:TypeId} {x y:Operand} (H:aR V0 w0 V lam env U a w) (hk:cQ V0 w0 a o.dst next out k) (ho:o.op=.store t x y)
  (hx:vK P t env U (env.get x) (env.get y) (λls U'=>k .no {env with locs:=ls} U')=some out):o.wp P a w next Q:=by
 unfold vK at hx;have BL:=H.get x;have Qh:=H.get y;split at hx
 ·rename_i z hz;rw[hz]at Qh;have hv:=Qh.val;generalize Ez:a.eval y=v at hv;split at hx
  ·rename_i abE;obtain⟨cm,hi⟩:=abE;obtain⟨i,hi⟩:=od.1 hi;split at hx
   ·rename_i bX;have Iw:=hv.cells;have bA (ad:Addr):(Instr.storeAt t (.pointer (some ad)) v).run P w=(storeCells ad v.cells.toList 0).run P w:=by
     have hs:v.cells.size=aE P t:=by rw[<-cm,Iw.length];simp
     simp only[Instr.storeAt,r6,bG,dh,bF,storeVar,run_sizeOf hi,hs,ne_eq,not_true_eq_false,if_false]
    split at hx
    ·rename_i key off hp;rw[hp]at BL;generalize cf:a.eval x=xv at BL;split at hx
     ·rename_i cs bg;split at hx
      ·rename_i hlen;cases BL with
       |lp _ _ blk hl=>
        obtain⟨CJ,bZ,au,ty,fr,h1,h2,h3,h4,h5⟩:=H.locs key cs bg;rw[hl]at bZ;cases bZ;obtain⟨w',dA,eX,hu,gd,pF⟩:=Jy (P:=P) (b:=blk) (base:=0) (ty:=ty) (fr:=fr) z.cells v.cells.toList Iw bX off 0 cs au w h1 h2 (by omega) (by omega)
         (λj _ hj=>h4 j (by omega))
        rw[dI]at eX;rw[mw]at gd;have hS:=H.agH bg hl h1 hu gd pF (zy _ _ _);refine J1 (w':=w') ?_ (hk _ _ _ _ _ _ _ hS (.no _) hx);simp[execOp,ho,cf,Ez,bA,eX]
      ·cases hx
     ·cases hx
    ·rename_i b off hp;rw[hp]at BL;have Qg:=BL.val;generalize cf:a.eval x=xv at Qg;split at hx
     ·rename_i cs wty bg;split at hx
      ·rename_i hlen;cases Qg with
       |ptr _ _ e he=>
        obtain⟨e',bn,ff⟩:=H.r.obj b _ bg;rw[he]at bn;cases bn;obtain⟨au,ty,fr,h1,h2,h3,h4,h5⟩:=ff;obtain⟨hw,ij,eH⟩:=h5 _ rfl;obtain⟨w',dA,eX,hu,gd,pF⟩:=Jy (P:=P) (b:=e.blk) (base:=e.off) (ty:=ty) (fr:=fr) z.cells v.cells.toList Iw bX off 0 cs au w h1 h2 (by omega) (by omega)
         (λj hj nC=>ij j hj (by omega))
        rw[mw]at gd;have hR:=H.r.vO (o':=.cells (eA cs off z.cells) (.rw _)) bg he hw rfl hu ⟨dA,ty,fr,hu.at_,gd,by rw[zy];exact h3,by omega,λt1 h1=>by cases h1;exact⟨hw,ij,by rw[zy];rw[pF]at*;exact eH⟩⟩;have hS:=H.step hR (Ext.refl V w) (hu.fr he hw);refine J1 (w':=w') ?_ (hk _ _ _ _ _ _ _ hS (.no _) hx);simp[execOp,ho,cf,Ez,bA,eX]
      ·cases hx
     ·cases hx
    ·cases hx
   ·cases hx
  ·cases hx
 ·cases hx
end
end Go.AM
end
section
namespace Go.AM
open Go.RowKit
section
variable {P:Program} {V0 V:aM} {w0 w:World} {lam:j7} {env:Env} {U:St} {a:Act} {o:Oper} {next:Act->World->Prop} {Q:Exit->Act->World->Prop} {out:fH×St} {k:TV->Env->St->Out} {kp:AV->Env->St->Out}
theorem aQ.aft (V:aM):∀(xs:List AV) (vs:List Value),aQ V xs vs->∀(cs:List AV) (au:Array Value) (off i:Nat),aQ V cs au.toList->
  aQ V (eA cs (off+i) xs) ((vs.zipIdx i).foldl (λ(c:Array Value) (p:Value×Nat)=>c.setIfInBounds (off+p.2) p.1) au).toList:=by
 intro xs
 induction xs with
 |nil=>intro vs h cs au off i hc;cases h;simpa[eA]using hc
 |cons x xs ih=>
  intro vs h cs au off i hc;cases h with
  |cons _ v _ vs hx hr=>
   simp only[eA,List.zipIdx_cons,List.foldl_cons];have:=ih vs hr (cs.set (off+i) x) (au.setIfInBounds (off+i) v) off (i+1) (by simpa using hc.set hx (off+i));simpa[eD]using this
inductive xU (V:aM) (lam:j7):List (Nat×TV)->List (Nat×Value)->Prop
 |nil:xU V lam [] []
 |cons (i:Nat) (t:TV) (v:Value) (r:List (Nat×TV)) (r':List (Nat×Value)) (h:fI V lam t v) (hr:xU V lam r r'):xU V lam ((i,t)::r) ((i,v)::r')
theorem aR.parts (H:aR V0 w0 V lam env U a w):∀(l:List (Nat×Operand)),xU V lam (l.map λp=>(p.1,env.get p.2)) (l.map λp=>(p.1,a.eval p.2))
 | []=>.nil
 |(i,x)::r=>.cons i _ _ _ _ (H.get x) (H.parts r)
theorem DW {place:Nat->Ad}:∀{ps:List (Nat×TV)} {ps':List (Nat×Value)},xU V lam ps ps'->∀{cs:List AV} {au:Array Value} {r:List AV},aQ V cs au.toList->kq place cs ps=some r->
  ∃r',Instr.fill place au ps'=some r'/\aQ V r r'.toList
 |_,_,.nil,cs,au,r,hc,h=>by simp[kq]at h;subst h;exact⟨au,rfl,hc⟩
 |_,_,.cons i t v ps ps' ht hr,cs,au,r,hc,h=>by
  cases ht with
  |lp _ _ _ _=>simp[kq]at h
  |ls _ _ _ _=>simp[kq]at h
  |gl _ _=>simp[kq]at h
  |rs _ _=>simp[kq]at h
  |no _=>simp[kq]at h
  |v x0 v hv=>
   simp only[kq]at h;split at h
   ·cases h
   ·rename_i off size hp;split at h
    ·rename_i cm;have hvl:v.cells.size=x0.cells.length:=by have:=hv.cells.length;simpa using this.symm
     have iG:au.size=cs.length:=by have:=hc.length;simpa using this.symm
     unfold Instr.fill;simp only[hp];rw[if_neg (by simp;omega)];have mb:=aQ.aft V x0.cells v.cells.toList hv.cells cs au off 0 hc;rw[mw]at mb;refine DW hr ?_ h;have he:(v.cells.zipIdx.foldl (λcs (x:Value×Nat)=>match x with|(c,j)=>cs.setIfInBounds (off+j) c) au)=((v.cells.toList.zipIdx 0).foldl (λ(c:Array Value) (p:Value×Nat)=>c.setIfInBounds (off+p.2) p.1) au):=by
      rw[<-Array.foldl_toList,Array.toList_zipIdx]
     rw[he];exact mb
    ·cases h
theorem adj {fs:List Field} (h:∀f∈fs,(P.info? f.type).isSome=true) (w:World):(fs.mapM (m:=Sem) λ(f:Field)=>do pure (f.offset,<-sizeOf f.type)).run P w=.ok (fs.map λf=>(f.offset,aE P f.type)) w:=by
 induction fs with
 |nil=>rfl
 |cons f r ih=>
  obtain⟨i,hi⟩:=od.1 (h f (by simp));simp only[List.mapM_cons,bG,run_sizeOf hi,bF,dh,ih λg hg=>h g (by simp[hg]),dO]
theorem Ux {t:TypeId} {ps:List (Nat×TV)} {ps':Array (Nat×Value)} {x:AV} (hp:xU V lam ps ps'.toList) (fD:∀fs,P.underlying t=some (.struct fs)->∀f∈fs.toList,(P.info? f.type).isSome=true)
  (uY:∀n e,P.underlying t=some (.array n e)->(P.info? e).isSome=true) (hx:Af P t ps=some x) (w:World):∃v,(Instr.build t ps').run P w=.ok v w/\aN V x v:=by
 unfold Af at hx;split at hx
 ·rename_i z hz;obtain⟨zv,nN,oK⟩:=xy (P:=P) hz V w;split at hx
  ·rename_i fs hu;split at hx
   ·rename_i cs hf;cases hx;have hm:(fs.mapM (m:=Sem) λ(f:Field)=>do pure (f.offset,<-sizeOf f.type)).run P w=.ok (fs.map λf=>(f.offset,aE P f.type)) w:=by
     have:=adj (P:=P) (fD fs hu) w;rw[<-Array.toArray_toList (xs:=fs)];rw[List.mapM_toArray];simp only[Sem.run_map,this,bF];congr 1;apply Array.ext';simp
    have abt:Jj P fs=λi=>(fs.map λf=>(f.offset,aE P f.type))[i]?:=by
     funext i
     unfold Jj;cases hi:fs[i]? <;>simp[hi]
    rw[abt]at hf;obtain⟨r',gy,nM⟩:=DW hp oK.cells hf;exact⟨.agg r',by simp only[Instr.build,bG,nN,bF,run_underlying hu,hm,gy]<;>rfl,.agg _ _ nM⟩
   ·cases hx
  ·rename_i n e hu;split at hx
   ·rename_i cs hf;cases hx;obtain⟨i,hi⟩:=od.1 (uY n e hu);obtain⟨r',gy,nM⟩:=DW hp oK.cells hf;exact⟨.agg r',by simp[Instr.build,nN,run_underlying hu,run_sizeOf hi,gy],.agg _ _ nM⟩
   ·cases hx
  ·cases hx
 ·cases hx
theorem abL {op:BinOp} {kx:IntKind} {x y:Int} {r:AV} (h:yX op kx x y=some r) (w:World):∃v,aN V r v/\
  (op≠ .shl->op≠ .shr->∀P',∀t,(binOp op t (.int kx x) (.int kx y)).run P' w=.ok v w)/\(op=.shl\/op=.shr->∀P' ky t,(binOp op t (.int kx x) (.int ky y)).run P' w=.ok v w):=by
 cases op<;>simp only[yX]at h
 case quo=>
  split at h
  ·cases h
  ·rename_i hy;cases h;exact⟨_,.int _ _,λ_ _ P' t=>by simp[binOp,Op.intDiv,hy],λh=>by simp at h⟩
 case rem=>
  split at h
  ·cases h
  ·rename_i hy;cases h;exact⟨_,.int _ _,λ_ _ P' t=>by simp[binOp,Op.intDiv,hy],λh=>by simp at h⟩
 case shl=>
  split at h
  ·cases h
  ·rename_i hy;cases h;exact⟨_,.int _ _,λh=>absurd rfl h,λ_ P' ky t=>by simp[binOp,Op.shift,hy]⟩
 case shr=>
  split at h
  ·cases h
  ·rename_i hy;cases h;exact⟨_,.int _ _,λ_ h=>absurd rfl h,λ_ P' ky t=>by simp[binOp,Op.shift,hy]⟩
 all_goals cases h
 all_goals first
  |exact⟨_,.int _ _,λ_ _ P' t=>by simp[binOp,Op.intArith,Op.intBits],λh=>by simp at h⟩
  |exact⟨_,.bool _,λ_ _ P' t=>by simp[binOp,Op.intCmp],λh=>by simp at h⟩
theorem toList_mk (s:By):(⟨s.toArray⟩:ByteArray).toList=s:=by
 rw[ByteArray.toList_eq]
theorem afo {op:BinOp} {x y:By} {r:AV} (h:zw op x y=some r) (w:World) (t:TypeId):∃v,aN V r v/\(binOp op t (.string ⟨x.toArray⟩) (.string ⟨y.toArray⟩)).run P w=.ok v w:=by
 have cm (s:By):(⟨s.toArray⟩:ByteArray).size=s.length:=rfl;cases op<;>simp only[zw]at h
 case add=>
  split at h
  ·rename_i hl;cases h;have hn:¬(((x.length+y.length:Nat):Int)>IntKind.i64.max):=by
    have:IntKind.i64.max=9223372036854775807:=by decide
    rw[this];omega
   have he:(⟨x.toArray⟩:ByteArray)++⟨y.toArray⟩=⟨(x++y).toArray⟩:=by
    apply FR;simp
   refine⟨_,.str _,?_⟩;simp only[binOp,Op.stringOp,cm,if_neg hn,he,dh]
  ·cases h
 all_goals first|cases h|skip
 all_goals exact⟨_,.bool _,by simp only[binOp,Op.stringOp,toList_mk,dh]⟩
theorem vD {t:TypeId} {cs:List AV} {au:Array Value} {off:Nat} {x:AV} (hp:mh P t cs off=some x) (hc:aQ V cs au.toList) (w:World):
  ∃v,(part t au off).run P w=.ok v w/\aN V x v:=by
 unfold mh at hp;split at hp
 ·rename_i ha;split at hp
  ·rename_i hl;cases hp;obtain⟨d,hd⟩:=Kw ha;refine⟨.agg (au.extract off (off+aE P t)),by simp only[part,bG,FC ha,bF,if_true,RZ hd,dh],.agg _ _ ?_⟩;have:=(hc.drop off).take (aE P t);rw[Array.toList_extract]
   rwa [show au.toList.extract off (off+aE P t)=(au.toList.drop off).take (aE P t)from by simp[List.extract_eq_take_drop]]
  ·cases hp
 ·rename_i ha;obtain⟨v,hv,hr⟩:=hc.get hp;rw[p5]at hv;exact⟨v,by simp only[part,bG,FC ha,bF,aW,if_false,hv,dh],hr⟩
 ·cases hp
theorem VR {d m:Nat} (ih:∀t x y b v u,cu P d t x y=some b->aN V x v->aN V y u->∀w,(jd (d+m) t v u).run P w=.ok b w):
  ∀(fs:List Field) (xs ys:List AV) (jw nX:Array Value) (b:Bool),rb (cu P d) P xs ys ((fs.filter λf=>decide (f.name≠ "_")).map λf=>(f.type,f.offset))=some b->aQ V xs jw.toList->aQ V ys nX.toList->
   ∀w,(Op.eqFields (d+m) jw nX fs).run P w=.ok b w:=by
 intro fs
 induction fs with
 |nil=>intro xs ys jw nX b h _ _ w;simp[rb]at h;subst h;rfl
 |cons f fs Ql=>
  intro xs ys jw nX b h hx hy w;by_cases hn:f.name≠ "_"
  ·rw[List.filter_cons_of_pos (by simpa using hn)]at h;simp only[dO,rb]at h;split at h
   ·rename_i x1 h1;split at h
    ·rename_i y1 h2;split at h
     ·rename_i b1 h3;split at h
      ·rename_i c1 h4;cases h;obtain⟨v1,jo,il⟩:=vD (P:=P) h1 hx w;obtain⟨u1,oI,iL⟩:=vD (P:=P) h2 hy w;have h5:=ih _ _ _ _ _ _ h3 il iL w;have h6:=Ql xs ys jw nX c1 h4 hx hy w;simp only[Op.eqFields,if_pos hn,bG,jo,oI,bF,h5,Sem.run_ite,h6,dh];cases b1<;>simp
      ·cases h
     ·cases h
    ·cases h
   ·cases h
  ·rw[List.filter_cons_of_neg (by simpa using hn)]at h;simp only[Op.eqFields,if_neg hn];exact Ql xs ys jw nX b h hx hy w
theorem VQ {d m:Nat} {e:TypeId} {sz:Nat} (ih:∀t x y b v u,cu P d t x y=some b->aN V x v->aN V y u->∀w,(jd (d+m) t v u).run P w=.ok b w)
  (xs ys:List AV) (jw nX:Array Value) (hx:aQ V xs jw.toList) (hy:aQ V ys nX.toList):
  ∀(l:List Nat) (b:Bool),rb (cu P d) P xs ys (l.map λi=>(e,i*sz))=some b->∀w,
   (forIn (m:=Sem) l ((none,()):Option Bool×Unit) λi _=>do
    let x<-part e jw (i*sz)
    let y<-part e nX (i*sz)
    let q<-jd (d+m) e x y
    if(!q)=true then pure (ForInStep.done (some false,()))else pure (Kf (none,()))).run P w
   =.ok (if b then(none,())else(some false,())) w:=by
 intro l
 induction l with
 |nil=>intro b h w;simp[rb]at h;subst h;rfl
 |cons i l ihl=>
  intro b h w;simp only[dO,rb]at h;split at h
  ·rename_i x1 h1;split at h
   ·rename_i y1 h2;split at h
    ·rename_i b1 h3;split at h
     ·rename_i c1 h4;cases h;obtain⟨v1,jo,il⟩:=vD (P:=P) h1 hx w;obtain⟨u1,oI,iL⟩:=vD (P:=P) h2 hy w;have h5:=ih _ _ _ _ _ _ h3 il iL w;have h6:=ihl c1 h4 w;cases b1
      ·simp only[List.forIn_cons,bG,jo,oI,bF,h5,Bool.not_false,if_true,dh,Bool.false_and,aW,if_false]
      ·simp only[List.forIn_cons,bG,jo,oI,bF,h5,Bool.not_true,if_false,dh,Bool.true_and,aW];exact h6
     ·cases h
    ·cases h
   ·cases h
  ·cases h
theorem Mf {m:Nat} (uY:∀t n e,P.underlying t=some (.array n e)->(P.info? e).isSome=true):∀(d:Nat) (t:TypeId) (x y:AV) (b:Bool) (v u:Value),cu P d t x y=some b->aN V x v->aN V y u->∀w,(jd (d+m) t v u).run P w=.ok b w:=by
 intro d
 induction d with
 |zero=>intro t x y b v u h;simp[cu]at h
 |succ d ih=>
  intro t x y b v u h hx hy w;rw[show d+1+m=(d+m)+1 from by omega];simp only[cu]at h;split at h
  ·rename_i hu;split at h
   ·cases h;cases hx;cases hy;simp[jd,run_underlying hu]
   ·cases h
  ·rename_i ki hu;split at h
   ·rename_i kx ax ky ay;split at h
    ·rename_i hk;subst hk;cases h;cases hx;cases hy;exact run_equalIn_int w _ t _ _ _ _ hu
    ·cases h
   ·cases h
  ·rename_i hu;split at h
   ·cases h;cases hx;cases hy;rw[run_equalIn_string w _ t _ _ hu,toList_mk,toList_mk]
   ·cases h
  ·rename_i e hu;split at h
   ·cases h;cases hx;cases hy<;>simp[jd,run_underlying hu]
   ·cases h;cases hx;cases hy;simp[jd,run_underlying hu]
   ·rename_i p q;split at h
    ·rename_i Ep;cases h;obtain⟨b1,o1⟩:=p;obtain⟨b2,o2⟩:=q;simp only at Ep;obtain⟨rfl,cm⟩:=Ep;cases hx with
     |ptr _ _ e1 dC=>
      cases hy with
      |ptr _ _ e2 bW=>
       rw[dC]at bW;cases bW;obtain⟨i,hi⟩:∃i,P.info? e=some i:=by
        unfold aE at cm;split at cm
        ·exact⟨_,‹_›⟩
        ·exact absurd rfl cm
       simp only[jd,bG,run_underlying hu,bF,run_sizeOf hi,ne_eq,cm,not_false_eq_true,if_true,sameAddr,beq_self_eq_true,dh];congr 1;simp only[beq_iff_eq,Bool.beq_eq_decide_eq]<;>(apply Bool.eq_iff_iff.2;simp)
    ·cases h
   ·cases h
  ·rename_i e hu;split at h
   ·cases h;cases hx;cases hy<;>simp[jd,run_underlying hu]
   ·cases h;cases hx;cases hy;simp[jd,run_underlying hu]
   ·cases h
  ·rename_i e1 e2 hu;split at h
   ·cases h;cases hx;cases hy<;>simp[jd,run_underlying hu]
   ·cases h;cases hx;cases hy;simp[jd,run_underlying hu]
   ·cases h
  ·rename_i e1 e2 e3 hu;split at h
   ·cases h;cases hx;cases hy;simp[jd,run_underlying hu]
   ·cases h;cases hx;cases hy;simp[jd,run_underlying hu]
   ·cases h;cases hx;cases hy;simp[jd,run_underlying hu]
   ·cases h
  ·rename_i ms hu;split at h
   ·cases h;cases hx;cases hy;simp[jd,run_underlying hu]
   ·cases h;cases hx;cases hy;simp[jd,run_underlying hu]
   ·cases h;cases hx;cases hy;simp[jd,run_underlying hu]
   ·rename_i tx vx ty vy;cases hx with
    |iface _ _ v1 h1=>
     cases hy with
     |iface _ _ v2 h2=>
      split at h
      ·rename_i ht;subst ht;split at h
       ·rename_i i hi;split at h
        ·rename_i aa0;have:=ih tx vx vy b v1 v2 h h1 h2 w;simp only[jd,bG,run_underlying hu,bF,ne_eq,not_true_eq_false,if_false,typeInfo,hi];simp[hi,aa0,this]
        ·cases h
       ·cases h
      ·rename_i ht;cases h;simp[jd,run_underlying hu,ht]
   ·cases h
  ·rename_i fs hu;split at h
   ·cases h
   ·rename_i eX;split at h
    ·rename_i xs ys;cases hx with
     |agg _ jw ve=>
      cases hy with
      |agg _ nX Iz=>
       have hf:P.fieldsOf t=fs:=by simp[Program.fieldsOf,hu]
       rw[run_equalIn_struct w (d+m) t jw nX (by rw[hf];exact hu) (by simpa using eX),hf];exact VR ih fs.toList xs ys jw nX b h ve Iz w
    ·cases h
  ·rename_i n e hu;split at h
   ·rename_i xs ys;cases hx with
    |agg _ jw ve=>
     cases hy with
     |agg _ nX Iz=>
      obtain⟨i,hi⟩:=od.1 (uY t n e hu);simp only[jd,bG,run_underlying hu,bF,run_sizeOf hi];rw[Tt];simp only[Tu,Nat.sub_zero,Nat.add_sub_cancel,Nat.div_one,<-List.range_eq_range'];rw[VQ ih xs ys jw nX ve Iz (r9 n) b h w];cases b<;>rfl
   ·cases h
  ·cases h
end
end Go.AM
end
section
namespace Go.AM
open Go.RowKit
structure fz (P:Program):Prop where
 fields:∀t fs,P.underlying t=some (.struct fs)->∀f∈fs.toList,(P.info? f.type).isSome=true
 arr:∀t n e,P.underlying t=some (.array n e)->(P.info? e).isSome=true
 sl:∀t e,P.underlying t=some (.slice e)->(P.info? e).isSome=true
 mixed:P.follows .mixedOrders=true
 call:∀(f:Nat) (fn:Func),P.funcs[f]? =some fn->fn.body.isSome=true->fn.name≠ "runtime.NumGoroutine"
section
variable {P:Program} {V0 V:aM} {w0 w:World} {lam:j7} {env:Env} {U:St} {a:Act} {o:Oper} {next:Act->World->Prop} {Q:Exit->Act->World->Prop} {out:fH×St} {k:TV->Env->St->Out} {kp:AV->Env->St->Out}
theorem k7 {s:Sem Value} {u:Value} {w':World} (h:s.run P w=.ok u w'):(do pure (Next.value (<-s)):Sem Next).run P w=.ok (.value u) w':=by
 simp only[bG,h,bF,dh]
theorem ad1 {t:TypeId} {parts:Array (Nat×Operand)} (hP:fz P) (H:aR V0 w0 V lam env U a w) (hk:cQ V0 w0 a o.dst next out k) (ho:o.op=.build t parts)
  (hx:(match Af P t (parts.toList.map λp=>(p.1,env.get p.2))with|some x=>k (.v x) env U|none=>none)=some out):o.wp P a w next Q:=by
 split at hx
 ·rename_i x hb;have hp:=H.parts parts.toList;obtain⟨v,hv,hr⟩:=Ux (P:=P) (ps':=parts.map λ(i,x)=>(i,a.eval x)) (by simpa using hp) (hP.fields t) (hP.arr t) hb w;exact dX H hk (by simp[execOp,ho,hv]) (.v _ _ hr) hx
 ·cases hx
theorem adD {op:BinOp} {t:TypeId} {px py:Operand} {w:World} (eF:op=.eql\/op=.neq) (h:(Operand.const? px||Operand.const? py)=true):
  (eqGuard op t px py .nilIface .nilIface).run P w=.ok () w:=by
 rcases eF with rfl|rfl<;>cases px<;>cases py<;>simp_all [eqGuard,Operand.const?]
theorem Ui {op:BinOp} {t:TypeId} {x y:AV} {v u:Value} {px py:Operand} {kv:AV->Out} (hP:fz P) (hx:aN V x v) (hy:aN V y u) (w:World) (BE:tD px py x y=true) (h:nk P op t x y kv=some out):
  ∃r q,((do eqGuard op t px py v u;binOp op t v u:Sem Value)).run P w=.ok q w/\aN V r q/\kv r=some out:=by
 have aaO:∀k n,v=.int k n->(eqGuard op t px py v u).run P w=.ok () w:=by
  intro k n hv;subst hv;cases op<;>simp[eqGuard]
 have aaP:∀s,v=.string s->(eqGuard op t px py v u).run P w=.ok () w:=by
  intro s hv;subst hv;cases op<;>simp[eqGuard]
 unfold nk at h;split at h
 ·rename_i kx ax ky ay;cases hx;cases hy;split at h
  ·rename_i hc;split at h
   ·rename_i r hr;obtain⟨q,hq,h1,h2⟩:=abL (V:=V) hr w;refine⟨r,q,?_,hq,h⟩;simp only[bG,aaO _ _ rfl,bF];by_cases hs:op=.shl\/op=.shr
    ·exact h2 hs P ky t
    ·have hk:kx=ky:=by rcases hc with hc|hc|hc<;>first|exact hc|exact absurd hc (λe=>hs (by simp[e]))
     subst hk;exact h1 (λe=>hs (.inl e)) (λe=>hs (.inr e)) P t
   ·cases h
  ·cases h
 ·rename_i ax ay;cases hx;cases hy;split at h
  ·rename_i r hr;obtain⟨q,hq,h1⟩:=afo (P:=P) (V:=V) hr w t;exact⟨r,q,by simp only[bG,aaP _ rfl,bF,h1],hq,h⟩
  ·cases h
 ·rename_i ef fW;have main (b:Bool) (hf:ra P t=true) (he:cu P 100 t x y=some b) (eF:op=.eql\/op=.neq):
    ((do eqGuard op t px py v u;binOp op t v u:Sem Value)).run P w=.ok (.bool (if op=.eql then b else !b)) w:=by
   have bA:=Mf (P:=P) (m:=9900) hP.arr 100 t x y b v u he hx hy w;have hg:(eqGuard op t px py v u).run P w=.ok () w:=by
    have aaR:∀cs au,x=.agg cs->y=.agg au->P.eqGuardType P.depth t=false:=by
     intro cs au h1 h2;subst h1 h2;unfold cu at he;unfold ra at hf;cases hu:P.underlying t with
     |none=>rw[hu]at he;cases he
     |some d=>rw[hu]at he hf;cases d<;>first|(cases he;done)|simpa using hf
    have sW:x=.nilIface->y=.nilIface->(Operand.const? px||Operand.const? py)=true:=by
     intro h1 h2;subst h1 h2;simpa[tD]using BE
    cases hx<;>cases hy<;>rcases eF with rfl|rfl<;>first
     |(simp[eqGuard];done)
     |(simp[eqGuard,run_program,aaR _ _ rfl rfl];done)
     |exact adD (by first|exact .inl rfl|exact .inr rfl) (sW rfl rfl)
     |skip
    all_goals (unfold cu at he;cases hu:P.underlying t with|none=>rw[hu]at he;cases he|some d=>rw[hu]at he;cases d<;>first|(cases he;done)|(simp at he;done))
   have hb:(binOp op t v u).run P w=.ok (.bool (if op=.eql then b else !b)) w:=by
    have hq:(Op.equal t v u).run P w=.ok b w:=bA;cases hx with
    |int kx n=>cases hy<;>first|exact absurd rfl (ef _ _ _ _ rfl)|(unfold cu at he;cases hu:P.underlying t with|none=>rw[hu]at he;cases he|some d=>rw[hu]at he;cases d<;>first|(cases he;done)|(simp at he;done))
    |str s=>cases hy<;>first|exact absurd rfl (fW _ _ rfl)|(unfold cu at he;cases hu:P.underlying t with|none=>rw[hu]at he;cases he|some d=>rw[hu]at he;cases d<;>first|(cases he;done)|(simp at he;done))
    |_=>cases hy<;>rcases eF with rfl|rfl<;>first|(simp[binOp,hq];done)|(unfold cu at he;cases hu:P.underlying t with|none=>rw[hu]at he;cases he|some d=>rw[hu]at he;cases d<;>first|(cases he;done)|(simp at he;done))
   simp only[bG,hg,bF,hb]
  split at h
  ·split at h
   ·rename_i hf;split at h
    ·rename_i b hb;exact⟨_,_,by rw[main b hf hb (.inl rfl)],.bool _,by simpa using h⟩
    ·cases h
   ·cases h
  ·split at h
   ·rename_i hf;split at h
    ·rename_i b hb;exact⟨_,_,by rw[main b hf hb (.inr rfl)],.bool _,by simpa using h⟩
    ·cases h
   ·cases h
  ·cases h
theorem adZ {op:BinOp} {t t2:TypeId} {x y:Operand} (hP:fz P) (H:aR V0 w0 V lam env U a w) (hk:cQ V0 w0 a o.dst next out k) (ho:o.op=.binOp op t x y t2)
  (hx:(match env.get x with| .v p=>(match env.get y with| .v q=>cond (tD x y p q) (nk P op t p q (λr=>k (.v r) env U)) none|_=>none)|_=>none)=some out):o.wp P a w next Q:=by
 have h1:=H.get x;have h2:=H.get y;split at hx
 ·rename_i p hp;rw[hp]at h1;split at hx
  ·rename_i q hq;rw[hq]at h2;have hn:tD x y p q=true:=by
    cases hn:tD x y p q with
    |true=>rfl
    |false=>rw[hn]at hx;cases hx
   rw[hn]at hx;obtain⟨r,u,hu,hr,iJ⟩:=Ui (px:=x) (py:=y) hP h1.val h2.val w hn hx;exact dX H hk (by simp only[execOp,ho];exact k7 hu) (.v _ _ hr) iJ
  ·cases hx
 ·cases hx
theorem aet {op:UnOp} {t:TypeId} {x:Operand} (H:aR V0 w0 V lam env U a w) (hk:cQ V0 w0 a o.dst next out k) (ho:o.op=.unOp op t x)
  (hx:(match env.get x with| .v p=>tR op p (λr=>k (.v r) env U)|_=>none)=some out):o.wp P a w next Q:=by
 have h1:=H.get x;split at hx
 ·rename_i p hp;rw[hp]at h1;have hv:=h1.val;generalize cf:a.eval x=xv at hv;unfold tR at hx;split at hx
  ·cases hv;exact dX H hk (by simp[execOp,ho,cf,Op.unary,Op.intArith]) (.v _ _ (.int _ _)) hx
  ·cases hv;exact dX H hk (by simp[execOp,ho,cf,Op.unary,Op.intBits]) (.v _ _ (.int _ _)) hx
  ·cases hv;exact dX H hk (by simp[execOp,ho,cf,Op.unary]) (.v _ _ (.bool _)) hx
  ·cases hx
 ·cases hx
theorem rK {x:TV} {f:Int->Out} (h:fT x f=some out):∃kx n,x=.v (.int kx n)/\f n=some out:=by
 unfold fT at h;split at h
 ·exact⟨_,_,rfl,h⟩
 ·cases h
theorem OH {s:TypeId} {f:Nat} {fl:Field} (h:rj P s f=some fl):∃fs,P.underlying s=some (.struct fs)/\fs[f]? =some fl:=by
 unfold rj at h;split at h
 ·exact⟨_,‹_›,h⟩
 ·cases h
theorem afh {fl:Field} {i:TypeInfo} (hi:P.info? fl.type=some i) (hs:aE P fl.type≠0) (b o:Nat) (w:World):(fieldPlace ⟨b,o,none⟩ fl).run P w=.ok ⟨b,o+fl.offset,none⟩ w:=by
 simp only[fieldPlace,bG,run_sizeOf hi,bF,if_neg hs,dh,addr_add]
theorem ad8 {s:TypeId} {x:Operand} {f:Nat} (hP:fz P) (H:aR V0 w0 V lam env U a w) (hk:cQ V0 w0 a o.dst next out k) (ho:o.op=.fieldAddr s x f)
  (hx:(match rj P s f with
   |some fl=>if aE P fl.type=0 then none else match env.get x with
    | .lp key off=>k (.lp key (off+fl.offset)) env U
    | .gl g off=>k (.gl g (off+fl.offset)) env U
    | .v (.ptr (some (b,off)))=>k (.v (.ptr (some (b,off+fl.offset)))) env U
    |_=>none
   |none=>none)=some out):o.wp P a w next Q:=by
 have h1:=H.get x;split at hx
 ·rename_i fl uT;obtain⟨fs,hu,hf⟩:=OH uT;have qv:fl∈fs.toList:=by rw[<-p5]at hf;exact fF hf
  obtain⟨i,hi⟩:=od.1 (hP.fields s fs hu fl qv);split at hx
  ·cases hx
  ·rename_i hs;have bA (b off:Nat):(Instr.fieldAt s (.pointer (some ⟨b,off,none⟩)) f).run P w=.ok (.pointer (some ⟨b,off+fl.offset,none⟩)) w:=by
    simp only[Instr.fieldAt,r6,bG,run_underlying hu,bF,hf,dh,afh hi hs]
   generalize cf:a.eval x=xv at h1;split at hx
   ·rename_i key off hp;rw[hp]at h1;cases h1 with
    |lp _ _ blk hl=>exact dX H hk (by simp[execOp,ho,cf,bA]) (.lp _ _ _ hl) hx
   ·rename_i g off hp;rw[hp]at h1;cases h1 with
    |gl _ _=>exact dX H hk (by simp[execOp,ho,cf,bA]) (.gl _ _) hx
   ·rename_i b off hp;rw[hp]at h1;have hv:=h1.val;cases hv with
    |ptr _ _ e he=>
     refine dX H hk (v:=.pointer (some ⟨e.blk,e.off+off+fl.offset,none⟩)) (by simp[execOp,ho,cf,bA]) (.v _ _ ?_) hx;rw[eD];exact .ptr _ _ _ he
   ·cases hx
 ·cases hx
theorem ad7 {s:TypeId} {x:Operand} {f:Nat} (H:aR V0 w0 V lam env U a w) (hk:cQ V0 w0 a o.dst next out k) (ho:o.op=.field s x f)
  (hx:(match rj P s f with
   |some fl=>(match env.get x with| .v (.agg cs)=>dY P fl.type cs fl.offset (λy=>k (.v y) env U)|_=>none)
   |none=>none)=some out):o.wp P a w next Q:=by
 have h1:=H.get x;split at hx
 ·rename_i fl uT;obtain⟨fs,hu,hf⟩:=OH uT;split at hx
  ·rename_i cs hp;rw[hp]at h1;have hv:=h1.val;generalize cf:a.eval x=xv at hv;cases hv with
   |agg _ au hc=>
    obtain⟨y,hy,mN⟩:=rP hx;obtain⟨u,dk,hr⟩:=vD (P:=P) hy hc w;exact dX H hk (by simp[execOp,ho,cf,Instr.field,run_underlying hu,hf,asAgg,dk]) (.v _ _ hr) mN
  ·cases hx
 ·cases hx
theorem aea {t:TypeId} {x ix:Operand} (hP:fz P) (H:aR V0 w0 V lam env U a w) (hk:cQ V0 w0 a o.dst next out k) (ho:o.op=.indexAddr t x ix)
  (hx:fT (env.get ix) (λi=>
   match P.underlying t with
   |some (.array n e)=>if 0<=i/\i<n then match env.get x with
     | .lp key off=>k (.lp key (off+i.toNat*aE P e)) env U
     | .gl g off=>k (.gl g (off+i.toNat*aE P e)) env U
     | .v (.ptr (some (b,off)))=>k (.v (.ptr (some (b,off+i.toNat*aE P e)))) env U
     |_=>none
    else none
   |some (.slice e)=>match env.get x with
    | .ls key n=>if 0<=i/\i<n then k (.lp key (i.toNat*aE P e)) env U else none
    | .v (.slice (some (b,off)) n _ sz)=>if 0<=i/\i<n then(if sz=aE P e then k (.v (.ptr (some (b,off+i.toNat*aE P e)))) env U else none)else none
    |_=>none
   |_=>none)=some out):o.wp P a w next Q:=by
 obtain⟨kx,i,iI,hx⟩:=rK hx;have wK:=H.get ix;rw[iI]at wK;have Bv:=wK.val;generalize uU:a.eval ix=ixv at Bv;cases Bv with
 |int _ _=>
  have h1:=H.get x;split at hx
  ·rename_i n e hu;obtain⟨inf,eO⟩:=od.1 (hP.arr t n e hu);split at hx
   ·rename_i hb;have bA (b off:Nat):(Instr.indexAt t (.pointer (some ⟨b,off,none⟩)) (.int kx i)).run P w=.ok (.pointer (some ⟨b,off+i.toNat*aE P e,none⟩)) w:=by
     simp[Instr.indexAt,asIntOf,r6,run_underlying hu,hb,run_sizeOf eO,addr_add]
    generalize cf:a.eval x=xv at h1;split at hx
    ·rename_i key off hp;rw[hp]at h1;cases h1 with
     |lp _ _ blk hl=>exact dX H hk (by simp[execOp,ho,cf,uU,bA]) (.lp _ _ _ hl) hx
    ·rename_i g off hp;rw[hp]at h1;cases h1 with
     |gl _ _=>exact dX H hk (by simp[execOp,ho,cf,uU,bA]) (.gl _ _) hx
    ·rename_i b off hp;rw[hp]at h1;have hv:=h1.val;cases hv with
     |ptr _ _ en he=>
      refine dX H hk (v:=.pointer (some ⟨en.blk,en.off+off+i.toNat*aE P e,none⟩)) (by simp[execOp,ho,cf,uU,bA]) (.v _ _ ?_) hx;rw[eD];exact .ptr _ _ _ he
    ·cases hx
   ·cases hx
  ·rename_i e hu;obtain⟨inf,eO⟩:=od.1 (hP.sl t e hu);have bA (ad:Addr) (n c:Nat) (hb:0<=i/\i<n):(Instr.indexAt t (.slice (some ad) n c) (.int kx i)).run P w=.ok (.pointer (some (ad.add (i.toNat*aE P e)))) w:=by
    simp[Instr.indexAt,asIntOf,run_underlying hu,hb,run_sizeOf eO]
   generalize cf:a.eval x=xv at h1;split at hx
   ·rename_i key n hp;rw[hp]at h1;split at hx
    ·rename_i hb;cases h1 with
     |ls _ _ blk hl=>
      refine dX H hk (v:=.pointer (some ((⟨blk,0,none⟩:Addr).add (i.toNat*aE P e)))) (by simp[execOp,ho,cf,uU,bA _ _ _ hb]) ?_ hx;rw[addr_add,dI];exact .lp _ _ _ hl
    ·cases hx
   ·rename_i b off n cap sz hp;rw[hp]at h1;split at hx
    ·rename_i hb;split at hx
     ·rename_i cm;have hv:=h1.val;cases hv with
      |slice _ _ en _ _ _ ad c he ha gv hc gf hl=>
       have qq:=gv (by omega);subst qq;refine dX H hk (v:=.pointer (some ((⟨en.blk,en.off+off,none⟩:Addr).add (i.toNat*aE P e)))) (by simp[execOp,ho,cf,uU,bA _ _ _ hb]) (.v _ _ ?_) hx;rw[addr_add,eD];exact .ptr _ _ _ he
     ·cases hx
    ·cases hx
   ·cases hx
  ·cases hx
theorem ad9 {t:TypeId} {x ix:Operand} (hP:fz P) (H:aR V0 w0 V lam env U a w) (hk:cQ V0 w0 a o.dst next out k) (ho:o.op=.index t x ix)
  (hx:fT (env.get ix) (λi=>
   match P.underlying t with
   |some (.array n e)=>(match env.get x with
    | .v (.agg cs)=>if 0<=i/\i<n then dY P e cs (i.toNat*aE P e) (λy=>k (.v y) env U)else none
    |_=>none)
   |some .string=>(match env.get x with
    | .v (.str s)=>if 0<=i then match s[i.toNat]? with|some b=>k (.v (.int .u8 b.toNat)) env U|none=>none else none
    |_=>none)
   |_=>none)=some out):o.wp P a w next Q:=by
 obtain⟨kx,i,iI,hx⟩:=rK hx;have wK:=H.get ix;rw[iI]at wK;have Bv:=wK.val;generalize uU:a.eval ix=ixv at Bv;cases Bv with
 |int _ _=>
  have h1:=H.get x;split at hx
  ·rename_i n e hu;obtain⟨inf,eO⟩:=od.1 (hP.arr t n e hu);split at hx
   ·rename_i cs hp;rw[hp]at h1;have hv:=h1.val;generalize cf:a.eval x=xv at hv;split at hx
    ·rename_i hb;cases hv with
     |agg _ au hc=>
      obtain⟨y,hy,mN⟩:=rP hx;obtain⟨u,dk,hr⟩:=vD (P:=P) hy hc w;exact dX H hk (by simp[execOp,ho,cf,uU,Instr.index,asIntOf,run_underlying hu,hb,run_sizeOf eO,dk]) (.v _ _ hr) mN
    ·cases hx
   ·cases hx
  ·rename_i hu;split at hx
   ·rename_i s hp;rw[hp]at h1;have hv:=h1.val;generalize cf:a.eval x=xv at hv;split at hx
    ·rename_i hb;split at hx
     ·rename_i c hc;cases hv with
      |str _=>
       have hg:(⟨s.toArray⟩:ByteArray)[i.toNat]? =some c:=by
        have al:i.toNat<s.length:=(bl.1 hc).1;have he:s[i.toNat]=c:=(bl.1 hc).2;rw[getElem?_pos (⟨s.toArray⟩:ByteArray) i.toNat al];exact congrArg some he
       exact dX H hk (by simp[execOp,ho,cf,uU,Instr.index,asIntOf,run_underlying hu,hb,hg]) (.v _ _ (.int _ _)) hx
     ·cases hx
    ·cases hx
   ·cases hx
  ·cases hx
theorem ad6 {x:Operand} {i:Nat} (H:aR V0 w0 V lam env U a w) (hk:cQ V0 w0 a o.dst next out k) (ho:o.op=.extract x i)
  (hx:(match env.get x with
   | .v (.tuple vs)=>(match vs[i]? with|some y=>k (.v y) env U|none=>none)
   |_=>none)=some out):o.wp P a w next Q:=by
 have h1:=H.get x;split at hx
 ·rename_i vs hp;rw[hp]at h1;have hv:=h1.val;generalize cf:a.eval x=xv at hv;split at hx
  ·rename_i y hy;cases hv with
   |tuple _ au hc=>
    obtain⟨u,hu,hr⟩:=hc.get hy;rw[p5]at hu;exact dX H hk (by simp[execOp,ho,cf,Instr.extract,hu]) (.v _ _ hr) hx
  ·cases hx
 ·cases hx
theorem aeg {t:TypeId} {x:Operand} (H:aR V0 w0 V lam env U a w) (hk:cQ V0 w0 a o.dst next out k) (ho:o.op=.makeInterface t x)
  (hx:(match env.get x with
   | .v p=>(match P.underlying t with|some (.interface _)=>none|some _=>k (.v (.iface t p)) env U|none=>none)
   |_=>none)=some out):o.wp P a w next Q:=by
 have h1:=H.get x;split at hx
 ·rename_i p hp;rw[hp]at h1;split at hx
  ·cases hx
  ·rename_i d hn hu;refine dX H hk ?_ (.v _ _ (.iface t _ _ h1.val)) hx;simp only[execOp,ho];refine k7 ?_;simp only[Instr.makeInterface,bG,run_underlying hu,bF];rfl
  ·cases hx
 ·cases hx
theorem aek {x:Operand} (H:aR V0 w0 V lam env U a w) (hk:cQ V0 w0 a o.dst next out k) (ho:o.op=.nilCheck x)
  (hx:(match env.get x with
   | .lp key off=>k (.lp key off) env U
   | .gl g off=>k (.gl g off) env U
   | .v (.ptr (some ad))=>k (.v (.ptr (some ad))) env U
   | .v (.func (.func f) l c)=>k (.v (.func (.func f) l c)) env U
   |_=>none)=some out):o.wp P a w next Q:=by
 have h1:=H.get x;generalize cf:a.eval x=xv at h1;split at hx
 ·rename_i key off hp;rw[hp]at h1;cases h1 with
  |lp _ _ blk hl=>exact dX H hk (by simp[execOp,ho,cf]) (.lp _ _ _ hl) hx
 ·rename_i g off hp;rw[hp]at h1;cases h1 with
  |gl _ _=>exact dX H hk (by simp[execOp,ho,cf]) (.gl _ _) hx
 ·rename_i ad hp;rw[hp]at h1;have hv:=h1.val;cases hv with
  |ptr _ _ e he=>exact dX H hk (by simp[execOp,ho,cf]) (.v _ _ (.ptr _ _ _ he)) hx
 ·rename_i f l c hp;rw[hp]at h1;have hv:=h1.val;cases hv with
  |func _ _ _ l' c' hl hc=>exact dX H hk (by simp[execOp,ho,cf]) (.v _ _ (.func _ _ _ _ _ hl hc)) hx
 ·cases hx
end
end Go.AM
end
section
namespace Go.AM
open Go.RowKit
section
variable {P:Program} {V0 V:aM} {w0 w:World} {lam:j7} {env:Env} {U:St} {a:Act} {o:Oper} {next:Act->World->Prop} {Q:Exit->Act->World->Prop} {out:fH×St} {k:TV->Env->St->Out} {kp:AV->Env->St->Out}
theorem Mn (s:By) (l h:Nat):(⟨s.toArray⟩:ByteArray).extract l h=⟨((s.take h).drop l).toArray⟩:=by
 apply FR;simp[List.extract_eq_take_drop,List.drop_take]
theorem run_sliceBound {kx:IntKind} {n:Int} {y:Nat} (c:BoundsCode) (h:0<=n/\n<=y) (w:World):(Instr.sliceBound (.int kx n) y c).run P w=.ok n.toNat w:=by
 simp[Instr.sliceBound,asIntOf,h]
inductive zL (a:Act) (d:Int):Option Operand->Int->Prop
 |none:zL a d none d
 |some (x:Operand) (kx:IntKind) (n:Int) (h:a.eval x=.int kx n):zL a d (some x) n
theorem uy {x:Option Operand} {d:Int} {f:Int->Out} (H:aR V0 w0 V lam env U a w) (h:gN (x.map env.get) d f=some out):
  ∃n,zL a d x n/\f n=some out:=by
 cases x with
 |none=>exact⟨d,.none,h⟩
 |some x=>
  obtain⟨kx,n,hv,hf⟩:=rK h;have hx:=H.get x;rw[hv]at hx;have hr:=hx.val;generalize cf:a.eval x=xv at hr;cases hr with
  |int _ _=>exact⟨n,.some x kx n cf,hf⟩
theorem FB {lo hi:Option Operand} {l h:Int} {len cap:Nat} (isSlice:Bool) (hl:zL a 0 lo l) (hh:zL a len hi h) (h1:0<=l) (h2:l<=h) (h3:h<=(cap:Nat)) (_hlen:len<=cap) (w:World):
  (Instr.sliceBounds isSlice len cap (lo.map a.eval) (hi.map a.eval) none).run P w=.ok (l.toNat,h.toNat,cap) w:=by
 cases hl with
 |none=>
  cases hh with
  |none=>simp[Instr.sliceBounds]
  |some x kx n he=>
   have h4:(0<=h/\h<=(cap:Int)):=⟨by omega,h3⟩
   simp[Instr.sliceBounds,he,run_sliceBound _ h4]
 |some y ky m hy=>
  cases hh with
  |none=>
   have h5:(0<=l/\l<=(len:Int)):=⟨h1,h2⟩
   simp[Instr.sliceBounds,hy,run_sliceBound _ h5]
  |some x kx n he=>
   have h4:(0<=h/\h<=(cap:Int)):=⟨by omega,h3⟩
   have h5:(0<=l/\l<=(h.toNat:Int)):=⟨h1,by omega⟩
   simp[Instr.sliceBounds,he,hy,run_sliceBound _ h4,run_sliceBound _ h5]
theorem aeq {t:TypeId} {x:Operand} {lo hi:Option Operand} (hP:fz P) (H:aR V0 w0 V lam env U a w) (hk:cQ V0 w0 a o.dst next out k) (ho:o.op=.slice t x lo hi none)
  (hx:qM P t (env.get x) (lo.map env.get) (hi.map env.get) (λy=>k (.v y) env U)=some out):o.wp P a w next Q:=by
 unfold qM at hx;have h1:=H.get x;split at hx
 ·rename_i hu;split at hx
  ·rename_i s hp;rw[hp]at h1;have hv:=h1.val;generalize cf:a.eval x=xv at hv;obtain⟨h,hh,tf⟩:=uy H hx;obtain⟨l,hl,mP⟩:=uy H tf;split at mP
   ·rename_i hb;cases hv with
    |str _=>
     refine dX H hk (v:=.string ⟨((s.take h.toNat).drop l.toNat).toArray⟩) ?_ (.v _ _ (.str _)) mP;have cm:(⟨s.toArray⟩:ByteArray).size=s.length:=rfl;have po:=FB (P:=P) (len:=s.length) (cap:=s.length) false hl hh hb.1 hb.2.1 hb.2.2 (aA _) w;simp[execOp,ho,cf,Instr.sliceAt,Instr.slice,run_underlying hu,cm,po,Mn]
   ·cases mP
  ·cases hx
 ·rename_i e hu;obtain⟨inf,eO⟩:=od.1 (hP.sl t e hu);split at hx
  ·rename_i n cap sz hp;rw[hp]at h1;have hv:=h1.val;generalize cf:a.eval x=xv at hv;cases hv with
   |nslice _=>
    obtain⟨h,hh,tf⟩:=uy H hx;obtain⟨l,hl,mP⟩:=uy H tf;split at mP
    ·rename_i hb;have po:=FB (P:=P) (len:=0) (cap:=0) true hl hh hb.1 hb.2.1 hb.2.2 (aA _) w;have hz:l.toNat=0/\h.toNat=0:=by have:=hb.2.2;simp at this;omega
     refine dX H hk (v:=.slice none 0 0) ?_ (.v _ _ (.nslice _)) mP;simp[execOp,ho,cf,Instr.sliceAt,Instr.slice,run_underlying hu,po,run_sizeOf eO,hz.1,hz.2]
    ·cases mP
  ·rename_i b off n cap sz hp;rw[hp]at h1;have hv:=h1.val;generalize cf:a.eval x=xv at hv;split at hx
   ·rename_i cm;obtain⟨h,hh,tf⟩:=uy H hx;obtain⟨l,hl,mP⟩:=uy H tf;split at mP
    ·rename_i hb;cases hv with
     |slice _ _ en _ _ _ ad c he ha gv hc gf hlen=>
      have ahy:n<=cap.getD n/\cap.getD n<=c:=by
       cases cap with
       |none=>exact⟨aA _,hlen⟩
       |some c'=>have:=gf c' rfl;simp;omega
      have h3:h<=(c:Nat):=by have:=hb.2.2;omega
      have po:=FB (P:=P) (len:=n) (cap:=c) true hl hh hb.1 hb.2.1 h3 hlen w;refine dX H hk (v:=.slice (some (if c=l.toNat then ad else ad.add (l.toNat*aE P e))) (h.toNat-l.toNat) (c-l.toNat)) ?_ (.v _ _ ?_) mP
      ·simp only[execOp,ho];refine k7 ?_;simp only[Instr.sliceAt,Instr.slice,bG,run_underlying hu,bF,cf,Option.map_none,po,run_sizeOf eO,dh];split<;>rfl
      ·have wF:∀q,(ad.add q).block=ad.block:=λq=>by unfold Addr.add;split<;>rfl
       refine .slice b _ en _ _ sz _ _ he ?_ ?_ ?_ ?_ ?_
       ·split
        ·exact ha
        ·exact⟨by rw[wF];exact ha.1,by unfold Addr.add;split<;>first|exact ha.2|rfl⟩
       ·intro dR;have qq:=gv (by omega);rw[if_neg (by omega),qq,addr_add,cm,eD]
       ·have:(c-l.toNat)*sz+l.toNat*sz=c*sz:=by rw[<-jc];congr 1;omega
        omega
       ·intro c' mK;cases cap with
        |none=>cases mK
        |some c2=>cases mK;have:=gf c2 rfl;omega
       ·omega
    ·cases mP
   ·cases hx
  ·cases hx
 ·cases hx
theorem Ll:∀{cs:List AV} {s:By},bytesOf cs=some s->∀{vs:List Value},aQ V cs vs->∀(acc:ByteArray) (w:World),
  (forIn (m:=Sem) vs acc λc (r:ByteArray)=>match c with
   | .int .u8 n=>pure (Kf (r.push (UInt8.ofNat n.toNat)))
   |_=>do stuck "bytesToString: byte expected";pure (Kf r)).run P w=.ok (acc++⟨s.toArray⟩) w
 | [],s,h,vs,hv,acc,w=>by
  simp[bytesOf]at h;subst h;cases hv;simp only[List.forIn_nil,dh];congr 1;apply FR;simp
 |x::r,s,h,vs,hv,acc,w=>by
  cases x with
  |int kx n=>
   cases kx with
   |u8=>
    simp only[bytesOf]at h;split at h
    ·rename_i l hl;cases h;cases hv with
     |cons _ v _ S7 hx hr=>
      cases hx;simp only[List.forIn_cons,bG,dh,bF];rw[Ll hl hr];congr 1;apply FR;simp
    ·cases h
   |_=>simp[bytesOf]at h
  |_=>simp[bytesOf]at h
theorem Jr {b off n:Nat} {cs:List AV} {au:Array Value} {base:Nat} {ty:TypeId} {fr:Nat×Nat} (h1:w.heap[b]? =some (.cells au ty fr)) (h2:eZ V cs au base) (hl:off+n<=cs.length):
  ∃vs:List Value,vs.length=n/\aQ V ((cs.drop off).take n) vs/\(∀(j:Nat) v,vs[j]? =some v->w.cell? ⟨b,base+off+j,none⟩=some v)/\(∀v∈vs,v.oneCell'=true):=by
 have nA (j:Nat) (hj:j<n):∃x v,cs[off+j]? =some x/\au[base+off+j]? =some v/\aN V x v/\x.one=true:=by
  have al:off+j<cs.length:=by omega
  obtain⟨⟨v,hv,hr⟩,ho⟩:=h2 (off+j) cs[off+j] (by simp[al]);exact⟨_,v,by simp[al],by rw[eD];exact hv,hr,ho⟩
 refine⟨(r9 n).map λj=>au.getD (base+off+j) undef,by simp,aQ.zm (by simp;omega) ?_,?_,?_⟩
 ·intro i y hi;rw[List.getElem?_take]at hi;split at hi
  ·rename_i al;obtain⟨x,v,h3,h4,h5,_⟩:=nA i al;rw[List.getElem?_drop]at hi;rw[h3]at hi;cases hi;exact⟨v,by simp[al,h4],h5⟩
  ·cases hi
 ·intro j v hj;have al:j<n:=by
   rcases gu j n with h|h
   ·exact h
   ·rw[fP (by simpa using h)]at hj;cases hj
  obtain⟨x,u,h3,h4,h5,_⟩:=nA j al;simp[al,h4]at hj;subst hj;rw[cell_of_heap h1];exact h4
 ·intro v hv;obtain⟨j,hj,rfl⟩:=nZ.1 hv;obtain⟨x,u,h3,h4,h5,h6⟩:=nA j (by simpa using hj);simp only[Array.getD_eq_getD_getElem?,h4,qb];rw[h5.one];exact h6
theorem Cd {b off n sz m:Nat} {cap:On} {cs:List AV} {ad:Addr} {c:Nat} (H:R V U w) (hv:aN V (.slice (some (b,off)) n cap sz) (.slice (some ad) n c)) (bg:aF U b=some cs) (hm:m<=n*sz) (hl:off+m<=cs.length):
  ∃vs:List Value,vs.length=m/\aQ V ((cs.drop off).take m) vs/\(∀(j:Nat) v,vs[j]? =some v->w.cell? (ad.add j)=some v)/\(∀v∈vs,v.oneCell'=true):=by
 cases hv with
 |slice _ _ en _ _ _ _ _ he ha gv hc gf hlen=>
  obtain⟨wr,hs⟩:=CS bg;obtain⟨e',bn,au,ty,fr,h1,h2,_⟩:=H.obj b _ hs;rw[he]at bn;cases bn;obtain⟨vs,g1,g2,g3,g4⟩:=Jr (V:=V) (w:=w) (off:=off) (n:=m) h1 h2 hl;refine⟨vs,g1,g2,λj v hj=>?_,g4⟩;have dR:0<c:=by
   have al:j<vs.length:=(bl.1 hj).1;rcases Nat.eq_zero_or_pos c with h0|h0
   ·have:n=0:=by omega
    subst this;simp at hm;omega
   ·exact h0
  rw[gv dR,addr_add];exact g3 j v hj
theorem Vq {s d:TypeId} {x:AV} {v:Value} {kv:AV->St->Out} (H:aR V0 w0 V lam env U a w) (hv:aN V x v) (h:kj P s d U x kv=some out):
  ∃r u,(convert s d v).run P w=.ok u w/\aN V r u/\kv r U=some out:=by
 unfold kj at h;split at h
 ·rename_i ds kd jn jm;split at h
  ·cases hv;exact⟨_,_,by simp[convert,run_underlying jn,run_underlying jm,Conv.intToInt],.int _ _,h⟩
  ·cases h
 ·rename_i e jn jm;split at h
  ·rename_i vb;split at h
   ·cases hv;refine⟨_,_,?_,.str [],h⟩;simp[convert,run_underlying jn,run_underlying jm,run_underlying vb,Conv.bytesToString];rfl
   ·rename_i b off n cap;split at h
    ·rename_i cs bg;split at h
     ·rename_i hl;split at h
      ·rename_i bs wG;refine⟨_,_,?_,.str bs,h⟩;have rC:=hv;cases hv with
       |slice _ _ en _ _ _ ad c he ha gv hc gf hlen=>
        obtain⟨vs,g1,g2,g3,g4⟩:=Cd H.r rC bg (m:=n) (by omega) hl;have kA:=run_loadCells_list (P:=P) w ad vs g3;rw[g1]at kA;have hf:=Ll wG g2 .empty w (P:=P);simp only[convert,bG,run_underlying jn,run_underlying jm,run_underlying vb,bF,Conv.bytesToString,kA];rw[List.forIn_toArray];refine Eq.trans (congrArg (λq:Result ByteArray=>q.andThen λa w'=>Sem.run P (pure (Value.string a)) w') hf) ?_;simp only[bF,dh];congr 2
      ·cases h
     ·cases h
    ·cases h
   ·cases h
  ·cases h
 ·rename_i ds bD jn jm;split at h
  ·cases hv;refine⟨_,_,?_,.str _,h⟩;simp only[convert,bG,run_underlying jn,run_underlying jm,bF];rfl
  ·cases h
 ·cases h
theorem ad5 {s d:TypeId} {x:Operand} (H:aR V0 w0 V lam env U a w) (hk:cQ V0 w0 a o.dst next out k) (ho:o.op=.convert s d x)
  (hx:(match env.get x with| .v p=>kj P s d U p (λr U'=>k (.v r) env U')|_=>none)=some out):o.wp P a w next Q:=by
 have h1:=H.get x;split at hx
 ·rename_i p hp;rw[hp]at h1;obtain⟨r,u,hu,hr,iJ⟩:=Vq H h1.val hx;exact dX H hk (by simp only[execOp,ho];exact k7 hu) (.v _ _ hr) iJ
 ·cases hx
theorem Tj {z:List AV} {z':Array Value} (hz:aQ V z z'.toList):∀n,aQ V (eT z n) ((Array.range (n*z'.size)).map (λi=>z'[i%z'.size]!)).toList:=by
 intro n;have cm:z.length=z'.size:=by simpa using hz.length
 have hlen:∀n,(eT z n).length=n*z.length:=by
  intro n
  induction n with
  |zero=>simp[eT]
  |succ n ih=>simp[eT,ih,jc];omega
 have nA:∀n i,i<n*z.length->(eT z n)[i]? =z[i%z.length]?:=by
  intro n
  induction n with
  |zero=>intro i hi;omega
  |succ n ih=>
   intro i hi;rw[jc,sg]at hi;by_cases al:i<z.length
   ·rw[eT,bO al,Nat.mod_eq_of_lt al]
   ·rw[eT,bQ (by omega),ih (i-z.length) (by omega)];congr 1;rw[<-Nat.mod_eq_sub_mod (by omega)]
 refine aQ.zm (by simp[hlen,cm]) λi x hi=>?_;have al:i<n*z.length:=by
  rw[<-hlen];rcases gu i (eT z n).length with h|h
  ·exact h
  ·rw[fP h]at hi;cases hi
 rw[nA n i al]at hi;obtain⟨v,hv,hr⟩:=hz.get hi;refine⟨v,?_,hr⟩;have Ib:i%z.length<z.length:=Nat.mod_lt _ (Nat.pos_of_ne_zero λh=>by rw[h]at al;omega);rw[p5]at hv;rw[cm]at hv Ib al;simp only[Array.toList_map,gI,Array.toList_range];rw[List.getElem?_range al];simp only[je];rw[getElem!_pos z' (i%z'.size) Ib];rw[Array.getElem?_eq_getElem Ib]at hv;exact hv
theorem ag0 (z:List AV) (n:Nat):(eT z n).length=n*z.length:=by
 induction n with
 |zero=>simp[eT]
 |succ n ih=>simp[eT,ih,jc];omega
theorem OI {place:Nat->Ad}:∀{ps:List (Nat×TV)} {cs r:List AV},kq place cs ps=some r->r.length=cs.length
 | [],cs,r,h=>by simp[kq]at h;subst h;rfl
 |(i,t)::ps,cs,r,h=>by
  cases t with
  |v x=>
   simp only[kq]at h;split at h
   ·cases h
   ·split at h
    ·rw[OI h,zy]
    ·cases h
  |_=>simp[kq]at h
theorem ad2 {t:TypeId} {n:Nat} {parts:Array (Nat×Operand)} {loc:Bool} (H:aR V0 w0 V lam env U a w) (hk:cQ V0 w0 a o.dst next out k) (ho:o.op=.buildSlice t n parts)
  (hx:(match P.underlying t with
  |some (.slice e)=>
   match zeroOf P e with
   |some z=>
    if z.cells.length=aE P e/\n*aE P e<=16777216 then
     match kq (λi=>some (i*aE P e,aE P e)) (eT z.cells n) (parts.toList.map λp=>(p.1,env.get p.2))with
     |some cs=>
      if cs.all AV.one then
       match loc,o.dst with
       |true,some d=>k (.ls d n) (env.pQ d cs) U
       |_,_=>k (.v (.slice (some (U.length,0)) n (some n) (aE P e))) env (U++[.cells cs (.rw (.row e))])
      else none
     |none=>none
    else none
   |none=>none
  |_=>none)=some out):o.wp P a w next Q:=by
 split at hx
 ·rename_i e hu;split at hx
  ·rename_i z hz;split at hx
   ·rename_i hc;split at hx
    ·rename_i cs hf;split at hx
     ·rename_i bX;obtain⟨zv,nN,oK⟩:=xy (P:=P) hz V w;have vf:zv.cells.size=aE P e:=by have:=oK.cells.length;simp at this;omega
      obtain⟨inf,eO⟩:∃i,P.info? e=some i:=by
       unfold zeroOf at hz;split at hz
       ·exact⟨_,‹_›⟩
       ·cases hz
      have Qj:=Tj oK.cells n;rw[vf]at Qj;obtain⟨r',gy,nM⟩:=DW (H.parts parts.toList) Qj hf;have hlen:cs.length=n*aE P e:=by rw[OI hf,ag0,hc.1]
      have ma:(parts.map λ(i,x)=>(i,a.eval x)).toList=parts.toList.map λp=>(p.1,a.eval p.2):=by simp
      have bA:(execOp a.eval o).run P w=.ok (.value (.slice (some ⟨w.heap.size,0,none⟩) n n)) (w.alloc (.cells r' e)):=by
       simp only[execOp,ho];refine k7 ?_;have h24:¬(n*aE P e>2^24):=by omega
       simp only[Instr.buildSlice,bG,run_underlying hu,bF,run_sizeOf eO,if_neg h24,dh];by_cases h0:n*aE P e=0
       ·have mQ:(Array.range (n*aE P e)).map (λi=>zv.cells[i%aE P e]!)=(Array.range (n*aE P e)).map (λi=>(#[]:Array Value)[i%(#[]:Array Value).size]!):=by
         rw[h0];simp
        rw[mQ]at gy;rw[<-ma]at gy;simp only[if_pos h0,dh,bF,gy,newRow,bG,run_newObj];rfl
       ·rw[<-ma]at gy;rw[<-vf]at gy;simp only[if_neg h0,bG,nN,bF,dh];rw[<-vf];simp only[gy,newRow,bG,run_newObj,bF,dh];rfl
      have hg:e8 w (w.alloc (.cells r' e)) (.cells r' e):=e8.alloc _ _;have abz:r'.size=n*aE P e:=by have:=nM.length;simp at this;omega
      split at hx
      ·rename_i d _;exact lx bA (hk _ _ _ _ _ _ _ (H.pQ hg nM bX d) (.ls _ _ _ (if_pos rfl)) hx)
      ·have hS:=H.E8 hg (eZ.zn nM bX) (by omega) (t:=.row e) rfl;refine lx bA (hk _ _ _ _ _ _ _ hS (.v _ _ ?_) hx);exact .slice U.length 0 ⟨w.heap.size,0,r'.size,true⟩ n (some n) (aE P e) _ n (mi _ _ _) ⟨rfl,rfl⟩ (λ_=>rfl) (by simp[abz]) (λc' h=>by cases h;rfl) (aA _)
     ·cases hx
    ·cases hx
   ·cases hx
  ·cases hx
 ·cases hx
theorem afP {isStr:Bool} {size:Nat} {x:TV} {v:Value} {t2:TypeId} {f:Nat->List AV->Out} (H:aR V0 w0 V lam env U a w) (hr:fI V lam x v)
  (hk:(isStr=false/\∃e',P.underlying t2=some (.slice e'))\/(isStr=true/\P.underlying t2=some .string)) (h:kJ isStr env U size x f=some out):
  ∃n new news,f n new=some out/\aQ V new news/\Src P size t2 v n news w:=by
 unfold kJ at h;split at h
 ·rename_i key n;obtain⟨e',hu⟩:∃e',P.underlying t2=some (.slice e'):=by rcases hk with⟨_,h⟩|⟨h,_⟩<;>first|exact h|cases h
  split at h
  ·rename_i cs bg;split at h
   ·rename_i hn;cases hr with
    |ls _ _ blk hl=>
     obtain⟨CJ,bZ,au,ty,fr,h1,h2,h3,_,_⟩:=H.locs key cs bg;rw[hl]at bZ;cases bZ;obtain⟨vs,g1,g2,g3,g4⟩:=Jr (V:=V) (w:=w) (off:=0) (n:=cs.length) h1 h2 (by omega);rw[iy,j8]at g2;refine⟨n,cs,vs,h,g2,Src.ofSlice w hu _ n n vs (by omega) (λj u hj=>?_) g4⟩;rw[addr_add];simpa using g3 j u hj
   ·cases h
  ·cases h
 ·rename_i s;obtain hu:P.underlying t2=some .string:=by rcases hk with⟨h,_⟩|⟨_,h⟩<;>first|exact h|cases h
  split at h
  ·rename_i hs;subst hs;have hv:=hr.val;cases hv with
   |str _=>
    have hs:=Src.ofString (P:=P) w hu ⟨s.toArray⟩;refine⟨s.length,_,byteCells ⟨s.toArray⟩,h,aQ.zm (by rw[byteCells_length];simp;rfl) λi x hi=>?_,hs⟩;rw[gI]at hi;cases hb:s[i]? with
    |none=>rw[hb]at hi;cases hi
    |some b=>rw[hb]at hi;cases hi;exact⟨_,by simp[byteCells,hb],.int _ _⟩
  ·cases h
 ·obtain⟨e',hu⟩:∃e',P.underlying t2=some (.slice e'):=by rcases hk with⟨_,h⟩|⟨h,_⟩<;>first|exact h|cases h
  have hv:=hr.val;cases hv with
  |nslice _=>exact⟨0,[],[],h,.nil,Src.ofNil w hu 0⟩
 ·rename_i b off n cap sz;obtain⟨e',hu⟩:∃e',P.underlying t2=some (.slice e'):=by rcases hk with⟨_,h⟩|⟨h,_⟩<;>first|exact h|cases h
  split at h
  ·rename_i cm;split at h
   ·rename_i cs bg;split at h
    ·rename_i hl;have hv:=hr.val;have rC:=hv;cases hv with
     |slice _ _ en _ _ _ ad c he ha gv hc gf hlen=>
      obtain⟨vs,g1,g2,g3,g4⟩:=Cd H.r rC bg (m:=n*size) (by rw[cm];exact aA _) hl;exact⟨n,_,vs,h,g2,Src.ofSlice w hu ad n c vs g1 g3 g4⟩
    ·cases h
   ·cases h
  ·cases h
 ·cases h
theorem R.kill (h:R V U w) (b:Nat):R V (U.set b .dead) w:=by
 have side (b':Nat) (o':aq) (hb:(U.set b .dead)[b']? =some o'):o'=.dead/\b'<U.length\/U[b']? =some o':=by
  by_cases ie:b=b'
  ·subst ie;have al:b<U.length:=by
    rcases gu b U.length with h'|h'
    ·exact h'
    ·rw[fP (by simpa using h')]at hb;cases hb
   rw[cM al]at hb;cases hb;exact .inl ⟨rfl,al⟩
  ·rw[aD ie]at hb;exact .inr hb
 refine⟨λb' h'=>by simpa using h.dom b' h',h.lt,λb' o' hb=>?_,λb1 b2 o1 o2 e1 e2 h1 h2 dC bW fS dj=>?_⟩
 ·rcases side b' o' hb with⟨rfl,al⟩|bZ
  ·rcases h.obj_ b' U[b'] (by simp[al])with⟨e,he,_⟩|⟨_,he⟩
   ·exact .inl ⟨e,he,trivial⟩
   ·exact .inr ⟨rfl,he⟩
  ·exact h.obj_ b' o' bZ
 ·rcases side b1 o1 h1 with⟨rfl,_⟩|mI
  ·cases fS
  ·rcases side b2 o2 h2 with⟨rfl,_⟩|uQ
   ·cases dj
   ·exact h.inj b1 b2 o1 o2 e1 e2 mI uQ dC bW fS dj
theorem R.Ko (h:R V U w) {o':aq} {e e':gp} {b:Nat} (he:V b=some e) (hw:e.wr=true) (uS:e'.blk=e.blk) (ho:lH (V.push U.length e') w o' e')
  (dW:∀b2 o2 e2,U[b2]? =some o2->o2.live=true->V b2=some e2->e2.blk≠e.blk):R (V.push U.length e') (U++[o']) w/\Ext V (V.push U.length e') w:=by
 have hf:=h.fresh;have hle:=aM.rQ (e:=e') hf;have old (b:Nat) (hb:b≠U.length):V.push U.length e' b=V b:=by unfold aM.push;rw[if_neg hb]
 have new:V.push U.length e' U.length=some e':=mi _ _ _;have JK (b1:Nat) (o1:aq) (h1:(U++[o'])[b1]? =some o1):b1=U.length/\o1=o'\/b1≠U.length/\U[b1]? =some o1:=by
  by_cases aP:b1=U.length
  ·left;subst aP;rw[bQ (aA _)]at h1;simp at h1;exact⟨rfl,h1.symm⟩
  ·right;have al:b1<U.length:=by
    rcases gu b1 U.length with h'|h'
    ·exact h'
    ·rw[fP (by simp;omega)]at h1;cases h1
   rw[bO al]at h1;exact⟨aP,h1⟩
 refine⟨⟨λb hb=>?_,λb e2 hb=>?_,λb o2 hb=>?_,λb1 b2 o1 o2 e1 e2 h1 h2 dC bW fS dj fY oE=>?_⟩,⟨hle,λb2 e2 hb hn=>?_⟩⟩
 ·by_cases aP:b=U.length
  ·subst aP;simp
  ·rw[old b aP]at hb;have:=h.dom b hb;simp;omega
 ·by_cases aP:b=U.length
  ·subst aP;rw[new]at hb;cases hb;rw[uS];exact h.lt _ _ he
  ·rw[old b aP]at hb;exact h.lt b e2 hb
 ·rcases JK b o2 hb with⟨rfl,rfl⟩|⟨aP,bZ⟩
  ·exact .inl ⟨e',new,ho⟩
  ·exact(h.obj_ b o2 bZ).imp (λ⟨e2,bW,nJ⟩=>⟨e2,hle _ _ bW,nJ.mono hle⟩) λ⟨h1,h2⟩=>⟨h1,by rw[old b aP];exact h2⟩
 ·rcases JK b1 o1 h1 with⟨rfl,rfl⟩|⟨Pe,mI⟩<;>rcases JK b2 o2 h2 with⟨rfl,rfl⟩|⟨Pf,uQ⟩
  ·rfl
  ·rw[new]at dC;cases dC;rw[old b2 Pf]at bW;exact absurd (oE.trans uS) (dW b2 o2 e2 uQ dj bW)
  ·rw[new]at bW;cases bW;rw[old b1 Pe]at dC;exact absurd (oE.symm.trans uS) (dW b1 o1 e1 mI fS dC)
  ·rw[old b1 Pe]at dC;rw[old b2 Pf]at bW;exact h.inj b1 b2 o1 o2 e1 e2 mI uQ dC bW fS dj fY oE
 ·right;by_cases aP:b2=U.length
  ·subst aP;rw[new]at hb;cases hb;exact⟨b,e,he,uS.symm,hw⟩
  ·rw[old b2 aP,hn]at hb;cases hb
theorem R3 {b:Nat} {ty:TypeId} {fr:Nat×Nat}:∀(vs:List Value) (off:Nat) (au:Array Value) (w:World),w.heap[b]? =some (.cells au ty fr)->
  ∃dA,qd w (w.setCells b off vs) b (.cells dA ty fr)/\dA.size=au.size/\(∀j,j<vs.length->off+j<au.size->dA[off+j]? =vs[j]?)/\(∀j,(j<off\/off+vs.length<=j)->dA[j]? =au[j]?)
 | [],off,au,w,h=>⟨au,⟨rfl,rfl,rfl,rfl,h,λ_ _=>rfl⟩,rfl,λj hj=>by simp at hj,λ_ _=>rfl⟩
 |v::r,off,au,w,h=>by
  have hu:=FF h off v;obtain⟨dA,h1,h2,h3,h4⟩:=R3 r (off+1) (au.setIfInBounds off v) (w.setCell ⟨b,off,none⟩ v) hu.at_;refine⟨dA,⟨h1.os,h1.tape,h1.output,h1.size.trans hu.size,h1.at_,λk hk=>(h1.other k hk).trans (hu.other k hk)⟩,by simpa using h2,λj hj al=>?_,λj hj=>?_⟩
  ·cases j with
   |zero=>
    rw[h4 (off+0) (.inl (by omega))];simp only[mw]at al|-;rw[Array.getElem?_setIfInBounds_self_of_lt al];simp
   |succ j=>
    have:=h3 j (by simpa using hj) (by simp;omega);rw[show off+(j+1)=off+1+j from by omega,this];simp
  ·have nC:j<off+1\/off+1+r.length<=j:=by simp at hj;omega
   rw[h4 j nC];rw[vT (by simp at hj;omega)]
theorem Qu {t:Mk} {e ty:TypeId} {off n n':Nat} (h:t.ok ty off n n') (adO m m':Nat):(iq t e).ok ty adO m m':=by
 unfold iq;split
 ·rename_i he;subst he;exact h
 ·trivial
theorem ab5 (t:Mk) (e:TypeId) (off n n':Nat):(iq t e).ok e off n n':=by
 unfold iq;split
 ·rename_i he;subst he;rfl
 ·trivial
theorem TP {isStr:Bool} {t t2 ty e:TypeId} {ts tx:TV} {vs vx:Value} {kv:AV->St->Out} (H:aR V0 w0 V lam env U a w) (hu:P.underlying t=some (.slice e)) (hz:oU P e=true)
  (hk:(isStr=false/\∃e',P.underlying t2=some (.slice e'))\/(isStr=true/\P.underlying t2=some .string)) (hs:fI V lam ts vs) (hx:fI V lam tx vx)
  (h0:pb isStr e (aE P e) (jh P e) env U ts tx kv=some out):
  ∃V' x v U' w',(Builtin.append_ #[t,t2] ty #[vs,vx]).run P w=.ok v w'/\aR V0 w0 V' lam env U' a w'/\aN V' x v/\kv x U'=some out:=by
 unfold pb at h0;obtain⟨n,new,news,h,dc,fX⟩:=afP H hx hk h0;clear h0;obtain⟨inf,z,eO,hzero,vf⟩:∃inf z,P.info? e=some inf/\inf.zero=some z/\z.cells.size=inf.size:=by
  unfold oU at hz;split at hz
  ·rename_i z mQ;obtain⟨v,hv,hr⟩:=xy (P:=P) mQ V w;unfold zeroOf at mQ;split at mQ
   ·rename_i inf eO;split at mQ
    ·rename_i zv nN;refine⟨inf,zv,eO,nN,?_⟩;have sX:=Fg (V:=V) mQ;have:=sX.cells.length;simp[aE,eO]at hz this;omega
    ·cases mQ
   ·cases mQ
  ·cases hz
 have cm:aE P e=inf.size:=by simp[aE,eO]
 have fe:jh P e=inf.bytes:=by simp[jh,eO]
 rw[cm,fe]at h;rw[cm]at fX;have yW:∀k,(xL z.cells k).size=k*inf.size:=λk=>by simp[xL,vf]
 split at h
 ·have hv:=hs.val;cases hv with
  |nslice _=>
   split at h
   ·rename_i hn;subst hn;have BE:news=[]:=by have:=fX.newsLen;simpa using this
    subst BE;exact⟨V,_,_,U,w,run_append_nothing w t t2 ty e inf hu eO none 0 0 (aA _) vx fX,H,.nslice _,h⟩
   ·rename_i hn;split at h
    ·rename_i Ef;have bA:=run_append_grow_src (P:=P) w t t2 ty e inf z hu eO hzero none 0 0 [] (run_firstCells_none _ _ _ _ _) vx n news fX (by omega) (by omega)
      (growslice_fits (by omega) (by simpa using Ef.1))
     simp only[dI,fx]at bA;have hg:e8 w (w.drew.alloc (.cells (news.toArray++xL z.cells (grownCap w n 0 e-n)) e)) (.cells (news.toArray++xL z.cells (grownCap w n 0 e-n)) e):=e8.GD _ _;have wO:=dc.length;have sP:eZ V new (news.toArray++xL z.cells (grownCap w n 0 e-n)) 0:=by
      intro i x hi;obtain⟨v,hv,hr⟩:=dc.get hi;have al:i<news.length:=(bl.1 hv).1;refine⟨⟨v,by rw[dI,Array.getElem?_append_left (by simpa using al)];simpa using hv,hr⟩,?_⟩;rw[<-hr.one];exact fX.one v (fF hv)
     have yO:n*inf.size+(grownCap w n 0 e-n)*inf.size=grownCap w n 0 e*inf.size:=by
      rw[<-jc];congr 1;have:=grownCap_ge w n 0 e;omega
     have hS:=H.E8 hg sP (by simp;omega) (t:=.row e) rfl;refine⟨_,_,_,_,_,bA,hS,?_,h⟩;exact .slice U.length 0 ⟨w.heap.size,0,_,true⟩ n none inf.size _ (grownCap w n 0 e) (mi _ _ _) ⟨rfl,rfl⟩ (λ_=>rfl) (by have:=fX.newsLen;simp[yW];omega) (λc' h=>by cases h) (grownCap_ge w n 0 e)
    ·cases h
 ·rename_i b off len cap sz;have hv:=hs.val;split at h
  ·rename_i Ir;split at h
   ·rename_i cs wt bg;split at h
    ·rename_i hl;split at h
     ·rename_i Ef;have rC:=hv;cases hv with
      |slice _ _ en _ _ _ ad c he ha gv hc gf hlen=>
       subst Ir;obtain⟨e',bn,ff⟩:=H.r.obj b _ bg;rw[he]at bn;cases bn;obtain⟨au,C4,fr,h1,h2,h3,h4,h5⟩:=ff;obtain⟨hw,ij,eH⟩:=h5 _ rfl;obtain⟨olds,g1,g2,g3,g4⟩:=Cd H.r rC (cs:=cs) (by simp[aF,bg]) (m:=len*inf.size) (aA _) hl;have PV:∀b2 o2 e2,(U.set b .dead)[b2]? =some o2->o2.live=true->V b2=some e2->e2.blk≠en.blk:=by
        intro b2 o2 e2 bR dj bW pw;by_cases ie:b=b2
        ·subst ie;have al:b<U.length:=(bl.1 bg).1;rw[cM al]at bR;cases bR;cases dj
        ·rw[aD ie]at bR;exact ie (H.r.inj b b2 _ o2 en e2 bg bR he bW rfl dj hw pw).symm
       by_cases yO:len+n<=c
       ·
        have ahv:ad=⟨en.blk,ad.off,none⟩:=by cases ad;simp at ha;simp[ha.1,ha.2]
        rcases Nat.eq_zero_or_pos c with ku|aa3
        ·have Ie:n=0:=by omega
         have nG:len=0:=by omega
         subst Ie;have BE:news=[]:=by have:=fX.newsLen;simpa using this
         subst BE;have bA:=run_append_nothing (P:=P) w t t2 ty e inf hu eO (some ad) len c hlen vx fX;have uW:new=[]:=by have:=dc.length;simpa using this
         subst uW;obtain⟨hR,hE⟩:=(H.r.kill b).Ko (o':=.cells ((cs.drop off).take (len*inf.size)++[]) (.rw (iq wt e))) (e':=⟨en.blk,en.off+off,0,true⟩) he hw rfl
          ⟨au,C4,fr,h1,by intro i x hi;subst nG;simp at hi,by subst nG;simp,by simp;omega,λt1 h1=>by cases h1;exact⟨rfl,λj hj nC=>by simp at hj nC;omega,Qu eH _ _ _⟩⟩ PV
         simp only[iA]at hR hE;refine⟨_,_,_,_,_,bA,H.step hR hE (Fr.refl _ _),?_,h⟩;exact .slice U.length 0 ⟨en.blk,en.off+off,0,true⟩ _ none inf.size ad c (mi _ _ _) ha (λh=>by omega) (by simp[ku]) (λc' h=>by cases h) (by omega)
        ·have qq:=gv aa3;subst qq;have hmul:(len+n)*inf.size<=c*inf.size:=vX _ yO;rw[jc]at hmul;have wO:news.length=n*inf.size:=fX.newsLen;have bA:=run_append_room_src (P:=P) w t t2 ty e inf hu eO en.blk (en.off+off) len c vx n news fX yO
          (λj hj=>by rw[cell_of_heap h1];simp;omega)
          (λj hj=>by
           rw[frozen_of_heap h1];have:=ij (en.off+off+len*inf.size+j) (by omega) (by omega);simp only[Bool.and_eq_false_iff,decide_eq_false_iff_not];omega)
         obtain⟨dA,eu,pF,cE,Ij⟩:=R3 (b:=en.blk) news (en.off+off+len*inf.size) au w h1;have hR1:=H.r.vO (o':=.dead) bg he hw rfl eu trivial;have sP:eZ V ((cs.drop off).take (len*inf.size)++new) dA (en.off+off):=by
          intro i x hi;have dr:((cs.drop off).take (len*inf.size)).length=len*inf.size:=by simp;omega
          by_cases al:i<len*inf.size
          ·rw[bO (by omega),List.getElem?_take,if_pos al,List.getElem?_drop]at hi;obtain⟨⟨v,hv,hr⟩,ho⟩:=h2 (off+i) x hi;refine⟨⟨v,?_,hr⟩,ho⟩;rw[Ij _ (.inl (by omega)),eD];exact hv
          ·rw[bQ (by omega),dr]at hi;obtain⟨v,hv,hr⟩:=dc.get hi;have oH:i-len*inf.size<news.length:=(bl.1 hv).1;refine⟨⟨v,?_,hr⟩,?_⟩
           ·have:=cE (i-len*inf.size) oH (by omega);rw[show en.off+off+i=en.off+off+len*inf.size+(i-len*inf.size)from by omega,this];exact hv
           ·rw[<-hr.one];exact fX.one v (fF hv)
         have PR:=dc.length;obtain⟨hR,hE⟩:=hR1.Ko (o':=.cells ((cs.drop off).take (len*inf.size)++new) (.rw (iq wt e))) (e':=⟨en.blk,en.off+off,en.room-off,true⟩) he hw rfl
          ⟨dA,C4,fr,eu.at_,by simp only[iA];exact sP.mono (aM.rQ H.r.fresh),by simp;omega,by simp;omega,λt1 h1=>by cases h1;exact⟨rfl,λj hj nC=>by simp at hj nC;exact ij j (by omega) (by omega),Qu eH _ _ _⟩⟩ PV
         simp only[iA]at hR hE;have fL:=eu.fr he hw;refine⟨_,_,_,_,_,bA,H.step hR ⟨hE.le,λb e hb hn=>?_⟩ fL,?_,h⟩
         ·rcases hE.new b e hb hn with h'|h'
          ·exact .inl (by rw[eu.size]at h';exact h')
          ·exact .inr h'
         ·refine .slice U.length 0 ⟨en.blk,en.off+off,en.room-off,true⟩ _ none inf.size _ c (mi _ _ _) ⟨rfl,rfl⟩ (λ_=>by simp) ?_ (λc' h=>by cases h) yO;simp;omega
       ·
        have hold:(Builtin.firstCells inf.size len (.slice (some ad) len c)).run P w.drew=.ok olds.toArray w.drew:=by
         exact run_firstCells_some w.drew inf.size len ad len c olds g1 (by simpa using g3)
        have bA:=run_append_grow_src (P:=P) w t t2 ty e inf z hu eO hzero (some ad) len c olds hold vx n news fX (by omega) (by omega) (growslice_fits (by omega) Ef.1);have hg:=e8.GD w (.cells ((olds++news).toArray++xL z.cells (grownCap w (len+n) c e-(len+n))) e);have wO:news.length=n*inf.size:=fX.newsLen;have PR:=dc.length;have iE:aQ V ((cs.drop off).take (len*inf.size)++new) (olds++news):=g2.append dc;have sP:eZ V ((cs.drop off).take (len*inf.size)++new) ((olds++news).toArray++xL z.cells (grownCap w (len+n) c e-(len+n))) 0:=by
         intro i x hi;obtain⟨v,hv,hr⟩:=iE.get hi;have al:i<(olds++news).length:=(bl.1 hv).1;refine⟨⟨v,by rw[dI,Array.getElem?_append_left (by simpa using al)];simpa using hv,hr⟩,?_⟩;rw[<-hr.one];rcases cX.1 (fF hv)with hm|hm
         ·exact g4 v hm
         ·exact fX.one v hm
        have aby:(len+n)*inf.size+(grownCap w (len+n) c e-(len+n))*inf.size=grownCap w (len+n) c e*inf.size:=by
         rw[<-jc];congr 1;have:=grownCap_ge w (len+n) c e;omega
        have aaS:=iE.length;have hle:=aM.rQ (e:=(⟨w.heap.size,0,grownCap w (len+n) c e*inf.size,true⟩:gp)) H.r.fresh;rw[jc]at aby;obtain⟨hR,hE⟩:=(H.r.kill b).grow hg (o:=.cells ((cs.drop off).take (len*inf.size)++new) (.rw (iq wt e))) (e:=⟨w.heap.size,0,grownCap w (len+n) c e*inf.size,true⟩) rfl
         ⟨_,e,(0,0),hg.new,by simp only[iA];exact sP.mono hle,by rw[aaS];simp;omega,by simp[yW];omega,λt1 h1=>by cases h1;exact⟨rfl,λj _ _ h=>by simp at h,ab5 _ _ _ _ _⟩⟩
        simp only[iA]at hR hE;refine⟨_,_,_,_,_,bA,H.step hR hE (hg.fr V),?_,h⟩;exact .slice U.length 0 ⟨w.heap.size,0,_,true⟩ _ none inf.size _ (grownCap w (len+n) c e) (mi _ _ _) ⟨rfl,rfl⟩ (λ_=>rfl) (by simp) (λc' h=>by cases h) (grownCap_ge _ _ _ _)
     ·cases h
    ·cases h
   ·cases h
  ·cases h
 ·cases h
end
end Go.AM
end
section
namespace Go.AM
open Go.RowKit
section
variable {P:Program} {V0 V:aM} {w0 w:World} {lam:j7} {env:Env} {U:St} {a:Act} {o:Oper} {next:Act->World->Prop} {Q:Exit->Act->World->Prop} {out:fH×St} {k:TV->Env->St->Out} {kp:AV->Env->St->Out}
theorem mA {α:Type} {x:Array α} {l:List α} (h:x.toList=l):x=l.toArray:=by subst h;simp
theorem Ri {c:Call} {t t2 e:TypeId} {s x:Operand} {isStr:Bool} (H:aR V0 w0 V lam env U a w) (hk:cQ V0 w0 a o.dst next out k) (ho:o.op=.call c) (hc:c.callee=.builtin .append)
  (ht:c.argTypes.toList=[t,t2]) (ha:c.args.toList=[s,x]) (hu:P.underlying t=some (.slice e)) (hz:oU P e=true)
  (iJ:(isStr=false/\∃e',P.underlying t2=some (.slice e'))\/(isStr=true/\P.underlying t2=some .string))
  (hx:pb isStr e (aE P e) (jh P e) env U (env.get s) (env.get x) (λv U'=>k (.v v) env U')=some out):o.wp P a w next Q:=by
 obtain⟨V',y,v,U',w',bA,hS,hr,H3⟩:=TP (ty:=o.type) H hu hz iJ (H.get s) (H.get x) hx;refine lx (v:=v) (w':=w') ?_ (hk _ _ _ _ _ _ _ hS (.v _ _ hr) H3);have h1:=mA ht;have h2:=mA ha;simp only[execOp,ho,resolve,hc,bG,dh,bF,invoke,builtin,h1,h2,List.map_toArray,dO,lA,bA]
theorem acW {t:TypeId} {x:TV} {v:Value} {n:Int} {ts:Array TypeId} {vs:Array Value} {ty:TypeId} (hr:fI V lam x v) (h:BU P t x=some n) (ht:ts[0]? =some t) (hv:vs[0]? =some v) (w:World):
  (Builtin.len_ ts ty vs).run P w=.ok (.int .i64 n) w:=by
 unfold BU at h;split at h
 ·rename_i hu;split at h
  ·cases h;have lh:=hr.val;cases lh;simp only[Builtin.len_,ht,hv,bG,run_underlying hu,bF];rfl
  ·cases h
 ·rename_i e hu;split at h
  ·cases h;have lh:=hr.val;cases lh<;>(simp only[Builtin.len_,ht,hv,bG,run_underlying hu,bF]<;>rfl)
  ·cases h;cases hr;simp only[Builtin.len_,ht,hv,bG,run_underlying hu,bF]<;>rfl
  ·cases h
 ·rename_i m e hu;cases h;simp only[Builtin.len_,ht,hv,bG,run_underlying hu,bF]<;>rfl
 ·rename_i e1 e2 hu;split at h
  ·cases h;have lh:=hr.val;cases lh;simp only[Builtin.len_,ht,hv,bG,run_underlying hu,bF]<;>rfl
  ·cases h
 ·cases h
theorem aec {c:Call} {t:TypeId} {ts:List TypeId} {x:Operand} {xs:List Operand} (H:aR V0 w0 V lam env U a w) (hk:cQ V0 w0 a o.dst next out k) (ho:o.op=.call c) (hc:c.callee=.builtin .len)
  (ht:c.argTypes.toList=t::ts) (ha:c.args.toList=x::xs) (hx:(match BU P t (env.get x)with|some n=>k (.v (.int .i64 n)) env U|none=>none)=some out):o.wp P a w next Q:=by
 split at hx
 ·rename_i n hn;refine dX H hk (v:=.int .i64 n) ?_ (.v _ _ (.int _ _)) hx;have h1:=mA ht;have h2:=mA ha;have:=acW (P:=P) (ts:=c.argTypes) (vs:=c.args.map a.eval) (ty:=o.type) (H.get x) hn (by rw[h1];simp) (by rw[h2];simp) w;simp only[execOp,ho,resolve,hc,bG,dh,bF,invoke,builtin,this]
 ·cases hx
theorem Qp:∀{l:List TV} {ns:List Int},tj l=some ns->∀{vs:List Value},(∃ps:List Operand,l=ps.map env.get/\vs=ps.map a.eval)->aR V0 w0 V lam env U a w->∃ks:List (IntKind×Int),vs=ks.map (λp=>.int p.1 p.2)/\ks.map (·.2)=ns
 | [],ns,h,vs,⟨ps,hl,hv⟩,_=>by
  simp[tj]at h;subst h;have:ps=[]:=by cases ps<;>simp at hl|-
  subst this;subst hv;exact⟨[],rfl,rfl⟩
 |t::r,ns,h,vs,⟨ps,hl,hv⟩,H=>by
  cases ps with
  |nil=>simp at hl
  |cons p ps=>
   simp only[dO,zQ]at hl;obtain⟨hp,hr⟩:=hl;have hx:=H.get p;rw[<-hp]at hx;unfold tj at h;split at h
   ·rename_i heq;cases heq
   ·rename_i kx n r' heq;cases heq;split at h
    ·rename_i l hl;cases h;have lh:=hx.val;generalize Io:a.eval p=pv at lh;cases lh;obtain⟨ks,h1,h2⟩:=Qp hl ⟨ps,hr,rfl⟩ H;exact⟨(kx,n)::ks,by rw[hv,dO,Io,h1];rfl,by simp[h2]⟩
    ·cases h
   ·cases h
theorem Q2 {kx:IntKind}:∀(ks:List (IntKind×Int)) (m:Int) (w:World),((ks.map λp=>Value.int p.1 p.2).foldlM Builtin.min2 (.int kx m)).run P w=.ok (.int kx (zf m (ks.map (·.2)))) w
 | [],m,w=>rfl
 |(k2,y)::r,m,w=>by
  simp only[dO,List.foldlM_cons,Builtin.min2,bG,dh,bF,zf];exact Q2 r _ w
theorem Q0 {kx:IntKind}:∀(ks:List (IntKind×Int)) (m:Int) (w:World),((ks.map λp=>Value.int p.1 p.2).foldlM Builtin.max2 (.int kx m)).run P w=.ok (.int kx (zd m (ks.map (·.2)))) w
 | [],m,w=>rfl
 |(k2,y)::r,m,w=>by
  simp only[dO,List.foldlM_cons,Builtin.max2,bG,dh,bF,zd];exact Q0 r _ w
theorem Rl {c:Call} {mn:Bool} (H:aR V0 w0 V lam env U a w) (hk:cQ V0 w0 a o.dst next out k) (ho:o.op=.call c) (hc:c.callee=.builtin (cond mn .min .max))
  (hx:(match c.args.toList.map env.get with
   | .v (.int kx m)::r=>(match tj r with|some l=>k (.v (.int kx (cond mn (zf m l) (zd m l)))) env U|none=>none)
   |_=>none)=some out):o.wp P a w next Q:=by
 split at hx
 ·rename_i kx m r heq;split at hx
  ·rename_i l hl;cases ma:c.args.toList with
   |nil=>rw[ma]at heq;cases heq
   |cons p ps=>
    rw[ma]at heq;simp only[dO,zQ]at heq;obtain⟨hp,hr⟩:=heq;have jK:=H.get p;rw[hp]at jK;have hv:=jK.val;generalize Io:a.eval p=pv at hv;cases hv;obtain⟨ks,h1,h2⟩:=Qp hl ⟨ps,hr.symm,rfl⟩ H;refine dX H hk (v:=.int kx (cond mn (zf m l) (zd m l))) ?_ (.v _ _ (.int _ _)) hx;have iF:(c.args.map a.eval).toList=.int kx m::ks.map (λp=>.int p.1 p.2):=by
     rw[Array.toList_map,ma,dO,Io,h1]
    cases mn
    ·simp only[execOp,ho,resolve,hc,cond,bG,dh,bF,invoke,builtin,Builtin.max_,iF,Q0,h2]
    ·simp only[execOp,ho,resolve,hc,cond,bG,dh,bF,invoke,builtin,Builtin.min_,iF,Q2,h2]
  ·cases hx
 ·cases hx
theorem xH:∀{ps:List Operand} {l:List AV},gk (ps.map env.get)=some l->aR V0 w0 V lam env U a w->aQ V l (ps.map a.eval)
 | [],l,h,_=>by simp[gk]at h;subst h;exact .nil
 |p::ps,l,h,H=>by
  have hx:=H.get p;simp only[dO]at h;unfold gk at h;split at h
  ·rename_i heq;cases heq
  ·rename_i x r heq;simp only[zQ]at heq;obtain⟨h1,h2⟩:=heq;split at h
   ·rename_i l' hl;cases h;rw[<-h2]at hl;rw[h1]at hx;exact .cons _ _ _ _ hx.val (xH hl H)
   ·cases h
  ·cases h
theorem RX {f:FuncId} {fn:Func} (hP:fz P) (dU:P.funcs[f]? =some fn) (hb:fn.body.isSome=true) (ia:Array Value) (w:World):(callFunc f ia).run P w=.ok (.enter f ia) w:=by
 have hn:=hP.call f fn dU hb;have bR:fn.body.isNone=false:=by cases ie:fn.body<;>simp_all
 simp[callFunc,dU,hn,bR];intro h0;rw[h0]at hb;cases hb
theorem Lq {jF:FuncId} {args:List AV} {ia:Array Value} {call:bU} (hP:fz P) (eN:kT P call) (H:aR V0 w0 V lam env U a w) (hk:cQ V0 w0 a o.dst next out k) (dN:qV V0 w0 Q out kp) (iE:aQ V args ia.toList)
  (bA:(execOp a.eval o).run P w=(callFunc jF ia).run P w) (hx:ic call jF args U (λv U'=>k (.v v) env U') (λv U'=>kp v env U')=some out):o.wp P a w next Q:=by
 unfold ic at hx;have main (r:fH×St) (hr:call jF args U=some r) (El:∀e w',iX V w r e w'->(match e with
   | .returned v=>next (a.put o.dst v) w'
   | .panicked chain=>Q (.panic chain) a w'
   | .outgrown=>LetsOut Q)):o.wp P a w next Q:=by
  rcases eN _ _ _ _ hr with⟨⟨fn,dU,hb⟩,iG⟩|⟨_,iG⟩
  ·unfold Oper.wp;rw[bA,RX hP dU hb];rw[Oper.upon_enter];exact(iG V w _ H.r iE).mono λe w' he=>by
    have:=El e w' he;cases e<;>exact this
  ·obtain⟨v,w',h1,h2⟩:=iG V w _ H.r iE;exact lx (bA.trans h1) (El _ _ h2)
 split at hx
 ·rename_i v U' hr;refine main _ hr λe w' ⟨V',hR,hE,hF,v',he,sZ⟩=>?_;subst he;exact hk _ _ _ _ _ _ _ (H.step hR hE hF) (.v _ _ sZ) hx
 ·rename_i v U' hr;refine main _ hr λe w' ⟨V',hR,hE,hF,v',he,sZ⟩=>?_;subst he;exact dN _ _ _ _ _ _ _ _ (H.step hR hE hF) sZ hx
 ·cases hx
theorem ad3 {c:Call} {f:Operand} {call:bU} (hP:fz P) (eN:kT P call) (H:aR V0 w0 V lam env U a w) (hk:cQ V0 w0 a o.dst next out k) (dN:qV V0 w0 Q out kp) (ho:o.op=.call c) (hc:c.callee=.value f)
  (hx:(match env.get f with
   | .v (.func (.func jF) first captured)=>(match gk (c.args.toList.map env.get)with
    |some args=>ic call jF (first++args++captured) U (λv U'=>k (.v v) env U') (λv U'=>kp v env U')
    |none=>none)
   |_=>none)=some out):o.wp P a w next Q:=by
 have hf:=H.get f;split at hx
 ·rename_i jF first captured heq
  rw[heq]at hf;have hv:=hf.val;generalize Br:a.eval f=fv at hv;split at hx
  ·rename_i args iF;have wE:=xH iF H;cases hv with
   |func _ _ _ l' c' hl l6=>
    have iE:aQ V (first++args++captured) (l'++c.args.map a.eval++c').toList:=by
     simp only[tT,Array.toList_map];exact(hl.append wE).append l6
    exact Lq hP eN H hk dN iE (by simp[execOp,ho,resolve,hc,Br,Ke,invoke]) hx
  ·cases hx
 ·cases hx
theorem aeb {c:Call} {x:Operand} {name:String} {call:bU} (hP:fz P) (eN:kT P call) (H:aR V0 w0 V lam env U a w) (hk:cQ V0 w0 a o.dst next out k) (dN:qV V0 w0 Q out kp) (ho:o.op=.call c) (hc:c.callee=.invoke x name)
  (hx:(match env.get x with
   | .v xv=>(match gk (c.args.toList.map env.get)with
    |some args=>wh P call xv name args U (λv U'=>k (.v v) env U') (λv U'=>kp v env U')
    |none=>none)
   |_=>none)=some out):o.wp P a w next Q:=by
 have hf:=H.get x;split at hx
 ·rename_i xv heq;rw[heq]at hf;have hv:=hf.val;generalize Br:a.eval x=fv at hv;split at hx
  ·rename_i args iF;have wE:=xH iF H;unfold wh at hx;split at hx
   ·rename_i t y;cases hv with
    |iface _ _ v' hy=>
     split at hx
     ·rename_i f hm;unfold ze at hm;split at hm
      ·rename_i he;cases hm;have hme:=he.choose_spec;have iE:aQ V (y::args) (#[v']++c.args.map a.eval).toList:=by
        simp only[tT,Array.toList_map];exact .cons _ _ _ _ hy wE
       refine Lq hP eN H hk dN iE ?_ hx;have hex:(#[Value.iface t v']++c.args.map a.eval).extract 1 (#[Value.iface t v']++c.args.map a.eval).size=c.args.map a.eval:=by
        apply Array.toList_inj.1;simp;rw[List.take_of_length_le (by simp)]
       have h0:(#[Value.iface t v']++c.args.map a.eval)[0]? =some (Value.iface t v'):=by
        rw[Array.getElem?_append_left (by simp)];rfl
       have BG:(resolve a.eval c o.type).run P w=.ok {target:=.fn (.method name) #[],args:=#[Value.iface t v']++c.args.map a.eval} w:=by
        unfold resolve;rw[hc];simp only[Br];rfl
       have hinv (ia:Array Value) (r:Value) (h:ia[0]? =some r):(invoke (.fn (.method name) #[]) ia).run P w=(callMethod r name (ia.extract 1 ia.size)).run P w:=by
        show(match ia[0]? with|some recv=>callMethod recv name (ia.extract 1 ia.size)|_=>stuck "call: a method without a receiver").run P w=_;rw[h]
       have Eb:(callMethod (.iface t v') name (c.args.map a.eval)).run P w=(callFunc he.choose (#[v']++c.args.map a.eval)).run P w:=by
        show(do let(f,receiver)<-method ((<-program).types.size+Made.depth) t v' name;callFunc f (#[receiver]++c.args.map a.eval):Sem Next).run P w=_;rw[bG,run_program,bF,bG,hme,bF]
       have tf:(execOp a.eval o).run P w=(do let d<-resolve a.eval c o.type;invoke d.target d.args).run P w:=by
        unfold execOp;rw[ho]
       rw[tf,bG,BG,bF,hinv _ _ h0,hex,Eb]
      ·cases hm
     ·cases hx
   ·cases hx
  ·cases hx
 ·cases hx
end
end Go.AM
end
section
namespace Go.AM
open Go.RowKit
structure Delta where
 kill:On
 setl:Option (Nat×List AV)
 heap:Option St
 put:Option (Nat×aq)
 ins:Option (Nat×Bool×AV)
def Delta.env (δ:Delta) (e:Env):Env where
 tmps:=match δ.kill with|some d=>e.tmps.map (vk d)|none=>e.tmps
 locs:=match δ.setl with|some (k,cs)=>ft e.locs k cs|none=>e.locs
 defs:=e.defs
def Delta.st (δ:Delta) (U:St):St:=match δ.put with|some (b,o)=>U.set b o|none=>match δ.ins with|some (r,b,v)=>iO U r b v|none=>δ.heap.getD U
def Delta.id:Delta:=⟨none,none,none,none,none⟩
structure Delta.ok (δ:Delta) (c:bN) (new:List Nat):Prop where
 kill:∀d,δ.kill=some d->d∈new
 setl:∀k cs,δ.setl=some (k,cs)->k∈c.keys/\c.w=true
 heap:δ.heap.isSome=true->c.hp=2/\c.hb=none
 put:∀b ob,δ.put=some (b,ob)->c.hp=2/\c.hb=some b
 ins:∀r b v,δ.ins=some (r,b,v)->c.hp=2/\c.hb=some r/\c.ik=some b
 pik:∀b ob,δ.put=some (b,ob)->c.ik=none
def mz (ik:Option Bool) (vw:Ad) (a b:Option aq):Prop:=match vw with|some v=>nR (some v) b=nR (some v) a|none=>match ik with|none=>b=a|some k=>mH k b=mH k a
theorem mz.of_eq {ik:Option Bool} {vw:Ad} {a b:Option aq} (h:b=a):mz ik vw a b:=by subst h;cases vw<;>cases ik<;>exact rfl
theorem mz.adN {ik:Option Bool} {vw:Ad} {a b:Option aq} (h:nR vw b=nR vw a):mz ik vw a b:=by
 cases vw with
 |none=>exact .of_eq h
 |some v=>exact h
theorem mz.symm {ik:Option Bool} {vw:Ad} {a b:Option aq} (h:mz ik vw a b):mz ik vw b a:=by cases vw<;>cases ik<;>exact Eq.symm h
theorem mz.trans {ik:Option Bool} {vw:Ad} {a b c:Option aq} (h:mz ik vw a b) (g:mz ik vw b c):mz ik vw a c:=by cases vw<;>cases ik<;>exact Eq.trans g h
structure ga (o:Oper) (ops:Array Oper) (c:bN) (e1:Env) (U1:St) (e2:Env) (U2:St):Prop where
 ops_:∀x∈o.op.operands.toList,e2.get x=e1.get x
 guard:∀j want d,o.guard=some (j,want)->(ops[j]?).bind (·.dst)=some d->e2.tmps.getD d .no=e1.tmps.getD d .no
 slot:e2.kI o.dst=e1.kI o.dst
 keys:∀k∈c.keys,eh e2.locs k=eh e1.locs k
 heap:c.hp≠0->c.hb=none->U2=U1
 blk:c.hp≠0->∀b,c.hb=some b->mz c.ik c.vw U1[b]? U2[b]?
theorem ga.CL {o:Oper} {ops:Array Oper} {c:bN} {e1:Env} {U1:St} {e2:Env} {U2:St} (h:ga o ops c e1 U1 e2 U2) (hk:c.ik=none) (hv:c.vw=none) (h0:c.hp≠0) (b:Nat) (hb:c.hb=some b):U2[b]? =U1[b]?:=by
 have:=h.blk h0 b hb;rw[hk,hv]at this;exact this
def FW (P:Program) (lm:Nat) (call:bU) (o:Oper) (ops:Array Oper) (c:bN) (e:Env) (U:St) (t:TV) (δ:Delta):Prop:=
 (∀k,k∈keyOf t->k∈c.keys)/\δ.ok c (ez lm o)/\
 ∀e2 U2,ga o ops c e U e2 U2->∀k kp,aw P lm call e2 U2 o k kp=k t (δ.env e2) (δ.st U2)
section
variable {P:Program} {lm:Nat} {call:bU} {o:Oper} {ops:Array Oper} {env:Env} {U:St} {out:fH×St} {k:TV->Env->St->Out}
theorem mem_keys {x:Operand} {q:Nat} (hx:x∈o.op.operands.toList) (h:q∈keyOf (env.get x)):q∈(aV P lm env o).keys:=by
 simp only[aV,cX,List.mem_flatMap];exact .inl ⟨x,hx,h⟩
theorem IX {q:Nat} (h:q∈ez lm o):q∈(aV P lm env o).keys:=by
 simp only[aV,cX];exact .inr h
theorem agD {x:AV} (h:∀e2 U2,ga o ops (aV P lm env o) env U e2 U2->∀k kp,aw P lm call e2 U2 o k kp=k (.v x) e2 U2):FW P lm call o ops (aV P lm env o) env U (.v x) .id:=
 ⟨λk hk=>by simp[keyOf]at hk,⟨λd h=>(by cases h),λk cs h=>(by cases h),λh=>(by cases h),λb ob h=>(by cases h),λr kb v h=>(by cases h),λb ob h=>(by cases h)⟩,h⟩
theorem agC {t:TV} (ht:∀k,k∈keyOf t->k∈(aV P lm env o).keys) (h:∀e2 U2,ga o ops (aV P lm env o) env U e2 U2->∀k kp,aw P lm call e2 U2 o k kp=k t e2 U2):FW P lm call o ops (aV P lm env o) env U t .id:=
 ⟨ht,⟨λd h=>(by cases h),λk cs h=>(by cases h),λh=>(by cases h),λb ob h=>(by cases h),λr kb v h=>(by cases h),λb ob h=>(by cases h)⟩,h⟩
def zO (P:Program) (lm:Nat) (call:bU) (o:Oper) (ops:Array Oper) (env:Env) (U:St) (k:TV->Env->St->Out) (out:fH×St):Prop:=
 ∃t δ,FW P lm call o ops (aV P lm env o) env U t δ/\k t (δ.env env) (δ.st U)=some out
theorem fV {x:AV} (h:∀e2 U2,ga o ops (aV P lm env o) env U e2 U2->∀k kp,aw P lm call e2 U2 o k kp=k (.v x) e2 U2) (hk:k (.v x) env U=some out):zO P lm call o ops env U k out:=
 ⟨_,_,agD h,hk⟩
theorem qp {t:TV} (ht:∀k,k∈keyOf t->k∈(aV P lm env o).keys) (h:∀e2 U2,ga o ops (aV P lm env o) env U e2 U2->∀k kp,aw P lm call e2 U2 o k kp=k t e2 U2) (hk:k t env U=some out):zO P lm call o ops env U k out:=
 ⟨_,_,agC ht h,hk⟩
theorem Ft {t:TypeId} {cs:List AV} {off:Nat} {x:AV} (h:mh P t cs off=some x) (f:AV->Out):dY P t cs off f=f x:=by
 unfold mh at h;unfold dY;split at h
 ·split at h
  ·rename_i hl;cases h;rw[if_pos hl]
  ·cases h
 ·rw[h]
 ·cases h
theorem xY {x:Option TV} {d:Int} {f:Int->Out} (h:gN x d f=some out):∃n,f n=some out/\∀g:Int->Out,gN x d g=g n:=by
 unfold gN at h;split at h
 ·obtain⟨kx,n,rfl,hf⟩:=rK h;exact⟨n,hf,λg=>rfl⟩
 ·exact⟨d,h,λg=>rfl⟩
theorem afB {t:TypeId} {x:TV} {lo hi:Option TV} {f:AV->Out} (h:qM P t x lo hi f=some out):∃y,f y=some out/\∀g:AV->Out,qM P t x lo hi g=g y:=by
 unfold qM at h;split at h
 ·rename_i hu;split at h
  ·obtain⟨a,h,ha⟩:=xY h;obtain⟨b,h,hb⟩:=xY h;split at h
   ·rename_i hc;exact⟨_,h,λg=>by unfold qM;simp only[hu,ha,hb,if_pos hc]⟩
   ·cases h
  ·cases h
 ·rename_i e hu;split at h
  ·obtain⟨a,h,ha⟩:=xY h;obtain⟨b,h,hb⟩:=xY h;split at h
   ·rename_i hc;exact⟨_,h,λg=>by unfold qM;simp only[hu,ha,hb,if_pos hc]⟩
   ·cases h
  ·split at h
   ·rename_i cm;obtain⟨a,h,ha⟩:=xY h;obtain⟨b,h,hb⟩:=xY h;split at h
    ·rename_i hc;exact⟨_,h,λg=>by unfold qM;simp only[hu,if_pos cm,ha,hb,if_pos hc]⟩
    ·cases h
   ·cases h
  ·cases h
 ·cases h
theorem Ug {op:BinOp} {t:TypeId} {x y:AV} {f:AV->Out} (h:nk P op t x y f=some out):∃z,f z=some out/\∀g:AV->Out,nk P op t x y g=g z:=by
 unfold nk at h;split at h
 ·split at h
  ·rename_i hc;split at h
   ·rename_i r hr;exact⟨r,h,λg=>by unfold nk;simp only[if_pos hc,hr]⟩
   ·cases h
  ·cases h
 ·split at h
  ·rename_i r hr;exact⟨r,h,λg=>by unfold nk;simp only[hr]⟩
  ·cases h
 ·rename_i ef fW;split at h
  ·split at h
   ·rename_i hf;split at h
    ·rename_i b hb;refine⟨_,h,λg=>?_⟩;unfold nk;split
     ·exact absurd rfl (ef _ _ _ _ rfl)
     ·exact absurd rfl (fW _ _ rfl)
     ·simp only[if_pos hf,hb]
    ·cases h
   ·cases h
  ·split at h
   ·rename_i hf;split at h
    ·rename_i b hb;refine⟨_,h,λg=>?_⟩;unfold nk;split
     ·exact absurd rfl (ef _ _ _ _ rfl)
     ·exact absurd rfl (fW _ _ rfl)
     ·simp only[if_pos hf,hb]
    ·cases h
   ·cases h
  ·cases h
theorem agz {op:UnOp} {x:AV} {f:AV->Out} (h:tR op x f=some out):∃z,f z=some out/\∀g:AV->Out,tR op x g=g z:=by
 unfold tR at h;split at h
 ·exact⟨_,h,λg=>rfl⟩
 ·exact⟨_,h,λg=>rfl⟩
 ·exact⟨_,h,λg=>rfl⟩
 ·cases h
theorem Vo {s d:TypeId} {x:AV} {f:AV->St->Out} (h:kj P s d U x f=some out):∃z,f z U=some out/\∀g:AV->St->Out,kj P s d U x g=g z U:=by
 unfold kj at h;split at h
 ·rename_i jn jm;split at h
  ·exact⟨_,h,λg=>by unfold kj;simp only[jn,jm]⟩
  ·cases h
 ·rename_i e jn jm;split at h
  ·rename_i vb;split at h
   ·exact⟨_,h,λg=>by unfold kj;simp only[jn,jm,vb]⟩
   ·split at h
    ·rename_i cs bg;split at h
     ·rename_i hl;split at h
      ·rename_i bs wG;exact⟨_,h,λg=>by unfold kj;simp only[jn,jm,vb,bg,if_pos hl,wG]⟩
      ·cases h
     ·cases h
    ·cases h
   ·cases h
  ·cases h
 ·rename_i ds bD jn jm;split at h
  ·exact⟨_,h,λg=>by unfold kj;simp only[jn,jm]⟩
  ·cases h
 ·cases h
theorem Vn {s d:TypeId} {x:AV} {f:AV->St->Out} (hf:x.lone=true) (h:kj P s d U x f=some out):
  ∃z,f z U=some out/\∀(U2:St) (g:AV->St->Out),kj P s d U2 x g=g z U2:=by
 unfold kj at h;split at h
 ·rename_i jn jm;split at h
  ·exact⟨_,h,λU2 g=>by unfold kj;simp only[jn,jm]⟩
  ·cases h
 ·rename_i e jn jm;split at h
  ·rename_i vb;split at h
   ·cases hf
   ·cases hf
   ·cases h
  ·cases h
 ·rename_i ds bD jn jm;split at h
  ·exact⟨_,h,λU2 g=>by unfold kj;simp only[jn,jm]⟩
  ·cases h
 ·cases h
theorem Sv {isStr:Bool} {size:Nat} {x:TV} {f:Nat->List AV->Out} (h:kJ isStr env U size x f=some out):
  ∃n new,f n new=some out/\∀(e2:Env) (g:Nat->List AV->Out),(∀q∈keyOf x,eh e2.locs q=eh env.locs q)->kJ isStr e2 U size x g=g n new:=by
 unfold kJ at h;split at h
 ·rename_i key n;split at h
  ·rename_i cs bg;split at h
   ·rename_i hn;exact⟨_,_,h,λe2 g hg=>by unfold kJ;simp only[hg key (by simp[keyOf]),bg,if_pos hn]⟩
   ·cases h
  ·cases h
 ·split at h
  ·rename_i hs;exact⟨_,_,h,λe2 g hg=>by unfold kJ;simp only[if_pos hs]⟩
  ·cases h
 ·exact⟨_,_,h,λe2 g hg=>by unfold kJ;rfl⟩
 ·split at h
  ·rename_i hs;split at h
   ·rename_i cs bg;split at h
    ·rename_i hl;exact⟨_,_,h,λe2 g hg=>by unfold kJ;simp only[if_pos hs,bg,if_pos hl]⟩
    ·cases h
   ·cases h
  ·cases h
 ·cases h
theorem KD {isStr:Bool} {e:TypeId} {size bytes:Nat} {s x:TV} {f:AV->St->Out} (h:pb isStr e size bytes env U s x f=some out):
  ∃z U',f z U'=some out/\∀(e2:Env) (g:AV->St->Out),(∀q∈keyOf x,eh e2.locs q=eh env.locs q)->pb isStr e size bytes e2 U s x g=g z U':=by
 unfold pb at h;obtain⟨n,new,h,hs⟩:=Sv h;split at h
 ·split at h
  ·rename_i hn;exact⟨_,_,h,λe2 g hg=>by unfold pb;rw[hs e2 _ hg];simp only[if_pos hn]⟩
  ·rename_i hn;split at h
   ·rename_i hf;exact⟨_,_,h,λe2 g hg=>by unfold pb;rw[hs e2 _ hg];simp only[if_neg hn,if_pos hf]⟩
   ·cases h
 ·split at h
  ·rename_i cm;split at h
   ·rename_i cs bg;split at h
    ·rename_i hl;split at h
     ·rename_i hf;exact⟨_,_,h,λe2 g hg=>by unfold pb;rw[hs e2 _ hg];simp only[if_pos cm,bg,if_pos hl,if_pos hf]⟩
     ·cases h
    ·cases h
   ·cases h
  ·cases h
 ·cases h
theorem LN {isStr:Bool} {size:Nat} {d x:TV} {f:Int->St->Out} (h:qi isStr env U size d x f=some out):
  ∃z U',f z U'=some out/\∀(e2:Env) (g:Int->St->Out),(∀q∈keyOf x,eh e2.locs q=eh env.locs q)->qi isStr e2 U size d x g=g z U':=by
 unfold qi at h;obtain⟨n,new,h,hs⟩:=Sv h;split at h
 ·exact⟨_,_,h,λe2 g hg=>by unfold qi;rw[hs e2 _ hg]⟩
 ·split at h
  ·rename_i cm;split at h
   ·rename_i cs t bg;split at h
    ·rename_i hl;exact⟨_,_,h,λe2 g hg=>by unfold qi;rw[hs e2 _ hg];simp only[if_pos cm,bg,if_pos hl]⟩
    ·cases h
   ·cases h
  ·cases h
 ·cases h
theorem Sf {ob:aq} {v:Nat->AV} (h2:(aV P lm env o).hp=2) (hb:(aV P lm env o).hb=env.kI o.dst) (H0:(aV P lm env o).ik=none) (hvw:(aV P lm env o).vw=none)
  (h:∀e2 U2,ga o ops (aV P lm env o) env U e2 U2->∀k kp,aw P lm call e2 U2 o k kp=mZ (e2.kI o.dst) U2 ob λb U'=>k (.v (v b)) e2 U')
  (hk:mZ (env.kI o.dst) U ob (λb U'=>k (.v (v b)) env U')=some out):zO P lm call o ops env U k out:=by
 cases hs:env.kI o.dst with
 |none=>
  rw[hs]at hk hb;refine⟨.v (v U.length),⟨none,none,some (U++[ob]),none,none⟩,⟨λq hq=>by simp[keyOf]at hq,⟨λd h=>(by cases h),λk cs h=>(by cases h),λ_=>⟨h2,hb⟩,λb ob h=>(by cases h),λr kb v h=>(by cases h),λb ob h=>(by cases h)⟩,λe2 U2 fo k kp=>?_⟩,hk⟩;rw[h e2 U2 fo,fo.slot,hs,fo.heap (by rw[h2];decide) hb];rfl
 |some b=>
  rw[hs]at hk hb;unfold mZ ow at hk;split at hk
  ·rename_i b' heq;cases heq
  ·rename_i b' heq;cases heq;split at hk
   ·rename_i hf;refine⟨.v (v b),⟨none,none,none,some (b,ob),none⟩,⟨λq hq=>by simp[keyOf]at hq,⟨λd h=>(by cases h),λk cs h=>(by cases h),λh=>(by cases h),λb' ob' h=>(by cases h;exact⟨h2,hb⟩),λr kb v h=>(by cases h),λb ob h=>H0⟩,λe2 U2 fo k kp=>?_⟩,hk⟩;rw[h e2 U2 fo,fo.slot,hs];have he:=fo.CL H0 hvw (by rw[h2];decide) b hb;unfold mZ ow;simp only[he,hf];rfl
   ·cases hk
theorem bV {x:Operand} {c:bN} {e2:Env} {U2:St} (h:ga o ops c env U e2 U2) (hx:x∈o.op.operands.toList):e2.get x=env.get x:=h.ops_ x hx
theorem Lc {t:TypeId} {cs:List AV} {loc:Bool} (nH:loc=(match o.dst with|some d=>lm.testBit d|none=>false)) (dc:ez lm o=(match o.dst with|some d=>if lm.testBit d then[d]else[]|none=>[]))
  (Bt:eJ P lm env o=if(ez lm o).isEmpty then 2 else 0) (aP:(aV P lm env o).hb=none) (hw:(aV P lm env o).w= !(ez lm o).isEmpty)
  (h:∀e2 U2,ga o ops (aV P lm env o) env U e2 U2->∀k kp,aw P lm call e2 U2 o k kp=nr t loc o.dst e2 U2 cs k) (hk:nr t loc o.dst env U cs k=some out):zO P lm call o ops env U k out:=by
 unfold nr at hk;split at hk
 ·rename_i bX;cases hd:o.dst with
  |none=>
   rw[hd]at hk dc nH;simp only at hk dc nH;subst nH;have h2:(aV P lm env o).hp=2:=by show eJ P lm env o=2;rw[Bt,dc];rfl
   refine⟨_,⟨none,none,some (U++[.cells cs (.rw _)]),none,none⟩,⟨λq hq=>by simp[keyOf]at hq,⟨λd h=>(by cases h),λk cs h=>(by cases h),λ_=>⟨h2,aP⟩,λb ob h=>(by cases h),λr kb v h=>(by cases h),λb ob h=>(by cases h)⟩,λe2 U2 fo k kp=>?_⟩,hk⟩;rw[h e2 U2 fo k kp,fo.heap (by rw[h2];decide) aP];unfold nr;rw[if_pos bX,hd];rfl
  |some d=>
   rw[hd]at hk dc nH;simp only at dc nH;cases hb:lm.testBit d with
   |true=>
    rw[hb]at nH dc;simp only[if_true]at dc;subst nH;simp only at hk;have sQ:d∈(aV P lm env o).keys:=IX (by rw[dc];simp);refine⟨.lp d 0,⟨some d,some (d,cs),none,none,none⟩,⟨λq hq=>by simp[keyOf]at hq;rw[hq];exact sQ,⟨λd' h=>by cases h;rw[dc];simp,λk cs h=>by cases h;exact⟨sQ,by rw[hw,dc];rfl⟩,(λh=>by cases h),(λb ob h=>by cases h),λr kb v h=>(by cases h),λb ob h=>(by cases h)⟩,λe2 U2 fo k kp=>?_⟩,hk⟩;rw[h e2 U2 fo k kp];unfold nr;rw[if_pos bX,hd];rfl
   |false=>
    rw[hb]at nH dc;simp only[aW,if_false]at dc;subst nH;simp only at hk;have h2:(aV P lm env o).hp=2:=by show eJ P lm env o=2;rw[Bt,dc];rfl
    refine⟨_,⟨none,none,some (U++[.cells cs (.rw _)]),none,none⟩,⟨λq hq=>by simp[keyOf]at hq,⟨λd h=>(by cases h),λk cs h=>(by cases h),λ_=>⟨h2,aP⟩,λb ob h=>(by cases h),λr kb v h=>(by cases h),λb ob h=>(by cases h)⟩,λe2 U2 fo k kp=>?_⟩,hk⟩;rw[h e2 U2 fo k kp,fo.heap (by rw[h2];decide) aP];unfold nr;rw[if_pos bX,hd];rfl
 ·cases hk
theorem zc {l:List Operand} {e2:Env} (h:∀x∈l,e2.get x=env.get x):l.map e2.get=l.map env.get:=List.map_congr_left h
theorem Ub {x:TV} {ty:TypeId} {ok:Bool} {k:AV->Out} {out:fH×St} (h:qY P x ty ok k=some out):∃y,(∀k,qY P x ty ok k=k y)/\k y=some out:=by
 unfold qY at h;split at h
 ·cases h
 ·rename_i d hn hu;have red:∀k,qY P x ty ok k=xX P x ty ok k:=by
   intro k;unfold qY;split
   ·rename_i ms e;exact absurd (hu.symm.trans e) (λh=>hn ms (by simpa using h))
   ·rfl
   ·rename_i e;rw[e]at hu;cases hu
  simp only[red];unfold xX at h|-;split at h
  ·cases ok
   ·cases h
   ·simp only[cond]at h|-;split at h
    ·rename_i z hz;exact⟨_,λk=>by simp only[hz],h⟩
    ·cases h
  ·split at h
   ·rename_i ht;exact⟨_,λk=>by simp only[if_pos ht],h⟩
   ·rename_i ht;cases ok
    ·cases h
    ·simp only[cond]at h|-;split at h
     ·rename_i z hz;exact⟨_,λk=>by simp only[if_neg ht,hz],h⟩
     ·cases h
  ·cases h
 ·cases h
theorem ade {kt et:TypeId} {m:TV} {key:AV} {f:AV->Bool->Out} (h:jR P kt et U m key f=some out):
  ∃v c,f v c=some out/\∀U2:St,(∀b,m=.v (.map (some b))->U2[b]? =U[b]?)->∀g,jR P kt et U2 m key g=g v c:=by
 unfold jR at h;split at h
 ·rename_i hs;split at h
  ·split at h
   ·rename_i z hz;exact⟨z,false,h,λU2 _ g=>by unfold jR;rw[if_pos hs];simp only[hz]⟩
   ·cases h
  ·rename_i b;split at h
   ·rename_i es fC;split at h
    ·rename_i j v hf;exact⟨v,true,h,λU2 hq g=>by unfold jR;rw[if_pos hs];simp only[hq b rfl,fC,hf]⟩
    ·rename_i hf;split at h
     ·rename_i z hz;exact⟨z,false,h,λU2 hq g=>by unfold jR;rw[if_pos hs];simp only[hq b rfl,fC,hf,hz]⟩
     ·cases h
    ·cases h
   ·cases h
  ·cases h
 ·cases h
theorem aeB {t:TypeId} {cs:List AV} {off b:Nat} {y:AV} {U U2:St} (bg:aF U b=some cs) (hy:mh P t cs off=some y) {ik:Option Bool}
  (h:mz ik (some (off,FO P t)) U[b]? U2[b]?):∃dA,aF U2 b=some dA/\∀f,dY P t dA off f=f y:=by
 unfold aF at bg;split at bg
 ·rename_i au wr hb;cases bg;simp only[mz,nR]at h;rw[hb]at h;simp only at h;unfold mh at hy;have fin (n:Nat) (hn:off+n<=cs.length) (h:(match U2[b]? with|some (.cells cs _)=>if off+n<=cs.length then some (aq.cells ((cs.drop off).take n) .ro)else none|_=>none)=if off+n<=cs.length then some (aq.cells ((cs.drop off).take n) .ro)else none):
    ∃dA,aF U2 b=some dA/\off+n<=dA.length/\(dA.drop off).take n=(cs.drop off).take n:=by
   rw[if_pos hn]at h;split at h
   ·rename_i dA wr2 bR;split at h
    ·rename_i hl;simp only[dP,aq.cells.injEq,and_true]at h;exact⟨dA,by unfold aF;rw[bR],hl,h⟩
    ·cases h
   ·cases h
  cases ha:dz P t with
  |none=>rw[ha]at hy;cases hy
  |some q=>
   unfold FO at h;rw[ha]at hy h;cases q with
   |true=>
    simp only at hy h;split at hy
    ·rename_i hl;cases hy;obtain⟨dA,h1,h2,h3⟩:=fin _ hl h;refine⟨dA,h1,λf=>?_⟩;unfold dY;rw[ha];simp only;rw[if_pos h2,h3]
    ·cases hy
   |false=>
    simp only at hy h;have hl:off<cs.length:=(bl.1 hy).1;obtain⟨dA,h1,h2,h3⟩:=fin 1 (by omega) h;refine⟨dA,h1,λf=>?_⟩;have e (l:List AV):((l.drop off).take 1)[0]? =l[off]?:=by rw[List.getElem?_take_of_lt (by decide),List.getElem?_drop,mw]
    have:dA[off]? =some y:=by rw[<-e,h3,e,hy]
    unfold dY;rw[ha];simp only[this]
 ·cases bg
theorem agG {kt:TypeId} {m:TV} {key v:AV} {f:St->Out} (h:bY P kt U m key v f=some out):∃U',f U'=some out/\∀g,bY P kt U m key v g=g U':=by
 unfold bY at h;split at h
 ·rename_i hs;split at h
  ·rename_i b;split at h
   ·rename_i es fC;split at h
    ·rename_i j y hf;exact⟨_,h,λg=>by unfold bY;rw[if_pos hs];simp only[fC,hf]⟩
    ·rename_i hf;exact⟨_,h,λg=>by unfold bY;rw[if_pos hs];simp only[fC,hf]⟩
    ·cases h
   ·cases h
  ·cases h
 ·cases h
theorem agV (cE:oL P o=none) (eR:pV P o=none) (l5:mD P o=true) (hx:aw P lm call env U o k (λ_ _ _=>none)=some out):zO P lm call o ops env U k out:=by
 cases ho:o.op with
 |move x=>
  simp only[aw,ho]at hx;have hm:x∈o.op.operands.toList:=by simp[ho,da]
  exact qp (λq hq=>mem_keys hm hq) (λe2 U2 h k kp=>by simp only[aw,ho,bV h hm]) hx
 |assign x=>
  simp only[aw,ho]at hx;have hm:x∈o.op.operands.toList:=by simp[ho,da]
  exact qp (λq hq=>mem_keys hm hq) (λe2 U2 h k kp=>by simp only[aw,ho,bV h hm]) hx
 |pick c x y=>
  simp only[aw,ho]at hx;have hc:c∈o.op.operands.toList:=by simp[ho,da]
  have hm:x∈o.op.operands.toList:=by simp[ho,da]
  have hy:y∈o.op.operands.toList:=by simp[ho,da]
  split at hx
  ·rename_i t ht;cases t
   ·exact qp (λq hq=>mem_keys hy hq) (λe2 U2 h k kp=>by simp only[aw,ho,bV h hc,bV h hy,ht,cond]) hx
   ·exact qp (λq hq=>mem_keys hm hq) (λe2 U2 h k kp=>by simp only[aw,ho,bV h hc,bV h hm,ht,cond]) hx
  ·cases hx
 |alloc t=>
  simp only[aw,ho]at hx;split at hx
  ·rename_i z hz;exact Lc rfl (by simp only[ez,ho]<;>rfl) (by simp[eJ,mL,eR,cE,ho]) (by simp[aV,la,mJ,eR,cE,ho]) (by simp[aV,ho]) (λe2 U2 h k kp=>by simp only[aw,ho,hz]<;>rfl) hx
  ·cases hx
 |box t x=>
  simp only[aw,ho]at hx;have hm:x∈o.op.operands.toList:=by simp[ho,da]
  split at hx
  ·rename_i y hy;exact Lc rfl (by simp only[ez,ho]<;>rfl) (by simp[eJ,mL,eR,cE,ho]) (by simp[aV,la,mJ,eR,cE,ho]) (by simp[aV,ho]) (λe2 U2 h k kp=>by simp only[aw,ho,bV h hm,hy]<;>rfl) hx
  ·cases hx
 |build t parts=>
  simp only[aw,ho]at hx;have hm (p:Nat×Operand) (hp:p∈parts.toList):p.2∈o.op.operands.toList:=by
   simp only[ho,da];exact nZ.2 ⟨p,hp,rfl⟩
  have HM (e2:Env) (h:∀x∈o.op.operands.toList,e2.get x=env.get x):(parts.toList.map λp=>(p.1,e2.get p.2))=parts.toList.map λp=>(p.1,env.get p.2):=
   List.map_congr_left λp hp=>by rw[h _ (hm p hp)]
  split at hx
  ·rename_i x hb;exact fV (λe2 U2 h k kp=>by simp only[aw,ho,HM e2 h.ops_,hb]) hx
  ·cases hx
 |buildSlice t n parts=>
  simp only[aw,ho]at hx;have hm (p:Nat×Operand) (hp:p∈parts.toList):p.2∈o.op.operands.toList:=by
   simp only[ho,da];exact nZ.2 ⟨p,hp,rfl⟩
  have HM (e2:Env) (h:∀x∈o.op.operands.toList,e2.get x=env.get x):(parts.toList.map λp=>(p.1,e2.get p.2))=parts.toList.map λp=>(p.1,env.get p.2):=
   List.map_congr_left λp hp=>by rw[h _ (hm p hp)]
  have hw:(aV P lm env o).w= !(ez lm o).isEmpty:=by simp[aV,ho]
  have Bt:eJ P lm env o=if(ez lm o).isEmpty then 2 else 0:=by simp[eJ,mL,eR,cE,ho]
  have dc:ez lm o=(match o.dst with|some d=>if lm.testBit d then[d]else[]|none=>[]):=by simp only[ez,ho]<;>rfl
  split at hx
  ·rename_i e hu;split at hx
   ·rename_i z hz;split at hx
    ·rename_i hc;split at hx
     ·rename_i cs hf;split at hx
      ·rename_i bX;have bA (e2:Env) (U2:St) (h:ga o ops (aV P lm env o) env U e2 U2) (k:TV->Env->St->Out) (kp:AV->Env->St->Out):aw P lm call e2 U2 o k kp=
         (match (match o.dst with|some d=>lm.testBit d|none=>false),o.dst with
         |true,some d=>k (.ls d n) (e2.pQ d cs) U2
         |_,_=>k (.v (.slice (some (U2.length,0)) n (some n) (aE P e))) e2 (U2++[.cells cs (.rw (.row e))])):=by
        simp only[aw,ho,HM e2 h.ops_,hu,hz,if_pos hc,hf,if_pos bX]<;>rfl
       have aP:(aV P lm env o).hb=none:=by simp[aV,la,mJ,eR,cE,ho]
       cases hd:o.dst with
       |none=>
        rw[hd]at hx dc bA;simp only at hx dc bA;have h2:(aV P lm env o).hp=2:=by show eJ P lm env o=2;rw[Bt,dc];rfl
        refine⟨_,⟨none,none,some (U++[.cells cs (.rw _)]),none,none⟩,⟨λq hq=>by simp[keyOf]at hq,⟨λd h=>(by cases h),λk cs h=>(by cases h),λ_=>⟨h2,aP⟩,λb ob h=>(by cases h),λr kb v h=>(by cases h),λb ob h=>(by cases h)⟩,λe2 U2 fo k kp=>?_⟩,hx⟩;rw[bA e2 U2 fo k kp,fo.heap (by rw[h2];decide) aP];rfl
       |some d=>
        rw[hd]at hx dc bA;simp only at hx dc bA;cases hb:lm.testBit d with
        |true=>
         rw[hb]at hx dc bA;simp only[if_true]at dc hx bA;have sQ:d∈(aV P lm env o).keys:=IX (by rw[dc];simp);refine⟨.ls d n,⟨some d,some (d,cs),none,none,none⟩,⟨λq hq=>by simp[keyOf]at hq;rw[hq];exact sQ,⟨λd' h=>by cases h;rw[dc];simp,λk cs h=>by cases h;exact⟨sQ,by rw[hw,dc];rfl⟩,(λh=>by cases h),(λb ob h=>by cases h),λr kb v h=>(by cases h),λb ob h=>(by cases h)⟩,λe2 U2 fo k kp=>?_⟩,hx⟩;rw[bA e2 U2 fo k kp];rfl
        |false=>
         rw[hb]at hx dc bA;simp only[aW,if_false]at dc hx bA;have h2:(aV P lm env o).hp=2:=by show eJ P lm env o=2;rw[Bt,dc];rfl
         refine⟨_,⟨none,none,some (U++[.cells cs (.rw _)]),none,none⟩,⟨λq hq=>by simp[keyOf]at hq,⟨λd h=>(by cases h),λk cs h=>(by cases h),λ_=>⟨h2,aP⟩,λb ob h=>(by cases h),λr kb v h=>(by cases h),λb ob h=>(by cases h)⟩,λe2 U2 fo k kp=>?_⟩,hx⟩;rw[bA e2 U2 fo k kp,fo.heap (by rw[h2];decide) aP];rfl
      ·cases hx
     ·cases hx
    ·cases hx
   ·cases hx
  ·cases hx
 |load t x=>
  simp only[aw,ho]at hx;have hm:x∈o.op.operands.toList:=by simp[ho,da]
  unfold qE at hx;split at hx
  ·rename_i key off hp;split at hx
   ·rename_i cs bg;obtain⟨y,hy,hx⟩:=rP hx;exact fV (λe2 U2 h k kp=>by
     have hl:=h.keys key (mem_keys hm (by rw[hp];simp[keyOf]));simp only[aw,ho,bV h hm,hp,qE,hl,bg,Ft hy]) hx
   ·cases hx
  ·rename_i b off hp;split at hx
   ·rename_i cs bg;obtain⟨y,hy,hx⟩:=rP hx;exact fV (λe2 U2 h k kp=>by
     have hv:(aV P lm env o).vw=some (off,FO P t):=by simp[aV,vQ,ho,hp]
     have hh:=h.blk (by show eJ P lm env o≠0;simp[eJ,mL,eR,cE,ho,hp]) b (by simp[aV,la,mJ,eR,cE,ho,hp]);rw[hv]at hh;obtain⟨dA,gd,h2⟩:=aeB bg hy hh;simp only[aw,ho,bV h hm,hp,qE,gd,h2]) hx
   ·cases hx
  ·rename_i g off hp;unfold yw at hx;split at hx
   ·rename_i g' cs bg;split at hx
    ·rename_i hg;obtain⟨y,hy,hx⟩:=rP hx;exact fV (λe2 U2 h k kp=>by
      have hh:=h.heap (by show eJ P lm env o≠0;simp[eJ,mL,eR,cE,ho,hp]) (by simp[aV,la,mJ,eR,cE,ho,hp]);simp only[aw,ho,bV h hm,hp,qE,yw,hh,bg,if_pos hg,Ft hy]) hx
    ·cases hx
   ·cases hx
  ·cases hx
 |store t x y=>
  simp only[aw,ho]at hx;have hm:x∈o.op.operands.toList:=by simp[ho,da]
  have dV:y∈o.op.operands.toList:=by simp[ho,da]
  unfold vK at hx;split at hx
  ·rename_i z hz;split at hx
   ·rename_i cm;split at hx
    ·rename_i bX;split at hx
     ·rename_i key off hp;have l9:key∈(aV P lm env o).keys:=mem_keys hm (by rw[hp];simp[keyOf]);split at hx
      ·rename_i cs bg;split at hx
       ·rename_i hl;refine⟨.no,⟨none,some (key,eA cs off z.cells),none,none,none⟩,⟨λq hq=>by simp[keyOf]at hq,⟨λd h=>(by cases h),λk cs h=>by cases h;exact⟨l9,by simp[aV,ho,hp]⟩,λh=>(by cases h),λb ob h=>(by cases h),λr kb v h=>(by cases h),λb ob h=>(by cases h)⟩,λe2 U2 h k kp=>?_⟩,hx⟩;have hlk:=h.keys key l9;simp only[aw,ho,bV h hm,bV h dV,hp,hz,vK,if_pos cm,if_pos bX,hlk,bg,if_pos hl];rfl
       ·cases hx
      ·cases hx
     ·rename_i b off hp;split at hx
      ·rename_i cs wt bg;split at hx
       ·rename_i hl;have h2:(aV P lm env o).hp=2:=by show eJ P lm env o=2;simp[eJ,mL,eR,cE,ho,hp]
        have bR:(aV P lm env o).hb=some b:=by simp[aV,la,mJ,eR,cE,ho,hp]
        refine⟨.no,⟨none,none,none,some (b,.cells (eA cs off z.cells) (.rw _)),none⟩,⟨λq hq=>by simp[keyOf]at hq,⟨λd h=>(by cases h),λk cs h=>(by cases h),λh=>(by cases h),(λb' ob h=>by cases h;exact⟨h2,bR⟩),λr kb v h=>(by cases h),λb' ob h=>by simp[aV,vg,eR,cE]⟩,λe2 U2 h k kp=>?_⟩,hx⟩;have hh:=h.CL (by simp[aV,vg,eR,cE]) (by simp[aV,vQ,ho]) (by rw[h2];decide) b bR;simp only[aw,ho,bV h hm,bV h dV,hp,hz,vK,if_pos cm,if_pos bX,hh,bg,if_pos hl];rfl
       ·cases hx
      ·cases hx
     ·cases hx
    ·cases hx
   ·cases hx
  ·cases hx
 |nilCheck x=>
  simp only[aw,ho]at hx;have hm:x∈o.op.operands.toList:=by simp[ho,da]
  split at hx
  ·rename_i key off hp;exact qp (λq hq=>mem_keys hm (by rw[hp];exact hq)) (λe2 U2 h k kp=>by simp only[aw,ho,bV h hm,hp]) hx
  ·rename_i g off hp;exact qp (λq hq=>by simp[keyOf]at hq) (λe2 U2 h k kp=>by simp only[aw,ho,bV h hm,hp]) hx
  ·rename_i ad hp;exact fV (λe2 U2 h k kp=>by simp only[aw,ho,bV h hm,hp]) hx
  ·rename_i f l c hp;exact fV (λe2 U2 h k kp=>by simp only[aw,ho,bV h hm,hp]) hx
  ·cases hx
 |binOp op t x y t2=>
  simp only[aw,ho]at hx;have hm:x∈o.op.operands.toList:=by simp[ho,da]
  have dV:y∈o.op.operands.toList:=by simp[ho,da]
  split at hx
  ·rename_i p hp;split at hx
   ·rename_i q hq;have hn:tD x y p q=true:=by
     cases hn:tD x y p q with
     |true=>rfl
     |false=>rw[hn]at hx;cases hx
    rw[hn]at hx;obtain⟨z,hx,hz⟩:=Ug hx;exact fV (λe2 U2 h k kp=>by simp only[aw,ho,bV h hm,bV h dV,hp,hq,hn,cond,hz]) hx
   ·cases hx
  ·cases hx
 |unOp op t x=>
  simp only[aw,ho]at hx;have hm:x∈o.op.operands.toList:=by simp[ho,da]
  split at hx
  ·rename_i p hp;obtain⟨z,hx,hz⟩:=agz hx;exact fV (λe2 U2 h k kp=>by simp only[aw,ho,bV h hm,hp,hz]) hx
  ·cases hx
 |convert s d x=>
  have hs:w8 P s d=none:=by simpa[mD,ho]using l5
  simp only[aw,ho,hs]at hx;have hm:x∈o.op.operands.toList:=by simp[ho,da]
  split at hx
  ·rename_i p hp;by_cases Pr:p.lone=true
   ·obtain⟨z,hx,hz⟩:=Vn Pr hx;exact fV (λe2 U2 h k kp=>by simp only[aw,ho,hs,bV h hm,hp,hz]) hx
   ·obtain⟨z,hx,hz⟩:=Vo hx;exact fV (λe2 U2 h k kp=>by
     have hh:=h.heap (by
      show eJ P lm env o≠0;simp only[eJ,mL,eR,cE,ho,hp,if_neg Pr];decide) (by simp[aV,la,mJ,eR,cE,ho])
     simp only[aw,ho,hs,bV h hm,hp,hh,hz]) hx
  ·cases hx
 |makeFunc fn first captured=>
  simp only[aw,ho]at hx;have h1 (e2:Env) (h:∀x∈o.op.operands.toList,e2.get x=env.get x):first.toList.map e2.get=first.toList.map env.get:=
   zc λx hx=>h x (by simp only[ho,da,tT,cX];exact .inl hx)
  have h2 (e2:Env) (h:∀x∈o.op.operands.toList,e2.get x=env.get x):captured.toList.map e2.get=captured.toList.map env.get:=
   zc λx hx=>h x (by simp only[ho,da,tT,cX];exact .inr hx)
  split at hx
  ·split at hx
   ·rename_i l hl;split at hx
    ·rename_i c hc;exact fV (λe2 U2 h k kp=>by simp only[aw,ho,h1 e2 h.ops_,h2 e2 h.ops_,hl,hc]) hx
    ·cases hx
   ·cases hx
  ·cases hx
 |makeSlice t l c=>
  simp only[aw,ho]at hx;have hm:l∈o.op.operands.toList:=by simp[ho,da]
  have dV:c∈o.op.operands.toList:=by simp[ho,da]
  obtain⟨kl,nl,hl,hx⟩:=rK hx;obtain⟨kc,nc,hc,hx⟩:=rK hx;unfold zh at hx;split at hx
  ·rename_i e hu;split at hx
   ·rename_i z hz;split at hx
    ·rename_i Ec;refine Sf (v:=λb=>.slice (some (b,0)) nl.toNat (some nc.toNat) (aE P e)) (by show eJ P lm env o=2;simp[eJ,mL,eR,cE,ho]) (by simp[aV,la,mJ,eR,cE,ho]) (by simp[aV,vg,eR,cE]) (by simp[aV,vQ,ho]) (λe2 U2 h k kp=>?_) hx;simp only[aw,ho,bV h hm,bV h dV,hl,hc,fT,zh,hu,hz,if_pos Ec]
    ·cases hx
   ·cases hx
  ·cases hx
 |range t x=>simp[mD,ho]at l5
 |next it s=>simp[mD,ho]at l5
 |slice t x lo hi mx=>
  cases mx with
  |some m=>simp only[aw,ho]at hx;cases hx
  |none=>
   have hs:w7 P t=none:=by simpa[mD,ho]using l5
   simp only[aw,ho,hs]at hx;have hm:x∈o.op.operands.toList:=by simp[ho,da]
   have PI (e2:Env) (h:∀x∈o.op.operands.toList,e2.get x=env.get x):lo.map e2.get=lo.map env.get:=by
    cases lo with
    |none=>rfl
    |some l=>simp only[je];rw[h l (by simp[ho,da])]
   have hhi (e2:Env) (h:∀x∈o.op.operands.toList,e2.get x=env.get x):hi.map e2.get=hi.map env.get:=by
    cases hi with
    |none=>rfl
    |some l=>simp only[je];rw[h l (by simp[ho,da])]
   obtain⟨z,hx,hz⟩:=afB hx;exact fV (λe2 U2 h k kp=>by simp only[aw,ho,hs,bV h hm,PI e2 h.ops_,hhi e2 h.ops_,hz]) hx
 |fieldAddr s x f=>
  simp only[aw,ho]at hx;have hm:x∈o.op.operands.toList:=by simp[ho,da]
  split at hx
  ·rename_i fl hf;split at hx
   ·cases hx
   ·rename_i hs;split at hx
    ·rename_i key off hp;exact qp (λq hq=>mem_keys hm (by rw[hp];exact hq)) (λe2 U2 h k kp=>by simp only[aw,ho,bV h hm,hp,hf,if_neg hs]) hx
    ·rename_i g off hp;exact qp (λq hq=>by simp[keyOf]at hq) (λe2 U2 h k kp=>by simp only[aw,ho,bV h hm,hp,hf,if_neg hs]) hx
    ·rename_i b off hp;exact fV (λe2 U2 h k kp=>by simp only[aw,ho,bV h hm,hp,hf,if_neg hs]) hx
    ·cases hx
  ·cases hx
 |field s x f=>
  simp only[aw,ho]at hx;have hm:x∈o.op.operands.toList:=by simp[ho,da]
  split at hx
  ·rename_i fl hf;split at hx
   ·rename_i cs hp;obtain⟨y,hy,hx⟩:=rP hx;exact fV (λe2 U2 h k kp=>by simp only[aw,ho,bV h hm,hp,hf,Ft hy]) hx
   ·cases hx
  ·cases hx
 |indexAddr t x ix=>
  simp only[aw,ho]at hx;have hm:x∈o.op.operands.toList:=by simp[ho,da]
  have dV:ix∈o.op.operands.toList:=by simp[ho,da]
  obtain⟨kx,i,iI,hx⟩:=rK hx;split at hx
  ·rename_i n e hu;split at hx
   ·rename_i hb;split at hx
    ·rename_i key off hp;exact qp (λq hq=>mem_keys hm (by rw[hp];exact hq)) (λe2 U2 h k kp=>by simp only[aw,ho,bV h hm,bV h dV,hp,iI,fT,hu,if_pos hb]) hx
    ·rename_i g off hp;exact qp (λq hq=>by simp[keyOf]at hq) (λe2 U2 h k kp=>by simp only[aw,ho,bV h hm,bV h dV,hp,iI,fT,hu,if_pos hb]) hx
    ·rename_i b off hp;exact fV (λe2 U2 h k kp=>by simp only[aw,ho,bV h hm,bV h dV,hp,iI,fT,hu,if_pos hb]) hx
    ·cases hx
   ·cases hx
  ·rename_i e hu;split at hx
   ·rename_i key n hp;split at hx
    ·rename_i hb;exact qp (λq hq=>mem_keys hm (by rw[hp];exact hq)) (λe2 U2 h k kp=>by simp only[aw,ho,bV h hm,bV h dV,hp,iI,fT,hu,if_pos hb]) hx
    ·cases hx
   ·rename_i b off n cap sz hp;split at hx
    ·rename_i hb;split at hx
     ·rename_i hs;exact fV (λe2 U2 h k kp=>by simp only[aw,ho,bV h hm,bV h dV,hp,iI,fT,hu,if_pos hb,if_pos hs]) hx
     ·cases hx
    ·cases hx
   ·cases hx
  ·cases hx
 |index t x ix=>
  simp only[aw,ho]at hx;have hm:x∈o.op.operands.toList:=by simp[ho,da]
  have dV:ix∈o.op.operands.toList:=by simp[ho,da]
  obtain⟨kx,i,iI,hx⟩:=rK hx;split at hx
  ·rename_i n e hu;split at hx
   ·rename_i cs hp;split at hx
    ·rename_i hb;obtain⟨y,hy,hx⟩:=rP hx;exact fV (λe2 U2 h k kp=>by simp only[aw,ho,bV h hm,bV h dV,hp,iI,fT,hu,if_pos hb,Ft hy]) hx
    ·cases hx
   ·cases hx
  ·rename_i hu;split at hx
   ·rename_i s hp;split at hx
    ·rename_i hb;split at hx
     ·rename_i c hc;exact fV (λe2 U2 h k kp=>by simp only[aw,ho,bV h hm,bV h dV,hp,iI,fT,hu,if_pos hb,hc]) hx
     ·cases hx
    ·cases hx
   ·cases hx
  ·cases hx
 |extract x i=>
  simp only[aw,ho]at hx;have hm:x∈o.op.operands.toList:=by simp[ho,da]
  split at hx
  ·rename_i vs hp;split at hx
   ·rename_i y hy;exact fV (λe2 U2 h k kp=>by simp only[aw,ho,bV h hm,hp,hy]) hx
   ·cases hx
  ·cases hx
 |makeInterface t x=>
  simp only[aw,ho]at hx;have hm:x∈o.op.operands.toList:=by simp[ho,da]
  split at hx
  ·rename_i p hp;split at hx
   ·cases hx
   ·rename_i d hn hu;refine fV (λe2 U2 h k kp=>?_) hx;simp only[aw,ho,bV h hm,hp];split
    ·rename_i ms he;exact absurd (hu.symm.trans he) (λh=>hn ms (by simpa using h))
    ·rfl
    ·rename_i he;rw[he]at hu;cases hu
   ·cases hx
  ·cases hx
 |call c=>
  simp only[aw,ho]at hx;split at hx
  ·rename_i f hc;have hm:f∈o.op.operands.toList:=by simp[ho,da,qR,hc]
   have iF (e2:Env) (h:∀x∈o.op.operands.toList,e2.get x=env.get x):c.args.toList.map e2.get=c.args.toList.map env.get:=
    zc λx hx=>h x (by simp only[ho,da,qR,hc,tT,cX];exact .inr hx)
   split at hx
   ·rename_i jF first captured hf
    split at hx
    ·rename_i args ha;unfold ic at hx;split at hx
     ·rename_i v U' hr;have aP:(aV P lm env o).hb=none:=by simp[aV,la,mJ,eR,cE,ho]
      have h2:(aV P lm env o).hp=2:=by show eJ P lm env o=2;simp[eJ,mL,eR,cE,ho,hc]
      refine⟨.v v,⟨none,none,some U',none,none⟩,⟨λq hq=>by simp[keyOf]at hq,⟨λd h=>(by cases h),λk cs h=>(by cases h),λ_=>⟨h2,aP⟩,λb ob h=>(by cases h),λr kb v h=>(by cases h),λb ob h=>(by cases h)⟩,λe2 U2 h k kp=>?_⟩,hx⟩;have hh:=h.heap (by rw[h2];decide) aP;simp only[aw,ho,hc,bV h hm,hf,iF e2 h.ops_,ha,ic,hh,hr];rfl
     ·cases hx
     ·cases hx
    ·cases hx
   ·cases hx
  ·rename_i x name hc;simp[mD,ho,hc]at l5
  ·rename_i hc;split at hx
   ·rename_i t ts x xs ht ha;have hm:x∈o.op.operands.toList:=by simp[ho,da,qR,hc,mA ha]
    split at hx
    ·rename_i n hn;exact fV (λe2 U2 h k kp=>by simp only[aw,ho,hc,ht,ha,bV h hm,hn]) hx
    ·cases hx
   ·cases hx
  ·rename_i hc;split at hx
   ·rename_i t t2 s x ht ha;have hm:s∈o.op.operands.toList:=by simp[ho,da,qR,hc,mA ha]
    have dV:x∈o.op.operands.toList:=by simp[ho,da,qR,hc,mA ha]
    have aP:(aV P lm env o).hb=none:=by simp[aV,la,mJ,eR,cE,ho]
    have h2:(aV P lm env o).hp=2:=by show eJ P lm env o=2;simp[eJ,mL,eR,cE,ho,hc]
    split at hx
    ·rename_i e hu;split at hx
     ·rename_i e' dk;split at hx
      ·rename_i hz;obtain⟨z,U',hx,k9⟩:=KD hx;refine⟨.v z,⟨none,none,some U',none,none⟩,⟨λq hq=>by simp[keyOf]at hq,⟨λd h=>(by cases h),λk cs h=>(by cases h),λ_=>⟨h2,aP⟩,λb ob h=>(by cases h),λr kb v h=>(by cases h),λb ob h=>(by cases h)⟩,λe2 U2 h k kp=>?_⟩,hx⟩;have hh:=h.heap (by rw[h2];decide) aP;simp only[aw,ho,hc,ht,ha,hu,dk,if_pos hz,bV h hm,bV h dV,hh];rw[k9 e2 _ (λq hq=>h.keys q (mem_keys dV hq))];rfl
      ·cases hx
     ·rename_i dk;split at hx
      ·rename_i hz;obtain⟨z,U',hx,k9⟩:=KD hx;refine⟨.v z,⟨none,none,some U',none,none⟩,⟨λq hq=>by simp[keyOf]at hq,⟨λd h=>(by cases h),λk cs h=>(by cases h),λ_=>⟨h2,aP⟩,λb ob h=>(by cases h),λr kb v h=>(by cases h),λb ob h=>(by cases h)⟩,λe2 U2 h k kp=>?_⟩,hx⟩;have hh:=h.heap (by rw[h2];decide) aP;simp only[aw,ho,hc,ht,ha,hu,dk,if_pos hz,bV h hm,bV h dV,hh];rw[k9 e2 _ (λq hq=>h.keys q (mem_keys dV hq))];rfl
      ·cases hx
     ·cases hx
    ·cases hx
   ·cases hx
  ·rename_i hc;split at hx
   ·rename_i t ts x xs ht ha;have hm:x∈o.op.operands.toList:=by simp[ho,da,qR,hc,mA ha]
    split at hx
    ·rename_i n hn;exact fV (λe2 U2 h k kp=>by simp only[aw,ho,hc,ht,ha,bV h hm,hn]) hx
    ·cases hx
   ·cases hx
  ·rename_i hc;split at hx
   ·rename_i t t2 ts d x xs ht ha;have aP:(aV P lm env o).hb=none:=by simp[aV,la,mJ,eR,cE,ho]
    have h2:(aV P lm env o).hp=2:=by show eJ P lm env o=2;simp[eJ,mL,eR,cE,ho,hc]
    have hm:d∈o.op.operands.toList:=by simp[ho,da,qR,hc,mA ha]
    have dV:x∈o.op.operands.toList:=by simp[ho,da,qR,hc,mA ha]
    split at hx
    ·rename_i e hu;split at hx
     ·rename_i e' dk;split at hx
      ·rename_i hz;obtain⟨z,U',hx,k9⟩:=LN hx;refine⟨.v (.int .i64 z),⟨none,none,some U',none,none⟩,⟨λq hq=>by simp[keyOf]at hq,⟨λd h=>(by cases h),λk cs h=>(by cases h),λ_=>⟨h2,aP⟩,λb ob h=>(by cases h),λr kb v h=>(by cases h),λb ob h=>(by cases h)⟩,λe2 U2 h k kp=>?_⟩,hx⟩;have hh:=h.heap (by rw[h2];decide) aP;simp only[aw,ho,hc,ht,ha,hu,dk,if_pos hz,bV h hm,bV h dV,hh];rw[k9 e2 _ (λq hq=>h.keys q (mem_keys dV hq))];rfl
      ·cases hx
     ·rename_i dk;split at hx
      ·rename_i hz;obtain⟨z,U',hx,k9⟩:=LN hx;refine⟨.v (.int .i64 z),⟨none,none,some U',none,none⟩,⟨λq hq=>by simp[keyOf]at hq,⟨λd h=>(by cases h),λk cs h=>(by cases h),λ_=>⟨h2,aP⟩,λb ob h=>(by cases h),λr kb v h=>(by cases h),λb ob h=>(by cases h)⟩,λe2 U2 h k kp=>?_⟩,hx⟩;have hh:=h.heap (by rw[h2];decide) aP;simp only[aw,ho,hc,ht,ha,hu,dk,if_pos hz,bV h hm,bV h dV,hh];rw[k9 e2 _ (λq hq=>h.keys q (mem_keys dV hq))];rfl
      ·cases hx
     ·cases hx
    ·cases hx
   ·cases hx
  ·rename_i hc;have iF (e2:Env) (h:∀x∈o.op.operands.toList,e2.get x=env.get x):c.args.toList.map e2.get=c.args.toList.map env.get:=
    zc λx hx=>h x (by simp only[ho,da,qR,hc,tT,cX];exact .inr hx)
   split at hx
   ·rename_i kx m r hl;split at hx
    ·rename_i l hi;exact fV (λe2 U2 h k kp=>by simp only[aw,ho,hc,iF e2 h.ops_,hl,hi]) hx
    ·cases hx
   ·cases hx
  ·rename_i hc;have iF (e2:Env) (h:∀x∈o.op.operands.toList,e2.get x=env.get x):c.args.toList.map e2.get=c.args.toList.map env.get:=
    zc λx hx=>h x (by simp only[ho,da,qR,hc,tT,cX];exact .inr hx)
   split at hx
   ·rename_i kx m r hl;split at hx
    ·rename_i l hi;exact fV (λe2 U2 h k kp=>by simp only[aw,ho,hc,iF e2 h.ops_,hl,hi]) hx
    ·cases hx
   ·cases hx
  ·cases hx
 |panic x=>simp only[aw,ho]at hx;split at hx<;>cases hx
 |makeMap t r=>
  have hr:r=none:=by cases r with|none=>rfl|some _=>simp[mD,ho]at l5
  subst hr;simp only[aw,ho,zg,Option.map_none]at hx;split at hx
  ·rename_i kt et hu;refine Sf (v:=λb=>.map (some b)) (by show eJ P lm env o=2;simp[eJ,mL,eR,cE,ho]) (by simp[aV,la,mJ,eR,cE,ho]) (by simp[aV,vg,eR,cE]) (by simp[aV,vQ,ho]) (λe2 U2 h k kp=>?_) hx;simp only[aw,ho,zg,Option.map_none,hu]
  ·cases hx
 |lookup t x ix b=>
  simp only[aw,ho]at hx;have hm:x∈o.op.operands.toList:=by simp[ho,da]
  have dV:ix∈o.op.operands.toList:=by simp[ho,da]
  split at hx
  ·rename_i kt et hu;split at hx
   ·rename_i key hp;obtain⟨v,c,h1,h2⟩:=ade hx;refine fV (λe2 U2 h k kp=>?_) h1;simp only[aw,ho,hu,bV h hm,bV h dV,hp];exact h2 U2 (λr hr=>h.CL (by simp[aV,vg,eR,cE]) (by simp[aV,vQ,ho]) (by show eJ P lm env o≠0;simp[eJ,mL,eR,cE,ho,hr]) r (by simp[aV,la,mJ,eR,cE,ho,hr])) _
   ·cases hx
  ·cases hx
 |mapUpdate t m ix y=>
  simp only[aw,ho]at hx;have hm:m∈o.op.operands.toList:=by simp[ho,da]
  have dV:ix∈o.op.operands.toList:=by simp[ho,da]
  have Ek:y∈o.op.operands.toList:=by simp[ho,da]
  split at hx
  ·rename_i kt et hu;split at hx
   ·rename_i key v hp hq;obtain⟨U',h1,h4⟩:=agG hx;have h2:(aV P lm env o).hp=2:=by show eJ P lm env o=2;simp[eJ,mL,eR,cE,ho]
    have aP:(aV P lm env o).hb=none:=by simp[aV,la,mJ,eR,cE,ho]
    refine⟨.no,⟨none,none,some U',none,none⟩,⟨λq hq=>by simp[keyOf]at hq,⟨λd h=>(by cases h),λk cs h=>(by cases h),λ_=>⟨h2,aP⟩,λb ob h=>(by cases h),λr kb v h=>(by cases h),λb ob h=>(by cases h)⟩,λe2 U2 fo k kp=>?_⟩,h1⟩;rw[fo.heap (by rw[h2];decide) aP];simp only[aw,ho,hu,bV fo hm,bV fo dV,bV fo Ek,hp,hq];exact h4 _
   ·cases hx
  ·cases hx
 |insert t x ix y=>simp[mD,ho,cE]at l5
 |typeAssert x t ty b=>
  simp only[aw,ho]at hx;have hm:x∈o.op.operands.toList:=by simp[ho,da]
  obtain⟨y,h1,h2⟩:=Ub hx;exact fV (λe2 U2 h k kp=>by simp only[aw,ho,bV h hm];exact h1 _) h2
 |_=>simp only[aw,ho]at hx;cases hx
def Tv (P:Program) (lm:Nat) (call:bU) (o:Oper) (ops:Array Oper) (c:bN) (e:Env) (U:St) (t:TV) (δ:Delta):Prop:=
 (∀k,k∈keyOf t->k∈c.keys)/\δ.ok c (ez lm o)/\
 ∀e2 U2,ga o ops c e U e2 U2->∀k kp,kS P lm call e2 U2 o k kp=k t (δ.env e2) (δ.st U2)
def Tn (P:Program) (lm:Nat) (call:bU) (o:Oper) (ops:Array Oper) (env:Env) (U:St) (k:TV->Env->St->Out) (out:fH×St):Prop:=
 ∃t δ,Tv P lm call o ops (aV P lm env o) env U t δ/\k t (δ.env env) (δ.st U)=some out
theorem J6 {e:Env} {U:St} {kp:AV->Env->St->Out} (cE:oL P o=none) (h:pV P o=none):kS P lm call e U o k kp=aw P lm call e U o k kp:=by unfold kS;rw[h,cE]
theorem RJ {f:FuncId} (h:pV P o=some f):∃c,o.op=.call c/\c.callee=.value (.func f)/\RH P f=true:=by
 unfold pV at h;split at h
 ·rename_i c ho;split at h
  ·rename_i g hc;split at h
   ·rename_i hp;cases h;exact⟨c,ho,hc,hp⟩
   ·cases h
  ·cases h
 ·cases h
theorem Qo {b:Bool} (h:oL P o=some b):∃t m x kt et,o.op=.insert t m (.const (.bool b)) x/\P.underlying t=some (.map kt et)/\P.underlying kt=some .bool:=by
 unfold oL at h;split at h
 ·rename_i t m b' x ho;split at h
  ·rename_i kt et hu;split at h
   ·rename_i hk;cases h;exact⟨t,m,x,kt,et,ho,hu,hk⟩
   ·cases h
  ·cases h
 ·cases h
theorem RI {f:FuncId} {args:List AV} {k:AV->Out} (h:pU call f args U k=some out):
  ∃g p v U',U[1]? =some (.know g p)/\call f args [.dead,.know g p]=some (.ret v,U')/\v.flat=true/\args.all AV.flat=true/\k v=some out:=by
 unfold pU at h;split at h
 ·rename_i g p hs;split at h
  ·rename_i v U' hc;split at h
   ·rename_i hf;exact⟨g,p,v,U',hs,hc,hf.1,hf.2,h⟩
   ·cases h
  ·cases h
 ·cases h
theorem Tf (l5:mD P o=true) (hx:kS P lm call env U o k (λ_ _ _=>none)=some out):Tn P lm call o ops env U k out:=by
 cases hp:pV P o with
 |none=>
  cases cE:oL P o with
  |none=>
   rw[J6 cE hp]at hx;obtain⟨t,δ,⟨h1,h2,h3⟩,hk⟩:=agV (ops:=ops) cE hp l5 hx;exact⟨t,δ,⟨h1,h2,λe2 U2 ha k kp=>by rw[J6 cE hp];exact h3 e2 U2 ha k kp⟩,hk⟩
  |some b=>
   obtain⟨t,m,x,kt,et,ho,hu,nF⟩:=Qo cE;have hm:m∈o.op.operands.toList:=by simp[ho,da]
   have dV:x∈o.op.operands.toList:=by simp[ho,da]
   simp only[kS,hp,cE,ho]at hx;split at hx
   ·rename_i r v hr hv;have gy:vh env o=some r:=by rw[<-hr]
    unfold nO at hx;cases hf:mH b U[r]? with
    |false=>rw[hf]at hx;cases hx
    |true=>
     rw[hf]at hx;have h2:(aV P lm env o).hp=2:=by show eJ P lm env o=2;simp[eJ,hp,cE]
     have bR:(aV P lm env o).hb=some r:=by simp[aV,la,hp,cE,gy]
     have yJ:(aV P lm env o).ik=some b:=by simp[aV,vg,hp,cE]
     refine⟨.no,⟨none,none,none,none,some (r,b,v)⟩,⟨λq hq=>by simp[keyOf]at hq,⟨λd h=>(by cases h),λk cs h=>(by cases h),λh=>(by cases h),λb ob h=>(by cases h),λr' b' v' h=>(by cases h;exact⟨h2,bR,yJ⟩),λb ob h=>(by cases h)⟩,λe2 U2 h k kp=>?_⟩,hx⟩;have hg:=h.blk (by rw[h2];decide) r bR;rw[yJ,show(aV P lm env o).vw=none by simp[aV,vQ,ho]]at hg;have HY:mH b U2[r]? =true:=Eq.trans (show mH b U2[r]? =mH b U[r]? from hg) hf;have Ek:vh e2 o=some r:=by rw[<-gy];simp only[vh,ho,bV h hm]
     simp only[kS,hp,cE,ho]at Ek|-;rw[Ek,bV h dV,hv];simp only[nO,HY,cond_true];rfl
   ·cases hx
 |some f=>
  obtain⟨c,ho,hc,_⟩:=RJ hp;simp only[kS,hp,ho]at hx;split at hx
  ·rename_i args iF;obtain⟨g,p,v,U',hs,eN,hv,ha,hx⟩:=RI hx;refine⟨.v v,.id,⟨λq hq=>by simp[keyOf]at hq,⟨λd h=>(by cases h),λk cs h=>(by cases h),λh=>(by cases h),λb ob h=>(by cases h),λr kb v h=>(by cases h),λb ob h=>(by cases h)⟩,λe2 U2 h k kp=>?_⟩,hx⟩;have hm:c.args.toList.map e2.get=c.args.toList.map env.get:=
    zc λx hx=>h.ops_ x (by simp only[ho,da,qR,hc,tT,cX];exact .inr hx)
   have hb:U2[1]? =U[1]?:=h.CL (by simp[aV,vg,hp]) (by simp[aV,vQ,ho]) (by simp[aV,eJ,hp]) 1 (by simp[aV,la,hp]);simp only[kS,hp,ho,hm,iF,pU,hb,hs,eN];rw[if_pos ⟨hv,ha⟩];rfl
  ·cases hx
end
end Go.AM
end
section
namespace Go.AM
open Go.RowKit
noncomputable def ny (P:Program) (lm:Nat) (call:bU) (ops:Array Oper) (o:Oper) (env:Env) (U:St) (k:TV->Env->St->Out):Out:=
 match o.guard with
 |none=>kS P lm call env U o k (λ_ _ _=>none)
 |some (j,want)=>
  match (ops[j]?).bind (·.dst)with
  |some d=>match env.tmps.getD d .no with
   | .v (.bool b)=>if b=want then kS P lm call env U o k (λ_ _ _=>none)else k (.v (.tuple [])) env U
   | .v (.tuple [])=>k (.v (.tuple [])) env U
   |_=>none
  |none=>none
def GU (P:Program) (lm:Nat) (call:bU) (ops:Array Oper) (o:Oper) (c:bN) (e:Env) (U:St) (t:TV) (δ:Delta):Prop:=
 (∀k,k∈keyOf t->k∈c.keys)/\δ.ok c (ez lm o)/\(∀d∈ez lm o,d∈c.keys/\c.w=true)/\
 (∀e2 U2,ga o ops c e U e2 U2->∀k,ny P lm call ops o e2 U2 k=k t (δ.env e2) (δ.st U2))/\
 ∀s1 s2,c.tr=some (s1,s2)->c.hp=2/\c.hb=none/\s1=U/\s2=δ.st U
section
variable {P:Program} {lm:Nat} {call:bU} {ops:Array Oper} {out:fH×St} {k:Env->St->Out}
theorem ga.refl (o:Oper) (c:bN) (e:Env) (U:St):ga o ops c e U e U:=⟨λ_ _=>rfl,λ_ _ _ _ _=>rfl,rfl,λ_ _=>rfl,λ_ _=>rfl,λ_ _ _=>.of_eq rfl⟩
theorem ga.trans {o:Oper} {c:bN} {e1 e2 e3:Env} {U1 U2 U3:St} (h:ga o ops c e1 U1 e2 U2) (g:ga o ops c e2 U2 e3 U3):ga o ops c e1 U1 e3 U3:=
 ⟨λx hx=>(g.ops_ x hx).trans (h.ops_ x hx),λj want d h1 h2=>(g.guard j want d h1 h2).trans (h.guard j want d h1 h2),g.slot.trans h.slot,λq hq=>(g.keys q hq).trans (h.keys q hq),λhh hb=>(g.heap hh hb).trans (h.heap hh hb),λhh b hb=>(h.blk hh b hb).trans (g.blk hh b hb)⟩
theorem GU.move {o:Oper} {c:bN} {e e':Env} {U U':St} {t:TV} {δ:Delta} (h:GU P lm call ops o c e U t δ) (g:ga o ops c e U e' U'):GU P lm call ops o c e' U' t δ:=
 ⟨h.1,h.2.1,h.2.2.1,λe2 U2 ha k=>h.2.2.2.1 e2 U2 (g.trans ha) k,λs1 s2 ht=>by
  obtain⟨h1,h2,h3,h4⟩:=h.2.2.2.2 s1 s2 ht;have:=g.heap (by rw[h1];decide) h2;subst this;exact⟨h1,h2,h3,h4⟩⟩
def Kg (P:Program) (lm:Nat) (call:bU) (ops:Array Oper) (o:Oper) (c:bN) (e:Env) (U:St) (t:TV) (δ:Delta):Prop:=
 (∀k,k∈keyOf t->k∈c.keys)/\δ.ok c (ez lm o)/\(∀d∈ez lm o,d∈c.keys/\c.w=true)/\
 ∀e2 U2,ga o ops c e U e2 U2->∀k,ny P lm call ops o e2 U2 k=k t (δ.env e2) (δ.st U2)
theorem aaM {o:Oper} {env:Env} {U:St} {k:TV->Env->St->Out} (l5:mD P o=true) (h:ny P lm call ops o env U k=some out):∃t δ,Kg P lm call ops o (aV P lm env o) env U t δ/\k t (δ.env env) (δ.st U)=some out:=by
 have dc:∀d∈ez lm o,d∈(aV P lm env o).keys/\(aV P lm env o).w=true:=by
  intro d hd;refine⟨IX hd,?_⟩;have bD:(ez lm o).isEmpty=false:=by cases hn:ez lm o<;>simp_all
  unfold aV;simp only;split
  ·rename_i t x y eF;exfalso;unfold ez at hd;rw[eF]at hd;simp at hd
  ·rw[bD];rfl
 unfold ny at h;split at h
 ·rename_i hg;obtain⟨t,δ,⟨h1,h2,h3⟩,hk⟩:=Tf (ops:=ops) l5 h;exact⟨t,δ,⟨h1,h2,dc,λe2 U2 ha k=>by unfold ny;rw[hg];exact h3 e2 U2 ha k _⟩,hk⟩
 ·rename_i j want hg;split at h
  ·rename_i d hd;have skip (hk:k (.v (.tuple [])) env U=some out) (hs:∀e2 U2,ga o ops (aV P lm env o) env U e2 U2->∀k,ny P lm call ops o e2 U2 k=k (.v (.tuple [])) e2 U2):∃t δ,Kg P lm call ops o (aV P lm env o) env U t δ/\k t (δ.env env) (δ.st U)=some out:=
    ⟨.v (.tuple []),.id,⟨λq hq=>by simp[keyOf]at hq,⟨λd h=>(by cases h),λk cs h=>(by cases h),λh=>(by cases h),λb ob h=>(by cases h),λr kb v h=>(by cases h),λb ob h=>(by cases h)⟩,dc,hs⟩,hk⟩
   split at h
   ·rename_i b hb;split at h
    ·rename_i hw;obtain⟨t,δ,⟨h1,h2,h3⟩,hk⟩:=Tf (ops:=ops) l5 h;refine⟨t,δ,⟨h1,h2,dc,λe2 U2 ha k=>?_⟩,hk⟩;have rq:=ha.guard j want d hg hd;unfold ny;simp only[hg,hd,rq,hb,if_pos hw];exact h3 e2 U2 ha k _
    ·rename_i hw;refine skip h λe2 U2 ha k=>?_;have rq:=ha.guard j want d hg hd;unfold ny;simp only[hg,hd,rq,hb,if_neg hw]
   ·rename_i hb;refine skip h λe2 U2 ha k=>?_;have rq:=ha.guard j want d hg hd;unfold ny;simp only[hg,hd,rq,hb]
   ·cases h
  ·cases h
theorem aaL {o:Oper} {env:Env} {U:St} {k:TV->Env->St->Out} (l5:mD P o=true) (h:ny P lm call ops o env U k=some out):∃t δ,GU P lm call ops o ((aV P lm env o).kG U (δ.st U)) env U t δ/\k t (δ.env env) (δ.st U)=some out:=by
 obtain⟨t,δ,⟨h1,h2,h3,h4⟩,hk⟩:=aaM l5 h;refine⟨t,δ,⟨h1,⟨h2.kill,h2.setl,h2.heap,h2.put,h2.ins,h2.pik⟩,h3,λe2 U2 ha k=>h4 e2 U2 ⟨ha.ops_,ha.guard,ha.slot,ha.keys,ha.heap,ha.blk⟩ k,λs1 s2 ht=>?_⟩,hk⟩;simp only[bN.kG]at ht|-;split at ht
 ·rename_i hc;simp only[gH,beq_iff_eq,Option.isNone_iff_eq_none]at hc;cases ht;exact⟨hc.1,hc.2,rfl,rfl⟩
 ·cases ht
def bN.Sep (a b:bN):Prop:=(∃x y,a.hb=some x/\b.hb=some y/\x≠y)\/(b.hp=1/\∃y s1 s2,b.hb=some y/\a.tr=some (s1,s2)/\nR b.vw s2[y]? =nR b.vw s1[y]?)\/(∃x k1 k2,a.hb=some x/\b.hb=some x/\a.ik=some k1/\b.ik=some k2/\k1≠k2/\a.vw=none/\b.vw=none)
structure bN.qT (a b:bN):Prop where
 key:∀q,q∈a.keys->q∈b.keys->a.w=false/\b.w=false
 fst:a.hp=2->b.hp≠0->a.Sep b
 snd:b.hp=2->a.hp≠0->b.Sep a
theorem bN.qT.sym {a b:bN} (h:a.qT b):b.qT a:=⟨λq h1 h2=>⟨(h.key q h2 h1).2,(h.key q h2 h1).1⟩,h.snd,h.fst⟩
inductive DR (P:Program) (lm:Nat) (call:bU) (ops:Array Oper) (k:Env->St->Out) (out:fH×St):List (Nat×Oper×bN)->Env->St->Prop
 |nil (e:Env) (U:St) (h:k e U=some out):DR P lm call ops k out [] e U
 |cons (i:Nat) (o:Oper) (c:bN) (r:List (Nat×Oper×bN)) (e:Env) (U:St) (t:TV) (δ:Delta) (h:GU P lm call ops o c e U t δ)
   (hr:DR P lm call ops k out r ((δ.env e).put o.dst t) (δ.st U)):DR P lm call ops k out ((i,o,c)::r) e U
def Good (ops:Array Oper) (anc:List Nat) (lm:Nat) (x y:Nat×Oper×bN):Prop:=
 ((anc.getD y.1 0).testBit x.1=true\/(Oper.apart ops x.2.1 y.2.1=true/\x.2.2.qT y.2.2))/\∀d∈ez lm y.2.1,d∉x.2.2.keys
def vY (lm:Nat) (l:List (Nat×Oper×bN)) (e:Env):Prop:=∀x∈l,∀d∈ez lm x.2.1,∀t∈e.tmps,d∉keyOf t
theorem aca {d:Nat} {t:TV} (h:d∉keyOf t):vk d t=t:=by
 cases t with
 |lp k off=>simp[keyOf]at h;simp[vk];omega
 |ls k n=>simp[keyOf]at h;simp[vk];omega
 |_=>rfl
theorem adk {d:Nat} {l:List TV} (h:∀t∈l,d∉keyOf t):l.map (vk d)=l:=by
 exact(List.map_congr_left (f:=vk d) (g:=id) λt ht=>aca (h t ht)).trans (List.map_id l)
theorem Delta.xE {δ:Delta} {c:bN} {o:Oper} {e:Env} (h:δ.ok c (ez lm o)) (hf:∀d∈ez lm o,∀t∈e.tmps,d∉keyOf t):(δ.env e).tmps=e.tmps:=by
 unfold Delta.env;simp only;split
 ·rename_i d hd;exact adk (hf d (h.kill d hd))
 ·rfl
theorem tF (e:Env) (dst:Option Tmp) (t:TV):(e.put dst t).tmps=match dst with|some d=>e.tmps.set d t|none=>e.tmps:=by
 cases dst<;>rfl
theorem B4 (e:Env) (dst:Option Tmp) (t:TV):(e.put dst t).locs=e.locs:=by
 cases dst<;>rfl
theorem Fx (e:Env) (dst:Option Tmp) (t:TV):(e.put dst t).defs=e.defs:=by
 cases dst<;>rfl
theorem CX (δ:Delta) (e:Env):(δ.env e).defs=e.defs:=rfl
theorem HA {e:Env} {dst:Option Tmp} {t:TV} {u:Nat} (h:∀d,dst=some d->d≠u):(e.put dst t).tmps.getD u .no=e.tmps.getD u .no:=by
 cases dst with
 |none=>rfl
 |some d=>simp only[tF,gq];rw[aD (h d rfl)]
theorem aaz {a b:bN} (h:a.Gu b=false) (hn:∀p∈a.E7 b,p.1≠p.2) (h1:∀p∈a.vj b,p.ok) (h2:∀p∈b.vj a,p.ok)
  (ta:a.hp=2->a.hb=none->a.tr.isSome=true) (tb:b.hp=2->b.hb=none->b.tr.isSome=true):a.qT b:=by
 unfold bN.Gu at h;simp only[Bool.or_eq_false_iff]at h;obtain⟨⟨hk,hf⟩,hs⟩:=h;have sep (a b:bN) (hf:(a.hp==2&&b.hp !=0&&a.Fk b)=false) (hn:∀x y,a.hb=some x->b.hb=some y->a.hp=2->b.hp≠0->x≠y\/∃k1 k2,a.ik=some k1/\b.ik=some k2/\k1≠k2/\a.vw=none/\b.vw=none) (h1:∀p∈a.vj b,p.ok) (ta:a.hp=2->a.hb=none->a.tr.isSome=true)
   (ha:a.hp=2) (hb:b.hp≠0):a.Sep b:=by
  have e1:(a.hp==2)=true:=by simp[ha]
  have e2:(b.hp !=0)=true:=by simp[hb]
  rw[e1,e2]at hf;simp only[Bool.and_self,Bool.true_and]at hf;unfold bN.Fk at hf;split at hf
  ·rename_i x y hx hy;rcases hn x y hx hy ha hb with h|⟨k1,k2,g1,g2,g3⟩
   ·exact .inl ⟨x,y,hx,hy,h⟩
   ·by_cases wW:x=y
    ·subst wW;exact .inr (.inr ⟨x,k1,k2,hx,hy,g1,g2,g3⟩)
    ·exact .inl ⟨x,y,hx,hy,wW⟩
  ·rename_i y hx hy;right;left;have lX:b.hp=1:=by simpa using hf
   cases ht:a.tr with
   |none=>have:=ta ha hx;rw[ht]at this;cases this
   |some q=>
    obtain⟨s1,s2⟩:=q;refine⟨lX,y,s1,s2,hy,rfl,?_⟩;exact h1 (s1,s2,y,b.vw) (by unfold bN.vj;simp[lX,hy,ht])
  ·cases hf
 have two (x y:Nat) (hx:a.hb=some x) (hy:b.hb=some y) (hw:a.hp=2/\b.hp≠0\/b.hp=2/\a.hp≠0):x≠y\/∃k1 k2,a.ik=some k1/\b.ik=some k2/\k1≠k2/\a.vw=none/\b.vw=none:=by
  cases hi:a.IF b with
  |true=>
   right;unfold bN.IF at hi;split at hi
   ·rename_i k1 k2 g1 g2;simp only[gH,bne_iff_ne,Option.isNone_iff_eq_none]at hi;exact⟨k1,k2,g1,g2,hi.1.1,hi.1.2,hi.2⟩
   ·cases hi
  |false=>
   left;refine hn (x,y) ?_;unfold bN.E7;have hc:(a.hp==2&&b.hp !=0||b.hp==2&&a.hp !=0)=true:=by
    rcases hw with⟨h1,h2⟩|⟨h1,h2⟩
    ·simp[h1,h2]
    ·have e1:(b.hp==2&&a.hp !=0)=true:=by simp[h1,h2]
     rw[e1,Bool.or_true]
   rw[hc,hi,hx,hy];simp
 refine⟨λq ha hb=>?_,λha hb=>sep a b hf (λx y hx hy h1 h2=>two x y hx hy (.inl ⟨h1,h2⟩)) h1 ta ha hb,λha hb=>sep b a hs (λx y hx hy h1 h2=>?_) h2 tb ha hb⟩
 ·simp only[Bool.and_eq_false_iff,Bool.or_eq_false_iff]at hk;rcases hk with hk|hk
  ·exact hk
  ·exfalso
   rw[Bool.eq_false_iff]at hk;exact hk (List.any_eq_true.2 ⟨q,ha,by simpa using hb⟩)
 ·rcases two y x hy hx (.inr ⟨h1,h2⟩)with h|⟨k1,k2,g1,g2,g3⟩
  ·exact .inl h.symm
  ·exact .inr ⟨k2,k1,g2,g1,g3.1.symm,g3.2.2,g3.2.1⟩
theorem Qw:∀{l:List Kp} {x:Out},dS l x=some out->(∀p∈l,p.ok)/\x=some out
 | [],_,h=>⟨λp hp=>(by cases hp),h⟩
 |q::r,x,h=>by
  unfold dS BO at h;split at h
  ·rename_i he;obtain⟨h1,h2⟩:=Qw h;refine⟨λp hp=>?_,h2⟩;rcases bS.1 hp with rfl|hp
   ·exact he
   ·exact h1 p hp
  ·cases h
theorem IJ {anc:List Nat} {i:Nat} {c:bN}:∀{acc:List (Nat×Oper×bN)},(∀p∈tq anc i c acc,p.ok)->∀x∈acc,(anc.getD i 0).testBit x.1=false->
  (∀p∈x.2.2.vj c,p.ok)/\∀p∈c.vj x.2.2,p.ok
 | [],_,x,hx,_=>by cases hx
 |(j,oj,cj)::r,h,x,hx,ht=>by
  unfold tq at h;rcases bS.1 hx with rfl|hx
  ·rw[if_neg (by simp only at ht;rw[ht];decide)]at h;exact⟨λp hp=>h p (by simp[hp]),λp hp=>h p (by simp[hp])⟩
  ·split at h
   ·exact IJ h x hx ht
   ·exact IJ (λp hp=>h p (by simp[hp])) x hx ht
theorem KC:∀{l:List (Nat×Nat)} {x:Out},lN l x=some out->(∀p∈l,p.1≠p.2)/\x=some out
 | [],_,h=>⟨λp hp=>(by cases hp),h⟩
 |(a,b)::r,x,h=>by
  unfold lN at h;split at h
  ·cases h
  ·rename_i bD;obtain⟨h1,h2⟩:=KC h;refine⟨λp hp=>?_,h2⟩;rcases bS.1 hp with rfl|hp
   ·exact bD
   ·exact h1 p hp
theorem I1 {anc:List Nat} {i:Nat} {c:bN}:∀{acc:List (Nat×Oper×bN)},(∀p∈xm anc i c acc,p.1≠p.2)->∀x∈acc,(anc.getD i 0).testBit x.1=false->∀p∈x.2.2.E7 c,p.1≠p.2
 | [],_,x,hx,_,_,_=>by cases hx
 |(j,oj,cj)::r,h,x,hx,ht,p,hp=>by
  unfold xm at h;rcases bS.1 hx with rfl|hx
  ·rw[if_neg (by simp only at ht;rw[ht];decide)]at h;exact h p (cX.2 (.inl hp))
  ·split at h
   ·exact I1 h x hx ht p hp
   ·exact I1 (λp hp=>h p (cX.2 (.inr hp))) x hx ht p hp
theorem Delta.cases {δ:Delta} {c:bN} {new:List Nat} (h:δ.ok c new):(∃b ob,(∀U,δ.st U=U.set b ob)/\c.hp=2/\c.hb=some b/\c.ik=none)\/(∃r kb v,(∀U,δ.st U=iO U r kb v)/\c.hp=2/\c.hb=some r/\c.ik=some kb)\/
  (∃s,(∀U,δ.st U=s)/\c.hp=2/\c.hb=none)\/∀U,δ.st U=U:=by
 cases hp:δ.put with
 |some q=>exact .inl ⟨q.1,q.2,λU=>by unfold Delta.st;rw[hp],(h.put _ _ hp).1,(h.put _ _ hp).2,h.pik _ _ hp⟩
 |none=>
  cases hi:δ.ins with
  |some q=>exact .inr (.inl ⟨q.1,q.2.1,q.2.2,λU=>by unfold Delta.st;rw[hp,hi],h.ins _ _ _ hi⟩)
  |none=>
   cases hh:δ.heap with
   |some s=>exact .inr (.inr (.inl ⟨s,λU=>by unfold Delta.st;rw[hp,hi,hh];rfl,h.heap (by rw[hh];rfl)⟩))
   |none=>exact .inr (.inr (.inr λU=>by unfold Delta.st;rw[hp,hi,hh];rfl))
theorem tC {U:St} {r:Nat} {b:Bool} {v:AV} {es:List (AV×AV)} (h:U[r]? =some (.map es)):iO U r b v=U.set r (.map (lj (.bool b) v es)):=by unfold iO;rw[h]
theorem xi {U:St} {r:Nat} {b:Bool} {v:AV} (h:∀es,U[r]?≠some (.map es)):iO U r b v=U:=by
 unfold iO;split
 ·rename_i es he;exact absurd he (h es)
 ·rfl
theorem IZ {U:St} {r q:Nat} {b:Bool} {v:AV} (h:q≠r):(iO U r b v)[q]? =U[q]?:=by
 unfold iO;split
 ·exact aD h.symm
 ·rfl
theorem abX {b c:Bool} (h:b≠c) (u v:AV) (es:List (AV×AV)):lj (.bool b) u (lj (.bool c) v es)=lj (.bool c) v (lj (.bool b) u es):=by
 cases b<;>cases c<;>first|exact absurd rfl h|rfl
theorem aaB {U:St} {r:Nat} {b c:Bool} {v:AV} (h:b≠c):mH b (iO U r c v)[r]? =mH b U[r]?:=by
 unfold iO;split
 ·rename_i es he;have hl:r<U.length:=(bl.1 he).1;rw[cM hl,he];have hn:(c !=b)=true:=by simpa using h.symm
  unfold mH lj;cases c
  ·simp only[List.all_cons,hn,Bool.true_and]
  ·simp only[List.all_append,List.all_cons,List.all_nil,hn,Bool.and_true]
 ·rfl
theorem I0 {U:St} {r q:Nat} {b:Bool} {v:AV} {ob:aq} (h:q≠r):iO (U.set q ob) r b v=(iO U r b v).set q ob:=by
 by_cases hm:∃es,U[r]? =some (.map es)
 ·obtain⟨es,he⟩:=hm;rw[tC he,tC (by rw[aD h];exact he)];exact List.set_comm _ _ h
 ·have kB:∀es,U[r]?≠some (.map es):=λes he=>hm ⟨es,he⟩;rw[xi kB,xi (λes=>by rw[aD h];exact kB es)]
theorem adr {U:St} {r q:Nat} {b c:Bool} {u v:AV} (h:r≠q\/b≠c):iO (iO U q c v) r b u=iO (iO U r b u) q c v:=by
 by_cases hq:r=q
 ·subst hq;have h:b≠c:=h.resolve_left λh=>h rfl;by_cases hm:∃es,U[r]? =some (.map es)
  ·obtain⟨es,he⟩:=hm;have hl:r<U.length:=(bl.1 he).1;have s1 (x:List (AV×AV)):(U.set r (.map x))[r]? =some (.map x):=cM hl;rw[tC he,tC he,tC (s1 _),tC (s1 _),se,se,abX h]
  ·have kB:∀es,U[r]?≠some (.map es):=λes he=>hm ⟨es,he⟩;rw[xi (v:=v) (b:=c) kB,xi (v:=u) (b:=b) kB,xi (v:=v) (b:=c) kB]
 ·by_cases hm:∃es,U[q]? =some (.map es)
  ·obtain⟨es,he⟩:=hm;rw[tC he,I0 (cY hq)];have:(iO U r b u)[q]? =some (.map es):=by rw[IZ (cY hq)];exact he
   rw[tC this]
  ·have kB:∀es,U[q]?≠some (.map es):=λes he=>hm ⟨es,he⟩;rw[xi kB,xi (U:=iO U r b u) (λes he=>kB es (by rwa [IZ (cY hq)]at he))]
theorem Kx {x y:Oper} {cx cy:bN} {e:Env} {U:St} {t:TV} {δ:Delta} (hg:GU P lm call ops x cx e U t δ) (k9:∀d,x.dst=some d->d∉y.looksAt ops) (jk:∀d,x.dst=some d->y.dst≠some d) (ig:cx.qT cy)
  (hf:∀d∈ez lm x,∀t∈e.tmps,d∉keyOf t):ga y ops cy ((δ.env e).put x.dst t) (δ.st U) e U:=by
 have wU:=Delta.xE hg.2.1 hf;refine⟨λp hp=>?_,λj want d rq hd=>?_,?_,λq hq=>?_,λhh aP=>?_,λhh b ie=>?_⟩
 ·cases p with
  |tmp u=>
   have hu:u∈y.looksAt ops:=by
    unfold Oper.looksAt;exact cX.2 (.inl (List.mem_filterMap.2 ⟨.tmp u,hp,rfl⟩))
   show e.tmps.getD u .no=((δ.env e).put x.dst t).tmps.getD u .no;rw[HA (λd hd he=>k9 d hd (he▸hu)),wU]
  |_=>rfl
 ·have hu:d∈y.looksAt ops:=by
   unfold Oper.looksAt;refine cX.2 (.inr ?_);rw[rq];simp only;rw[hd];simp
  rw[HA (λd' oF he=>k9 d' oF (he▸hu)),wU]
 ·unfold Env.kI;cases hy:y.dst with
  |none=>rfl
  |some u=>simp only;rw[HA (λd hd he=>jk d hd (by rw[hy,he])),wU]
 ·rw[B4];unfold Delta.env;simp only;split
  ·rename_i kx cs hs;have:=hg.2.1.setl kx cs hs;by_cases PZ:q=kx
   ·subst PZ;have:=(ig.key _ this.1 hq).1
    simp_all
   ·rw[IT _ _ _ PZ]
  ·rfl
 ·have no (h2:cx.hp=2):False:=by
   rcases ig.fst h2 hh with⟨x,y,_,hy,_⟩|⟨_,y,s1,s2,hy,_⟩|⟨x,k1,k2,_,hy,_⟩<;>(rw[aP]at hy;cases hy)
  rcases Delta.cases hg.2.1 with⟨b,ob,_,h2,_⟩|⟨r,kb,v,_,h2,_⟩|⟨s,_,h2,_⟩|h
  ·exact(no h2).elim
  ·exact(no h2).elim
  ·exact(no h2).elim
  ·exact(h U).symm
 ·have tr (h:cy.hp=1/\∃y s1 s2,cy.hb=some y/\cx.tr=some (s1,s2)/\nR cy.vw s2[y]? =nR cy.vw s1[y]?):mz cy.ik cy.vw (δ.st U)[b]? U[b]?:=by
   obtain⟨_,y,s1,s2,hy,ht,he⟩:=h;rw[ie]at hy;cases hy;obtain⟨_,_,h3,h4⟩:=hg.2.2.2.2 s1 s2 ht;subst h3;subst h4;exact .adN he.symm
  rcases Delta.cases hg.2.1 with⟨b',ob,h1,h2,h3,h4⟩|⟨r,kb,v,h1,h2,h3,h4⟩|⟨s,h1,h2,h3⟩|h
  ·rcases ig.fst h2 hh with⟨x,y,hx,hy,bD⟩|h|⟨x,k1,k2,hx,hy,g1,_⟩
   ·rw[ie]at hy;cases hy;rw[h3]at hx;cases hx;rw[h1];exact .of_eq (aD bD).symm
   ·exact tr h
   ·rw[h4]at g1;cases g1
  ·rcases ig.fst h2 hh with⟨x,y,hx,hy,bD⟩|h|⟨x,k1,k2,hx,hy,g1,g2,g3,_,g5⟩
   ·rw[ie]at hy;cases hy;rw[h3]at hx;cases hx;rw[h1];exact .of_eq (IZ bD.symm).symm
   ·exact tr h
   ·rw[ie]at hy;cases hy;rw[h3]at hx;cases hx;rw[h4]at g1;cases g1;rw[g2,g5,h1];exact(aaB g3.symm).symm
  ·rcases ig.fst h2 hh with⟨x,y,hx,hy,bD⟩|h|⟨x,k1,k2,hx,hy,g1,_⟩
   ·rw[h3]at hx;cases hx
   ·exact tr h
   ·rw[h3]at hx;cases hx
  ·exact .of_eq (by rw[h])
theorem wB {a b:bN} (h:a.qT b) (ha:a.hp=2) (hb:b.hp=2):∃x y,a.hb=some x/\b.hb=some y/\(x≠y\/∃k1 k2,a.ik=some k1/\b.ik=some k2/\k1≠k2/\a.vw=none/\b.vw=none):=by
 rcases h.fst ha (by rw[hb];decide)with⟨x,y,h1,h2,h3⟩|⟨h1,_⟩|⟨x,k1,k2,h1,h2,h3⟩
 ·exact⟨x,y,h1,h2,.inl h3⟩
 ·rw[hb]at h1;cases h1
 ·exact⟨x,x,h1,h2,.inr ⟨k1,k2,h3⟩⟩
theorem afT {x y:Oper} {cx cy:bN} {e:Env} {U:St} {tx ty:TV} {jx jZ:Delta} (hx:GU P lm call ops x cx e U tx jx) (hy:GU P lm call ops y cy e U ty jZ)
  (k9:Oper.apart ops x y=true) (ig:cx.qT cy) (pB:∀d∈ez lm x,∀t∈e.tmps,d∉keyOf t) (HX:∀d∈ez lm y,∀t∈e.tmps,d∉keyOf t):
  (jx.env ((jZ.env e).put y.dst ty)).put x.dst tx=(jZ.env ((jx.env e).put x.dst tx)).put y.dst ty/\jx.st (jZ.st U)=jZ.st (jx.st U):=by
 obtain⟨h1,h2,h3⟩:=Oper.apart_spec k9;have Sd {l:List TV} {d:Nat} {t u:TV} (h:u∈l.set d t):u∈l\/u=t:=by
  rcases List.mem_or_eq_of_mem_set h with h|h<;>simp[h]
 have JQ:(jx.env e).tmps=e.tmps:=Delta.xE hx.2.1 pB;have JR:(jZ.env e).tmps=e.tmps:=Delta.xE hy.2.1 HX;have agl:(jx.env ((jZ.env e).put y.dst ty)).tmps=((jZ.env e).put y.dst ty).tmps:=by
  refine Delta.xE hx.2.1 λd hd t ht=>?_;rw[tF]at ht;have main (gB:t=ty):d∉keyOf t:=by
   subst gB;intro hk;obtain⟨sQ,hdw⟩:=hx.2.2.1 d hd;have:=(ig.key _ sQ (hy.1 d hk)).1
   simp_all
  split at ht
  ·rcases Sd ht with ht|ht
   ·rw[JR]at ht;exact pB d hd t ht
   ·exact main ht
  ·rw[JR]at ht;exact pB d hd t ht
 have agm:(jZ.env ((jx.env e).put x.dst tx)).tmps=((jx.env e).put x.dst tx).tmps:=by
  refine Delta.xE hy.2.1 λd hd t ht=>?_;rw[tF]at ht;have main (gB:t=tx):d∉keyOf t:=by
   subst gB;intro hk;obtain⟨sQ,hdw⟩:=hy.2.2.1 d hd;have:=(ig.key _ (hx.1 d hk) sQ).2
   simp_all
  split at ht
  ·rcases Sd ht with ht|ht
   ·rw[JQ]at ht;exact HX d hd t ht
   ·exact main ht
  ·rw[JQ]at ht;exact HX d hd t ht
 have E1 (δ:Delta) (e:Env):(δ.env e).locs=match δ.setl with|some (k,cs)=>ft e.locs k cs|none=>e.locs:=rfl
 constructor
 ·have wU:((jx.env ((jZ.env e).put y.dst ty)).put x.dst tx).tmps=((jZ.env ((jx.env e).put x.dst tx)).put y.dst ty).tmps:=by
   rw[tF,tF,agl,agm,tF,tF,JQ,JR];cases yD:x.dst with
   |none=>rfl
   |some dx=>
    cases Bp:y.dst with
    |none=>rfl
    |some dy=>
     have bD:dx≠dy:=λhe=>h2 dx yD (by rw[Bp,he]);simp only;rw[List.set_comm _ _ bD.symm]
  have sV:((jx.env ((jZ.env e).put y.dst ty)).put x.dst tx).locs=((jZ.env ((jx.env e).put x.dst tx)).put y.dst ty).locs:=by
   rw[B4,B4,E1,E1,B4,B4,E1,E1];cases pH:jx.setl with
   |none=>cases wT:jZ.setl<;>rfl
   |some px=>
    cases wT:jZ.setl with
    |none=>rfl
    |some py=>
     obtain⟨kx,Vr⟩:=px;obtain⟨ky,Vs⟩:=py;have H3:=hx.2.1.setl kx Vr pH;have mN:=hy.2.1.setl ky Vs wT;have bD:kx≠ky:=λhe=>by
      subst he;have:=(ig.key _ H3.1 mN.1).1
      simp_all
     simp only;exact afs _ bD.symm _ _
  have HR:((jx.env ((jZ.env e).put y.dst ty)).put x.dst tx).defs=((jZ.env ((jx.env e).put x.dst tx)).put y.dst ty).defs:=by
   rw[Fx,Fx,CX,CX,Fx,Fx,CX,CX]
  cases hA:(jx.env ((jZ.env e).put y.dst ty)).put x.dst tx;cases hB:(jZ.env ((jx.env e).put x.dst tx)).put y.dst ty;rw[hA,hB]at wU sV HR;simp only at wU sV HR;rw[wU,sV,HR]
 ·rcases Delta.cases hx.2.1 with⟨bx,ox,ex,x2,xb,xk⟩|⟨rx,kx,vx,ex,x2,xb,xk⟩|⟨sx,ex,x2,xb⟩|ex
  ·rcases Delta.cases hy.2.1 with⟨Lj,oy,ey,y2,yb,yk⟩|⟨ry,ky,vy,ey,y2,yb,yk⟩|⟨sy,ey,y2,yb⟩|ey
   ·obtain⟨x,y,h1,h2,h3⟩:=wB ig x2 y2;rw[xb]at h1;cases h1;rw[yb]at h2;cases h2;rcases h3 with h3|⟨k1,k2,g,_⟩
    ·rw[ex,ey,ex,ey];exact List.set_comm _ _ h3.symm
    ·rw[xk]at g;cases g
   ·obtain⟨x,y,h1,h2,h3⟩:=wB ig x2 y2;rw[xb]at h1;cases h1;rw[yb]at h2;cases h2;rcases h3 with h3|⟨k1,k2,g,_⟩
    ·rw[ex,ey,ex,ey];exact(I0 h3).symm
    ·rw[xk]at g;cases g
   ·obtain⟨x,y,_,h2,_⟩:=wB ig x2 y2;rw[yb]at h2;cases h2
   ·rw[ex,ey,ex,ey]
  ·rcases Delta.cases hy.2.1 with⟨Lj,oy,ey,y2,yb,yk⟩|⟨ry,ky,vy,ey,y2,yb,yk⟩|⟨sy,ey,y2,yb⟩|ey
   ·obtain⟨x,y,h1,h2,h3⟩:=wB ig x2 y2;rw[xb]at h1;cases h1;rw[yb]at h2;cases h2;rcases h3 with h3|⟨k1,k2,_,g,_⟩
    ·rw[ex,ey,ex,ey];exact I0 h3.symm
    ·rw[yk]at g;cases g
   ·obtain⟨x,y,h1,h2,h3⟩:=wB ig x2 y2;rw[xb]at h1;cases h1;rw[yb]at h2;cases h2;rw[ex,ey,ex,ey];refine adr (h3.imp id λ⟨k1,k2,g1,g2,g3,_⟩=>?_);rw[xk]at g1;cases g1;rw[yk]at g2;cases g2;exact g3
   ·obtain⟨x,y,_,h2,_⟩:=wB ig x2 y2;rw[yb]at h2;cases h2
   ·rw[ex,ey,ex,ey]
  ·have no (y2:cy.hp=2):False:=by
    obtain⟨x,y,h1,_,_⟩:=wB ig x2 y2;rw[xb]at h1;cases h1
   rcases Delta.cases hy.2.1 with⟨Lj,oy,ey,y2,yb,yk⟩|⟨ry,ky,vy,ey,y2,yb,yk⟩|⟨sy,ey,y2,yb⟩|ey
   ·exact(no y2).elim
   ·exact(no y2).elim
   ·exact(no y2).elim
   ·rw[ex,ey,ex]
  ·rw[ex,ex]
theorem vY.step {l:List (Nat×Oper×bN)} {anc:List Nat} {x:Nat×Oper×bN} {e:Env} {U:St} {t:TV} {δ:Delta} (h:vY lm l e) (hx:GU P lm call ops x.2.1 x.2.2 e U t δ) (hg:∀y∈l,Good ops anc lm x y)
  (pB:∀d∈ez lm x.2.1,∀t∈e.tmps,d∉keyOf t):vY lm l ((δ.env e).put x.2.1.dst t):=by
 intro y hy d hd u hu;rw[tF,Delta.xE hx.2.1 pB]at hu;split at hu
 ·rcases List.mem_or_eq_of_mem_set hu with hu|hu
  ·exact h y hy d hd u hu
  ·subst hu;intro hk;exact(hg y hy).2 d hd (hx.1 d hk)
 ·exact h y hy d hd u hu
theorem DR.front {anc:List Nat} {z:Nat×Oper×bN}:∀(p q:List (Nat×Oper×bN)) (e:Env) (U:St),DR P lm call ops k out (p++z::q) e U->List.Pairwise (Good ops anc lm) (p++z::q)->vY lm (p++z::q) e->
  (∀x∈p,(anc.getD z.1 0).testBit x.1=false)->∃t δ,GU P lm call ops z.2.1 z.2.2 e U t δ/\DR P lm call ops k out (p++q) ((δ.env e).put z.2.1.dst t) (δ.st U)
 | [],q,e,U,h,_,_,_=>by
  cases h with
  |cons i o c r _ _ t δ hu hr=>exact⟨t,δ,hu,hr⟩
 |x::p,q,e,U,h,hp,hf,dW=>by
  cases h with
  |cons i o c r _ _ tx jx hu hr=>
   simp only[eI,List.pairwise_cons]at hp;have pB:∀d∈ez lm o,∀t∈e.tmps,d∉keyOf t:=λd hd t ht=>hf (i,o,c) (by simp) d hd t ht;have sT:vY lm (p++z::q) e:=λy hy=>hf y (by simp at hy|-;exact .inr hy);have yF:=sT.step (x:=(i,o,c)) hu hp.1 pB;obtain⟨tz,Ka,hz,yN⟩:=DR.front p q _ _ hr hp.2 yF (λy hy=>dW y (by simp[hy]));have abb:=hp.1 z (by simp);have hun:=dW (i,o,c) (by simp);obtain⟨k9,ig⟩:Oper.apart ops o z.2.1=true/\c.qT z.2.2:=by
    rcases abb.1 with h|h
    ·rw[hun]at h;cases h
    ·exact h
   obtain⟨a1,a2,a3⟩:=Oper.apart_spec k9;have ij:∀d∈ez lm z.2.1,∀t∈e.tmps,d∉keyOf t:=λd hd t ht=>hf z (by simp) d hd t ht;have mQ:=hz.move (Kx hu a1 a2 ig pB);refine⟨tz,Ka,mQ,?_⟩;have fo:ga o ops c e U ((Ka.env e).put z.2.1.dst tz) (Ka.st U):=by
    have:=Kx mQ (y:=o) (cy:=c) a3 (λd hd he=>a2 d he hd) ig.sym ij;exact⟨λp hp=>(this.ops_ p hp).symm,λj want d h1 h2=>(this.guard j want d h1 h2).symm,this.slot.symm,λq hq=>(this.keys q hq).symm,λhh hb=>(this.heap hh hb).symm,λhh b hb=>(this.blk hh b hb).symm⟩
   have dk:=hu.move fo;obtain⟨he,hs⟩:=afT hu mQ k9 ig pB ij;refine .cons i o c _ _ _ tx jx dk ?_;rw[he,hs];exact yN
theorem afv {l:List TV} {d:Nat} {x:AV} (h:l.getD d .no=.v x):l.set d (.v x)=l:=by
 rw[gq]at h;cases hd:l[d]? with
 |none=>rw[hd]at h;cases h
 |some y=>
  rw[hd]at h;simp at h;subst h;obtain⟨al,he⟩:=bl.1 hd;rw[<-he];simp
theorem afg {anc:List Nat} {i:Nat} {o:Oper} {r:List Oper} {acc:List (Nat×Oper×bN)} {env:Env} {U:St} (h:tK P lm call ops anc k i (o::r) acc env U=some out):
  (An lm ops anc i o r (aV P lm env o) acc=true/\mD P o=true/\∀p∈xm anc i (aV P lm env o) acc,p.1≠p.2)/\ny P lm call ops o env U (λt cV U'=>dS (tq anc i ((aV P lm env o).kG U U') acc)
   (tK P lm call ops anc k (i+1) r (acc++[(i,o,(aV P lm env o).kG U U')]) (cV.put o.dst t) U'))=some out:=by
 unfold tK at h;simp only at h;cases hd:(An lm ops anc i o r (aV P lm env o) acc&&mD P o)with
 |false=>rw[hd]at h;cases h
 |true=>
  rw[hd]at h;simp only[cond]at h;obtain⟨k9,h⟩:=KC h;simp only[gH]at hd;refine⟨⟨hd.1,hd.2,k9⟩,?_⟩;unfold ny;split at h
  ·rename_i hg
   try simp only[hg]
   exact h
  ·rename_i j want hg
   try simp only[hg]
   split at h
   ·rename_i d aa8
    try simp only[aa8]
    split at h
    ·rename_i b hb
     try simp only[hb]
     cases b<;>cases want<;>simp only[afv hb]at h<;>simpa using h
    ·rename_i hb
     try simp only[hb]
     exact h
    ·cases h
   ·cases h
theorem RT {anc:List Nat}:∀(r:List Oper) (i:Nat) (acc:List (Nat×Oper×bN)) (env:Env) (U:St),tK P lm call ops anc k i r acc env U=some out->(∀x∈acc,x.1<i)->(∀x∈acc,x.2.2.hp=2->x.2.2.hb=none->x.2.2.tr.isSome=true)->
  ∃L:List (Nat×Oper×bN),DR P lm call ops k out L env U/\L.map (λx=>(x.1,x.2.1))=(r.zipIdx i).map (λx=>(x.2,x.1))/\List.Pairwise (Good ops anc lm) L/\
   ∀x∈acc,∀y∈L,((anc.getD y.1 0).testBit x.1=true\/(Oper.apart ops x.2.1 y.2.1=true/\x.2.2.qT y.2.2))
 | [],i,acc,env,U,h,_,_=>⟨[],.nil _ _ h,rfl,.nil,λ_ _ y hy=>by simp at hy⟩
 |o::r,i,acc,env,U,h,sN,P7=>by
  obtain⟨⟨hd,l5,abl⟩,hg⟩:=afg h;obtain⟨t,δ,hu,hk⟩:=aaL l5 hg;obtain⟨abf,hk⟩:=Qw hk;have P8:((aV P lm env o).kG U (δ.st U)).hp=2->((aV P lm env o).kG U (δ.st U)).hb=none->((aV P lm env o).kG U (δ.st U)).tr.isSome=true:=by
   intro h1 h2;simp only[bN.kG]at h1 h2|-;rw[h1,h2];rfl
  obtain⟨L,hL,hm,hp,ha⟩:=RT r (i+1) _ _ _ hk (λx hx=>by
   rcases cX.1 hx with hx|hx
   ·have:=sN x hx;omega
   ·simp at hx;subst hx;simp) (λx hx=>by
   rcases cX.1 hx with hx|hx
   ·exact P7 x hx
   ·simp only[oZ]at hx;subst hx;exact P8)
  unfold An at hd;simp only[gH,mq]at hd;refine⟨(i,o,(aV P lm env o).kG U (δ.st U))::L,.cons _ _ _ _ _ _ t δ hu hL,by simp[hm],?_,?_⟩
  ·refine List.pairwise_cons.2 ⟨λy hy=>⟨ha _ (by simp) y hy,λd hdn hk=>?_⟩,hp⟩;have hyr:y.2.1∈r:=by
    have h1:(y.1,y.2.1)∈(r.zipIdx (i+1)).map (λx=>(x.2,x.1)):=by rw[<-hm];exact nZ.2 ⟨y,hy,rfl⟩
    obtain⟨z,hz,he⟩:=nZ.1 h1;have yV:=List.fst_mem_of_mem_zipIdx hz;have:z.1=y.2.1:=by simpa using congrArg Prod.snd he
    rw[<-this];exact yV
   have:=hd.2 _ hyr d hdn;simp at this;exact this hk
  ·intro x hx y hy;rcases bS.1 hy with rfl|hy
   ·have:=hd.1 x hx;simp only[Bool.or_eq_true,gH,Bool.not_eq_true']at this;cases Bi:(anc.getD i 0).testBit x.1 with
    |true=>exact .inl rfl
    |false=>
     rcases this with h|⟨h1,h2⟩
     ·rw[Bi]at h;cases h
     ·obtain⟨k1,k2⟩:=IJ abf x hx Bi;exact .inr ⟨h1,aaz (b:=(aV P lm env o).kG U (δ.st U)) h2 (I1 abl x hx Bi) k1 k2 (P7 x hx) P8⟩
   ·exact ha x (by simp[hx]) y hy
end
end Go.AM
end
section
namespace Go.AM
open Go.RowKit
section
variable {P:Program} {V0 V:aM} {w0 w:World} {lam:j7} {env:Env} {U:St} {a:Act} {o:Oper} {next:Act->World->Prop} {Q:Exit->Act->World->Prop} {out:fH×St} {k:TV->Env->St->Out} {kp:AV->Env->St->Out}
theorem aef {fn:Fn} {first captured:Array Operand} (H:aR V0 w0 V lam env U a w) (hk:cQ V0 w0 a o.dst next out k) (ho:o.op=.makeFunc fn first captured)
  (hx:(match (generalizing:=false) fn with
   | .func f=>match gk (first.toList.map env.get)with
    |some l=>match gk (captured.toList.map env.get)with
     |some c=>k (.v (.func (.func f) l c)) env U
     |none=>none
    |none=>none
   |_=>none)=some out):o.wp P a w next Q:=by
 cases fn with
 |func f=>
  dsimp only at hx;split at hx
  ·rename_i l hl;split at hx
   ·rename_i c hc;refine dX H hk (v:=.func (.func f) (first.map a.eval) (captured.map a.eval)) ?_ (.v _ _ (.func _ _ _ _ _ ?_ ?_)) hx
    ·simp only[execOp,ho,Instr.makeFunc]<;>rfl
    ·simpa using xH hl H
    ·simpa using xH hc H
   ·cases hx
  ·cases hx
 |_=>cases hx
theorem ad4 {c:Call} {t:TypeId} {ts:List TypeId} {x:Operand} {xs:List Operand} (H:aR V0 w0 V lam env U a w) (hk:cQ V0 w0 a o.dst next out k) (ho:o.op=.call c) (hc:c.callee=.builtin .cap)
  (ht:c.argTypes.toList=t::ts) (ha:c.args.toList=x::xs) (hx:(match Ah P t (env.get x)with|some n=>k (.v (.int .i64 n)) env U|none=>none)=some out):o.wp P a w next Q:=by
 split at hx
 ·rename_i n hn;refine dX H hk (v:=.int .i64 n) ?_ (.v _ _ (.int _ _)) hx;have h1:=mA ht;have h2:=mA ha;have Ey:=H.get x;have gf:(Builtin.cap_ c.argTypes o.type (c.args.map a.eval)).run P w=.ok (.int .i64 n) w:=by
   have e1:c.argTypes[0]? =some t:=by rw[h1];simp
   have e2:(c.args.map a.eval)[0]? =some (a.eval x):=by rw[h2];simp
   unfold Ah at hn;split at hn
   ·rename_i e hu;split at hn
    ·rename_i l cp sz hp;cases hn;rw[hp]at Ey;have hv:=Ey.val;generalize cf:a.eval x=xv at hv e2;cases hv with
     |nslice _=>simp only[Builtin.cap_,e1,e2,bG,run_underlying hu,bF]<;>rfl
    ·rename_i ad l cp sz hp;cases hn;rw[hp]at Ey;have hv:=Ey.val;generalize cf:a.eval x=xv at hv e2;cases hv with
     |slice _ _ en _ _ _ ad c he Pv gv hc gf hlen=>
      have:=gf _ rfl;subst this;simp only[Builtin.cap_,e1,e2,bG,run_underlying hu,bF]<;>rfl
    ·cases hn
   ·rename_i m e hu;cases hn;simp only[Builtin.cap_,e1,e2,bG,run_underlying hu,bF]<;>rfl
   ·cases hn
  simp only[execOp,ho,resolve,hc,bG,dh,bF,invoke,builtin,gf]
 ·cases hx
theorem adY {t:TypeId} {x:Operand} {lo hi:Option Operand} {n:Nat} {e:TypeId} (hP:fz P) (H:aR V0 w0 V lam env U a w) (hk:cQ V0 w0 a o.dst next out k) (ho:o.op=.slice t x lo hi none)
  (hs:w7 P t=some (n,e))
  (hx:Aa (aE P e) n U (env.get x) (lo.map env.get) (hi.map env.get) (λy=>k (.v y) env U)=some out):o.wp P a w next Q:=by
 unfold Aa at hx;have h1:=H.get x;split at hx
 ·rename_i b off hp;rw[hp]at h1;have hv:=h1.val;generalize cf:a.eval x=xv at hv;split at hx
  ·rename_i cs bg;split at hx
   ·rename_i Ef;obtain⟨h,hh,tf⟩:=uy H hx;obtain⟨l,hl,mP⟩:=uy H tf;split at mP
    ·rename_i hb;cases hv with
     |ptr _ _ en he=>
      obtain⟨wr,wR⟩:=CS bg;obtain⟨e',bn,au,ty,fr,g1,g2,g3,_⟩:=H.r.obj b _ wR;rw[he]at bn;cases bn;have po:=FB (P:=P) (len:=n) (cap:=n) false hl hh hb.1 hb.2.1 hb.2.2 (aA _) w;have bA:(Instr.sliceAt t (.pointer (some ⟨en.blk,en.off+off,none⟩)) (lo.map a.eval) (hi.map a.eval) none).run P w=
        .ok (.slice (some (if n=l.toNat then⟨en.blk,en.off+off,none⟩else(⟨en.blk,en.off+off,none⟩:Addr).add (l.toNat*aE P e))) (h.toNat-l.toNat) (n-l.toNat)) w:=by
       unfold w7 at hs;split at hs
       ·rename_i arr hu;split at hs
        ·rename_i n' e' dk;cases hs;obtain⟨inf,eO⟩:=od.1 (hP.arr arr n e dk);simp only[Instr.sliceAt,Instr.slice,bG,run_underlying hu,bF,asAddr,dh,run_underlying dk,po,run_sizeOf eO]
        ·cases hs
       ·rename_i n' e' dk;cases hs;obtain⟨inf,eO⟩:=od.1 (hP.arr t n e dk);simp only[Instr.sliceAt,r6,bG,run_underlying dk,bF,dh,po,run_sizeOf eO]
       ·cases hs
      refine dX H hk (v:=.slice (some (if n=l.toNat then⟨en.blk,en.off+off,none⟩else(⟨en.blk,en.off+off,none⟩:Addr).add (l.toNat*aE P e))) (h.toNat-l.toNat) (n-l.toNat)) ?_ (.v _ _ ?_) mP
      ·simp only[execOp,ho];refine k7 ?_;simp only[Option.map_none,cf,bA]
      ·refine .slice b _ en _ _ _ _ _ he ?_ ?_ ?_ ?_ ?_
       ·split
        ·exact⟨rfl,rfl⟩
        ·rw[addr_add];exact⟨rfl,rfl⟩
       ·intro dR;rw[if_neg (by omega),addr_add,eD]
       ·have h1:(n-l.toNat)*aE P e+l.toNat*aE P e=n*aE P e:=by rw[<-jc];congr 1;omega
        omega
       ·intro c' mK;cases mK;rfl
       ·omega
    ·cases mP
   ·cases hx
  ·cases hx
 ·cases hx
theorem aen {t:TypeId} {x:Operand} (H:aR V0 w0 V lam env U a w) (hk:cQ V0 w0 a o.dst next out k) (ho:o.op=.range t x)
  (hx:(match P.underlying t with
   |some .string=>match env.get x with| .v (.str s)=>k (.v (.ptr (some (U.length,0)))) env (U++[.iter s 0])|_=>none
   |_=>none)=some out):o.wp P a w next Q:=by
 have h1:=H.get x;split at hx
 ·rename_i hu;split at hx
  ·rename_i s hp;rw[hp]at h1;have hv:=h1.val;generalize cf:a.eval x=xv at hv;cases hv with
   |str _=>
    have hg:=e8.alloc w (.stringIter ⟨s.toArray⟩ 0);obtain⟨hR,hE⟩:=H.r.grow hg (o:=.iter s 0) (e:=⟨w.heap.size,0,0,true⟩) rfl ⟨hg.new,rfl,rfl⟩;refine lx (v:=.pointer (some ⟨w.heap.size,0,none⟩)) (w':=w.iter ⟨s.toArray⟩ 0) ?_ (hk _ _ _ _ _ _ _ (H.step hR hE (hg.fr V)) (.v _ _ ?_) hx)
    ·simp only[execOp,ho];exact k7 (by rw[cf];exact run_range_string w t _ hu)
    ·exact .ptr U.length 0 ⟨w.heap.size,0,0,true⟩ (mi _ _ _)
  ·cases hx
 ·cases hx
theorem ab1 {b pos pos':Nat} {s:ByteArray} (h:w.heap[b]? =some (.stringIter s pos)):qd w (w.iterAt b s pos') b (.stringIter s pos') where
 os:=rfl
 tape:=rfl
 output:=rfl
 size:=by simp[World.iterAt]
 at_:=by
  have al:b<w.heap.size:=(qQ.1 h).1;simp[World.iterAt,al]
 other:=λk hk=>by simp only[World.iterAt];rw[vT (cY hk)]
theorem aej {it:Operand} (H:aR V0 w0 V lam env U a w) (hk:cQ V0 w0 a o.dst next out k) (ho:o.op=.next it true)
  (hx:(match env.get it with| .v (.ptr (some (b,0)))=>E9 U b (λv U'=>k (.v v) env U')|_=>none)=some out):o.wp P a w next Q:=by
 have h1:=H.get it;split at hx
 ·rename_i b hp;rw[hp]at h1;have hv:=h1.val;generalize cf:a.eval it=xv at hv;cases hv with
  |ptr _ _ en he=>
   unfold E9 at hx;split at hx
   ·rename_i s pos hs;obtain⟨e',bn,ff⟩:=H.r.obj b _ hs;rw[he]at bn;cases bn;obtain⟨g1,g2,g3⟩:=ff;split at hx
    ·rename_i al;have bA:=Lib.run_next_any_at (P:=P) w en.blk ⟨s.toArray⟩ pos o.type g1 al;have eu:=ab1 (pos':=pos+(Utf8.decode ⟨s.toArray⟩ pos).2) g1;have hR:=H.r.vO hs he g2 rfl eu (o':=.iter s (pos+(Utf8.decode ⟨s.toArray⟩ pos).2)) ⟨eu.at_,g2,g3⟩;refine lx (v:=.tuple #[.bool true,.int .i64 pos,.int .i32 (Utf8.decode ⟨s.toArray⟩ pos).1]) ?_ (hk _ _ _ _ _ _ _ (H.step hR (Ext.refl _ _) (eu.fr he g2)) (.v _ _ ?_) hx)
     ·simp only[execOp,ho,cf,mw,g3];refine k7 ?_;exact bA
     ·exact .tuple _ _ (.cons _ _ _ _ (.bool _) (.cons _ _ _ _ (.int _ _) (.cons _ _ _ _ (.int _ _) .nil)))
    ·rename_i al;have bA:=Lib.run_next_end_at (P:=P) w en.blk ⟨s.toArray⟩ pos o.type g1 al;refine dX H hk (v:=.tuple #[.bool false]) ?_ (.v _ _ (.tuple _ _ (.cons _ _ _ _ (.bool _) .nil))) hx;simp only[execOp,ho,cf,mw,g3];refine k7 ?_;exact bA
   ·cases hx
 ·cases hx
theorem aei {t:TypeId} {l c:Operand} (H:aR V0 w0 V lam env U a w) (hk:cQ V0 w0 a o.dst next out k) (ho:o.op=.makeSlice t l c)
  (hx:fT (env.get l) (λl=>fT (env.get c) λc=>zh P t l c (env.kI o.dst) U λv U'=>k (.v v) env U')=some out):o.wp P a w next Q:=by
 obtain⟨kl,nl,hl,hx⟩:=rK hx;obtain⟨kc,nc,hc,hx⟩:=rK hx;have h1:=H.get l;rw[hl]at h1;have jo:=h1.val;generalize pD:a.eval l=lv at jo;have h2:=H.get c;rw[hc]at h2;have lh:=h2.val;generalize Ph:a.eval c=cv at lh;cases jo;cases lh;unfold zh at hx;split at hx
 ·rename_i e hu;split at hx
  ·rename_i z hz;split at hx
   ·rename_i Ec;obtain⟨yW,⟨h0,sV,Eb,fe⟩,bX⟩:=Ec;obtain⟨inf,zv,eO,hzero,oK⟩:∃inf zv,P.info? e=some inf/\inf.zero=some zv/\aN V z zv:=by
     unfold zeroOf at hz;split at hz
     ·rename_i inf eO;split at hz
      ·rename_i zv nN;exact⟨inf,zv,eO,nN,Fg hz⟩
      ·cases hz
     ·cases hz
    have cm:aE P e=inf.size:=by simp[aE,eO]
    have jH:jh P e=inf.bytes:=by simp[jh,eO]
    rw[jH]at fe;have Qi:=oK.cells;have vf:zv.cells.size=inf.size:=by have:=Qi.length;simp at this;omega
    have bA:=run_make (P:=P) w t e inf zv hu eO hzero kl kc nl nc h0 sV (by
     have:((inf.bytes*nc.toNat:Nat):Int)<=140737488355328:=by
      rw[Nat.mul_comm];generalize nc.toNat*inf.bytes=q at fe;omega
     rw[Int.natCast_mul,Int.toNat_of_nonneg (by omega)]at this;omega) (by omega)
    have nM:=Tj Qi nc.toNat;rw[vf]at nM;have abj:madeCells zv.cells (nc.toNat*inf.size)=(Array.range (nc.toNat*inf.size)).map (λi=>zv.cells[i%inf.size]!):=by unfold madeCells;rw[vf]
    rw[<-abj]at nM;have iE:(eT z.cells nc.toNat).all AV.one=true:=by
     generalize nc.toNat=m
     induction m with
     |zero=>rfl
     |succ m ih=>simp only[eT,List.all_append,bX,ih,Bool.and_self]
    have hg:=e8.alloc w (.cells (madeCells zv.cells (nc.toNat*inf.size)) e);generalize env.kI o.dst=s at hx;cases s with
    |some b=>
     unfold mZ ow at hx;split at hx
     ·rename_i b' heq;cases heq
     ·rename_i b' heq;cases heq;split at hx
      ·rename_i hb;have hS:=H.aas hg hb (eZ.zn nM iE) (Nat.le_of_eq (nM.length.trans Array.length_toList)) (t:=.row e) rfl;refine lx (v:=.slice (some ⟨w.heap.size,0,none⟩) nl.toNat nc.toNat) ?_ (hk _ _ _ _ _ _ _ hS (.v _ _ ?_) hx)
       ·simp only[execOp,ho];exact k7 (by rw[pD,Ph];exact bA)
       ·exact .slice b 0 ⟨w.heap.size,0,_,true⟩ nl.toNat (some nc.toNat) (aE P e) _ nc.toNat (mi _ _ _) ⟨rfl,rfl⟩ (λ_=>rfl) (by rw[size_madeCells,cm];dsimp only;omega) (λc' h=>by cases h;rfl) (by omega)
      ·cases hx
    |none=>
    have hS:=H.E8 hg (eZ.zn nM iE) (Nat.le_of_eq (nM.length.trans Array.length_toList)) (t:=.row e) rfl;refine lx (v:=.slice (some ⟨w.heap.size,0,none⟩) nl.toNat nc.toNat) ?_ (hk _ _ _ _ _ _ _ hS (.v _ _ ?_) hx)
    ·simp only[execOp,ho];exact k7 (by rw[pD,Ph];exact bA)
    ·exact .slice U.length 0 ⟨w.heap.size,0,_,true⟩ nl.toNat (some nc.toNat) (aE P e) _ nc.toNat (mi _ _ _) ⟨rfl,rfl⟩ (λ_=>rfl) (by rw[size_madeCells,cm];dsimp only;omega) (λc' h=>by cases h;rfl) (by omega)
   ·cases hx
  ·cases hx
 ·cases hx
theorem aep {s d e:TypeId} {x:Operand} (H:aR V0 w0 V lam env U a w) (hk:cQ V0 w0 a o.dst next out k) (ho:o.op=.convert s d x) (hs:w8 P s d=some e)
  (hx:(match env.get x with| .v (.str bs)=>k (.v (.slice (some (U.length,0)) bs.length none 1)) env (U++[.cells (bH bs) (.rw (.row e))])|_=>none)=some out):o.wp P a w next Q:=by
 have h1:=H.get x;split at hx
 ·rename_i bs hp;rw[hp]at h1;have hv:=h1.val;generalize cf:a.eval x=xv at hv;cases hv with
  |str _=>
   unfold w8 at hs;split at hs
   ·rename_i e' jn jm;split at hs
    ·rename_i vb;cases hs;have bA:=run_bytes_of_string (P:=P) w s d e ⟨bs.toArray⟩ jn jm vb;have cm:(⟨bs.toArray⟩:ByteArray).size=bs.length:=rfl;rw[cm]at bA;generalize gf:grownCap w bs.length 0 e=cap at bA;have gg:bs.length<=cap:=by rw[<-gf];exact grownCap_ge w bs.length 0 e
     have Es:(bytesRow ⟨bs.toArray⟩ cap).size=cap:=by simp[bytesRow];omega
     have hg:=e8.GD w (.cells (bytesRow ⟨bs.toArray⟩ cap) e ((bytesRow ⟨bs.toArray⟩ cap).size,(bytesRow ⟨bs.toArray⟩ cap).size+1));have sP:∀V,eZ V (bH bs) (bytesRow ⟨bs.toArray⟩ cap) 0:=by
      intro V i y hi;unfold bH at hi;rw[gI]at hi;cases hb:bs[i]? with
      |none=>rw[hb]at hi;cases hi
      |some b=>
       rw[hb]at hi;cases hi;have al:i<bs.length:=(bl.1 hb).1;refine⟨⟨.int .u8 b.toNat,?_,.int _ _⟩,rfl⟩;rw[dI];unfold bytesRow;rw[Array.getElem?_append_left (by simpa using al)];simp[hb]
     obtain⟨hR,hE⟩:=H.r.grow hg (o:=.cells (bH bs) (.rw (.row e))) (e:=⟨w.heap.size,0,cap,true⟩) rfl
      ⟨_,e,_,hg.new,sP _,by simp[bH];omega,by rw[Es];dsimp only;omega,λt1 h1=>by cases h1;exact⟨rfl,λj _ hj h=>by rw[Es]at h;dsimp only at hj h;omega,rfl⟩⟩
     refine lx (v:=.slice (some ⟨w.heap.size,0,none⟩) bs.length cap) ?_ (hk _ _ _ _ _ _ _ (H.step hR hE (hg.fr V)) (.v _ _ ?_) hx)
     ·simp only[execOp,ho,cf];exact k7 bA
     ·exact .slice U.length 0 ⟨w.heap.size,0,cap,true⟩ bs.length none 1 _ cap (mi _ _ _) ⟨rfl,rfl⟩ (λ_=>rfl) (by dsimp only;omega) (λc' h=>by cases h) gg
    ·cases hs
   ·cases hs
 ·cases hx
theorem af9 (s:By) (m:Nat):(Builtin.firstCells 1 m (.string ⟨s.toArray⟩)).run P w=.ok ((byteCells ⟨s.toArray⟩).take (m*1)).toArray w:=by
 simp only[Builtin.firstCells,dh,lC];congr 1;rw[Mn];apply Array.ext';simp[byteCells,List.map_take]
theorem afO {isStr:Bool} {size:Nat} {x:TV} {v:Value} {t2:TypeId} {f:Nat->List AV->Out} (H:aR V0 w0 V lam env U a w) (hr:fI V lam x v)
  (hk:(isStr=false/\∃e',P.underlying t2=some (.slice e'))\/(isStr=true/\P.underlying t2=some .string)) (h:kJ isStr env U size x f=some out):
  ∃n new news,f n new=some out/\aQ V new news/\Src P size t2 v n news w/\∀m,m<=n->(Builtin.firstCells size m v).run P w=.ok (news.take (m*size)).toArray w:=by
 have key:∀(ad:Addr) (n n' c:Nat) (vs:List Value),vs.length=n*size->(∀(j:Nat) u,vs[j]? =some u->w.cell? (ad.add j)=some u)->∀m,m<=n->(Builtin.firstCells size m (.slice (some ad) n' c)).run P w=.ok (vs.take (m*size)).toArray w:=by
  intro ad n n' c vs hl hc m hm;have hms:m*size<=n*size:=vX _ hm;refine run_firstCells_some w size m ad n' c (vs.take (m*size)) (by rw[r8];omega) λj u hj=>hc j u ?_;rw[List.getElem?_take]at hj;split at hj
  ·exact hj
  ·cases hj
 unfold kJ at h;split at h
 ·rename_i IK n;obtain⟨e',hu⟩:∃e',P.underlying t2=some (.slice e'):=by rcases hk with⟨_,h⟩|⟨h,_⟩<;>first|exact h|cases h
  split at h
  ·rename_i cs bg;split at h
   ·rename_i hn;cases hr with
    |ls _ _ blk hl=>
     obtain⟨CJ,bZ,au,ty,fr,h1,h2,h3,_,_⟩:=H.locs IK cs bg;rw[hl]at bZ;cases bZ;obtain⟨vs,g1,g2,g3,g4⟩:=Jr (V:=V) (w:=w) (off:=0) (n:=cs.length) h1 h2 (by omega);rw[iy,j8]at g2;have hc:∀(j:Nat) u,vs[j]? =some u->w.cell? ((⟨blk,0,none⟩:Addr).add j)=some u:=λj u hj=>by rw[addr_add];simpa using g3 j u hj
     exact⟨n,cs,vs,h,g2,Src.ofSlice w hu _ n n vs (by omega) hc g4,key _ n n n vs (by omega) hc⟩
   ·cases h
  ·cases h
 ·rename_i s;obtain hu:P.underlying t2=some .string:=by rcases hk with⟨h,_⟩|⟨_,h⟩<;>first|exact h|cases h
  split at h
  ·rename_i hs;subst hs;have hv:=hr.val;cases hv with
   |str _=>
    have hs:=Src.ofString (P:=P) w hu ⟨s.toArray⟩;refine⟨s.length,_,byteCells ⟨s.toArray⟩,h,aQ.zm (by rw[byteCells_length];simp;rfl) λi x hi=>?_,hs,λm _=>af9 s m⟩;rw[gI]at hi;cases hb:s[i]? with
    |none=>rw[hb]at hi;cases hi
    |some b=>rw[hb]at hi;cases hi;exact⟨_,by simp[byteCells,hb],.int _ _⟩
  ·cases h
 ·obtain⟨e',hu⟩:∃e',P.underlying t2=some (.slice e'):=by rcases hk with⟨_,h⟩|⟨h,_⟩<;>first|exact h|cases h
  have hv:=hr.val;cases hv with
  |nslice _=>exact⟨0,[],[],h,.nil,Src.ofNil w hu 0,λm hm=>by rw[List.take_nil];exact run_firstCells_none w size m 0 0⟩
 ·rename_i b off n cap sz;obtain⟨e',hu⟩:∃e',P.underlying t2=some (.slice e'):=by rcases hk with⟨_,h⟩|⟨h,_⟩<;>first|exact h|cases h
  split at h
  ·rename_i cm;split at h
   ·rename_i cs bg;split at h
    ·rename_i hl;have hv:=hr.val;have rC:=hv;cases hv with
     |slice _ _ en _ _ _ ad c he ha gv hc gf hlen=>
      obtain⟨vs,g1,g2,g3,g4⟩:=Cd H.r rC bg (m:=n*size) (by rw[cm];exact aA _) hl;exact⟨n,_,vs,h,g2,Src.ofSlice w hu ad n c vs g1 g3 g4,key ad n n c vs g1 g3⟩
    ·cases h
   ·cases h
  ·cases h
 ·cases h
theorem Rj {c:Call} {t t2 e:TypeId} {ts:List TypeId} {d x:Operand} {xs:List Operand} {isStr:Bool} (H:aR V0 w0 V lam env U a w) (hk:cQ V0 w0 a o.dst next out k) (ho:o.op=.call c) (hc:c.callee=.builtin .copy)
  (ht:c.argTypes.toList=t::t2::ts) (ha:c.args.toList=d::x::xs) (hu:P.underlying t=some (.slice e)) (hz:oU P e=true)
  (iJ:(isStr=false/\∃e',P.underlying t2=some (.slice e'))\/(isStr=true/\P.underlying t2=some .string))
  (hx:qi isStr env U (aE P e) (env.get d) (env.get x) (λn U'=>k (.v (.int .i64 n)) env U')=some out):o.wp P a w next Q:=by
 unfold qi at hx;obtain⟨n,new,news,hx,dc,fX,HW⟩:=afO H (H.get x) iJ hx;have nz:=H.get d;generalize hdv:a.eval d=dv at nz;generalize cf:a.eval x=xv at fX HW;obtain⟨inf,eO⟩:∃inf,P.info? e=some inf:=by
  unfold oU zeroOf at hz;cases hi:P.info? e with
  |none=>rw[hi]at hz;cases hz
  |some inf=>exact⟨inf,rfl⟩
 have e1:c.argTypes[0]? =some t:=by rw[mA ht];simp
 have e2:(c.args.map a.eval)[0]? =some dv:=by rw[mA ha];simp[hdv]
 have e3:(c.args.map a.eval)[1]? =some xv:=by rw[mA ha];simp[cf]
 have Po {m:Int} {w':World} (h:(Builtin.copy_ c.argTypes o.type (c.args.map a.eval)).run P w=.ok (.int .i64 m) w'):(execOp a.eval o).run P w=.ok (.value (.int .i64 m)) w':=by
  simp only[execOp,ho,resolve,hc,bG,dh,bF,invoke,builtin,h]
 split at hx
 ·rename_i l cp sz hp;rw[hp]at nz;have hv:=nz.val;cases hv with
  |nslice _=>
   refine lx (w':=w) (Po (m:=0) ?_) (hk _ _ _ _ _ _ _ H (.v _ _ (.int _ _)) hx);have hm:Nat.min n 0=0:=Nat.min_zero n;simp only[Builtin.copy_,e1,e2,e3,bG,run_underlying hu,bF,fX.len,hm,run_sizeOf eO,HW 0 (Nat.zero_le _),dh];rfl
 ·rename_i b off m cp sz hp;rw[hp]at nz;have hv:=nz.val;split at hx
  ·rename_i cm;split at hx
   ·rename_i cs wt bg;split at hx
    ·rename_i hl;cases hv with
     |slice _ _ en _ _ _ ad c' he Pv gv l6 gf hlen=>
      subst cm;obtain⟨e',bn,ff⟩:=H.r.obj b _ bg;rw[he]at bn;cases bn;obtain⟨au,C4,fr,h1,h2,h3,h4,h5⟩:=ff;obtain⟨hw,ij,eH⟩:=h5 _ rfl;have Ia:Nat.min n m=min n m:=rfl;have wO:news.length=n*aE P e:=fX.newsLen;have PR:=dc.length;have hmul:min n m*aE P e<=n*aE P e:=vX _ (Nat.min_le_left _ _);have iE:(new.take (min n m*aE P e)).all AV.one=true:=by
       rw[mq];intro y hy;obtain⟨i,hi,rfl⟩:=List.getElem_of_mem hy;have yI:i<new.length:=by simp at hi;omega
       rw[List.getElem_take];obtain⟨v,hv,hr⟩:=dc.get (i:=i) (x:=new[i]) (by simp[yI]);rw[<-hr.one];exact fX.one v (fF hv)
      have abx:aQ V (new.take (min n m*aE P e)) (news.take (min n m*aE P e)):=dc.take _;have abh:(new.take (min n m*aE P e)).length=min n m*aE P e:=by rw[r8];omega
      obtain⟨w',dA,eX,eu,sP,Ir⟩:=Jy (P:=P) (b:=en.blk) (base:=en.off) _ _ abx iE off 0 cs au w h1 h2 (by rw[abh];omega) (by omega) (λj hj nC=>ij j hj (by omega));have abD:(storeCells ad (news.take (min n m*aE P e)) 0).run P w=.ok () w':=by
       rcases Nat.eq_zero_or_pos c' with h0|dR
       ·have BB:min n m=0:=by rw[show m=0 by omega];exact Nat.min_zero _
        rw[BB,Nat.zero_mul,List.take_zero]at eX|-;exact eX
       ·rw[gv dR];exact eX
      have hR:=H.r.vO bg he hw rfl eu (o':=.cells (eA cs off (new.take (min n m*aE P e))) (.rw wt))
       ⟨dA,C4,fr,eu.at_,by simpa using sP,by rw[zy];exact h3,by omega,λt1 pI=>by cases pI;exact⟨hw,ij,by rw[zy];rw[Ir]at*;exact eH⟩⟩
      refine lx (w':=w') (Po (m:=(min n m:Nat)) ?_) (hk _ _ _ _ _ _ _ (H.step hR (Ext.refl _ _) (eu.fr he hw)) (.v _ _ (.int _ _)) hx);simp only[Builtin.copy_,e1,e2,e3,bG,run_underlying hu,bF,fX.len,Ia,run_sizeOf eO,HW _ (Nat.min_le_left n m),dh,abD];rfl
    ·cases hx
   ·cases hx
  ·cases hx
 ·cases hx
end
end Go.AM
end
section
namespace Go.AM
open Go.RowKit
section
variable {P:Program} {V0 V:aM} {w0 w:World} {lam:j7} {env:Env} {U:St} {a:Act} {o:Oper} {next:Act->World->Prop} {Q:Exit->Act->World->Prop} {out:fH×St} {k:TV->Env->St->Out} {kp:AV->Env->St->Out}
theorem ael {x:Operand} (H:aR V0 w0 V lam env U a w) (dN:qV V0 w0 Q out kp) (ho:o.op=.panic x)
  (hx:(match env.get x with| .v (.iface t v)=>kp (.iface t v) env U|_=>none)=some out):o.wp P a w next Q:=by
 have h1:=H.get x;split at hx
 ·rename_i t v hp;rw[hp]at h1;have hv:=h1.val;generalize cf:a.eval x=xv at hv;cases hv with
  |iface _ _ v' hr=>
   have bA:(execOp a.eval o).run P w=.halt (.panic (.iface t v')) w:=by
    simp only[execOp,ho,cf,Instr.panic];rfl
   unfold Oper.wp;rw[bA];exact dN _ _ _ _ _ _ _ _ H (.iface t _ _ hr) hx
 ·cases hx
theorem jb.push {key v:AV} {e:MapEntry} (h1:aN V key e.key) (h2:aN V v e.val):∀{es:List (AV×AV)} {es':List MapEntry},jb V es es'->jb V (es++[(key,v)]) (es'++[e])
 | [],[],_=>⟨h1,h2,trivial⟩
 |(_,_)::_,_::_,h=>⟨h.1,h.2.1,jb.push h1 h2 h.2.2⟩
 | [],_::_,h=>h.elim
 |_::_,[],h=>h.elim
theorem jb.modify {key v:AV} {f:MapEntry->MapEntry} (h1:∀e,aN V key (f e).key) (h2:∀e,aN V v (f e).val):∀{es:List (AV×AV)} {es':List MapEntry} (i:Nat),jb V es es'->jb V (es.set i (key,v)) (es'.modify i f)
 | [],[],i,_=>by cases i<;>exact trivial
 |(_,_)::_,e::_,0,h=>⟨h1 e,h2 e,h.2.2⟩
 |(_,_)::_,_::_,i+1,h=>by
  simp only[List.set_cons_succ,List.modify_succ_cons];exact⟨h.1,h.2.1,jb.modify h1 h2 i h.2.2⟩
 | [],_::_,_,h=>h.elim
 |_::_,[],_,h=>h.elim
theorem RW {kt:TypeId} (hs:jt P kt=true) (e:Bool) (n:Nat) (v:Value) (w:World):(vV e (n+1) kt v).run P w=.ok () w:=by
 unfold jt at hs;unfold vV;split at hs
 ·rename_i hu;simp only[bG,run_underlying hu,bF]<;>rfl
 ·rename_i hu;simp only[bG,run_underlying hu,bF]<;>rfl
 ·rename_i hu;simp only[bG,run_underlying hu,bF]<;>rfl
 ·cases hs
theorem bytes_beq (a b:By):((⟨a.toArray⟩:ByteArray)==⟨b.toArray⟩)=(a==b):=by
 show((a.toArray:Array UInt8)==b.toArray)=_;simp
theorem R0 {kt:TypeId} {d:TypeDesc} (hs:jt P kt=true) (hu:P.underlying kt=some d) {x y:AV} {v u:Value} {b:Bool} (h:cu P 100 kt x y=some b) (hx:aN V x v) (hy:aN V y u):
  Instr.sameNow d v u=some b/\(b=true->∀n,rZ n u v=true):=by
 unfold jt at hs;unfold cu at h;rw[hu]at hs h;cases d with
 |bool=>
  cases hx<;>cases hy<;>simp at h
  subst h;refine⟨rfl,λhb n=>?_⟩;rename_i p q;simp at hb;subst hb;cases n<;>simp[rZ]
 |int kk=>
  cases hx<;>cases hy<;>simp at h
  rename_i k1 p k2 q;obtain⟨rfl,rfl⟩:=h;refine⟨by simp[Instr.sameNow],λhb n=>?_⟩;simp at hb;subst hb;cases n<;>simp[rZ]
 |string=>
  cases hx<;>cases hy<;>simp at h
  rename_i p q;subst h;refine⟨by simp only[Instr.sameNow,bytes_beq],λhb n=>?_⟩;simp at hb;subst hb;cases n<;>simp[rZ,bytes_beq]
 |_=>cases hs
theorem Qz {kt:TypeId} {d:TypeDesc} (_:jt P kt=true) (_:P.underlying kt=some d) {x y:AV} {b:Bool} (h:eK P kt x y=some b):cu P 100 kt x y=some b:=by
 cases x<;>first|exact h|skip
 unfold eK at h;simp only at h;split at h
 ·exact h
 ·cases h
theorem OL {kt:TypeId} {d:TypeDesc} (hs:jt P kt=true) (hu:P.underlying kt=some d) {key:AV} {v:Value} (hk:aN V key v):∀{es:List (AV×AV)} {es':List MapEntry} (i:Nat) {r:Option (Nat×AV)},
  jb V es es'->du P kt key es i=some r->
  (match r with
   |none=>Instr.findNow d v es' i=some none
   |some (j,x)=>∃u e,Instr.findNow d v es' i=some (some (j,u))/\aN V x u/\i<=j/\es'[j-i]? =some e/\∀n,rZ n e.key v=true)
 | [],[],i,r,_,h=>by simp[du]at h;subst h;rfl
 |(x,y)::es,e::es',i,r,hm,h=>by
  unfold du at h;unfold Instr.findNow;split at h
  ·rename_i he;cases h;obtain⟨h1,h2⟩:=R0 hs hu (Qz hs hu he) hk hm.1;rw[h1];exact⟨e.val,e,rfl,hm.2.1,aA _,by simp,h2 rfl⟩
  ·rename_i he;obtain⟨h1,_⟩:=R0 hs hu (Qz hs hu he) hk hm.1;rw[h1];have ih:=OL hs hu hk (i+1) hm.2.2 h;split at ih
   ·exact ih
   ·rename_i j x';obtain⟨u,e2,g1,g2,g3,g4,g5⟩:=ih;refine⟨u,e2,g1,g2,by omega,?_,g5⟩;have:j-i=(j-(i+1))+1:=by omega
    rw[this];simpa using g4
  ·cases h
 | [],_::_,_,_,h,_=>h.elim
 |_::_,[],_,_,h,_=>h.elim
theorem nQ.symm {x y:AV} (h:nQ x y=true):nQ y x=true:=by
 unfold nQ at h;split at h
 ·obtain⟨rfl,rfl,rfl⟩:=of_decide_eq_true h;simp[nQ]
 ·cases h
theorem mY.symm {x y:AV} (h:mY x y):mY y x:=by
 unfold mY at h;split at h
 ·trivial
 ·exact h.symm
 ·trivial
 ·exact nQ.symm h
 ·cases h
theorem Fo {kt:TypeId} {x:AV} (h:Fm P kt x=true):∃t1 k1 n t2 s e ms i1 i2,x=.agg [.iface t1 (.int k1 n),.iface t2 (.str s)]/\P.underlying kt=some (.array 2 e)/\aE P e=1/\P.underlying e=some (.interface ms)/\
  P.underlying t1=some (.int k1)/\P.underlying t2=some .string/\P.info? t1=some i1/\i1.comparable=true/\P.info? t2=some i2/\i2.comparable=true:=by
 unfold Fm at h;split at h
 ·rename_i t1 k1 n t2 s;simp only[gH]at h;obtain⟨ha,hb⟩:=h;unfold Fl at ha;unfold Fp Gq at hb;simp only[gH]at hb;obtain⟨⟨⟨h1,h2⟩,h3⟩,h4⟩:=hb;split at ha
  ·rename_i e he;simp only[gH,beq_iff_eq]at ha;obtain⟨hs,hi⟩:=ha;split at hi
   ·rename_i ms hm;split at h1
    ·rename_i k hk;have h1:=of_decide_eq_true h1;subst h1;split at h2
     ·rename_i eX;split at h3
      ·rename_i i1 oG;split at h4
       ·rename_i i2 yJ;exact⟨t1,k,n,t2,s,e,ms,i1,i2,rfl,he,hs,hm,hk,eX,oG,h3,yJ,h4⟩
       ·cases h4
      ·cases h3
     ·cases h2
    ·cases h1
   ·cases hi
  ·cases ha
 ·cases h
theorem Jc {t1 t2:TypeId} {k1:IntKind} {n:Int} {s:By} {y:AV} (h:nQ (.agg [.iface t1 (.int k1 n),.iface t2 (.str s)]) y=true):∃m r,y=.agg [.iface t1 (.int k1 m),.iface t2 (.str r)]:=by
 unfold nQ at h;split at h
 ·rename_i a1 a2 a3 a4 a5 b1 b2 b3 b4 b5 hx;cases hx;obtain⟨rfl,rfl,rfl⟩:=of_decide_eq_true h;exact⟨_,_,rfl⟩
 ·cases h
theorem GJ {kt t1 t2 e:TypeId} {k1:IntKind} {n m:Int} {s r:By} {ms:Array (String×TypeId)} {i1 i2:TypeInfo} (he:P.underlying kt=some (.array 2 e)) (hs:aE P e=1) (hm:P.underlying e=some (.interface ms))
  (h1:P.underlying t1=some (.int k1)) (h2:P.underlying t2=some .string) (c1:P.info? t1=some i1) (d1:i1.comparable=true) (c2:P.info? t2=some i2) (d2:i2.comparable=true):
  cu P 100 kt (.agg [.iface t1 (.int k1 n),.iface t2 (.str s)]) (.agg [.iface t1 (.int k1 m),.iface t2 (.str r)])=some ((n==m)&&((s==r)&&true)):=by
 have ha:dz P e=some false:=by unfold dz;rw[hm]
 have hp (xs:List AV) (i:Nat):mh P e xs i=xs[i]?:=by unfold mh;rw[ha]
 have e1:cu P 98 t1 (.int k1 n) (.int k1 m)=some (n==m):=by unfold cu;rw[h1];simp
 have e2:cu P 98 t2 (.str s) (.str r)=some (s==r):=by unfold cu;rw[h2]
 have f1:cu P 99 e (.iface t1 (.int k1 n)) (.iface t1 (.int k1 m))=some (n==m):=by unfold cu;rw[hm];simp only[if_true,c1,d1,e1]
 have f2:cu P 99 e (.iface t2 (.str s)) (.iface t2 (.str r))=some (s==r):=by unfold cu;rw[hm];simp only[if_true,c2,d2,e2]
 unfold cu;rw[he];simp only[hs,KO,List.range_succ,List.range_zero,fx,eI,dO,lA,rb,hp,Nat.zero_mul,sg,List.getElem?_cons_zero,List.getElem?_cons_succ,f1,f2]
theorem Qy {kt:TypeId} {x y:AV} {b:Bool} (hs:fq P kt x=true) (h:eK P kt x y=some b):mY x y/\(b=true↔x=y):=by
 unfold fq at hs;rcases Bool.or_eq_true _ _▸hs with hs|hs
 ·have h:cu P 100 kt x y=some b:=by
   cases x<;>first|exact h|skip
   unfold eK at h;simp only at h;split at h
   ·exact h
   ·cases h
  unfold jt at hs;unfold cu at h;cases hu:P.underlying kt with
  |none=>rw[hu]at hs;cases hs
  |some d=>
   rw[hu]at hs h;cases d with
   |bool=>cases x<;>cases y<;>simp at h;subst h;exact⟨trivial,by simp⟩
   |int kk=>cases x<;>cases y<;>simp at h;obtain⟨rfl,rfl⟩:=h;exact⟨rfl,by simp⟩
   |string=>cases x<;>cases y<;>simp at h;subst h;exact⟨trivial,by simp⟩
   |_=>cases hs
 ·obtain⟨t1,k1,n,t2,s,e,ms,i1,i2,rfl,he,hz,hm,h1,h2,c1,d1,c2,d2⟩:=Fo hs;unfold eK at h;simp only at h;split at h
  ·rename_i ht;obtain⟨m,r,rfl⟩:=Jc ht;rw[GJ he hz hm h1 h2 c1 d1 c2 d2]at h;cases h;refine⟨ht,?_⟩;simp
  ·cases h
theorem ab7 {kt:TypeId} {x y z:AV} {b:Bool} (hs:fq P kt x=true) (h:eK P kt x y=some b) (g:mY y z):∃c,eK P kt x z=some c:=by
 unfold fq at hs;rcases Bool.or_eq_true _ _▸hs with hs|hs
 ·have h:cu P 100 kt x y=some b:=by
   cases x<;>first|exact h|skip
   unfold eK at h;simp only at h;split at h
   ·exact h
   ·cases h
  unfold jt at hs;unfold cu at h;cases hu:P.underlying kt with
  |none=>rw[hu]at hs;cases hs
  |some d=>
   rw[hu]at hs h;cases d with
   |bool=>cases x<;>cases y<;>simp at h;cases z<;>simp only[mY]at g;unfold eK cu;rw[hu];exact⟨_,rfl⟩
   |int kk=>cases x<;>cases y<;>simp at h;cases z<;>simp only[mY]at g;obtain⟨rfl,rfl⟩:=h;subst g;unfold eK cu;rw[hu];simp
   |string=>cases x<;>cases y<;>simp at h;cases z<;>simp only[mY]at g;unfold eK cu;rw[hu];exact⟨_,rfl⟩
   |_=>cases hs
 ·obtain⟨t1,k1,n,t2,s,e,ms,i1,i2,rfl,he,hz,hm,h1,h2,c1,d1,c2,d2⟩:=Fo hs;unfold eK at h;simp only at h;split at h
  ·rename_i ht;obtain⟨m,r,rfl⟩:=Jc ht;cases z with
   |agg zs=>
    obtain⟨m',r',hz'⟩:=Jc g;rw[hz'];refine⟨(n==m')&&((s==r')&&true),?_⟩;unfold eK;simp only;rw[if_pos (by simp[nQ]),GJ he hz hm h1 h2 c1 d1 c2 d2]
   |_=>cases g
  ·cases h
theorem RV {el t:TypeId} {ms:Array (String×TypeId)} {x:Value} {ti:TypeInfo} (hm:P.underlying el=some (.interface ms)) (hs:jt P t=true) (hi:P.info? t=some ti) (hc:ti.comparable=true) (e:Bool) (n:Nat) (w:World):
  (vV e (n+2) el (.iface t x)).run P w=.ok () w:=by
 unfold vV;simp only[bG,run_underlying hm,bF,typeInfo,hi];simp[hi,hc,RW hs]
theorem run_checkKey {kt:TypeId} {key:AV} {v:Value} (hs:fq P kt key=true) (hk:aN V key v) (e:Bool) (w:World):(vV e 10000 kt v).run P w=.ok () w:=by
 unfold fq at hs;rcases Bool.or_eq_true _ _▸hs with hs|hs
 ·exact RW hs e 9999 v w
 ·obtain⟨t1,k1,n,t2,s,el,ms,i1,i2,rfl,he,hz,hm,h1,h2,c1,d1,c2,d2⟩:=Fo hs;have s1:jt P t1=true:=by unfold jt;rw[h1]
  have s2:jt P t2=true:=by unfold jt;rw[h2]
  have ha:dz P el=some false:=by unfold dz;rw[hm]
  have hp (xs:List AV) (i:Nat):mh P el xs i=xs[i]?:=by unfold mh;rw[ha]
  cases hk with
  |agg _ au bg=>
   obtain⟨i,hi,oG⟩:∃i,P.info? el=some i/\i.size=1:=by
    unfold aE at hz;split at hz
    ·exact⟨_,‹_›,hz⟩
    ·cases hz
   obtain⟨v1,p1,r1⟩:=vD (P:=P) (off:=0) (by rw[hp];rfl) bg w;obtain⟨v2,p2,r2⟩:=vD (P:=P) (off:=1) (by rw[hp];rfl) bg w;cases r1;cases r2;rename_i v1 _ v2 _;have q1:(vV e 9999 el (.iface t1 v1)).run P w=.ok () w:=RV hm s1 c1 d1 e 9997 w;have q2:(vV e 9999 el (.iface t2 v2)).run P w=.ok () w:=RV hm s2 c2 d2 e 9997 w;unfold vV;simp only[bG,run_underlying he,bF];rw[Tt];simp only[Tu,Nat.sub_zero,Nat.add_sub_cancel,Nat.div_one,List.range'_succ,List.range'_zero,List.forIn_cons,List.forIn_nil,bG,run_sizeOf hi,oG,hz,bF,lC,Nat.zero_mul,dI,p1,p2,q1,q2,dh]
theorem afm {t1 t2:TypeId} {k1:IntKind} {n:Int} {s:By} {v u:Value} (h1:aN V (.agg [.iface t1 (.int k1 n),.iface t2 (.str s)]) v) (h2:aN V (.agg [.iface t1 (.int k1 n),.iface t2 (.str s)]) u):rZ 10000 u v=true:=by
 cases h1 with
 |agg _ cs h1=>
  cases h2 with
  |agg _ ds h2=>
   obtain⟨l1⟩:=cs;obtain⟨l2⟩:=ds;simp only at h1 h2;cases h1 with
   |cons _ _ _ _ a1 a2=>
    cases a1 with
    |iface _ _ _ a1=>
    cases a1;cases a2 with
    |cons _ _ _ _ b1 b2=>
     cases b1 with
     |iface _ _ _ b1=>
     cases b1;cases b2;cases h2 with
     |cons _ _ _ _ c1 c2=>
      cases c1 with
      |iface _ _ _ c1=>
      cases c1;cases c2 with
      |cons _ _ _ _ d1 d2=>
       cases d1 with
       |iface _ _ _ d1=>
       cases d1;cases d2;simp[rZ,bytes_beq]
theorem RY (uY:∀t n e,P.underlying t=some (.array n e)->(P.info? e).isSome=true) {kt t1 t2:TypeId} {k1:IntKind} {n:Int} {s:By} {v:Value} (hk:aN V (.agg [.iface t1 (.int k1 n),.iface t2 (.str s)]) v)
  (hs:Fm P kt (.agg [.iface t1 (.int k1 n),.iface t2 (.str s)])=true) (w:World):∀{es:List (AV×AV)} {es':List MapEntry} (i:Nat) {r:Option (Nat×AV)},
  jb V es es'->du P kt (.agg [.iface t1 (.int k1 n),.iface t2 (.str s)]) es i=some r->
  (match r with
   |none=>(Instr.findAsking kt v es' i).run P w=.ok none w
   |some (j,x)=>∃u e,(Instr.findAsking kt v es' i).run P w=.ok (some (j,u)) w/\aN V x u/\i<=j/\es'[j-i]? =some e/\rZ 10000 e.key v=true)
 | [],[],i,r,_,h=>by simp[du]at h;subst h;rfl
 |(x,y)::es,e::es',i,r,hm,h=>by
  unfold du at h;unfold Instr.findAsking;have key {b:Bool} (he:eK P kt (.agg [.iface t1 (.int k1 n),.iface t2 (.str s)]) x=some b):(Op.equal kt v e.key).run P w=.ok b w/\(b=true->rZ 10000 e.key v=true):=by
   have hq:cu P 100 kt (.agg [.iface t1 (.int k1 n),.iface t2 (.str s)]) x=some b:=by
    unfold eK at he;simp only at he;split at he
    ·exact he
    ·cases he
   refine⟨Mf (P:=P) (m:=9900) uY 100 kt _ x b v e.key hq hk hm.1 w,λhb=>?_⟩;subst hb;have hx:=(Qy (by unfold fq;rw[hs];simp) he).2.1 rfl;have h1:=hm.1;rw[<-hx]at h1;exact afm hk h1
  split at h
  ·rename_i he;cases h;obtain⟨h1,h2⟩:=key he;simp only[bG,h1,bF,if_true,dh];exact⟨e.val,e,rfl,hm.2.1,aA _,by simp,h2 rfl⟩
  ·rename_i he;obtain⟨h1,_⟩:=key he;simp only[bG,h1,bF,aW,if_false];have ih:=RY uY hk hs w (i+1) hm.2.2 h;split at ih
   ·exact ih
   ·rename_i j x';obtain⟨u,e2,g1,g2,g3,g4,g5⟩:=ih;refine⟨u,e2,g1,g2,by omega,?_,g5⟩;have:j-i=(j-(i+1))+1:=by omega
    rw[this];simpa using g4
  ·cases h
 | [],_::_,_,_,h,_=>h.elim
 |_::_,[],_,_,h,_=>h.elim
theorem run_findKey (uY:∀t n e,P.underlying t=some (.array n e)->(P.info? e).isSome=true) {kt:TypeId} {key:AV} {v:Value} (hs:fq P kt key=true) (hk:aN V key v) {es:List (AV×AV)} {es':List MapEntry} {r:Option (Nat×AV)} (hm:jb V es es') (h:du P kt key es 0=some r) (w:World):
  (match r with
   |none=>(Instr.findKey kt v es').run P w=.ok none w
   |some (j,x)=>∃u e,(Instr.findKey kt v es').run P w=.ok (some (j,u)) w/\aN V x u/\es'[j]? =some e/\rZ 10000 e.key v=true):=by
 unfold fq at hs;rcases Bool.or_eq_true _ _▸hs with hs|hs
 ·obtain⟨d,hu⟩:∃d,P.underlying kt=some d:=by
   unfold jt at hs;cases hu:P.underlying kt with
   |none=>rw[hu]at hs;cases hs
   |some d=>exact⟨d,rfl⟩
  have hf:=OL hs hu hk 0 hm h;unfold Instr.findKey;simp only[bG,run_underlying hu,bF];split at hf
  ·rw[hf];rfl
  ·obtain⟨u,e,g1,g2,_,g4,g5⟩:=hf;rw[g1];exact⟨u,e,rfl,g2,by simpa using g4,g5 _⟩
 ·obtain⟨t1,k1,n,t2,s,el,ms,i1,i2,rfl,he,hz,kB,h1,h2,c1,d1,c2,d2⟩:=Fo hs;unfold Instr.findKey;simp only[bG,run_underlying he,bF];cases es' with
  |nil=>
   cases es with
   |cons _ _=>exact hm.elim
   |nil=>simp[du]at h;subst h;rfl
  |cons e es'=>
   have hf:=RY uY hk hs w 0 hm h;have hn:Instr.findNow (.array 2 el) v (e::es') 0=none:=by simp[Instr.findNow,Instr.sameNow]
   rw[hn];simp only;split at hf
   ·exact hf
   ·obtain⟨u,e2,g1,g2,_,g4,g5⟩:=hf;exact⟨u,e2,g1,g2,by simpa using g4,g5⟩
theorem OM {kt:TypeId} {key:AV} {es:List (AV×AV)} {i:Nat} {r:Option (Nat×AV)} (hs:fq P kt key=true) (hK:nY es) (h:du P kt key es i=some r):∀x∈es,∃b,eK P kt key x.1=some b:=by
 cases es with
 |nil=>intro x hx;cases hx
 |cons y es=>
  obtain⟨y,v⟩:=y;have h0:∃b,eK P kt key y=some b:=by
   unfold du at h;split at h
   ·exact⟨_,‹_›⟩
   ·exact⟨_,‹_›⟩
   ·cases h
  obtain⟨b,hb⟩:=h0;intro x hx;rcases bS.1 hx with rfl|hx
  ·exact⟨b,hb⟩
  ·exact ab7 hs hb ((List.pairwise_cons.1 hK).1 x hx).1
theorem find_spec {kt:TypeId} {key:AV} (hs:fq P kt key=true):∀(l:List (AV×AV)) (i:Nat),(∀x∈l,∃b,eK P kt key x.1=some b)->
  (du P kt key l i=some none/\∀x∈l,mY key x.1/\key≠x.1)\/∃j v,du P kt key l i=some (some (i+j,v))/\l[j]? =some (key,v)
 | [],i,_=>.inl ⟨rfl,λx hx=>by cases hx⟩
 |(y,v)::l,i,h=>by
  obtain⟨b,hb⟩:=h (y,v) (by simp);obtain⟨h1,h2⟩:=Qy hs hb;cases b with
  |true=>exact .inr ⟨0,v,by unfold du;rw[hb];rfl,by rw[h2.1 rfl];rfl⟩
  |false=>
   have hm:du P kt key ((y,v)::l) i=du P kt key l (i+1):=by
    rw[du,hb]
   have bD:key≠y:=λe=>by have:=h2.2 e;cases this
   rcases find_spec hs l (i+1) λx hx=>h x (List.mem_cons_of_mem _ hx)with⟨g1,g2⟩|⟨j,u,g1,g2⟩
   ·refine .inl ⟨by rw[hm,g1],λx hx=>?_⟩;rcases bS.1 hx with rfl|hx
    ·exact⟨h1,bD⟩
    ·exact g2 x hx
   ·exact .inr ⟨j+1,u,by rw[hm,g1];congr 3;omega,by simpa using g2⟩
theorem Rz {kt:TypeId} {key:AV} {es l:List (AV×AV)} (hs:fq P kt key=true) (hK:nY es) (hp:l.Perm es) (h:du P kt key es 0=some none):du P kt key l 0=some none/\∀x∈es,mY key x.1/\key≠x.1:=by
 have ha:=OM hs hK h;have bD:∀x∈es,mY key x.1/\key≠x.1:=by
  rcases find_spec hs es 0 ha with⟨_,g⟩|⟨j,v,g,_⟩
  ·exact g
  ·rw[h]at g;cases g
 refine⟨?_,bD⟩;rcases find_spec hs l 0 (λx hx=>ha x (hp.mem_iff.1 hx))with⟨g,_⟩|⟨j,v,_,g⟩
 ·exact g
 ·exact absurd rfl (bD (key,v) (hp.mem_iff.1 (fF g))).2
theorem RA {kt:TypeId} {key v:AV} {j:Nat} {es l:List (AV×AV)} (hs:fq P kt key=true) (hK:nY es) (hp:l.Perm es) (h:du P kt key es 0=some (some (j,v))):es[j]? =some (key,v)/\∃j',du P kt key l 0=some (some (j',v))/\l[j']? =some (key,v):=by
 have ha:=OM hs hK h;have hj:es[j]? =some (key,v):=by
  rcases find_spec hs es 0 ha with⟨g,_⟩|⟨j',v',g,g2⟩
  ·rw[h]at g;cases g
  ·rw[h]at g;cases g;rwa [dI]
 refine⟨hj,?_⟩;have hm:(key,v)∈l:=hp.mem_iff.2 (fF hj);rcases find_spec hs l 0 (λx hx=>ha x (hp.mem_iff.1 hx))with⟨_,g⟩|⟨j',v',g,g2⟩
 ·exact absurd rfl (g _ hm).2
 ·have hv:v'=v:=by
   have kB:(key,v')∈es:=hp.mem_iff.1 (fF g2);have dV:=fF hj;have hu:∀es:List (AV×AV),nY es->(key,v)∈es->(key,v')∈es->v'=v:=by
    intro es
    induction es with
    |nil=>intro _ h;cases h
    |cons x es ih=>
     intro hK h1 h2;obtain⟨k1,k2⟩:=List.pairwise_cons.1 hK;rcases bS.1 h1 with e1|m1
     ·rcases bS.1 h2 with e2|m2
      ·rw[<-e1]at e2;cases e2;rfl
      ·rw[<-e1]at k1;exact absurd rfl (k1 _ m2).2
     ·rcases bS.1 h2 with e2|m2
      ·rw[<-e2]at k1;exact absurd rfl (k1 _ m1).2
      ·exact ih k2 m1 m2
   exact hu es hK dV kB
  subst hv;exact⟨0+j',g,g2.trans rfl|>λh=>by rwa [dI]⟩
theorem FG {α:Type} {b:α}:∀(l:List α) (i:Nat),i<l.length->(l.set i b).Perm (b::l.eraseIdx i)
 |x::l,0,_=>Cu _
 |x::l,i+1,h=>by
  simp only[List.set_cons_succ,List.eraseIdx_cons_succ];exact((FG l i (by simpa using h)).cons x).trans (List.Perm.swap ..)
theorem Mh {α:Type} {a:α} {l:List α} {i:Nat} (h:l[i]? =some a):(a::l.eraseIdx i).Perm l:=by
 obtain⟨h1,h2⟩:=bl.1 h;have:=FG (b:=a) l i h1;rw[<-h2,List.set_getElem_self,h2]at this;exact this.symm
theorem aeC {α:Type} {l es:List α} {a b:α} {i j:Nat} (hp:l.Perm es) (hi:l[i]? =some a) (hj:es[j]? =some a):(l.set i b).Perm (es.set j b):=by
 have h1:=Mh hi;have h2:=Mh hj;have oG:=(bl.1 hi).1;have H2:=(bl.1 hj).1;have h3:(l.eraseIdx i).Perm (es.eraseIdx j):=(List.perm_cons a).1 (h1.trans (hp.trans h2.symm));exact(FG l i oG).trans ((h3.cons b).trans (FG es j H2).symm)
theorem nY.set {key v v':AV} {es:List (AV×AV)} {j:Nat} (h:nY es) (hj:es[j]? =some (key,v)):nY (es.set j (key,v')):=by
 have h1:(es.map (·.1)).Pairwise λx y=>mY x y/\x≠y:=List.pairwise_map.2 h;have e:(es.set j (key,v')).map (·.1)=es.map (·.1):=by
  rw[List.map_set];apply List.ext_getElem?;intro i;by_cases Eg:j=i
  ·subst Eg;rw[cM (by have:=(bl.1 hj).1;simpa using this)];rw[gI,hj];rfl
  ·rw[aD Eg]
 exact List.pairwise_map.1 (by rw[e];exact h1)
theorem Qn (key v:AV) (es:List (AV×AV)):(lj key v es).Perm (es++[(key,v)]):=by
 unfold lj;split
 ·exact(List.perm_append_comm (l₁:=es) (l₂:=[(_,v)])).symm
 ·exact Cu _
theorem nY.ins {key v:AV} {es:List (AV×AV)} (h:nY es) (hn:∀x∈es,mY key x.1/\key≠x.1):nY (lj key v es):=by
 have hp:=Qn key v es;unfold nY at h|-;refine(List.Perm.pairwise_iff (λ{x y} wW=>⟨wW.1.symm,wW.2.symm⟩) hp).2 (List.pairwise_append.2 ⟨h,List.pairwise_singleton ..,λx hx y hy=>?_⟩);rw[oZ]at hy;subst hy;exact⟨(hn x hx).1.symm,(hn x hx).2.symm⟩
theorem OY {r:Nat} {es:Array MapEntry} {clock:Nat} (hb:w.heap[r]? =some (.map es clock)):(getObj r).run P w=.ok (.map es clock) w:=by
 simp[getObj,Sem.run,hb]
theorem R9 {r:Nat} {es:Array MapEntry} {clock:Nat} (o:Obj) (hb:w.heap[r]? =some (.map es clock)):(setObj r o).run P w=.ok () {w with heap:=w.heap.setIfInBounds r o}:=by
 simp[setObj,Sem.run,hb]
theorem aee (hP:fz P) {t:TypeId} {x ix:Operand} {ok:Bool} (H:aR V0 w0 V lam env U a w) (hk:cQ V0 w0 a o.dst next out k) (ho:o.op=.lookup t x ix ok)
  (hx:(match P.underlying t with
   |some (.map kt et)=>(match env.get ix with
    | .v key=>jR P kt et U (env.get x) key λv b=>k (.v (cond ok (.tuple [v,.bool b]) v)) env U
    |_=>none)
   |_=>none)=some out):o.wp P a w next Q:=by
 have h1:=H.get x;have h2:=H.get ix;split at hx
 ·rename_i kt et hu;split at hx
  ·rename_i key hp;rw[hp]at h2;have l9:=h2.val;unfold jR at hx;split at hx
   ·rename_i hs;have fin (v:AV) (v':Value) (b:Bool) (hv:aN V v v') (bA:(Instr.lookup t (a.eval x) (a.eval ix) ok).run P w=.ok (if ok then .tuple #[v',.bool b]else v') w)
      (hx:k (.v (cond ok (.tuple [v,.bool b]) v)) env U=some out):o.wp P a w next Q:=by
     refine dX H hk (v:=if ok then .tuple #[v',.bool b]else v') ?_ (.v _ _ ?_) hx
     ·simp only[execOp,ho];exact k7 bA
     ·cases ok
      ·exact hv
      ·exact .tuple _ _ (.cons _ _ _ _ hv (.cons _ _ _ _ (.bool b) .nil))
    split at hx
    ·rename_i hm;split at hx
     ·rename_i z hz;rw[hm]at h1;have jo:=h1.val;generalize cf:a.eval x=xv at jo fin;cases jo;obtain⟨zv,oK,nN⟩:=xy (P:=P) hz V w;refine fin z zv false nN ?_ hx;have hf:=run_findKey hP.arr hs l9 (es:=[]) (es':=[]) (r:=none) trivial rfl w;simp only at hf;simp only[Instr.lookup,bG,run_underlying hu,bF,dh,run_checkKey hs l9,hf,oK]
     ·cases hx
    ·rename_i b hm;rw[hm]at h1;have jo:=h1.val;generalize cf:a.eval x=xv at jo fin;cases jo with
     |map _ e he=>
      split at hx
      ·rename_i es fC;obtain⟨e',bn,ff⟩:=H.r.obj b _ fC;rw[he]at bn;cases bn;obtain⟨es',clock,g1,⟨l,jJ,g2⟩,hK,g3⟩:=ff;have nA:=OY (P:=P) g1;split at hx
       ·rename_i j v wN;obtain⟨_,j',BC,_⟩:=RA hs hK jJ wN;obtain⟨u,en,f1,f2,_⟩:=run_findKey hP.arr hs l9 g2 BC w;refine fin v u true f2 ?_ hx;simp only[Instr.lookup,bG,run_underlying hu,bF,nA,dh,run_checkKey hs l9,f1]
       ·rename_i wN;have hf:=run_findKey hP.arr hs l9 g2 (Rz hs hK jJ wN).1 w;simp only at hf;split at hx
        ·rename_i z hz;obtain⟨zv,oK,nN⟩:=xy (P:=P) hz V w;refine fin z zv false nN ?_ hx;simp only[Instr.lookup,bG,run_underlying hu,bF,nA,dh,run_checkKey hs l9,hf,oK]
        ·cases hx
       ·cases hx
      ·cases hx
    ·cases hx
   ·cases hx
  ·cases hx
 ·cases hx
theorem aeh {t:TypeId} {r:Option Operand} (H:aR V0 w0 V lam env U a w) (hk:cQ V0 w0 a o.dst next out k) (ho:o.op=.makeMap t r)
  (hx:zg P t (r.map env.get) (mZ (env.kI o.dst) U (.map []) λb U'=>k (.v (.map (some b))) env U')=some out):o.wp P a w next Q:=by
 unfold zg at hx;split at hx
 ·rename_i kt et hu;have main (bA:(Instr.makeMap t (r.map a.eval)).run P w=.ok (.map (some w.heap.size)) (w.alloc (.map #[] 0))) (hx:mZ (env.kI o.dst) U (.map []) (λb U'=>k (.v (.map (some b))) env U')=some out):o.wp P a w next Q:=by
   have hg:=e8.alloc w (.map #[] 0);generalize env.kI o.dst=s at hx;cases s with
   |some b=>
    unfold mZ ow at hx;split at hx
    ·rename_i b' heq;cases heq
    ·rename_i b' heq;cases heq;split at hx
     ·rename_i hb;obtain⟨hR,hE⟩:=H.r.fill hg hb (o:=.map []) (e:=⟨w.heap.size,0,0,true⟩) rfl ⟨#[],0,hg.new,⟨[],Cu _,trivial⟩,Tp,rfl⟩;refine lx (v:=.map (some w.heap.size)) ?_ (hk _ _ _ _ _ _ _ (H.step hR hE (hg.fr V)) (.v _ _ ?_) hx)
      ·simp only[execOp,ho];exact k7 bA
      ·exact .map b ⟨w.heap.size,0,0,true⟩ (mi _ _ _)
     ·cases hx
   |none=>
   have hx:k (.v (.map (some U.length))) env (U++[.map []])=some out:=hx;obtain⟨hR,hE⟩:=H.r.grow hg (o:=.map []) (e:=⟨w.heap.size,0,0,true⟩) rfl ⟨#[],0,hg.new,⟨[],Cu _,trivial⟩,Tp,rfl⟩;refine lx (v:=.map (some w.heap.size)) ?_ (hk _ _ _ _ _ _ _ (H.step hR hE (hg.fr V)) (.v _ _ ?_) hx)
   ·simp only[execOp,ho];exact k7 bA
   ·exact .map U.length ⟨w.heap.size,0,0,true⟩ (mi _ _ _)
  cases r with
  |none=>exact main rfl hx
  |some y=>
   have hy:=H.get y;simp only[je]at hx;split at hx
   ·rename_i h;cases h
   ·rename_i kk n hp;simp only[dP]at hp;rw[hp]at hy;have hv:=hy.val;generalize Ez:a.eval y=yv at hv;cases hv;refine main ?_ hx;simp only[je,Ez,Instr.makeMap,bG,run_underlying hu,bF,asInt,dh];rfl
   ·cases hx
 ·cases hx
theorem afr {b:Nat} {es es':Array MapEntry} {c c':Nat} (h:w.heap[b]? =some (.map es c)):qd w {w with heap:=w.heap.setIfInBounds b (.map es' c')} b (.map es' c') where
 os:=rfl
 tape:=rfl
 output:=rfl
 size:=by simp
 at_:=by
  have al:b<w.heap.size:=(qQ.1 h).1;simp[al]
 other:=λk hk=>by rw[vT (cY hk)]
theorem Rn (hP:fz P) {t:TypeId} {m ix x:Operand} (H:aR V0 w0 V lam env U a w) (hk:cQ V0 w0 a o.dst next out k) (ho:o.op=.mapUpdate t m ix x\/o.op=.insert t m ix x)
  (hx:(match P.underlying t with
   |some (.map kt _)=>(match env.get ix,env.get x with
    | .v key,.v v=>bY P kt U (env.get m) key v λU'=>k .no env U'
    |_,_=>none)
   |_=>none)=some out):o.wp P a w next Q:=by
 have h1:=H.get m;have h2:=H.get ix;have h3:=H.get x;split at hx
 ·rename_i kt et hu;split at hx
  ·rename_i key v hp hq;rw[hp]at h2;rw[hq]at h3;have l9:=h2.val;have yU:=h3.val;unfold bY at hx;split at hx
   ·rename_i hs;split at hx
    ·rename_i b hm;rw[hm]at h1;have jo:=h1.val;generalize cf:a.eval m=mv at jo;cases jo with
     |map _ e he=>
      split at hx
      ·rename_i es fC;obtain⟨e',bn,ff⟩:=H.r.obj b _ fC;rw[he]at bn;cases bn;obtain⟨es',clock,g1,⟨l,jJ,g2⟩,hK,g3⟩:=ff;have nA:=OY (P:=P) g1;have fin (C3:List (AV×AV)) (mE:Array MapEntry) (c2:Nat) (hr:∃l,l.Perm C3/\jb V l mE.toList) (hK1:nY C3)
         (bA:(Instr.mapUpdate t (a.eval m) (a.eval ix) (a.eval x)).run P w=.ok () {w with heap:=w.heap.setIfInBounds e.blk (.map mE c2)})
         (hx:k .no env (U.set b (.map C3))=some out):o.wp P a w next Q:=by
        have eu:=afr (es':=mE) (c':=c2) g1;have hR:=H.r.vO fC he g3 rfl eu (o':=.map C3) ⟨mE,c2,eu.at_,hr,hK1,g3⟩;refine J1 (w':={w with heap:=w.heap.setIfInBounds e.blk (.map mE c2)}) ?_ (hk _ _ _ _ _ _ _ (H.step hR (Ext.refl _ _) (eu.fr he g3)) (.no _) hx);have hex:execOp a.eval o=(do Instr.mapUpdate t (a.eval m) (a.eval ix) (a.eval x);pure .skip):=by
         rcases ho with ho|ho<;>simp only[execOp,ho]
        rw[hex];simp only[bG,bA,bF,dh]
       rw[cf]at fin;split at hx
       ·rename_i j y wN;obtain⟨Pn,j',BC,hlj⟩:=RA hs hK jJ wN;obtain⟨u,en,f1,f2,f3,f4⟩:=run_findKey hP.arr hs l9 g2 BC w;rw[p5]at f3;refine fin _ (es'.modify j' λe=>{e with key:=a.eval ix,val:=a.eval x}) clock ⟨l.set j' (key,v),aeC jJ hlj Pn,by rw[Array.toList_modify];exact jb.modify (λ_=>l9) (λ_=>yU) j' g2⟩ (hK.set Pn) ?_ hx;simp only[Instr.mapUpdate,bG,run_underlying hu,bF,nA,run_checkKey hs l9,f1,f3,je,qb,Instr.keyThatStays,f4,if_true,dh,R9 _ g1]
       ·rename_i wN;obtain⟨BC,bD⟩:=Rz hs hK jJ wN;have hf:=run_findKey hP.arr hs l9 g2 BC w;simp only at hf;refine fin _ (es'.push {key:=a.eval ix,val:=a.eval x,born:=clock}) (clock+1) ⟨l++[(key,v)],(jJ.append (Cu _)).trans (Qn key v es).symm,by rw[Array.toList_push];exact jb.push l9 yU g2⟩ (hK.ins bD) ?_ hx;simp only[Instr.mapUpdate,bG,run_underlying hu,bF,nA,run_checkKey hs l9,hf,R9 _ g1]
       ·cases hx
      ·cases hx
    ·cases hx
   ·cases hx
  ·cases hx
 ·cases hx
theorem aes {x:Operand} {xt ty:TypeId} {ok:Bool} (H:aR V0 w0 V lam env U a w) (hk:cQ V0 w0 a o.dst next out k) (ho:o.op=.typeAssert x xt ty ok)
  (hx:qY P (env.get x) ty ok (λv=>k (.v v) env U)=some out):o.wp P a w next Q:=by
 have h1:=H.get x;unfold qY at hx;split at hx
 ·cases hx
 ·rename_i d hn hu;unfold xX at hx;have DU (bA:∀v,(zeroValue ty).run P w=.ok v w->ok=true->(Instr.typeAssert (a.eval x) xt ty ok).run P w=.ok (.tuple #[v,.bool false]) w)
    (hx:cond ok (match zeroOf P ty with|some z=>k (.v (.tuple [z,.bool false])) env U|none=>none) none=some out):o.wp P a w next Q:=by
   cases ok
   ·cases hx
   ·simp only[cond]at hx;split at hx
    ·rename_i z hz;obtain⟨zv,oK,nN⟩:=xy (P:=P) hz V w;refine dX H hk (v:=.tuple #[zv,.bool false]) ?_ (.v _ _ (.tuple _ _ (.cons _ _ _ _ nN (.cons _ _ _ _ (.bool false) .nil)))) hx;simp only[execOp,ho];exact k7 (bA zv oK rfl)
    ·cases hx
  have uW:∀ms,d≠ .interface ms:=λms e=>hn ms e;split at hx
  ·rename_i hp;rw[hp]at h1;have hv:=h1.val;generalize cf:a.eval x=xv at hv DU;cases hv;refine DU (λv hz fD=>?_) hx;subst fD;unfold Instr.typeAssert;simp only[bG,run_underlying hu,bF];cases d<;>first|exact absurd rfl (uW _)|simp only[if_true,bG,hz,bF,dh]
  ·rename_i t v hp;rw[hp]at h1;have hv:=h1.val;generalize cf:a.eval x=xv at hv DU;cases hv with
   |iface _ _ v' hr=>
    split at hx
    ·rename_i ht;subst ht;refine dX H hk (v:=if ok then .tuple #[v',.bool true]else v') ?_ (.v _ _ ?_) hx
     ·simp only[execOp,ho];refine k7 ?_;rw[cf];unfold Instr.typeAssert;simp only[bG,run_underlying hu,bF];cases d<;>first|exact absurd rfl (uW _)|simp only[if_true,dh]
     ·cases ok
      ·exact hr
      ·exact .tuple _ _ (.cons _ _ _ _ hr (.cons _ _ _ _ (.bool true) .nil))
    ·rename_i ht;refine DU (λv hz fD=>?_) hx;subst fD;unfold Instr.typeAssert;simp only[bG,run_underlying hu,bF];cases d<;>first|exact absurd rfl (uW _)|simp only[if_neg ht,if_true,bG,hz,bF,dh]
  ·cases hx
 ·cases hx
end
end Go.AM
end

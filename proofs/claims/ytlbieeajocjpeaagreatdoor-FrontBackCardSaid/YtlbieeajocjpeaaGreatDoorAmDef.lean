/- An interpreter of the model's code over an abstract heap: its definitions. -/
import Derived.Orders
namespace Go.AM
inductive AV where
 | bool (b:Bool)
 | int (k:IntKind) (n:Int)
 | str (s:List UInt8)
 | ptr (a:Option (Nat × Nat))
 | slice (a:Option (Nat × Nat)) (len:Nat) (cap:Option Nat) (sz:Nat)
 | map (r:Option Nat)
 | func (fn:Fn) (first captured:List AV)
 | nilFunc
 | iface (t:TypeId) (v:AV)
 | nilIface
 | agg (cs:List AV)
 | tuple (vs:List AV)
 deriving Inhabited
inductive TV where
 | v (x:AV)
 | lp (k off:Nat)
 | ls (k len:Nat)
 | gl (g off:Nat)
 | no
 deriving Inhabited
inductive Mk where
 | any | row (t:TypeId) | box (t:TypeId)
 deriving Inhabited,DecidableEq
inductive Wr where
 | ro
 | rw (t:Mk)
 deriving Inhabited,DecidableEq
inductive AObj where
 | cells (cs:List AV) (wr:Wr)
 | glob (g:Nat) (cs:List AV)
 | know (g:Nat) (p:Obj → Prop)
 | map (es:List (AV × AV))
 | iter (s:List UInt8) (pos:Nat)
 | dead
 deriving Inhabited
abbrev St:=List AObj
abbrev Locs:=List (Nat × List AV)
abbrev Defs:=List (FuncId × List AV)
structure Env where
 tmps:List TV
 locs:Locs
 defs:Defs
inductive Res where
 | ret (v:AV)
 | pan (v:AV)
abbrev Out:=Option (Res × St)
abbrev Caller:=FuncId → List AV → St → Out
inductive X where
 | normal | exit (id:Nat) | ret
def AV.one:AV → Bool
 | .agg _ | .tuple _=>false
 | _=>true
def AV.cells:AV → List AV
 | .agg cs=>cs
 | x=>[x]
def AV.flat1:AV → Bool
 | .bool _ | .int _ _ | .str _ | .ptr none | .slice none _ _ _ | .map none | .nilFunc | .nilIface=>true
 | _=>false
def AV.flat2:AV → Bool
 | .agg cs=>cs.all AV.flat1
 | x=>x.flat1
def AV.flat:AV → Bool
 | .tuple vs=>vs.all AV.flat2
 | x=>x.flat2
def ofV1:Value → Option AV
 | .bool b=>some (.bool b)
 | .int k n=>some (.int k n)
 | .string s=>some (.str s.data.toList)
 | .pointer none=>some (.ptr none)
 | .slice none 0 0=>some (.slice none 0 (some 0) 0)
 | .map none=>some (.map none)
 | .nilFunc=>some .nilFunc
 | .nilIface=>some .nilIface
 | _=>none
def ofVs:List Value → Option (List AV)
 | []=>some []
 | v :: vs=>match ofV1 v with
  | some x=>match ofVs vs with
   | some xs=>some (x :: xs)
   | none=>none
  | none=>none
def ofV:Value → Option AV
 | .agg cs=>match ofVs cs.toList with | some xs=>some (.agg xs) | none=>none
 | .tuple cs=>match ofVs cs.toList with | some xs=>some (.tuple xs) | none=>none
 | v=>ofV1 v
def Env.get (env:Env):Operand → TV
 | .tmp t=>env.tmps.getD t .no
 | .const c=>match ofV c with | some x=>.v x | none=>.no
 | .global g=>.gl g 0
 | .func f=>.v (.func (.func f) [] [])
def Env.put (env:Env) (dst:Option Tmp) (t:TV):Env:=
 match dst with
 | some d=>{ env with tmps:=env.tmps.set d t }
 | none=>env
def lookL:Locs → Nat → Option (List AV)
 | [],_=>none
 | (k,cs) :: r,j=>if k = j then some cs else lookL r j
def setL:Locs → Nat → List AV → Locs
 | [],j,cs=>[(j,cs)]
 | (k,c) :: r,j,cs=>if k = j then (k,cs) :: r else if j < k then (j,cs) :: (k,c) :: r else (k,c) :: setL r j cs
def killT (j:Nat):TV → TV
 | .lp k off=>if k = j then .no else .lp k off
 | .ls k n=>if k = j then .no else .ls k n
 | t=>t
def setMany (cs:List AV) (off:Nat):List AV → List AV
 | []=>cs
 | x :: xs=>setMany (cs.set off x) (off + 1) xs
def szOf (P:Program) (t:TypeId):Nat:=match P.info? t with | some i=>i.size | none=>0
def bytesOfT (P:Program) (t:TypeId):Nat:=match P.info? t with | some i=>i.bytes | none=>0
def aggO (P:Program) (t:TypeId):Option Bool:=
 match P.underlying t with
 | some (.struct _)=>some true
 | some (.array _ _)=>some true
 | some _=>some false
 | none=>none
def zeroOf (P:Program) (t:TypeId):Option AV:=
 match P.info? t with
 | some i=>match i.zero with | some z=>ofV z | none=>none
 | none=>none
def zeroFits (P:Program) (t:TypeId):Bool:=match zeroOf P t with | some z=>z.cells.length == szOf P t | none=>false
def partK (P:Program) (t:TypeId) (cs:List AV) (off:Nat) (k:AV → Out):Out:=
 match aggO P t with
 | some true=>if off + szOf P t ≤ cs.length then k (.agg ((cs.drop off).take (szOf P t))) else none
 | some false=>(match cs[off]? with
  | some x=>k x
  | none=>none)
 | none=>none
def partO (P:Program) (t:TypeId) (cs:List AV) (off:Nat):Option AV:=
 match aggO P t with
 | some true=>if off + szOf P t ≤ cs.length then some (.agg ((cs.drop off).take (szOf P t))) else none
 | some false=>cs[off]?
 | none=>none
def ibin (op:BinOp) (k:IntKind) (a b:Int):Option AV:=
 match op with
 | .add=>some (.int k (k.wrap (a + b)))
 | .sub=>some (.int k (k.wrap (a - b)))
 | .mul=>some (.int k (k.wrap (a * b)))
 | .quo=>if b = 0 then none else some (.int k (k.wrap (a.tdiv b)))
 | .rem=>if b = 0 then none else some (.int k (a.tmod b))
 | .and=>some (.int k (k.wrap ((BitVec.ofInt k.bits a &&& BitVec.ofInt k.bits b).toNat:Nat)))
 | .or=>some (.int k (k.wrap ((BitVec.ofInt k.bits a ||| BitVec.ofInt k.bits b).toNat:Nat)))
 | .xor=>some (.int k (k.wrap ((BitVec.ofInt k.bits a ^^^ BitVec.ofInt k.bits b).toNat:Nat)))
 | .andNot=>some (.int k (k.wrap ((BitVec.ofInt k.bits a &&& ~~~ BitVec.ofInt k.bits b).toNat:Nat)))
 | .eql=>some (.bool (a == b))
 | .neq=>some (.bool (a != b))
 | .lss=>some (.bool (decide (a < b)))
 | .leq=>some (.bool (decide (a ≤ b)))
 | .gtr=>some (.bool (decide (a > b)))
 | .geq=>some (.bool (decide (a ≥ b)))
 | .shl=>if b < 0 then none else some (.int k (k.wrap (a * 2 ^ (min b.toNat k.bits))))
 | .shr=>if b < 0 then none else some (.int k (a.fdiv (2 ^ (min b.toNat k.bits))))
def sbin (op:BinOp) (a b:List UInt8):Option AV:=
 match op with
 | .add=>if a.length + b.length ≤ 4611686018427387904 then some (.str (a ++ b)) else none
 | .eql=>some (.bool (a == b))
 | .neq=>some (.bool (!(a == b)))
 | .lss=>some (.bool (Op.bytesLess a b))
 | .leq=>some (.bool (Op.bytesLess a b || a == b))
 | .gtr=>some (.bool (!(Op.bytesLess a b || a == b)))
 | .geq=>some (.bool (!(Op.bytesLess a b)))
 | _=>none
def eqList (f:TypeId → AV → AV → Option Bool) (P:Program) (xs ys:List AV):List (TypeId × Nat) → Option Bool
 | []=>some true
 | (t,off) :: r=>
  match partO P t xs off with
  | some x=>match partO P t ys off with
   | some y=>match f t x y with
    | some b=>match eqList f P xs ys r with
     | some c=>some (b && c)
     | none=>none
    | none=>none
   | none=>none
  | none=>none
def arrParts (e n:Nat) (size:Nat):List (TypeId × Nat):=(List.range n).map fun i=>(e,i * size)
def eqIn (P:Program):Nat → TypeId → AV → AV → Option Bool
 | 0,_,_,_=>none
 | d + 1,t,x,y=>
  match P.underlying t with
  | some .bool=>match x,y with | .bool a,.bool b=>some (a == b) | _,_=>none
  | some (.int _)=>match x,y with | .int k a,.int k' b=>if k = k' then some (a == b) else none | _,_=>none
  | some .string=>match x,y with | .str a,.str b=>some (a == b) | _,_=>none
  | some (.pointer e)=>match x,y with | .ptr none,.ptr b=>some b.isNone | .ptr (some _),.ptr none=>some false | .ptr (some p),.ptr (some q)=>if p.1 = q.1 ∧ szOf P e ≠ 0 then some (p.2 == q.2) else none | _,_=>none
  | some (.slice _)=>match x,y with | .slice none _ _ _,.slice b _ _ _=>some b.isNone | .slice (some _) _ _ _,.slice none _ _ _=>some false | _,_=>none
  | some (.map _ _)=>match x,y with | .map none,.map b=>some b.isNone | .map (some _),.map none=>some false | _,_=>none
  | some (.func _ _ _)=>match x,y with | .nilFunc,.nilFunc=>some true | .nilFunc,.func _ _ _=>some false | .func _ _ _,.nilFunc=>some false | _,_=>none
  | some (.interface _)=>match x,y with
   | .nilIface,.nilIface=>some true
   | .nilIface,.iface _ _=>some false
   | .iface _ _,.nilIface=>some false
   | .iface tx vx,.iface ty vy=>if tx = ty then (match P.info? tx with | some i=>if i.comparable then eqIn P d tx vx vy else none | none=>none) else some false
   | _,_=>none
  | some (.struct fs)=>if P.stoodInHeld t then none else
   match x,y with
   | .agg xs,.agg ys=>eqList (eqIn P d) P xs ys ((fs.toList.filter fun f=>decide (f.name ≠ "_")).map fun f=>(f.type,f.offset))
   | _,_=>none
  | some (.array n e)=>match x,y with
   | .agg xs,.agg ys=>eqList (eqIn P d) P xs ys (arrParts e n (szOf P e))
   | _,_=>none
  | _=>none
def eqFree (P:Program) (t:TypeId):Bool:=
 match P.underlying t with
 | some (.struct _)=>!(P.eqGuardType P.depth t)
 | some (.array _ _)=>!(P.eqGuardType P.depth t)
 | _=>true
def Operand.const?:Operand → Bool
 | .const _=>true
 | _=>false
def nilOk (px py:Operand) (x y:AV):Bool:=
 Operand.const? px || Operand.const? py || (match x,y with | .nilIface,.nilIface=>false | _,_=>true)
def binK (P:Program) (op:BinOp) (t:TypeId) (x y:AV) (k:AV → Out):Out:=
 match x,y with
 | .int kx a,.int ky b=>
  if op = .shl ∨ op = .shr ∨ kx = ky then
   match ibin op kx a b with | some r=>k r | none=>none
  else none
 | .str a,.str b=>match sbin op a b with | some r=>k r | none=>none
 | x,y=>
  match op with
  | .eql=>if eqFree P t then match eqIn P 100 t x y with | some b=>k (.bool b) | none=>none else none
  | .neq=>if eqFree P t then match eqIn P 100 t x y with | some b=>k (.bool (!b)) | none=>none else none
  | _=>none
def unK (op:UnOp) (x:AV) (k:AV → Out):Out:=
 match op,x with
 | .neg,.int kx n=>k (.int kx (kx.wrap (0 - n)))
 | .xor,.int kx n=>k (.int kx (kx.wrap ((BitVec.ofInt kx.bits (if kx.signed then -1 else kx.max) ^^^ BitVec.ofInt kx.bits n).toNat:Nat)))
 | .not,.bool b=>k (.bool (!b))
 | _,_=>none
def natK (x:TV) (k:Int → Out):Out:=
 match x with
 | .v (.int _ n)=>k n
 | _=>none
def cellsAt (σ:St) (b:Nat):Option (List AV):=
 match σ[b]? with
 | some (.cells cs _)=>some cs
 | _=>none
def globK (σ:St) (g:Nat) (k:List AV → Out):Out:=
 match σ[g]? with
 | some (.glob g' cs)=>if g' = g then k cs else none
 | _=>none
def loadK (P:Program) (t:TypeId) (env:Env) (σ:St) (a:TV) (k:AV → Out):Out:=
 match a with
 | .lp key off=>match lookL env.locs key with | some cs=>partK P t cs off k | none=>none
 | .v (.ptr (some (b,off)))=>match cellsAt σ b with | some cs=>partK P t cs off k | none=>none
 | .gl g off=>globK σ g fun cs=>partK P t cs off k
 | _=>none
def storeK (P:Program) (t:TypeId) (env:Env) (σ:St) (a:TV) (x:TV) (k:Locs → St → Out):Out:=
 match x with
 | .v y=>
  if y.cells.length = szOf P t ∧ (P.info? t).isSome = true then
   if y.cells.all AV.one then
    match a with
    | .lp key off=>match lookL env.locs key with
     | some cs=>if off + y.cells.length ≤ cs.length then k (setL env.locs key (setMany cs off y.cells)) σ else none
     | none=>none
    | .v (.ptr (some (b,off)))=>match σ[b]? with
     | some (.cells cs (.rw ty))=>if off + y.cells.length ≤ cs.length then k env.locs (σ.set b (.cells (setMany cs off y.cells) (.rw ty))) else none
     | _=>none
    | _=>none
   else none
  else none
 | _=>none
def Env.newL (env:Env) (d:Nat) (cs:List AV):Env:={ tmps:=env.tmps.map (killT d),locs:=setL env.locs d cs,defs:=env.defs }
def boxK (t:TypeId) (loc:Bool) (dst:Option Tmp) (env:Env) (σ:St) (cs:List AV) (k:TV → Env → St → Out):Out:=
 if cs.all AV.one then
  match loc,dst with
  | true,some d=>k (.lp d 0) (env.newL d cs) σ
  | _,_=>k (.v (.ptr (some (σ.length,0)))) env (σ ++ [.cells cs (.rw (.box t))])
 else none
def fillP (place:Nat → Option (Nat × Nat)) (cells:List AV):List (Nat × TV) → Option (List AV)
 | []=>some cells
 | (i,.v x) :: rest=>
  match place i with
  | none=>none
  | some (off,size)=>
   if x.cells.length = size ∧ off + x.cells.length ≤ cells.length then fillP place (setMany cells off x.cells) rest else none
 | _ :: _=>none
def placeS (P:Program) (fs:Array Field) (i:Nat):Option (Nat × Nat):=
 match fs[i]? with
 | some f=>some (f.offset,szOf P f.type)
 | none=>none
def buildO (P:Program) (t:TypeId) (parts:List (Nat × TV)):Option AV:=
 match zeroOf P t with
 | some z=>
  match P.underlying t with
  | some (.struct fs)=>match fillP (placeS P fs) z.cells parts with | some cs=>some (.agg cs) | none=>none
  | some (.array _ e)=>match fillP (fun i=>some (i * szOf P e,szOf P e)) z.cells parts with | some cs=>some (.agg cs) | none=>none
  | _=>none
 | none=>none
def zeros (z:List AV):Nat → List AV
 | 0=>[]
 | n + 1=>z ++ zeros z n
def fieldOf (P:Program) (s:TypeId) (f:Nat):Option Field:=
 match P.underlying s with
 | some (.struct fs)=>fs[f]?
 | _=>none
def srcK (isStr:Bool) (env:Env) (σ:St) (size:Nat) (x:TV) (k:Nat → List AV → Out):Out:=
 match isStr,x with
 | false,.ls key n=>match lookL env.locs key with | some cs=>if n * size = cs.length then k n cs else none | none=>none
 | true,.v (.str s)=>if size = 1 then k s.length (s.map fun b=>.int .u8 b.toNat) else none
 | false,.v (.slice none 0 _ _)=>k 0 []
 | false,.v (.slice (some (b,o)) n _ sz)=>if sz = size then
   match cellsAt σ b with | some cs=>if o + n * size ≤ cs.length then k n ((cs.drop o).take (n * size)) else none | none=>none
  else none
 | _,_=>none
def joinW (t:Mk) (e:TypeId):Mk:=if t = .row e then t else .any
def appendK (isStr:Bool) (e:TypeId) (size bytes:Nat) (env:Env) (σ:St) (s x:TV) (k:AV → St → Out):Out:=
 srcK isStr env σ size x fun n new=>
  match s with
  | .v (.slice none _ _ _)=>if n = 0 then k (.slice none 0 (some 0) size) σ else
    if n * bytes ≤ 140737488355328 ∧ n < 9223372036854775807 then k (.slice (some (σ.length,0)) n none size) (σ ++ [.cells new (.rw (.row e))]) else none
  | .v (.slice (some (b,o)) len _ sz)=>
   if sz = size then
    match σ[b]? with
    | some (.cells cs (.rw t))=>
     if o + len * size ≤ cs.length then
      if (len + n) * bytes ≤ 140737488355328 ∧ len + n < 9223372036854775807 then
       k (.slice (some (σ.length,0)) (len + n) none size) (σ.set b .dead ++ [.cells ((cs.drop o).take (len * size) ++ new) (.rw (joinW t e))])
      else none
     else none
    | _=>none
   else none
  | _=>none
def lenO (P:Program) (t:TypeId) (x:TV):Option Int:=
 match P.underlying t with
 | some .string=>match x with | .v (.str s)=>some s.length | _=>none
 | some (.slice _)=>match x with | .v (.slice _ n _ _)=>some n | .ls _ n=>some n | _=>none
 | some (.array n _)=>some n
 | some (.map _ _)=>match x with | .v (.map none)=>some 0 | _=>none
 | _=>none
def minI:Int → List Int → Int
 | m,[]=>m
 | m,y :: r=>minI (if y < m then y else m) r
def maxI:Int → List Int → Int
 | m,[]=>m
 | m,y :: r=>maxI (if y > m then y else m) r
def intsOf:List TV → Option (List Int)
 | []=>some []
 | .v (.int _ n) :: r=>match intsOf r with | some l=>some (n :: l) | none=>none
 | _=>none
def callK (call:Caller) (f:FuncId) (args:List AV) (σ:St) (k:AV → St → Out) (kp:AV → St → Out):Out:=
 match call f args σ with
 | some (.ret v,σ')=>k v σ'
 | some (.pan v,σ')=>kp v σ'
 | none=>none
open Classical in
noncomputable def methF (P:Program) (t:TypeId) (name:String):Option FuncId:=
 if h:∃ f,∀ (rv:Value) (w:World),(method (P.types.size + Made.depth) t rv name).run P w = .ok (f,rv) w then some h.choose else none
noncomputable def callI (P:Program) (call:Caller) (x:AV) (name:String) (args:List AV) (σ:St) (k:AV → St → Out) (kp:AV → St → Out):Out:=
 match x with
 | .iface t v=>(match methF P t name with | some f=>callK call f (v :: args) σ k kp | none=>none)
 | _=>none
def valsOf:List TV → Option (List AV)
 | []=>some []
 | .v x :: r=>match valsOf r with | some l=>some (x :: l) | none=>none
 | _=>none
def bytesOf:List AV → Option (List UInt8)
 | []=>some []
 | .int .u8 n :: r=>match bytesOf r with | some l=>some (UInt8.ofNat n.toNat :: l) | none=>none
 | _=>none
def convK (P:Program) (src dst:TypeId) (σ:St) (x:AV) (k:AV → St → Out):Out:=
 match P.underlying src,P.underlying dst with
 | some _,some (.int kd)=>match x with | .int _ n=>k (.int kd (kd.wrap n)) σ | _=>none
 | some (.slice e),some .string=>
  match P.underlying e with
  | some (.int .u8)=>match x with
   | .slice none _ _ _=>k (.str []) σ
   | .slice (some (b,o)) n _ 1=>match cellsAt σ b with
    | some cs=>if o + n ≤ cs.length then match bytesOf ((cs.drop o).take n) with | some s=>k (.str s) σ | none=>none else none
    | none=>none
   | _=>none
  | _=>none
 | some _,some .string=>match x with | .str s=>k (.str s) σ | _=>none
 | _,_=>none
def boundK (x:Option TV) (d:Int) (f:Int → Out):Out:=match x with | some v=>natK v f | none=>f d
def sliceK (P:Program) (t:TypeId) (x:TV) (lo hi:Option TV) (k:AV → Out):Out:=
 match P.underlying t with
 | some .string=>match x with
  | .v (.str s)=>boundK hi s.length fun h=>boundK lo 0 fun l=>
    if 0 ≤ l ∧ l ≤ h ∧ h ≤ s.length then k (.str ((s.take h.toNat).drop l.toNat)) else none
  | _=>none
 | some (.slice e)=>match x with
  | .v (.slice none n _ sz)=>boundK hi n fun h=>boundK lo 0 fun l=>if 0 ≤ l ∧ l ≤ h ∧ h ≤ (0:Nat) then k (.slice none 0 (some 0) sz) else none
  | .v (.slice (some (b,off)) n cap sz)=>if sz = szOf P e then boundK hi n fun h=>boundK lo 0 fun l=>
    if 0 ≤ l ∧ l ≤ h ∧ h ≤ (cap.getD n:Nat) then
     k (.slice (some (b,off + l.toNat * sz)) (h.toNat - l.toNat) (match cap with | some c=>some (c - l.toNat) | none=>none) sz)
    else none
   else none
  | _=>none
 | _=>none
def bytesAV (s:List UInt8):List AV:=s.map fun b=>.int .u8 b.toNat
def isS2b (P:Program) (s d:TypeId):Option TypeId:=
 match P.underlying s,P.underlying d with
 | some .string,some (.slice e)=>match P.underlying e with | some (.int .u8)=>some e | _=>none
 | _,_=>none
def isArrSl (P:Program) (t:TypeId):Option (Nat × TypeId):=
 match P.underlying t with
 | some (.pointer arr)=>match P.underlying arr with | some (.array n e)=>some (n,e) | _=>none
 | some (.array n e)=>some (n,e)
 | _=>none
def mkSlK (P:Program) (t:TypeId) (l c:Int) (σ:St) (k:AV → St → Out):Out:=
 match P.underlying t with
 | some (.slice e)=>match zeroOf P e with
  | some z=>if z.cells.length = szOf P e ∧ (0 ≤ l ∧ l ≤ c ∧ c ≤ 140737488355328 ∧ c.toNat * bytesOfT P e ≤ 140737488355328) ∧ z.cells.all AV.one = true then
    k (.slice (some (σ.length,0)) l.toNat (some c.toNat) (szOf P e)) (σ ++ [.cells (zeros z.cells c.toNat) (.rw (.row e))])
   else none
  | none=>none
 | _=>none
def capO (P:Program) (t:TypeId) (x:TV):Option Int:=
 match P.underlying t with
 | some (.slice _)=>match x with | .v (.slice none _ _ _)=>some 0 | .v (.slice (some _) _ (some c) _)=>some c | _=>none
 | some (.array n _)=>some n
 | _=>none
def arrSlK (size n:Nat) (σ:St) (x:TV) (lo hi:Option TV) (k:AV → Out):Out:=
 match x with
 | .v (.ptr (some (b,off)))=>match cellsAt σ b with
  | some cs=>if off + n * size ≤ cs.length then boundK hi n fun h=>boundK lo 0 fun l=>
    if 0 ≤ l ∧ l ≤ h ∧ h ≤ n then k (.slice (some (b,off + l.toNat * size)) (h.toNat - l.toNat) (some (n - l.toNat)) size) else none
   else none
  | none=>none
 | _=>none
def copyK (isStr:Bool) (env:Env) (σ:St) (size:Nat) (d x:TV) (k:Int → St → Out):Out:=
 srcK isStr env σ size x fun n new=>
  match d with
  | .v (.slice none _ _ _)=>k 0 σ
  | .v (.slice (some (b,o)) m _ sz)=>
   if sz = size then
    match σ[b]? with
    | some (.cells cs (.rw t))=>
     if o + min n m * size ≤ cs.length then k (min n m:Nat) (σ.set b (.cells (setMany cs o (new.take (min n m * size))) (.rw t))) else none
    | _=>none
   else none
  | _=>none
def nextK (σ:St) (b:Nat) (k:AV → St → Out):Out:=
 match σ[b]? with
 | some (.iter s pos)=>
  if pos < s.length then
   k (.tuple [.bool true,.int .i64 pos,.int .i32 (Utf8.decode ⟨s.toArray⟩ pos).1]) (σ.set b (.iter s (pos + (Utf8.decode ⟨s.toArray⟩ pos).2)))
  else k (.tuple [.bool false]) σ
 | _=>none
def scalarT (P:Program) (t:TypeId):Bool:=
 match P.underlying t with
 | some .bool=>true
 | some (.int _)=>true
 | some .string=>true
 | _=>false
def mapFind (P:Program) (kt:TypeId) (key:AV):List (AV × AV) → Nat → Option (Option (Nat × AV))
 | [],_=>some none
 | (x,v) :: r,i=>match eqIn P 100 kt key x with
  | some true=>some (some (i,v))
  | some false=>mapFind P kt key r (i + 1)
  | none=>none
def lookK (P:Program) (kt et:TypeId) (σ:St) (m:TV) (key:AV) (k:AV → Bool → Out):Out:=
 if scalarT P kt then
  match m with
  | .v (.map none)=>(match zeroOf P et with | some z=>k z false | none=>none)
  | .v (.map (some b))=>(match σ[b]? with
   | some (.map es)=>(match mapFind P kt key es 0 with
    | some (some (_,v))=>k v true
    | some none=>(match zeroOf P et with | some z=>k z false | none=>none)
    | none=>none)
   | _=>none)
  | _=>none
 else none
def insB (key v:AV) (es:List (AV × AV)):List (AV × AV):=
 match key with
 | .bool false=>(key,v) :: es
 | _=>es ++ [(key,v)]
def updK (P:Program) (kt:TypeId) (σ:St) (m:TV) (key v:AV) (k:St → Out):Out:=
 if scalarT P kt then
  match m with
  | .v (.map (some b))=>(match σ[b]? with
   | some (.map es)=>(match mapFind P kt key es 0 with
    | some (some (i,_))=>k (σ.set b (.map (es.set i (key,v))))
    | some none=>k (σ.set b (.map (insB key v es)))
    | none=>none)
   | _=>none)
  | _=>none
 else none
def mkMapK (P:Program) (t:TypeId) (r:Option TV) (k:Out):Out:=
 match P.underlying t with
 | some (.map _ _)=>(match r with
  | none=>k
  | some (.v (.int _ _))=>k
  | _=>none)
 | _=>none
def assertV (P:Program) (x:TV) (ty:TypeId) (ok:Bool) (k:AV → Out):Out:=
 match x with
 | .v .nilIface=>cond ok (match zeroOf P ty with | some z=>k (.tuple [z,.bool false]) | none=>none) none
 | .v (.iface t v)=>if t = ty then k (cond ok (.tuple [v,.bool true]) v) else cond ok (match zeroOf P ty with | some z=>k (.tuple [z,.bool false]) | none=>none) none
 | _=>none
def assertK (P:Program) (x:TV) (ty:TypeId) (ok:Bool) (k:AV → Out):Out:=
 match P.underlying ty with
 | some (.interface _)=>none
 | some _=>assertV P x ty ok k
 | none=>none
noncomputable def xop (P:Program) (lm:Nat) (call:Caller) (env:Env) (σ:St) (o:Oper) (k:TV → Env → St → Out) (kp:AV → Env → St → Out):Out:=
 let loc:Bool:=match o.dst with | some d=>lm.testBit d | none=>false
 let kv (x:AV):Out:=k (.v x) env σ
 match o.op with
 | .move x=>k (env.get x) env σ
 | .assign x=>k (env.get x) env σ
 | .pick c a b=>match env.get c with
  | .v (.bool t)=>cond t (k (env.get a) env σ) (k (env.get b) env σ)
  | _=>none
 | .alloc t=>match zeroOf P t with | some z=>boxK t loc o.dst env σ z.cells k | none=>none
 | .box t x=>match env.get x with | .v y=>boxK t loc o.dst env σ y.cells k | _=>none
 | .build t parts=>match buildO P t (parts.toList.map fun p=>(p.1,env.get p.2)) with | some x=>kv x | none=>none
 | .buildSlice t n parts=>
  match P.underlying t with
  | some (.slice e)=>
   match zeroOf P e with
   | some z=>
    if z.cells.length = szOf P e ∧ n * szOf P e ≤ 16777216 then
     match fillP (fun i=>some (i * szOf P e,szOf P e)) (zeros z.cells n) (parts.toList.map fun p=>(p.1,env.get p.2)) with
     | some cs=>
      if cs.all AV.one then
       match loc,o.dst with
       | true,some d=>k (.ls d n) (env.newL d cs) σ
       | _,_=>k (.v (.slice (some (σ.length,0)) n (some n) (szOf P e))) env (σ ++ [.cells cs (.rw (.row e))])
      else none
     | none=>none
    else none
   | none=>none
  | _=>none
 | .load t a=>loadK P t env σ (env.get a) kv
 | .store t a x=>storeK P t env σ (env.get a) (env.get x) fun ls σ'=>k .no { env with locs:=ls } σ'
 | .nilCheck x=>match env.get x with
  | .lp key off=>k (.lp key off) env σ
  | .gl g off=>k (.gl g off) env σ
  | .v (.ptr (some a))=>kv (.ptr (some a))
  | .v (.func (.func f) l c)=>kv (.func (.func f) l c)
  | _=>none
 | .binOp op t x y _=>match env.get x with
  | .v a=>match env.get y with | .v b=>cond (nilOk x y a b) (binK P op t a b kv) none | _=>none
  | _=>none
 | .unOp op _ x=>match env.get x with | .v a=>unK op a kv | _=>none
 | .convert s d x=>match isS2b P s d with
  | some e=>match env.get x with | .v (.str bs)=>k (.v (.slice (some (σ.length,0)) bs.length none 1)) env (σ ++ [.cells (bytesAV bs) (.rw (.row e))]) | _=>none
  | none=>match env.get x with | .v a=>convK P s d σ a fun r σ'=>k (.v r) env σ' | _=>none
 | .slice t x lo hi none=>match isArrSl P t with
  | some (n,e)=>arrSlK (szOf P e) n σ (env.get x) (lo.map env.get) (hi.map env.get) kv
  | none=>sliceK P t (env.get x) (lo.map env.get) (hi.map env.get) kv
 | .makeFunc fn first captured=>match fn with
  | .func f=>match valsOf (first.toList.map env.get) with
   | some l=>match valsOf (captured.toList.map env.get) with
    | some c=>kv (.func (.func f) l c)
    | none=>none
   | none=>none
  | _=>none
 | .makeSlice t l c=>natK (env.get l) fun l=>natK (env.get c) fun c=>mkSlK P t l c σ fun v σ'=>k (.v v) env σ'
 | .range t x=>match P.underlying t with
  | some .string=>match env.get x with | .v (.str s)=>k (.v (.ptr (some (σ.length,0)))) env (σ ++ [.iter s 0]) | _=>none
  | _=>none
 | .next it true=>match env.get it with | .v (.ptr (some (b,0)))=>nextK σ b fun v σ'=>k (.v v) env σ' | _=>none
 | .fieldAddr s x f=>match fieldOf P s f with
  | some fl=>if szOf P fl.type = 0 then none else match env.get x with
   | .lp key off=>k (.lp key (off + fl.offset)) env σ
   | .gl g off=>k (.gl g (off + fl.offset)) env σ
   | .v (.ptr (some (b,off)))=>kv (.ptr (some (b,off + fl.offset)))
   | _=>none
  | none=>none
 | .field s x f=>match fieldOf P s f with
  | some fl=>match env.get x with | .v (.agg cs)=>partK P fl.type cs fl.offset kv | _=>none
  | none=>none
 | .indexAddr t x ix=>natK (env.get ix) fun i=>
  match P.underlying t with
  | some (.array n e)=>if 0 ≤ i ∧ i < n then match env.get x with
    | .lp key off=>k (.lp key (off + i.toNat * szOf P e)) env σ
    | .gl g off=>k (.gl g (off + i.toNat * szOf P e)) env σ
    | .v (.ptr (some (b,off)))=>kv (.ptr (some (b,off + i.toNat * szOf P e)))
    | _=>none
   else none
  | some (.slice e)=>match env.get x with
   | .ls key n=>if 0 ≤ i ∧ i < n then k (.lp key (i.toNat * szOf P e)) env σ else none
   | .v (.slice (some (b,off)) n _ sz)=>if 0 ≤ i ∧ i < n then (if sz = szOf P e then kv (.ptr (some (b,off + i.toNat * szOf P e))) else none) else none
   | _=>none
  | _=>none
 | .index t x ix=>natK (env.get ix) fun i=>
  match P.underlying t with
  | some (.array n e)=>match env.get x with
   | .v (.agg cs)=>if 0 ≤ i ∧ i < n then partK P e cs (i.toNat * szOf P e) kv else none
   | _=>none
  | some .string=>match env.get x with
   | .v (.str s)=>if 0 ≤ i then match s[i.toNat]? with | some b=>kv (.int .u8 b.toNat) | none=>none else none
   | _=>none
  | _=>none
 | .extract x i=>match env.get x with
  | .v (.tuple vs)=>match vs[i]? with | some y=>kv y | none=>none
  | _=>none
 | .makeInterface t x=>match env.get x with
  | .v a=>match P.underlying t with | some (.interface _)=>none | some _=>kv (.iface t a) | none=>none
  | _=>none
 | .call c=>
  match c.callee with
  | .value f=>match env.get f with
   | .v (.func (.func fid) first captured)=>match valsOf (c.args.toList.map env.get) with
    | some args=>callK call fid (first ++ args ++ captured) σ (fun v σ'=>k (.v v) env σ') (fun v σ'=>kp v env σ')
    | none=>none
   | _=>none
  | .invoke x name=>match env.get x with
   | .v xv=>match valsOf (c.args.toList.map env.get) with
    | some args=>callI P call xv name args σ (fun v σ'=>k (.v v) env σ') (fun v σ'=>kp v env σ')
    | none=>none
   | _=>none
  | .builtin .len=>match c.argTypes.toList,c.args.toList with
   | t :: _,x :: _=>match lenO P t (env.get x) with | some n=>kv (.int .i64 n) | none=>none
   | _,_=>none
  | .builtin .append=>match c.argTypes.toList,c.args.toList with
   | [t,t2],[s,x]=>match P.underlying t with
    | some (.slice e)=>match P.underlying t2 with
     | some (.slice _)=>if zeroFits P e then appendK false e (szOf P e) (bytesOfT P e) env σ (env.get s) (env.get x) fun v σ'=>k (.v v) env σ' else none
     | some .string=>if zeroFits P e then appendK true e (szOf P e) (bytesOfT P e) env σ (env.get s) (env.get x) fun v σ'=>k (.v v) env σ' else none
     | _=>none
    | _=>none
   | _,_=>none
  | .builtin .cap=>match c.argTypes.toList,c.args.toList with
   | t :: _,x :: _=>match capO P t (env.get x) with | some n=>kv (.int .i64 n) | none=>none
   | _,_=>none
  | .builtin .copy=>match c.argTypes.toList,c.args.toList with
   | t :: t2 :: _,d :: x :: _=>match P.underlying t with
    | some (.slice e)=>match P.underlying t2 with
     | some (.slice _)=>if zeroFits P e then copyK false env σ (szOf P e) (env.get d) (env.get x) fun n σ'=>k (.v (.int .i64 n)) env σ' else none
     | some .string=>if zeroFits P e then copyK true env σ (szOf P e) (env.get d) (env.get x) fun n σ'=>k (.v (.int .i64 n)) env σ' else none
     | _=>none
    | _=>none
   | _,_=>none
  | .builtin .min=>match c.args.toList.map env.get with
   | .v (.int kx m) :: r=>match intsOf r with | some l=>kv (.int kx (minI m l)) | none=>none
   | _=>none
  | .builtin .max=>match c.args.toList.map env.get with
   | .v (.int kx m) :: r=>match intsOf r with | some l=>kv (.int kx (maxI m l)) | none=>none
   | _=>none
  | _=>none
 | .panic x=>match env.get x with | .v (.iface t v)=>kp (.iface t v) env σ | _=>none
 | .makeMap t r=>mkMapK P t (r.map env.get) (k (.v (.map (some σ.length))) env (σ ++ [.map []]))
 | .lookup t x ix ok=>match P.underlying t with
  | some (.map kt et)=>(match env.get ix with
   | .v key=>lookK P kt et σ (env.get x) key fun v b=>kv (cond ok (.tuple [v,.bool b]) v)
   | _=>none)
  | _=>none
 | .mapUpdate t m ix x=>match P.underlying t with
  | some (.map kt _)=>(match env.get ix,env.get x with
   | .v key,.v v=>updK P kt σ (env.get m) key v fun σ'=>k .no env σ'
   | _,_=>none)
  | _=>none
 | .insert t m ix x=>match P.underlying t with
  | some (.map kt _)=>(match env.get ix,env.get x with
   | .v key,.v v=>updK P kt σ (env.get m) key v fun σ'=>k .no env σ'
   | _,_=>none)
  | _=>none
 | .typeAssert x _ ty ok=>assertK P (env.get x) ty ok kv
 | _=>none
noncomputable def xopD (P:Program) (lm:Nat) (call:Caller) (env:Env) (σ:St) (o:Oper) (k:TV → Env → St → Out) (kp:AV → Env → St → Out):Out:=
 match o.op with
 | .defer c=>match c.callee with
  | .value f=>match env.get f with
   | .v (.func (.func fid) first captured)=>match valsOf (c.args.toList.map env.get) with
    | some args=>k .no { env with defs:=(fid,first ++ args ++ captured) :: env.defs } σ
    | none=>none
   | _=>none
  | _=>none
 | _=>xop P lm call env σ o k kp
noncomputable def runOps (P:Program) (lm:Nat) (call:Caller) (ops:Array Oper) (k:Env → St → Out) (kp:AV → Env → St → Out):List Oper → Env → St → Out
 | [],env,σ=>k env σ
 | o :: r,env,σ=>
  match o.guard with
  | none=>xopD P lm call env σ o (fun t env' σ'=>runOps P lm call ops k kp r (env'.put o.dst t) σ') kp
  | some (j,want)=>
   match (ops[j]?).bind (·.dst) with
   | some d=>match env.tmps.getD d .no with
    | .v (.bool b)=>
     cond b
      (let e:Env:={ env with tmps:=env.tmps.set d (.v (.bool true)) }
       cond want (xopD P lm call e σ o (fun t env' σ'=>runOps P lm call ops k kp r (env'.put o.dst t) σ') kp) (runOps P lm call ops k kp r (e.put o.dst (.v (.tuple []))) σ))
      (let e:Env:={ env with tmps:=env.tmps.set d (.v (.bool false)) }
       cond want (runOps P lm call ops k kp r (e.put o.dst (.v (.tuple []))) σ) (xopD P lm call e σ o (fun t env' σ'=>runOps P lm call ops k kp r (env'.put o.dst t) σ') kp))
    | .v (.tuple [])=>runOps P lm call ops k kp r (env.put o.dst (.v (.tuple []))) σ
    | _=>none
   | none=>none
def tmpBit:Operand → Nat
 | .tmp t=>2 ^ t
 | _=>0
def opReads (ops:Array Oper) (o:Oper):Nat:=
 o.op.operands.toList.foldl (fun m x=>m ||| tmpBit x) (match o.guard with | some (j,_)=>(match (ops[j]?).bind (·.dst) with | some d=>2 ^ d | none=>0) | none=>0)
def opsEx (ops:Array Oper):List Oper → Nat → Nat × Nat
 | [],d=>(0,d)
 | o :: r,d=>
  let m:=opReads ops o
  let (a,d'):=opsEx ops r (match o.dst with | some t=>d ||| 2 ^ t | none=>d)
  (((m ||| d) ^^^ d) ||| a,d')
def codeEx:Code → Nat → Nat × Nat
 | .region _ ops _,d=>opsEx ops ops.toList d
 | .seq a b,d=>let (x,d1):=codeEx a d;let (y,d2):=codeEx b d1;(x ||| y,d2)
 | .cond c a b,d=>let (x,d1):=codeEx a d;let (y,d2):=codeEx b d;(((tmpBit c ||| d) ^^^ d) ||| x ||| y,d1 &&& d2)
 | .block _ b,d=>((codeEx b d).1,d)
 | .loop b,d=>((codeEx b d).1,d)
 | .scope b,d=>((codeEx b d).1,d)
 | _,d=>(0,d)
def liveIn (c:Code):Nat:=(codeEx c 0).1
def cleanT (live:Nat):Nat → List TV → List TV
 | _,[]=>[]
 | i,t :: r=>(if live.testBit i then t else .no) :: cleanT live (i + 1) r
def cleanL (keep:Nat → Bool):Locs → Locs
 | []=>[]
 | (k,cs) :: r=>if keep k then (k,cs) :: cleanL keep r else cleanL keep r
def leadsTo (k:Nat):TV → Bool
 | .lp j _=>j == k
 | .ls j _=>j == k
 | _=>false
def Env.clean (live:Nat) (env:Env):Env:={ tmps:=cleanT live 0 env.tmps,locs:=cleanL (fun k=>live.testBit k || (cleanT live 0 env.tmps).any (leadsTo k)) env.locs,defs:=env.defs }
def Env.know (env:Env) (c:Operand) (b:Bool):Env:=
 match c with
 | .tmp t=>{ env with tmps:=env.tmps.set t (.v (.bool b)) }
 | _=>env
def loopK (live:Nat) (f:(X → Env → St → Out) → Env → St → Out) (k:X → Env → St → Out):Nat → Env → St → Out
 | 0,_,_=>none
 | n + 1,env,σ=>f (fun x env' σ'=>match x with | .normal=>loopK live f k n (env'.clean live) σ' | x=>k x env' σ') env σ
def keyOf:TV → List Nat
 | .lp k _=>[k]
 | .ls k _=>[k]
 | _=>[]
def newKey (lm:Nat) (o:Oper):List Nat:=
 match o.op with
 | .alloc _ | .box _ _ | .buildSlice _ _ _=>(match o.dst with | some d=>if lm.testBit d then [d] else [] | none=>[])
 | _=>[]
structure Cls where
 keys:List Nat
 w:Bool
 hp:Nat
 hb:Option Nat
 tr:Option (St × St)
 ik:Option Bool
def AV.lone:AV → Bool
 | .int _ _=>true
 | .str _=>true
 | _=>false
def pureF (P:Program) (f:FuncId):Bool:=match P.funcs[f]? with | some fn=>fn.name == "strconv.FormatInt" || fn.name == "strconv.Itoa" | none=>false
def pureOf (P:Program) (o:Oper):Option FuncId:=
 match o.op with
 | .call c=>(match c.callee with | .value (.func f)=>if pureF P f then some f else none | _=>none)
 | _=>none
def pureK (call:Caller) (f:FuncId) (args:List AV) (σ:St) (k:AV → Out):Out:=
 match σ[(1:Nat)]? with
 | some (.know g p)=>(match call f args [.dead,.know g p] with
  | some (.ret v,_)=>if v.flat = true ∧ args.all AV.flat = true then k v else none
  | _=>none)
 | _=>none
def insQ (P:Program) (o:Oper):Option Bool:=
 match o.op with
 | .insert t _ (.const (.bool b)) _=>(match P.underlying t with
  | some (.map kt _)=>(match P.underlying kt with | some .bool=>some b | _=>none)
  | _=>none)
 | _=>none
def freshB (b:Bool) (ob:Option AObj):Bool:=
 match ob with
 | some (.map es)=>es.all fun e=>match e.1 with | .bool c=>c != b | _=>false
 | _=>false
def modB (σ:St) (r:Nat) (b:Bool) (v:AV):St:=match σ[r]? with | some (.map es)=>σ.set r (.map (insB (.bool b) v es)) | _=>σ
def insK (b:Bool) (σ:St) (r:Nat) (v:AV) (k:St → Out):Out:=cond (freshB b σ[r]?) (k (modB σ r b v)) none
def insM (env:Env) (o:Oper):Option Nat:=
 match o.op with
 | .insert _ m _ _=>(match env.get m with | .v (.map (some r))=>some r | _=>none)
 | _=>none
def heapUse0 (lm:Nat) (env:Env) (o:Oper):Nat:=
 match o.op with
 | .load _ a=>(match env.get a with | .lp _ _=>0 | _=>1)
 | .store _ a _=>(match env.get a with | .lp _ _=>0 | _=>2)
 | .alloc _ | .box _ _ | .buildSlice _ _ _=>if (newKey lm o).isEmpty then 2 else 0
 | .convert _ _ x=>(match env.get x with | .v p=>if p.lone then 0 else 1 | _=>1)
 | .call c=>(match c.callee with | .builtin .append=>2 | .builtin .copy=>2 | .builtin _=>0 | _=>2)
 | .makeMap _ _=>2
 | .lookup _ x _ _=>(match env.get x with | .v (.map (some _))=>1 | _=>0)
 | _=>0
def heapUse (P:Program) (lm:Nat) (env:Env) (o:Oper):Nat:=match pureOf P o with | some _=>1 | none=>match insQ P o with | some _=>2 | none=>heapUse0 lm env o
def hbOf0 (env:Env) (o:Oper):Option Nat:=
 match o.op with
 | .load _ a=>(match env.get a with | .v (.ptr (some (b,_)))=>some b | _=>none)
 | .store _ a _=>(match env.get a with | .v (.ptr (some (b,_)))=>some b | _=>none)
 | .lookup _ x _ _=>(match env.get x with | .v (.map (some b))=>some b | _=>none)
 | _=>none
def hbOf (P:Program) (env:Env) (o:Oper):Option Nat:=match pureOf P o with | some _=>some 1 | none=>match insQ P o with | some _=>insM env o | none=>hbOf0 env o
def ikOf (P:Program) (o:Oper):Option Bool:=match pureOf P o with | some _=>none | none=>insQ P o
def clsOf (P:Program) (lm:Nat) (env:Env) (o:Oper):Cls where
 keys:=o.op.operands.toList.flatMap (fun x=>keyOf (env.get x)) ++ newKey lm o
 w:=match o.op with | .store _ a _=>(match env.get a with | .lp _ _=>true | _=>false) | _=>!(newKey lm o).isEmpty
 hp:=heapUse P lm env o
 hb:=hbOf P env o
 tr:=none
 ik:=ikOf P o
def Cls.ran (c:Cls) (σ σ':St):Cls:={ c with tr:=if c.hp == 2 && c.hb.isNone then some (σ,σ') else none }
def Cls.overS (a b:Cls):Bool:=match a.hb,b.hb with | some _,some _=>false | none,some _=>b.hp != 1 | _,none=>true
def Cls.conflictS (a b:Cls):Bool:=((a.w || b.w) && a.keys.any b.keys.contains) || (a.hp == 2 && b.hp != 0 && a.overS b) || (b.hp == 2 && a.hp != 0 && b.overS a)
def Cls.ins2 (a b:Cls):Bool:=match a.ik,b.ik with | some x,some y=>x != y | _,_=>false
def Cls.need (a b:Cls):List (Nat × Nat):=cond (a.ins2 b) [] (match a.hb,b.hb with | some x,some y=>if a.hp == 2 && b.hp != 0 || b.hp == 2 && a.hp != 0 then [(x,y)] else [] | _,_=>[])
def needsOf (anc:List Nat) (i:Nat) (c:Cls):List (Nat × Oper × Cls) → List (Nat × Nat)
 | []=>[]
 | (j,_,cj) :: r=>if (anc.getD i 0).testBit j then needsOf anc i c r else cj.need c ++ needsOf anc i c r
def apK:List (Nat × Nat) → Out → Out
 | [],x=>x
 | (a,b) :: r,x=>if a = b then none else apK r x
def Cls.keep1 (a b:Cls):List (St × St × Nat):=if b.hp == 1 then (match b.hb,a.tr with | some y,some (s1,s2)=>[(s1,s2,y)] | _,_=>[]) else []
def keepsOf (anc:List Nat) (i:Nat) (c:Cls):List (Nat × Oper × Cls) → List (St × St × Nat)
 | []=>[]
 | (j,_,cj) :: r=>if (anc.getD i 0).testBit j then keepsOf anc i c r else cj.keep1 c ++ c.keep1 cj ++ keepsOf anc i c r
open Classical in
noncomputable def keepK (s s':St) (b:Nat) (x:Out):Out:=if s'[b]? = s[b]? then x else none
noncomputable def keepsK:List (St × St × Nat) → Out → Out
 | [],x=>x
 | (s,s',b) :: r,x=>keepK s s' b (keepsK r x)
def ancOf (acc:List Nat) (o:Oper):Nat:=o.after.toList.foldl (fun s e=>if Region.binds .any e then s ||| (2 ^ e.on ||| acc.getD e.on 0) else s) 0
def ancGo:List Oper → List Nat → List Nat
 | [],acc=>acc
 | o :: r,acc=>ancGo r (acc ++ [ancOf acc o])
def ancs (ops:Array Oper):List Nat:=ancGo ops.toList []
def drawOk (lm:Nat) (ops:Array Oper) (anc:List Nat) (i:Nat) (o:Oper) (rest:List Oper) (c:Cls) (acc:List (Nat × Oper × Cls)):Bool:=
 (acc.all fun (j,oj,cj)=>(anc.getD i 0).testBit j || (Oper.apart ops oj o && !(cj.conflictS c))) && (rest.all fun r=>(newKey lm r).all fun d=>!c.keys.contains d)
def calmO (P:Program) (o:Oper):Bool:=
 match o.op with
 | .convert s d _=>(isS2b P s d).isNone
 | .slice t _ _ _ none=>(isArrSl P t).isNone
 | .makeSlice _ _ _=>false
 | .range _ _=>false
 | .next _ _=>false
 | .makeMap _ r=>r.isNone
 | .mapUpdate _ _ _ _=>false
 | .insert _ _ _ _=>(insQ P o).isSome
 | .call c=>(match c.callee with | .invoke _ _=>false | _=>true)
 | _=>true
noncomputable def xopQ (P:Program) (lm:Nat) (call:Caller) (env:Env) (σ:St) (o:Oper) (k:TV → Env → St → Out) (kp:AV → Env → St → Out):Out:=
 match pureOf P o with
 | some f=>(match o.op with
  | .call c=>(match valsOf (c.args.toList.map env.get) with
   | some args=>pureK call f args σ fun v=>k (.v v) env σ
   | none=>none)
  | _=>none)
 | none=>match insQ P o with
  | some b=>(match o.op with
   | .insert _ _ _ x=>(match insM env o,env.get x with
    | some r,.v v=>insK b σ r v fun σ'=>k .no env σ'
    | _,_=>none)
   | _=>none)
  | none=>xop P lm call env σ o k kp
noncomputable def runDr (P:Program) (lm:Nat) (call:Caller) (ops:Array Oper) (anc:List Nat) (k:Env → St → Out):Nat → List Oper → List (Nat × Oper × Cls) → Env → St → Out
 | _,[],_,env,σ=>k env σ
 | i,o :: r,acc,env,σ=>
  let c:=clsOf P lm env o
  let K:TV → Env → St → Out:=fun t env' σ'=>keepsK (keepsOf anc i (c.ran σ σ') acc) (runDr P lm call ops anc k (i + 1) r (acc ++ [(i,o,c.ran σ σ')]) (env'.put o.dst t) σ')
  cond (drawOk lm ops anc i o r c acc && calmO P o)
   (apK (needsOf anc i c acc) (match o.guard with
   | none=>xopQ P lm call env σ o K (fun _ _ _=>none)
   | some (j,want)=>
    match (ops[j]?).bind (·.dst) with
    | some d=>match env.tmps.getD d .no with
     | .v (.bool b)=>
      cond b
       (let e:Env:={ env with tmps:=env.tmps.set d (.v (.bool true)) }
        cond want (xopQ P lm call e σ o K (fun _ _ _=>none)) (K (.v (.tuple [])) e σ))
       (let e:Env:={ env with tmps:=env.tmps.set d (.v (.bool false)) }
        cond want (K (.v (.tuple [])) e σ) (xopQ P lm call e σ o K (fun _ _ _=>none)))
     | .v (.tuple [])=>K (.v (.tuple [])) env σ
     | _=>none
    | none=>none))
   none
def newFree (lm:Nat) (ops:List Oper) (tmps:List TV):Bool:=ops.all fun o=>(newKey lm o).all fun d=>tmps.all fun t=>!(keyOf t).contains d
def edgesBack (ops:Array Oper):Bool:=(ops.toList.zipIdx).all fun (o,i)=>o.after.all fun e=>!Region.binds .any e || decide (e.on < i)
def joins:Code → Bool
 | .cond _ _ _=>true
 | .block _ _=>true
 | .seq _ b=>joins b
 | .region _ ops _=>ops.toList.any fun o=>o.guard.isSome
 | _=>false
noncomputable def run (P:Program) (lm:Nat) (call:Caller) (n:Nat) (kp:AV → Env → St → Out):Code → Nat → (X → Env → St → Out) → Env → St → Out
 | .skip,_,k,env,σ=>k .normal env σ
 | .region _ ops draw,_,k,env,σ=>
  cond draw (cond (newFree lm ops.toList env.tmps && edgesBack ops) (runDr P lm call ops (ancs ops) (k .normal) 0 ops.toList [] env σ) none) (runOps P lm call ops (k .normal) kp ops.toList env σ)
 | .seq a b,live,k,env,σ=>run P lm call n kp a (live ||| liveIn b) (fun x env σ=>match x with | .normal=>run P lm call n kp b live k (cond (joins a) (env.clean (live ||| liveIn b)) env) σ | x=>k x env σ) env σ
 | .cond c a b,live,k,env,σ=>match env.get c with
  | .v (.bool t)=>cond t (run P lm call n kp a live k (env.know c true) σ) (run P lm call n kp b live k (env.know c false) σ)
  | _=>none
 | .block id b,live,k,env,σ=>run P lm call n kp b live (fun x env σ=>match x with | .exit j=>if j = id then k .normal (env.clean live) σ else k (.exit j) env σ | x=>k x env σ) env σ
 | .loop b,live,k,env,σ=>loopK (live ||| liveIn b) (fun k env σ=>run P lm call n kp b (live ||| liveIn b) k env σ) k n (env.clean (live ||| liveIn b)) σ
 | .exit id,_,k,env,σ=>k (.exit id) env σ
 | .ret,_,k,env,σ=>k .ret env σ
 | _,_,_,_,_=>none
def resBit:ResultVar → Nat
 | .tmp t=>2 ^ t
 | .cell t _=>2 ^ t
def resK (P:Program) (env:Env) (σ:St):List ResultVar → (List AV → Out) → Out
 | [],k=>k []
 | .tmp t :: r,k=>match env.tmps.getD t .no with | .v x=>resK P env σ r fun l=>k (x :: l) | _=>none
 | .cell t ty :: r,k=>loadK P ty env σ (env.tmps.getD t .no) fun x=>resK P env σ r fun l=>k (x :: l)
def badUses (o:Oper) (bad:Nat):Nat:=
 let all:=o.op.operands.toList.foldl (fun m x=>m ||| tmpBit x) 0
 let kept (x:Operand):Nat:=match o.dst with | some d=>if bad.testBit d then tmpBit x else 0 | none=>tmpBit x
 match o.op with
 | .load _ _=>0
 | .store _ _ v=>tmpBit v
 | .fieldAddr _ x _=>kept x
 | .indexAddr _ x i=>kept x ||| tmpBit i
 | .nilCheck x=>kept x
 | .move x=>kept x
 | .assign x=>kept x
 | .call { callee:=.builtin .len,.. }=>0
 | .call { callee:=.builtin .append,args,.. }=>match args[0]? with | some x=>tmpBit x | none=>0
 | _=>all
def badIn:Code → Nat → Nat
 | .region _ ops _,m=>ops.toList.foldr (fun o m=>m ||| badUses o m) m
 | .seq a b,m=>badIn a (badIn b m)
 | .cond c a b,m=>badIn a (badIn b (m ||| tmpBit c))
 | .block _ b,m=>badIn b m
 | .loop b,m=>badIn b (badIn b m)
 | .scope b,m=>badIn b m
 | _,m=>m
def localMask (fn:Func):Nat:=
 match fn.body with
 | some c=>(2 ^ fn.ntmps - 1) ^^^ ((badIn c (fn.results.toList.foldl (fun m r=>match r with | .tmp t=>m ||| 2 ^ t | .cell _ _=>m) 0)) &&& (2 ^ fn.ntmps - 1))
 | none=>0
def retK (P:Program) (rs:List ResultVar) (env:Env) (σ:St):Out:=
 resK P env σ rs fun l=>match l with
  | [y]=>some (.ret y,σ)
  | l=>some (.ret (.tuple l),σ)
abbrev DCaller:=FuncId → List AV → Option AV → St → Option (Option AV × St)
def lvK (u:Option AV) (f:AV → Out) (x:Out):Out:=match u with | none=>x | some v=>f v
def dfK (D:DCaller) (f:FuncId) (args:List AV) (u:Option AV) (σ:St) (k:Option AV → St → Out):Out:=
 match D f args u σ with
 | some (u',σ')=>k u' σ'
 | none=>none
def leaveK (P:Program) (D:DCaller) (rs:List ResultVar):Defs → Option AV → Env → St → Out
 | [],u,env,σ=>lvK u (fun v=>some (.pan v,σ)) (retK P rs env σ)
 | (f,args) :: ds,u,env,σ=>dfK D f args u σ fun u' σ'=>leaveK P D rs ds u' env σ'
def resLive (fn:Func):Nat:=fn.results.toList.foldl (fun m r=>m ||| resBit r) 0
def entryE (fn:Func) (args:List AV):Env:={ tmps:=args.map .v ++ List.replicate (fn.ntmps - args.length) .no,locs:=[],defs:=[] }
def recOf:Code → Option (Array Oper × Oper × List Oper × Code)
 | .seq (.region _ ops false) b=>match ops.toList with
  | o :: r=>match o.op with
   | .call c=>match c.callee with
    | .builtin .recover=>if o.guard.isNone then some (ops,o,r,b) else none
    | _=>none
   | _=>none
  | []=>none
 | _=>none
def endD (P:Program) (rs:List ResultVar):X → Env → St → Out:=fun x env σ=>match x with
 | .exit _=>none
 | _=>(match env.defs with | []=>retK P rs env σ | _=>none)
noncomputable def runD (P:Program) (call:Caller) (n:Nat):DCaller:=fun f args u σ=>
 match P.funcs[f]? with
 | some fn=>
  match fn.body with
  | some c=>
   match recOf c with
   | some (ops,o,r,b)=>
    match runOps P (localMask fn) call ops (fun env σ=>run P (localMask fn) call n (fun _ _ _=>none) b (resLive fn)
      (endD P fn.results.toList) env σ)
      (fun _ _ _=>none) r ((entryE fn args).put o.dst (.v (u.getD .nilIface))) σ with
    | some (.ret _,σ')=>some (none,σ')
    | _=>none
   | none=>
    match run P (localMask fn) call n (fun _ _ _=>none) c (resLive fn)
      (endD P fn.results.toList) (entryE fn args) σ with
    | some (.ret _,σ')=>some (u,σ')
    | _=>none
  | none=>none
 | none=>none
noncomputable def callP (P:Program) (B:Caller):Nat → FuncId → List AV → St → Out
 | 0,_,_,_=>none
 | n + 1,f,args,σ=>
  match B f args σ with
  | some r=>some r
  | none=>
  match P.funcs[f]? with
  | some fn=>
   match fn.body with
   | some c=>
    run P (localMask fn) (callP P B n) n (fun v env σ'=>leaveK P (runD P (callP P B n) n) fn.results.toList env.defs (some v) env σ') c (resLive fn)
     (fun x env σ'=>match x with
      | .exit _=>none
      | _=>leaveK P (runD P (callP P B n) n) fn.results.toList env.defs none env σ')
     (entryE fn args) σ
   | none=>none
  | none=>none
end Go.AM

/- Typed steps: the interpreter once more, in which what is not known is told by name. -/
import Derived.Test.YtlbieeajocjpeaaGreatDoorAmAt
set_option linter.unusedSimpArgs false
namespace Go.AM
def xBool (v:AV) (f:Bool → Out):Out:=match v with | .bool b=>f b | _=>none
def xInt (k:IntKind) (v:AV) (f:Int → Out):Out:=match v with | .int k' n=>if k' = k then f n else none | _=>none
def xStr (v:AV) (f:List UInt8 → Out):Out:=match v with | .str s=>f s | _=>none
def xPtr (v:AV) (f:Option (Nat × Nat) → Out):Out:=match v with | .ptr a=>f a | _=>none
def xSl (v:AV) (f:Option (Nat × Nat) → Nat → Option Nat → Nat → Out):Out:=match v with | .slice a n c s=>f a n c s | _=>none
def xAgg (v:AV) (f:List AV → Out):Out:=match v with | .agg cs=>f cs | _=>none
def xTup (v:AV) (f:List AV → Out):Out:=match v with | .tuple cs=>f cs | _=>none
def unC (cs:List AV) (f:AV → List AV → Out):Out:=match cs with | x :: r=>f x r | []=>none
def nlC (cs:List AV) (x:Out):Out:=match cs with | []=>x | _=>none
def derefK (a:Option (Nat × Nat)) (f:Nat → Nat → Out):Out:=match a with | some (b,o)=>f b o | none=>none
inductive CK where
 | bool | int (k:IntKind) | str | ptr | sl | any
def asCell:CK → AV → (AV → Out) → Out
 | .bool,v,k=>xBool v fun b=>k (.bool b)
 | .int i,v,k=>xInt i v fun n=>k (.int i n)
 | .str,v,k=>xStr v fun s=>k (.str s)
 | .ptr,v,k=>xPtr v fun a=>k (.ptr a)
 | .sl,v,k=>xSl v fun a n c s=>k (.slice a n c s)
 | .any,v,k=>k v
def asCells:List CK → List AV → (List AV → Out) → Out
 | [],cs,k=>nlC cs (k [])
 | c :: r,cs,k=>unC cs fun x xs=>asCell c x fun x'=>asCells r xs fun xs'=>k (x' :: xs')
def joinO:List (Option (List CK)) → Option (List CK)
 | []=>some []
 | some l :: r=>match joinO r with | some m=>some (l ++ m) | none=>none
 | none :: _=>none
def kindsOf (P:Program):Nat → TypeId → Option (List CK)
 | 0,_=>none
 | d + 1,t=>match P.underlying t with
  | some .bool=>some [.bool]
  | some (.int k)=>some [.int k]
  | some .string=>some [.str]
  | some (.pointer _)=>some [.ptr]
  | some (.slice _)=>some [.sl]
  | some (.struct fs)=>if szOf P t ≤ 12 then joinO (fs.toList.map fun f=>kindsOf P d f.type) else none
  | some (.array n e)=>if n * szOf P e ≤ 4 then joinO (List.replicate n (kindsOf P d e)) else none
  | some _=>some [.any]
  | none=>none
def asTy (P:Program) (t:TypeId) (v:AV) (k:AV → Out):Out:=
 match aggO P t with
 | some true=>(match kindsOf P 8 t with
  | some ks=>xAgg v fun cs=>asCells ks cs fun cs'=>k (.agg cs')
  | none=>xAgg v fun cs=>k (.agg cs))
 | some false=>(match kindsOf P 8 t with
  | some [c]=>asCell c v k
  | _=>k v)
 | none=>k v
def asTys (P:Program):List TypeId → List AV → (List AV → Out) → Out
 | [],cs,k=>nlC cs (k [])
 | t :: r,cs,k=>unC cs fun x xs=>asTy P t x fun x'=>asTys P r xs fun xs'=>k (x' :: xs')
def asRes (P:Program) (t:TypeId) (v:AV) (k:AV → Out):Out:=
 match P.underlying t with
 | some (.tuple ts)=>(match ts.toList with
  | []=>k v
  | ts=>xTup v fun cs=>asTys P ts cs fun cs'=>k (.tuple cs'))
 | _=>asTy P t v k
def idxK (i:Int) (n:Nat) (x:Out):Out:=if 0 ≤ i ∧ i < n then x else none
def ldK (P:Program) (t:TypeId) (σ:St) (b off:Nat) (k:AV → Out):Out:=match cellsAt σ b with | some cs=>partK P t cs off k | none=>none
def wellK (P:Program) (t:TypeId) (ys:List AV) (x:Out):Out:=if ys.length = szOf P t ∧ (P.info? t).isSome = true then (if ys.all AV.one then x else none) else none
def onesK (ys:List AV) (x:Out):Out:=if ys.all AV.one then x else none
def lstK (cs:List AV) (off:Nat) (ys:List AV) (f:List AV → Out):Out:=if off + ys.length ≤ cs.length then f (setMany cs off ys) else none
def stK (σ:St) (b off:Nat) (ys:List AV) (f:St → Out):Out:=
 match σ[b]? with
 | some (.cells cs (.rw t))=>if off + ys.length ≤ cs.length then f (σ.set b (.cells (setMany cs off ys) (.rw t))) else none
 | _=>none
def divK (b:Int) (x:Out):Out:=if b = 0 then none else x
def shK (b:Int) (x:Out):Out:=if b < 0 then none else x
def catK (a b:List UInt8) (f:List UInt8 → Out):Out:=if a.length + b.length ≤ 4611686018427387904 then f (a ++ b) else none
def eqK (P:Program) (t:TypeId) (x y:AV) (f:Bool → Out):Out:=if eqFree P t then (match eqIn P 100 t x y with | some b=>f b | none=>none) else none
def byteK (s:List UInt8) (i:Int) (f:UInt8 → Out):Out:=if 0 ≤ i then (match s[i.toNat]? with | some b=>f b | none=>none) else none
def cutK (s:List UInt8) (l h:Int) (f:List UInt8 → Out):Out:=if 0 ≤ l ∧ l ≤ h ∧ h ≤ s.length then f ((s.take h.toNat).drop l.toNat) else none
def resliceK (a:Option (Nat × Nat)) (n:Nat) (c:Option Nat) (sz size:Nat) (l h:Int) (f:Option (Nat × Nat) → Nat → Option Nat → Out):Out:=
 match a with
 | none=>if 0 ≤ l ∧ l ≤ h ∧ h ≤ (0:Nat) then f none 0 (some 0) else none
 | some (b,o)=>if sz = size then (if 0 ≤ l ∧ l ≤ h ∧ h ≤ (c.getD n:Nat) then f (some (b,o + l.toNat * sz)) (h.toNat - l.toNat) (match c with | some c=>some (c - l.toNat) | none=>none) else none) else none
def bytsK (σ:St) (a:Option (Nat × Nat)) (n sz:Nat) (f:List UInt8 → Out):Out:=
 match a with
 | none=>f []
 | some (b,o)=>if sz = 1 then (match cellsAt σ b with
  | some cs=>if o + n ≤ cs.length then (match bytesOf ((cs.drop o).take n) with | some s=>f s | none=>none) else none
  | none=>none) else none
def spanK (σ:St) (a:Option (Nat × Nat)) (n sz size:Nat) (f:Nat → List AV → Out):Out:=
 match a with
 | none=>if n = 0 then f 0 [] else none
 | some (b,o)=>if sz = size then (match cellsAt σ b with
  | some cs=>if o + n * size ≤ cs.length then f n ((cs.drop o).take (n * size)) else none
  | none=>none) else none
def appK (σ:St) (e:TypeId) (size bytes:Nat) (a:Option (Nat × Nat)) (len sz n:Nat) (new:List AV) (f:Option (Nat × Nat) → Nat → Option Nat → St → Out):Out:=
 match a with
 | none=>if n = 0 then f none 0 (some 0) σ else
   if n * bytes ≤ 140737488355328 ∧ n < 9223372036854775807 then f (some (σ.length,0)) n none (σ ++ [.cells new (.rw (.row e))]) else none
 | some (b,o)=>if sz = size then (match σ[b]? with
  | some (.cells cs (.rw t))=>if o + len * size ≤ cs.length then
    (if (len + n) * bytes ≤ 140737488355328 ∧ len + n < 9223372036854775807 then
     f (some (σ.length,0)) (len + n) none (σ.set b .dead ++ [.cells ((cs.drop o).take (len * size) ++ new) (.rw (joinW t e))])
    else none) else none
  | _=>none) else none
def makeK (P:Program) (e:TypeId) (size:Nat) (l c:Int) (σ:St) (f:St → Out):Out:=
 match zeroOf P e with
 | some z=>if z.cells.length = size ∧ (0 ≤ l ∧ l ≤ c ∧ c ≤ 140737488355328 ∧ c.toNat * bytesOfT P e ≤ 140737488355328) ∧ z.cells.all AV.one = true then
   f (σ ++ [.cells (zeros z.cells c.toNat) (.rw (.row e))]) else none
 | none=>none
def arrK (σ:St) (b off size n:Nat) (l h:Int) (f:AV → Out):Out:=
 match cellsAt σ b with
 | some cs=>if off + n * size ≤ cs.length then (if 0 ≤ l ∧ l ≤ h ∧ h ≤ n then f (.slice (some (b,off + l.toNat * size)) (h.toNat - l.toNat) (some (n - l.toNat)) size) else none) else none
 | none=>none
def nxtK (σ:St) (b:Nat) (f:Int → Int → St → Out) (g:Out):Out:=
 match σ[b]? with
 | some (.iter s pos)=>if pos < s.length then f pos (Utf8.decode ⟨s.toArray⟩ pos).1 (σ.set b (.iter s (pos + (Utf8.decode ⟨s.toArray⟩ pos).2))) else g
 | _=>none
def capK (a:Option (Nat × Nat)) (c:Option Nat) (f:Int → Out):Out:=match a,c with | none,_=>f 0 | some _,some c=>f c | _,_=>none
def cpyK (σ:St) (size:Nat) (a:Option (Nat × Nat)) (m sz n:Nat) (new:List AV) (f:Int → St → Out):Out:=
 match a with
 | none=>f 0 σ
 | some (b,o)=>if sz = size then (match σ[b]? with
  | some (.cells cs (.rw t))=>if o + min n m * size ≤ cs.length then f (min n m:Nat) (σ.set b (.cells (setMany cs o (new.take (min n m * size))) (.rw t))) else none
  | _=>none) else none
def nilV (v:AV) (f:AV → Out):Out:=
 match v with
 | .ptr a=>derefK a fun b o=>f (.ptr (some (b,o)))
 | .func (.func g) l c=>f (.func (.func g) l c)
 | _=>none
noncomputable def callJ (P:Program) (B:Caller) (n:Nat) (x:AV) (name:String) (args:List AV) (σ:St) (k:AV → St → Out):Out:=callI P (callP P B n) x name args σ k panK
def callV (call:Caller) (v:AV) (args:List AV) (σ:St) (k:AV → St → Out) (kp:AV → St → Out):Out:=
 match v with
 | .func (.func fid) first captured=>callK call fid (first ++ args ++ captured) σ k kp
 | _=>none
def szK (a b:Nat) (x:Out):Out:=if a = b then x else none
noncomputable def callT (P:Program) (B:Caller) (n:Nat) (f:FuncId) (args:List AV) (σ:St) (k:AV → St → Out):Out:=callK (callP P B n) f args σ k panK
noncomputable def callE (P:Program) (B:Caller) (n:Nat) (f:FuncId) (args:List AV) (σ:St) (k:AV → St → Out) (kp:AV → St → Out):Out:=callK (callP P B n) f args σ k kp
noncomputable def callVE (P:Program) (B:Caller) (n:Nat) (v:AV) (args:List AV) (σ:St) (k:AV → St → Out) (kp:AV → St → Out):Out:=callV (callP P B n) v args σ k kp
noncomputable def dfT (P:Program) (B:Caller) (n:Nat) (f:FuncId) (args:List AV) (u:Option AV) (σ:St) (k:Option AV → St → Out):Out:=dfK (runD P (callP P B n) n) f args u σ k
def astK (ty:TypeId) (v:AV) (f:AV → Out) (g:Out):Out:=match v with | .nilIface=>g | .iface t y=>if t = ty then f y else g | _=>none
def assertT (P:Program) (x:TV) (ty:TypeId) (ok:Bool) (k:AV → Out):Out:=
 match P.underlying ty with
 | some (.interface _)=>none
 | some _=>(match x with
  | .v v=>(match ok with
   | true=>astK ty v (fun y=>asTy P ty y fun y=>k (.tuple [y,.bool true])) (match zeroOf P ty with | some z=>k (.tuple [z,.bool false]) | none=>none)
   | false=>astK ty v (fun y=>asTy P ty y k) none)
  | _=>none)
 | none=>none
def lkK (P:Program) (kt et:TypeId) (σ:St) (m:Option Nat) (key:AV) (k:AV → Bool → Out):Out:=lookK P kt et σ (.v (.map m)) key k
def xMap (v:AV) (f:Option Nat → Out):Out:=match v with | .map m=>f m | _=>none
def lookT (P:Program) (kt et:TypeId) (σ:St) (m:TV) (key:AV) (k:AV → Bool → Out):Out:=
 match m with
 | .v v=>xMap v fun m=>lkK P kt et σ m key k
 | _=>none
noncomputable def callQ (P:Program) (B:Caller) (n:Nat) (f:FuncId) (args:List AV) (σ:St) (k:AV → Out):Out:=pureK (callP P B n) f args σ k
noncomputable def callTD (P:Program) (B:Caller) (n:Nat) (f:FuncId) (args:List AV) (σ:St) (k:AV → St → Out):Out:=callK (callP P B n) f args σ k fun _ _=>none
noncomputable def callF (P:Program) (B:Caller) (n:Nat) (v:AV) (args:List AV) (σ:St) (k:AV → St → Out):Out:=callV (callP P B n) v args σ k panK
noncomputable def callFD (P:Program) (B:Caller) (n:Nat) (v:AV) (args:List AV) (σ:St) (k:AV → St → Out):Out:=callV (callP P B n) v args σ k fun _ _=>none
def loadT (P:Program) (t:TypeId) (env:Env) (σ:St) (a:TV) (k:AV → Out):Out:=
 match a with
 | .lp key off=>match lookL env.locs key with | some cs=>partK P t cs off k | none=>none
 | .v (.ptr a)=>derefK a fun b off=>ldK P t σ b off k
 | .gl g off=>globK σ g fun cs=>partK P t cs off k
 | _=>none
def storeT (P:Program) (t:TypeId) (env:Env) (σ:St) (a:TV) (x:TV) (k:Locs → St → Out):Out:=
 match x with
 | .v y=>wellK P t y.cells (match a with
  | .lp key off=>(match lookL env.locs key with | some cs=>lstK cs off y.cells fun cs'=>k (setL env.locs key cs') σ | none=>none)
  | .v (.ptr a)=>derefK a fun b off=>stK σ b off y.cells fun σ'=>k env.locs σ'
  | _=>none)
 | _=>none
def boxT (t:TypeId) (loc:Bool) (dst:Option Tmp) (env:Env) (σ:St) (cs:List AV) (k:TV → Env → St → Out):Out:=
 onesK cs (match loc,dst with
  | true,some d=>k (.lp d 0) (env.newL d cs) σ
  | _,_=>k (.v (.ptr (some (σ.length,0)))) env (σ ++ [.cells cs (.rw (.box t))]))
def ibinT (op:BinOp) (k:IntKind) (a b:Int) (f:AV → Out):Out:=
 match op with
 | .quo=>divK b (f (.int k (k.wrap (a.tdiv b))))
 | .rem=>divK b (f (.int k (a.tmod b)))
 | .shl=>shK b (f (.int k (k.wrap (a * 2 ^ (min b.toNat k.bits)))))
 | .shr=>shK b (f (.int k (a.fdiv (2 ^ (min b.toNat k.bits)))))
 | op=>match ibin op k a b with | some r=>f r | none=>none
def sbinT (op:BinOp) (a b:List UInt8) (f:AV → Out):Out:=
 match op with
 | .add=>catK a b fun s=>f (.str s)
 | op=>match sbin op a b with | some r=>f r | none=>none
def binV (P:Program) (op:BinOp) (t:TypeId) (x y:AV) (k:AV → Out):Out:=
 match x,y with
 | .int kx a,.int ky b=>if op = .shl ∨ op = .shr ∨ kx = ky then ibinT op kx a b k else none
 | .str a,.str b=>sbinT op a b k
 | x,y=>match op with
  | .eql=>eqK P t x y fun b=>k (.bool b)
  | .neq=>eqK P t x y fun b=>k (.bool (!b))
  | _=>none
def anyT (P:Program) (t:TypeId):Bool:=
 match P.underlying t with
 | some (.interface _)=>true
 | some (.map _ _)=>true
 | some (.func _ _ _)=>true
 | _=>false
def eqOp (P:Program) (op:BinOp) (t:TypeId) (x y:AV) (k:AV → Out):Out:=
 match op with
 | .eql=>eqK P t x y fun b=>k (.bool b)
 | .neq=>eqK P t x y fun b=>k (.bool (!b))
 | _=>none
def binT (P:Program) (op:BinOp) (t:TypeId) (x y:AV) (k:AV → Out):Out:=
 cond (anyT P t) (eqOp P op t x y k) (binV P op t x y k)
def convT (P:Program) (src dst:TypeId) (σ:St) (x:AV) (k:AV → St → Out):Out:=
 match P.underlying src,P.underlying dst with
 | some _,some (.int kd)=>match x with | .int _ n=>k (.int kd (kd.wrap n)) σ | _=>none
 | some (.slice e),some .string=>
  match P.underlying e with
  | some (.int .u8)=>match x with
   | .slice a n _ s=>bytsK σ a n s fun bs=>k (.str bs) σ
   | _=>none
  | _=>none
 | some _,some .string=>match x with | .str s=>k (.str s) σ | _=>none
 | _,_=>none
def sliceT (P:Program) (t:TypeId) (x:TV) (lo hi:Option TV) (k:AV → Out):Out:=
 match P.underlying t with
 | some .string=>match x with
  | .v (.str s)=>boundK hi s.length fun h=>boundK lo 0 fun l=>cutK s l h fun r=>k (.str r)
  | _=>none
 | some (.slice e)=>match x with
  | .v (.slice a n c sz)=>boundK hi n fun h=>boundK lo 0 fun l=>resliceK a n c sz (szOf P e) l h fun a' n' c'=>k (.slice a' n' c' sz)
  | _=>none
 | _=>none
def srcT (isStr:Bool) (env:Env) (σ:St) (size:Nat) (x:TV) (k:Nat → List AV → Out):Out:=
 match isStr,x with
 | false,.ls key n=>match lookL env.locs key with | some cs=>if n * size = cs.length then k n cs else none | none=>none
 | true,.v (.str s)=>if size = 1 then k s.length (bytesAV s) else none
 | false,.v (.slice a n _ sz)=>spanK σ a n sz size k
 | _,_=>none
def appS (e:TypeId) (size bytes:Nat) (σ:St) (s:TV) (k:AV → St → Out) (n:Nat) (new:List AV):Out:=
 match s with
 | .v (.slice a len _ sz)=>appK σ e size bytes a len sz n new fun a' n' c' σ'=>k (.slice a' n' c' size) σ'
 | _=>none
def appendT (isStr:Bool) (e:TypeId) (size bytes:Nat) (env:Env) (σ:St) (s x:TV) (k:AV → St → Out):Out:=
 srcT isStr env σ size x (appS e size bytes σ s k)
def cpyS (size:Nat) (σ:St) (d:TV) (k:Int → St → Out) (n:Nat) (new:List AV):Out:=
 match d with
 | .v (.slice a m _ sz)=>cpyK σ size a m sz n new k
 | _=>none
def copyT (isStr:Bool) (env:Env) (σ:St) (size:Nat) (d x:TV) (k:Int → St → Out):Out:=
 srcT isStr env σ size x (cpyS size σ d k)
def arrSlT (size n:Nat) (σ:St) (x:TV) (lo hi:Option TV) (k:AV → Out):Out:=
 match x with
 | .v (.ptr a)=>derefK a fun b off=>boundK hi n fun h=>boundK lo 0 fun l=>arrK σ b off size n l h k
 | _=>none
def capT (P:Program) (t:TypeId) (x:TV) (k:Int → Out):Out:=
 match P.underlying t with
 | some (.slice _)=>match x with | .v (.slice a _ c _)=>capK a c k | _=>none
 | some (.array n _)=>k n
 | _=>none
noncomputable def xopT (P:Program) (lm:Nat) (call:Caller) (env:Env) (σ:St) (o:Oper) (k:TV → Env → St → Out) (kp:AV → Env → St → Out):Out:=
 let loc:Bool:=match o.dst with | some d=>lm.testBit d | none=>false
 let kv (x:AV):Out:=k (.v x) env σ
 match o.op with
 | .alloc t=>match zeroOf P t with | some z=>boxT t loc o.dst env σ z.cells k | none=>none
 | .box t x=>match env.get x with | .v y=>boxT t loc o.dst env σ y.cells k | _=>none
 | .load t a=>loadT P t env σ (env.get a) fun v=>asTy P t v kv
 | .store t a x=>storeT P t env σ (env.get a) (env.get x) fun ls σ'=>k .no { env with locs:=ls } σ'
 | .nilCheck x=>match env.get x with
  | .lp key off=>k (.lp key off) env σ
  | .gl g off=>k (.gl g off) env σ
  | .v y=>nilV y kv
  | _=>none
 | .binOp op t x y _=>match env.get x with
  | .v a=>match env.get y with | .v b=>cond (nilOk x y a b) (binT P op t a b kv) none | _=>none
  | _=>none
 | .convert s d x=>match isS2b P s d with
  | some e=>match env.get x with | .v (.str bs)=>k (.v (.slice (some (σ.length,0)) bs.length none 1)) env (σ ++ [.cells (bytesAV bs) (.rw (.row e))]) | _=>none
  | none=>match env.get x with | .v a=>convT P s d σ a fun r σ'=>k (.v r) env σ' | _=>none
 | .slice t x lo hi none=>match isArrSl P t with
  | some (n,e)=>arrSlT (szOf P e) n σ (env.get x) (lo.map env.get) (hi.map env.get) kv
  | none=>sliceT P t (env.get x) (lo.map env.get) (hi.map env.get) kv
 | .makeSlice t l c=>natK (env.get l) fun l=>natK (env.get c) fun c=>match P.underlying t with
  | some (.slice e)=>makeK P e (szOf P e) l c σ fun σ'=>k (.v (.slice (some (σ.length,0)) l.toNat (some c.toNat) (szOf P e))) env σ'
  | _=>none
 | .next it true=>match env.get it with
  | .v (.ptr a)=>derefK a fun b o=>szK o 0 (nxtK σ b (fun i r σ'=>k (.v (.tuple [.bool true,.int .i64 i,.int .i32 r])) env σ') (k (.v (.tuple [.bool false])) env σ))
  | _=>none
 | .fieldAddr s x f=>match fieldOf P s f with
  | some fl=>if szOf P fl.type = 0 then none else match env.get x with
   | .lp key off=>k (.lp key (off + fl.offset)) env σ
   | .gl g off=>k (.gl g (off + fl.offset)) env σ
   | .v (.ptr a)=>derefK a fun b off=>kv (.ptr (some (b,off + fl.offset)))
   | _=>none
  | none=>none
 | .field s x f=>match fieldOf P s f with
  | some fl=>match env.get x with | .v (.agg cs)=>partK P fl.type cs fl.offset fun v=>asTy P fl.type v kv | _=>none
  | none=>none
 | .indexAddr t x ix=>natK (env.get ix) fun i=>
  match P.underlying t with
  | some (.array n e)=>idxK i n (match env.get x with
    | .lp key off=>k (.lp key (off + i.toNat * szOf P e)) env σ
    | .gl g off=>k (.gl g (off + i.toNat * szOf P e)) env σ
    | .v (.ptr a)=>derefK a fun b off=>kv (.ptr (some (b,off + i.toNat * szOf P e)))
    | _=>none)
  | some (.slice e)=>match env.get x with
   | .ls key n=>idxK i n (k (.lp key (i.toNat * szOf P e)) env σ)
   | .v (.slice a n _ sz)=>idxK i n (derefK a fun b off=>szK sz (szOf P e) (kv (.ptr (some (b,off + i.toNat * szOf P e)))))
   | _=>none
  | _=>none
 | .index t x ix=>natK (env.get ix) fun i=>
  match P.underlying t with
  | some (.array n e)=>match env.get x with
   | .v (.agg cs)=>idxK i n (partK P e cs (i.toNat * szOf P e) fun v=>asTy P e v kv)
   | _=>none
  | some .string=>match env.get x with
   | .v (.str s)=>byteK s i fun b=>kv (.int .u8 b.toNat)
   | _=>none
  | _=>none
 | .call c=>
  match c.callee with
  | .value f=>match env.get f with
   | .v fv=>match valsOf (c.args.toList.map env.get) with
    | some args=>callV call fv args σ (fun v σ'=>asRes P o.type v fun v=>k (.v v) env σ') (fun v σ'=>kp v env σ')
    | none=>none
   | _=>none
  | .invoke x name=>match env.get x with
   | .v xv=>match valsOf (c.args.toList.map env.get) with
    | some args=>callI P call xv name args σ (fun v σ'=>asRes P o.type v fun v=>k (.v v) env σ') (fun v σ'=>kp v env σ')
    | none=>none
   | _=>none
  | .builtin .append=>match c.argTypes.toList,c.args.toList with
   | [t,t2],[s,x]=>match P.underlying t with
    | some (.slice e)=>match P.underlying t2 with
     | some (.slice _)=>if zeroFits P e then appendT false e (szOf P e) (bytesOfT P e) env σ (env.get s) (env.get x) fun v σ'=>k (.v v) env σ' else none
     | some .string=>if zeroFits P e then appendT true e (szOf P e) (bytesOfT P e) env σ (env.get s) (env.get x) fun v σ'=>k (.v v) env σ' else none
     | _=>none
    | _=>none
   | _,_=>none
  | .builtin .cap=>match c.argTypes.toList,c.args.toList with
   | t :: _,x :: _=>capT P t (env.get x) fun n=>kv (.int .i64 n)
   | _,_=>none
  | .builtin .copy=>match c.argTypes.toList,c.args.toList with
   | t :: t2 :: _,d :: x :: _=>match P.underlying t with
    | some (.slice e)=>match P.underlying t2 with
     | some (.slice _)=>if zeroFits P e then copyT false env σ (szOf P e) (env.get d) (env.get x) fun n σ'=>k (.v (.int .i64 n)) env σ' else none
     | some .string=>if zeroFits P e then copyT true env σ (szOf P e) (env.get d) (env.get x) fun n σ'=>k (.v (.int .i64 n)) env σ' else none
     | _=>none
    | _=>none
   | _,_=>none
  | _=>xop P lm call env σ o k kp
 | .lookup t x ix ok=>match P.underlying t with
  | some (.map kt et)=>(match env.get ix with
   | .v key=>lookT P kt et σ (env.get x) key fun v b=>asTy P et v fun v=>kv (cond ok (.tuple [v,.bool b]) v)
   | _=>none)
  | _=>none
 | .typeAssert x _ ty ok=>assertT P (env.get x) ty ok kv
 | _=>xop P lm call env σ o k kp
noncomputable def xopDT (P:Program) (lm:Nat) (call:Caller) (env:Env) (σ:St) (o:Oper) (k:TV → Env → St → Out) (kp:AV → Env → St → Out):Out:=
 match o.op with
 | .defer c=>match c.callee with
  | .value f=>match env.get f with
   | .v (.func (.func fid) first captured)=>match valsOf (c.args.toList.map env.get) with
    | some args=>k .no { env with defs:=(fid,first ++ args ++ captured) :: env.defs } σ
    | none=>none
   | _=>none
  | _=>none
 | _=>xopT P lm call env σ o k kp
def Le (x y:Out):Prop:=∀ out,x = some out → y = some out
theorem Le.refl (x:Out):Le x x:=fun _ h=>h
theorem Le.bot (x:Out):Le none x:=fun _ h=>by cases h
theorem Le.of_eq {x y:Out} (h:x = y):Le x y:=h ▸ Le.refl x
section
variable {P:Program} {lm:Nat} {call:Caller} {env:Env} {σ:St}
theorem asCell_le {c:CK} {v:AV} {k k':AV → Out} (h:∀ v,Le (k v) (k' v)):Le (asCell c v k) (k' v):=by
 cases c <;> cases v <;> first | exact h _ | exact Le.bot _ | skip
 simp only [asCell,xInt]
 split
 ·rename_i e;subst e;exact h _
 ·exact Le.bot _
theorem asCells_le {ks:List CK}:∀ {cs:List AV} {k k':List AV → Out},(∀ v,Le (k v) (k' v)) → Le (asCells ks cs k) (k' cs):=by
 induction ks with
 | nil=>intro cs k k' h;cases cs <;> first | exact h _ | exact Le.bot _
 | cons c r ih=>
  intro cs k k' h
  cases cs with
  | nil=>exact Le.bot _
  | cons x xs=>exact asCell_le (k':=fun x=>k' (x :: xs)) fun x'=>ih (k':=fun xs=>k' (x' :: xs)) fun xs'=>h _
theorem asTy_le {t:TypeId} {v:AV} {k k':AV → Out} (h:∀ v,Le (k v) (k' v)):Le (asTy P t v k) (k' v):=by
 unfold asTy
 split
 ·split
  ·cases v <;> first | exact Le.bot _ | skip
   exact asCells_le (k':=fun cs=>k' (.agg cs)) fun cs=>h _
  ·cases v <;> first | exact Le.bot _ | exact h _
 ·split
  ·exact asCell_le h
  ·exact h _
 ·exact h _
theorem asTys_le {ts:List TypeId}:∀ {cs:List AV} {k k':List AV → Out},(∀ v,Le (k v) (k' v)) → Le (asTys P ts cs k) (k' cs):=by
 induction ts with
 | nil=>intro cs k k' h;cases cs <;> first | exact h _ | exact Le.bot _
 | cons t r ih=>
  intro cs k k' h
  cases cs with
  | nil=>exact Le.bot _
  | cons x xs=>exact asTy_le (k':=fun x=>k' (x :: xs)) fun x'=>ih (k':=fun xs=>k' (x' :: xs)) fun xs'=>h _
theorem asRes_le {t:TypeId} {v:AV} {k k':AV → Out} (h:∀ v,Le (k v) (k' v)):Le (asRes P t v k) (k' v):=by
 unfold asRes
 split
 ·split
  ·exact h _
  ·cases v <;> first | exact Le.bot _ | skip
   exact asTys_le (k':=fun cs=>k' (.tuple cs)) fun cs=>h _
 ·exact asTy_le h
theorem partK_le {t:TypeId} {cs:List AV} {off:Nat} {k k':AV → Out} (h:∀ v,Le (k v) (k' v)):Le (partK P t cs off k) (partK P t cs off k'):=by
 unfold partK
 split
 ·split
  ·exact h _
  ·exact Le.bot _
 ·split
  ·exact h _
  ·exact Le.bot _
 ·exact Le.bot _
theorem loadT_le {t:TypeId} {a:TV} {k k':AV → Out} (h:∀ v,Le (k v) (k' v)):Le (loadT P t env σ a k) (loadK P t env σ a k'):=by
 unfold loadT loadK
 repeat' (first | exact partK_le h | exact Le.bot _ | (split <;> try simp only [*,derefK,ldK,globK]))
theorem storeT_le {t:TypeId} {a x:TV} {k k':Locs → St → Out} (h:∀ l s,Le (k l s) (k' l s)):Le (storeT P t env σ a x k) (storeK P t env σ a x k'):=by
 cases x with
 | v y=>
  simp only [storeT,storeK,wellK]
  cases a with
  | lp key off=>
   simp only [lstK]
   cases lookL env.locs key with
   | none=>simp only;repeat' (first | exact Le.bot _ | split)
   | some cs=>simp only;repeat' (first | exact h _ _ | exact Le.bot _ | split)
  | v x=>
   cases x with
   | ptr a=>
    cases a with
    | none=>simp only [derefK];repeat' (first | exact Le.bot _ | split)
    | some p=>
     obtain ⟨b,o⟩:=p
     simp only [derefK,stK]
     split
     ·split
      ·cases hb:σ[b]? with
       | none=>exact Le.bot _
       | some ob=>
        cases ob with
        | cells cs wr=>
         cases wr
         ·exact Le.bot _
         ·simp only;split
          ·exact h _ _
          ·exact Le.bot _
        | _=>exact Le.bot _
      ·exact Le.bot _
     ·exact Le.bot _
   | _=>simp only;repeat' (first | exact Le.bot _ | split)
  | _=>simp only;repeat' (first | exact Le.bot _ | split)
 | _=>exact Le.bot _
theorem boxT_le {ty:TypeId} {loc:Bool} {dst:Option Tmp} {cs:List AV} {k k':TV → Env → St → Out} (h:∀ t e s,Le (k t e s) (k' t e s)):Le (boxT ty loc dst env σ cs k) (boxK ty loc dst env σ cs k'):=by
 unfold boxT boxK onesK
 split
 ·cases loc <;> cases dst <;> exact h _ _ _
 ·exact Le.bot _
theorem ibinT_le {op:BinOp} {kx:IntKind} {a b:Int} {k k':AV → Out} (h:∀ v,Le (k v) (k' v)):Le (ibinT op kx a b k) (match ibin op kx a b with | some r=>k' r | none=>none):=by
 cases op <;> simp only [ibinT,ibin,divK,shK]
 case quo=>by_cases hb:b = 0 <;> simp only [hb,if_true,if_false] <;> first | exact Le.bot _ | exact h _
 case rem=>by_cases hb:b = 0 <;> simp only [hb,if_true,if_false] <;> first | exact Le.bot _ | exact h _
 case shl=>by_cases hb:b < 0 <;> simp only [hb,if_true,if_false] <;> first | exact Le.bot _ | exact h _
 case shr=>by_cases hb:b < 0 <;> simp only [hb,if_true,if_false] <;> first | exact Le.bot _ | exact h _
 all_goals exact h _
theorem sbinT_le {op:BinOp} {a b:List UInt8} {k k':AV → Out} (h:∀ v,Le (k v) (k' v)):Le (sbinT op a b k) (match sbin op a b with | some r=>k' r | none=>none):=by
 cases op <;> simp only [sbinT,sbin,catK]
 case add=>by_cases hb:a.length + b.length ≤ 4611686018427387904 <;> simp only [hb,if_true,if_false] <;> first | exact Le.bot _ | exact h _
 all_goals first | exact h _ | exact Le.bot _
theorem eqK_le {t:TypeId} {x y:AV} {k k':Bool → Out} (h:∀ v,Le (k v) (k' v)):Le (eqK P t x y k) (if eqFree P t then match eqIn P 100 t x y with | some b=>k' b | none=>none else none):=by
 unfold eqK
 split
 ·cases eqIn P 100 t x y with
  | none=>exact Le.bot _
  | some b=>exact h _
 ·exact Le.bot _
theorem binT_le {op:BinOp} {t:TypeId} {x y:AV} {k k':AV → Out} (h:∀ v,Le (k v) (k' v)):Le (binT P op t x y k) (binK P op t x y k'):=by
 have e:Le (match op with
  | .eql=>eqK P t x y fun b=>k (.bool b)
  | .neq=>eqK P t x y fun b=>k (.bool (!b))
  | _=>none) (match op with
  | .eql=>if eqFree P t then match eqIn P 100 t x y with | some b=>k' (.bool b) | none=>none else none
  | .neq=>if eqFree P t then match eqIn P 100 t x y with | some b=>k' (.bool (!b)) | none=>none else none
  | _=>none):=by
  cases op <;> first | exact eqK_le (fun b=>h _) | exact Le.bot _
 unfold binT
 cases ha:anyT P t with
 | true=>
  show Le (eqOp P op t x y k) _
  have bot:(∀ b,eqIn P 100 t x y ≠ some b) → Le (eqOp P op t x y k) (binK P op t x y k'):=by
   intro hn
   have hnone:eqIn P 100 t x y = none:=by
    cases hq:eqIn P 100 t x y with
    | none=>rfl
    | some b=>exact absurd hq (hn b)
   have hk:∀ f:Bool → Out,eqK P t x y f = none:=by
    intro f
    unfold eqK
    rw [hnone]
    split <;> rfl
   unfold eqOp
   cases op <;> simp only [hk] <;> exact Le.bot _
  cases x with
  | int kx a=>
   cases y with
   | int ky b=>
    refine bot fun b he=>?_
    unfold anyT at ha
    unfold eqIn at he
    split at ha <;> first | (cases ha;done) | (rename_i hu;rw [hu] at he;cases he;done)
   | _=>exact e
  | str a=>
   cases y with
   | str b=>
    refine bot fun b he=>?_
    unfold anyT at ha
    unfold eqIn at he
    split at ha <;> first | (cases ha;done) | (rename_i hu;rw [hu] at he;cases he;done)
   | _=>exact e
  | _=>exact e
 | false=>
  show Le (binV P op t x y k) _
  cases x with
  | int kx a=>
   cases y with
   | int ky b=>
    simp only [binV,binK]
    split
    ·exact ibinT_le h
    ·exact Le.bot _
   | _=>exact e
  | str a=>
   cases y with
   | str b=>exact sbinT_le h
   | _=>exact e
  | _=>exact e
theorem unK_le {op:UnOp} {x:AV} {k k':AV → Out} (h:∀ v,Le (k v) (k' v)):Le (unK op x k) (unK op x k'):=by
 unfold unK
 split <;> first | exact h _ | exact Le.bot _
theorem convT_le {s d:TypeId} {x:AV} {k k':AV → St → Out} (h:∀ v s,Le (k v s) (k' v s)):Le (convT P s d σ x k) (convK P s d σ x k'):=by
 unfold convT convK
 cases P.underlying s with
 | none=>exact Le.bot _
 | some us=>
  cases P.underlying d with
  | none=>cases us <;> exact Le.bot _
  | some ud=>
   have num:∀ (kd:IntKind) (y:AV),Le (match y with | .int _ n=>k (.int kd (kd.wrap n)) σ | _=>none) (match y with | .int _ n=>k' (.int kd (kd.wrap n)) σ | _=>none):=by
    intro kd y;cases y <;> first | exact h _ _ | exact Le.bot _
   have st:∀ y:AV,Le (match y with | .str s=>k (.str s) σ | _=>none) (match y with | .str s=>k' (.str s) σ | _=>none):=by
    intro y;cases y <;> first | exact h _ _ | exact Le.bot _
   have sl:∀ e:TypeId,Le (match P.underlying e with
     | some (.int .u8)=>(match x with
      | .slice a n _ s=>bytsK σ a n s fun bs=>k (.str bs) σ
      | _=>none)
     | _=>none) (match P.underlying e with
     | some (.int .u8)=>(match x with
      | .slice none _ _ _=>k' (.str []) σ
      | .slice (some (b,o)) n _ 1=>(match cellsAt σ b with
       | some cs=>if o + n ≤ cs.length then match bytesOf ((cs.drop o).take n) with | some s=>k' (.str s) σ | none=>none else none
       | none=>none)
      | _=>none)
     | _=>none):=?sl
   cases us <;> cases ud <;> first | exact num _ _ | exact st _ | exact sl _ | exact Le.bot _
   case sl=>
   intro e
   cases P.underlying e with
   | none=>exact Le.bot _
   | some ue=>
   cases ue <;> first | exact Le.bot _ | skip
   rename_i kk
   cases kk <;> first | exact Le.bot _ | skip
   ·cases x with
    | slice a n c s=>
     cases a with
     | none=>exact h _ _
     | some p=>
      obtain ⟨b,o⟩:=p
      simp only [bytsK]
      split
      ·rename_i hs;subst hs
       simp only
       cases cellsAt σ b with
       | none=>exact Le.bot _
       | some cs=>
        simp only
        split
        ·cases bytesOf ((cs.drop o).take n) with
         | none=>exact Le.bot _
         | some s=>exact h _ _
        ·exact Le.bot _
      ·exact Le.bot _
    | _=>exact Le.bot _
theorem natK_le {x:TV} {k k':Int → Out} (h:∀ v,Le (k v) (k' v)):Le (natK x k) (natK x k'):=by
 unfold natK
 split <;> first | exact h _ | exact Le.bot _
theorem boundK_le {x:Option TV} {d:Int} {k k':Int → Out} (h:∀ v,Le (k v) (k' v)):Le (boundK x d k) (boundK x d k'):=by
 unfold boundK
 split
 ·exact natK_le h
 ·exact h _
theorem boundK_none {x:Option TV} {d:Int}:boundK x d (fun _=>none) = none:=by
 unfold boundK natK
 split
 ·split <;> rfl
 ·rfl
theorem sliceT_le {t:TypeId} {x:TV} {lo hi:Option TV} {k k':AV → Out} (h:∀ v,Le (k v) (k' v)):Le (sliceT P t x lo hi k) (sliceK P t x lo hi k'):=by
 unfold sliceT sliceK
 cases P.underlying t with
 | none=>exact Le.bot _
 | some u=>
  cases u <;> first | exact Le.bot _ | skip
  ·cases x with
   | v x=>
    cases x <;> first | exact Le.bot _ | skip
    refine boundK_le fun a=>boundK_le fun b=>?_
    unfold cutK
    split
    ·exact h _
    ·exact Le.bot _
   | _=>exact Le.bot _
  ·cases x with
   | v x=>
    cases x <;> first | exact Le.bot _ | skip
    rename_i a n c sz
    cases a with
    | none=>
     refine boundK_le fun a=>boundK_le fun b=>?_
     simp only [resliceK]
     split
     ·exact h _
     ·exact Le.bot _
    | some p=>
     obtain ⟨b,o⟩:=p
     simp only [resliceK]
     split
     ·refine boundK_le fun a=>boundK_le fun b=>?_
      split
      ·exact h _
      ·exact Le.bot _
     ·simp only [boundK_none];exact Le.bot _
   | _=>exact Le.bot _
theorem srcT_le {isStr:Bool} {size:Nat} {x:TV} {k k':Nat → List AV → Out} (key:∀ n new,Le (k n new) (k' n new)):Le (srcT isStr env σ size x k) (srcK isStr env σ size x k'):=by
 cases isStr with
 | true=>
  cases x with
  | v x=>
   cases x with
   | str s=>
    simp only [srcT,srcK]
    split
    ·exact key _ _
    ·exact Le.bot _
   | _=>exact Le.bot _
  | _=>exact Le.bot _
 | false=>
  cases x with
  | v x=>
   cases x with
   | slice a n c sz=>
    cases a with
    | none=>
     simp only [srcT,spanK]
     cases n with
     | zero=>rw [if_pos rfl];exact key _ _
     | succ n=>exact Le.bot _
    | some p=>
     obtain ⟨b,o⟩:=p
     simp only [srcT,srcK,spanK]
     split
     ·cases cellsAt σ b with
      | none=>exact Le.bot _
      | some cs=>
       simp only
       split
       ·exact key _ _
       ·exact Le.bot _
     ·exact Le.bot _
   | _=>exact Le.bot _
  | ls key' n=>
   simp only [srcT,srcK]
   cases lookL env.locs key' with
   | none=>exact Le.bot _
   | some cs=>
    simp only
    split
    ·exact key _ _
    ·exact Le.bot _
  | _=>exact Le.bot _
def appS' (e:TypeId) (size bytes:Nat) (σ:St) (s:TV) (k':AV → St → Out) (n:Nat) (new:List AV):Out:=
 match s with
  | .v (.slice none _ _ _)=>if n = 0 then k' (.slice none 0 (some 0) size) σ else
    if n * bytes ≤ 140737488355328 ∧ n < 9223372036854775807 then k' (.slice (some (σ.length,0)) n none size) (σ ++ [.cells new (.rw (.row e))]) else none
  | .v (.slice (some (b,o)) len _ sz)=>
   if sz = size then
    match σ[b]? with
    | some (.cells cs (.rw t))=>
     if o + len * size ≤ cs.length then
      if (len + n) * bytes ≤ 140737488355328 ∧ len + n < 9223372036854775807 then
       k' (.slice (some (σ.length,0)) (len + n) none size) (σ.set b .dead ++ [.cells ((cs.drop o).take (len * size) ++ new) (.rw (joinW t e))])
      else none
     else none
    | _=>none
   else none
  | _=>none
theorem appendT_le {isStr:Bool} {e:TypeId} {size bytes:Nat} {s x:TV} {k k':AV → St → Out} (h:∀ v s,Le (k v s) (k' v s)):Le (appendT isStr e size bytes env σ s x k) (appendK isStr e size bytes env σ s x k'):=by
 have key:∀ n new,Le (appS e size bytes σ s k n new) (appS' e size bytes σ s k' n new):=by
  intro n new
  cases s with
  | v s=>
   cases s with
   | slice a len c sz=>
    cases a with
    | none=>
     simp only [appS,appS',appK]
     repeat' (first | exact h _ _ | exact Le.bot _ | split)
    | some p=>
     obtain ⟨b,o⟩:=p
     simp only [appS,appS',appK]
     split
     ·cases hb:σ[b]? with
      | none=>exact Le.bot _
      | some ob=>
       cases ob with
       | cells cs wr=>
        cases wr
        ·exact Le.bot _
        ·simp only
         repeat' (first | exact h _ _ | exact Le.bot _ | split)
       | _=>exact Le.bot _
     ·exact Le.bot _
   | _=>exact Le.bot _
  | _=>exact Le.bot _
 show Le (srcT isStr env σ size x (appS e size bytes σ s k)) (srcK isStr env σ size x (appS' e size bytes σ s k'))
 exact srcT_le key
theorem cond_le {b:Bool} {x y x' y':Out} (h:Le x x') (g:Le y y'):Le (cond b x y) (cond b x' y'):=by cases b <;> assumption
theorem arrSlT_le {size n:Nat} {x:TV} {lo hi:Option TV} {k k':AV → Out} (h:∀ v,Le (k v) (k' v)):Le (arrSlT size n σ x lo hi k) (arrSlK size n σ x lo hi k'):=by
 unfold arrSlT arrSlK
 cases x with
 | v y=>
  cases y with
  | ptr a=>
   cases a with
   | none=>exact Le.bot _
   | some p=>
    obtain ⟨b,off⟩:=p
    simp only [derefK,arrK]
    cases cellsAt σ b with
    | none=>simp only [boundK_none];exact Le.bot _
    | some cs=>
     simp only
     split
     ·refine boundK_le fun a=>boundK_le fun b=>?_
      split
      ·exact h _
      ·exact Le.bot _
     ·simp only [boundK_none];exact Le.bot _
  | _=>exact Le.bot _
 | _=>exact Le.bot _
theorem capT_le {t:TypeId} {x:TV} {k k':Int → Out} (h:∀ v,Le (k v) (k' v)):Le (capT P t x k) (match capO P t x with | some n=>k' n | none=>none):=by
 unfold capT capO
 cases P.underlying t with
 | none=>exact Le.bot _
 | some u=>
  cases u with
  | slice e=>
   cases x with
   | v y=>
    cases y with
    | slice a n c sz=>
     cases a with
     | none=>exact h _
     | some p=>cases c <;> first | exact h _ | exact Le.bot _
    | _=>exact Le.bot _
   | _=>exact Le.bot _
  | array n e=>exact h _
  | _=>exact Le.bot _
theorem copyT_le {isStr:Bool} {size:Nat} {d x:TV} {k k':Int → St → Out} (h:∀ v s,Le (k v s) (k' v s)):Le (copyT isStr env σ size d x k) (copyK isStr env σ size d x k'):=by
 unfold copyT copyK
 refine srcT_le fun n new=>?_
 unfold cpyS
 cases d with
 | v y=>
  cases y with
  | slice a m c sz=>
   cases a with
   | none=>exact h _ _
   | some p=>
    obtain ⟨b,o⟩:=p
    simp only [cpyK]
    split
    ·cases σ[b]? with
     | none=>exact Le.bot _
     | some ob=>
      cases ob with
      | cells cs wr=>
       cases wr with
       | ro=>exact Le.bot _
       | rw t=>
        simp only
        split
        ·exact h _ _
        ·exact Le.bot _
      | _=>exact Le.bot _
    ·exact Le.bot _
  | _=>exact Le.bot _
 | _=>exact Le.bot _
theorem callK_le {f:FuncId} {args:List AV} {k k' kp kp':AV → St → Out} (h:∀ v s,Le (k v s) (k' v s)) (hp:∀ v s,Le (kp v s) (kp' v s)):Le (callK call f args σ k kp) (callK call f args σ k' kp'):=by
 unfold callK
 split
 ·exact h _ _
 ·exact hp _ _
 ·exact Le.bot _
theorem lookK_le {kt et:TypeId} {m:TV} {key:AV} {k k':AV → Bool → Out} (h:∀ v b,Le (k v b) (k' v b)):Le (lookK P kt et σ m key k) (lookK P kt et σ m key k'):=by
 unfold lookK
 split
 ·split
  ·split
   ·exact h _ _
   ·exact Le.bot _
  ·split
   ·split
    ·exact h _ _
    ·split
     ·exact h _ _
     ·exact Le.bot _
    ·exact Le.bot _
   ·exact Le.bot _
  ·exact Le.bot _
 ·exact Le.bot _
theorem lookT_le {kt et:TypeId} {m:TV} {key:AV} {k k':AV → Bool → Out} (h:∀ v b,Le (k v b) (k' v b)):Le (lookT P kt et σ m key k) (lookK P kt et σ m key k'):=by
 unfold lookT
 split
 ·rename_i v
  cases v <;> first | exact Le.bot _ | exact lookK_le h
 ·exact Le.bot _
theorem updK_le {kt:TypeId} {m:TV} {key v:AV} {k k':St → Out} (h:∀ s,Le (k s) (k' s)):Le (updK P kt σ m key v k) (updK P kt σ m key v k'):=by
 unfold updK
 split
 ·split
  ·split
   ·split
    ·exact h _
    ·exact h _
    ·exact Le.bot _
   ·exact Le.bot _
  ·exact Le.bot _
 ·exact Le.bot _
theorem assertV_le {x:TV} {ty:TypeId} {ok:Bool} {k k':AV → Out} (h:∀ v,Le (k v) (k' v)):Le (match x with
  | .v v=>(match ok with
   | true=>astK ty v (fun y=>asTy P ty y fun y=>k (.tuple [y,.bool true])) (match zeroOf P ty with | some z=>k (.tuple [z,.bool false]) | none=>none)
   | false=>astK ty v (fun y=>asTy P ty y k) none)
  | _=>none) (assertV P x ty ok k'):=by
 unfold assertV
 cases x with
 | v y=>
  cases y with
  | nilIface=>
   cases ok
   ·exact Le.bot _
   ·simp only [astK,cond]
    cases zeroOf P ty with
    | some z=>exact h _
    | none=>exact Le.bot _
  | iface t z=>
   cases ok
   ·simp only [astK,cond]
    split
    ·exact asTy_le h
    ·exact Le.bot _
   ·simp only [astK,cond]
    split
    ·exact asTy_le (k':=fun y=>k' (.tuple [y,.bool true])) fun v=>h _
    ·cases zeroOf P ty with
     | some z=>exact h _
     | none=>exact Le.bot _
  | _=>cases ok <;> exact Le.bot _
 | _=>exact Le.bot _
theorem assertT_le {x:TV} {ty:TypeId} {ok:Bool} {k k':AV → Out} (h:∀ v,Le (k v) (k' v)):Le (assertT P x ty ok k) (assertK P x ty ok k'):=by
 unfold assertT assertK
 cases P.underlying ty with
 | none=>exact Le.bot _
 | some d=>cases d <;> first | exact Le.bot _ | exact assertV_le h
theorem xopT_le {o:Oper} {k k':TV → Env → St → Out} {kp kp':AV → Env → St → Out} (h:∀ t e s,Le (k t e s) (k' t e s)) (hp:∀ v e s,Le (kp v e s) (kp' v e s)):Le (xopT P lm call env σ o k kp) (xop P lm call env σ o k' kp'):=by
 cases ho:o.op with
 | alloc t=>
  simp only [xopT,xop,ho]
  cases zeroOf P t with
  | some z=>exact boxT_le h
  | none=>exact Le.bot _
 | box t x=>
  simp only [xopT,xop,ho]
  generalize env.get x = g
  cases g <;> first | exact boxT_le h | exact Le.bot _
 | load t a=>
  simp only [xopT,xop,ho]
  exact loadT_le fun v=>asTy_le (k':=fun v=>k' (.v v) env σ) fun v=>h _ _ _
 | store t a x=>
  simp only [xopT,xop,ho]
  exact storeT_le fun l s=>h _ _ _
 | nilCheck x=>
  simp only [xopT,xop,ho]
  generalize env.get x = g
  cases g with
  | lp key off=>exact h _ _ _
  | gl g off=>exact h _ _ _
  | v y=>
   cases y with
   | ptr a=>cases a <;> first | exact h _ _ _ | exact Le.bot _
   | func fn l c=>cases fn <;> first | exact h _ _ _ | exact Le.bot _
   | _=>exact Le.bot _
  | _=>exact Le.bot _
 | binOp op t x y t2=>
  simp only [xopT,xop,ho]
  generalize env.get x = g
  generalize env.get y = g'
  cases g <;> cases g' <;> first | exact cond_le (binT_le (fun v=>h _ _ _)) (Le.bot _) | exact Le.bot _
 | convert s d x=>
  simp only [xopT,xop,ho]
  generalize env.get x = g
  cases isS2b P s d with
  | some e=>
   cases g with
   | v y=>cases y <;> first | exact h _ _ _ | exact Le.bot _
   | _=>exact Le.bot _
  | none=>cases g <;> first | exact convT_le (fun v s=>h _ _ _) | exact Le.bot _
 | slice t x lo hi mx=>
  cases mx with
  | none=>
   simp only [xopT,xop,ho]
   cases isArrSl P t with
   | none=>exact sliceT_le fun v=>h _ _ _
   | some p=>exact arrSlT_le fun v=>h _ _ _
  | some m=>simp only [xopT,xop,ho];exact Le.bot _
 | fieldAddr s x f=>
  simp only [xopT,xop,ho]
  cases fieldOf P s f with
  | none=>exact Le.bot _
  | some fl=>
   simp only
   split
   ·exact Le.bot _
   ·generalize env.get x = g
    cases g with
    | lp key off=>exact h _ _ _
    | gl g off=>exact h _ _ _
    | v y=>
     cases y with
     | ptr a=>cases a <;> first | exact h _ _ _ | exact Le.bot _
     | _=>exact Le.bot _
    | _=>exact Le.bot _
 | field s x f=>
  simp only [xopT,xop,ho]
  cases fieldOf P s f with
  | none=>exact Le.bot _
  | some fl=>
   generalize env.get x = g
   cases g with
   | v y=>cases y <;> first | exact partK_le (fun v=>asTy_le (k':=fun v=>k' (.v v) env σ) fun v=>h _ _ _) | exact Le.bot _
   | _=>exact Le.bot _
 | indexAddr t x ix=>
  simp only [xopT,xop,ho]
  refine natK_le fun i=>?_
  generalize env.get x = g
  cases P.underlying t with
  | none=>exact Le.bot _
  | some u=>
   cases u with
   | array n e=>
    simp only [idxK]
    split
    ·cases g with
     | lp key off=>exact h _ _ _
     | gl g off=>exact h _ _ _
     | v y=>
      cases y with
      | ptr a=>cases a <;> first | exact h _ _ _ | exact Le.bot _
      | _=>exact Le.bot _
     | _=>exact Le.bot _
    ·exact Le.bot _
   | slice e=>
    cases g with
    | ls key n=>
     simp only [idxK]
     split
     ·exact h _ _ _
     ·exact Le.bot _
    | v y=>
     cases y with
     | slice a n c sz=>
      cases a with
      | none=>simp only [idxK,derefK];split <;> exact Le.bot _
      | some p=>
       simp only [idxK,derefK,szK]
       split
       ·split
        ·exact h _ _ _
        ·exact Le.bot _
       ·exact Le.bot _
     | _=>exact Le.bot _
    | _=>exact Le.bot _
   | _=>exact Le.bot _
 | index t x ix=>
  simp only [xopT,xop,ho]
  refine natK_le fun i=>?_
  generalize env.get x = g
  cases P.underlying t with
  | none=>exact Le.bot _
  | some u=>
   cases u with
   | array n e=>
    cases g with
    | v y=>
     cases y with
     | agg cs=>
      simp only [idxK]
      split
      ·exact partK_le fun v=>asTy_le (k':=fun v=>k' (.v v) env σ) fun v=>h _ _ _
      ·exact Le.bot _
     | _=>exact Le.bot _
    | _=>exact Le.bot _
   | string=>
    cases g with
    | v y=>
     cases y with
     | str s=>
      simp only [byteK]
      split
      ·cases s[i.toNat]? with
       | none=>exact Le.bot _
       | some b=>exact h _ _ _
      ·exact Le.bot _
     | _=>exact Le.bot _
    | _=>exact Le.bot _
   | _=>exact Le.bot _
 | call c=>
  simp only [xopT,xop,ho]
  cases c.callee with
  | value f=>
   simp only
   generalize env.get f = g
   cases g with
   | v fv=>
    cases valsOf (c.args.toList.map env.get) with
    | none=>
     cases fv with
     | func fn l c=>cases fn <;> exact Le.bot _
     | _=>exact Le.bot _
    | some args=>
     cases fv with
     | func fn l c=>
      cases fn <;> first | exact Le.bot _ | exact callK_le (fun v s=>asRes_le (k':=fun v=>k' (.v v) env s) fun v=>h _ _ _) (fun v s=>hp _ _ _)
     | _=>exact Le.bot _
   | _=>exact Le.bot _
  | invoke x name=>
   simp only
   generalize env.get x = g
   cases g with
   | v xv=>
    cases valsOf (c.args.toList.map env.get) with
    | none=>exact Le.bot _
    | some args=>
     simp only
     unfold callI
     cases xv with
     | iface t y=>
      simp only
      cases methF P t name with
      | none=>exact Le.bot _
      | some f=>exact callK_le (fun v s=>asRes_le (k':=fun v=>k' (.v v) env s) fun v=>h _ _ _) (fun v s=>hp _ _ _)
     | _=>exact Le.bot _
   | _=>exact Le.bot _
  | builtin b=>
   cases b with
   | append=>
    simp only
    generalize c.argTypes.toList = l1
    generalize c.args.toList = l2
    match l1,l2 with
    | [t,t2],[s,x]=>
     simp only
     cases P.underlying t with
     | none=>exact Le.bot _
     | some u=>
      cases u with
      | slice e=>
       simp only
       cases P.underlying t2 with
       | none=>exact Le.bot _
       | some u2=>
        cases u2 with
        | slice e2=>
         simp only
         split
         ·exact appendT_le fun v s=>h _ _ _
         ·exact Le.bot _
        | string=>
         simp only
         split
         ·exact appendT_le fun v s=>h _ _ _
         ·exact Le.bot _
        | _=>exact Le.bot _
      | _=>exact Le.bot _
    | [],_=>exact Le.bot _
    | [_],_=>exact Le.bot _
    | _ :: _ :: _ :: _,_=>exact Le.bot _
    | [_,_],[]=>exact Le.bot _
    | [_,_],[_]=>exact Le.bot _
    | [_,_],_ :: _ :: _ :: _=>exact Le.bot _
   | len=>
    simp only
    generalize c.argTypes.toList = l1
    generalize c.args.toList = l2
    cases l1 <;> cases l2 <;> first | exact Le.bot _ | skip
    simp only
    generalize lenO P _ _ = q
    cases q <;> first | exact h _ _ _ | exact Le.bot _
   | min=>
    simp only
    generalize c.args.toList.map env.get = l
    cases l with
    | nil=>exact Le.bot _
    | cons g r=>
     cases g with
     | v y=>
      cases y with
      | int kx m=>
       simp only
       cases intsOf r <;> first | exact h _ _ _ | exact Le.bot _
      | _=>exact Le.bot _
     | _=>exact Le.bot _
   | max=>
    simp only
    generalize c.args.toList.map env.get = l
    cases l with
    | nil=>exact Le.bot _
    | cons g r=>
     cases g with
     | v y=>
      cases y with
      | int kx m=>
       simp only
       cases intsOf r <;> first | exact h _ _ _ | exact Le.bot _
      | _=>exact Le.bot _
     | _=>exact Le.bot _
   | cap=>
    simp only
    generalize c.argTypes.toList = l1
    generalize c.args.toList = l2
    cases l1 <;> cases l2 <;> first | exact Le.bot _ | skip
    exact capT_le fun v=>h _ _ _
   | copy=>
    simp only
    generalize c.argTypes.toList = l1
    generalize c.args.toList = l2
    match l1,l2 with
    | t :: t2 :: _,d :: x :: _=>
     simp only
     cases P.underlying t with
     | none=>exact Le.bot _
     | some u=>
      cases u with
      | slice e=>
       simp only
       cases P.underlying t2 with
       | none=>exact Le.bot _
       | some u2=>
        cases u2 with
        | slice e2=>
         simp only
         split
         ·exact copyT_le fun v s=>h _ _ _
         ·exact Le.bot _
        | string=>
         simp only
         split
         ·exact copyT_le fun v s=>h _ _ _
         ·exact Le.bot _
        | _=>exact Le.bot _
      | _=>exact Le.bot _
    | [],_=>exact Le.bot _
    | [_],_=>exact Le.bot _
    | _ :: _ :: _,[]=>exact Le.bot _
    | _ :: _ :: _,[_]=>exact Le.bot _
   | _=>exact Le.bot _
 | makeFunc fn first captured=>
  simp only [xopT,xop,ho]
  cases fn with
  | func f=>
   simp only
   cases valsOf (first.toList.map env.get) with
   | none=>exact Le.bot _
   | some l=>
    simp only
    cases valsOf (captured.toList.map env.get) with
    | none=>exact Le.bot _
    | some c=>exact h _ _ _
  | _=>exact Le.bot _
 | makeSlice t l c=>
  simp only [xopT,xop,ho]
  refine natK_le fun l=>natK_le fun c=>?_
  unfold mkSlK makeK
  cases P.underlying t with
  | none=>exact Le.bot _
  | some u=>
   cases u with
   | slice e=>
    simp only
    cases zeroOf P e with
    | none=>exact Le.bot _
    | some z=>
     simp only
     split
     ·exact h _ _ _
     ·exact Le.bot _
   | _=>exact Le.bot _
 | range t x=>
  simp only [xopT,xop,ho]
  cases P.underlying t with
  | none=>exact Le.bot _
  | some u=>
   cases u with
   | string=>
    simp only
    generalize env.get x = g
    cases g with
    | v y=>cases y <;> first | exact h _ _ _ | exact Le.bot _
    | _=>exact Le.bot _
   | _=>exact Le.bot _
 | next it st=>
  cases st with
  | false=>simp only [xopT,xop,ho];exact Le.bot _
  | true=>
   simp only [xopT,xop,ho]
   generalize env.get it = g
   cases g with
   | v y=>
    cases y with
    | ptr a=>
     cases a with
     | none=>exact Le.bot _
     | some p=>
      obtain ⟨b,o⟩:=p
      simp only [derefK,szK]
      split
      ·rename_i h0;subst h0
       simp only [nxtK,nextK]
       cases σ[b]? with
       | none=>exact Le.bot _
       | some ob=>
        cases ob with
        | iter s pos=>
         simp only
         split <;> exact h _ _ _
        | _=>exact Le.bot _
      ·exact Le.bot _
    | _=>exact Le.bot _
   | _=>exact Le.bot _
 | unOp op t x=>
  simp only [xopT,xop,ho]
  generalize env.get x = g
  cases g <;> first | exact unK_le (fun v=>h _ _ _) | exact Le.bot _
 | pick c x y=>
  simp only [xopT,xop,ho]
  generalize env.get c = g
  cases g with
  | v z=>
   cases z with
   | bool t=>cases t <;> exact h _ _ _
   | _=>exact Le.bot _
  | _=>exact Le.bot _
 | move x=>simp only [xopT,xop,ho];exact h _ _ _
 | assign x=>simp only [xopT,xop,ho];exact h _ _ _
 | build t parts=>
  simp only [xopT,xop,ho]
  cases buildO P t (parts.toList.map fun p=>(p.1,env.get p.2)) with
  | none=>exact Le.bot _
  | some x=>exact h _ _ _
 | buildSlice t n parts=>
  simp only [xopT,xop,ho]
  cases P.underlying t with
  | none=>exact Le.bot _
  | some u=>
   cases u with
   | slice e=>
    simp only
    cases zeroOf P e with
    | none=>exact Le.bot _
    | some z=>
     simp only
     split
     ·generalize fillP _ _ _ = q
      cases q with
      | none=>exact Le.bot _
      | some cs=>
       simp only
       split
       ·cases o.dst with
        | none=>exact h _ _ _
        | some d=>
         simp only
         cases lm.testBit d <;> exact h _ _ _
       ·exact Le.bot _
     ·exact Le.bot _
   | _=>exact Le.bot _
 | extract x i=>
  simp only [xopT,xop,ho]
  generalize env.get x = g
  cases g with
  | v y=>
   cases y with
   | tuple vs=>
    simp only
    cases vs[i]? with
    | none=>exact Le.bot _
    | some z=>exact h _ _ _
   | _=>exact Le.bot _
  | _=>exact Le.bot _
 | makeInterface t x=>
  simp only [xopT,xop,ho]
  generalize env.get x = g
  cases g with
  | v y=>
   simp only
   cases P.underlying t with
   | none=>exact Le.bot _
   | some u=>cases u <;> first | exact h _ _ _ | exact Le.bot _
  | _=>exact Le.bot _
 | panic x=>
  simp only [xopT,xop,ho]
  generalize env.get x = g
  cases g with
  | v y=>cases y <;> first | exact hp _ _ _ | exact Le.bot _
  | _=>exact Le.bot _
 | makeMap t r=>
  simp only [xopT,xop,ho,mkMapK]
  cases P.underlying t with
  | none=>exact Le.bot _
  | some u=>
   cases u with
   | map kt et=>
    simp only
    split <;> first | exact h _ _ _ | exact Le.bot _
   | _=>exact Le.bot _
 | lookup t x ix b=>
  simp only [xopT,xop,ho]
  cases P.underlying t with
  | none=>exact Le.bot _
  | some u=>
   cases u with
   | map kt et=>
    simp only
    generalize env.get ix = g
    cases g with
    | v key=>exact lookT_le fun v c=>asTy_le (k':=fun v=>k' (.v (cond b (.tuple [v,.bool c]) v)) env σ) fun v=>h _ _ _
    | _=>exact Le.bot _
   | _=>exact Le.bot _
 | mapUpdate t m ix x=>
  simp only [xopT,xop,ho]
  cases P.underlying t with
  | none=>exact Le.bot _
  | some u=>
   cases u with
   | map kt et=>
    simp only
    generalize env.get ix = g
    generalize env.get x = g'
    cases g with
    | v key=>
     cases g' with
     | v y=>exact updK_le fun s=>h _ _ _
     | _=>exact Le.bot _
    | _=>exact Le.bot _
   | _=>exact Le.bot _
 | insert t m ix x=>
  simp only [xopT,xop,ho]
  cases P.underlying t with
  | none=>exact Le.bot _
  | some u=>
   cases u with
   | map kt et=>
    simp only
    generalize env.get ix = g
    generalize env.get x = g'
    cases g with
    | v key=>
     cases g' with
     | v y=>exact updK_le fun s=>h _ _ _
     | _=>exact Le.bot _
    | _=>exact Le.bot _
   | _=>exact Le.bot _
 | typeAssert x t ty b=>simp only [xopT,xop,ho];exact assertT_le fun v=>h _ _ _
 | _=>simp only [xopT,xop,ho];exact Le.bot _
theorem xopDT_le {o:Oper} {k k':TV → Env → St → Out} {kp kp':AV → Env → St → Out} (h:∀ t e s,Le (k t e s) (k' t e s)) (hp:∀ v e s,Le (kp v e s) (kp' v e s)):Le (xopDT P lm call env σ o k kp) (xopD P lm call env σ o k' kp'):=by
 unfold xopDT xopD
 cases ho:o.op with
 | defer c=>
  simp only
  cases c.callee with
  | value f=>
   simp only
   generalize env.get f = g
   cases g with
   | v y=>
    cases y with
    | func fn l c2=>
     cases fn <;> first | exact Le.bot _ | skip
     simp only
     cases valsOf (c.args.toList.map env.get) with
     | none=>exact Le.bot _
     | some args=>exact h _ _ _
    | _=>exact Le.bot _
   | _=>exact Le.bot _
  | _=>exact Le.bot _
 | _=>exact xopT_le h hp
noncomputable def runOpsT (P:Program) (lm:Nat) (call:Caller) (ops:Array Oper) (k:Env → St → Out) (kp:AV → Env → St → Out):List Oper → Env → St → Out
 | [],env,σ=>k env σ
 | o :: r,env,σ=>
  match o.guard with
  | none=>xopDT P lm call env σ o (fun t env' σ'=>runOpsT P lm call ops k kp r (env'.put o.dst t) σ') kp
  | some (j,want)=>
   match (ops[j]?).bind (·.dst) with
   | some d=>match env.tmps.getD d .no with
    | .v (.bool b)=>
     cond b
      (let e:Env:={ env with tmps:=env.tmps.set d (.v (.bool true)) }
       cond want (xopDT P lm call e σ o (fun t env' σ'=>runOpsT P lm call ops k kp r (env'.put o.dst t) σ') kp) (runOpsT P lm call ops k kp r (e.put o.dst (.v (.tuple []))) σ))
      (let e:Env:={ env with tmps:=env.tmps.set d (.v (.bool false)) }
       cond want (runOpsT P lm call ops k kp r (e.put o.dst (.v (.tuple []))) σ) (xopDT P lm call e σ o (fun t env' σ'=>runOpsT P lm call ops k kp r (env'.put o.dst t) σ') kp))
    | .v (.tuple [])=>runOpsT P lm call ops k kp r (env.put o.dst (.v (.tuple []))) σ
    | _=>none
   | none=>none
noncomputable def xopQT (P:Program) (lm:Nat) (call:Caller) (env:Env) (σ:St) (o:Oper) (k:TV → Env → St → Out) (kp:AV → Env → St → Out):Out:=
 match pureOf P o with
 | some f=>(match o.op with
  | .call c=>(match valsOf (c.args.toList.map env.get) with
   | some args=>pureK call f args σ fun v=>asRes P o.type v fun v=>k (.v v) env σ
   | none=>none)
  | _=>none)
 | none=>match insQ P o with
  | some b=>(match o.op with
   | .insert _ _ _ x=>(match insM env o,env.get x with
    | some r,.v v=>insK b σ r v fun σ'=>k .no env σ'
    | _,_=>none)
   | _=>none)
  | none=>xopT P lm call env σ o k kp
theorem pureK_le {f:FuncId} {args:List AV} {k k':AV → Out} (h:∀ v,Le (k v) (k' v)):Le (pureK call f args σ k) (pureK call f args σ k'):=by
 unfold pureK
 split
 ·split
  ·split
   ·exact h _
   ·exact Le.bot _
  ·exact Le.bot _
 ·exact Le.bot _
theorem xopQT_le {o:Oper} {k k':TV → Env → St → Out} {kp kp':AV → Env → St → Out} (h:∀ t e s,Le (k t e s) (k' t e s)) (hp:∀ v e s,Le (kp v e s) (kp' v e s)):Le (xopQT P lm call env σ o k kp) (xopQ P lm call env σ o k' kp'):=by
 unfold xopQT xopQ
 cases pureOf P o with
 | none=>
  cases insQ P o with
  | none=>exact xopT_le h hp
  | some b=>
   simp only
   cases o.op with
   | insert t m ix x=>
    simp only
    generalize insM env o = g1
    generalize env.get x = g2
    cases g1 with
    | none=>exact Le.bot _
    | some r=>
     cases g2 with
     | v y=>
      simp only [insK]
      cases freshB b σ[r]? with
      | true=>exact h _ _ _
      | false=>exact Le.bot _
     | _=>exact Le.bot _
   | _=>exact Le.bot _
 | some f=>
  simp only
  cases o.op with
  | call c=>
   simp only
   cases valsOf (c.args.toList.map env.get) with
   | none=>exact Le.bot _
   | some args=>exact pureK_le fun v=>asRes_le (k':=fun v=>k' (.v v) env σ) fun v=>h _ _ _
  | _=>exact Le.bot _
noncomputable def runDrT (P:Program) (lm:Nat) (call:Caller) (ops:Array Oper) (anc:List Nat) (k:Env → St → Out):Nat → List Oper → List (Nat × Oper × Cls) → Env → St → Out
 | _,[],_,env,σ=>k env σ
 | i,o :: r,acc,env,σ=>
  let c:=clsOf P lm env o
  let K:TV → Env → St → Out:=fun t env' σ'=>keepsK (keepsOf anc i (c.ran σ σ') acc) (runDrT P lm call ops anc k (i + 1) r (acc ++ [(i,o,c.ran σ σ')]) (env'.put o.dst t) σ')
  cond (drawOk lm ops anc i o r c acc && calmO P o)
   (apK (needsOf anc i c acc) (match o.guard with
   | none=>xopQT P lm call env σ o K (fun _ _ _=>none)
   | some (j,want)=>
    match (ops[j]?).bind (·.dst) with
    | some d=>match env.tmps.getD d .no with
     | .v (.bool b)=>
      cond b
       (let e:Env:={ env with tmps:=env.tmps.set d (.v (.bool true)) }
        cond want (xopQT P lm call e σ o K (fun _ _ _=>none)) (K (.v (.tuple [])) e σ))
       (let e:Env:={ env with tmps:=env.tmps.set d (.v (.bool false)) }
        cond want (K (.v (.tuple [])) e σ) (xopQT P lm call e σ o K (fun _ _ _=>none)))
     | .v (.tuple [])=>K (.v (.tuple [])) env σ
     | _=>none
    | none=>none))
   none
theorem runOpsT_le {ops:Array Oper} {k k':Env → St → Out} {kp:AV → Env → St → Out} (hk:∀ e s,Le (k e s) (k' e s)):∀ (l:List Oper) (env:Env) (σ:St),Le (runOpsT P lm call ops k kp l env σ) (runOps P lm call ops k' kp l env σ)
 | [],env,σ=>hk _ _
 | o :: r,env,σ=>by
  have ih:=runOpsT_le (ops:=ops) (kp:=kp) hk r
  unfold runOpsT runOps
  cases o.guard with
  | none=>exact xopDT_le (fun t e s=>ih _ _) fun _ _ _=>Le.refl _
  | some g=>
   obtain ⟨j,want⟩:=g
   simp only
   cases (ops[j]?).bind (·.dst) with
   | none=>exact Le.bot _
   | some d=>
    simp only
    generalize env.tmps.getD d .no = g
    cases g with
    | v y=>
     cases y with
     | bool b=>exact cond_le (cond_le (xopDT_le (fun t e s=>ih _ _) fun _ _ _=>Le.refl _) (ih _ _)) (cond_le (ih _ _) (xopDT_le (fun t e s=>ih _ _) fun _ _ _=>Le.refl _))
     | tuple l=>cases l <;> first | exact ih _ _ | exact Le.bot _
     | _=>exact Le.bot _
    | _=>exact Le.bot _
theorem apK_le {x y:Out} (h:Le x y):∀ l:List (Nat × Nat),Le (apK l x) (apK l y)
 | []=>h
 | (a,b) :: r=>by
  unfold apK
  split
  ·exact Le.bot _
  ·exact apK_le h r
theorem keepsK_le {x y:Out} (h:Le x y):∀ l:List (St × St × Nat),Le (keepsK l x) (keepsK l y)
 | []=>h
 | (s,s',b) :: r=>by
  unfold keepsK keepK
  split
  ·exact keepsK_le h r
  ·exact Le.bot _
theorem runDrT_le {ops:Array Oper} {anc:List Nat} {k k':Env → St → Out} (hk:∀ e s,Le (k e s) (k' e s)):∀ (l:List Oper) (i:Nat) (acc:List (Nat × Oper × Cls)) (env:Env) (σ:St),Le (runDrT P lm call ops anc k i l acc env σ) (runDr P lm call ops anc k' i l acc env σ)
 | [],i,acc,env,σ=>hk _ _
 | o :: r,i,acc,env,σ=>by
  have ih:=runDrT_le (ops:=ops) (anc:=anc) hk r
  have ihK (t:TV) (e:Env) (s:St):Le (keepsK (keepsOf anc i ((clsOf P lm env o).ran σ s) acc) (runDrT P lm call ops anc k (i + 1) r (acc ++ [(i,o,(clsOf P lm env o).ran σ s)]) (e.put o.dst t) s))
    (keepsK (keepsOf anc i ((clsOf P lm env o).ran σ s) acc) (runDr P lm call ops anc k' (i + 1) r (acc ++ [(i,o,(clsOf P lm env o).ran σ s)]) (e.put o.dst t) s)):=keepsK_le (ih _ _ _ _) _
  unfold runDrT runDr
  refine cond_le (apK_le ?_ _) (Le.bot _)
  cases o.guard with
  | none=>exact xopQT_le (fun t e s=>ihK _ _ _) fun _ _ _=>Le.refl _
  | some g=>
   obtain ⟨j,want⟩:=g
   simp only
   cases (ops[j]?).bind (·.dst) with
   | none=>exact Le.bot _
   | some d=>
    simp only
    generalize env.tmps.getD d .no = g
    cases g with
    | v y=>
     cases y with
     | bool b=>exact cond_le (cond_le (xopQT_le (fun t e s=>ihK _ _ _) fun _ _ _=>Le.refl _) (ihK _ _ _)) (cond_le (ihK _ _ _) (xopQT_le (fun t e s=>ihK _ _ _) fun _ _ _=>Le.refl _))
     | tuple l=>cases l <;> first | exact ihK _ _ _ | exact Le.bot _
     | _=>exact Le.bot _
    | _=>exact Le.bot _
abbrev Leaf:=List Nat → List Nat → Env → St → Out
noncomputable def runT (P:Program) (lm:Nat) (call:Caller) (n:Nat) (kp:AV → Env → St → Out) (L:Leaf) (stops:List (List Nat)):Code → List Nat → List Nat → Nat → (X → Env → St → Out) → Env → St → Out
 | .skip,_,_,_,k,env,σ=>k .normal env σ
 | .region _ ops draw,_,_,_,k,env,σ=>
  cond draw (cond (newFree lm ops.toList env.tmps && edgesBack ops) (runDrT P lm call ops (ancs ops) (k .normal) 0 ops.toList [] env σ) none) (runOpsT P lm call ops (k .normal) kp ops.toList env σ)
 | .seq a b,w,ms,live,k,env,σ=>runT P lm call n kp L stops a (w ++ [0]) ms (live ||| liveIn b) (fun x env σ=>match x with
  | .normal=>cond (stops.contains (w ++ [1])) (L (w ++ [1]) ms (cond (joins a) (env.clean (live ||| liveIn b)) env) σ) (runT P lm call n kp L stops b (w ++ [1]) ms live k (cond (joins a) (env.clean (live ||| liveIn b)) env) σ)
  | x=>k x env σ) env σ
 | .cond c a b,w,ms,live,k,env,σ=>match env.get c with
  | .v (.bool t)=>cond t (runT P lm call n kp L stops a (w ++ [0]) ms live k (env.know c true) σ) (runT P lm call n kp L stops b (w ++ [1]) ms live k (env.know c false) σ)
  | _=>none
 | .block id b,w,ms,live,k,env,σ=>runT P lm call n kp L stops b (w ++ [0]) ms live (fun x env σ=>match x with | .exit j=>if j = id then k .normal (env.clean live) σ else k (.exit j) env σ | x=>k x env σ) env σ
 | .loop b,w,ms,live,_,env,σ=>L w (ms ++ [n]) (env.clean (live ||| liveIn b)) σ
 | .exit id,_,_,_,k,env,σ=>k (.exit id) env σ
 | .ret,_,_,_,k,env,σ=>k .ret env σ
 | _,_,_,_,_,_,_=>none
noncomputable def descT (P:Program) (lm:Nat) (call:Caller) (n:Nat) (kp:AV → Env → St → Out) (L:Leaf) (stops:List (List Nat)):Code → List Nat → List Nat → List Nat → List Nat → Nat → (X → Env → St → Out) → Env → St → Out
 | .seq a b,0 :: p,w,ms,md,live,k,env,σ=>descT P lm call n kp L stops a p (w ++ [0]) ms md (live ||| liveIn b) (fun x env σ=>match x with
  | .normal=>cond (stops.contains (w ++ [1])) (L (w ++ [1]) md (cond (joins a) (env.clean (live ||| liveIn b)) env) σ) (runT P lm call n kp L stops b (w ++ [1]) md live k (cond (joins a) (env.clean (live ||| liveIn b)) env) σ)
  | x=>k x env σ) env σ
 | .seq _ b,1 :: p,w,ms,md,live,k,env,σ=>descT P lm call n kp L stops b p (w ++ [1]) ms md live k env σ
 | .cond _ a _,0 :: p,w,ms,md,live,k,env,σ=>descT P lm call n kp L stops a p (w ++ [0]) ms md live k env σ
 | .cond _ _ b,1 :: p,w,ms,md,live,k,env,σ=>descT P lm call n kp L stops b p (w ++ [1]) ms md live k env σ
 | .block id b,0 :: p,w,ms,md,live,k,env,σ=>descT P lm call n kp L stops b p (w ++ [0]) ms md live (fun x env σ=>match x with | .exit j=>if j = id then k .normal (env.clean live) σ else k (.exit j) env σ | x=>k x env σ) env σ
 | .loop b,0 :: p,w,m :: ms,md,live,k,env,σ=>descT P lm call n kp L stops b p (w ++ [0]) ms (md ++ [m]) (live ||| liveIn b)
   (fun x env' σ'=>match x with | .normal=>L w (md ++ [m]) (env'.clean (live ||| liveIn b)) σ' | x=>k x env' σ') env σ
 | .loop b,[],w,(m + 1) :: _,md,live,k,env,σ=>runT P lm call n kp L stops b (w ++ [0]) (md ++ [m]) (live ||| liveIn b)
   (fun x env' σ'=>match x with | .normal=>L w (md ++ [m]) (env'.clean (live ||| liveIn b)) σ' | x=>k x env' σ') env σ
 | c,[],w,[],md,live,k,env,σ=>runT P lm call n kp L stops c w md live k env σ
 | _,_,_,_,_,_,_,_,_=>none
theorem descend_nil {n:Nat} {kp:AV → Env → St → Out} (c:Code) (live:Nat) (k:X → Env → St → Out) (env:Env) (σ:St):descend P lm call n kp c [] [] live k env σ = run P lm call n kp c live k env σ:=by
 cases c <;> rfl
theorem seqK_le {n:Nat} {kp:AV → Env → St → Out} {L:Leaf} {stops:List (List Nat)} {a b:Code} {w ms:List Nat} {live:Nat} {k k':X → Env → St → Out} (hk:∀ x e s,Le (k x e s) (k' x e s))
  (hL:∀ env σ,Le (L (w ++ [1]) ms env σ) (run P lm call n kp b live k' env σ)) (hb:∀ env σ,Le (runT P lm call n kp L stops b (w ++ [1]) ms live k env σ) (run P lm call n kp b live k' env σ)) (x:X) (env:Env) (σ:St) :
  Le (match x with
   | .normal=>cond (stops.contains (w ++ [1])) (L (w ++ [1]) ms (cond (joins a) (env.clean (live ||| liveIn b)) env) σ) (runT P lm call n kp L stops b (w ++ [1]) ms live k (cond (joins a) (env.clean (live ||| liveIn b)) env) σ)
   | x=>k x env σ) (match x with | .normal=>run P lm call n kp b live k' (cond (joins a) (env.clean (live ||| liveIn b)) env) σ | x=>k' x env σ):=by
 cases x with
 | normal=>
  simp only
  cases stops.contains (w ++ [1])
  ·exact hb _ _
  ·exact hL _ _
 | _=>exact hk _ _ _
theorem blockK_le {id live:Nat} {k k':X → Env → St → Out} (hk:∀ x e s,Le (k x e s) (k' x e s)) (x:X) (env:Env) (σ:St) :
  Le (match x with | .exit j=>if j = id then k .normal (env.clean live) σ else k (.exit j) env σ | x=>k x env σ) (match x with | .exit j=>if j = id then k' .normal (env.clean live) σ else k' (.exit j) env σ | x=>k' x env σ):=by
 cases x with
 | exit j=>
  simp only
  split
  ·exact hk _ _ _
  ·exact hk _ _ _
 | _=>exact hk _ _ _
theorem runT_le {n:Nat} {kp:AV → Env → St → Out} {L:Leaf} {stops:List (List Nat)}:∀ (c:Code) (w ms:List Nat) (live:Nat) (k k':X → Env → St → Out) (env:Env) (σ:St),(∀ x e s,Le (k x e s) (k' x e s)) →
  (∀ p' ms' env σ,Le (L (w ++ p') (ms ++ ms') env σ) (descend P lm call n kp c p' ms' live k' env σ)) → Le (runT P lm call n kp L stops c w ms live k env σ) (run P lm call n kp c live k' env σ):=by
 intro c
 induction c with
 | skip=>intro w ms live k k' env σ hk _;exact hk _ _ _
 | region id ops draw=>
  intro w ms live k k' env σ hk hI
  unfold runT run
  refine cond_le (cond_le ?_ (Le.bot _)) ?_
  ·exact runDrT_le (fun e s=>hk _ _ _) _ _ _ _ _
  ·exact runOpsT_le (fun e s=>hk _ _ _) _ _ _
 | seq a b iha ihb=>
  intro w ms live k k' env σ hk hI
  have hb:∀ p' ms' env σ,Le (L (w ++ [1] ++ p') (ms ++ ms') env σ) (descend P lm call n kp b p' ms' live k' env σ):=by
   intro p' ms' env σ
   have:=hI (1 :: p') ms' env σ
   rw [List.append_assoc];exact this
  unfold runT run
  refine iha (w ++ [0]) ms _ _ _ env σ (fun x e s=>seqK_le hk (fun env σ=>?_) (fun env σ=>ihb _ _ _ _ _ _ _ hk hb) x e s) ?_
  ·have:=hb [] [] env σ
   rw [List.append_nil,List.append_nil,descend_nil] at this
   exact this
  ·intro p' ms' env σ
   have:=hI (0 :: p') ms' env σ
   rw [List.append_assoc];exact this
 | cond c a b iha ihb=>
  intro w ms live k k' env σ hk hI
  have ha:∀ p' ms' env σ,Le (L (w ++ [0] ++ p') (ms ++ ms') env σ) (descend P lm call n kp a p' ms' live k' env σ):=by
   intro p' ms' env σ
   have:=hI (0 :: p') ms' env σ
   rw [List.append_assoc];exact this
  have hb:∀ p' ms' env σ,Le (L (w ++ [1] ++ p') (ms ++ ms') env σ) (descend P lm call n kp b p' ms' live k' env σ):=by
   intro p' ms' env σ
   have:=hI (1 :: p') ms' env σ
   rw [List.append_assoc];exact this
  unfold runT run
  generalize env.get c = g
  cases g with
  | v y=>
   cases y with
   | bool t=>exact cond_le (iha _ _ _ _ _ _ _ hk ha) (ihb _ _ _ _ _ _ _ hk hb)
   | _=>exact Le.bot _
  | _=>exact Le.bot _
 | block id b ih=>
  intro w ms live k k' env σ hk hI
  unfold runT run
  refine ih (w ++ [0]) ms live _ _ env σ (fun x e s=>blockK_le hk x e s) ?_
  intro p' ms' env σ
  have:=hI (0 :: p') ms' env σ
  rw [List.append_assoc];exact this
 | loop b ih=>
  intro w ms live k k' env σ hk hI
  have:=hI [] [n] (env.clean (live ||| liveIn b)) σ
  rw [List.append_nil] at this
  unfold runT run
  exact this
 | exit id=>intro w ms live k k' env σ hk _;exact hk _ _ _
 | ret=>intro w ms live k k' env σ hk _;exact hk _ _ _
 | _=>intro w ms live k k' env σ _ _;exact Le.bot _
theorem descT_le {n:Nat} {kp:AV → Env → St → Out} {L:Leaf} {stops:List (List Nat)}:∀ (c:Code) (p w ms md:List Nat) (live:Nat) (k k':X → Env → St → Out) (env:Env) (σ:St),(∀ x e s,Le (k x e s) (k' x e s)) →
  (∀ p' ms' env σ,Le (L (w ++ p') (md ++ ms') env σ) (descend P lm call n kp c p' ms' live k' env σ)) →
  Le (descT P lm call n kp L stops c p w ms md live k env σ) (descend P lm call n kp c p ms live k' env σ):=by
 intro c
 induction c with
 | seq a b iha ihb=>
  intro p w ms md live k k' env σ hk hI
  have hb:∀ p' ms' env σ,Le (L (w ++ [1] ++ p') (md ++ ms') env σ) (descend P lm call n kp b p' ms' live k' env σ):=by
   intro p' ms' env σ
   have:=hI (1 :: p') ms' env σ
   rw [List.append_assoc];exact this
  cases p with
  | nil=>
   cases ms with
   | nil=>rw [descend_nil];exact runT_le _ w md live k k' env σ hk hI
   | cons m ms=>exact Le.bot _
  | cons i p=>
   match i with
   | 0=>
    refine iha p (w ++ [0]) ms md (live ||| liveIn b) _ _ env σ (fun x e s=>seqK_le hk (fun env σ=>?_) (fun env σ=>runT_le b _ _ _ _ _ _ _ hk hb) x e s) ?_
    ·have:=hb [] [] env σ
     rw [List.append_nil,List.append_nil,descend_nil] at this
     exact this
    ·intro p' ms' env σ
     have:=hI (0 :: p') ms' env σ
     rw [List.append_assoc];exact this
   | 1=>exact ihb p (w ++ [1]) ms md live k k' env σ hk hb
   | _ + 2=>exact Le.bot _
 | cond c a b iha ihb=>
  intro p w ms md live k k' env σ hk hI
  cases p with
  | nil=>
   cases ms with
   | nil=>rw [descend_nil];exact runT_le _ w md live k k' env σ hk hI
   | cons m ms=>exact Le.bot _
  | cons i p=>
   match i with
   | 0=>
    refine iha p (w ++ [0]) ms md live k k' env σ hk ?_
    intro p' ms' env σ
    have:=hI (0 :: p') ms' env σ
    rw [List.append_assoc];exact this
   | 1=>
    refine ihb p (w ++ [1]) ms md live k k' env σ hk ?_
    intro p' ms' env σ
    have:=hI (1 :: p') ms' env σ
    rw [List.append_assoc];exact this
   | _ + 2=>exact Le.bot _
 | block id b ih=>
  intro p w ms md live k k' env σ hk hI
  cases p with
  | nil=>
   cases ms with
   | nil=>rw [descend_nil];exact runT_le _ w md live k k' env σ hk hI
   | cons m ms=>exact Le.bot _
  | cons i p=>
   match i with
   | 0=>
    refine ih p (w ++ [0]) ms md live _ _ env σ (fun x e s=>blockK_le hk x e s) ?_
    intro p' ms' env σ
    have:=hI (0 :: p') ms' env σ
    rw [List.append_assoc];exact this
   | _ + 1=>exact Le.bot _
 | loop b ih=>
  intro p w ms md live k k' env σ hk hI
  have hkk:∀ (m:Nat) (x:X) (env:Env) (σ:St),Le (match x with | .normal=>L w (md ++ [m]) (env.clean (live ||| liveIn b)) σ | x=>k x env σ)
    (match x with | .normal=>loopK (live ||| liveIn b) (fun k env σ=>run P lm call n kp b (live ||| liveIn b) k env σ) k' m (env.clean (live ||| liveIn b)) σ | x=>k' x env σ):=by
   intro m x env σ
   cases x with
   | normal=>
    have:=hI [] [m] (env.clean (live ||| liveIn b)) σ
    rw [List.append_nil] at this
    exact this
   | _=>exact hk _ _ _
  have hb:∀ m p' ms' env σ,Le (L (w ++ [0] ++ p') (md ++ [m] ++ ms') env σ) (descend P lm call n kp (.loop b) (0 :: p') (m :: ms') live k' env σ):=by
   intro m p' ms' env σ
   have:=hI (0 :: p') (m :: ms') env σ
   rw [List.append_assoc,List.append_assoc];exact this
  cases p with
  | nil=>
   cases ms with
   | nil=>rw [descend_nil];exact runT_le _ w md live k k' env σ hk hI
   | cons m ms=>
    cases m with
    | zero=>exact Le.bot _
    | succ m=>exact runT_le b (w ++ [0]) (md ++ [m]) _ _ _ env σ (fun x e s=>hkk m x e s) (hb m)
  | cons i p=>
   match i with
   | 0=>
    cases ms with
    | nil=>exact Le.bot _
    | cons m ms=>exact ih p (w ++ [0]) ms (md ++ [m]) (live ||| liveIn b) _ _ env σ (fun x e s=>hkk m x e s) (hb m)
   | _ + 1=>exact Le.bot _
 | _=>
  intro p w ms md live k k' env σ hk hI
  cases p with
  | nil=>
   cases ms with
   | nil=>rw [descend_nil];exact runT_le _ w md live k k' env σ hk hI
   | cons m ms=>exact Le.bot _
  | cons i p=>exact Le.bot _
end
noncomputable def goT (P:Program) (B:Caller) (f:FuncId) (n:Nat) (L:Leaf) (stops:List (List Nat)) (p ms:List Nat) (env:Env) (σ:St):Out:=
 descT P (lmOf P f) (callP P B n) n (panE P B f n) L stops (bodyOf P f) p [] ms [] ((resOf P f).foldl (fun m r=>m ||| resBit r) 0) (endK P B f n) env σ
theorem goT_pt {P:Program} {B:Caller} {f:FuncId} {n:Nat} {stops:List (List Nat)} {p ms:List Nat} {env:Env} {σ:St} {x:Out} (h:goT P B f n (pt P B f n) stops p ms env σ = x):Le x (pt P B f n p ms env σ):=
 h ▸ descT_le _ _ _ _ _ _ _ _ _ _ (fun _ _ _=>Le.refl _) (fun _ _ _ _=>Le.refl _)
theorem callP_pt {P:Program} {B:Caller} {f:FuncId} {n:Nat} {args:List AV} {σ:St} {env:Env} (hB:B f args σ = none) (h:(match P.funcs[f]? with | some fn=>fn.body.isSome | none=>false) = true)
  (he:env = { tmps:=args.map .v ++ List.replicate (ntOf P f - args.length) .no,locs:=[],defs:=[] }):callP P B (n + 1) f args σ = pt P B f n [] [] env σ:=by
 subst he
 unfold pt
 rw [descend_nil]
 conv=>lhs;unfold callP
 rw [hB]
 dsimp only
 unfold bodyOf lmOf endK panE resOf ntOf
 cases hf:P.funcs[f]? with
 | none=>rw [hf] at h;cases h
 | some fn=>
  rw [hf] at h
  cases hb:fn.body with
  | none=>simp [hb] at h
  | some c=>simp only [hb,Option.getD];rfl
theorem goT_call {P:Program} {B:Caller} {f:FuncId} {n:Nat} {args:List AV} {stops:List (List Nat)} {env:Env} {σ:St} {x:Out} (h:goT P B f n (pt P B f n) stops [] [] env σ = x)
  (hB:B f args σ = none) (hf:(match P.funcs[f]? with | some fn=>fn.body.isSome | none=>false) = true) (he:env = { tmps:=args.map .v ++ List.replicate (ntOf P f - args.length) .no,locs:=[],defs:=[] }):Le x (callP P B (n + 1) f args σ):=by
 rw [callP_pt hB hf he];exact goT_pt h
def retD (P:Program) (f:FuncId):X → Env → St → Out:=endD P (resOf P f)
def entE (P:Program) (f:FuncId) (args:List AV):Env:={ tmps:=args.map .v ++ List.replicate (ntOf P f - args.length) .no,locs:=[],defs:=[] }
noncomputable def goD (P:Program) (B:Caller) (f:FuncId) (n:Nat) (args:List AV) (σ:St):Out:=
 runT P (lmOf P f) (callP P B n) n (fun _ _ _=>none) (fun _ _ _ _=>none) [] (bodyOf P f) [] [] ((resOf P f).foldl (fun m r=>m ||| resBit r) 0) (retD P f) (entE P f args) σ
noncomputable def goR (P:Program) (B:Caller) (f:FuncId) (n:Nat) (v:AV) (args:List AV) (σ:St):Out:=
 match recOf (bodyOf P f) with
 | some (ops,o,r,b)=>runOpsT P (lmOf P f) (callP P B n) ops (fun env σ=>runT P (lmOf P f) (callP P B n) n (fun _ _ _=>none) (fun _ _ _ _=>none) [] b [] [] ((resOf P f).foldl (fun m r=>m ||| resBit r) 0) (retD P f) env σ)
   (fun _ _ _=>none) r ((entE P f args).put o.dst (.v v)) σ
 | none=>none
theorem goD_run {P:Program} {B:Caller} {f:FuncId} {n:Nat} {args:List AV} {σ σ':St} {y:AV} (h:goD P B f n args σ = some (.ret y,σ')) (hf:(match P.funcs[f]? with | some fn=>fn.body.isSome | none=>false) = true)
  (hr:(recOf (bodyOf P f)).isNone = true) (u:Option AV):runD P (callP P B n) n f args u σ = some (u,σ'):=by
 have hle:=runT_le (P:=P) (lm:=lmOf P f) (call:=callP P B n) (n:=n) (kp:=fun _ _ _=>none) (L:=fun _ _ _ _=>none) (stops:=[]) (bodyOf P f) [] [] ((resOf P f).foldl (fun m r=>m ||| resBit r) 0) (retD P f) (retD P f) (entE P f args) σ (fun _ _ _=>Le.refl _) (fun _ _ _ _=>Le.bot _) _ h
 unfold runD
 unfold bodyOf lmOf resOf entE ntOf retD resOf at hle
 unfold bodyOf at hr
 cases hfn:P.funcs[f]? with
 | none=>rw [hfn] at hf;cases hf
 | some fn=>
  rw [hfn] at hf hle hr
  cases hb:fn.body with
  | none=>simp [hb] at hf
  | some c=>
   simp only [hb,Option.getD] at hle hr
   simp only [hb]
   cases hrc:recOf c with
   | some q=>rw [hrc] at hr;cases hr
   | none=>
    simp only
    unfold resLive entryE
    rw [hle]
theorem goR_run {P:Program} {B:Caller} {f:FuncId} {n:Nat} {args:List AV} {σ σ':St} {y:AV} {u:Option AV} (h:goR P B f n (u.getD .nilIface) args σ = some (.ret y,σ')):runD P (callP P B n) n f args u σ = some (none,σ'):=by
 unfold goR at h
 split at h
 ·rename_i ops o r b hrc
  have hle:=runOpsT_le (P:=P) (lm:=lmOf P f) (call:=callP P B n) (ops:=ops) (kp:=fun _ _ _=>none)
   (k':=fun env σ=>run P (lmOf P f) (callP P B n) n (fun _ _ _=>none) b ((resOf P f).foldl (fun m r=>m ||| resBit r) 0) (retD P f) env σ)
   (fun e s=>runT_le (P:=P) (lm:=lmOf P f) (call:=callP P B n) (n:=n) (kp:=fun _ _ _=>none) (L:=fun _ _ _ _=>none) (stops:=[]) b [] [] ((resOf P f).foldl (fun m r=>m ||| resBit r) 0) (retD P f) (retD P f) e s (fun _ _ _=>Le.refl _) (fun _ _ _ _=>Le.bot _)) r _ σ _ h
  unfold runD
  unfold bodyOf at hrc
  unfold lmOf resOf entE ntOf retD resOf at hle
  cases hfn:P.funcs[f]? with
  | none=>rw [hfn] at hrc;simp [recOf] at hrc
  | some fn=>
   rw [hfn] at hrc hle
   cases hb:fn.body with
   | none=>simp [hb,recOf] at hrc
   | some c=>
    simp only [hb,Option.getD] at hrc
    simp only [hb]
    rw [hrc]
    simp only
    unfold resLive entryE
    simp only at hle
    rw [hle]
 ·cases h
def tm:Nat → List (Nat × TV) → Nat → List TV
 | 0,_,_=>[]
 | n + 1,[],i=>.no :: tm n [] (i + 1)
 | n + 1,(j,t) :: r,i=>if j = i then t :: tm n r (i + 1) else .no :: tm n ((j,t) :: r) (i + 1)
end Go.AM

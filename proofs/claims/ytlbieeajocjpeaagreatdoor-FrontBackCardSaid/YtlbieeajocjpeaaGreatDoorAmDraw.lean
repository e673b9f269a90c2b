/- Regions that draw their order: carried out in the text's order, every other order comes to the same. -/
import Derived.Test.YtlbieeajocjpeaaGreatDoorAmOp5
import Derived.Tactics
set_option linter.unusedSimpArgs false
namespace Go.AM
open Go.RowKit
structure Delta where
 kill:Option Nat
 setl:Option (Nat × List AV)
 heap:Option St
 put:Option (Nat × AObj)
 ins:Option (Nat × Bool × AV)
def Delta.env (δ:Delta) (e:Env):Env where
 tmps:=match δ.kill with | some d=>e.tmps.map (killT d) | none=>e.tmps
 locs:=match δ.setl with | some (k,cs)=>setL e.locs k cs | none=>e.locs
 defs:=e.defs
def Delta.st (δ:Delta) (σ:St):St:=match δ.put with | some (b,o)=>σ.set b o | none=>match δ.ins with | some (r,b,v)=>modB σ r b v | none=>δ.heap.getD σ
def Delta.id:Delta:=⟨none,none,none,none,none⟩
structure Delta.ok (δ:Delta) (c:Cls) (new:List Nat):Prop where
 kill:∀ d,δ.kill = some d → d ∈ new
 setl:∀ k cs,δ.setl = some (k,cs) → k ∈ c.keys ∧ c.w = true
 heap:δ.heap.isSome = true → c.hp = 2 ∧ c.hb = none
 put:∀ b ob,δ.put = some (b,ob) → c.hp = 2 ∧ c.hb = some b
 ins:∀ r b v,δ.ins = some (r,b,v) → c.hp = 2 ∧ c.hb = some r ∧ c.ik = some b
 pik:∀ b ob,δ.put = some (b,ob) → c.ik = none
def SameAt (ik:Option Bool) (a b:Option AObj):Prop:=match ik with | none=>b = a | some k=>freshB k b = freshB k a
theorem SameAt.of_eq {ik:Option Bool} {a b:Option AObj} (h:b = a):SameAt ik a b:=by subst h;cases ik <;> exact rfl
theorem SameAt.symm {ik:Option Bool} {a b:Option AObj} (h:SameAt ik a b):SameAt ik b a:=by cases ik <;> exact Eq.symm h
theorem SameAt.trans {ik:Option Bool} {a b c:Option AObj} (h:SameAt ik a b) (g:SameAt ik b c):SameAt ik a c:=by cases ik <;> exact Eq.trans g h
structure Agree (o:Oper) (ops:Array Oper) (c:Cls) (e1:Env) (σ1:St) (e2:Env) (σ2:St):Prop where
 ops_:∀ x ∈ o.op.operands.toList,e2.get x = e1.get x
 guard:∀ j want d,o.guard = some (j,want) → (ops[j]?).bind (·.dst) = some d → e2.tmps.getD d .no = e1.tmps.getD d .no
 keys:∀ k ∈ c.keys,lookL e2.locs k = lookL e1.locs k
 heap:c.hp ≠ 0 → c.hb = none → σ2 = σ1
 blk:c.hp ≠ 0 → ∀ b,c.hb = some b → SameAt c.ik σ1[b]? σ2[b]?
theorem Agree.blkE {o:Oper} {ops:Array Oper} {c:Cls} {e1:Env} {σ1:St} {e2:Env} {σ2:St} (h:Agree o ops c e1 σ1 e2 σ2) (hk:c.ik = none) (h0:c.hp ≠ 0) (b:Nat) (hb:c.hb = some b):σ2[b]? = σ1[b]?:=by
 have:=h.blk h0 b hb
 rw [hk] at this
 exact this
def UnifX (P:Program) (lm:Nat) (call:Caller) (o:Oper) (ops:Array Oper) (c:Cls) (e:Env) (σ:St) (t:TV) (δ:Delta):Prop:=
 (∀ k,k ∈ keyOf t → k ∈ c.keys) ∧ δ.ok c (newKey lm o) ∧
 ∀ e2 σ2,Agree o ops c e σ e2 σ2 → ∀ k kp,xop P lm call e2 σ2 o k kp = k t (δ.env e2) (δ.st σ2)
section
variable {P:Program} {lm:Nat} {call:Caller} {o:Oper} {ops:Array Oper} {env:Env} {σ:St} {out:Res × St} {k:TV → Env → St → Out}
theorem mem_keys {x:Operand} {q:Nat} (hx:x ∈ o.op.operands.toList) (h:q ∈ keyOf (env.get x)):q ∈ (clsOf P lm env o).keys:=by
 simp only [clsOf,List.mem_append,List.mem_flatMap]
 exact .inl ⟨x,hx,h⟩
theorem mem_new {q:Nat} (h:q ∈ newKey lm o):q ∈ (clsOf P lm env o).keys:=by
 simp only [clsOf,List.mem_append]
 exact .inr h
theorem unif_val {x:AV} (h:∀ e2 σ2,Agree o ops (clsOf P lm env o) env σ e2 σ2 → ∀ k kp,xop P lm call e2 σ2 o k kp = k (.v x) e2 σ2):UnifX P lm call o ops (clsOf P lm env o) env σ (.v x) .id:=
 ⟨fun k hk=>by simp [keyOf] at hk,⟨fun d h=>(by cases h),fun k cs h=>(by cases h),fun h=>(by cases h),fun b ob h=>(by cases h),fun r kb v h=>(by cases h),fun b ob h=>(by cases h)⟩,h⟩
theorem unif_tv {t:TV} (ht:∀ k,k ∈ keyOf t → k ∈ (clsOf P lm env o).keys) (h:∀ e2 σ2,Agree o ops (clsOf P lm env o) env σ e2 σ2 → ∀ k kp,xop P lm call e2 σ2 o k kp = k t e2 σ2):UnifX P lm call o ops (clsOf P lm env o) env σ t .id:=
 ⟨ht,⟨fun d h=>(by cases h),fun k cs h=>(by cases h),fun h=>(by cases h),fun b ob h=>(by cases h),fun r kb v h=>(by cases h),fun b ob h=>(by cases h)⟩,h⟩
def GoesX (P:Program) (lm:Nat) (call:Caller) (o:Oper) (ops:Array Oper) (env:Env) (σ:St) (k:TV → Env → St → Out) (out:Res × St):Prop:=
 ∃ t δ,UnifX P lm call o ops (clsOf P lm env o) env σ t δ ∧ k t (δ.env env) (δ.st σ) = some out
theorem goes_val {x:AV} (h:∀ e2 σ2,Agree o ops (clsOf P lm env o) env σ e2 σ2 → ∀ k kp,xop P lm call e2 σ2 o k kp = k (.v x) e2 σ2) (hk:k (.v x) env σ = some out):GoesX P lm call o ops env σ k out:=
 ⟨_,_,unif_val h,hk⟩
theorem goes_tv {t:TV} (ht:∀ k,k ∈ keyOf t → k ∈ (clsOf P lm env o).keys) (h:∀ e2 σ2,Agree o ops (clsOf P lm env o) env σ e2 σ2 → ∀ k kp,xop P lm call e2 σ2 o k kp = k t e2 σ2) (hk:k t env σ = some out):GoesX P lm call o ops env σ k out:=
 ⟨_,_,unif_tv ht h,hk⟩
theorem partK_uni {t:TypeId} {cs:List AV} {off:Nat} {x:AV} (h:partO P t cs off = some x) (f:AV → Out):partK P t cs off f = f x:=by
 unfold partO at h
 unfold partK
 split at h
 ·split at h
  ·rename_i hl;cases h;rw [if_pos hl]
  ·cases h
 ·rw [h]
 ·cases h
theorem boundK_uni {x:Option TV} {d:Int} {f:Int → Out} (h:boundK x d f = some out):∃ n,f n = some out ∧ ∀ g:Int → Out,boundK x d g = g n:=by
 unfold boundK at h
 split at h
 ·obtain ⟨kx,n,rfl,hf⟩:=natK_some h
  exact ⟨n,hf,fun g=>rfl⟩
 ·exact ⟨d,h,fun g=>rfl⟩
theorem sliceK_uni {t:TypeId} {x:TV} {lo hi:Option TV} {f:AV → Out} (h:sliceK P t x lo hi f = some out):∃ y,f y = some out ∧ ∀ g:AV → Out,sliceK P t x lo hi g = g y:=by
 unfold sliceK at h
 split at h
 ·rename_i hu
  split at h
  ·obtain ⟨a,h,ha⟩:=boundK_uni h
   obtain ⟨b,h,hb⟩:=boundK_uni h
   split at h
   ·rename_i hc;exact ⟨_,h,fun g=>by unfold sliceK;simp only [hu,ha,hb,if_pos hc]⟩
   ·cases h
  ·cases h
 ·rename_i e hu
  split at h
  ·obtain ⟨a,h,ha⟩:=boundK_uni h
   obtain ⟨b,h,hb⟩:=boundK_uni h
   split at h
   ·rename_i hc;exact ⟨_,h,fun g=>by unfold sliceK;simp only [hu,ha,hb,if_pos hc]⟩
   ·cases h
  ·split at h
   ·rename_i hsz
    obtain ⟨a,h,ha⟩:=boundK_uni h
    obtain ⟨b,h,hb⟩:=boundK_uni h
    split at h
    ·rename_i hc;exact ⟨_,h,fun g=>by unfold sliceK;simp only [hu,if_pos hsz,ha,hb,if_pos hc]⟩
    ·cases h
   ·cases h
  ·cases h
 ·cases h
theorem binK_uni {op:BinOp} {t:TypeId} {x y:AV} {f:AV → Out} (h:binK P op t x y f = some out):∃ z,f z = some out ∧ ∀ g:AV → Out,binK P op t x y g = g z:=by
 unfold binK at h
 split at h
 ·split at h
  ·rename_i hc
   split at h
   ·rename_i r hr;exact ⟨r,h,fun g=>by unfold binK;simp only [if_pos hc,hr]⟩
   ·cases h
  ·cases h
 ·split at h
  ·rename_i r hr;exact ⟨r,h,fun g=>by unfold binK;simp only [hr]⟩
  ·cases h
 ·rename_i hn1 hn2
  split at h
  ·split at h
   ·rename_i hf
    split at h
    ·rename_i b hb
     refine ⟨_,h,fun g=>?_⟩
     unfold binK
     split
     ·exact absurd rfl (hn1 _ _ _ _ rfl)
     ·exact absurd rfl (hn2 _ _ rfl)
     ·simp only [if_pos hf,hb]
    ·cases h
   ·cases h
  ·split at h
   ·rename_i hf
    split at h
    ·rename_i b hb
     refine ⟨_,h,fun g=>?_⟩
     unfold binK
     split
     ·exact absurd rfl (hn1 _ _ _ _ rfl)
     ·exact absurd rfl (hn2 _ _ rfl)
     ·simp only [if_pos hf,hb]
    ·cases h
   ·cases h
  ·cases h
theorem unK_uni {op:UnOp} {x:AV} {f:AV → Out} (h:unK op x f = some out):∃ z,f z = some out ∧ ∀ g:AV → Out,unK op x g = g z:=by
 unfold unK at h
 split at h
 ·exact ⟨_,h,fun g=>rfl⟩
 ·exact ⟨_,h,fun g=>rfl⟩
 ·exact ⟨_,h,fun g=>rfl⟩
 ·cases h
theorem convK_uni {s d:TypeId} {x:AV} {f:AV → St → Out} (h:convK P s d σ x f = some out):∃ z,f z σ = some out ∧ ∀ g:AV → St → Out,convK P s d σ x g = g z σ:=by
 unfold convK at h
 split at h
 ·rename_i hus hud
  split at h
  ·exact ⟨_,h,fun g=>by unfold convK;simp only [hus,hud]⟩
  ·cases h
 ·rename_i e hus hud
  split at h
  ·rename_i hue
   split at h
   ·exact ⟨_,h,fun g=>by unfold convK;simp only [hus,hud,hue]⟩
   ·split at h
    ·rename_i cs hcs
     split at h
     ·rename_i hl
      split at h
      ·rename_i bs hbs;exact ⟨_,h,fun g=>by unfold convK;simp only [hus,hud,hue,hcs,if_pos hl,hbs]⟩
      ·cases h
     ·cases h
    ·cases h
   ·cases h
  ·cases h
 ·rename_i ds hne hus hud
  split at h
  ·exact ⟨_,h,fun g=>by unfold convK;simp only [hus,hud]⟩
  ·cases h
 ·cases h
theorem convK_free {s d:TypeId} {x:AV} {f:AV → St → Out} (hf:x.lone = true) (h:convK P s d σ x f = some out) :
  ∃ z,f z σ = some out ∧ ∀ (σ2:St) (g:AV → St → Out),convK P s d σ2 x g = g z σ2:=by
 unfold convK at h
 split at h
 ·rename_i hus hud
  split at h
  ·exact ⟨_,h,fun σ2 g=>by unfold convK;simp only [hus,hud]⟩
  ·cases h
 ·rename_i e hus hud
  split at h
  ·rename_i hue
   split at h
   ·cases hf
   ·cases hf
   ·cases h
  ·cases h
 ·rename_i ds hne hus hud
  split at h
  ·exact ⟨_,h,fun σ2 g=>by unfold convK;simp only [hus,hud]⟩
  ·cases h
 ·cases h
theorem srcK_uni {isStr:Bool} {size:Nat} {x:TV} {f:Nat → List AV → Out} (h:srcK isStr env σ size x f = some out) :
  ∃ n new,f n new = some out ∧ ∀ (e2:Env) (g:Nat → List AV → Out),(∀ q ∈ keyOf x,lookL e2.locs q = lookL env.locs q) → srcK isStr e2 σ size x g = g n new:=by
 unfold srcK at h
 split at h
 ·rename_i key n
  split at h
  ·rename_i cs hcs
   split at h
   ·rename_i hn;exact ⟨_,_,h,fun e2 g hg=>by unfold srcK;simp only [hg key (by simp [keyOf]),hcs,if_pos hn]⟩
   ·cases h
  ·cases h
 ·split at h
  ·rename_i hs;exact ⟨_,_,h,fun e2 g hg=>by unfold srcK;simp only [if_pos hs]⟩
  ·cases h
 ·exact ⟨_,_,h,fun e2 g hg=>by unfold srcK;rfl⟩
 ·split at h
  ·rename_i hs
   split at h
   ·rename_i cs hcs
    split at h
    ·rename_i hl;exact ⟨_,_,h,fun e2 g hg=>by unfold srcK;simp only [if_pos hs,hcs,if_pos hl]⟩
    ·cases h
   ·cases h
  ·cases h
 ·cases h
theorem appendK_uni {isStr:Bool} {e:TypeId} {size bytes:Nat} {s x:TV} {f:AV → St → Out} (h:appendK isStr e size bytes env σ s x f = some out) :
  ∃ z σ',f z σ' = some out ∧ ∀ (e2:Env) (g:AV → St → Out),(∀ q ∈ keyOf x,lookL e2.locs q = lookL env.locs q) → appendK isStr e size bytes e2 σ s x g = g z σ':=by
 unfold appendK at h
 obtain ⟨n,new,h,hs⟩:=srcK_uni h
 split at h
 ·split at h
  ·rename_i hn;exact ⟨_,_,h,fun e2 g hg=>by unfold appendK;rw [hs e2 _ hg];simp only [if_pos hn]⟩
  ·rename_i hn
   split at h
   ·rename_i hf;exact ⟨_,_,h,fun e2 g hg=>by unfold appendK;rw [hs e2 _ hg];simp only [if_neg hn,if_pos hf]⟩
   ·cases h
 ·split at h
  ·rename_i hsz
   split at h
   ·rename_i cs hcs
    split at h
    ·rename_i hl
     split at h
     ·rename_i hf;exact ⟨_,_,h,fun e2 g hg=>by unfold appendK;rw [hs e2 _ hg];simp only [if_pos hsz,hcs,if_pos hl,if_pos hf]⟩
     ·cases h
    ·cases h
   ·cases h
  ·cases h
 ·cases h
theorem copyK_uni {isStr:Bool} {size:Nat} {d x:TV} {f:Int → St → Out} (h:copyK isStr env σ size d x f = some out) :
  ∃ z σ',f z σ' = some out ∧ ∀ (e2:Env) (g:Int → St → Out),(∀ q ∈ keyOf x,lookL e2.locs q = lookL env.locs q) → copyK isStr e2 σ size d x g = g z σ':=by
 unfold copyK at h
 obtain ⟨n,new,h,hs⟩:=srcK_uni h
 split at h
 ·exact ⟨_,_,h,fun e2 g hg=>by unfold copyK;rw [hs e2 _ hg]⟩
 ·split at h
  ·rename_i hsz
   split at h
   ·rename_i cs t hcs
    split at h
    ·rename_i hl
     exact ⟨_,_,h,fun e2 g hg=>by unfold copyK;rw [hs e2 _ hg];simp only [if_pos hsz,hcs,if_pos hl]⟩
    ·cases h
   ·cases h
  ·cases h
 ·cases h
theorem agree_get {x:Operand} {c:Cls} {e2:Env} {σ2:St} (h:Agree o ops c env σ e2 σ2) (hx:x ∈ o.op.operands.toList):e2.get x = env.get x:=h.ops_ x hx
theorem boxK_goes {t:TypeId} {cs:List AV} {loc:Bool} (hloc:loc = (match o.dst with | some d=>lm.testBit d | none=>false)) (hnew:newKey lm o = (match o.dst with | some d=>if lm.testBit d then [d] else [] | none=>[]))
  (hhp:heapUse P lm env o = if (newKey lm o).isEmpty then 2 else 0) (hbn:(clsOf P lm env o).hb = none) (hw:(clsOf P lm env o).w = !(newKey lm o).isEmpty)
  (h:∀ e2 σ2,Agree o ops (clsOf P lm env o) env σ e2 σ2 → ∀ k kp,xop P lm call e2 σ2 o k kp = boxK t loc o.dst e2 σ2 cs k) (hk:boxK t loc o.dst env σ cs k = some out):GoesX P lm call o ops env σ k out:=by
 unfold boxK at hk
 split at hk
 ·rename_i hone
  cases hd:o.dst with
  | none=>
   rw [hd] at hk hnew hloc
   simp only at hk hnew hloc
   subst hloc
   have h2:(clsOf P lm env o).hp = 2:=by show heapUse P lm env o = 2;rw [hhp,hnew];rfl
   refine ⟨_,⟨none,none,some (σ ++ [.cells cs (.rw _)]),none,none⟩,⟨fun q hq=>by simp [keyOf] at hq,⟨fun d h=>(by cases h),fun k cs h=>(by cases h),fun _=>⟨h2,hbn⟩,fun b ob h=>(by cases h),fun r kb v h=>(by cases h),fun b ob h=>(by cases h)⟩,fun e2 σ2 hag k kp=>?_⟩,hk⟩
   rw [h e2 σ2 hag k kp,hag.heap (by rw [h2];decide) hbn]
   unfold boxK;rw [if_pos hone,hd];rfl
  | some d=>
   rw [hd] at hk hnew hloc
   simp only at hnew hloc
   cases hb:lm.testBit d with
   | true=>
    rw [hb] at hloc hnew
    simp only [if_true] at hnew
    subst hloc
    simp only at hk
    have hdk:d ∈ (clsOf P lm env o).keys:=mem_new (by rw [hnew];simp)
    refine ⟨.lp d 0,⟨some d,some (d,cs),none,none,none⟩,⟨fun q hq=>by simp [keyOf] at hq;rw [hq];exact hdk,⟨fun d' h=>by cases h;rw [hnew];simp,fun k cs h=>by cases h;exact ⟨hdk,by rw [hw,hnew];rfl⟩,(fun h=>by cases h),(fun b ob h=>by cases h),fun r kb v h=>(by cases h),fun b ob h=>(by cases h)⟩,fun e2 σ2 hag k kp=>?_⟩,hk⟩
    rw [h e2 σ2 hag k kp]
    unfold boxK;rw [if_pos hone,hd];rfl
   | false=>
    rw [hb] at hloc hnew
    simp only [Bool.false_eq_true,if_false] at hnew
    subst hloc
    simp only at hk
    have h2:(clsOf P lm env o).hp = 2:=by show heapUse P lm env o = 2;rw [hhp,hnew];rfl
    refine ⟨_,⟨none,none,some (σ ++ [.cells cs (.rw _)]),none,none⟩,⟨fun q hq=>by simp [keyOf] at hq,⟨fun d h=>(by cases h),fun k cs h=>(by cases h),fun _=>⟨h2,hbn⟩,fun b ob h=>(by cases h),fun r kb v h=>(by cases h),fun b ob h=>(by cases h)⟩,fun e2 σ2 hag k kp=>?_⟩,hk⟩
    rw [h e2 σ2 hag k kp,hag.heap (by rw [h2];decide) hbn]
    unfold boxK;rw [if_pos hone,hd];rfl
 ·cases hk
theorem map_get_congr {l:List Operand} {e2:Env} (h:∀ x ∈ l,e2.get x = env.get x):l.map e2.get = l.map env.get:=List.map_congr_left h
theorem assertK_uni {x:TV} {ty:TypeId} {ok:Bool} {k:AV → Out} {out:Res × St} (h:assertK P x ty ok k = some out):∃ y,(∀ k,assertK P x ty ok k = k y) ∧ k y = some out:=by
 unfold assertK at h
 split at h
 ·cases h
 ·rename_i d hn hu
  have red:∀ k,assertK P x ty ok k = assertV P x ty ok k:=by
   intro k
   unfold assertK
   split
   ·rename_i ms e;exact absurd (hu.symm.trans e) (fun h=>hn ms (by simpa using h))
   ·rfl
   ·rename_i e;rw [e] at hu;cases hu
  simp only [red]
  unfold assertV at h ⊢
  split at h
  ·cases ok
   ·cases h
   ·simp only [cond] at h ⊢
    split at h
    ·rename_i z hz;exact ⟨_,fun k=>by simp only [hz],h⟩
    ·cases h
  ·split at h
   ·rename_i ht;exact ⟨_,fun k=>by simp only [if_pos ht],h⟩
   ·rename_i ht
    cases ok
    ·cases h
    ·simp only [cond] at h ⊢
     split at h
     ·rename_i z hz;exact ⟨_,fun k=>by simp only [if_neg ht,hz],h⟩
     ·cases h
  ·cases h
 ·cases h
theorem lookK_uni {kt et:TypeId} {m:TV} {key:AV} {f:AV → Bool → Out} (h:lookK P kt et σ m key f = some out) :
  ∃ v c,f v c = some out ∧ ∀ σ2:St,(∀ b,m = .v (.map (some b)) → σ2[b]? = σ[b]?) → ∀ g,lookK P kt et σ2 m key g = g v c:=by
 unfold lookK at h
 split at h
 ·rename_i hs
  split at h
  ·split at h
   ·rename_i z hz
    exact ⟨z,false,h,fun σ2 _ g=>by unfold lookK;rw [if_pos hs];simp only [hz]⟩
   ·cases h
  ·rename_i b
   split at h
   ·rename_i es hes
    split at h
    ·rename_i j v hf
     exact ⟨v,true,h,fun σ2 hq g=>by unfold lookK;rw [if_pos hs];simp only [hq b rfl,hes,hf]⟩
    ·rename_i hf
     split at h
     ·rename_i z hz
      exact ⟨z,false,h,fun σ2 hq g=>by unfold lookK;rw [if_pos hs];simp only [hq b rfl,hes,hf,hz]⟩
     ·cases h
    ·cases h
   ·cases h
  ·cases h
 ·cases h
theorem xop_goesX (hin:insQ P o = none) (hpu:pureOf P o = none) (hcalm:calmO P o = true) (hx:xop P lm call env σ o k (fun _ _ _=>none) = some out):GoesX P lm call o ops env σ k out:=by
 cases ho:o.op with
 | move x=>
  simp only [xop,ho] at hx
  have hm:x ∈ o.op.operands.toList:=by simp [ho,Op.operands]
  exact goes_tv (fun q hq=>mem_keys hm hq) (fun e2 σ2 h k kp=>by simp only [xop,ho,agree_get h hm]) hx
 | assign x=>
  simp only [xop,ho] at hx
  have hm:x ∈ o.op.operands.toList:=by simp [ho,Op.operands]
  exact goes_tv (fun q hq=>mem_keys hm hq) (fun e2 σ2 h k kp=>by simp only [xop,ho,agree_get h hm]) hx
 | pick c x y=>
  simp only [xop,ho] at hx
  have hc:c ∈ o.op.operands.toList:=by simp [ho,Op.operands]
  have hm:x ∈ o.op.operands.toList:=by simp [ho,Op.operands]
  have hy:y ∈ o.op.operands.toList:=by simp [ho,Op.operands]
  split at hx
  ·rename_i t ht
   cases t
   ·exact goes_tv (fun q hq=>mem_keys hy hq) (fun e2 σ2 h k kp=>by simp only [xop,ho,agree_get h hc,agree_get h hy,ht,cond]) hx
   ·exact goes_tv (fun q hq=>mem_keys hm hq) (fun e2 σ2 h k kp=>by simp only [xop,ho,agree_get h hc,agree_get h hm,ht,cond]) hx
  ·cases hx
 | alloc t=>
  simp only [xop,ho] at hx
  split at hx
  ·rename_i z hz
   exact boxK_goes rfl (by simp only [newKey,ho];rfl) (by simp [heapUse,heapUse0,hpu,hin,ho]) (by simp [clsOf,hbOf,hbOf0,hpu,hin,ho]) (by simp [clsOf,ho]) (fun e2 σ2 h k kp=>by simp only [xop,ho,hz];rfl) hx
  ·cases hx
 | box t x=>
  simp only [xop,ho] at hx
  have hm:x ∈ o.op.operands.toList:=by simp [ho,Op.operands]
  split at hx
  ·rename_i y hy
   exact boxK_goes rfl (by simp only [newKey,ho];rfl) (by simp [heapUse,heapUse0,hpu,hin,ho]) (by simp [clsOf,hbOf,hbOf0,hpu,hin,ho]) (by simp [clsOf,ho]) (fun e2 σ2 h k kp=>by simp only [xop,ho,agree_get h hm,hy];rfl) hx
  ·cases hx
 | build t parts=>
  simp only [xop,ho] at hx
  have hm (p:Nat × Operand) (hp:p ∈ parts.toList):p.2 ∈ o.op.operands.toList:=by
   simp only [ho,Op.operands];exact List.mem_map.2 ⟨p,hp,rfl⟩
  have hcg (e2:Env) (h:∀ x ∈ o.op.operands.toList,e2.get x = env.get x):(parts.toList.map fun p=>(p.1,e2.get p.2)) = parts.toList.map fun p=>(p.1,env.get p.2):=
   List.map_congr_left fun p hp=>by rw [h _ (hm p hp)]
  split at hx
  ·rename_i x hb
   exact goes_val (fun e2 σ2 h k kp=>by simp only [xop,ho,hcg e2 h.ops_,hb]) hx
  ·cases hx
 | buildSlice t n parts=>
  simp only [xop,ho] at hx
  have hm (p:Nat × Operand) (hp:p ∈ parts.toList):p.2 ∈ o.op.operands.toList:=by
   simp only [ho,Op.operands];exact List.mem_map.2 ⟨p,hp,rfl⟩
  have hcg (e2:Env) (h:∀ x ∈ o.op.operands.toList,e2.get x = env.get x):(parts.toList.map fun p=>(p.1,e2.get p.2)) = parts.toList.map fun p=>(p.1,env.get p.2):=
   List.map_congr_left fun p hp=>by rw [h _ (hm p hp)]
  have hw:(clsOf P lm env o).w = !(newKey lm o).isEmpty:=by simp [clsOf,ho]
  have hhp:heapUse P lm env o = if (newKey lm o).isEmpty then 2 else 0:=by simp [heapUse,heapUse0,hpu,hin,ho]
  have hnew:newKey lm o = (match o.dst with | some d=>if lm.testBit d then [d] else [] | none=>[]):=by simp only [newKey,ho];rfl
  split at hx
  ·rename_i e hu
   split at hx
   ·rename_i z hz
    split at hx
    ·rename_i hc
     split at hx
     ·rename_i cs hf
      split at hx
      ·rename_i hone
       have hrun (e2:Env) (σ2:St) (h:Agree o ops (clsOf P lm env o) env σ e2 σ2) (k:TV → Env → St → Out) (kp:AV → Env → St → Out):xop P lm call e2 σ2 o k kp =
         (match (match o.dst with | some d=>lm.testBit d | none=>false),o.dst with
         | true,some d=>k (.ls d n) (e2.newL d cs) σ2
         | _,_=>k (.v (.slice (some (σ2.length,0)) n (some n) (szOf P e))) e2 (σ2 ++ [.cells cs (.rw (.row e))])):=by
        simp only [xop,ho,hcg e2 h.ops_,hu,hz,if_pos hc,hf,if_pos hone];rfl
       have hbn:(clsOf P lm env o).hb = none:=by simp [clsOf,hbOf,hbOf0,hpu,hin,ho]
       cases hd:o.dst with
       | none=>
        rw [hd] at hx hnew hrun
        simp only at hx hnew hrun
        have h2:(clsOf P lm env o).hp = 2:=by show heapUse P lm env o = 2;rw [hhp,hnew];rfl
        refine ⟨_,⟨none,none,some (σ ++ [.cells cs (.rw _)]),none,none⟩,⟨fun q hq=>by simp [keyOf] at hq,⟨fun d h=>(by cases h),fun k cs h=>(by cases h),fun _=>⟨h2,hbn⟩,fun b ob h=>(by cases h),fun r kb v h=>(by cases h),fun b ob h=>(by cases h)⟩,fun e2 σ2 hag k kp=>?_⟩,hx⟩
        rw [hrun e2 σ2 hag k kp,hag.heap (by rw [h2];decide) hbn];rfl
       | some d=>
        rw [hd] at hx hnew hrun
        simp only at hx hnew hrun
        cases hb:lm.testBit d with
        | true=>
         rw [hb] at hx hnew hrun
         simp only [if_true] at hnew hx hrun
         have hdk:d ∈ (clsOf P lm env o).keys:=mem_new (by rw [hnew];simp)
         refine ⟨.ls d n,⟨some d,some (d,cs),none,none,none⟩,⟨fun q hq=>by simp [keyOf] at hq;rw [hq];exact hdk,⟨fun d' h=>by cases h;rw [hnew];simp,fun k cs h=>by cases h;exact ⟨hdk,by rw [hw,hnew];rfl⟩,(fun h=>by cases h),(fun b ob h=>by cases h),fun r kb v h=>(by cases h),fun b ob h=>(by cases h)⟩,fun e2 σ2 hag k kp=>?_⟩,hx⟩
         rw [hrun e2 σ2 hag k kp];rfl
        | false=>
         rw [hb] at hx hnew hrun
         simp only [Bool.false_eq_true,if_false] at hnew hx hrun
         have h2:(clsOf P lm env o).hp = 2:=by show heapUse P lm env o = 2;rw [hhp,hnew];rfl
         refine ⟨_,⟨none,none,some (σ ++ [.cells cs (.rw _)]),none,none⟩,⟨fun q hq=>by simp [keyOf] at hq,⟨fun d h=>(by cases h),fun k cs h=>(by cases h),fun _=>⟨h2,hbn⟩,fun b ob h=>(by cases h),fun r kb v h=>(by cases h),fun b ob h=>(by cases h)⟩,fun e2 σ2 hag k kp=>?_⟩,hx⟩
         rw [hrun e2 σ2 hag k kp,hag.heap (by rw [h2];decide) hbn];rfl
      ·cases hx
     ·cases hx
    ·cases hx
   ·cases hx
  ·cases hx
 | load t x=>
  simp only [xop,ho] at hx
  have hm:x ∈ o.op.operands.toList:=by simp [ho,Op.operands]
  unfold loadK at hx
  split at hx
  ·rename_i key off hp
   split at hx
   ·rename_i cs hcs
    obtain ⟨y,hy,hx⟩:=partK_some hx
    exact goes_val (fun e2 σ2 h k kp=>by
     have hl:=h.keys key (mem_keys hm (by rw [hp];simp [keyOf]))
     simp only [xop,ho,agree_get h hm,hp,loadK,hl,hcs,partK_uni hy]) hx
   ·cases hx
  ·rename_i b off hp
   split at hx
   ·rename_i cs hcs
    obtain ⟨y,hy,hx⟩:=partK_some hx
    exact goes_val (fun e2 σ2 h k kp=>by
     have hh:=h.blkE (by simp [clsOf,ikOf,hpu,hin]) (by show heapUse P lm env o ≠ 0;simp [heapUse,heapUse0,hpu,hin,ho,hp]) b (by simp [clsOf,hbOf,hbOf0,hpu,hin,ho,hp])
     have hc2:cellsAt σ2 b = some cs:=by unfold cellsAt at hcs ⊢;rw [hh];exact hcs
     simp only [xop,ho,agree_get h hm,hp,loadK,hc2,partK_uni hy]) hx
   ·cases hx
  ·rename_i g off hp
   unfold globK at hx
   split at hx
   ·rename_i g' cs hcs
    split at hx
    ·rename_i hg
     obtain ⟨y,hy,hx⟩:=partK_some hx
     exact goes_val (fun e2 σ2 h k kp=>by
      have hh:=h.heap (by show heapUse P lm env o ≠ 0;simp [heapUse,heapUse0,hpu,hin,ho,hp]) (by simp [clsOf,hbOf,hbOf0,hpu,hin,ho,hp])
      simp only [xop,ho,agree_get h hm,hp,loadK,globK,hh,hcs,if_pos hg,partK_uni hy]) hx
    ·cases hx
   ·cases hx
  ·cases hx
 | store t x y=>
  simp only [xop,ho] at hx
  have hm:x ∈ o.op.operands.toList:=by simp [ho,Op.operands]
  have hm2:y ∈ o.op.operands.toList:=by simp [ho,Op.operands]
  unfold storeK at hx
  split at hx
  ·rename_i z hz
   split at hx
   ·rename_i hsz
    split at hx
    ·rename_i hone
     split at hx
     ·rename_i key off hp
      have hkey:key ∈ (clsOf P lm env o).keys:=mem_keys hm (by rw [hp];simp [keyOf])
      split at hx
      ·rename_i cs hcs
       split at hx
       ·rename_i hl
        refine ⟨.no,⟨none,some (key,setMany cs off z.cells),none,none,none⟩,⟨fun q hq=>by simp [keyOf] at hq,⟨fun d h=>(by cases h),fun k cs h=>by cases h;exact ⟨hkey,by simp [clsOf,ho,hp]⟩,fun h=>(by cases h),fun b ob h=>(by cases h),fun r kb v h=>(by cases h),fun b ob h=>(by cases h)⟩,fun e2 σ2 h k kp=>?_⟩,hx⟩
        have hlk:=h.keys key hkey
        simp only [xop,ho,agree_get h hm,agree_get h hm2,hp,hz,storeK,if_pos hsz,if_pos hone,hlk,hcs,if_pos hl]
        rfl
       ·cases hx
      ·cases hx
     ·rename_i b off hp
      split at hx
      ·rename_i cs wt hcs
       split at hx
       ·rename_i hl
        have h2:(clsOf P lm env o).hp = 2:=by show heapUse P lm env o = 2;simp [heapUse,heapUse0,hpu,hin,ho,hp]
        have hb2:(clsOf P lm env o).hb = some b:=by simp [clsOf,hbOf,hbOf0,hpu,hin,ho,hp]
        refine ⟨.no,⟨none,none,none,some (b,.cells (setMany cs off z.cells) (.rw _)),none⟩,⟨fun q hq=>by simp [keyOf] at hq,⟨fun d h=>(by cases h),fun k cs h=>(by cases h),fun h=>(by cases h),(fun b' ob h=>by cases h;exact ⟨h2,hb2⟩),fun r kb v h=>(by cases h),fun b' ob h=>by simp [clsOf,ikOf,hpu,hin]⟩,fun e2 σ2 h k kp=>?_⟩,hx⟩
        have hh:=h.blkE (by simp [clsOf,ikOf,hpu,hin]) (by rw [h2];decide) b hb2
        simp only [xop,ho,agree_get h hm,agree_get h hm2,hp,hz,storeK,if_pos hsz,if_pos hone,hh,hcs,if_pos hl]
        rfl
       ·cases hx
      ·cases hx
     ·cases hx
    ·cases hx
   ·cases hx
  ·cases hx
 | nilCheck x=>
  simp only [xop,ho] at hx
  have hm:x ∈ o.op.operands.toList:=by simp [ho,Op.operands]
  split at hx
  ·rename_i key off hp
   exact goes_tv (fun q hq=>mem_keys hm (by rw [hp];exact hq)) (fun e2 σ2 h k kp=>by simp only [xop,ho,agree_get h hm,hp]) hx
  ·rename_i g off hp
   exact goes_tv (fun q hq=>by simp [keyOf] at hq) (fun e2 σ2 h k kp=>by simp only [xop,ho,agree_get h hm,hp]) hx
  ·rename_i ad hp;exact goes_val (fun e2 σ2 h k kp=>by simp only [xop,ho,agree_get h hm,hp]) hx
  ·rename_i f l c hp;exact goes_val (fun e2 σ2 h k kp=>by simp only [xop,ho,agree_get h hm,hp]) hx
  ·cases hx
 | binOp op t x y t2=>
  simp only [xop,ho] at hx
  have hm:x ∈ o.op.operands.toList:=by simp [ho,Op.operands]
  have hm2:y ∈ o.op.operands.toList:=by simp [ho,Op.operands]
  split at hx
  ·rename_i p hp
   split at hx
   ·rename_i q hq
    have hn:nilOk x y p q = true:=by
     cases hn:nilOk x y p q with
     | true=>rfl
     | false=>rw [hn] at hx;cases hx
    rw [hn] at hx
    obtain ⟨z,hx,hz⟩:=binK_uni hx
    exact goes_val (fun e2 σ2 h k kp=>by simp only [xop,ho,agree_get h hm,agree_get h hm2,hp,hq,hn,cond,hz]) hx
   ·cases hx
  ·cases hx
 | unOp op t x=>
  simp only [xop,ho] at hx
  have hm:x ∈ o.op.operands.toList:=by simp [ho,Op.operands]
  split at hx
  ·rename_i p hp
   obtain ⟨z,hx,hz⟩:=unK_uni hx
   exact goes_val (fun e2 σ2 h k kp=>by simp only [xop,ho,agree_get h hm,hp,hz]) hx
  ·cases hx
 | convert s d x=>
  have hs:isS2b P s d = none:=by simpa [calmO,ho] using hcalm
  simp only [xop,ho,hs] at hx
  have hm:x ∈ o.op.operands.toList:=by simp [ho,Op.operands]
  split at hx
  ·rename_i p hp
   by_cases hfree:p.lone = true
   ·obtain ⟨z,hx,hz⟩:=convK_free hfree hx
    exact goes_val (fun e2 σ2 h k kp=>by simp only [xop,ho,hs,agree_get h hm,hp,hz]) hx
   ·obtain ⟨z,hx,hz⟩:=convK_uni hx
    exact goes_val (fun e2 σ2 h k kp=>by
     have hh:=h.heap (by
      show heapUse P lm env o ≠ 0
      simp only [heapUse,heapUse0,hpu,hin,ho,hp,if_neg hfree]
      decide) (by simp [clsOf,hbOf,hbOf0,hpu,hin,ho])
     simp only [xop,ho,hs,agree_get h hm,hp,hh,hz]) hx
  ·cases hx
 | makeFunc fn first captured=>
  simp only [xop,ho] at hx
  have h1 (e2:Env) (h:∀ x ∈ o.op.operands.toList,e2.get x = env.get x):first.toList.map e2.get = first.toList.map env.get:=
   map_get_congr fun x hx=>h x (by simp only [ho,Op.operands,Array.toList_append,List.mem_append];exact .inl hx)
  have h2 (e2:Env) (h:∀ x ∈ o.op.operands.toList,e2.get x = env.get x):captured.toList.map e2.get = captured.toList.map env.get:=
   map_get_congr fun x hx=>h x (by simp only [ho,Op.operands,Array.toList_append,List.mem_append];exact .inr hx)
  split at hx
  ·split at hx
   ·rename_i l hl
    split at hx
    ·rename_i c hc
     exact goes_val (fun e2 σ2 h k kp=>by simp only [xop,ho,h1 e2 h.ops_,h2 e2 h.ops_,hl,hc]) hx
    ·cases hx
   ·cases hx
  ·cases hx
 | makeSlice t l c=>simp [calmO,ho] at hcalm
 | range t x=>simp [calmO,ho] at hcalm
 | next it s=>simp [calmO,ho] at hcalm
 | slice t x lo hi mx=>
  cases mx with
  | some m=>simp only [xop,ho] at hx;cases hx
  | none=>
   have hs:isArrSl P t = none:=by simpa [calmO,ho] using hcalm
   simp only [xop,ho,hs] at hx
   have hm:x ∈ o.op.operands.toList:=by simp [ho,Op.operands]
   have hlo (e2:Env) (h:∀ x ∈ o.op.operands.toList,e2.get x = env.get x):lo.map e2.get = lo.map env.get:=by
    cases lo with
    | none=>rfl
    | some l=>simp only [Option.map_some];rw [h l (by simp [ho,Op.operands])]
   have hhi (e2:Env) (h:∀ x ∈ o.op.operands.toList,e2.get x = env.get x):hi.map e2.get = hi.map env.get:=by
    cases hi with
    | none=>rfl
    | some l=>simp only [Option.map_some];rw [h l (by simp [ho,Op.operands])]
   obtain ⟨z,hx,hz⟩:=sliceK_uni hx
   exact goes_val (fun e2 σ2 h k kp=>by simp only [xop,ho,hs,agree_get h hm,hlo e2 h.ops_,hhi e2 h.ops_,hz]) hx
 | fieldAddr s x f=>
  simp only [xop,ho] at hx
  have hm:x ∈ o.op.operands.toList:=by simp [ho,Op.operands]
  split at hx
  ·rename_i fl hf
   split at hx
   ·cases hx
   ·rename_i hs
    split at hx
    ·rename_i key off hp
     exact goes_tv (fun q hq=>mem_keys hm (by rw [hp];exact hq)) (fun e2 σ2 h k kp=>by simp only [xop,ho,agree_get h hm,hp,hf,if_neg hs]) hx
    ·rename_i g off hp
     exact goes_tv (fun q hq=>by simp [keyOf] at hq) (fun e2 σ2 h k kp=>by simp only [xop,ho,agree_get h hm,hp,hf,if_neg hs]) hx
    ·rename_i b off hp;exact goes_val (fun e2 σ2 h k kp=>by simp only [xop,ho,agree_get h hm,hp,hf,if_neg hs]) hx
    ·cases hx
  ·cases hx
 | field s x f=>
  simp only [xop,ho] at hx
  have hm:x ∈ o.op.operands.toList:=by simp [ho,Op.operands]
  split at hx
  ·rename_i fl hf
   split at hx
   ·rename_i cs hp
    obtain ⟨y,hy,hx⟩:=partK_some hx
    exact goes_val (fun e2 σ2 h k kp=>by simp only [xop,ho,agree_get h hm,hp,hf,partK_uni hy]) hx
   ·cases hx
  ·cases hx
 | indexAddr t x ix=>
  simp only [xop,ho] at hx
  have hm:x ∈ o.op.operands.toList:=by simp [ho,Op.operands]
  have hm2:ix ∈ o.op.operands.toList:=by simp [ho,Op.operands]
  obtain ⟨kx,i,hix,hx⟩:=natK_some hx
  split at hx
  ·rename_i n e hu
   split at hx
   ·rename_i hb
    split at hx
    ·rename_i key off hp
     exact goes_tv (fun q hq=>mem_keys hm (by rw [hp];exact hq)) (fun e2 σ2 h k kp=>by simp only [xop,ho,agree_get h hm,agree_get h hm2,hp,hix,natK,hu,if_pos hb]) hx
    ·rename_i g off hp
     exact goes_tv (fun q hq=>by simp [keyOf] at hq) (fun e2 σ2 h k kp=>by simp only [xop,ho,agree_get h hm,agree_get h hm2,hp,hix,natK,hu,if_pos hb]) hx
    ·rename_i b off hp;exact goes_val (fun e2 σ2 h k kp=>by simp only [xop,ho,agree_get h hm,agree_get h hm2,hp,hix,natK,hu,if_pos hb]) hx
    ·cases hx
   ·cases hx
  ·rename_i e hu
   split at hx
   ·rename_i key n hp
    split at hx
    ·rename_i hb
     exact goes_tv (fun q hq=>mem_keys hm (by rw [hp];exact hq)) (fun e2 σ2 h k kp=>by simp only [xop,ho,agree_get h hm,agree_get h hm2,hp,hix,natK,hu,if_pos hb]) hx
    ·cases hx
   ·rename_i b off n cap sz hp
    split at hx
    ·rename_i hb
     split at hx
     ·rename_i hs;exact goes_val (fun e2 σ2 h k kp=>by simp only [xop,ho,agree_get h hm,agree_get h hm2,hp,hix,natK,hu,if_pos hb,if_pos hs]) hx
     ·cases hx
    ·cases hx
   ·cases hx
  ·cases hx
 | index t x ix=>
  simp only [xop,ho] at hx
  have hm:x ∈ o.op.operands.toList:=by simp [ho,Op.operands]
  have hm2:ix ∈ o.op.operands.toList:=by simp [ho,Op.operands]
  obtain ⟨kx,i,hix,hx⟩:=natK_some hx
  split at hx
  ·rename_i n e hu
   split at hx
   ·rename_i cs hp
    split at hx
    ·rename_i hb
     obtain ⟨y,hy,hx⟩:=partK_some hx
     exact goes_val (fun e2 σ2 h k kp=>by simp only [xop,ho,agree_get h hm,agree_get h hm2,hp,hix,natK,hu,if_pos hb,partK_uni hy]) hx
    ·cases hx
   ·cases hx
  ·rename_i hu
   split at hx
   ·rename_i s hp
    split at hx
    ·rename_i hb
     split at hx
     ·rename_i c hc;exact goes_val (fun e2 σ2 h k kp=>by simp only [xop,ho,agree_get h hm,agree_get h hm2,hp,hix,natK,hu,if_pos hb,hc]) hx
     ·cases hx
    ·cases hx
   ·cases hx
  ·cases hx
 | extract x i=>
  simp only [xop,ho] at hx
  have hm:x ∈ o.op.operands.toList:=by simp [ho,Op.operands]
  split at hx
  ·rename_i vs hp
   split at hx
   ·rename_i y hy;exact goes_val (fun e2 σ2 h k kp=>by simp only [xop,ho,agree_get h hm,hp,hy]) hx
   ·cases hx
  ·cases hx
 | makeInterface t x=>
  simp only [xop,ho] at hx
  have hm:x ∈ o.op.operands.toList:=by simp [ho,Op.operands]
  split at hx
  ·rename_i p hp
   split at hx
   ·cases hx
   ·rename_i d hn hu
    refine goes_val (fun e2 σ2 h k kp=>?_) hx
    simp only [xop,ho,agree_get h hm,hp]
    split
    ·rename_i ms he;exact absurd (hu.symm.trans he) (fun h=>hn ms (by simpa using h))
    ·rfl
    ·rename_i he;rw [he] at hu;cases hu
   ·cases hx
  ·cases hx
 | call c=>
  simp only [xop,ho] at hx
  split at hx
  ·rename_i f hc
   have hm:f ∈ o.op.operands.toList:=by simp [ho,Op.operands,Call.operands,hc]
   have hargs (e2:Env) (h:∀ x ∈ o.op.operands.toList,e2.get x = env.get x):c.args.toList.map e2.get = c.args.toList.map env.get:=
    map_get_congr fun x hx=>h x (by simp only [ho,Op.operands,Call.operands,hc,Array.toList_append,List.mem_append];exact .inr hx)
   split at hx
   ·rename_i fid first captured hf
    split at hx
    ·rename_i args ha
     unfold callK at hx
     split at hx
     ·rename_i v σ' hr
      have hbn:(clsOf P lm env o).hb = none:=by simp [clsOf,hbOf,hbOf0,hpu,hin,ho]
      have h2:(clsOf P lm env o).hp = 2:=by show heapUse P lm env o = 2;simp [heapUse,heapUse0,hpu,hin,ho,hc]
      refine ⟨.v v,⟨none,none,some σ',none,none⟩,⟨fun q hq=>by simp [keyOf] at hq,⟨fun d h=>(by cases h),fun k cs h=>(by cases h),fun _=>⟨h2,hbn⟩,fun b ob h=>(by cases h),fun r kb v h=>(by cases h),fun b ob h=>(by cases h)⟩,fun e2 σ2 h k kp=>?_⟩,hx⟩
      have hh:=h.heap (by rw [h2];decide) hbn
      simp only [xop,ho,hc,agree_get h hm,hf,hargs e2 h.ops_,ha,callK,hh,hr]
      rfl
     ·cases hx
     ·cases hx
    ·cases hx
   ·cases hx
  ·rename_i x name hc;simp [calmO,ho,hc] at hcalm
  ·rename_i hc
   split at hx
   ·rename_i t ts x xs ht ha
    have hm:x ∈ o.op.operands.toList:=by simp [ho,Op.operands,Call.operands,hc,arr_of_toList ha]
    split at hx
    ·rename_i n hn;exact goes_val (fun e2 σ2 h k kp=>by simp only [xop,ho,hc,ht,ha,agree_get h hm,hn]) hx
    ·cases hx
   ·cases hx
  ·rename_i hc
   split at hx
   ·rename_i t t2 s x ht ha
    have hm:s ∈ o.op.operands.toList:=by simp [ho,Op.operands,Call.operands,hc,arr_of_toList ha]
    have hm2:x ∈ o.op.operands.toList:=by simp [ho,Op.operands,Call.operands,hc,arr_of_toList ha]
    have hbn:(clsOf P lm env o).hb = none:=by simp [clsOf,hbOf,hbOf0,hpu,hin,ho]
    have h2:(clsOf P lm env o).hp = 2:=by show heapUse P lm env o = 2;simp [heapUse,heapUse0,hpu,hin,ho,hc]
    split at hx
    ·rename_i e hu
     split at hx
     ·rename_i e' hu2
      split at hx
      ·rename_i hz
       obtain ⟨z,σ',hx,hap⟩:=appendK_uni hx
       refine ⟨.v z,⟨none,none,some σ',none,none⟩,⟨fun q hq=>by simp [keyOf] at hq,⟨fun d h=>(by cases h),fun k cs h=>(by cases h),fun _=>⟨h2,hbn⟩,fun b ob h=>(by cases h),fun r kb v h=>(by cases h),fun b ob h=>(by cases h)⟩,fun e2 σ2 h k kp=>?_⟩,hx⟩
       have hh:=h.heap (by rw [h2];decide) hbn
       simp only [xop,ho,hc,ht,ha,hu,hu2,if_pos hz,agree_get h hm,agree_get h hm2,hh]
       rw [hap e2 _ (fun q hq=>h.keys q (mem_keys hm2 hq))]
       rfl
      ·cases hx
     ·rename_i hu2
      split at hx
      ·rename_i hz
       obtain ⟨z,σ',hx,hap⟩:=appendK_uni hx
       refine ⟨.v z,⟨none,none,some σ',none,none⟩,⟨fun q hq=>by simp [keyOf] at hq,⟨fun d h=>(by cases h),fun k cs h=>(by cases h),fun _=>⟨h2,hbn⟩,fun b ob h=>(by cases h),fun r kb v h=>(by cases h),fun b ob h=>(by cases h)⟩,fun e2 σ2 h k kp=>?_⟩,hx⟩
       have hh:=h.heap (by rw [h2];decide) hbn
       simp only [xop,ho,hc,ht,ha,hu,hu2,if_pos hz,agree_get h hm,agree_get h hm2,hh]
       rw [hap e2 _ (fun q hq=>h.keys q (mem_keys hm2 hq))]
       rfl
      ·cases hx
     ·cases hx
    ·cases hx
   ·cases hx
  ·rename_i hc
   split at hx
   ·rename_i t ts x xs ht ha
    have hm:x ∈ o.op.operands.toList:=by simp [ho,Op.operands,Call.operands,hc,arr_of_toList ha]
    split at hx
    ·rename_i n hn;exact goes_val (fun e2 σ2 h k kp=>by simp only [xop,ho,hc,ht,ha,agree_get h hm,hn]) hx
    ·cases hx
   ·cases hx
  ·rename_i hc
   split at hx
   ·rename_i t t2 ts d x xs ht ha
    have hbn:(clsOf P lm env o).hb = none:=by simp [clsOf,hbOf,hbOf0,hpu,hin,ho]
    have h2:(clsOf P lm env o).hp = 2:=by show heapUse P lm env o = 2;simp [heapUse,heapUse0,hpu,hin,ho,hc]
    have hm:d ∈ o.op.operands.toList:=by simp [ho,Op.operands,Call.operands,hc,arr_of_toList ha]
    have hm2:x ∈ o.op.operands.toList:=by simp [ho,Op.operands,Call.operands,hc,arr_of_toList ha]
    split at hx
    ·rename_i e hu
     split at hx
     ·rename_i e' hu2
      split at hx
      ·rename_i hz
       obtain ⟨z,σ',hx,hap⟩:=copyK_uni hx
       refine ⟨.v (.int .i64 z),⟨none,none,some σ',none,none⟩,⟨fun q hq=>by simp [keyOf] at hq,⟨fun d h=>(by cases h),fun k cs h=>(by cases h),fun _=>⟨h2,hbn⟩,fun b ob h=>(by cases h),fun r kb v h=>(by cases h),fun b ob h=>(by cases h)⟩,fun e2 σ2 h k kp=>?_⟩,hx⟩
       have hh:=h.heap (by rw [h2];decide) hbn
       simp only [xop,ho,hc,ht,ha,hu,hu2,if_pos hz,agree_get h hm,agree_get h hm2,hh]
       rw [hap e2 _ (fun q hq=>h.keys q (mem_keys hm2 hq))]
       rfl
      ·cases hx
     ·rename_i hu2
      split at hx
      ·rename_i hz
       obtain ⟨z,σ',hx,hap⟩:=copyK_uni hx
       refine ⟨.v (.int .i64 z),⟨none,none,some σ',none,none⟩,⟨fun q hq=>by simp [keyOf] at hq,⟨fun d h=>(by cases h),fun k cs h=>(by cases h),fun _=>⟨h2,hbn⟩,fun b ob h=>(by cases h),fun r kb v h=>(by cases h),fun b ob h=>(by cases h)⟩,fun e2 σ2 h k kp=>?_⟩,hx⟩
       have hh:=h.heap (by rw [h2];decide) hbn
       simp only [xop,ho,hc,ht,ha,hu,hu2,if_pos hz,agree_get h hm,agree_get h hm2,hh]
       rw [hap e2 _ (fun q hq=>h.keys q (mem_keys hm2 hq))]
       rfl
      ·cases hx
     ·cases hx
    ·cases hx
   ·cases hx
  ·rename_i hc
   have hargs (e2:Env) (h:∀ x ∈ o.op.operands.toList,e2.get x = env.get x):c.args.toList.map e2.get = c.args.toList.map env.get:=
    map_get_congr fun x hx=>h x (by simp only [ho,Op.operands,Call.operands,hc,Array.toList_append,List.mem_append];exact .inr hx)
   split at hx
   ·rename_i kx m r hl
    split at hx
    ·rename_i l hi;exact goes_val (fun e2 σ2 h k kp=>by simp only [xop,ho,hc,hargs e2 h.ops_,hl,hi]) hx
    ·cases hx
   ·cases hx
  ·rename_i hc
   have hargs (e2:Env) (h:∀ x ∈ o.op.operands.toList,e2.get x = env.get x):c.args.toList.map e2.get = c.args.toList.map env.get:=
    map_get_congr fun x hx=>h x (by simp only [ho,Op.operands,Call.operands,hc,Array.toList_append,List.mem_append];exact .inr hx)
   split at hx
   ·rename_i kx m r hl
    split at hx
    ·rename_i l hi;exact goes_val (fun e2 σ2 h k kp=>by simp only [xop,ho,hc,hargs e2 h.ops_,hl,hi]) hx
    ·cases hx
   ·cases hx
  ·cases hx
 | panic x=>simp only [xop,ho] at hx;split at hx <;> cases hx
 | makeMap t r=>
  have hr:r = none:=by cases r with | none=>rfl | some _=>simp [calmO,ho] at hcalm
  subst hr
  simp only [xop,ho,mkMapK,Option.map_none] at hx
  split at hx
  ·rename_i kt et hu
   have h2:(clsOf P lm env o).hp = 2:=by show heapUse P lm env o = 2;simp [heapUse,heapUse0,hpu,hin,ho]
   have hbn:(clsOf P lm env o).hb = none:=by simp [clsOf,hbOf,hbOf0,hpu,hin,ho]
   refine ⟨.v (.map (some σ.length)),⟨none,none,some (σ ++ [AObj.map []]:St),none,none⟩,⟨fun q hq=>by simp [keyOf] at hq,⟨fun d h=>(by cases h),fun k cs h=>(by cases h),fun _=>⟨h2,hbn⟩,fun b ob h=>(by cases h),fun r kb v h=>(by cases h),fun b ob h=>(by cases h)⟩,fun e2 σ2 hag k kp=>?_⟩,hx⟩
   rw [hag.heap (by rw [h2];decide) hbn]
   simp only [xop,ho,mkMapK,Option.map_none,hu]
   rfl
  ·cases hx
 | lookup t x ix b=>
  simp only [xop,ho] at hx
  have hm:x ∈ o.op.operands.toList:=by simp [ho,Op.operands]
  have hm2:ix ∈ o.op.operands.toList:=by simp [ho,Op.operands]
  split at hx
  ·rename_i kt et hu
   split at hx
   ·rename_i key hp
    obtain ⟨v,c,h1,h2⟩:=lookK_uni hx
    refine goes_val (fun e2 σ2 h k kp=>?_) h1
    simp only [xop,ho,hu,agree_get h hm,agree_get h hm2,hp]
    exact h2 σ2 (fun r hr=>h.blkE (by simp [clsOf,ikOf,hpu,hin]) (by show heapUse P lm env o ≠ 0;simp [heapUse,heapUse0,hpu,hin,ho,hr]) r (by simp [clsOf,hbOf,hbOf0,hpu,hin,ho,hr])) _
   ·cases hx
  ·cases hx
 | mapUpdate t x ix y=>simp [calmO,ho] at hcalm
 | insert t x ix y=>simp [calmO,ho,hin] at hcalm
 | typeAssert x t ty b=>
  simp only [xop,ho] at hx
  have hm:x ∈ o.op.operands.toList:=by simp [ho,Op.operands]
  obtain ⟨y,h1,h2⟩:=assertK_uni hx
  exact goes_val (fun e2 σ2 h k kp=>by simp only [xop,ho,agree_get h hm];exact h1 _) h2
 | _=>simp only [xop,ho] at hx;cases hx
def Unif (P:Program) (lm:Nat) (call:Caller) (o:Oper) (ops:Array Oper) (c:Cls) (e:Env) (σ:St) (t:TV) (δ:Delta):Prop:=
 (∀ k,k ∈ keyOf t → k ∈ c.keys) ∧ δ.ok c (newKey lm o) ∧
 ∀ e2 σ2,Agree o ops c e σ e2 σ2 → ∀ k kp,xopQ P lm call e2 σ2 o k kp = k t (δ.env e2) (δ.st σ2)
def Goes (P:Program) (lm:Nat) (call:Caller) (o:Oper) (ops:Array Oper) (env:Env) (σ:St) (k:TV → Env → St → Out) (out:Res × St):Prop:=
 ∃ t δ,Unif P lm call o ops (clsOf P lm env o) env σ t δ ∧ k t (δ.env env) (δ.st σ) = some out
theorem xopQ_none {e:Env} {σ:St} {kp:AV → Env → St → Out} (hin:insQ P o = none) (h:pureOf P o = none):xopQ P lm call e σ o k kp = xop P lm call e σ o k kp:=by unfold xopQ;rw [h,hin]
theorem pureOf_some {f:FuncId} (h:pureOf P o = some f):∃ c,o.op = .call c ∧ c.callee = .value (.func f) ∧ pureF P f = true:=by
 unfold pureOf at h
 split at h
 ·rename_i c ho
  split at h
  ·rename_i g hc
   split at h
   ·rename_i hp;cases h;exact ⟨c,ho,hc,hp⟩
   ·cases h
  ·cases h
 ·cases h
theorem insQ_some {b:Bool} (h:insQ P o = some b):∃ t m x kt et,o.op = .insert t m (.const (.bool b)) x ∧ P.underlying t = some (.map kt et) ∧ P.underlying kt = some .bool:=by
 unfold insQ at h
 split at h
 ·rename_i t m b' x ho
  split at h
  ·rename_i kt et hu
   split at h
   ·rename_i hk;cases h;exact ⟨t,m,x,kt,et,ho,hu,hk⟩
   ·cases h
  ·cases h
 ·cases h
theorem pureK_some {f:FuncId} {args:List AV} {k:AV → Out} (h:pureK call f args σ k = some out) :
  ∃ g p v σ',σ[1]? = some (.know g p) ∧ call f args [.dead,.know g p] = some (.ret v,σ') ∧ v.flat = true ∧ args.all AV.flat = true ∧ k v = some out:=by
 unfold pureK at h
 split at h
 ·rename_i g p hs
  split at h
  ·rename_i v σ' hc
   split at h
   ·rename_i hf;exact ⟨g,p,v,σ',hs,hc,hf.1,hf.2,h⟩
   ·cases h
  ·cases h
 ·cases h
theorem xop_goes (hcalm:calmO P o = true) (hx:xopQ P lm call env σ o k (fun _ _ _=>none) = some out):Goes P lm call o ops env σ k out:=by
 cases hp:pureOf P o with
 | none=>
  cases hin:insQ P o with
  | none=>
   rw [xopQ_none hin hp] at hx
   obtain ⟨t,δ,⟨h1,h2,h3⟩,hk⟩:=xop_goesX (ops:=ops) hin hp hcalm hx
   exact ⟨t,δ,⟨h1,h2,fun e2 σ2 ha k kp=>by rw [xopQ_none hin hp];exact h3 e2 σ2 ha k kp⟩,hk⟩
  | some b=>
   obtain ⟨t,m,x,kt,et,ho,hu,hkt⟩:=insQ_some hin
   have hm:m ∈ o.op.operands.toList:=by simp [ho,Op.operands]
   have hm2:x ∈ o.op.operands.toList:=by simp [ho,Op.operands]
   simp only [xopQ,hp,hin,ho] at hx
   split at hx
   ·rename_i r v hr hv
    have hr':insM env o = some r:=by rw [← hr]
    unfold insK at hx
    cases hf:freshB b σ[r]? with
    | false=>rw [hf] at hx;cases hx
    | true=>
     rw [hf] at hx
     have h2:(clsOf P lm env o).hp = 2:=by show heapUse P lm env o = 2;simp [heapUse,hp,hin]
     have hb2:(clsOf P lm env o).hb = some r:=by simp [clsOf,hbOf,hp,hin,hr']
     have hi2:(clsOf P lm env o).ik = some b:=by simp [clsOf,ikOf,hp,hin]
     refine ⟨.no,⟨none,none,none,none,some (r,b,v)⟩,⟨fun q hq=>by simp [keyOf] at hq,⟨fun d h=>(by cases h),fun k cs h=>(by cases h),fun h=>(by cases h),fun b ob h=>(by cases h),fun r' b' v' h=>(by cases h;exact ⟨h2,hb2,hi2⟩),fun b ob h=>(by cases h)⟩,fun e2 σ2 h k kp=>?_⟩,hx⟩
     have hg:=h.blk (by rw [h2];decide) r hb2
     rw [hi2] at hg
     have hg2:freshB b σ2[r]? = true:=Eq.trans (show freshB b σ2[r]? = freshB b σ[r]? from hg) hf
     have hm3:insM e2 o = some r:=by rw [← hr'];simp only [insM,ho,agree_get h hm]
     simp only [xopQ,hp,hin,ho] at hm3 ⊢
     rw [hm3,agree_get h hm2,hv]
     simp only [insK,hg2,cond_true]
     rfl
   ·cases hx
 | some f=>
  obtain ⟨c,ho,hc,_⟩:=pureOf_some hp
  simp only [xopQ,hp,ho] at hx
  split at hx
  ·rename_i args hargs
   obtain ⟨g,p,v,σ',hs,hcall,hv,ha,hx⟩:=pureK_some hx
   refine ⟨.v v,.id,⟨fun q hq=>by simp [keyOf] at hq,⟨fun d h=>(by cases h),fun k cs h=>(by cases h),fun h=>(by cases h),fun b ob h=>(by cases h),fun r kb v h=>(by cases h),fun b ob h=>(by cases h)⟩,fun e2 σ2 h k kp=>?_⟩,hx⟩
   have hm:c.args.toList.map e2.get = c.args.toList.map env.get:=
    map_get_congr fun x hx=>h.ops_ x (by simp only [ho,Op.operands,Call.operands,hc,Array.toList_append,List.mem_append];exact .inr hx)
   have hb:σ2[1]? = σ[1]?:=h.blkE (by simp [clsOf,ikOf,hp]) (by simp [clsOf,heapUse,hp]) 1 (by simp [clsOf,hbOf,hp])
   simp only [xopQ,hp,ho,hm,hargs,pureK,hb,hs,hcall]
   rw [if_pos ⟨hv,ha⟩]
   rfl
  ·cases hx
end
end Go.AM

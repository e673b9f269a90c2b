/- Points within a function's code: running on from one; a step at one. -/
import Derived.Test.YtgaodjcjgafccaaAmRun
namespace Go.AM

/-- The classes of what a drawing region has done ahead of its i-th operation, told from an environment at hand. -/
def accNow (lm : Nat) (env : Env) : Nat → List Oper → List (Nat × Oper × Cls)
  | _, [] => []
  | i, o :: r => (i, o, clsOf lm env o) :: accNow lm env (i + 1) r

/-- On from a point of code. The path: 0 and 1 of a seq or a cond; 0 of a block or a loop; the operation's number. ms: the rounds left of each loop that the path leads into, or to. -/
def descend (P : Program) (lm : Nat) (call : Caller) (n : Nat) (kp : AV → St → Out) : Code → List Nat → List Nat → Nat → (X → Env → St → Out) → Env → St → Out
  | .seq a b, 0 :: p, ms, live, k, env, σ => descend P lm call n kp a p ms (live ||| liveIn b) (fun x env σ => match x with | .normal => run P lm call n kp b live k (cond (joins a) (env.clean (live ||| liveIn b)) env) σ | x => k x env σ) env σ
  | .seq _ b, _ :: p, ms, live, k, env, σ => descend P lm call n kp b p ms live k env σ
  | .cond _ a _, 0 :: p, ms, live, k, env, σ => descend P lm call n kp a p ms live k env σ
  | .cond _ _ b, _ :: p, ms, live, k, env, σ => descend P lm call n kp b p ms live k env σ
  | .block id b, _ :: p, ms, live, k, env, σ => descend P lm call n kp b p ms live (fun x env σ => match x with | .exit j => if j = id then k .normal (env.clean live) σ else k (.exit j) env σ | x => k x env σ) env σ
  | .loop b, [], m :: _, live, k, env, σ => loopK (live ||| liveIn b) (fun k env σ => run P lm call n kp b (live ||| liveIn b) k env σ) k m env σ
  | .loop b, _ :: p, m :: ms, live, k, env, σ => descend P lm call n kp b p ms (live ||| liveIn b)
      (fun x env' σ' => match x with | .normal => loopK (live ||| liveIn b) (fun k env σ => run P lm call n kp b (live ||| liveIn b) k env σ) k m (env'.clean (live ||| liveIn b)) σ' | x => k x env' σ') env σ
  | .region _ ops draw, i :: _, _, _, k, env, σ =>
    cond draw (runDr P lm call ops (ancs ops) (k .normal) i (ops.toList.drop i) (accNow lm env 0 (ops.toList.take i)) env σ) (runOps P lm call ops (k .normal) kp (ops.toList.drop i) env σ)
  | c, _, _, live, k, env, σ => run P lm call n kp c live k env σ

/-- What follows the operation at a point. -/
def contAt (P : Program) (lm : Nat) (call : Caller) (n : Nat) (kp : AV → St → Out) : Code → List Nat → List Nat → Nat → (X → Env → St → Out) → Env → TV → Env → St → Out
  | .seq a b, 0 :: p, ms, live, k, e => contAt P lm call n kp a p ms (live ||| liveIn b) (fun x env σ => match x with | .normal => run P lm call n kp b live k (cond (joins a) (env.clean (live ||| liveIn b)) env) σ | x => k x env σ) e
  | .seq _ b, _ :: p, ms, live, k, e => contAt P lm call n kp b p ms live k e
  | .cond _ a _, 0 :: p, ms, live, k, e => contAt P lm call n kp a p ms live k e
  | .cond _ _ b, _ :: p, ms, live, k, e => contAt P lm call n kp b p ms live k e
  | .block id b, _ :: p, ms, live, k, e => contAt P lm call n kp b p ms live (fun x env σ => match x with | .exit j => if j = id then k .normal (env.clean live) σ else k (.exit j) env σ | x => k x env σ) e
  | .loop b, _ :: p, m :: ms, live, k, e => contAt P lm call n kp b p ms (live ||| liveIn b)
      (fun x env' σ' => match x with | .normal => loopK (live ||| liveIn b) (fun k env σ => run P lm call n kp b (live ||| liveIn b) k env σ) k m (env'.clean (live ||| liveIn b)) σ' | x => k x env' σ') e
  | .region _ ops draw, i :: _, _, _, k, e => fun t env' σ' =>
    match ops.toList[i]? with
    | some o => cond draw (runDr P lm call ops (ancs ops) (k .normal) (i + 1) (ops.toList.drop (i + 1)) (accNow lm e 0 (ops.toList.take i) ++ [(i, o, clsOf lm e o)]) (env'.put o.dst t) σ')
        (runOps P lm call ops (k .normal) kp (ops.toList.drop (i + 1)) (env'.put o.dst t) σ')
    | none => none
  | _, _, _, _, _, _ => fun _ _ _ => none

def noOper : Oper := { dst := none, op := .move (.tmp 0), type := 0, pos := "", after := #[], guard := none }

def opAt : Code → List Nat → Oper
  | .seq a _, 0 :: p => opAt a p
  | .seq _ b, _ :: p => opAt b p
  | .cond _ a _, 0 :: p => opAt a p
  | .cond _ _ b, _ :: p => opAt b p
  | .block _ b, _ :: p => opAt b p
  | .loop b, _ :: p => opAt b p
  | .region _ ops _, i :: _ => (ops.toList[i]?).getD noOper
  | _, _ => noOper

/-- Does a path lead to an operation that is carried out: no guard, or one that is known to let it? In a region that draws: nothing forbids it. -/
def goodPt (lm : Nat) (env : Env) : Code → List Nat → List Nat → Bool
  | .seq a _, 0 :: p, ms => goodPt lm env a p ms
  | .seq _ b, _ :: p, ms => goodPt lm env b p ms
  | .cond _ a _, 0 :: p, ms => goodPt lm env a p ms
  | .cond _ _ b, _ :: p, ms => goodPt lm env b p ms
  | .block _ b, _ :: p, ms => goodPt lm env b p ms
  | .loop b, _ :: p, _ :: ms => goodPt lm env b p ms
  | .region _ ops draw, i :: _, _ =>
    match ops.toList[i]? with
    | some o => (!draw || drawOk lm ops (ancs ops) i o (ops.toList.drop (i + 1)) (clsOf lm env o) (accNow lm env 0 (ops.toList.take i))) &&
        (match o.guard with
        | none => true
        | some (j, want) => (match (ops[j]?).bind (·.dst) with
          | some d => (match env.tmps[d]? with
            | some (.v (.bool b)) => b == want
            | _ => false)
          | none => false))
    | none => false
  | _, _, _ => false

theorem set_same {α : Type} : ∀ (l : List α) (d : Nat) (x : α), l[d]? = some x → l.set d x = l
  | [], _, _, h => by simp at h
  | y :: l, 0, x, h => by simp at h; simp [h]
  | y :: l, d + 1, x, h => by simp at h; simp [set_same l d x h]

section
variable {P : Program} {lm : Nat} {call : Caller} {n : Nat}

def drawAt : Code → List Nat → Bool
  | .seq a _, 0 :: p => drawAt a p
  | .seq _ b, _ :: p => drawAt b p
  | .cond _ a _, 0 :: p => drawAt a p
  | .cond _ _ b, _ :: p => drawAt b p
  | .block _ b, _ :: p => drawAt b p
  | .loop b, _ :: p => drawAt b p
  | .region _ _ draw, _ => draw
  | _, _ => false

theorem drop_of {α : Type} {l : List α} {i : Nat} {o : α} (h : l[i]? = some o) : l.drop i = o :: l.drop (i + 1) := by
  obtain ⟨hi, e⟩ := List.getElem?_eq_some_iff.1 h
  rw [List.drop_eq_getElem_cons hi, e]

theorem region_step {σ : St} {env : Env} {kp : AV → St → Out} {ops : Array Oper} {draw : Bool} {i : Nat} {o : Oper} {k : Env → St → Out} (ho : ops.toList[i]? = some o)
    (hd : (!draw || drawOk lm ops (ancs ops) i o (ops.toList.drop (i + 1)) (clsOf lm env o) (accNow lm env 0 (ops.toList.take i))) = true)
    (hg : (match o.guard with
        | none => true
        | some (j, want) => (match (ops[j]?).bind (·.dst) with
          | some d => (match env.tmps[d]? with
            | some (.v (.bool b)) => b == want
            | _ => false)
          | none => false)) = true) :
    cond draw (runDr P lm call ops (ancs ops) k i (ops.toList.drop i) (accNow lm env 0 (ops.toList.take i)) env σ) (runOps P lm call ops k kp (ops.toList.drop i) env σ)
      = xop P lm call env σ o (fun t env' σ' => cond draw (runDr P lm call ops (ancs ops) k (i + 1) (ops.toList.drop (i + 1)) (accNow lm env 0 (ops.toList.take i) ++ [(i, o, clsOf lm env o)]) (env'.put o.dst t) σ')
        (runOps P lm call ops k kp (ops.toList.drop (i + 1)) (env'.put o.dst t) σ')) (cond draw (fun _ _ => none) kp) := by
  rw [drop_of ho]
  cases draw with
  | false =>
    simp only [cond]
    conv => lhs; unfold runOps
    split at hg
    · rename_i hgd
      simp only [hgd]
    · rename_i j want hgd
      simp only [hgd]
      split at hg
      · rename_i d hdd
        simp only [hdd]
        split at hg
        · rename_i b hb
          have hgd' : env.tmps.getD d .no = .v (.bool b) := by simp [List.getD, hb]
          simp only [hgd']
          have hs := set_same _ _ _ hb
          simp at hg
          subst hg
          cases b <;> simp only [cond] <;> rw [hs]
        · cases hg
      · cases hg
  | true =>
    simp only [cond]
    simp only [Bool.not_true, Bool.false_or] at hd
    conv => lhs; unfold runDr
    simp only [hd, cond]
    split at hg
    · rename_i hgd
      simp only [hgd]
    · rename_i j want hgd
      simp only [hgd]
      split at hg
      · rename_i d hdd
        simp only [hdd]
        split at hg
        · rename_i b hb
          have hgd' : env.tmps.getD d .no = .v (.bool b) := by simp [List.getD, hb]
          simp only [hgd']
          have hs := set_same _ _ _ hb
          simp at hg
          subst hg
          cases b <;> dsimp only <;> rw [hs]
        · cases hg
      · cases hg

theorem descend_step {σ : St} {env : Env} {kp : AV → St → Out} : ∀ (c : Code) (p ms : List Nat) (live : Nat) (k : X → Env → St → Out), goodPt lm env c p ms = true →
    descend P lm call n kp c p ms live k env σ = xop P lm call env σ (opAt c p) (contAt P lm call n kp c p ms live k env) (cond (drawAt c p) (fun _ _ => none) kp) := by
  intro c
  induction c with
  | seq a b iha ihb =>
    intro p ms live k h
    cases p with
    | nil => simp [goodPt] at h
    | cons x p => cases x with
      | zero => simp only [descend, goodPt, opAt, contAt, drawAt] at h ⊢; exact iha p ms _ _ h
      | succ x => simp only [descend, goodPt, opAt, contAt, drawAt] at h ⊢; exact ihb p ms _ _ h
  | cond _ a b iha ihb =>
    intro p ms live k h
    cases p with
    | nil => simp [goodPt] at h
    | cons x p => cases x with
      | zero => simp only [descend, goodPt, opAt, contAt, drawAt] at h ⊢; exact iha p ms _ _ h
      | succ x => simp only [descend, goodPt, opAt, contAt, drawAt] at h ⊢; exact ihb p ms _ _ h
  | block _ b ih =>
    intro p ms live k h
    cases p with
    | nil => simp [goodPt] at h
    | cons x p => simp only [descend, goodPt, opAt, contAt, drawAt] at h ⊢; exact ih p ms _ _ h
  | loop b ih =>
    intro p ms live k h
    cases p with
    | nil => simp [goodPt] at h
    | cons x p => cases ms with
      | nil => simp [goodPt] at h
      | cons m ms => simp only [descend, goodPt, opAt, contAt, drawAt] at h ⊢; exact ih p ms _ _ h
  | region id ops draw =>
    intro p ms live k h
    cases p with
    | nil => simp [goodPt] at h
    | cons i p =>
      simp only [goodPt] at h
      split at h
      · rename_i o ho
        simp only [Bool.and_eq_true] at h
        simp only [descend, opAt, contAt, drawAt, ho, Option.getD]
        exact region_step ho h.1 h.2
      · cases h
  | _ => intro p ms live k h; simp [goodPt] at h

end

/-! ### of a function -/

def bodyOf (P : Program) (f : FuncId) : Code := match P.funcs[f]? with | some fn => fn.body.getD .skip | none => .skip
def lmOf (P : Program) (f : FuncId) : Nat := match P.funcs[f]? with | some fn => localMask fn | none => 0
def resOf (P : Program) (f : FuncId) : List ResultVar := match P.funcs[f]? with | some fn => fn.results.toList | none => []
def ntOf (P : Program) (f : FuncId) : Nat := match P.funcs[f]? with | some fn => fn.ntmps | none => 0

def endK (P : Program) (f : FuncId) : X → Env → St → Out := fun x env σ' => match x with
  | .exit _ => none
  | _ => resK P env σ' (resOf P f) fun l => match l with
    | [y] => some (.ret y, σ')
    | l => some (.ret (.tuple l), σ')
def panK : AV → St → Out := fun v σ' => some (.pan v, σ')

/-- On from a point of a function. n: the fuel of the calls that it makes, and the rounds of each loop that it comes to. -/
def pt (P : Program) (f : FuncId) (n : Nat) (p ms : List Nat) (env : Env) (σ : St) : Out :=
  descend P (lmOf P f) (callP P n) n panK (bodyOf P f) p ms ((resOf P f).foldl (fun m r => m ||| resBit r) 0) (endK P f) env σ

/-- The operation at a point. -/
def op (P : Program) (f : FuncId) (p : List Nat) : Oper := opAt (bodyOf P f) p

def after (P : Program) (f : FuncId) (n : Nat) (p ms : List Nat) (e : Env) : TV → Env → St → Out :=
  contAt P (lmOf P f) (callP P n) n panK (bodyOf P f) p ms ((resOf P f).foldl (fun m r => m ||| resBit r) 0) (endK P f) e

def good (P : Program) (f : FuncId) (p ms : List Nat) (env : Env) : Bool := goodPt (lmOf P f) env (bodyOf P f) p ms
def panAt (P : Program) (f : FuncId) (p : List Nat) : AV → St → Out := cond (drawAt (bodyOf P f) p) (fun _ _ => none) panK

theorem pt_step {P : Program} {f : FuncId} {n : Nat} {p ms : List Nat} {env : Env} {σ : St} (h : good P f p ms env = true) :
    pt P f n p ms env σ = xop P (lmOf P f) (callP P n) env σ (op P f p) (after P f n p ms env) (panAt P f p) :=
  descend_step _ _ _ _ _ h

end Go.AM

/- From point to point: the same run, stopped where it is told to stop. -/
import Derived.Test.YtlallfmbpbnaaaaAmX
namespace Go.AM

abbrev Leaf := List Nat → List Nat → Env → St → Out

def runOpsS (P : Program) (lm : Nat) (call : Caller) (ops : Array Oper) (L : Nat → Env → St → Out) (stop : Nat → Bool) (k : Env → St → Out) (kp : AV → St → Out) : Nat → List Oper → Env → St → Out
  | _, [], env, σ => k env σ
  | i, o :: r, env, σ =>
    match o.guard with
    | none => cond (stop i) (L i env σ) (xop P lm call env σ o (fun t env' σ' => runOpsS P lm call ops L stop k kp (i + 1) r (env'.put o.dst t) σ') kp)
    | some (j, want) =>
      match (ops[j]?).bind (·.dst) with
      | some d => match env.tmps.getD d .no with
        | .v (.bool b) =>
          cond b
            (let e : Env := { env with tmps := env.tmps.set d (.v (.bool true)) }
             cond want (cond (stop i) (L i e σ) (xop P lm call e σ o (fun t env' σ' => runOpsS P lm call ops L stop k kp (i + 1) r (env'.put o.dst t) σ') kp)) (runOpsS P lm call ops L stop k kp (i + 1) r (e.put o.dst (.v (.tuple []))) σ))
            (let e : Env := { env with tmps := env.tmps.set d (.v (.bool false)) }
             cond want (runOpsS P lm call ops L stop k kp (i + 1) r (e.put o.dst (.v (.tuple []))) σ) (cond (stop i) (L i e σ) (xop P lm call e σ o (fun t env' σ' => runOpsS P lm call ops L stop k kp (i + 1) r (env'.put o.dst t) σ') kp)))
        | .v (.tuple []) => runOpsS P lm call ops L stop k kp (i + 1) r (env.put o.dst (.v (.tuple []))) σ
        | _ => none
      | none => none

def Cls.same (a b : Cls) : Bool := a.keys == b.keys && a.w == b.w && a.hp == b.hp
def sameAcc : List (Nat × Oper × Cls) → List (Nat × Oper × Cls) → Bool
  | [], [] => true
  | x :: r, y :: s => x.2.2.same y.2.2 && sameAcc r s
  | _, _ => false

def runDrS (P : Program) (lm : Nat) (call : Caller) (ops : Array Oper) (anc : List Nat) (L : Nat → Env → St → Out) (stop : Nat → Bool) (k : Env → St → Out) : Nat → List Oper → List (Nat × Oper × Cls) → Env → St → Out
  | _, [], _, env, σ => k env σ
  | i, o :: r, acc, env, σ =>
    let c := clsOf lm env o
    match o.guard with
    | none => cond (stop i && sameAcc acc (accNow lm env 0 (ops.toList.take i))) (L i env σ)
        (cond (drawOk lm ops anc i o r c acc) (xop P lm call env σ o (fun t env' σ' => runDrS P lm call ops anc L stop k (i + 1) r (acc ++ [(i, o, c)]) (env'.put o.dst t) σ') (fun _ _ => none)) none)
    | some (j, want) => cond (drawOk lm ops anc i o r c acc)
        (match (ops[j]?).bind (·.dst) with
        | some d => match env.tmps.getD d .no with
          | .v (.bool b) =>
            cond b
              (let e : Env := { env with tmps := env.tmps.set d (.v (.bool true)) }
               cond want (cond (stop i && sameAcc acc (accNow lm e 0 (ops.toList.take i))) (L i e σ) (xop P lm call e σ o (fun t env' σ' => runDrS P lm call ops anc L stop k (i + 1) r (acc ++ [(i, o, c)]) (env'.put o.dst t) σ') (fun _ _ => none))) (runDrS P lm call ops anc L stop k (i + 1) r (acc ++ [(i, o, c)]) (e.put o.dst (.v (.tuple []))) σ))
              (let e : Env := { env with tmps := env.tmps.set d (.v (.bool false)) }
               cond want (runDrS P lm call ops anc L stop k (i + 1) r (acc ++ [(i, o, c)]) (e.put o.dst (.v (.tuple []))) σ) (cond (stop i && sameAcc acc (accNow lm e 0 (ops.toList.take i))) (L i e σ) (xop P lm call e σ o (fun t env' σ' => runDrS P lm call ops anc L stop k (i + 1) r (acc ++ [(i, o, c)]) (env'.put o.dst t) σ') (fun _ _ => none))))
          | .v (.tuple []) => runDrS P lm call ops anc L stop k (i + 1) r (acc ++ [(i, o, c)]) (env.put o.dst (.v (.tuple []))) σ
          | _ => none
        | none => none)
        none

def runS (P : Program) (lm : Nat) (call : Caller) (n : Nat) (L : Leaf) (stops : List (List Nat)) : Code → List Nat → List Nat → Nat → (X → Env → St → Out) → Env → St → Out
  | .skip, _, _, _, k, env, σ => k .normal env σ
  | .region _ ops draw, w, ms, _, k, env, σ =>
    cond draw (cond (newFree lm ops.toList env.tmps && edgesBack ops) (runDrS P lm call ops (ancs ops) (fun i => L (w ++ [i]) ms) (fun i => stops.contains (w ++ [i])) (k .normal) 0 ops.toList [] env σ) none)
      (runOpsS P lm call ops (fun i => L (w ++ [i]) ms) (fun i => stops.contains (w ++ [i])) (k .normal) panK 0 ops.toList env σ)
  | .seq a b, w, ms, live, k, env, σ => runS P lm call n L stops a (w ++ [0]) ms (live ||| liveIn b) (fun x env σ => match x with
    | .normal => cond (stops.contains (w ++ [1])) (L (w ++ [1]) ms (cond (joins a) (env.clean (live ||| liveIn b)) env) σ) (runS P lm call n L stops b (w ++ [1]) ms live k (cond (joins a) (env.clean (live ||| liveIn b)) env) σ)
    | x => k x env σ) env σ
  | .cond c a b, w, ms, live, k, env, σ => match env.get c with
    | .v (.bool t) => cond t (runS P lm call n L stops a (w ++ [0]) ms live k (env.know c true) σ) (runS P lm call n L stops b (w ++ [1]) ms live k (env.know c false) σ)
    | _ => none
  | .block id b, w, ms, live, k, env, σ => runS P lm call n L stops b (w ++ [0]) ms live (fun x env σ => match x with | .exit j => if j = id then k .normal (env.clean live) σ else k (.exit j) env σ | x => k x env σ) env σ
  | .loop b, w, ms, live, _, env, σ => L w (ms ++ [n]) (env.clean (live ||| liveIn b)) σ
  | .exit id, _, _, _, k, env, σ => k (.exit id) env σ
  | .ret, _, _, _, k, env, σ => k .ret env σ
  | _, _, _, _, _, _, _ => none

/-- Where to go on: at the operation that the path leads to; or behind it, with what it yields (and the environment that it saw). -/
def descS (P : Program) (lm : Nat) (call : Caller) (n : Nat) (L : Leaf) (stops : List (List Nat)) : Code → List Nat → List Nat → List Nat → List Nat → Nat → (X → Env → St → Out) → Option (Env × TV) → Env → St → Out
  | .seq a b, 0 :: p, w, ms, md, live, k, at_, env, σ => descS P lm call n L stops a p (w ++ [0]) ms md (live ||| liveIn b) (fun x env σ => match x with
    | .normal => cond (stops.contains (w ++ [1])) (L (w ++ [1]) md (cond (joins a) (env.clean (live ||| liveIn b)) env) σ) (runS P lm call n L stops b (w ++ [1]) md live k (cond (joins a) (env.clean (live ||| liveIn b)) env) σ)
    | x => k x env σ) at_ env σ
  | .seq _ b, 1 :: p, w, ms, md, live, k, at_, env, σ => descS P lm call n L stops b p (w ++ [1]) ms md live k at_ env σ
  | .cond _ a _, 0 :: p, w, ms, md, live, k, at_, env, σ => descS P lm call n L stops a p (w ++ [0]) ms md live k at_ env σ
  | .cond _ _ b, 1 :: p, w, ms, md, live, k, at_, env, σ => descS P lm call n L stops b p (w ++ [1]) ms md live k at_ env σ
  | .block id b, 0 :: p, w, ms, md, live, k, at_, env, σ => descS P lm call n L stops b p (w ++ [0]) ms md live (fun x env σ => match x with | .exit j => if j = id then k .normal (env.clean live) σ else k (.exit j) env σ | x => k x env σ) at_ env σ
  | .loop b, 0 :: p, w, m :: ms, md, live, k, at_, env, σ => descS P lm call n L stops b p (w ++ [0]) ms (md ++ [m]) (live ||| liveIn b)
      (fun x env' σ' => match x with | .normal => L w (md ++ [m]) (env'.clean (live ||| liveIn b)) σ' | x => k x env' σ') at_ env σ
  | .loop b, [], w, (m + 1) :: _, md, live, k, none, env, σ => runS P lm call n L stops b (w ++ [0]) (md ++ [m]) (live ||| liveIn b)
      (fun x env' σ' => match x with | .normal => L w (md ++ [m]) (env'.clean (live ||| liveIn b)) σ' | x => k x env' σ') env σ
  | .region _ ops draw, i :: _, w, _, md, _, k, none, env, σ =>
    cond draw (runDrS P lm call ops (ancs ops) (fun i => L (w ++ [i]) md) (fun i => stops.contains (w ++ [i])) (k .normal) i (ops.toList.drop i) (accNow lm env 0 (ops.toList.take i)) env σ)
      (runOpsS P lm call ops (fun i => L (w ++ [i]) md) (fun i => stops.contains (w ++ [i])) (k .normal) panK i (ops.toList.drop i) env σ)
  | .region _ ops draw, i :: _, w, _, md, _, k, some (e, t), env, σ =>
    match ops.toList[i]? with
    | some o => cond draw (runDrS P lm call ops (ancs ops) (fun i => L (w ++ [i]) md) (fun i => stops.contains (w ++ [i])) (k .normal) (i + 1) (ops.toList.drop (i + 1)) (accNow lm e 0 (ops.toList.take i) ++ [(i, o, clsOf lm e o)]) (env.put o.dst t) σ)
        (runOpsS P lm call ops (fun i => L (w ++ [i]) md) (fun i => stops.contains (w ++ [i])) (k .normal) panK (i + 1) (ops.toList.drop (i + 1)) (env.put o.dst t) σ)
    | none => none
  | c, [], w, [], md, live, k, none, env, σ => runS P lm call n L stops c w md live k env σ
  | _, p, w, ms, md, _, _, none, env, σ => L (w ++ p) (md ++ ms) env σ
  | c, p, _, ms, _, live, k, some (e, t), env, σ => contAt P lm call n panK c p ms live k e t env σ

section
variable {P : Program} {lm : Nat} {call : Caller}

theorem set_at {env : Env} {d : Nat} {b : Bool} (hb : env.tmps.getD d .no = .v (.bool b)) : env.tmps.set d (.v (.bool b)) = env.tmps := by
  apply set_same
  rw [List.getD_eq_getElem?_getD] at hb
  cases hx : env.tmps[d]? with
  | none => rw [hx] at hb; cases hb
  | some x => rw [hx] at hb; simp at hb; rw [hb]

theorem runOpsS_eq {ops : Array Oper} {L : Nat → Env → St → Out} {stop : Nat → Bool} {k : Env → St → Out} {kp : AV → St → Out} (hL : ∀ i env σ, L i env σ = runOps P lm call ops k kp (ops.toList.drop i) env σ) :
    ∀ (l : List Oper) (i : Nat) (env : Env) (σ : St), l = ops.toList.drop i → runOpsS P lm call ops L stop k kp i l env σ = runOps P lm call ops k kp l env σ
  | [], i, env, σ, _ => by simp only [runOpsS, runOps]
  | o :: r, i, env, σ, hl => by
    have hr : r = ops.toList.drop (i + 1) := by rw [← List.tail_drop, ← hl]; rfl
    have ih := fun env σ => runOpsS_eq (stop := stop) hL r (i + 1) env σ hr
    have hLi := hL i
    rw [← hl] at hLi
    unfold runOpsS
    simp only [ih, hLi]
    cases hg : o.guard with
    | none =>
      simp only [runOps, hg]
      cases stop i <;> rfl
    | some g =>
      obtain ⟨j, want⟩ := g
      cases hd : (ops[j]?).bind (·.dst) with
      | none => simp only [runOps, hg, hd]
      | some d =>
        cases hx : env.tmps.getD d .no with
        | v x =>
          cases x with
          | bool b =>
            have he : ({ tmps := env.tmps.set d (.v (.bool b)), locs := env.locs } : Env) = env := by rw [set_at hx]
            cases b with
            | true => 
              simp only [cond]
              conv => rhs; unfold runOps
              simp only [hg, hd, hx, he, cond]
              cases want with
              | true =>
                cases stop i with
                | true => 
                  simp only
                  conv => lhs; unfold runOps
                  simp only [hg, hd, hx, he, cond]
                | false => rfl
              | false => rfl
            | false =>
              simp only [cond]
              conv => rhs; unfold runOps
              simp only [hg, hd, hx, he, cond]
              cases want with
              | false =>
                cases stop i with
                | true => 
                  simp only
                  conv => lhs; unfold runOps
                  simp only [hg, hd, hx, he, cond]
                | false => rfl
              | true => rfl
          | tuple vs => 
            conv => rhs; unfold runOps
            simp only [hg, hd, hx]
            cases vs <;> rfl
          | _ => 
            conv => rhs; unfold runOps
            simp only [hg, hd, hx]
        | _ => 
          conv => rhs; unfold runOps
          simp only [hg, hd, hx]

theorem Cls.same_eq {a b : Cls} (h : a.same b = true) : a = b := by
  cases a; cases b
  simp only [Cls.same, Bool.and_eq_true, beq_iff_eq] at h
  simp [h.1.1, h.1.2, h.2]

/-- The operations so far, with their numbers. -/
def idx : Nat → List Oper → List (Nat × Oper)
  | _, [] => []
  | i, o :: r => (i, o) :: idx (i + 1) r

theorem idx_append : ∀ (l : List Oper) (i : Nat) (o : Oper), idx i (l ++ [o]) = idx i l ++ [(i + l.length, o)]
  | [], i, o => rfl
  | x :: l, i, o => by simp [idx, idx_append l (i + 1) o]; omega

theorem accNow_idx {env : Env} : ∀ (l : List Oper) (i : Nat), (accNow lm env i l).map (fun x => (x.1, x.2.1)) = idx i l
  | [], i => rfl
  | x :: l, i => by simp [accNow, idx, accNow_idx l (i + 1)]

theorem sameAcc_eq : ∀ {a b : List (Nat × Oper × Cls)}, a.map (fun x => (x.1, x.2.1)) = b.map (fun x => (x.1, x.2.1)) → sameAcc a b = true → a = b
  | [], [], _, _ => rfl
  | x :: a, y :: b, h, hs => by
    obtain ⟨x1, x2, x3⟩ := x
    obtain ⟨y1, y2, y3⟩ := y
    simp only [List.map_cons, List.cons.injEq, Prod.mk.injEq] at h
    simp only [sameAcc, Bool.and_eq_true] at hs
    rw [sameAcc_eq h.2 hs.2, Cls.same_eq hs.1, h.1.1, h.1.2]
  | [], _ :: _, h, _ => by simp at h
  | _ :: _, [], h, _ => by simp at h

theorem runDrS_eq {ops : Array Oper} {anc : List Nat} {L : Nat → Env → St → Out} {stop : Nat → Bool} {k : Env → St → Out}
    (hL : ∀ i env σ, L i env σ = runDr P lm call ops anc k i (ops.toList.drop i) (accNow lm env 0 (ops.toList.take i)) env σ) :
    ∀ (l : List Oper) (i : Nat) (acc : List (Nat × Oper × Cls)) (env : Env) (σ : St), l = ops.toList.drop i → acc.map (fun x => (x.1, x.2.1)) = idx 0 (ops.toList.take i) →
      runDrS P lm call ops anc L stop k i l acc env σ = runDr P lm call ops anc k i l acc env σ
  | [], i, acc, env, σ, _, _ => by simp only [runDrS, runDr]
  | o :: r, i, acc, env, σ, hl, ha => by
    have hr : r = ops.toList.drop (i + 1) := by rw [← List.tail_drop, ← hl]; rfl
    have hi : i < ops.toList.length := by
      rcases Nat.lt_or_ge i ops.toList.length with h | h
      · exact h
      · rw [List.drop_eq_nil_of_le h] at hl; cases hl
    have ho : ops.toList.take (i + 1) = ops.toList.take i ++ [o] := by
      rw [List.take_add_one, List.getElem?_eq_getElem hi]
      have := List.drop_eq_getElem_cons hi
      rw [this] at hl
      cases hl
      rfl
    have ih := fun (c : Cls) env σ => runDrS_eq (stop := stop) hL r (i + 1) (acc ++ [(i, o, c)]) env σ hr (by rw [ho, idx_append, List.map_append, ha, List.length_take, Nat.min_eq_left (Nat.le_of_lt hi), Nat.zero_add]; rfl)
    have hLi := hL i
    rw [← hl] at hLi
    have hacc : ∀ e : Env, sameAcc acc (accNow lm e 0 (ops.toList.take i)) = true → accNow lm e 0 (ops.toList.take i) = acc := fun e h => (sameAcc_eq (by rw [ha, accNow_idx]) h).symm
    unfold runDrS
    simp only [ih, hLi]
    cases hg : o.guard with
    | none =>
      simp only
      cases hc : (stop i && sameAcc acc (accNow lm env 0 (ops.toList.take i))) with
      | true =>
        simp only [Bool.and_eq_true] at hc
        simp only [cond, hacc env hc.2]
      | false => simp only [cond, runDr, hg]
    | some g =>
      obtain ⟨j, want⟩ := g
      cases hd : (ops[j]?).bind (·.dst) with
      | none => simp only [runDr, hg, hd]
      | some d =>
        conv => rhs; unfold runDr
        simp only [hg, hd]
        cases hdo : drawOk lm ops anc i o r (clsOf lm env o) acc with
        | false => rfl
        | true =>
          simp only [cond]
          cases hx : env.tmps.getD d .no with
          | v x =>
            cases x with
            | bool b =>
              have he : ({ tmps := env.tmps.set d (.v (.bool b)), locs := env.locs } : Env) = env := by rw [set_at hx]
              cases b with
              | true =>
                simp only [he]
                cases want with
                | true =>
                  simp only
                  cases hc : (stop i && sameAcc acc (accNow lm env 0 (ops.toList.take i))) with
                  | true =>
                    simp only [Bool.and_eq_true] at hc
                    simp only [hacc env hc.2]
                    conv => lhs; unfold runDr
                    simp only [hg, hd, hdo, hx, cond, he]
                  | false => rfl
                | false => rfl
              | false =>
                simp only [he]
                cases want with
                | false =>
                  simp only
                  cases hc : (stop i && sameAcc acc (accNow lm env 0 (ops.toList.take i))) with
                  | true =>
                    simp only [Bool.and_eq_true] at hc
                    simp only [hacc env hc.2]
                    conv => lhs; unfold runDr
                    simp only [hg, hd, hdo, hx, cond, he]
                  | false => rfl
                | true => rfl
            | tuple vs => cases vs <;> rfl
            | _ => rfl
          | _ => rfl

theorem descend_nil {n : Nat} {kp : AV → St → Out} (c : Code) (live : Nat) (k : X → Env → St → Out) (env : Env) (σ : St) : descend P lm call n kp c [] [] live k env σ = run P lm call n kp c live k env σ := by
  cases c <;> rfl

theorem runS_eq {n : Nat} {L : Leaf} {stops : List (List Nat)} : ∀ (c : Code) (w ms : List Nat) (live : Nat) (k : X → Env → St → Out) (env : Env) (σ : St),
    (∀ p' ms' env σ, L (w ++ p') (ms ++ ms') env σ = descend P lm call n panK c p' ms' live k env σ) → runS P lm call n L stops c w ms live k env σ = run P lm call n panK c live k env σ := by
  intro c
  induction c with
  | skip => intro w ms live k env σ _; rfl
  | region id ops draw =>
    intro w ms live k env σ hI
    have h0 : ∀ i env σ, L (w ++ [i]) ms env σ = descend P lm call n panK (.region id ops draw) [i] [] live k env σ := by
      intro i env σ
      have := hI [i] [] env σ
      rwa [List.append_nil] at this
    unfold runS run
    cases draw with
    | true =>
      simp only [cond]
      split
      · exact runDrS_eq (fun i env σ => h0 i env σ) _ 0 [] env σ rfl rfl
      · rfl
    | false => exact runOpsS_eq (fun i env σ => h0 i env σ) _ 0 env σ rfl
  | seq a b iha ihb =>
    intro w ms live k env σ hI
    have hb : ∀ p' ms' env σ, L (w ++ [1] ++ p') (ms ++ ms') env σ = descend P lm call n panK b p' ms' live k env σ := by
      intro p' ms' env σ
      have := hI (1 :: p') ms' env σ
      rw [List.append_assoc]; exact this
    have hk : ∀ (x : X) (env : Env) (σ : St), (match x with
      | .normal => cond (stops.contains (w ++ [1])) (L (w ++ [1]) ms (cond (joins a) (env.clean (live ||| liveIn b)) env) σ) (runS P lm call n L stops b (w ++ [1]) ms live k (cond (joins a) (env.clean (live ||| liveIn b)) env) σ)
      | x => k x env σ) = (match x with | .normal => run P lm call n panK b live k (cond (joins a) (env.clean (live ||| liveIn b)) env) σ | x => k x env σ) := by
      intro x env σ
      cases x with
      | normal =>
        simp only
        rw [ihb (w ++ [1]) ms live k _ σ hb]
        have := hb [] [] (cond (joins a) (env.clean (live ||| liveIn b)) env) σ
        rw [List.append_nil, List.append_nil, descend_nil] at this
        rw [this]
        cases stops.contains (w ++ [1]) <;> rfl
      | _ => rfl
    unfold runS run
    rw [show (fun x env σ => _) = _ from funext fun x => funext fun env => funext fun σ => hk x env σ]
    refine iha (w ++ [0]) ms _ _ env σ ?_
    intro p' ms' env σ
    have := hI (0 :: p') ms' env σ
    rw [List.append_assoc]; exact this
  | cond c a b iha ihb =>
    intro w ms live k env σ hI
    have ha : ∀ p' ms' env σ, L (w ++ [0] ++ p') (ms ++ ms') env σ = descend P lm call n panK a p' ms' live k env σ := by
      intro p' ms' env σ
      have := hI (0 :: p') ms' env σ
      rw [List.append_assoc]; exact this
    have hb : ∀ p' ms' env σ, L (w ++ [1] ++ p') (ms ++ ms') env σ = descend P lm call n panK b p' ms' live k env σ := by
      intro p' ms' env σ
      have := hI (1 :: p') ms' env σ
      rw [List.append_assoc]; exact this
    have e1 := fun env σ => iha (w ++ [0]) ms live k env σ ha
    have e2 := fun env σ => ihb (w ++ [1]) ms live k env σ hb
    unfold runS run
    simp only [e1, e2]
    rfl
  | block id b ih =>
    intro w ms live k env σ hI
    unfold runS run
    refine ih (w ++ [0]) ms live _ env σ ?_
    intro p' ms' env σ
    have := hI (0 :: p') ms' env σ
    rw [List.append_assoc]; exact this
  | loop b ih =>
    intro w ms live k env σ hI
    have := hI [] [n] (env.clean (live ||| liveIn b)) σ
    rw [List.append_nil] at this
    unfold runS run
    exact this
  | exit id => intro w ms live k env σ _; rfl
  | ret => intro w ms live k env σ _; rfl
  | _ => intro w ms live k env σ _; rfl

theorem descS_eq {n : Nat} {L : Leaf} {stops : List (List Nat)} : ∀ (c : Code) (p w ms md : List Nat) (live : Nat) (k : X → Env → St → Out) (act : Option (Env × TV)) (env : Env) (σ : St),
    (∀ p' ms' env σ, L (w ++ p') (md ++ ms') env σ = descend P lm call n panK c p' ms' live k env σ) →
    descS P lm call n L stops c p w ms md live k act env σ = (match act with | none => descend P lm call n panK c p ms live k env σ | some (e, t) => contAt P lm call n panK c p ms live k e t env σ) := by
  intro c
  induction c with
  | region id ops draw =>
    intro p w ms md live k act env σ hI
    have h0 : ∀ i env σ, L (w ++ [i]) md env σ = descend P lm call n panK (.region id ops draw) [i] [] live k env σ := by
      intro i env σ
      have := hI [i] [] env σ
      rwa [List.append_nil] at this
    cases p with
    | nil => 
      cases act with
      | none => 
        cases ms with
        | nil => 
          rw [descend_nil]
          exact runS_eq _ w md live k env σ hI
        | cons m ms => exact hI [] (m :: ms) env σ
      | some et => obtain ⟨e, t⟩ := et; first | rfl | (cases ms <;> first | rfl | (rename_i m _; cases m <;> rfl)) | (cases p <;> first | rfl | (cases ms <;> rfl))
    | cons i p =>
      cases act with
      | none =>
        cases draw with
        | true => exact runDrS_eq (fun i env σ => h0 i env σ) _ i _ env σ rfl (accNow_idx _ _)
        | false => exact runOpsS_eq (fun i env σ => h0 i env σ) _ i env σ rfl
      | some et =>
        obtain ⟨e, t⟩ := et
        unfold descS contAt
        simp only
        cases ho : ops.toList[i]? with
        | none => rfl
        | some o =>
          simp only
          have hi : i < ops.toList.length := (List.getElem?_eq_some_iff.1 ho).1
          cases draw with
          | true =>
            refine runDrS_eq (fun i env σ => h0 i env σ) _ (i + 1) _ _ σ rfl ?_
            rw [List.map_append, accNow_idx, List.take_add_one, ho]
            simp only [Option.toList, idx_append, List.length_take, Nat.min_eq_left (Nat.le_of_lt hi), Nat.zero_add]
            rfl
          | false => exact runOpsS_eq (fun i env σ => h0 i env σ) _ (i + 1) _ σ rfl
  | seq a b iha ihb =>
    intro p w ms md live k act env σ hI
    cases p with
    | nil =>
      cases act with
      | none => 
        cases ms with
        | nil => 
          rw [descend_nil]
          exact runS_eq _ w md live k env σ hI
        | cons m ms => exact hI [] (m :: ms) env σ
      | some et => obtain ⟨e, t⟩ := et; first | rfl | (cases ms <;> first | rfl | (rename_i m _; cases m <;> rfl)) | (cases p <;> first | rfl | (cases ms <;> rfl))
    | cons i p =>
      cases i with
      | zero => 
        have hb : ∀ p' ms' env σ, L (w ++ [1] ++ p') (md ++ ms') env σ = descend P lm call n panK b p' ms' live k env σ := by
          intro p' ms' env σ
          have := hI (1 :: p') ms' env σ
          rw [List.append_assoc]; exact this
        have hk : ∀ (x : X) (env : Env) (σ : St), (match x with
          | .normal => cond (stops.contains (w ++ [1])) (L (w ++ [1]) md (cond (joins a) (env.clean (live ||| liveIn b)) env) σ) (runS P lm call n L stops b (w ++ [1]) md live k (cond (joins a) (env.clean (live ||| liveIn b)) env) σ)
          | x => k x env σ) = (match x with | .normal => run P lm call n panK b live k (cond (joins a) (env.clean (live ||| liveIn b)) env) σ | x => k x env σ) := by
          intro x env σ
          cases x with
          | normal =>
            simp only
            rw [runS_eq b (w ++ [1]) md live k _ σ hb]
            have := hb [] [] (cond (joins a) (env.clean (live ||| liveIn b)) env) σ
            rw [List.append_nil, List.append_nil, descend_nil] at this
            rw [this]
            cases stops.contains (w ++ [1]) <;> rfl
          | _ => rfl
        have := iha p (w ++ [0]) ms md (live ||| liveIn b) _ act env σ (fun p' ms' env σ => by
          have := hI (0 :: p') ms' env σ
          rw [List.append_assoc]; exact this)
        exact (congrArg (fun kk => descS P lm call n L stops a p (w ++ [0]) ms md (live ||| liveIn b) kk act env σ) (funext fun x => funext fun env => funext fun σ => hk x env σ)).trans this
      | succ i => 
        cases i with
        | zero => 
          have := ihb p (w ++ [1]) ms md live k act env σ (fun p' ms' env σ => by
            have := hI (1 :: p') ms' env σ
            rw [List.append_assoc]; exact this)
          unfold descS
          exact this
        | succ i => 
          cases act with
          | none => exact hI _ ms env σ
          | some et => obtain ⟨e, t⟩ := et; first | rfl | (cases ms <;> first | rfl | (rename_i m _; cases m <;> rfl)) | (cases p <;> first | rfl | (cases ms <;> rfl))
  | cond c a b iha ihb =>
    intro p w ms md live k act env σ hI
    cases p with
    | nil =>
      cases act with
      | none => 
        cases ms with
        | nil => 
          rw [descend_nil]
          exact runS_eq _ w md live k env σ hI
        | cons m ms => exact hI [] (m :: ms) env σ
      | some et => obtain ⟨e, t⟩ := et; first | rfl | (cases ms <;> first | rfl | (rename_i m _; cases m <;> rfl)) | (cases p <;> first | rfl | (cases ms <;> rfl))
    | cons i p =>
      cases i with
      | zero => 
        have := iha p (w ++ [0]) ms md live k act env σ (fun p' ms' env σ => by
          have := hI (0 :: p') ms' env σ
          rw [List.append_assoc]; exact this)
        unfold descS
        exact this
      | succ i => 
        cases i with
        | zero => 
          have := ihb p (w ++ [1]) ms md live k act env σ (fun p' ms' env σ => by
            have := hI (1 :: p') ms' env σ
            rw [List.append_assoc]; exact this)
          unfold descS
          exact this
        | succ i => 
          cases act with
          | none => exact hI _ ms env σ
          | some et => obtain ⟨e, t⟩ := et; first | rfl | (cases ms <;> first | rfl | (rename_i m _; cases m <;> rfl)) | (cases p <;> first | rfl | (cases ms <;> rfl))
  | block id b ih =>
    intro p w ms md live k act env σ hI
    cases p with
    | nil =>
      cases act with
      | none => 
        cases ms with
        | nil => 
          rw [descend_nil]
          exact runS_eq _ w md live k env σ hI
        | cons m ms => exact hI [] (m :: ms) env σ
      | some et => obtain ⟨e, t⟩ := et; first | rfl | (cases ms <;> first | rfl | (rename_i m _; cases m <;> rfl)) | (cases p <;> first | rfl | (cases ms <;> rfl))
    | cons i p =>
      cases i with
      | zero => 
        have := ih p (w ++ [0]) ms md live _ act env σ (fun p' ms' env σ => by
          have := hI (0 :: p') ms' env σ
          rw [List.append_assoc]; exact this)
        unfold descS
        exact this
      | succ i => 
        cases act with
        | none => exact hI _ ms env σ
        | some et => obtain ⟨e, t⟩ := et; first | rfl | (cases ms <;> first | rfl | (rename_i m _; cases m <;> rfl)) | (cases p <;> first | rfl | (cases ms <;> rfl))
  | loop b ih =>
    intro p w ms md live k act env σ hI
    have hk : ∀ (m : Nat) (x : X) (env : Env) (σ : St), (match x with | .normal => L w (md ++ [m]) (env.clean (live ||| liveIn b)) σ | x => k x env σ) =
        (match x with | .normal => loopK (live ||| liveIn b) (fun k env σ => run P lm call n panK b (live ||| liveIn b) k env σ) k m (env.clean (live ||| liveIn b)) σ | x => k x env σ) := by
      intro m x env σ
      cases x with
      | normal =>
        have := hI [] [m] (env.clean (live ||| liveIn b)) σ
        rw [List.append_nil] at this
        exact this
      | _ => rfl
    have hb : ∀ m p' ms' env σ, L (w ++ [0] ++ p') (md ++ [m] ++ ms') env σ = descend P lm call n panK (.loop b) (0 :: p') (m :: ms') live k env σ := by
      intro m p' ms' env σ
      have := hI (0 :: p') (m :: ms') env σ
      rw [List.append_assoc, List.append_assoc]; exact this
    cases p with
    | nil =>
      cases act with
      | none => 
        cases ms with
        | nil => 
          rw [descend_nil]
          exact runS_eq _ w md live k env σ hI
        | cons m ms => 
          cases m with
          | zero => exact hI [] (0 :: ms) env σ
          | succ m =>
            exact (congrArg (fun kk => runS P lm call n L stops b (w ++ [0]) (md ++ [m]) (live ||| liveIn b) kk env σ) (funext fun x => funext fun env => funext fun σ => hk m x env σ)).trans
              (runS_eq b (w ++ [0]) (md ++ [m]) _ _ env σ (hb m))
      | some et => obtain ⟨e, t⟩ := et; first | rfl | (cases ms <;> first | rfl | (rename_i m _; cases m <;> rfl)) | (cases p <;> first | rfl | (cases ms <;> rfl))
    | cons i p =>
      cases i with
      | zero => 
        cases ms with
        | nil => 
          cases act with
          | none => exact hI _ [] env σ
          | some et => obtain ⟨e, t⟩ := et; first | rfl | (cases ms <;> first | rfl | (rename_i m _; cases m <;> rfl)) | (cases p <;> first | rfl | (cases ms <;> rfl))
        | cons m ms => 
          have := ih p (w ++ [0]) ms (md ++ [m]) (live ||| liveIn b) _ act env σ (hb m)
          exact (congrArg (fun kk => descS P lm call n L stops b p (w ++ [0]) ms (md ++ [m]) (live ||| liveIn b) kk act env σ) (funext fun x => funext fun env => funext fun σ => hk m x env σ)).trans this
      | succ i => 
        cases act with
        | none => exact hI _ ms env σ
        | some et => obtain ⟨e, t⟩ := et; first | rfl | (cases ms <;> first | rfl | (rename_i m _; cases m <;> rfl)) | (cases p <;> first | rfl | (cases ms <;> rfl))
  | _ =>
    intro p w ms md live k act env σ hI
    cases act with
    | none => 
      cases p with
      | nil => 
        cases ms with
        | nil => 
          rw [descend_nil]
          exact runS_eq _ w md live k env σ hI
        | cons m ms => exact hI [] (m :: ms) env σ
      | cons i p => exact hI _ ms env σ
    | some et => obtain ⟨e, t⟩ := et; first | rfl | (cases ms <;> first | rfl | (rename_i m _; cases m <;> rfl)) | (cases p <;> first | rfl | (cases ms <;> rfl))

end

/-- On from a point, to the points where it stops. -/
def goS (P : Program) (f : FuncId) (n : Nat) (L : Leaf) (stops : List (List Nat)) (p ms : List Nat) (act : Option (Env × TV)) (env : Env) (σ : St) : Out :=
  descS P (lmOf P f) (callP P n) n L stops (bodyOf P f) p [] ms [] ((resOf P f).foldl (fun m r => m ||| resBit r) 0) (endK P f) act env σ

theorem goS_pt {P : Program} {f : FuncId} {n : Nat} {stops : List (List Nat)} {p ms : List Nat} {env : Env} {σ : St} : pt P f n p ms env σ = goS P f n (pt P f n) stops p ms none env σ :=
  (descS_eq _ _ _ _ _ _ _ none _ _ (fun _ _ _ _ => rfl)).symm

theorem goS_after {P : Program} {f : FuncId} {n : Nat} {stops : List (List Nat)} {p ms : List Nat} {e env : Env} {t : TV} {σ : St} : after P f n p ms e t env σ = goS P f n (pt P f n) stops p ms (some (e, t)) env σ :=
  (descS_eq _ _ _ _ _ _ _ (some (e, t)) _ _ (fun _ _ _ _ => rfl)).symm

theorem callP_pt {P : Program} {f : FuncId} {n : Nat} {args : List AV} {σ : St} {env : Env} (h : (match P.funcs[f]? with | some fn => fn.body.isSome | none => false) = true)
    (he : env = { tmps := args.map .v ++ List.replicate (ntOf P f - args.length) .no, locs := [] }) : callP P (n + 1) f args σ = pt P f n [] [] env σ := by
  subst he
  unfold pt
  rw [descend_nil]
  conv => lhs; unfold callP
  unfold bodyOf lmOf resOf ntOf endK resOf
  cases hf : P.funcs[f]? with
  | none => rw [hf] at h; cases h
  | some fn =>
    rw [hf] at h
    cases hb : fn.body with
    | none => simp [hb] at h
    | some c => simp only [hb, Option.getD]; rfl

end Go.AM

/- The parser of layer 17 over any stream of tokens, as a plain function. -/
import Derived.Test.YtlbieeajocjpeaaGreatDoorLex
namespace Go.Front
def isB (t : Tok) (m : List UInt8) : Bool := (t.kind == 2 || t.kind == 5) && t.text == m
structure Node where
  kind : Int
  at_ : Int
  text : List UInt8
  n : Int
  m : Int
  kids : List Nat
  deriving DecidableEq, Inhabited
structure Strm where
  Pos : Type
  nxt : Pos → Sum Nat (Tok × Pos)
structure PS (S : Strm) where
  tok : Tok
  pos : S.Pos
  nodes : List Node
  deep : Nat
abbrev Flt := Int × Nat
def PM (S : Strm) (α : Type) := PS S → Option (Except Flt (α × PS S))
section
variable {S : Strm} {α β γ : Type}
def PM.pure (a : α) : PM S α := fun st => some (.ok (a, st))
def PM.bind (m : PM S α) (f : α → PM S β) : PM S β := fun st =>
  match m st with
  | none => none
  | some (.error e) => some (.error e)
  | some (.ok (a, st')) => f a st'
instance : Monad (PM S) where
  pure := PM.pure
  bind := PM.bind
theorem PM.pure_ap (a : α) (st : PS S) : (Pure.pure a : PM S α) st = some (.ok (a, st)) := rfl
theorem PM.bind_ap (m : PM S α) (f : α → PM S β) (st : PS S) : (m >>= f) st = PM.bind m f st := rfl
theorem PM.bind_none {m : PM S α} {f : α → PM S β} {st : PS S} (h : m st = none) : (m >>= f) st = none := by rw [PM.bind_ap]; unfold PM.bind; rw [h]
theorem PM.bind_err {m : PM S α} {f : α → PM S β} {st : PS S} {e : Flt} (h : m st = some (.error e)) : (m >>= f) st = some (.error e) := by rw [PM.bind_ap]; unfold PM.bind; rw [h]
theorem PM.bind_ok {m : PM S α} {f : α → PM S β} {st st' : PS S} {a : α} (h : m st = some (.ok (a, st'))) : (m >>= f) st = f a st' := by rw [PM.bind_ap]; unfold PM.bind; rw [h]
theorem PM.bind_some {m : PM S α} {f : α → PM S β} {st : PS S} {o : Except Flt (β × PS S)} (h : (m >>= f) st = some o) :
    (∃ e, m st = some (.error e) ∧ o = .error e) ∨ ∃ a st', m st = some (.ok (a, st')) ∧ f a st' = some o := by
  cases hm : m st with
  | none => rw [PM.bind_none hm] at h; cases h
  | some r =>
    cases r with
    | error e => rw [PM.bind_err hm] at h; cases h; exact .inl ⟨e, rfl, rfl⟩
    | ok p => obtain ⟨a, st'⟩ := p; rw [PM.bind_ok hm] at h; exact .inr ⟨a, st', rfl, h⟩
theorem PM.pure_bind (a : α) (f : α → PM S β) : (Pure.pure a >>= f : PM S β) = f a := rfl
theorem PM.bind_assoc (m : PM S α) (f : α → PM S β) (g : β → PM S γ) : (m >>= f) >>= g = m >>= fun a => f a >>= g := by
  funext st
  cases hm : m st with
  | none => rw [PM.bind_none hm, PM.bind_none (PM.bind_none hm)]
  | some r =>
    cases r with
    | error e => rw [PM.bind_err hm, PM.bind_err (PM.bind_err hm)]
    | ok p =>
      obtain ⟨a, st'⟩ := p
      rw [PM.bind_ok hm]
      rw [PM.bind_ap]; unfold PM.bind; rw [PM.bind_ok hm]; rfl
theorem PM.ite_bind {c : Prop} [Decidable c] (x y : PM S α) (f : α → PM S β) : (if c then x else y) >>= f = if c then x >>= f else y >>= f := by
  by_cases h : c
  · rw [if_pos h, if_pos h]
  · rw [if_neg h, if_neg h]
def wrongP (e : Int) : PM S α := fun st => some (.error (e, st.tok.at_))
def tokP : PM S Tok := fun st => some (.ok (st.tok, st))
def nextP : PM S Tok := fun st =>
  match S.nxt st.pos with
  | .inl f => some (.error (13, f))
  | .inr (t, q) => some (.ok (st.tok, { st with tok := t, pos := q }))
def isP (m : List UInt8) : PM S Bool := fun st => some (.ok (isB st.tok m, st))
def takeP (m : List UInt8) : PM S Bool := do
  if ← isP m then
    let _ ← nextP
    pure true
  else pure false
def mustP (m : List UInt8) : PM S Unit := do
  if ← isP m then
    let _ ← nextP
    pure ()
  else wrongP 13
def kindP (k : Nat) : PM S Tok := do
  let t ← tokP
  if t.kind = k then nextP else wrongP 13
def nodeP (x : Node) : PM S Nat := fun st => if st.nodes.length = 4096 then some (.error (15, st.tok.at_)) else some (.ok (st.nodes.length, { st with nodes := st.nodes ++ [x] }))
def downP : PM S Unit := fun st => if st.deep = 40 then some (.error (15, st.tok.at_)) else some (.ok ((), { st with deep := st.deep + 1 }))
def upP : PM S Unit := fun st => if st.deep = 0 then none else some (.ok ((), { st with deep := st.deep - 1 }))
def nodeAtP (x : Nat) : PM S Node := fun st => match st.nodes[x]? with | some d => some (.ok (d, st)) | none => none
def loopP (body : α → PM S (Sum α β)) : Nat → α → PM S β
  | 0, _ => fun _ => none
  | n + 1, a => do
    match ← body a with
    | .inl a' => loopP body n a'
    | .inr b => pure b
def ops : List (List UInt8) := [[42], [47], [37], [43], [45], [60, 60], [62, 62], [60], [60, 61], [62], [62, 61], [61, 61], [33, 61], [38], [94], [124], [38, 38], [124, 124]]
def opOf : List (List UInt8) → Nat → List UInt8 → Nat
  | [], _, _ => 0
  | x :: r, k, s => if x = s then k else opOf r (k + 1) s
def binOp (s : List UInt8) : Nat := opOf ops 4 s
def level (op : Nat) : Nat := [0, 0, 0, 0, 10, 10, 10, 9, 9, 8, 8, 7, 7, 7, 7, 6, 6, 5, 4, 3, 2, 1].getD op 0
def listB (ex : Nat → PM S Nat) (acc : List Nat) : PM S (Sum (List Nat) (List Nat)) := do
  let x ← ex 1
  if ← takeP [41] then pure (.inr (acc ++ [x])) else do
    mustP [44]
    pure (.inl (acc ++ [x]))
def listP (ex : Nat → PM S Nat) (n : Nat) : PM S (List Nat) := do
  if ← takeP [41] then pure [] else loopP (listB ex) n []
def primaryP (ex : Nat → PM S Nat) (n : Nat) : PM S Nat := do
  let t ← tokP
  if t.kind = 3 then do
    let _ ← nextP
    nodeP ⟨1, t.at_, [], t.n, 0, []⟩
  else if t.kind = 4 then do
    let _ ← nextP
    nodeP ⟨2, t.at_, t.text, 0, 0, []⟩
  else if t.kind = 1 then do
    let _ ← nextP
    if ← isP [40] then do
      let _ ← nextP
      let l ← listP ex n
      nodeP ⟨4, t.at_, t.text, 0, 0, l⟩
    else nodeP ⟨3, t.at_, t.text, 0, 0, []⟩
  else do
    mustP [40]
    let x ← ex 1
    mustP [41]
    pure x
def indexB (ex : Nat → PM S Nat) (x : Nat) : PM S (Sum Nat Nat) := do
  if ← takeP [91] then do
    let i ← ex 1
    mustP [93]
    let a ← nodeAtP x
    let y ← nodeP ⟨5, a.at_, [], 0, 0, [x, i]⟩
    pure (.inl y)
  else pure (.inr x)
def unaryP (op : PM S Nat) (at_ : Nat) (k : Int) : PM S Nat := do
  let x ← op
  nodeP ⟨6, at_, [], k, 0, [x]⟩
def innerP (op : PM S Nat) (ex : Nat → PM S Nat) (n at_ : Nat) : PM S Nat := do
  if ← takeP [45] then unaryP op at_ 1
  else if ← takeP [33] then unaryP op at_ 2
  else if ← takeP [126] then unaryP op at_ 3
  else do
    let x ← primaryP ex n
    loopP (indexB ex) n x
def operandP (op : PM S Nat) (ex : Nat → PM S Nat) (n : Nat) : PM S Nat := do
  downP
  let t ← tokP
  let x ← innerP op ex n t.at_
  upP
  pure x
def exprB (ex : Nat → PM S Nat) (lvl : Nat) (x : Nat) : PM S (Sum Nat Nat) := do
  let t ← tokP
  let o := if t.kind = 5 then binOp t.text else 0
  if o = 0 then pure (.inr x)
  else if level o < lvl then pure (.inr x)
  else do
    let _ ← nextP
    let y ← ex (level o + 1)
    let a ← nodeAtP x
    let z ← nodeP ⟨7, a.at_, [], o, 0, [x, y]⟩
    pure (.inl z)
def exprP (op : PM S Nat) (ex : Nat → PM S Nat) (n lvl : Nat) : PM S Nat := do
  let x ← op
  loopP (exprB ex lvl) n x
def exP : Nat → Option Nat → PM S Nat
  | 0, _ => fun _ => none
  | n + 1, none => operandP (exP n none) (fun l => exP n (some l)) n
  | n + 1, some l => exprP (exP n none) (fun l => exP n (some l)) n l
def paramP : PM S (Nat × List UInt8 × Int) := do
  let t ← tokP
  if ← takeP [99, 104, 97, 114] then do
    mustP [42]
    let nm ← kindP 1
    pure (t.at_, nm.text, 2)
  else do
    mustP [105, 110, 116]
    if ← takeP [42] then do
      let nm ← kindP 1
      pure (t.at_, nm.text, 3)
    else do
      let nm ← kindP 1
      pure (t.at_, nm.text, 1)
def blockB (sm : PM S Nat) (acc : List Nat) : PM S (Sum (List Nat) (List Nat)) := do
  if ← isP [125] then pure (.inr acc) else do
    let x ← sm
    pure (.inl (acc ++ [x]))
def blockP (sm : PM S Nat) (n : Nat) : PM S Nat := do
  let t ← tokP
  mustP [123]
  let kids ← loopP (blockB sm) n []
  let _ ← nextP
  nodeP ⟨17, t.at_, [], 0, 0, kids⟩
def conditionP (ex : Nat → PM S Nat) : PM S Nat := do
  mustP [40]
  let x ← ex 1
  mustP [41]
  pure x
def plainP (ex : Nat → PM S Nat) (at_ : Nat) : PM S Nat := do
  let x ← ex 1
  if ← isP [61] then do
    let a ← nodeAtP x
    if a.kind = 3 ∨ a.kind = 5 then do
      let _ ← nextP
      let y ← ex 1
      mustP [59]
      let a ← nodeAtP x
      nodeP ⟨11, a.at_, [], 0, 0, [x, y]⟩
    else wrongP 13
  else do
    mustP [59]
    nodeP ⟨10, at_, [], 0, 0, [x]⟩
def varP (ex : Nat → PM S Nat) : PM S Nat := do
  let x ← paramP
  if ← takeP [61] then do
    let v ← ex 1
    mustP [59]
    nodeP ⟨18, x.1, x.2.1, 0, x.2.2, [v]⟩
  else do
    mustP [59]
    nodeP ⟨18, x.1, x.2.1, 0, x.2.2, []⟩
def ifP (sm : PM S Nat) (ex : Nat → PM S Nat) (at_ : Nat) : PM S Nat := do
  let c ← conditionP ex
  let a ← sm
  if ← takeP [101, 108, 115, 101] then do
    let b ← sm
    nodeP ⟨12, at_, [], 0, 0, [c, a, b]⟩
  else nodeP ⟨12, at_, [], 0, 0, [c, a]⟩
def stepP (sm : PM S Nat) (ex : Nat → PM S Nat) (n at_ : Nat) : PM S Nat := do
  if ← isP [123] then blockP sm n
  else if ← takeP [105, 102] then ifP sm ex at_
  else if ← takeP [119, 104, 105, 108, 101] then do
    let c ← conditionP ex
    let b ← sm
    nodeP ⟨13, at_, [], 0, 0, [c, b]⟩
  else if ← takeP [114, 101, 116, 117, 114, 110] then do
    let x ← ex 1
    mustP [59]
    nodeP ⟨14, at_, [], 0, 0, [x]⟩
  else if ← takeP [98, 114, 101, 97, 107] then do
    mustP [59]
    nodeP ⟨15, at_, [], 0, 0, []⟩
  else if ← takeP [99, 111, 110, 116, 105, 110, 117, 101] then do
    mustP [59]
    nodeP ⟨16, at_, [], 0, 0, []⟩
  else if ← isP [105, 110, 116] then varP ex
  else if ← isP [99, 104, 97, 114] then varP ex
  else plainP ex at_
def stmtP (sm : PM S Nat) (ex : Nat → PM S Nat) (n : Nat) : PM S Nat := do
  downP
  let t ← tokP
  let x ← stepP sm ex n t.at_
  upP
  pure x
def smP : Nat → PM S Nat
  | 0 => fun _ => none
  | n + 1 => stmtP (smP n) (fun l => exP n (some l)) n
def paramsB (acc : List Nat) : PM S (Sum (List Nat) (List Nat)) := do
  let p ← paramP
  let x ← nodeP ⟨18, p.1, p.2.1, 0, p.2.2, []⟩
  if ← takeP [41] then pure (.inr (acc ++ [x])) else do
    mustP [44]
    pure (.inl (acc ++ [x]))
def bodyP (n at_ : Nat) (nm : List UInt8) (kids : List Nat) : PM S Nat := do
  let b ← blockP (smP n) n
  nodeP ⟨22, at_, nm, 0, kids.length, kids ++ [b]⟩
def functionP (n at_ : Nat) (nm : List UInt8) : PM S Nat := do
  let _ ← nextP
  if ← takeP [41] then bodyP n at_ nm [] else do
    let kids ← loopP paramsB n []
    bodyP n at_ nm kids
def arrayP (at_ : Nat) (nm : List UInt8) (ty : Int) : PM S Nat := do
  mustP [91]
  let k ← kindP 3
  mustP [93]
  mustP [59]
  nodeP ⟨21, at_, nm, k.n, ty, []⟩
def declP (n : Nat) : PM S Nat := do
  let t ← tokP
  if ← takeP [99, 104, 97, 114] then do
    let nm ← kindP 1
    arrayP t.at_ nm.text 2
  else do
    mustP [105, 110, 116]
    let nm ← kindP 1
    if ← takeP [59] then nodeP ⟨20, t.at_, nm.text, 0, 1, []⟩
    else if ← isP [40] then functionP n t.at_ nm.text
    else arrayP t.at_ nm.text 3
def declB (n : Nat) (acc : List Nat) : PM S (Sum (List Nat) (List Nat)) := do
  let t ← tokP
  if t.kind = 0 then pure (.inr acc) else do
    let x ← declP n
    pure (.inl (acc ++ [x]))
def wholeP (n : Nat) : PM S Nat := do
  let kids ← loopP (declB n) n []
  nodeP ⟨23, 0, [], 0, 0, kids⟩
end
def strm (s : List UInt8) : Strm where
  Pos := Nat
  nxt := fun a => match cut s a with
    | (f, none) => .inl f
    | (_, some (t, q)) => .inr (t, q)
def readP (S : Strm) (q : S.Pos) (n : Nat) : Option (Except Flt (List Node)) :=
  match S.nxt q with
  | .inl f => some (.error (13, f))
  | .inr (t, q) => match wholeP (S := S) n ⟨t, q, [], 0⟩ with
    | none => none
    | some (.error e) => some (.error e)
    | some (.ok (_, st)) => some (.ok st.nodes)
end Go.Front

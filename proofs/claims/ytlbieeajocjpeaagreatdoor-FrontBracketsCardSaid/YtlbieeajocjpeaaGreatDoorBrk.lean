/- FrontBrackets: two streams, one parser; what stands ahead of a line's end does not look behind it; the reference's tokens; what the function answers. -/
import Derived.Test.YtlbieeajocjpeaaGreatDoorShown
set_option linter.unusedSimpArgs false
set_option linter.unusedVariables false
namespace Go.Front
def opOfTok (t : Tok) : Nat := if t.kind = 5 then binOp t.text else 0
def tokEq (t1 t2 : Tok) : Prop := t1.kind = t2.kind ∧ t1.text = t2.text ∧ t1.n = t2.n
theorem tokEq.isB {t1 t2 : Tok} (h : tokEq t1 t2) (m : List UInt8) : isB t1 m = isB t2 m := by unfold Front.isB; rw [h.1, h.2.1]
theorem tokEq.op {t1 t2 : Tok} (h : tokEq t1 t2) : opOfTok t1 = opOfTok t2 := by unfold opOfTok; rw [h.1, h.2.1]
structure SimS (S1 S2 : Strm) where
  rel : S1.Pos → S2.Pos → Prop
  fin : S1.Pos → S2.Pos → Prop
  ok : ∀ q1 q2 t1 q1', rel q1 q2 → S1.nxt q1 = .inr (t1, q1') → ∃ t2 q2', S2.nxt q2 = .inr (t2, q2') ∧ ((tokEq t1 t2 ∧ rel q1' q2') ∨ (t1.kind = 5 ∧ t1.text = [59] ∧ t2.kind = 5 ∧ t2.text = [41] ∧ fin q1' q2'))
section
variable {S1 S2 : Strm} {K : SimS S1 S2} {c : Nat} {α α1 α2 β β1 β2 γ : Type} {st1 : PS S1} {st2 : PS S2}
structure StR (K : SimS S1 S2) (c : Nat) (st1 : PS S1) (st2 : PS S2) : Prop where
  nodes : st1.nodes.map Node.strip = st2.nodes.map Node.strip
  deep : st2.deep = st1.deep + c
  tok : (tokEq st1.tok st2.tok ∧ K.rel st1.pos st2.pos) ∨ (st1.tok.kind = 5 ∧ st1.tok.text = [59] ∧ st2.tok.kind = 5 ∧ st2.tok.text = [41] ∧ K.fin st1.pos st2.pos)
theorem StR.len (h : StR K c st1 st2) : st1.nodes.length = st2.nodes.length := by have := congrArg List.length h.nodes; simpa using this
theorem StR.isB (h : StR K c st1 st2) {m : List UInt8} (h1 : m ≠ [59]) (h2 : m ≠ [41]) : Front.isB st1.tok m = Front.isB st2.tok m := by
  rcases h.tok with ⟨h3, _⟩ | ⟨h3, h4, h5, h6, _⟩
  · exact h3.isB m
  · unfold Front.isB; rw [h3, h4, h5, h6]
    have e1 : ([59] == m) = false := by simpa using Ne.symm h1
    have e2 : ([41] == m) = false := by simpa using Ne.symm h2
    rw [e1, e2]
theorem StR.op (h : StR K c st1 st2) : opOfTok st1.tok = opOfTok st2.tok := by
  rcases h.tok with ⟨h3, _⟩ | ⟨h3, h4, h5, h6, _⟩
  · exact h3.op
  · unfold opOfTok; rw [h3, h4, h5, h6]; rfl
theorem StR.kind (h : StR K c st1 st2) : st1.tok.kind = st2.tok.kind := by
  rcases h.tok with ⟨h3, _⟩ | ⟨h3, h4, h5, h6, _⟩
  · exact h3.1
  · rw [h3, h5]
theorem StR.side (h : StR K c st1 st2) {m : List UInt8} (hm : Front.isB st1.tok m = true) (h1 : m ≠ [59]) : tokEq st1.tok st2.tok ∧ K.rel st1.pos st2.pos := by
  rcases h.tok with h3 | ⟨h3, h4, _⟩
  · exact h3
  · unfold Front.isB at hm
    rw [h4] at hm
    have e1 : ([59] == m) = false := by simpa using Ne.symm h1
    rw [e1] at hm; simp at hm
theorem StR.sideK (h : StR K c st1 st2) (hk : st1.tok.kind ≠ 5) : tokEq st1.tok st2.tok ∧ K.rel st1.pos st2.pos := by
  rcases h.tok with h3 | ⟨h3, _⟩
  · exact h3
  · exact absurd h3 hk
def OkS (K : SimS S1 S2) (c : Nat) (m1 : PM S1 α1) (m2 : PM S2 α2) (Rr : α1 → α2 → Prop) (st1 : PS S1) (st2 : PS S2) : Prop :=
  ∀ a st1', m1 st1 = some (.ok (a, st1')) → (c ≠ 0 ∧ ∃ e, m2 st2 = some (.error e)) ∨ ∃ b st2', m2 st2 = some (.ok (b, st2')) ∧ Rr a b ∧ StR K c st1' st2'
theorem OkS.bind {m1 : PM S1 α1} {m2 : PM S2 α2} {k1 : α1 → PM S1 β1} {k2 : α2 → PM S2 β2} {Rr : α1 → α2 → Prop} {Rs : β1 → β2 → Prop} (h : OkS K c m1 m2 Rr st1 st2)
    (g : ∀ a b st1' st2', Rr a b → StR K c st1' st2' → m1 st1 = some (.ok (a, st1')) → OkS K c (k1 a) (k2 b) Rs st1' st2') : OkS K c (m1 >>= k1) (m2 >>= k2) Rs st1 st2 := by
  intro x st1' hx
  rcases PM.bind_some hx with ⟨e, _, h2⟩ | ⟨a, st1'', h1, h2⟩
  · cases h2
  · rcases h a st1'' h1 with ⟨hc, e, he⟩ | ⟨b, st2'', hb, hr, hs⟩
    · exact .inl ⟨hc, e, PM.bind_err he⟩
    · rcases g a b st1'' st2'' hr hs h1 x st1' h2 with ⟨hc, e, he⟩ | ⟨y, st2', hy, hr', hs'⟩
      · exact .inl ⟨hc, e, by rw [PM.bind_ok hb]; exact he⟩
      · exact .inr ⟨y, st2', by rw [PM.bind_ok hb]; exact hy, hr', hs'⟩
theorem OkS.pure {a : α1} {b : α2} {Rr : α1 → α2 → Prop} (h : StR K c st1 st2) (hr : Rr a b) : OkS K c (Pure.pure a : PM S1 α1) (Pure.pure b : PM S2 α2) Rr st1 st2 := by
  intro x st1' hx
  rw [PM.pure_ap] at hx; cases hx
  exact .inr ⟨b, st2, rfl, hr, h⟩
theorem OkS.tok {Rr : Tok → Tok → Prop} (h : StR K c st1 st2) (hr : Rr st1.tok st2.tok) : OkS K c tokP tokP Rr st1 st2 := by
  intro x st1' hx; cases hx
  exact .inr ⟨_, _, rfl, hr, h⟩
theorem OkS.is {m : List UInt8} (h : StR K c st1 st2) (h1 : m ≠ [59]) (h2 : m ≠ [41]) : OkS K c (isP m) (isP m) (fun a b => a = b ∧ a = Front.isB st1.tok m) st1 st2 := by
  intro x st1' hx; cases hx
  exact .inr ⟨_, _, rfl, ⟨h.isB h1 h2, rfl⟩, h⟩
theorem OkS.next (h : StR K c st1 st2) (hn : tokEq st1.tok st2.tok ∧ K.rel st1.pos st2.pos) : OkS K c nextP nextP tokEq st1 st2 := by
  intro x st1' hx
  unfold nextP at hx
  cases hq : S1.nxt st1.pos with
  | inl f => rw [hq] at hx; cases hx
  | inr y =>
    obtain ⟨t1, q1⟩ := y
    rw [hq] at hx
    cases hx
    obtain ⟨t2, q2, h2, h3⟩ := K.ok _ _ _ _ hn.2 hq
    refine .inr ⟨st2.tok, { st2 with tok := t2, pos := q2 }, by unfold nextP; rw [h2], hn.1, h.nodes, h.deep, h3⟩
theorem OkS.takeS {m : List UInt8} (h : StR K c st1 st2) (hn : tokEq st1.tok st2.tok ∧ K.rel st1.pos st2.pos) : OkS K c (takeP m) (takeP m) (fun a b => a = b) st1 st2 := by
  intro x st1' hx
  have e2 := hn.1.isB m
  unfold takeP at hx ⊢
  rw [PM.bind_ok (m := isP m) (st' := st1) (a := Front.isB st1.tok m) rfl] at hx
  rw [PM.bind_ok (m := isP m) (st' := st2) (a := Front.isB st2.tok m) rfl, ← e2]
  cases hb : Front.isB st1.tok m with
  | true =>
    rw [hb] at hx
    simp only [if_true] at hx ⊢
    exact OkS.bind (OkS.next h hn) (k1 := fun _ => (Pure.pure true : PM S1 Bool)) (k2 := fun _ => (Pure.pure true : PM S2 Bool)) (Rs := fun a b => a = b) (fun _ _ s1 s2 _ hs _ => .pure hs rfl) x st1' hx
  | false =>
    rw [hb] at hx
    simp only [Bool.false_eq_true, if_false] at hx ⊢
    cases hx
    exact .inr ⟨_, _, rfl, rfl, h⟩
theorem OkS.take {m : List UInt8} (h : StR K c st1 st2) (h1 : m ≠ [59]) (h2 : m ≠ [41]) : OkS K c (takeP m) (takeP m) (fun a b => a = b) st1 st2 := by
  rcases h.tok with hsd | ⟨h3, h4, h5, h6, _⟩
  · exact .takeS h hsd
  · intro x st1' hx
    have e1 := h.isB h1 h2
    have f1 : Front.isB st1.tok m = false := by
      unfold Front.isB
      have e1 : ([59] == m) = false := by simpa using Ne.symm h1
      rw [h4, e1, Bool.and_false]
    unfold takeP at hx ⊢
    rw [PM.bind_ok (m := isP m) (st' := st1) (a := Front.isB st1.tok m) rfl, f1] at hx
    rw [PM.bind_ok (m := isP m) (st' := st2) (a := Front.isB st2.tok m) rfl, ← e1, f1]
    simp only [Bool.false_eq_true, if_false] at hx ⊢
    cases hx
    exact .inr ⟨_, _, rfl, rfl, h⟩
theorem OkS.must {m : List UInt8} (h : StR K c st1 st2) (h1 : m ≠ [59]) : OkS K c (mustP m) (mustP m) (fun _ _ => True) st1 st2 := by
  intro x st1' hx
  unfold mustP at hx
  cases hb : Front.isB st1.tok m with
  | false =>
    rw [PM.bind_ok (m := isP m) (st' := st1) (a := Front.isB st1.tok m) rfl, hb] at hx
    simp only [Bool.false_eq_true, if_false] at hx
    cases hx
  | true =>
    have hn := h.side hb h1
    have hb2 : Front.isB st2.tok m = true := by rw [← hn.1.isB m]; exact hb
    rw [PM.bind_ok (m := isP m) (st' := st1) (a := Front.isB st1.tok m) rfl, hb] at hx
    simp only [if_true] at hx
    have := OkS.bind (OkS.next h hn) (k1 := fun _ => (Pure.pure () : PM S1 Unit)) (k2 := fun _ => (Pure.pure () : PM S2 Unit)) (Rs := fun _ _ => True) (fun _ _ s1 s2 _ hs _ => .pure hs trivial) x st1' hx
    unfold mustP
    rw [PM.bind_ok (m := isP m) (st' := st2) (a := Front.isB st2.tok m) rfl, hb2]
    simp only [if_true]
    exact this
theorem OkS.node {x y : Node} (h : StR K c st1 st2) (hxy : x.strip = y.strip) : OkS K c (nodeP x) (nodeP y) (fun a b => a = b) st1 st2 := by
  intro a st1' hx
  unfold nodeP at hx ⊢
  have hl := h.len
  by_cases h1 : st1.nodes.length = 4096
  · rw [if_pos h1] at hx; cases hx
  · rw [if_neg h1] at hx
    cases hx
    rw [if_neg (by omega)]
    exact .inr ⟨_, _, rfl, hl, by simp [h.nodes, hxy], h.deep, h.tok⟩
theorem OkS.nodeAt {x : Nat} (h : StR K c st1 st2) : OkS K c (nodeAtP x) (nodeAtP x) (fun a b => a.strip = b.strip) st1 st2 := by
  intro a st1' hx
  unfold nodeAtP at hx ⊢
  cases hy : st1.nodes[x]? with
  | none => rw [hy] at hx; cases hx
  | some y =>
    rw [hy] at hx
    cases hx
    have := congrArg (fun l => l[x]?) h.nodes
    simp only [List.getElem?_map, hy, Option.map_some] at this
    cases hz : st2.nodes[x]? with
    | none => rw [hz] at this; cases this
    | some z => rw [hz] at this; exact .inr ⟨z, st2, rfl, Option.some.inj this, h⟩
theorem OkS.down (h : StR K c st1 st2) : OkS K c downP downP (fun _ _ => True) st1 st2 := by
  intro a st1' hx
  have hd := h.deep
  unfold downP at hx ⊢
  by_cases h1 : st1.deep = 40
  · rw [if_pos h1] at hx; cases hx
  · rw [if_neg h1] at hx
    cases hx
    by_cases h2 : st2.deep = 40
    · rw [if_pos h2]
      exact .inl ⟨fun hc => by omega, _, rfl⟩
    · rw [if_neg h2]
      exact .inr ⟨(), _, rfl, trivial, h.nodes, by show st2.deep + 1 = st1.deep + 1 + c; omega, h.tok⟩
theorem OkS.up (h : StR K c st1 st2) : OkS K c upP upP (fun _ _ => True) st1 st2 := by
  intro a st1' hx
  have hd := h.deep
  unfold upP at hx ⊢
  by_cases h1 : st1.deep = 0
  · rw [if_pos h1] at hx; cases hx
  · rw [if_neg h1] at hx
    cases hx
    rw [if_neg (by omega)]
    exact .inr ⟨(), _, rfl, trivial, h.nodes, by show st2.deep - 1 = st1.deep - 1 + c; omega, h.tok⟩
theorem OkS.loop {b1 : α1 → PM S1 (Sum α1 β1)} {b2 : α2 → PM S2 (Sum α2 β2)} {Ra : α1 → α2 → Prop} {Rb : β1 → β2 → Prop}
    (h : ∀ a b st1 st2, Ra a b → StR K c st1 st2 → OkS K c (b1 a) (b2 b) (fun x y => (∃ p q, x = .inl p ∧ y = .inl q ∧ Ra p q) ∨ ∃ p q, x = .inr p ∧ y = .inr q ∧ Rb p q) st1 st2) :
    ∀ (n1 n2 : Nat) (a : α1) (b : α2) (st1 : PS S1) (st2 : PS S2), n1 ≤ n2 → Ra a b → StR K c st1 st2 → OkS K c (loopP b1 n1 a) (loopP b2 n2 b) Rb st1 st2
  | 0, n2, a, b, st1, st2, _, _, _ => fun x s hx => by cases hx
  | n1 + 1, 0, a, b, st1, st2, hn, _, _ => by omega
  | n1 + 1, n2 + 1, a, b, st1, st2, hn, hab, hs => by
    unfold loopP
    refine .bind (h a b st1 st2 hab hs) fun x y s1 s2 hxy hs' _ => ?_
    rcases hxy with ⟨p, q, rfl, rfl, hpq⟩ | ⟨p, q, rfl, rfl, hpq⟩
    · exact OkS.loop h n1 n2 p q s1 s2 (by omega) hpq hs'
    · exact .pure hs' hpq
theorem take_no {S : Strm} {m : List UInt8} {st : PS S} {k : Bool → PM S α} (h : Front.isB st.tok m = false) : (takeP m >>= k) st = k false st := by
  refine PM.bind_ok ?_
  unfold takeP
  rw [PM.bind_ok (m := isP m) (st' := st) (a := Front.isB st.tok m) rfl, h]
  rfl
theorem must_no {S : Strm} {m : List UInt8} {st : PS S} {k : Unit → PM S α} (h : Front.isB st.tok m = false) : (mustP m >>= k) st = some (.error (13, st.tok.at_)) := by
  refine PM.bind_err ?_
  unfold mustP
  rw [PM.bind_ok (m := isP m) (st' := st) (a := Front.isB st.tok m) rfl, h]
  rfl
theorem isB_end {t : Tok} (ht : t.text = [59]) {m : List UInt8} (h : m ≠ [59]) : Front.isB t m = false := by
  unfold Front.isB
  have e1 : ([59] == m) = false := by simpa using Ne.symm h
  rw [ht, e1, Bool.and_false]
theorem operand_end {S : Strm} {op : PM S Nat} {ex : Nat → PM S Nat} {n : Nat} {st : PS S} (hk : st.tok.kind = 5) (ht : st.tok.text = [59]) : ∀ a st', operandP op ex n st ≠ some (.ok (a, st')) := by
  intro a st' h
  unfold operandP at h
  rcases PM.bind_some h with ⟨e, _, h2⟩ | ⟨u, s1, h1, h2⟩
  · cases h2
  have ht1 : s1.tok = st.tok := by
    unfold downP at h1
    split at h1
    · cases h1
    · cases h1; rfl
  have hT : s1.tok.text = [59] := by rw [ht1]; exact ht
  rw [PM.bind_ok (m := tokP) (a := s1.tok) (st' := s1) rfl] at h2
  have hin : innerP op ex n s1.tok.at_ s1 = some (.error (13, s1.tok.at_)) := by
    unfold innerP
    rw [take_no (isB_end hT (by decide))]
    simp only [Bool.false_eq_true, if_false]
    rw [take_no (isB_end hT (by decide))]
    simp only [Bool.false_eq_true, if_false]
    rw [take_no (isB_end hT (by decide))]
    simp only [Bool.false_eq_true, if_false]
    refine PM.bind_err ?_
    unfold primaryP
    rw [PM.bind_ok (m := tokP) (a := s1.tok) (st' := s1) rfl]
    have hk1 : s1.tok.kind = 5 := by rw [ht1]; exact hk
    rw [if_neg (by omega), if_neg (by omega), if_neg (by omega)]
    exact must_no (isB_end hT (by decide))
  rw [PM.bind_err hin] at h2
  cases h2
theorem ex_end {S : Strm} : ∀ (n : Nat) (x : Option Nat) {st : PS S}, st.tok.kind = 5 → st.tok.text = [59] → ∀ a st', exP n x st ≠ some (.ok (a, st'))
  | 0, x, st, hk, ht, a, st' => fun h => by cases h
  | n + 1, none, st, hk, ht, a, st' => fun h => operand_end hk ht a st' h
  | n + 1, some l, st, hk, ht, a, st' => fun h => by
    unfold exP exprP at h
    rcases PM.bind_some h with ⟨e, _, h2⟩ | ⟨u, s1, h1, h2⟩
    · cases h2
    · exact ex_end n none hk ht _ _ h1
section
variable {op1 : PM S1 Nat} {op2 : PM S2 Nat} {ex1 : Nat → PM S1 Nat} {ex2 : Nat → PM S2 Nat} {n1 n2 : Nat}
def SumR (x y : Sum α β) : Prop := (∃ p q, x = .inl p ∧ y = .inl q ∧ p = q) ∨ ∃ p q, x = .inr p ∧ y = .inr q ∧ p = q
theorem SumR.l {a : α} : SumR (.inl a : Sum α β) (.inl a) := .inl ⟨a, a, rfl, rfl, rfl⟩
theorem SumR.r {b : β} : SumR (.inr b : Sum α β) (.inr b) := .inr ⟨b, b, rfl, rfl, rfl⟩
structure Ge (K : SimS S1 S2) (c : Nat) (ex1 : Nat → PM S1 Nat) (ex2 : Nat → PM S2 Nat) : Prop where
  go : ∀ l st1 st2, StR K c st1 st2 → OkS K c (ex1 l) (ex2 l) (fun a b => a = b) st1 st2
  no : ∀ l (st : PS S1), st.tok.kind = 5 → st.tok.text = [59] → ∀ a st', ex1 l st ≠ some (.ok (a, st'))
theorem OkS.listB (he : Ge K c ex1 ex2) (acc : List Nat) (h : StR K c st1 st2) : OkS K c (listB ex1 acc) (listB ex2 acc) SumR st1 st2 := by
  unfold Front.listB
  refine .bind (he.go 1 _ _ h) fun a b s1 s2 hab hs _ => ?_
  subst hab
  rcases hs.tok with hsd | ⟨h3, h4, _⟩
  · refine .bind (.takeS hs hsd) fun a b s1 s2 hab hs _ => ?_
    subst hab
    cases a with
    | true => simp only [if_true]; exact .pure hs .r
    | false =>
      simp only [Bool.false_eq_true, if_false]
      exact .bind (.must hs (by decide)) fun _ _ s1 s2 _ hs _ => .pure hs .l
  · intro x st1' hx
    rw [take_no (isB_end h4 (by decide))] at hx
    simp only [Bool.false_eq_true, if_false] at hx
    rw [must_no (isB_end h4 (by decide))] at hx
    cases hx
theorem OkS.list (he : Ge K c ex1 ex2) (hn : n1 ≤ n2) (h : StR K c st1 st2) : OkS K c (listP ex1 n1) (listP ex2 n2) (fun a b => a = b) st1 st2 := by
  unfold listP
  rcases h.tok with hsd | ⟨h3, h4, _⟩
  · refine .bind (.takeS h hsd) fun a b s1 s2 hab hs _ => ?_
    subst hab
    cases a with
    | true => simp only [if_true]; exact .pure hs rfl
    | false =>
      simp only [Bool.false_eq_true, if_false]
      exact .loop (Ra := fun a b => a = b) (fun a b s1 s2 hab hs => by subst hab; exact .listB he a hs) n1 n2 [] [] s1 s2 hn rfl hs
  · intro x st1' hx
    rw [take_no (isB_end h4 (by decide))] at hx
    simp only [Bool.false_eq_true, if_false] at hx
    cases n1 with
    | zero => cases hx
    | succ n1 =>
      unfold loopP Front.listB at hx
      rcases PM.bind_some hx with ⟨e, _, h2⟩ | ⟨u, s1, h1, h2⟩
      · cases h2
      · rcases PM.bind_some h1 with ⟨e, _, h2⟩ | ⟨u2, s2, h1, h2⟩
        · cases h2
        · exact absurd h1 (he.no 1 _ h3 h4 _ _)
theorem OkS.primary (he : Ge K c ex1 ex2) (hn : n1 ≤ n2) (h : StR K c st1 st2) : OkS K c (primaryP ex1 n1) (primaryP ex2 n2) (fun a b => a = b) st1 st2 := by
  intro x st1' hx
  unfold primaryP at hx ⊢
  rw [PM.bind_ok (m := tokP) (a := st1.tok) (st' := st1) rfl] at hx
  rw [PM.bind_ok (m := tokP) (a := st2.tok) (st' := st2) rfl]
  have hk := h.kind
  by_cases h3 : st1.tok.kind = 3
  · have hsd := h.sideK (by omega)
    rw [if_pos h3] at hx
    rw [if_pos (by omega)]
    exact OkS.bind (OkS.next h hsd) (fun _ _ s1 s2 _ hs _ => .node hs (by simp only [Node.strip]; rw [hsd.1.2.2])) x st1' hx
  by_cases h4 : st1.tok.kind = 4
  · have hsd := h.sideK (by omega)
    rw [if_neg h3, if_pos h4] at hx
    rw [if_neg (by omega), if_pos (by omega)]
    exact OkS.bind (OkS.next h hsd) (fun _ _ s1 s2 _ hs _ => .node hs (by simp only [Node.strip]; rw [hsd.1.2.1])) x st1' hx
  by_cases h1 : st1.tok.kind = 1
  · have hsd := h.sideK (by omega)
    rw [if_neg h3, if_neg h4, if_pos h1] at hx
    rw [if_neg (by omega), if_neg (by omega), if_pos (by omega)]
    refine OkS.bind (Rs := fun a b => a = b) (OkS.next h hsd) (fun _ _ s1 s2 _ hs _ => ?_) x st1' hx
    refine .bind (.is hs (by decide) (by decide)) fun a b s3 s4 hab hs' hi => ?_
    obtain ⟨rfl, ha⟩ := hab
    cases hi
    cases hb : Front.isB s1.tok [40] with
    | true =>
      simp only [if_true]
      refine .bind (.next hs' ?_) fun _ _ s5 s6 _ hs5 _ => .bind (.list he hn hs5) fun l l' s7 s8 hl hs7 _ => ?_
      · exact hs'.side hb (by decide)
      · subst hl
        exact .node hs7 (by simp only [Node.strip]; rw [hsd.1.2.1])
    | false =>
      simp only [Bool.false_eq_true, if_false]
      exact .node hs' (by simp only [Node.strip]; rw [hsd.1.2.1])
  · rw [if_neg h3, if_neg h4, if_neg h1] at hx
    rw [if_neg (by omega), if_neg (by omega), if_neg (by omega)]
    refine OkS.bind (Rs := fun a b => a = b) (OkS.must h (by decide)) (fun _ _ s1 s2 _ hs _ => ?_) x st1' hx
    refine .bind (he.go 1 _ _ hs) fun a b s3 s4 hab hs3 _ => ?_
    subst hab
    exact .bind (.must hs3 (by decide)) fun _ _ s5 s6 _ hs5 _ => .pure hs5 rfl
theorem OkS.index (he : Ge K c ex1 ex2) (x : Nat) (h : StR K c st1 st2) : OkS K c (indexB ex1 x) (indexB ex2 x) SumR st1 st2 := by
  unfold indexB
  refine .bind (.take h (by decide) (by decide)) fun a b s1 s2 hab hs _ => ?_
  subst hab
  cases a with
  | true =>
    simp only [if_true]
    refine .bind (he.go 1 _ _ hs) fun i i' s1 s2 hab hs _ => ?_
    subst hab
    refine .bind (.must hs (by decide)) fun _ _ s1 s2 _ hs _ => .bind (.nodeAt hs) fun a b s1 s2 hab hs _ => ?_
    refine .bind (.node hs (by simp only [Node.strip])) fun y y' s1 s2 hab hs _ => ?_
    subst hab
    exact .pure hs .l
  | false => simp only [Bool.false_eq_true, if_false]; exact .pure hs .r
theorem OkS.unary {a1 a2 : Nat} {k : Int} (ho : ∀ st1 st2, StR K c st1 st2 → OkS K c op1 op2 (fun a b => a = b) st1 st2) (h : StR K c st1 st2) : OkS K c (unaryP op1 a1 k) (unaryP op2 a2 k) (fun a b => a = b) st1 st2 := by
  unfold unaryP
  refine .bind (ho _ _ h) fun x y s1 s2 hab hs _ => ?_
  subst hab
  exact .node hs (by simp only [Node.strip])
theorem OkS.inner {a1 a2 : Nat} (ho : ∀ st1 st2, StR K c st1 st2 → OkS K c op1 op2 (fun a b => a = b) st1 st2) (he : Ge K c ex1 ex2) (hn : n1 ≤ n2) (h : StR K c st1 st2) :
    OkS K c (innerP op1 ex1 n1 a1) (innerP op2 ex2 n2 a2) (fun a b => a = b) st1 st2 := by
  unfold innerP
  refine .bind (.take h (by decide) (by decide)) fun a b s1 s2 hab hs _ => ?_
  subst hab
  cases a with
  | true => simp only [if_true]; exact .unary ho hs
  | false =>
    simp only [Bool.false_eq_true, if_false]
    refine .bind (.take hs (by decide) (by decide)) fun a b s1 s2 hab hs _ => ?_
    subst hab
    cases a with
    | true => simp only [if_true]; exact .unary ho hs
    | false =>
      simp only [Bool.false_eq_true, if_false]
      refine .bind (.take hs (by decide) (by decide)) fun a b s1 s2 hab hs _ => ?_
      subst hab
      cases a with
      | true => simp only [if_true]; exact .unary ho hs
      | false =>
        simp only [Bool.false_eq_true, if_false]
        refine .bind (.primary he hn hs) fun x y s1 s2 hab hs _ => ?_
        subst hab
        exact .loop (Ra := fun a b => a = b) (fun a b s1 s2 hab hs => by subst hab; exact .index he a hs) n1 n2 x x s1 s2 hn rfl hs
theorem OkS.operand (ho : ∀ st1 st2, StR K c st1 st2 → OkS K c op1 op2 (fun a b => a = b) st1 st2) (he : Ge K c ex1 ex2) (hn : n1 ≤ n2) (h : StR K c st1 st2) :
    OkS K c (operandP op1 ex1 n1) (operandP op2 ex2 n2) (fun a b => a = b) st1 st2 := by
  unfold operandP
  refine .bind (.down h) fun _ _ s1 s2 _ hs _ => .bind (Rr := fun _ _ => True) (.tok hs trivial) fun t1 t2 s1 s2 _ hs _ => .bind (.inner ho he hn hs) fun x y s1 s2 hab hs _ => ?_
  subst hab
  exact .bind (.up hs) fun _ _ s1 s2 _ hs _ => .pure hs rfl
theorem OkS.exprB (he : Ge K c ex1 ex2) (lvl x : Nat) (h : StR K c st1 st2) : OkS K c (Front.exprB ex1 lvl x) (Front.exprB ex2 lvl x) SumR st1 st2 := by
  intro r st1' hx
  unfold Front.exprB at hx ⊢
  rw [PM.bind_ok (m := tokP) (a := st1.tok) (st' := st1) rfl] at hx
  rw [PM.bind_ok (m := tokP) (a := st2.tok) (st' := st2) rfl]
  have ho : (if st1.tok.kind = 5 then binOp st1.tok.text else 0) = (if st2.tok.kind = 5 then binOp st2.tok.text else 0) := h.op
  have hz : (if st1.tok.kind = 5 then binOp st1.tok.text else 0) ≠ 0 → tokEq st1.tok st2.tok ∧ K.rel st1.pos st2.pos := by
    intro hne
    rcases h.tok with h3 | ⟨h3, h4, _⟩
    · exact h3
    · rw [if_pos h3, h4] at hne; exact absurd rfl hne
  rw [← ho]
  generalize (if st1.tok.kind = 5 then binOp st1.tok.text else 0) = o at hx hz ⊢
  by_cases h0 : o = 0
  · rw [if_pos h0] at hx ⊢
    cases hx
    exact .inr ⟨_, _, rfl, .r, h⟩
  rw [if_neg h0] at hx ⊢
  by_cases hl : level o < lvl
  · rw [if_pos hl] at hx ⊢
    cases hx
    exact .inr ⟨_, _, rfl, .r, h⟩
  rw [if_neg hl] at hx ⊢
  refine OkS.bind (Rs := SumR) (OkS.next h (hz h0)) (fun _ _ s1 s2 _ hs _ => ?_) r st1' hx
  refine .bind (he.go _ _ _ hs) fun y y' s1 s2 hab hs _ => ?_
  subst hab
  refine .bind (.nodeAt hs) fun a b s1 s2 hab hs _ => .bind (.node hs (by simp only [Node.strip])) fun z z' s1 s2 hab hs _ => ?_
  subst hab
  exact .pure hs .l
theorem OkS.expr (ho : ∀ st1 st2, StR K c st1 st2 → OkS K c op1 op2 (fun a b => a = b) st1 st2) (he : Ge K c ex1 ex2) (hn : n1 ≤ n2) (l : Nat) (h : StR K c st1 st2) :
    OkS K c (exprP op1 ex1 n1 l) (exprP op2 ex2 n2 l) (fun a b => a = b) st1 st2 := by
  unfold exprP
  refine .bind (ho _ _ h) fun x y s1 s2 hab hs _ => ?_
  subst hab
  exact .loop (Ra := fun a b => a = b) (fun a b s1 s2 hab hs => by subst hab; exact .exprB he l a hs) n1 n2 x x s1 s2 hn rfl hs
end
theorem ex_sim : ∀ (n1 n2 : Nat), n1 ≤ n2 → ∀ (x : Option Nat) (st1 : PS S1) (st2 : PS S2), StR K c st1 st2 → OkS K c (exP n1 x) (exP n2 x) (fun a b => a = b) st1 st2
  | 0, n2, _, x, st1, st2, _ => fun _ _ hx => by cases hx
  | n1 + 1, 0, hn, _, _, _, _ => by omega
  | n1 + 1, n2 + 1, hn, none, st1, st2, h => OkS.operand (ex_sim n1 n2 (by omega) none) ⟨fun l => ex_sim n1 n2 (by omega) (some l), fun l st hk ht => ex_end n1 (some l) hk ht⟩ (by omega) h
  | n1 + 1, n2 + 1, hn, some l, st1, st2, h => OkS.expr (ex_sim n1 n2 (by omega) none) ⟨fun l => ex_sim n1 n2 (by omega) (some l), fun l st hk ht => ex_end n1 (some l) hk ht⟩ (by omega) l h
end
end Go.Front
namespace Go.Front
open Go.Proofs
theorem skip_nl : ∀ (b : Bool) (u : List UInt8), (∃ k, k < u.length ∧ ∀ r, skip b (u ++ 10 :: r) = k) ∨ ∀ r, skip b (u ++ 10 :: r) = u.length + 1 + skip false r
  | true, [] => .inr fun r => by rw [List.nil_append, skip, if_pos (show (10 : UInt8).toNat = 10 from rfl), List.length_nil]; omega
  | false, [] => .inr fun r => by rw [List.nil_append, skip, if_pos (.inr (.inr rfl)), List.length_nil]; omega
  | true, c :: u => by
    by_cases h : c.toNat = 10
    · rcases skip_nl false u with ⟨k, hk, g⟩ | g
      · exact .inl ⟨k + 1, by rw [List.length_cons]; omega, fun r => by rw [List.cons_append, skip, if_pos h, g]⟩
      · exact .inr fun r => by rw [List.cons_append, skip, if_pos h, g, List.length_cons]; omega
    · rcases skip_nl true u with ⟨k, hk, g⟩ | g
      · exact .inl ⟨k + 1, by rw [List.length_cons]; omega, fun r => by rw [List.cons_append, skip, if_neg h, g]⟩
      · exact .inr fun r => by rw [List.cons_append, skip, if_neg h, g, List.length_cons]; omega
  | false, c :: u => by
    by_cases h : c.toNat = 32 ∨ c.toNat = 9 ∨ c.toNat = 10
    · rcases skip_nl false u with ⟨k, hk, g⟩ | g
      · exact .inl ⟨k + 1, by rw [List.length_cons]; omega, fun r => by rw [List.cons_append, skip, if_pos h, g]⟩
      · exact .inr fun r => by rw [List.cons_append, skip, if_pos h, g, List.length_cons]; omega
    have hh : ∀ r, (u ++ 10 :: r).head? = some (u.headD 10) := fun r => by cases u <;> rfl
    by_cases h2 : c.toNat = 47 ∧ some (u.headD 10) = some (47 : UInt8)
    · rcases skip_nl true u with ⟨k, hk, g⟩ | g
      · exact .inl ⟨k + 1, by rw [List.length_cons]; omega, fun r => by rw [List.cons_append, skip, if_neg h, hh, if_pos h2, g]⟩
      · exact .inr fun r => by rw [List.cons_append, skip, if_neg h, hh, if_pos h2, g, List.length_cons]; omega
    · exact .inl ⟨0, by simp, fun r => by rw [List.cons_append, skip, if_neg h, hh, if_neg h2]⟩
theorem tw_nl {f : UInt8 → Bool} (hf : f 10 = false) (v r : List UInt8) : (v ++ 10 :: r).takeWhile f = v.takeWhile f := by
  induction v with
  | nil => simp [hf]
  | cons c v ih => rw [List.cons_append, List.takeWhile_cons, List.takeWhile_cons, ih]
theorem prefix_nl (v r : List UInt8) : ∀ m : List UInt8, (10 : UInt8) ∉ m → m.isPrefixOf (v ++ 10 :: r) = m.isPrefixOf v := by
  induction v with
  | nil =>
    intro m hm
    cases m with
    | nil => rfl
    | cons a m =>
      have : (a == (10 : UInt8)) = false := by
        rw [beq_eq_false_iff_ne]
        rintro rfl
        exact hm (List.mem_cons_self ..)
      rw [List.nil_append]
      show (a == 10 && m.isPrefixOf r) = false
      rw [this]
      rfl
  | cons c v ih =>
    intro m hm
    cases m with
    | nil => rfl
    | cons a m => rw [List.cons_append, List.isPrefixOf, List.isPrefixOf, ih m fun h => hm (List.mem_cons_of_mem _ h)]
theorem find_congr {α : Type} {f g : α → Bool} : ∀ l : List α, (∀ m ∈ l, f m = g m) → l.find? f = l.find? g
  | [], _ => rfl
  | a :: l, h => by rw [List.find?_cons, List.find?_cons, h a (List.mem_cons_self ..), find_congr l fun m hm => h m (List.mem_cons_of_mem _ hm)]
theorem strBody_nl : ∀ (k : Nat) (v : List UInt8) (n : Nat), v.length ≤ k → (∀ r, strBody (v ++ 10 :: r) n = none) ∨ ∃ p, p.2 + 1 ≤ v.length ∧ ∀ r, strBody (v ++ 10 :: r) n = some p
  | _, [], n, _ => .inl fun r => by
    cases r with
    | nil => rfl
    | cons d r => rw [List.nil_append, strBody, if_neg (by decide), if_neg (by decide), if_neg (by decide)]
  | 0, c :: v, n, h => absurd h (by simp)
  | k + 1, [c], n, h => by
    by_cases h1 : c.toNat = 34
    · exact .inr ⟨([], 0), by simp, fun r => by rw [List.cons_append, List.nil_append, strBody, if_pos h1]⟩
    refine .inl fun r => ?_
    rw [List.cons_append, List.nil_append, strBody, if_neg h1]
    by_cases h2 : c.toNat = 92
    · rw [if_pos h2]; rfl
    rw [if_neg h2]
    by_cases h3 : 32 ≤ c.toNat ∧ c.toNat ≤ 126
    · rw [if_pos h3]
      by_cases h4 : n = 100
      · rw [if_pos h4]
      · rw [if_neg h4]
        rcases strBody_nl k [] (n + 1) (by simp) with g | ⟨p, hp, _⟩
        · have := g r; rw [List.nil_append] at this; rw [this]; rfl
        · simp at hp
    · rw [if_neg h3]
  | k + 1, c :: d :: v, n, h => by
    rw [List.length_cons, List.length_cons] at h
    by_cases h1 : c.toNat = 34
    · exact .inr ⟨([], 0), by simp, fun r => by rw [List.cons_append, List.cons_append, strBody, if_pos h1]⟩
    by_cases h2 : c.toNat = 92
    · cases he : esc d with
      | none => exact .inl fun r => by rw [List.cons_append, List.cons_append, strBody, if_neg h1, if_pos h2, he]
      | some b =>
        by_cases hb : b = 0 ∨ n = 100
        · exact .inl fun r => by rw [List.cons_append, List.cons_append, strBody, if_neg h1, if_pos h2, he]; simp only; rw [if_pos hb]
        · rcases strBody_nl k v (n + 1) (by omega) with g | ⟨p, hp, g⟩
          · exact .inl fun r => by rw [List.cons_append, List.cons_append, strBody, if_neg h1, if_pos h2, he]; simp only; rw [if_neg hb, g]; rfl
          · exact .inr ⟨(b :: p.1, p.2 + 2), by rw [List.length_cons, List.length_cons]; simp only; omega, fun r => by rw [List.cons_append, List.cons_append, strBody, if_neg h1, if_pos h2, he]; simp only; rw [if_neg hb, g]; rfl⟩
    by_cases h3 : 32 ≤ c.toNat ∧ c.toNat ≤ 126
    · by_cases h4 : n = 100
      · exact .inl fun r => by rw [List.cons_append, List.cons_append, strBody, if_neg h1, if_neg h2, if_pos h3, if_pos h4]
      · rcases strBody_nl k (d :: v) (n + 1) (by rw [List.length_cons]; omega) with g | ⟨p, hp, g⟩
        · exact .inl fun r => by
            rw [List.cons_append, List.cons_append, strBody, if_neg h1, if_neg h2, if_pos h3, if_neg h4]
            have := g r
            rw [List.cons_append] at this
            rw [this]; rfl
        · exact .inr ⟨(c :: p.1, p.2 + 1), by rw [List.length_cons] at hp ⊢; rw [List.length_cons]; simp only; omega, fun r => by
            rw [List.cons_append, List.cons_append, strBody, if_neg h1, if_neg h2, if_pos h3, if_neg h4]
            have := g r
            rw [List.cons_append] at this
            rw [this]; rfl⟩
    · exact .inl fun r => by rw [List.cons_append, List.cons_append, strBody, if_neg h1, if_neg h2, if_neg h3]
abbrev OneR := Nat × List UInt8 × Int × Nat
def Same1 (v : List UInt8) (f : List UInt8 → Option OneR) : Prop := (∀ r, f r = none) ∨ ∃ p : OneR, p.2.2.2 ≤ v.length ∧ ∀ r, f r = some p
theorem Same1.of {v : List UInt8} {f : List UInt8 → Option OneR} (o : Option OneR) (h : ∀ r, f r = o) (hl : ∀ p, o = some p → p.2.2.2 ≤ v.length) : Same1 v f := by
  cases o with
  | none => exact .inl h
  | some p => exact .inr ⟨p, hl p rfl, h⟩
theorem tw_len {f : UInt8 → Bool} : ∀ v : List UInt8, (v.takeWhile f).length ≤ v.length
  | [] => Nat.le_refl _
  | c :: v => by
    rw [List.takeWhile_cons]
    split
    · rw [List.length_cons, List.length_cons]; have := tw_len (f := f) v; omega
    · simp
theorem esc1 {q : Nat} {c d : UInt8} {r : List UInt8} (h : c.toNat = 92) : escape q (c :: d :: r) = (esc d).map fun b => (b, 2) := by unfold escape; dsimp only; rw [if_pos h]
theorem escY {q : Nat} {c : UInt8} {r : List UInt8} (h : c.toNat ≠ 92) (g : 32 ≤ c.toNat ∧ c.toNat ≤ 126 ∧ c.toNat ≠ q) : escape q (c :: r) = some (c, 1) := by unfold escape; dsimp only; rw [if_neg h, if_pos g]
theorem escN {q : Nat} {c : UInt8} {r : List UInt8} (h : c.toNat ≠ 92) (g : ¬ (32 ≤ c.toNat ∧ c.toNat ≤ 126 ∧ c.toNat ≠ q)) : escape q (c :: r) = none := by unfold escape; dsimp only; rw [if_neg h, if_neg g]
def chrOf (w : List UInt8) : Option (UInt8 × Nat) → Option OneR
  | some p => if (w.drop p.2).head? = some 39 then some (3, [], (p.1.toNat : Int), p.2 + 2) else none
  | none => none
theorem one_nl {v : List UInt8} (hv : v ≠ []) : Same1 v fun r => one (v ++ 10 :: r) := by
  cases v with
  | nil => exact absurd rfl hv
  | cons c w =>
    have e (r : List UInt8) : c :: (w ++ 10 :: r) = (c :: w) ++ 10 :: r := rfl
    by_cases h1 : isLetter c = true
    · refine .of (let t := (c :: w).takeWhile fun c => isLetter c || isDigit c
        if words.contains t then some (2, t, 0, t.length) else if t.length ≤ 14 then some (1, t, 0, t.length) else none) (fun r => ?_) fun p hp => ?_
      · rw [List.cons_append]
        unfold one
        dsimp only
        rw [if_pos h1, e, tw_nl (by decide)]
      · have hl := tw_len (f := fun c => isLetter c || isDigit c) (c :: w)
        simp only at hp
        split at hp
        · cases hp; exact hl
        · split at hp
          · cases hp; exact hl
          · cases hp
    by_cases h2 : isDigit c = true
    · refine .of (let t := (c :: w).takeWhile isDigit
        numOf c t (Lib.parseIntB 64 t)) (fun r => ?_) fun p hp => ?_
      · rw [List.cons_append]
        unfold one
        dsimp only
        rw [if_neg h1, if_pos h2, e, tw_nl (by decide)]
      · have hl := tw_len (f := isDigit) (c :: w)
        simp only at hp
        unfold numOf at hp
        split at hp
        · split at hp
          · cases hp
          · cases hp; exact hl
        · cases hp
    by_cases h3 : c.toNat = 34
    · rcases strBody_nl w.length w 0 (Nat.le_refl _) with g | ⟨p, hp, g⟩
      · refine .of none (fun r => ?_) nofun
        rw [List.cons_append]
        unfold one
        dsimp only
        rw [if_neg h1, if_neg h2, if_pos h3, g]; rfl
      · refine .of (some (4, p.1, 0, p.2 + 2)) (fun r => ?_) fun q hq => by cases hq; rw [List.length_cons]; simp only; omega
        rw [List.cons_append]
        unfold one
        dsimp only
        rw [if_neg h1, if_neg h2, if_pos h3, g]; rfl
    by_cases h4 : c.toNat = 39
    · have u (r : List UInt8) : one (c :: w ++ 10 :: r) = chrOf (w ++ 10 :: r) (escape 39 (w ++ 10 :: r)) := by
        rw [List.cons_append]
        unfold one
        dsimp only
        rw [if_neg h1, if_neg h2, if_neg h3, if_pos h4]
        cases escape 39 (w ++ 10 :: r) <;> rfl
      cases w with
      | nil => exact .of none (fun r => by rw [u, List.nil_append, escN (by decide) (by decide)]; rfl) nofun
      | cons a w =>
        by_cases ha : a.toNat = 92
        · cases w with
          | nil => exact .of none (fun r => by
              have := u r
              rw [List.cons_append, List.cons_append, List.nil_append, esc1 ha] at this
              rw [List.cons_append, List.cons_append, List.nil_append, this]; rfl) nofun
          | cons d w =>
            cases hd : esc d with
            | none => exact .of none (fun r => by rw [u, List.cons_append, List.cons_append, esc1 ha, hd]; rfl) nofun
            | some b =>
              have hh : ∀ r, (w ++ 10 :: r).head? = some (w.headD 10) := fun r => by cases w <;> rfl
              refine .of (if some (w.headD 10) = some (39 : UInt8) then some (3, [], (b.toNat : Int), 2 + 2) else none) (fun r => ?_) fun p hp => ?_
              · rw [u, List.cons_append, List.cons_append, esc1 ha, hd]; simp only [Option.map_some, chrOf, List.drop_succ_cons, List.drop_zero, hh]
              · split at hp
                · next h => cases hp; cases w with
                  | nil => exact absurd h (by decide)
                  | cons x w => simp only [List.length_cons]; omega
                · cases hp
        · by_cases hb : 32 ≤ a.toNat ∧ a.toNat ≤ 126 ∧ a.toNat ≠ 39
          · have hh : ∀ r, (w ++ 10 :: r).head? = some (w.headD 10) := fun r => by cases w <;> rfl
            refine .of (if some (w.headD 10) = some (39 : UInt8) then some (3, [], (a.toNat : Int), 1 + 2) else none) (fun r => ?_) fun p hp => ?_
            · rw [u, List.cons_append, escY ha hb]; simp only [chrOf, List.drop_succ_cons, List.drop_zero, hh]
            · split at hp
              · next h => cases hp; cases w with
                | nil => exact absurd h (by decide)
                | cons x w => simp only [List.length_cons]; omega
              · cases hp
          · exact .of none (fun r => by rw [u, List.cons_append, escN ha hb]; rfl) nofun
    · refine .of ((marks.find? fun m => m.isPrefixOf (c :: w)).map fun m => (5, m, 0, m.length)) (fun r => ?_) fun p hp => ?_
      · rw [List.cons_append]
        unfold one
        dsimp only
        rw [if_neg h1, if_neg h2, if_neg h3, if_neg h4, e]
        exact congrArg _ (find_congr marks fun m hm => prefix_nl _ _ _ ((by decide : ∀ m ∈ marks, (10 : UInt8) ∉ m) m hm))
      · cases hf : marks.find? fun m => m.isPrefixOf (c :: w) with
        | none => rw [hf] at hp; cases hp
        | some m =>
          rw [hf] at hp; cases hp
          have := List.find?_some hf
          exact (List.isPrefixOf_iff_prefix.1 this).length_le
theorem cut_nl {x : List UInt8} {i : Nat} (hi : i ≤ x.length) :
    (∃ k, i + k < x.length ∧ ∀ p r, cut (p ++ (x ++ 10 :: r)) (p.length + i) = (p.length + (i + k), (one (x.drop (i + k) ++ 10 :: r)).map fun q => (⟨q.1, p.length + (i + k), q.2.1, q.2.2.1⟩, p.length + (i + k) + q.2.2.2))) ∨
    ∀ p r, cut (p ++ (x ++ 10 :: r)) (p.length + i) = cut (p ++ (x ++ 10 :: r)) (p.length + x.length + 1) := by
  have hd (p r : List UInt8) (j : Nat) (hj : j ≤ x.length) : (p ++ (x ++ 10 :: r)).drop (p.length + j) = x.drop j ++ 10 :: r := by
    rw [List.drop_append, List.drop_eq_nil_of_le (by omega), List.nil_append, show p.length + j - p.length = j by omega, List.drop_append_of_le_length hj]
  have hlast (p r : List UInt8) : (p ++ (x ++ 10 :: r)).drop (p.length + x.length + 1) = r := by
    rw [show p ++ (x ++ 10 :: r) = (p ++ (x ++ [10])) ++ r by simp, List.drop_left' (by simp; omega)]
  rcases skip_nl false (x.drop i) with ⟨k, hk, g⟩ | g
  · rw [List.length_drop] at hk
    refine .inl ⟨k, by omega, fun p r => ?_⟩
    unfold cut
    dsimp only
    rw [hd p r i hi, g r, Nat.add_assoc, hd p r (i + k) (by omega)]
  · right
    intro p r
    rw [List.length_drop] at g
    unfold cut
    dsimp only
    rw [hd p r i hi, g r, hlast, show p.length + i + (x.length - i + 1 + skip false r) = p.length + x.length + 1 + skip false r by omega]
theorem cut_drop {s r : List UInt8} {a : Nat} (h : s.drop a = r) : cut s a = (a + skip false r, (one (r.drop (skip false r))).map fun p => (⟨p.1, a + skip false r, p.2.1, p.2.2.1⟩, a + skip false r + p.2.2.2)) := by
  unfold cut
  dsimp only
  rw [h, ← h, List.drop_drop]
theorem nxt_of {s : List UInt8} {a f q : Nat} {t : Tok} (h : cut s a = (f, some (t, q))) : (strm s).nxt a = .inr (t, q) := by
  show (match cut s a with | (f, none) => Sum.inl f | (_, some (t, q)) => Sum.inr (t, q)) = _
  rw [h]
  rfl
theorem nxt_inv {s : List UInt8} {a q : Nat} {t : Tok} (h : (strm s).nxt a = .inr (t, q)) : ∃ f, cut s a = (f, some (t, q)) := by
  replace h : (match cut s a with | (f, none) => Sum.inl f | (_, some (t, q)) => Sum.inr (t, q)) = (Sum.inr (t, q) : Sum Nat (Tok × Nat)) := h
  cases hc : cut s a with
  | mk f o =>
    rw [hc] at h
    cases o with
    | none => cases h
    | some y => obtain ⟨t', q'⟩ := y; cases h; exact ⟨f, rfl⟩
theorem drop_nl {p x r : List UInt8} {j : Nat} : (p ++ (x ++ 10 :: r)).drop (p.length + x.length + 1 + j) = r.drop j := by
  rw [show p ++ (x ++ 10 :: r) = (p ++ (x ++ [10])) ++ r by simp, List.drop_append, List.drop_eq_nil_of_le (by simp; omega), List.nil_append]
  congr 1
  simp
  omega
def simX (p1 p2 x : List UInt8) : SimS (strm (p1 ++ (x ++ 10 :: [59, 125]))) (strm (p2 ++ (x ++ 10 :: [41, 59, 125]))) where
  rel := fun (q1 : Nat) (q2 : Nat) => ∃ i, i ≤ x.length ∧ q1 = p1.length + i ∧ q2 = p2.length + i
  fin := fun (q1 : Nat) (q2 : Nat) => q1 = p1.length + x.length + 1 + 1 ∧ q2 = p2.length + x.length + 1 + 1
  ok := fun (q1 : Nat) (q2 : Nat) t1 (q1' : Nat) hr h => by
    obtain ⟨i, hi, rfl, rfl⟩ := hr
    obtain ⟨f, hf⟩ := nxt_inv h
    rcases cut_nl hi with ⟨k, hk, g⟩ | g
    · rw [g] at hf
      have hne : x.drop (i + k) ≠ [] := by
        intro he
        have := congrArg List.length he
        rw [List.length_drop, List.length_nil] at this
        omega
      rcases one_nl hne with o | ⟨p, hp, o⟩
      · replace o : ∀ r, one (x.drop (i + k) ++ 10 :: r) = none := o
        rw [o] at hf; cases hf
      · replace o : ∀ r, one (x.drop (i + k) ++ 10 :: r) = some p := o
        rw [o] at hf
        cases hf
        rw [List.length_drop] at hp
        refine ⟨⟨p.1, p2.length + (i + k), p.2.1, p.2.2.1⟩, (p2.length + (i + k) + p.2.2.2 : Nat), nxt_of (f := p2.length + (i + k)) (by rw [g, o]; rfl), .inl ⟨⟨rfl, rfl, rfl⟩, i + k + p.2.2.2, by omega, by omega, by omega⟩⟩
    · rw [g, cut_drop (drop_nl (j := 0))] at hf
      cases hf
      refine ⟨⟨5, p2.length + x.length + 1, [41], 0⟩, (p2.length + x.length + 1 + 1 : Nat), nxt_of (f := p2.length + x.length + 1) (by rw [g, cut_drop (drop_nl (j := 0))]; rfl), .inr ⟨rfl, rfl, rfl, rfl, rfl, rfl⟩⟩
section
variable {S : Strm} {α : Type} {t0 t : Tok} {q0 q : S.Pos} {nd : List Node} {d : Nat} {m : List UInt8} {st : PS S} {r : α × PS S}
theorem tok_st {k : Tok → PM S α} : (tokP >>= k) st = k st.tok st := rfl
theorem is_st {k : Bool → PM S α} : (isP m >>= k) st = k (isB st.tok m) st := rfl
theorem next_st {k : Tok → PM S α} (h : S.nxt q0 = .inr (t, q)) : (nextP >>= k) ⟨t0, q0, nd, d⟩ = k t0 ⟨t, q, nd, d⟩ := PM.bind_ok (by unfold nextP; simp only [h])
theorem take_yes {k : Bool → PM S α} (hb : isB t0 m = true) (h : S.nxt q0 = .inr (t, q)) : (takeP m >>= k) ⟨t0, q0, nd, d⟩ = k true ⟨t, q, nd, d⟩ := by
  refine PM.bind_ok ?_
  unfold takeP
  rw [is_st]
  simp only [hb, if_true]
  rw [next_st h]
  rfl
theorem must_yes {k : Unit → PM S α} (hb : isB t0 m = true) (h : S.nxt q0 = .inr (t, q)) : (mustP m >>= k) ⟨t0, q0, nd, d⟩ = k () ⟨t, q, nd, d⟩ := by
  refine PM.bind_ok ?_
  unfold mustP
  rw [is_st]
  simp only [hb, if_true]
  rw [next_st h]
  rfl
theorem kind_yes {n : Nat} {k : Tok → PM S α} (hb : t0.kind = n) (h : S.nxt q0 = .inr (t, q)) : (kindP n >>= k) ⟨t0, q0, nd, d⟩ = k t0 ⟨t, q, nd, d⟩ := by
  refine PM.bind_ok ?_
  unfold kindP
  rw [tok_st]
  simp only [hb, if_true]
  unfold nextP
  simp only [h]
theorem take_inv {k : Bool → PM S α} (hb : isB st.tok m = true) (h : (takeP m >>= k) st = some (.ok r)) : ∃ t q, S.nxt st.pos = .inr (t, q) ∧ k true ⟨t, q, st.nodes, st.deep⟩ = some (.ok r) := by
  obtain ⟨t0, q0, nd, d⟩ := st
  replace hb : isB t0 m = true := hb
  cases hn : S.nxt q0 with
  | inl f =>
    have : (takeP m) ⟨t0, q0, nd, d⟩ = some (.error (13, f)) := by
      unfold takeP
      rw [is_st]
      simp only [hb, if_true]
      exact PM.bind_err (by unfold nextP; simp only [hn])
    rw [PM.bind_err this] at h
    cases h
  | inr y =>
    obtain ⟨t, q⟩ := y
    rw [take_yes hb hn] at h
    exact ⟨t, q, rfl, h⟩
theorem must_inv {k : Unit → PM S α} (h : (mustP m >>= k) st = some (.ok r)) : isB st.tok m = true ∧ ∃ t q, S.nxt st.pos = .inr (t, q) ∧ k () ⟨t, q, st.nodes, st.deep⟩ = some (.ok r) := by
  obtain ⟨t0, q0, nd, d⟩ := st
  cases hb : isB t0 m with
  | false => rw [must_no hb] at h; cases h
  | true =>
    refine ⟨rfl, ?_⟩
    cases hn : S.nxt q0 with
    | inl f =>
      have : (mustP m) ⟨t0, q0, nd, d⟩ = some (.error (13, f)) := by
        unfold mustP
        rw [is_st]
        simp only [hb, if_true]
        exact PM.bind_err (by unfold nextP; simp only [hn])
      rw [PM.bind_err this] at h
      cases h
    | inr y =>
      obtain ⟨t, q⟩ := y
      rw [must_yes hb hn] at h
      exact ⟨t, q, rfl, h⟩
theorem node_inv {x : Node} {i : Nat} {s : PS S} (h : nodeP x st = some (.ok (i, s))) : i = st.nodes.length ∧ s = ⟨st.tok, st.pos, st.nodes ++ [x], st.deep⟩ := by
  unfold nodeP at h
  by_cases h1 : st.nodes.length = 4096
  · rw [if_pos h1] at h; cases h
  · rw [if_neg h1] at h; cases h; exact ⟨rfl, rfl⟩
theorem up_inv {s : PS S} {u : Unit} (h : upP st = some (.ok (u, s))) : s = ⟨st.tok, st.pos, st.nodes, st.deep - 1⟩ := by
  unfold upP at h
  by_cases h1 : st.deep = 0
  · rw [if_pos h1] at h; cases h
  · rw [if_neg h1] at h; cases h; rfl
theorem down_inv {s : PS S} {u : Unit} (h : downP st = some (.ok (u, s))) : s = ⟨st.tok, st.pos, st.nodes, st.deep + 1⟩ := by
  unfold downP at h
  by_cases h1 : st.deep = 40
  · rw [if_pos h1] at h; cases h
  · rw [if_neg h1] at h; cases h; rfl
theorem bind_inv {β : Type} {x : PM S β} {k : β → PM S α} (h : (x >>= k) st = some (.ok r)) : ∃ a s, x st = some (.ok (a, s)) ∧ k a s = some (.ok r) := by
  rcases PM.bind_some h with ⟨e, _, h2⟩ | h
  · cases h2
  · exact h
theorem pure_inv {a b : α} {s : PS S} (h : (Pure.pure a : PM S α) st = some (.ok (b, s))) : b = a ∧ s = st := by cases h; exact ⟨rfl, rfl⟩
def kwRet : List UInt8 := [114, 101, 116, 117, 114, 110]
theorem ret_run {sm : PM S Nat} {ex : Nat → PM S Nat} {n at_ i : Nat} {st' : PS S} (h : stmtP sm ex n ⟨⟨2, at_, kwRet, 0⟩, q0, nd, d⟩ = some (.ok (i, st'))) :
    ∃ t q, S.nxt q0 = .inr (t, q) ∧ ∃ x s1 t2 q2, ex 1 ⟨t, q, nd, d + 1⟩ = some (.ok (x, s1)) ∧ isB s1.tok [59] = true ∧ S.nxt s1.pos = .inr (t2, q2) ∧ i = s1.nodes.length ∧ st' = ⟨t2, q2, s1.nodes ++ [⟨14, at_, [], 0, 0, [x]⟩], s1.deep - 1⟩ := by
  unfold stmtP at h
  obtain ⟨_, s, h1, h⟩ := bind_inv h
  have := down_inv h1
  subst this
  rw [tok_st] at h
  obtain ⟨y, s3, h2, h3⟩ := bind_inv h
  unfold stepP at h2
  rw [is_st, show isB ⟨2, at_, kwRet, 0⟩ [123] = false from rfl] at h2
  simp only [Bool.false_eq_true, if_false] at h2
  rw [take_no (show isB ⟨2, at_, kwRet, 0⟩ _ = false from rfl)] at h2
  simp only [Bool.false_eq_true, if_false] at h2
  rw [take_no (show isB ⟨2, at_, kwRet, 0⟩ _ = false from rfl)] at h2
  simp only [Bool.false_eq_true, if_false] at h2
  obtain ⟨t, q, hn, h2⟩ := take_inv (show isB ⟨2, at_, kwRet, 0⟩ _ = true from rfl) h2
  simp only [if_true] at h2
  obtain ⟨x, s1, h4, h2⟩ := bind_inv h2
  obtain ⟨hb, t2, q2, hn2, h5⟩ := must_inv h2
  obtain ⟨rfl, rfl⟩ := node_inv h5
  obtain ⟨_, s4, h6, h7⟩ := bind_inv h3
  have := up_inv h6
  subst this
  obtain ⟨rfl, rfl⟩ := pure_inv h7
  exact ⟨t, q, hn, x, s1, t2, q2, h4, hb, hn2, rfl, rfl⟩
theorem whole_run {n : Nat} {q1 q2 q3 q4 q5 : S.Pos} (h0 : S.nxt q0 = .inr (⟨1, 4, [102], 0⟩, q1)) (h1 : S.nxt q1 = .inr (⟨5, 5, [40], 0⟩, q2)) (h2 : S.nxt q2 = .inr (⟨5, 6, [41], 0⟩, q3))
    (h3 : S.nxt q3 = .inr (⟨5, 7, [123], 0⟩, q4)) (h4 : S.nxt q4 = .inr (⟨2, 8, kwRet, 0⟩, q5)) {i : Nat} {st' : PS S}
    (h : wholeP (n + 2) ⟨⟨2, 0, [105, 110, 116], 0⟩, q0, [], 0⟩ = some (.ok (i, st'))) :
    ∃ t q6, S.nxt q5 = .inr (t, q6) ∧ ∃ x s1 t2 p2, exP (n + 1) (some 1) ⟨t, q6, [], 1⟩ = some (.ok (x, s1)) ∧ isB s1.tok [59] = true ∧ S.nxt s1.pos = .inr (t2, p2) ∧
      (isB t2 [125] = true → ∀ te pe, S.nxt p2 = .inr (te, pe) → te.kind = 0 →
        st'.nodes = s1.nodes ++ [⟨14, 8, [], 0, 0, [x]⟩] ++ [⟨17, 7, [], 0, 0, [s1.nodes.length]⟩] ++ [⟨22, 0, [102], 0, 0, [s1.nodes.length + 1]⟩] ++ [⟨23, 0, [], 0, 0, [s1.nodes.length + 2]⟩]) := by
  unfold wholeP at h
  obtain ⟨kids, sW, hl, hw⟩ := bind_inv h
  unfold loopP at hl
  obtain ⟨y, sD, hd, hl⟩ := bind_inv hl
  unfold declB at hd
  rw [tok_st, if_neg (show ¬ (2 : Nat) = 0 by decide)] at hd
  obtain ⟨z, sD2, hd, hp⟩ := bind_inv hd
  obtain ⟨rfl, rfl⟩ := pure_inv hp
  unfold declP at hd
  rw [tok_st, take_no (show isB ⟨2, 0, [105, 110, 116], 0⟩ _ = false from rfl)] at hd
  simp only [Bool.false_eq_true, if_false] at hd
  rw [must_yes (show isB ⟨2, 0, [105, 110, 116], 0⟩ _ = true from rfl) h0, kind_yes (show (⟨1, 4, [102], 0⟩ : Tok).kind = 1 from rfl) h1, take_no (show isB ⟨5, 5, [40], 0⟩ _ = false from rfl)] at hd
  simp only [Bool.false_eq_true, if_false] at hd
  rw [is_st, show isB ⟨5, 5, [40], 0⟩ [40] = true from rfl] at hd
  simp only [if_true] at hd
  unfold functionP at hd
  rw [next_st h2, take_yes (show isB ⟨5, 6, [41], 0⟩ _ = true from rfl) h3] at hd
  simp only [if_true] at hd
  unfold bodyP at hd
  obtain ⟨b, sB, hb, hf⟩ := bind_inv hd
  unfold blockP at hb
  rw [tok_st, must_yes (show isB ⟨5, 7, [123], 0⟩ _ = true from rfl) h4] at hb
  obtain ⟨kids2, sL, hk, hn⟩ := bind_inv hb
  unfold loopP at hk
  obtain ⟨w, sR, hr, hk⟩ := bind_inv hk
  unfold blockB at hr
  rw [is_st, show isB ⟨2, 8, kwRet, 0⟩ [125] = false from rfl] at hr
  simp only [Bool.false_eq_true, if_false] at hr
  obtain ⟨v, sS, hs, hp⟩ := bind_inv hr
  obtain ⟨rfl, rfl⟩ := pure_inv hp
  unfold smP at hs
  obtain ⟨t, q6, h5, x, s1, t2, p2, he, hb59, hn2, rfl, rfl⟩ := ret_run hs
  refine ⟨t, q6, h5, x, s1, t2, p2, he, hb59, hn2, fun hb2 te pe hpe hte => ?_⟩
  simp only at hk
  unfold loopP blockB at hk
  rw [PM.bind_assoc, is_st] at hk
  simp only [hb2, if_true] at hk
  obtain ⟨rfl, rfl⟩ := pure_inv hk
  rw [next_st hpe] at hn
  obtain ⟨rfl, rfl⟩ := node_inv hn
  obtain ⟨rfl, rfl⟩ := node_inv hf
  simp only at hl
  unfold loopP declB at hl
  rw [PM.bind_assoc, tok_st, if_pos hte] at hl
  obtain ⟨rfl, rfl⟩ := pure_inv hl
  obtain ⟨rfl, rfl⟩ := node_inv hw
  simp
theorem paren_run {n at_ x : Nat} {s : PS S} (hn : S.nxt q0 = .inr (t, q)) (h : exP (n + 3) (some 1) ⟨⟨5, at_, [40], 0⟩, q0, nd, d⟩ = some (.ok (x, s))) :
    ∃ x1 s1 t2 q2, exP (n + 1) (some 1) ⟨t, q, nd, d + 1⟩ = some (.ok (x1, s1)) ∧ isB s1.tok [41] = true ∧ S.nxt s1.pos = .inr (t2, q2) ∧ (t2.kind = 5 → t2.text = [59] → x = x1 ∧ s = ⟨t2, q2, s1.nodes, s1.deep - 1⟩) := by
  replace h : exprP (exP (n + 2) none) (fun l => exP (n + 2) (some l)) (n + 2) 1 ⟨⟨5, at_, [40], 0⟩, q0, nd, d⟩ = some (.ok (x, s)) := h
  unfold exprP at h
  obtain ⟨y, s2, h1, h⟩ := bind_inv h
  replace h1 : operandP (exP (n + 1) none) (fun l => exP (n + 1) (some l)) (n + 1) ⟨⟨5, at_, [40], 0⟩, q0, nd, d⟩ = some (.ok (y, s2)) := h1
  unfold operandP at h1
  obtain ⟨_, s3, hd, h1⟩ := bind_inv h1
  have := down_inv hd
  subst this
  rw [tok_st] at h1
  obtain ⟨y2, s4, hi, h1⟩ := bind_inv h1
  unfold innerP at hi
  rw [take_no (show isB ⟨5, at_, [40], 0⟩ _ = false from rfl)] at hi
  simp only [Bool.false_eq_true, if_false] at hi
  rw [take_no (show isB ⟨5, at_, [40], 0⟩ _ = false from rfl)] at hi
  simp only [Bool.false_eq_true, if_false] at hi
  rw [take_no (show isB ⟨5, at_, [40], 0⟩ _ = false from rfl)] at hi
  simp only [Bool.false_eq_true, if_false] at hi
  obtain ⟨x1', s5, hp, hi⟩ := bind_inv hi
  unfold primaryP at hp
  rw [tok_st, if_neg (show ¬ (5 : Nat) = 3 by decide), if_neg (show ¬ (5 : Nat) = 4 by decide), if_neg (show ¬ (5 : Nat) = 1 by decide), must_yes (show isB ⟨5, at_, [40], 0⟩ _ = true from rfl) hn] at hp
  obtain ⟨x1, s1, he, hp⟩ := bind_inv hp
  obtain ⟨hb, t2, q2, hn2, hp⟩ := must_inv hp
  obtain ⟨rfl, rfl⟩ := pure_inv hp
  refine ⟨x1', s1, t2, q2, he, hb, hn2, fun hk ht => ?_⟩
  unfold loopP indexB at hi
  rw [PM.bind_assoc, take_no (isB_end ht (by decide))] at hi
  simp only [Bool.false_eq_true, if_false] at hi
  obtain ⟨rfl, rfl⟩ := pure_inv hi
  obtain ⟨_, s6, hu, h1⟩ := bind_inv h1
  have := up_inv hu
  subst this
  obtain ⟨rfl, rfl⟩ := pure_inv h1
  unfold loopP exprB at h
  rw [PM.bind_assoc, tok_st] at h
  simp only [hk, ht, if_true, show binOp [59] = 0 from rfl] at h
  obtain ⟨rfl, rfl⟩ := pure_inv h
  exact ⟨rfl, rfl⟩
end
def p1 : List UInt8 := [105, 110, 116, 32, 102, 40, 41, 123, 114, 101, 116, 117, 114, 110, 32]
def p2 : List UInt8 := [105, 110, 116, 32, 102, 40, 41, 123, 114, 101, 116, 117, 114, 110, 32, 40]
def textA (x : List UInt8) : List UInt8 := p1 ++ (x ++ 10 :: [59, 125])
def textB (x : List UInt8) : List UInt8 := p2 ++ (x ++ 10 :: [41, 59, 125])
theorem nA0 (r : List UInt8) : (strm (p1 ++ r)).nxt (0 : Nat) = .inr (⟨2, 0, [105, 110, 116], 0⟩, (3 : Nat)) := by kernel_rfl
theorem nA1 (r : List UInt8) : (strm (p1 ++ r)).nxt (3 : Nat) = .inr (⟨1, 4, [102], 0⟩, (5 : Nat)) := by kernel_rfl
theorem nA2 (r : List UInt8) : (strm (p1 ++ r)).nxt (5 : Nat) = .inr (⟨5, 5, [40], 0⟩, (6 : Nat)) := by kernel_rfl
theorem nA3 (r : List UInt8) : (strm (p1 ++ r)).nxt (6 : Nat) = .inr (⟨5, 6, [41], 0⟩, (7 : Nat)) := by kernel_rfl
theorem nA4 (r : List UInt8) : (strm (p1 ++ r)).nxt (7 : Nat) = .inr (⟨5, 7, [123], 0⟩, (8 : Nat)) := by kernel_rfl
theorem nA5 (r : List UInt8) : (strm (p1 ++ r)).nxt (8 : Nat) = .inr (⟨2, 8, kwRet, 0⟩, (14 : Nat)) := by kernel_rfl
theorem nB0 (r : List UInt8) : (strm (p2 ++ r)).nxt (0 : Nat) = .inr (⟨2, 0, [105, 110, 116], 0⟩, (3 : Nat)) := by kernel_rfl
theorem nB1 (r : List UInt8) : (strm (p2 ++ r)).nxt (3 : Nat) = .inr (⟨1, 4, [102], 0⟩, (5 : Nat)) := by kernel_rfl
theorem nB2 (r : List UInt8) : (strm (p2 ++ r)).nxt (5 : Nat) = .inr (⟨5, 5, [40], 0⟩, (6 : Nat)) := by kernel_rfl
theorem nB3 (r : List UInt8) : (strm (p2 ++ r)).nxt (6 : Nat) = .inr (⟨5, 6, [41], 0⟩, (7 : Nat)) := by kernel_rfl
theorem nB4 (r : List UInt8) : (strm (p2 ++ r)).nxt (7 : Nat) = .inr (⟨5, 7, [123], 0⟩, (8 : Nat)) := by kernel_rfl
theorem nB5 (r : List UInt8) : (strm (p2 ++ r)).nxt (8 : Nat) = .inr (⟨2, 8, kwRet, 0⟩, (14 : Nat)) := by kernel_rfl
theorem nB6 (r : List UInt8) : (strm (p2 ++ r)).nxt (14 : Nat) = .inr (⟨5, 15, [40], 0⟩, (16 : Nat)) := by kernel_rfl
theorem cutA (r : List UInt8) : cut (p1 ++ r) 14 = cut (p1 ++ r) 15 := by
  have h1 : (p1 ++ r).drop 14 = 32 :: r := rfl
  have h2 : (p1 ++ r).drop 15 = r := rfl
  rw [cut_drop h1, cut_drop h2, skip, if_pos (.inl (show (32 : UInt8).toNat = 32 from rfl)), List.drop_succ_cons, show 14 + (skip false r + 1) = 15 + skip false r by omega]
theorem nxtA (r : List UInt8) : (strm (p1 ++ r)).nxt (14 : Nat) = (strm (p1 ++ r)).nxt (15 : Nat) := by
  show (match cut (p1 ++ r) 14 with | (f, none) => Sum.inl f | (_, some (t, q)) => Sum.inr (t, q)) = (match cut (p1 ++ r) 15 with | (f, none) => Sum.inl f | (_, some (t, q)) => Sum.inr (t, q))
  rw [cutA]
theorem brackets {x : List UInt8} {n : Nat} {a b : List Node} (ha : readP (strm (textA x)) (0 : Nat) (n + 2) = some (.ok a)) (hb : readP (strm (textB x)) (0 : Nat) (n + 4) = some (.ok b)) : a.map Node.strip = b.map Node.strip := by
  unfold textA at ha
  unfold textB at hb
  unfold readP at ha hb
  rw [nA0] at ha
  rw [nB0] at hb
  simp only at ha hb
  cases hwa : wholeP (S := strm (p1 ++ (x ++ 10 :: [59, 125]))) (n + 2) ⟨⟨2, 0, [105, 110, 116], 0⟩, (3 : Nat), [], 0⟩ with
  | none => rw [hwa] at ha; cases ha
  | some ra =>
  rw [hwa] at ha
  cases hwb : wholeP (S := strm (p2 ++ (x ++ 10 :: [41, 59, 125]))) (n + 4) ⟨⟨2, 0, [105, 110, 116], 0⟩, (3 : Nat), [], 0⟩ with
  | none => rw [hwb] at hb; cases hb
  | some rb =>
  rw [hwb] at hb
  cases ra with
  | error e => cases ha
  | ok ra =>
  cases rb with
  | error e => cases hb
  | ok rb =>
  obtain ⟨ia, sa⟩ := ra
  obtain ⟨ib, sb⟩ := rb
  cases ha
  cases hb
  obtain ⟨tA, qA, hA, xa, sA, t2, q2, hea, hb59, hn2, hA9⟩ := whole_run (nA1 _) (nA2 _) (nA3 _) (nA4 _) (nA5 _) hwa
  rw [nxtA] at hA
  obtain ⟨tB0, qB0, hB0, xb, sB, t3, q3, heb, hb59', hn3, hB9⟩ := whole_run (nB1 _) (nB2 _) (nB3 _) (nB4 _) (nB5 _) hwb
  rw [nB6] at hB0
  cases hB0
  obtain ⟨tB, qB, hB, hr⟩ := (simX p1 p2 x).ok (15 : Nat) (16 : Nat) tA qA ⟨0, Nat.zero_le _, rfl, rfl⟩ hA
  obtain ⟨x1, s1, t4, q4, he1, hb41, hn4, hlast⟩ := paren_run hB heb
  have hst : StR (simX p1 p2 x) 1 ⟨tA, qA, [], 1⟩ ⟨tB, qB, [], 2⟩ := ⟨rfl, rfl, hr⟩
  rcases ex_sim (n + 1) (n + 1) (Nat.le_refl _) (some 1) _ _ hst xa sA hea with ⟨_, e, he⟩ | ⟨x1', s1', he, hxx, hs⟩
  · rw [he1] at he; cases he
  rw [he1] at he
  cases he
  subst hxx
  rcases hs.tok with ⟨⟨e1, e2, e3⟩, _⟩ | ⟨_, _, _, _, hq1, hq2⟩
  · exfalso
    unfold isB at hb59 hb41
    rw [e2] at hb59
    simp only [Bool.and_eq_true, beq_iff_eq] at hb59 hb41
    have := hb59.2.symm.trans hb41.2
    cases this
  have a1 : (strm (p1 ++ (x ++ 10 :: [59, 125]))).nxt (p1.length + x.length + 1 + 1 : Nat) = .inr (⟨5, p1.length + x.length + 1 + 1, [125], 0⟩, (p1.length + x.length + 1 + 1 + 1 : Nat)) :=
    nxt_of (f := p1.length + x.length + 1 + 1) (by rw [cut_drop (drop_nl (j := 1))]; rfl)
  have a2 : (strm (p1 ++ (x ++ 10 :: [59, 125]))).nxt (p1.length + x.length + 1 + 1 + 1 : Nat) = .inr (⟨0, p1.length + x.length + 1 + 2, [], 0⟩, (p1.length + x.length + 1 + 2 : Nat)) :=
    nxt_of (f := p1.length + x.length + 1 + 2) (by rw [show p1.length + x.length + 1 + 1 + 1 = p1.length + x.length + 1 + 2 from rfl, cut_drop (drop_nl (j := 2))]; rfl)
  have b1 : (strm (p2 ++ (x ++ 10 :: [41, 59, 125]))).nxt (p2.length + x.length + 1 + 1 : Nat) = .inr (⟨5, p2.length + x.length + 1 + 1, [59], 0⟩, (p2.length + x.length + 1 + 2 : Nat)) :=
    nxt_of (f := p2.length + x.length + 1 + 1) (by rw [cut_drop (drop_nl (j := 1))]; rfl)
  have b2 : (strm (p2 ++ (x ++ 10 :: [41, 59, 125]))).nxt (p2.length + x.length + 1 + 2 : Nat) = .inr (⟨5, p2.length + x.length + 1 + 2, [125], 0⟩, (p2.length + x.length + 1 + 3 : Nat)) :=
    nxt_of (f := p2.length + x.length + 1 + 2) (by rw [cut_drop (drop_nl (j := 2))]; rfl)
  have b3 : (strm (p2 ++ (x ++ 10 :: [41, 59, 125]))).nxt (p2.length + x.length + 1 + 3 : Nat) = .inr (⟨0, p2.length + x.length + 1 + 3, [], 0⟩, (p2.length + x.length + 1 + 3 : Nat)) :=
    nxt_of (f := p2.length + x.length + 1 + 3) (by rw [cut_drop (drop_nl (j := 3))]; rfl)
  rw [show sA.pos = (p1.length + x.length + 1 + 1 : Nat) from hq1, a1] at hn2
  cases hn2
  rw [show s1.pos = (p2.length + x.length + 1 + 1 : Nat) from hq2, b1] at hn4
  cases hn4
  obtain ⟨rfl, rfl⟩ := hlast rfl rfl
  simp only at hn3
  rw [b2] at hn3
  cases hn3
  have ea := hA9 rfl _ _ a2 rfl
  have eb := hB9 rfl _ _ b3 rfl
  have hl := hs.len
  have hno := hs.nodes
  rw [ea, eb]
  simp only [List.map_append, hno, hl]
end Go.Front
namespace Go.Front
open Go.AM Go.Proofs
theorem Wp.le' {Q : Post} {F G : Fu → Out} (hl : ∀ u, Le (F u) (G u)) (h : Wp Q F) : Wp Q G := h.le hl
noncomputable abbrev L20 (n : Nat) : Leaf := pt Tryz.prog Lb 20 n
noncomputable abbrev L21 (n : Nat) : Leaf := pt Tryz.prog Lb 21 n
noncomputable abbrev L46 (n : Nat) : Leaf := pt Tryz.prog Lb 46 n
noncomputable abbrev L48 (n : Nat) : Leaf := pt Tryz.prog Lb 48 n
noncomputable abbrev L49 (n : Nat) : Leaf := pt Tryz.prog Lb 49 n
noncomputable abbrev L10 (n : Nat) : Leaf := pt Tryz.prog Lb 10 n
section
variable {Q : Post} {σ σ0 : St} {s : List UInt8}
theorem byteN {n : Nat} {c : UInt8} (h : s[n]? = some c) (f : UInt8 → Out) : byteK s (n : Int) f = f c := byteK_ok (by omega) (by simpa using h)
theorem let44 (c : UInt8) : Fw Tryz.prog Lb 44 [.int .u8 c.toNat] σ fun r σ' => r = .ret (.bool (isLetter c)) ∧ σ' = σ := by
  refine Fw.enter (fun n => f44_e) ?_
  simp only [f44_t, cond_if]
  have e95 : ((c.toNat : Int) == (95 : Int)) = (c.toNat == 95) := natInt (b := 95)
  refine (Wp.ret (Q := fun r σ' => r = .ret (.bool (isLetter c)) ∧ σ' = σ) ⟨rfl, rfl⟩).eq fun u => ?_
  unfold isLetter
  rw [e95]
  simp only [decide_eq_true_eq]
  by_cases h1 : 97 ≤ c.toNat <;> by_cases h2 : c.toNat ≤ 122 <;> by_cases h3 : 65 ≤ c.toNat <;> by_cases h4 : c.toNat ≤ 90 <;>
    simp [h1, h2, h3, h4, show ((c.toNat : Int) ≥ 97) = (97 ≤ c.toNat) from propext (by omega), show ((c.toNat : Int) ≤ 122) = (c.toNat ≤ 122) from propext (by omega),
      show ((c.toNat : Int) ≥ 65) = (65 ≤ c.toNat) from propext (by omega), show ((c.toNat : Int) ≤ 90) = (c.toNat ≤ 90) from propext (by omega)]
theorem dig45 (c : UInt8) : Fw Tryz.prog Lb 45 [.int .u8 c.toNat] σ fun r σ' => r = .ret (.bool (isDigit c)) ∧ σ' = σ := by
  refine Fw.enter (fun n => f45_e) ?_
  simp only [f45_t, cond_if]
  refine (Wp.ret (Q := fun r σ' => r = .ret (.bool (isDigit c)) ∧ σ' = σ) ⟨rfl, rfl⟩).eq fun u => ?_
  unfold isDigit
  simp only [decide_eq_true_eq]
  by_cases h1 : 48 ≤ c.toNat <;> by_cases h2 : c.toNat ≤ 57 <;>
    simp [h1, h2, show ((c.toNat : Int) ≥ 48) = (48 ≤ c.toNat) from propext (by omega), show ((c.toNat : Int) ≤ 57) = (c.toNat ≤ 57) from propext (by omega)]
def blankQ (s : List UInt8) (a : Nat) (σ : St) : Post := fun r σ' => σ' = σ ∧ ∃ m : Nat, a + m ≤ s.length ∧ r = .ret (.int .i64 (m : Int))
theorem blank_end {a n : Nat} {i3 : Int} (hs : s.length ≤ 1000000000) (ha : a ≤ n) (hn : n ≤ s.length) : Wp (blankQ s a σ) fun u => f20_j4 (L20 u.n) a i3 n σ := by
  refine Wp.le' (fun u => f20_j4_e) ?_
  simp only [f20_j4_t]
  have hw : IntKind.wrap .i64 ((n : Int) - (a : Int)) = ((n - a : Nat) : Int) := by rw [wrap64 (by omega) (by omega)]; omega
  rw [hw]
  exact Wp.ret ⟨rfl, n - a, by omega, rfl⟩
theorem blank_in {a : Nat} {i3 : Int} (hs : s.length ≤ 1000000000) : ∀ (k n : Nat), n + k = s.length →
    (∀ j, n ≤ j → j ≤ s.length → Wp (blankQ s a σ) fun u => f20_l1 (L20 u.n) u.m1 s a i3 j σ) →
    Wp (blankQ s a σ) fun u => f20_l5 (L20 u.n) u.m1 u.m2 s a i3 n σ := by
  intro k
  induction k with
  | zero =>
    intro n hn hj
    refine Wp.round2 (F := fun n' m1 m2 => f20_l5 (L20 n') m1 m2 s a i3 n σ) (fun n' m1 m2 => f20_l5_e) ?_
    simp only [f20_l5_t]
    exact Wp.neg (by rw [decide_eq_false_iff_not]; omega) (hj n (Nat.le_refl _) (by omega))
  | succ k ih =>
    intro n hn hj
    obtain ⟨c, hc⟩ : ∃ c, s[n]? = some c := ⟨s[n], List.getElem?_eq_getElem (by omega)⟩
    have hw : IntKind.wrap .i64 ((n : Int) + 1) = ((n + 1 : Nat) : Int) := wrapS (s := s) (by omega) (by omega)
    refine Wp.round2 (F := fun n' m1 m2 => f20_l5 (L20 n') m1 m2 s a i3 n σ) (fun n' m1 m2 => f20_l5_e) ?_
    simp only [f20_l5_t, byteN hc, hw]
    exact Wp.pos (by rw [decide_eq_true_eq]; omega) (Wp.ite (fun _ => ih (n + 1) (by omega) fun j h1 h2 => hj j (by omega) h2) fun _ => hj n (Nat.le_refl _) (by omega))
theorem blank_loop {a : Nat} {i3 : Int} (hs : s.length ≤ 1000000000) : ∀ (k n : Nat), s.length - n ≤ k → a ≤ n → n ≤ s.length → Wp (blankQ s a σ) fun u => f20_l1 (L20 u.n) u.m1 s a i3 n σ := by
  intro k
  induction k with
  | zero =>
    intro n hk ha hn
    refine Wp.round1 (F := fun n' m => f20_l1 (L20 n') m s a i3 n σ) (fun n' m => f20_l1_e) ?_
    simp only [f20_l1_t]
    exact Wp.neg (by rw [decide_eq_false_iff_not]; omega) (blank_end hs ha hn)
  | succ k ih =>
    intro n hk ha hn
    by_cases hlt : n < s.length
    · obtain ⟨c, hc⟩ : ∃ c, s[n]? = some c := ⟨s[n], List.getElem?_eq_getElem hlt⟩
      have hw : IntKind.wrap .i64 ((n : Int) + 1) = ((n + 1 : Nat) : Int) := wrapS (s := s) (by omega) (by omega)
      have nx := ih (n + 1) (by omega) (by omega) hlt
      have j2 : Wp (blankQ s a σ) fun u => f20_j2 (L20 u.n) u.m1 s a i3 n σ := by
        refine Wp.le' (fun u => f20_j2_e) ?_
        simp only [f20_j2_t, hw]
        exact nx
      refine Wp.round1 (F := fun n' m => f20_l1 (L20 n') m s a i3 n σ) (fun n' m => f20_l1_e) ?_
      simp only [f20_l1_t, byteN hc]
      refine Wp.pos (by rw [decide_eq_true_eq]; omega) (Wp.ite (fun _ => j2) fun _ => Wp.ite (fun _ => j2) fun _ => ?_)
      refine Wp.le' (fun u => f20_j3_e) ?_
      simp only [f20_j3_t, hw, byteN hc]
      refine Wp.ite (fun _ => nx) fun h10 => Wp.ite (fun _ => blank_end hs ha hn) fun h47 => Wp.ite (fun _ => blank_end hs ha hn) fun hge => ?_
      have hlt2 : n + 1 < s.length := by rw [decide_eq_false_iff_not] at hge; omega
      obtain ⟨d, hd⟩ : ∃ d, s[n + 1]? = some d := ⟨s[n + 1], List.getElem?_eq_getElem hlt2⟩
      simp only [byteN hd]
      refine Wp.ite (fun _ => blank_end hs ha hn) fun _ => ?_
      refine Wp.fresh2 (F := fun n' m1 m2 => f20_l5 (L20 n') m1 m2 s a i3 n σ) ?_
      refine Wp.round2 (F := fun n' m1 m2 => f20_l5 (L20 n') m1 m2 s a i3 n σ) (fun n' m1 m2 => f20_l5_e) ?_
      simp only [f20_l5_t, byteN hc, hw]
      refine Wp.pos (by rw [decide_eq_true_eq]; omega) (Wp.pos (by simp at h47 ⊢; omega) ?_)
      exact blank_in hs (s.length - (n + 1)) (n + 1) (by omega) fun j h1 h2 => ih j (by omega) (by omega) h2
    · refine Wp.round1 (F := fun n' m => f20_l1 (L20 n') m s a i3 n σ) (fun n' m => f20_l1_e) ?_
      simp only [f20_l1_t]
      exact Wp.neg (by rw [decide_eq_false_iff_not]; omega) (blank_end hs ha hn)
theorem blank20 {a : Nat} (hs : s.length ≤ 1000000000) (ha : a ≤ s.length) : Fw Tryz.prog Lb 20 [.str s, .int .i64 (a : Int)] σ (blankQ s a σ) := by
  refine Fw.enter (fun n => f20_e) ?_
  simp only [f20_t]
  exact Wp.fresh1 (F := fun n m => f20_l1 (L20 n) m s a 0 a σ) (blank_loop hs s.length a (by omega) (Nat.le_refl _) ha)
def boolQ (σ : St) : Post := fun r σ' => σ' = σ ∧ ∃ b, r = .ret (.bool b)
theorem in46 {b : Nat} {l : List (List UInt8)} {c : Option Nat} (hl : l.length ≤ 1000000000) (hc : cellsAt σ b = some (l.map .str)) (x : List UInt8) :
    Fw Tryz.prog Lb 46 [.slice (some (b, 0)) l.length c 1, .str x] σ (boolQ σ) := by
  refine Fw.enter (fun n => f46_e) ?_
  simp only [f46_t]
  have key : ∀ (k i : Nat), i + k = l.length → Wp (boolQ σ) fun u => f46_l1 (L46 u.n) u.m1 (some (b, 0)) l.length c 1 x i σ := by
    intro k
    induction k with
    | zero =>
      intro i hi
      refine Wp.round1 (F := fun n m => f46_l1 (L46 n) m (some (b, 0)) l.length c 1 x i σ) (fun n m => f46_l1_e) ?_
      simp only [f46_l1_t]
      refine Wp.neg (by rw [decide_eq_false_iff_not]; omega) (Wp.le' (fun u => f46_j2_e) ?_)
      simp only [f46_j2_t]
      exact Wp.ret ⟨rfl, _, rfl⟩
    | succ k ih =>
      intro i hi
      obtain ⟨y, hy⟩ : ∃ y, l[i]? = some y := ⟨l[i], List.getElem?_eq_getElem (by omega)⟩
      have hw : IntKind.wrap .i64 ((i : Int) + 1) = ((i + 1 : Nat) : Int) := by rw [wrap64 (by omega) (by omega)]; omega
      refine Wp.round1 (F := fun n m => f46_l1 (L46 n) m (some (b, 0)) l.length c 1 x i σ) (fun n m => f46_l1_e) ?_
      simp only [f46_l1_t, derefK_s, szK_s, ldStr hc hy, xStr_s, hw, idxK_ok (show (0 : Int) ≤ (i : Int) ∧ (i : Int) < (l.length : Int) from ⟨by omega, by omega⟩)]
      exact Wp.pos (by rw [decide_eq_true_eq]; omega) (Wp.ite (fun _ => Wp.ret ⟨rfl, _, rfl⟩) fun _ => ih (i + 1) (by omega))
  exact Wp.fresh1 (F := fun n m => f46_l1 (L46 n) m (some (b, 0)) l.length c 1 x 0 σ) (key l.length 0 (by omega))
def numQ (σ : St) : Post := fun r σ' => σ' = σ ∧ ∃ v b, r = .ret (.tuple [.int .i64 v, .bool b])
theorem num_loop {i2 : Int} (hs : s.length ≤ 1000000000) : ∀ (k n : Nat) (i3 : Int), n + k = s.length → Wp (numQ σ) fun u => f48_l4 (L48 u.n) u.m1 s i2 i3 n σ := by
  intro k
  induction k with
  | zero =>
    intro n i3 hn
    refine Wp.round1 (F := fun n' m => f48_l4 (L48 n') m s i2 i3 n σ) (fun n m => f48_l4_e) ?_
    simp only [f48_l4_t]
    refine Wp.neg (by rw [decide_eq_false_iff_not]; omega) (Wp.le' (fun u => f48_j5_e) ?_)
    simp only [f48_j5_t]
    exact Wp.ret ⟨rfl, _, _, rfl⟩
  | succ k ih =>
    intro n i3 hn
    obtain ⟨c, hc⟩ : ∃ c, s[n]? = some c := ⟨s[n], List.getElem?_eq_getElem (by omega)⟩
    have hw : IntKind.wrap .i64 ((n : Int) + 1) = ((n + 1 : Nat) : Int) := wrapS (s := s) (by omega) (by omega)
    refine Wp.round1 (F := fun n' m => f48_l4 (L48 n') m s i2 i3 n σ) (fun n m => f48_l4_e) ?_
    simp only [f48_l4_t, byteN hc, hw]
    exact Wp.pos (by rw [decide_eq_true_eq]; omega) (ih (n + 1) _ (by omega))
theorem num48 (hs : s.length ≤ 1000000000) : Fw Tryz.prog Lb 48 [.str s] σ (numQ σ) := by
  refine Fw.enter (fun n => f48_e) ?_
  simp only [f48_t]
  have l0 : Wp (numQ σ) fun u => f48_l4 (L48 u.n) u.n s 0 0 0 σ := Wp.fresh1 (F := fun n m => f48_l4 (L48 n) m s 0 0 0 σ) (num_loop hs s.length 0 0 (by omega))
  refine Wp.ite (fun _ => ?_) fun _ => Wp.ite (fun h1 => ?_) fun _ => ?_
  · refine Wp.le' (fun u => f48_j1_e) ?_
    simp only [f48_j1_t]
    exact Wp.ret ⟨rfl, _, _, rfl⟩
  · rw [decide_eq_true_eq] at h1
    obtain ⟨c, hc⟩ : ∃ c, s[0]? = some c := ⟨s[0], List.getElem?_eq_getElem (by omega)⟩
    simp only [byteK_ok (show (0 : Int) ≤ 0 by decide) (show s[(0 : Int).toNat]? = some c from hc)]
    refine Wp.le' (fun u => f48_j2_e) ?_
    simp only [f48_j2_t]
    exact Wp.ite (fun _ => Wp.ret ⟨rfl, _, _, rfl⟩) fun _ => l0
  · refine Wp.le' (fun u => f48_j3_e) ?_
    simp only [f48_j3_t]
    exact l0
def byteQ (s : List UInt8) (a : Nat) (σ : St) : Post := fun r σ' => σ' = σ ∧ ∃ (c : UInt8) (k : Nat), r = .ret (.tuple [.int .u8 (c.toNat : Int), .int .i64 (k : Int)]) ∧ (k = 0 ∨ 1 ≤ k ∧ a + k ≤ s.length)
theorem byte67 {a : Nat} {q : Int} (hs : s.length ≤ 1000000000) (ha : a < s.length) : Fw Tryz.prog Lb 67 [.str s, .int .i64 (a : Int), .int .u8 q] σ (byteQ s a σ) := by
  refine Fw.enter (fun n => f67_e) ?_
  obtain ⟨c, hc⟩ : ∃ c, s[a]? = some c := ⟨s[a], List.getElem?_eq_getElem ha⟩
  have hw : IntKind.wrap .i64 ((a : Int) + 1) = ((a + 1 : Nat) : Int) := wrapS (s := s) (by omega) (by omega)
  simp only [f67_t, byteN hc, hw]
  have no : Wp (byteQ s a σ) fun _ => some (.ret (.tuple [.int .u8 (0 : Int), .int .i64 (0 : Int)]), σ) := Wp.ret ⟨rfl, 0, 0, rfl, .inl rfl⟩
  have j1 : Wp (byteQ s a σ) fun u => f67_j1 (pt Tryz.prog Lb 67 u.n) s a 0 0 (c.toNat : Int) σ := by
    refine Wp.le' (fun u => f67_j1_e) ?_
    simp only [f67_j1_t]
    exact no
  refine Wp.neg (by rw [decide_eq_false_iff_not]; omega) (Wp.ite (fun _ => ?_) fun _ => ?_)
  · refine Wp.ite (fun _ => j1) fun _ => Wp.ite (fun _ => j1) fun _ => Wp.le' (fun u => f67_j2_e) ?_
    simp only [f67_j2_t]
    exact Wp.ite (fun _ => no) fun _ => Wp.ret ⟨rfl, c, 1, rfl, .inr ⟨by omega, by omega⟩⟩
  · refine Wp.ite (fun _ => no) fun hge => ?_
    have hlt2 : a + 1 < s.length := by rw [decide_eq_false_iff_not] at hge; omega
    obtain ⟨d, hd⟩ : ∃ d, s[a + 1]? = some d := ⟨s[a + 1], List.getElem?_eq_getElem hlt2⟩
    simp only [byteN hd]
    have yes (x : UInt8) : Wp (byteQ s a σ) fun _ => some (.ret (.tuple [.int .u8 (x.toNat : Int), .int .i64 (2 : Int)]), σ) := Wp.ret ⟨rfl, x, 2, rfl, .inr ⟨by omega, by omega⟩⟩
    have j3 : Wp (byteQ s a σ) fun u => f67_j3 (pt Tryz.prog Lb 67 u.n) s a 0 0 σ := by
      refine Wp.le' (fun u => f67_j3_e) ?_
      simp only [f67_j3_t, hw, byteN hd]
      exact yes d
    refine Wp.ite (fun _ => yes 10) fun _ => Wp.ite (fun _ => yes 9) fun _ => Wp.ite (fun _ => yes 0) fun _ => Wp.ite (fun _ => j3) fun _ => Wp.ite (fun _ => j3) fun _ => Wp.le' (fun u => f67_j4_e) ?_
    simp only [f67_j4_t, hw, byteN hd]
    exact Wp.ite (fun _ => yes d) fun _ => no
def TokQ (s : List UInt8) (a : Nat) (σ : St) : Post := fun r σ' => Up σ σ' ∧ ∃ (k : Int) (tx : List UInt8) (nn : Int) (e : Nat),
  r = .ret (.tuple [.agg [.int .i64 k, .int .i64 (a : Int), .str tx, .int .i64 nn], .int .i64 (e : Int)]) ∧ (k = 0 ∨ k = 6 ∨ (a < e ∧ e ≤ s.length))
theorem bytesOf_av : ∀ l : List UInt8, bytesOf (bytesAV l) = some l
  | [] => rfl
  | c :: l => by
    have := bytesOf_av l
    unfold bytesAV at this ⊢
    simp [bytesOf, this]
def B8 (σ0 σ : St) (a : Option (Nat × Nat)) (n z : Nat) (l : List UInt8) : Prop :=
  Up σ0 σ ∧ ((l = [] ∧ a = none ∧ n = 0) ∨ ∃ b, a = some (b, 0) ∧ n = l.length ∧ z = 1 ∧ σ0.length ≤ b ∧ σ[b]? = some (.cells (bytesAV l) (.rw (.row 5))))
theorem Up.newSet {σ0 σ : St} {b : Nat} {τ : St} (h : Up σ0 σ) (hb : σ0.length ≤ b) : Up σ0 (σ.set b .dead ++ τ) :=
  ⟨by have := h.len; simp; omega, fun x hx => by
    have := h.len
    rw [List.getElem?_append_left (by simp; omega), List.getElem?_set_ne (by omega)]; exact h.same x hx⟩
theorem B8.app {a : Option (Nat × Nat)} {n z : Nat} {l : List UInt8} {c : UInt8} {K : Fu → Option (Nat × Nat) → Nat → Option Nat → St → Out} (h : B8 σ0 σ a n z l) (hl : l.length ≤ 1000000000)
    (hk : ∀ a' n' c' σ', B8 σ0 σ' a' n' 1 (l ++ [c]) → Wp Q fun u => K u a' n' c' σ') : Wp Q fun u => appK σ 5 1 1 a n z 1 [.int .u8 (c.toNat : Int)] (K u) := by
  obtain ⟨hu, h⟩ := h
  rcases h with ⟨rfl, rfl, rfl⟩ | ⟨b, rfl, rfl, rfl, hb, hc⟩
  · exact Wp.app0 (by decide) (by decide) (hk _ _ _ _ ⟨hu.trans (Up.app _), .inr ⟨σ.length, rfl, rfl, rfl, hu.len, by rw [List.getElem?_append_right (Nat.le_refl _), Nat.sub_self]; rfl⟩⟩)
  · have hbl : (bytesAV l).length = l.length := by simp [bytesAV]
    refine Wp.app1 hc (by rw [hbl]; omega) (by omega) (hk _ _ _ _ ⟨hu.newSet hb, .inr ⟨σ.length, rfl, by simp, rfl, hu.len, ?_⟩⟩)
    rw [List.getElem?_append_right (by simp), List.length_set, Nat.sub_self]
    have e : ((bytesAV l).drop 0).take (l.length * 1) = bytesAV l := by rw [List.drop_zero, Nat.mul_one, ← hbl, List.take_length]
    rw [e]
    simp [bytesAV, joinW]
theorem quo_end {a e n z : Nat} {i2' i10 i11 i13 q : Int} {s12 : List UInt8} {ad : Option (Nat × Nat)} {c7 : Option Nat} {l : List UInt8} (hs : s.length ≤ 1000000000) (hq : q = 34 ∨ q = 39) (h : B8 σ0 σ ad n z l) (hll : l.length ≤ 1000000000) (ha : a < e) (he : e ≤ s.length) :
    Wp (TokQ s a σ0) fun u => f49_j5 (L49 u.n) s a i2' q ad n c7 z e i10 i11 s12 i13 σ := by
  have hu := h.1
  have j6 : Wp (TokQ s a σ0) fun u => f49_j6 (L49 u.n) a i2' q ad n c7 z e i10 i11 s12 i13 σ := by
    refine Wp.le' (fun u => f49_j6_e) ?_
    simp only [f49_j6_t]
    exact Wp.ret ⟨hu, 6, [], 0, e, rfl, .inr (.inl rfl)⟩
  refine Wp.le' (fun u => f49_j5_e) ?_
  simp only [f49_j5_t]
  refine Wp.ite (fun _ => j6) fun hlt => ?_
  rw [decide_eq_false_iff_not] at hlt
  have hw : IntKind.wrap .i64 ((e : Int) + 1) = ((e + 1 : Nat) : Int) := wrapS (s := s) (by omega) (by omega)
  rcases hq with rfl | rfl
  · refine Wp.pos rfl (Wp.ite (fun _ => j6) fun _ => Wp.neg rfl (Wp.le' (fun u => f49_j8_e) ?_))
    simp only [f49_j8_t, hw]
    refine Wp.pos rfl ?_
    rcases h.2 with ⟨rfl, rfl, rfl⟩ | ⟨b, rfl, rfl, rfl, hb, hc⟩
    · refine (Wp.ret (Q := TokQ s a σ0) (r := .ret (.tuple [.agg [.int .i64 4, .int .i64 a, .str [], .int .i64 0], .int .i64 ((e + 1 : Nat) : Int)])) (σ := σ) ⟨hu, 4, [], 0, e + 1, rfl, .inr (.inr ⟨by omega, by omega⟩)⟩).eq fun u => ?_
      rfl
    · refine (Wp.ret (Q := TokQ s a σ0) (r := .ret (.tuple [.agg [.int .i64 4, .int .i64 a, .str l, .int .i64 0], .int .i64 ((e + 1 : Nat) : Int)])) (σ := σ) ⟨hu, 4, l, 0, e + 1, rfl, .inr (.inr ⟨by omega, by omega⟩)⟩).eq fun u => ?_
      have hbl : (bytesAV l).length = l.length := by simp [bytesAV]
      unfold bytsK
      simp only [cellsAt, hc]
      rw [if_pos trivial, if_pos (by omega), List.drop_zero, ← hbl, List.take_length, bytesOf_av]
  · refine Wp.neg rfl (Wp.pos rfl (Wp.le' (fun u => f49_j7_e) ?_))
    simp only [f49_j7_t, hw]
    refine Wp.ite (fun _ => Wp.ret ⟨hu, 6, [], 0, e, rfl, .inr (.inl rfl)⟩) fun h1 => Wp.neg rfl ?_
    have hn1' : (n : Int) = 1 := by simpa using h1
    have hn1 : n = 1 := by omega
    rcases h.2 with ⟨rfl, rfl, rfl⟩ | ⟨b, rfl, rfl, rfl, hb, hc⟩
    · cases hn1
    · obtain ⟨c, rfl⟩ : ∃ c, l = [c] := by
        cases l with
        | nil => cases hn1
        | cons c l => cases l with
          | nil => exact ⟨c, rfl⟩
          | cons d l => simp at hn1
      simp only [derefK_s, szK_s, idxK_ok (show (0 : Int) ≤ 0 ∧ (0 : Int) < (([c] : List UInt8).length : Int) from ⟨by omega, by simp⟩)]
      have hld (f : AV → Out) : ldK Tryz.prog 5 σ b (0 + 0) f = f (.int .u8 (c.toNat : Int)) := ldc (cs := bytesAV [c]) (by unfold cellsAt; rw [hc]) (by kernel_rfl) rfl
      simp only [hld, xInt_i]
      exact Wp.ret ⟨hu, 3, [], _, e + 1, rfl, .inr (.inr ⟨by omega, by omega⟩)⟩
theorem quo_loop {a : Nat} {i3 i10 i11 i13 q : Int} {s12 : List UInt8} (hs : s.length ≤ 1000000000) (hq : q = 34 ∨ q = 39) : ∀ (k e : Nat) {σ : St} {n z : Nat} {ad : Option (Nat × Nat)} {c7 : Option Nat} {l : List UInt8}, s.length - e ≤ k → a < e → e ≤ s.length → l.length ≤ e → B8 σ0 σ ad n z l →
    Wp (TokQ s a σ0) fun u => f49_l1 (L49 u.n) u.m1 s a i3 q ad n c7 z e i10 i11 s12 i13 σ := by
  intro k
  induction k with
  | zero =>
    intro e σ n z ad c7 l hk ha he hl h
    refine Wp.round1 (F := fun n' m => f49_l1 (L49 n') m s a i3 q ad n c7 z e i10 i11 s12 i13 σ) (fun n' m => f49_l1_e) ?_
    simp only [f49_l1_t]
    exact Wp.neg (by rw [decide_eq_false_iff_not]; omega) (quo_end hs hq h (by omega) ha he)
  | succ k ih =>
    intro e σ n z ad c7 l hk ha he hl h
    refine Wp.round1 (F := fun n' m => f49_l1 (L49 n') m s a i3 q ad n c7 z e i10 i11 s12 i13 σ) (fun n' m => f49_l1_e) ?_
    by_cases hlt : e < s.length
    · obtain ⟨c, hc⟩ : ∃ c, s[e]? = some c := ⟨s[e], List.getElem?_eq_getElem hlt⟩
      simp only [f49_l1_t, byteN hc]
      refine Wp.pos (by rw [decide_eq_true_eq]; omega) (Wp.ite (fun _ => ?_) fun _ => quo_end hs hq h (by omega) ha he)
      refine Wp.call (byte67 hs hlt) (fun v σ1 hv => ?_) fun v σ1 hv => by obtain ⟨_, _, _, hv, _⟩ := hv; cases hv
      obtain ⟨rfl, d, j, hv, hj⟩ := hv
      cases hv
      simp only [xTup_t, unC_c, xInt_i, nlC_n]
      have nx {a' : Option (Nat × Nat)} {n' : Nat} {c' : Option Nat} {σ' : St} {i10 i11 : Int} (hj1 : 1 ≤ j) (hje : e + j ≤ s.length) (h' : B8 σ0 σ' a' n' 1 (l ++ [d])) : True := trivial
      have hw : IntKind.wrap .i64 ((e : Int) + (j : Int)) = ((e + j : Nat) : Int) := by
        rcases hj with rfl | ⟨h1, h2⟩
        · rw [wrap64 (by omega) (by omega)]; omega
        · rw [wrap64 (by omega) (by omega)]; omega
      refine Wp.ite (fun _ => ?_) fun hz => ?_
      · refine Wp.le' (fun u => f49_j2_e) ?_
        simp only [f49_j2_t]
        exact Wp.ret ⟨h.1, 6, [], 0, e, rfl, .inr (.inl rfl)⟩
      have hj0 : j ≠ 0 := by simpa using hz
      have hj2 : 1 ≤ j ∧ e + j ≤ s.length := by rcases hj with h0 | h0 <;> omega
      refine Wp.ite (fun _ => ?_) fun _ => ?_
      · refine Wp.le' (fun u => f49_j3_e) ?_
        simp only [f49_j3_t, hw]
        refine Wp.ite (fun _ => Wp.ret ⟨h.1, 6, [], 0, e, rfl, .inr (.inl rfl)⟩) fun _ => ?_
        exact h.app (by omega) fun a' n' c' σ' h' => ih (e + j) (by omega) (by omega) hj2.2 (by simp; omega) h'
      · refine Wp.le' (fun u => f49_j4_e) ?_
        simp only [f49_j4_t, hw]
        exact h.app (by omega) fun a' n' c' σ' h' => ih (e + j) (by omega) (by omega) hj2.2 (by simp; omega) h'
    · simp only [f49_l1_t]
      exact Wp.neg (by rw [decide_eq_false_iff_not]; omega) (quo_end hs hq h (by omega) ha he)
theorem quoted49 {a : Nat} {c : UInt8} (hs : s.length ≤ 1000000000) (hc : s[a]? = some c) (hq : (c.toNat : Int) = 34 ∨ (c.toNat : Int) = 39) : Fw Tryz.prog Lb 49 [.str s, .int .i64 (a : Int)] σ (TokQ s a σ) := by
  have hlt : a < s.length := (List.getElem?_eq_some_iff.1 hc).1
  refine Fw.enter (fun n => f49_e) ?_
  have hw : IntKind.wrap .i64 ((a : Int) + 1) = ((a + 1 : Nat) : Int) := wrapS (s := s) (by omega) (by omega)
  simp only [f49_t, byteN hc, hw]
  exact Wp.fresh1 (F := fun n m => f49_l1 (L49 n) m s a 0 (c.toNat : Int) none 0 (some 0) 0 (a + 1 : Nat) 0 0 [] 0 σ) (quo_loop hs hq s.length (a + 1) (l := []) (by omega) (by omega) (by omega) (by simp) ⟨Up.refl σ, .inl ⟨rfl, rfl, rfl⟩⟩)
theorem one_no {a e : Nat} {σ' : St} (h : Up σ σ') : Wp (TokQ s a σ) fun _ => some (.ret (.tuple [.agg [.int .i64 (6 : Int), .int .i64 (a : Int), .str [], .int .i64 (0 : Int)], .int .i64 (e : Int)]), σ') := Wp.ret ⟨h, 6, [], 0, e, rfl, .inr (.inl rfl)⟩
theorem one_yes {a e : Nat} {k nn : Int} {tx : List UInt8} {σ' : St} (h : Up σ σ') (h1 : a < e) (h2 : e ≤ s.length) : Wp (TokQ s a σ) fun _ => some (.ret (.tuple [.agg [.int .i64 k, .int .i64 (a : Int), .str tx, .int .i64 nn], .int .i64 (e : Int)]), σ') := Wp.ret ⟨h, k, tx, nn, e, rfl, .inr (.inr ⟨h1, h2⟩)⟩
theorem word_end {a e : Nat} {i3 i4 i7 i8 i10 : Int} {b6 : Bool} {s9 : List UInt8} (hs : s.length ≤ 1000000000) (ha : a < e) (he : e ≤ s.length) : Wp (TokQ s a σ) fun u => f21_j3 (L21 u.n) s a i3 i4 e b6 i7 i8 s9 i10 σ := by
  refine Wp.le' (fun u => f21_j3_e) ?_
  have hcut (f : List UInt8 → Out) : cutK s (a : Int) (e : Int) f = f ((s.take e).drop a) := by rw [cutK_ok ⟨by omega, by omega, by omega⟩]; simp
  simp only [f21_j3_t, hcut]
  refine Wp.calld (Qf := fun r σ' => r = .ret (.slice (some (σ.length, 0)) words.length (some words.length) 1) ∧ σ' = σ ++ [.cells (words.map .str) (.rw (.row 9))]) ?_ (fun v σ1 hv => ?_) fun v σ1 hv => by cases hv.1
  · refine Fw.enter (fun n => f47_e) ?_
    simp only [f47_t]
    exact Wp.ret ⟨rfl, rfl⟩
  obtain ⟨hv, hσ⟩ := hv
  cases hv
  have hu : Up σ σ1 := by rw [hσ]; exact Up.app _
  have hcl : cellsAt σ1 σ.length = some (words.map .str) := by rw [hσ]; unfold cellsAt; rw [List.getElem?_append_right (Nat.le_refl _), Nat.sub_self]; rfl
  simp only [xSl_s]
  refine Wp.calld (in46 (by decide) hcl _) (fun v σ2 hv => ?_) fun v σ2 hv => by obtain ⟨_, _, hv⟩ := hv; cases hv
  obtain ⟨hσ2, b, hv⟩ := hv
  cases hv
  cases hσ2
  simp only [xBool_b]
  exact Wp.ite (fun _ => one_yes hu ha he) fun _ => Wp.ite (fun _ => one_no hu) fun _ => one_yes hu ha he
theorem word_loop {a : Nat} {i3 i4 i7 i8 i10 : Int} {b6 : Bool} {s9 : List UInt8} (hs : s.length ≤ 1000000000) : ∀ (k e : Nat), s.length - e ≤ k → a ≤ e → e ≤ s.length → (a = e → ∃ c, s[a]? = some c ∧ isLetter c = true) → Wp (TokQ s a σ) fun u => f21_l1 (L21 u.n) u.m1 s a i3 i4 e b6 i7 i8 s9 i10 σ := by
  intro k
  induction k with
  | zero =>
    intro e hk ha he hf
    have hlt : a < e := by
      by_cases h : a = e
      · obtain ⟨c, hc, _⟩ := hf h
        have := (List.getElem?_eq_some_iff.1 hc).1
        omega
      · omega
    refine Wp.round1 (F := fun n m => f21_l1 (L21 n) m s a i3 i4 e b6 i7 i8 s9 i10 σ) (fun n m => f21_l1_e) ?_
    simp only [f21_l1_t]
    exact Wp.neg (by rw [decide_eq_false_iff_not]; omega) (word_end hs hlt he)
  | succ k ih =>
    intro e hk ha he hf
    refine Wp.round1 (F := fun n m => f21_l1 (L21 n) m s a i3 i4 e b6 i7 i8 s9 i10 σ) (fun n m => f21_l1_e) ?_
    by_cases hlt : e < s.length
    · obtain ⟨c, hc⟩ : ∃ c, s[e]? = some c := ⟨s[e], List.getElem?_eq_getElem hlt⟩
      have hw : IntKind.wrap .i64 ((e : Int) + 1) = ((e + 1 : Nat) : Int) := wrapS (s := s) (by omega) (by omega)
      have nx := ih (e + 1) (by omega) (by omega) hlt (fun h => by omega)
      simp only [f21_l1_t, byteN hc, hw]
      refine Wp.pos (by rw [decide_eq_true_eq]; omega) (Wp.call (let44 c) (fun v σ1 hv => ?_) fun v σ1 hv => by cases hv.1)
      obtain ⟨hv, rfl⟩ := hv
      cases hv
      simp only [xBool_b]
      refine Wp.ite (fun _ => nx) fun hl => Wp.call (dig45 c) (fun v σ2 hv => ?_) fun v σ2 hv => by cases hv.1
      obtain ⟨hv, rfl⟩ := hv
      cases hv
      simp only [xBool_b]
      refine Wp.ite (fun _ => nx) fun _ => word_end hs ?_ he
      by_cases h : a = e
      · obtain ⟨c', hc', hl'⟩ := hf h
        subst h
        rw [hc] at hc'
        cases hc'
        rw [hl] at hl'; cases hl'
      · omega
    · have hlt' : a < e := by
        by_cases h : a = e
        · obtain ⟨c, hc, _⟩ := hf h
          have := (List.getElem?_eq_some_iff.1 hc).1
          omega
        · omega
      simp only [f21_l1_t]
      exact Wp.neg (by rw [decide_eq_false_iff_not]; omega) (word_end hs hlt' he)
theorem dig_end {a e : Nat} {i3 i4 i7 i8 i10 : Int} {s9 : List UInt8} (hs : s.length ≤ 1000000000) (ha : a < e) (he : e ≤ s.length) : Wp (TokQ s a σ) fun u => f21_j6 (L21 u.n) s a i3 i4 e i7 i8 s9 i10 σ := by
  refine Wp.le' (fun u => f21_j6_e) ?_
  have hcut (f : List UInt8 → Out) : cutK s (a : Int) (e : Int) f = f ((s.take e).drop a) := by rw [cutK_ok ⟨by omega, by omega, by omega⟩]; simp
  simp only [f21_j6_t, hcut]
  refine Wp.call (num48 (by rw [List.length_drop, List.length_take]; omega)) (fun v σ1 hv => ?_) fun v σ1 hv => by obtain ⟨_, _, _, hv⟩ := hv; cases hv
  obtain ⟨rfl, w, b, hv⟩ := hv
  cases hv
  simp only [xTup_t, unC_c, xInt_i, xBool_b, nlC_n]
  exact Wp.ite (fun _ => one_no (Up.refl _)) fun _ => one_yes (Up.refl _) ha he
theorem digit_loop {a : Nat} {i3 i4 i7 i8 i10 : Int} {s9 : List UInt8} (hs : s.length ≤ 1000000000) : ∀ (k e : Nat), s.length - e ≤ k → a ≤ e → e ≤ s.length → (a = e → ∃ c, s[a]? = some c ∧ isDigit c = true) → Wp (TokQ s a σ) fun u => f21_l4 (L21 u.n) u.m1 s a i3 i4 e i7 i8 s9 i10 σ := by
  intro k
  induction k with
  | zero =>
    intro e hk ha he hf
    have hlt : a < e := by
      by_cases h : a = e
      · obtain ⟨c, hc, _⟩ := hf h
        have := (List.getElem?_eq_some_iff.1 hc).1
        omega
      · omega
    refine Wp.round1 (F := fun n m => f21_l4 (L21 n) m s a i3 i4 e i7 i8 s9 i10 σ) (fun n m => f21_l4_e) ?_
    simp only [f21_l4_t]
    exact Wp.neg (by rw [decide_eq_false_iff_not]; omega) (dig_end hs hlt he)
  | succ k ih =>
    intro e hk ha he hf
    refine Wp.round1 (F := fun n m => f21_l4 (L21 n) m s a i3 i4 e i7 i8 s9 i10 σ) (fun n m => f21_l4_e) ?_
    by_cases hlt : e < s.length
    · obtain ⟨c, hc⟩ : ∃ c, s[e]? = some c := ⟨s[e], List.getElem?_eq_getElem hlt⟩
      have hw : IntKind.wrap .i64 ((e : Int) + 1) = ((e + 1 : Nat) : Int) := wrapS (s := s) (by omega) (by omega)
      have nx := ih (e + 1) (by omega) (by omega) hlt (fun h => by omega)
      simp only [f21_l4_t, byteN hc, hw]
      refine Wp.pos (by rw [decide_eq_true_eq]; omega) (Wp.call (dig45 c) (fun v σ1 hv => ?_) fun v σ1 hv => by cases hv.1)
      obtain ⟨hv, rfl⟩ := hv
      cases hv
      simp only [xBool_b]
      refine Wp.ite (fun _ => nx) fun hl => dig_end hs ?_ he
      by_cases h : a = e
      · obtain ⟨c', hc', hl'⟩ := hf h
        subst h
        rw [hc] at hc'
        cases hc'
        rw [hl] at hl'; cases hl'
      · omega
    · have hlt' : a < e := by
        by_cases h : a = e
        · obtain ⟨c, hc, _⟩ := hf h
          have := (List.getElem?_eq_some_iff.1 hc).1
          omega
        · omega
      simp only [f21_l4_t]
      exact Wp.neg (by rw [decide_eq_false_iff_not]; omega) (dig_end hs hlt' he)
theorem mark_round {a b : Nat} {i3 i10 i9 i12 : Int} {s11 : List UInt8} {c : Option Nat} {σ0 : St} (hs : s.length ≤ 1000000000) (ha : a ≤ s.length) (hu : Up σ0 σ) (hc : cellsAt σ b = some (marks.map .str)) : ∀ (k i : Nat), i + k = marks.length →
    Wp (TokQ s a σ0) fun u => f21_l7 (L21 u.n) u.m1 s a i3 (some (b, 0)) marks.length c 1 i i9 i10 s11 i12 σ := by
  have hml : marks.length = 29 := rfl
  intro k
  induction k with
  | zero =>
    intro i hi
    refine Wp.round1 (F := fun n m => f21_l7 (L21 n) m s a i3 (some (b, 0)) marks.length c 1 i i9 i10 s11 i12 σ) (fun n m => f21_l7_e) ?_
    simp only [f21_l7_t]
    refine Wp.neg (by rw [decide_eq_false_iff_not]; omega) (Wp.le' (fun u => f21_j10_e) ?_)
    simp only [f21_j10_t]
    exact one_no hu
  | succ k ih =>
    intro i hi
    obtain ⟨y, hy⟩ : ∃ y, marks[i]? = some y := ⟨marks[i], List.getElem?_eq_getElem (by omega)⟩
    have hy1 : 1 ≤ y.length ∧ y.length ≤ 2 := (by decide : ∀ m ∈ marks, 1 ≤ m.length ∧ m.length ≤ 2) y (List.mem_of_getElem? hy)
    have hw : IntKind.wrap .i64 ((i : Int) + 1) = ((i + 1 : Nat) : Int) := by rw [wrap64 (by omega) (by omega)]; omega
    have hw2 : IntKind.wrap .i64 ((a : Int) + (y.length : Int)) = ((a + y.length : Nat) : Int) := by rw [wrap64 (by omega) (by omega)]; omega
    have ii (x : Out) : idxK (i : Int) marks.length x = x := idxK_ok ⟨by omega, by omega⟩
    have nx := ih (i + 1) (by omega)
    refine Wp.round1 (F := fun n m => f21_l7 (L21 n) m s a i3 (some (b, 0)) marks.length c 1 i i9 i10 s11 i12 σ) (fun n m => f21_l7_e) ?_
    simp only [f21_l7_t, derefK_s, szK_s, ldStr hc hy, xStr_s, hw2, ii]
    refine Wp.pos (by rw [decide_eq_true_eq]; omega) (Wp.ite (fun hle => ?_) fun _ => ?_)
    · rw [decide_eq_true_eq] at hle
      have hcut (f : List UInt8 → Out) : cutK s (a : Int) ((a + y.length : Nat) : Int) f = f ((s.take (a + y.length)).drop a) := by rw [cutK_ok ⟨by omega, by omega, by omega⟩]; simp only [Int.toNat_natCast]
      simp only [hcut]
      refine Wp.le' (fun u => f21_j8_e) ?_
      simp only [f21_j8_t, derefK_s, szK_s, ldStr hc hy, xStr_s, hw2, hw, ii]
      exact Wp.ite (fun _ => one_yes hu (by omega) (by omega)) fun _ => nx
    · refine Wp.le' (fun u => f21_j9_e) ?_
      simp only [f21_j9_t, hw]
      exact nx
theorem tok_copy {a : Nat} {c : UInt8} (hs : s.length ≤ 1000000000) (hc : s[a]? = some c) (hq : (c.toNat : Int) = 34 ∨ (c.toNat : Int) = 39) {G : Fu → AV → St → Out}
    (hG : ∀ v σ', (∃ (k : Int) (tx : List UInt8) (nn : Int) (e : Nat), v = .tuple [.agg [.int .i64 k, .int .i64 (a : Int), .str tx, .int .i64 nn], .int .i64 (e : Int)] ∧ (k = 0 ∨ k = 6 ∨ (a < e ∧ e ≤ s.length))) → Up σ σ' → Wp Q fun u => G u v σ') :
    Wp Q fun u => callT Tryz.prog Lb u.n 49 [.str s, .int .i64 (a : Int)] σ (G u) := by
  refine Wp.call (quoted49 hs hc hq) (fun v σ1 hv => ?_) fun v σ1 hv => by obtain ⟨_, _, _, _, _, hv, _⟩ := hv; cases hv
  obtain ⟨hu, k, tx, nn, e, hv, he⟩ := hv
  cases hv
  exact hG _ _ ⟨k, tx, nn, e, rfl, he⟩ hu
theorem one21 {a : Nat} (hs : s.length ≤ 1000000000) (ha : a ≤ s.length) : Fw Tryz.prog Lb 21 [.str s, .int .i64 (a : Int)] σ (TokQ s a σ) := by
  refine Fw.enter (fun n => f21_e) ?_
  simp only [f21_t]
  refine Wp.ite (fun _ => Wp.ret ⟨Up.refl _, 0, [], 0, a, rfl, .inl rfl⟩) fun hge => ?_
  have hlt : a < s.length := by rw [decide_eq_false_iff_not] at hge; omega
  obtain ⟨c, hc⟩ : ∃ c, s[a]? = some c := ⟨s[a], List.getElem?_eq_getElem hlt⟩
  simp only [byteN hc]
  refine Wp.call (let44 c) (fun v σ1 hv => ?_) fun v σ1 hv => by cases hv.1
  obtain ⟨hv, rfl⟩ := hv
  cases hv
  simp only [xBool_b]
  refine Wp.call (dig45 c) (fun v σ2 hv => ?_) fun v σ2 hv => by cases hv.1
  obtain ⟨hv, rfl⟩ := hv
  cases hv
  simp only [xBool_b]
  refine Wp.ite (fun hl => ?_) fun hl => ?_
  · exact Wp.fresh1 (F := fun n m => f21_l1 (L21 n) m s a 0 (c.toNat : Int) a (isDigit c) 0 0 [] 0 σ2) (word_loop hs s.length a (by omega) (Nat.le_refl _) ha fun _ => ⟨c, hc, hl⟩)
  refine Wp.le' (fun u => f21_j2_e) ?_
  simp only [f21_j2_t]
  refine Wp.ite (fun hd => ?_) fun hd => ?_
  · exact Wp.fresh1 (F := fun n m => f21_l4 (L21 n) m s a 0 (c.toNat : Int) a 0 0 [] 0 σ2) (digit_loop hs s.length a (by omega) (Nat.le_refl _) ha fun _ => ⟨c, hc, hd⟩)
  refine Wp.le' (fun u => f21_j5_e) ?_
  simp only [f21_j5_t]
  refine Wp.ite (fun h34 => ?_) fun _ => Wp.ite (fun h39 => ?_) fun _ => ?_
  · refine tok_copy hs hc (.inl (by simpa using h34)) fun v σ' hv hu => ?_
    obtain ⟨k, tx, nn, e, rfl, he⟩ := hv
    simp only [xTup_t, unC_c, xAgg_a, xInt_i, xStr_s, nlC_n]
    exact Wp.ret ⟨hu, k, tx, nn, e, rfl, he⟩
  · refine tok_copy hs hc (.inr (by simpa using h39)) fun v σ' hv hu => ?_
    obtain ⟨k, tx, nn, e, rfl, he⟩ := hv
    simp only [xTup_t, unC_c, xAgg_a, xInt_i, xStr_s, nlC_n]
    exact Wp.ret ⟨hu, k, tx, nn, e, rfl, he⟩
  · refine Wp.call (Qf := fun r σ' => r = .ret (.slice (some (σ2.length, 0)) marks.length (some marks.length) 1) ∧ σ' = σ2 ++ [.cells (marks.map .str) (.rw (.row 9))]) ?_ (fun v σ1 hv => ?_) fun v σ1 hv => by cases hv.1
    · refine Fw.enter (fun n => f50_e) ?_
      simp only [f50_t]
      exact Wp.ret ⟨by kernel_rfl, by kernel_rfl⟩
    obtain ⟨hv, hσ⟩ := hv
    cases hv
    have hu : Up σ2 σ1 := by rw [hσ]; exact Up.app _
    have hcl : cellsAt σ1 σ2.length = some (marks.map .str) := by rw [hσ]; unfold cellsAt; rw [List.getElem?_append_right (Nat.le_refl _), Nat.sub_self]; rfl
    simp only [xSl_s]
    have h0 := mark_round (i3 := 0) (i9 := 0) (i10 := 0) (s11 := []) (i12 := 0) (c := some marks.length) hs ha hu hcl marks.length 0 (Nat.zero_add _)
    rw [show ((0 : Nat) : Int) = 0 from rfl] at h0
    exact Wp.fresh1 (F := fun n m => f21_l7 (L21 n) m s a 0 (some (σ2.length, 0)) marks.length (some marks.length) 1 0 0 0 [] 0 σ1) h0
def ToksQ (σ0 : St) : Post := fun r σ' => Up σ0 σ' ∧ ∃ (b l : Nat) (c : Option Nat) (cs : List AV) (k : Int), r = .ret (.slice (some (b, 0)) (l + 1) c 4) ∧ l ≤ 1000000000 ∧ cellsAt σ' b = some cs ∧ cs[l * 4]? = some (.int .i64 k)
def T4s (σ0 σ : St) (a : Option (Nat × Nat)) (n z : Nat) : Prop :=
  Up σ0 σ ∧ ((a = none ∧ n = 0) ∨ ∃ b cs, a = some (b, 0) ∧ cs.length = n * 4 ∧ z = 4 ∧ σ0.length ≤ b ∧ σ[b]? = some (.cells cs (.rw (.row 38))))
theorem T4s.app {a : Option (Nat × Nat)} {n z : Nat} {x : AV} {y : List AV} {K : Fu → Option (Nat × Nat) → Nat → Option Nat → St → Out} (h : T4s σ0 σ a n z) (hy : y.length = 3) (hn : n ≤ 1000000000)
    (hk : ∀ b c' σ' cs, T4s σ0 σ' (some (b, 0)) (n + 1) 4 → cellsAt σ' b = some cs → cs[n * 4]? = some x → Wp Q fun u => K u (some (b, 0)) (n + 1) c' σ') : Wp Q fun u => appK σ 38 4 40 a n z 1 (x :: y) (K u) := by
  obtain ⟨hu, h⟩ := h
  rcases h with ⟨rfl, rfl⟩ | ⟨b, cs, rfl, hl, rfl, hb, hc⟩
  · have e : (σ ++ [AObj.cells (x :: y) (.rw (.row 38))])[σ.length]? = some (.cells (x :: y) (.rw (.row 38))) := by rw [List.getElem?_append_right (Nat.le_refl _), Nat.sub_self]; rfl
    exact Wp.app0 (by decide) (by decide) (hk _ _ _ (x :: y) ⟨hu.trans (Up.app _), .inr ⟨σ.length, x :: y, rfl, by simp [hy], rfl, hu.len, e⟩⟩ (by unfold cellsAt; rw [e]) rfl)
  · have e0 : ((cs.drop 0).take (n * 4)) = cs := by rw [List.drop_zero, ← hl, List.take_length]
    have e : (σ.set b .dead ++ [AObj.cells ((cs.drop 0).take (n * 4) ++ x :: y) (.rw (joinW (.row 38) 38))])[σ.length]? = some (.cells (cs ++ x :: y) (.rw (.row 38))) := by
      rw [List.getElem?_append_right (by simp), List.length_set, Nat.sub_self, e0]; simp [joinW]
    exact Wp.app1 hc (by omega) (by omega) (hk _ _ _ (cs ++ x :: y) ⟨hu.newSet hb, .inr ⟨σ.length, cs ++ x :: y, rfl, by simp [hl, hy]; omega, rfl, hu.len, e⟩⟩ (by unfold cellsAt; rw [e]) (by rw [← hl, List.getElem?_append_right (Nat.le_refl _), Nat.sub_self]; rfl))
theorem toks_loop {a2 : Option (Nat × Nat)} {n3 z5 : Nat} {c4 : Option Nat} (hs : s.length ≤ 1000000000) : ∀ (k at_ : Nat) {σ : St} {a : Option (Nat × Nat)} {n z : Nat} {c8 : Option Nat}, s.length - at_ < k → at_ ≤ s.length → n ≤ at_ → T4s σ0 σ a n z →
    Wp (ToksQ σ0) fun u => f10_l1 (L10 u.n) u.m1 s a2 n3 c4 z5 a n c8 z at_ σ := by
  intro k
  induction k with
  | zero => intro at_ σ a n z c8 hk; omega
  | succ k ih =>
    intro at_ σ a n z c8 hk hat hn h
    refine Wp.round1 (F := fun n' m => f10_l1 (L10 n') m s a2 n3 c4 z5 a n c8 z at_ σ) (fun n' m => f10_l1_e) ?_
    simp only [f10_l1_t]
    refine Wp.call (blank20 hs hat) (fun v σ1 hv => ?_) fun v σ1 hv => by obtain ⟨_, _, _, hv⟩ := hv; cases hv
    obtain ⟨rfl, m, hm, hv⟩ := hv
    cases hv
    have hw : IntKind.wrap .i64 ((at_ : Int) + (m : Int)) = ((at_ + m : Nat) : Int) := by rw [wrap64 (by omega) (by omega)]; omega
    simp only [xInt_i, hw]
    refine Wp.call (one21 hs hm) (fun v σ2 hv => ?_) fun v σ2 hv => by obtain ⟨_, _, _, _, _, hv, _⟩ := hv; cases hv
    obtain ⟨hu, kd, tx, nn, e, hv, he⟩ := hv
    cases hv
    simp only [xTup_t, unC_c, xAgg_a, xInt_i, xStr_s, nlC_n]
    have h2 : T4s σ0 σ2 a n z := ⟨h.1.trans hu, by
      rcases h.2 with h | ⟨b, cs, h1, h2, h3, h4, h5⟩
      · exact .inl h
      · exact .inr ⟨b, cs, h1, h2, h3, h4, by rw [hu.same b (lt_of h5)]; exact h5⟩⟩
    refine h2.app rfl (by omega) fun b c' σ' cs h3 hcs hx => ?_
    have done : ToksQ σ0 (.ret (.slice (some (b, 0)) (n + 1) c' 4)) σ' := ⟨h3.1, b, n, c', cs, kd, rfl, by omega, hcs, hx⟩
    refine Wp.ite (fun _ => Wp.ret done) fun h0 => Wp.ite (fun _ => Wp.ret done) fun h6 => ?_
    have he2 : at_ + m < e ∧ e ≤ s.length := by
      rcases he with he | he | he
      · subst he; cases h0
      · subst he; cases h6
      · exact he
    exact ih e (by omega) he2.2 (by omega) h3
theorem toks10 (hs : s.length ≤ 1000000000) : Fw Tryz.prog Lb 10 [.str s] σ (ToksQ σ) := by
  refine Fw.enter (fun n => f10_e) ?_
  simp only [f10_t]
  exact Wp.fresh1 (F := fun n m => f10_l1 (L10 n) m s none 0 (some 0) 0 none 0 (some 0) 0 (0 : Nat) σ) (toks_loop hs (s.length + 1) 0 (by omega) (Nat.zero_le _) (Nat.le_refl _) ⟨Up.refl _, .inl ⟨rfl, rfl⟩⟩)
end
end Go.Front
namespace Go.Front
open Go.AM Go.Proofs
noncomputable abbrev L9 (n : Nat) : Leaf := pt Tryz.prog Lb 9 n
noncomputable abbrev L5 (n : Nat) : Leaf := pt Tryz.prog Lb 5 n
section
variable {Q : Post} {σ σ0 : St} {ta tb : Nat} {a b : List Node} {nd : Node}
theorem same9_kids {ks : List Nat} {a1 a5 aa ab : Option (Nat × Nat)} {n2 n6 z4 z8 za zb : Nat} {c3 c7 ca cb : Option Nat} {i10 k1 k2 n1 n3 m1 m2 at1 at2 : Int} {s1 s2 : List UInt8} (hl : ks.length ≤ 1000000000) (ha : KAt σ (.slice aa ks.length ca za) ks) (hb : KAt σ (.slice ab ks.length cb zb) ks)
    (hk : Wp Q fun u => f9_j7 (L9 u.n) u.m1 a1 n2 c3 z4 a5 n6 c7 z8 true i10 σ) :
    ∀ (k j : Nat), j + k = ks.length → Wp Q fun u => f9_l6 (L9 u.n) u.m1 u.m2 a1 n2 c3 z4 a5 n6 c7 z8 true i10 j k1 at1 s1 n1 m1 aa ks.length ca za k2 at2 s2 n3 m2 ab ks.length cb zb σ := by
  intro k
  induction k with
  | zero =>
    intro j hj
    refine Wp.round2 (F := fun n q1 q2 => f9_l6 (L9 n) q1 q2 a1 n2 c3 z4 a5 n6 c7 z8 true i10 j k1 at1 s1 n1 m1 aa ks.length ca za k2 at2 s2 n3 m2 ab ks.length cb zb σ) (fun n q1 q2 => f9_l6_e) ?_
    simp only [f9_l6_t]
    exact Wp.neg (by rw [decide_eq_false_iff_not]; omega) hk
  | succ k ih =>
    intro j hj
    obtain ⟨x, hx⟩ : ∃ x, ks[j]? = some x := ⟨ks[j], List.getElem?_eq_getElem (by omega)⟩
    obtain ⟨b1, c1, e1, h1⟩ := ha.kid hx
    obtain ⟨b2, c2, e2, h2⟩ := hb.kid hx
    cases e1; cases e2
    have hw : IntKind.wrap .i64 ((j : Int) + 1) = ((j + 1 : Nat) : Int) := by rw [wrap64 (by omega) (by omega)]; omega
    refine Wp.round2 (F := fun n q1 q2 => f9_l6 (L9 n) q1 q2 a1 n2 c3 z4 a5 n6 c7 z8 true i10 j k1 at1 s1 n1 m1 (some (b1, 0)) ks.length ca 1 k2 at2 s2 n3 m2 (some (b2, 0)) ks.length cb 1 σ) (fun n q1 q2 => f9_l6_e) ?_
    simp only [f9_l6_t, derefK_s, szK_s, ldKid h1 hx, ldKid h2 hx, xInt_i, hw, idxK_ok (show (0 : Int) ≤ (j : Int) ∧ (j : Int) < (ks.length : Int) from ⟨by omega, by omega⟩)]
    exact Wp.pos (by rw [decide_eq_true_eq]; omega) (Wp.neg (by simp) (ih (j + 1) (by omega)))
theorem same9_loop {ca cb : Option Nat} (hsa : Src σ ta a) (hsb : Src σ tb b) (hab : a.map Node.strip = b.map Node.strip) (hl : a.length ≤ 1000000000) (hkl : ∀ x ∈ a, x.kids.length ≤ 1000000000) :
    ∀ (k i : Nat), i + k = a.length → Wp (trueQ σ) fun u => f9_l1 (L9 u.n) u.m1 (some (ta, 0)) a.length ca 6 (some (tb, 0)) b.length cb 6 true i σ := by
  have hlab : a.length = b.length := by have := congrArg List.length hab; simpa using this
  intro k
  induction k with
  | zero =>
    intro i hi
    refine Wp.round1 (F := fun n m => f9_l1 (L9 n) m (some (ta, 0)) a.length ca 6 (some (tb, 0)) b.length cb 6 true i σ) (fun n m => f9_l1_e) ?_
    simp only [f9_l1_t]
    refine Wp.neg (by rw [decide_eq_false_iff_not]; omega) (Wp.le' (fun u => f9_j5_e) ?_)
    simp only [f9_j5_t]
    exact Wp.ret ⟨rfl, rfl⟩
  | succ k ih =>
    intro i hi
    obtain ⟨x, hx⟩ : ∃ x, a[i]? = some x := ⟨a[i], List.getElem?_eq_getElem (by omega)⟩
    obtain ⟨y, hy⟩ : ∃ y, b[i]? = some y := ⟨b[i], List.getElem?_eq_getElem (by omega)⟩
    have hxy : x.strip = y.strip := by
      have := congrArg (fun l => l[i]?) hab
      simpa [hx, hy] using this
    obtain ⟨e1, e2, e3, e4, e5⟩ := strip_eq hxy
    obtain ⟨kva, hka, _, hna⟩ := hsa.kids hx
    obtain ⟨kvb, hkb, _, hnb⟩ := hsb.kids hy
    obtain ⟨aa, caa, za, rfl⟩ := hka.slice
    obtain ⟨ab, cab, zb, rfl⟩ := hkb.slice
    have hxl := hkl x (List.mem_of_getElem? hx)
    have hw : IntKind.wrap .i64 ((i : Int) + 1) = ((i + 1 : Nat) : Int) := by rw [wrap64 (by omega) (by omega)]; omega
    refine Wp.round1 (F := fun n m => f9_l1 (L9 n) m (some (ta, 0)) a.length ca 6 (some (tb, 0)) b.length cb 6 true i σ) (fun n m => f9_l1_e) ?_
    simp only [f9_l1_t, derefK_s, szK_s, hna, hnb, xAgg_a, unC_c, xInt_i, xStr_s, xSl_s, nlC_n, idxK_ok (show (0 : Int) ≤ (i : Int) ∧ (i : Int) < (a.length : Int) from ⟨by omega, by omega⟩), idxK_ok (show (0 : Int) ≤ (i : Int) ∧ (i : Int) < (b.length : Int) from ⟨by omega, by omega⟩)]
    refine Wp.pos (by rw [decide_eq_true_eq]; omega) (Wp.neg (by rw [e1]; simp) (Wp.neg (by rw [e2]; simp) (Wp.neg (by rw [e3]; simp) (Wp.neg (by rw [e4]; simp) ?_))))
    rw [← e5] at hkb ⊢
    refine Wp.neg (by simp) (Wp.neg rfl (Wp.le' (fun u => f9_j4_e) ?_))
    simp only [f9_j4_t]
    have hj7 : Wp (trueQ σ) fun u => f9_j7 (L9 u.n) u.m1 (some (ta, 0)) a.length ca 6 (some (tb, 0)) b.length cb 6 true i σ := by
      refine Wp.le' (fun u => f9_j7_e) ?_
      simp only [f9_j7_t, hw]
      exact ih (i + 1) (by omega)
    have h0 := same9_kids (k1 := x.kind) (at1 := x.at_) (s1 := x.text) (n1 := x.n) (m1 := x.m) (k2 := y.kind) (at2 := y.at_) (s2 := y.text) (n3 := y.n) (m2 := y.m) hxl hka hkb hj7 x.kids.length 0 (by omega)
    rw [show ((0 : Nat) : Int) = 0 from rfl] at h0
    refine Wp.fresh2 (F := fun n q1 q2 => f9_l6 (L9 n) q1 q2 (some (ta, 0)) a.length ca 6 (some (tb, 0)) b.length cb 6 true i 0 x.kind x.at_ x.text x.n x.m aa x.kids.length caa za y.kind y.at_ y.text y.n y.m ab x.kids.length cab zb σ) ?_
    exact h0
theorem same9 {ca cb : Option Nat} (hsa : Src σ ta a) (hsb : Src σ tb b) (hab : a.map Node.strip = b.map Node.strip) (hl : a.length ≤ 1000000000) (hkl : ∀ x ∈ a, x.kids.length ≤ 1000000000) :
    Fw Tryz.prog Lb 9 [.slice (some (ta, 0)) a.length ca 6, .slice (some (tb, 0)) b.length cb 6, .bool true] σ (trueQ σ) := by
  have hlab : a.length = b.length := by have := congrArg List.length hab; simpa using this
  refine Fw.enter (fun n => f9_e) ?_
  simp only [f9_t]
  refine Wp.neg (by rw [hlab]; simp) ?_
  have h0 := same9_loop (ca := ca) (cb := cb) hsa hsb hab hl hkl a.length 0 (by omega)
  rw [show ((0 : Nat) : Int) = 0 from rfl] at h0
  exact Wp.fresh1 (F := fun n m => f9_l1 (L9 n) m (some (ta, 0)) a.length ca 6 (some (tb, 0)) b.length cb 6 true 0 σ) h0
theorem count_loop {ca cb : Option Nat} (hsa : Src σ ta a) (hsb : Src σ tb b) (hab : a.map Node.strip = b.map Node.strip) (hl : a.length ≤ 1000000000) (hkl : ∀ x ∈ a, x.kids.length ≤ 1000000000) :
    ∀ (k i : Nat) (cnt : Int), i + k = a.length → Wp (fun r σ' => r = .ret (.bool true)) fun u => f5_l1 (L5 u.n) u.m1 true (some (ta, 0)) a.length ca 6 (some (tb, 0)) b.length cb 6 cnt i σ := by
  intro k
  induction k with
  | zero =>
    intro i cnt hi
    refine Wp.round1 (F := fun n m => f5_l1 (L5 n) m true (some (ta, 0)) a.length ca 6 (some (tb, 0)) b.length cb 6 cnt i σ) (fun n m => f5_l1_e) ?_
    simp only [f5_l1_t]
    refine Wp.neg (by rw [decide_eq_false_iff_not]; omega) (Wp.le' (fun u => f5_j2_e) ?_)
    simp only [f5_j2_t]
    refine Wp.call (same9 hsa hsb hab hl hkl) (fun v σ' hv => ?_) fun v σ' hv => by cases hv.1
    obtain ⟨hv, rfl⟩ := hv
    cases hv
    simp only [xBool_b]
    exact Wp.pos rfl (Wp.pos rfl (Wp.ret rfl))
  | succ k ih =>
    intro i cnt hi
    obtain ⟨x, hx⟩ : ∃ x, a[i]? = some x := ⟨a[i], List.getElem?_eq_getElem (by omega)⟩
    have hw : IntKind.wrap .i64 ((i : Int) + 1) = ((i + 1 : Nat) : Int) := by rw [wrap64 (by omega) (by omega)]; omega
    refine Wp.round1 (F := fun n m => f5_l1 (L5 n) m true (some (ta, 0)) a.length ca 6 (some (tb, 0)) b.length cb 6 cnt i σ) (fun n m => f5_l1_e) ?_
    simp only [f5_l1_t, derefK_s, szK_s, hsa.kind hx, xInt_i, hw, idxK_ok (show (0 : Int) ≤ (i : Int) ∧ (i : Int) < (a.length : Int) from ⟨by omega, by omega⟩)]
    exact Wp.pos (by rw [decide_eq_true_eq]; omega) (Wp.ite (fun _ => ih (i + 1) _ (by omega)) fun _ => ih (i + 1) _ (by omega))
end
theorem kids_le {l : List Dc} {len : Nat} (hg : ∀ x ∈ l, x.good len) (hl : (allNodes l).length ≤ 4096) : ∀ x ∈ allNodes l, x.kids.length ≤ 1000000000 := by
  obtain ⟨hfine, _, _⟩ := all_fine l hg
  intro x hx
  obtain ⟨i, hi, hx⟩ := List.getElem_of_mem hx
  obtain ⟨nd, hf⟩ := hfine i (Nat.zero_le _) (by omega)
  have he : nd = x := by
    have := hf.at_
    rw [List.getElem?_eq_getElem hi, hx] at this
    exact (Option.some.inj this).symm
  subst he
  have hle : ∀ x ∈ nd.kids.reverse, Fof (allFirsts l) x ≤ x := fun x hx => by
    obtain ⟨h1, kd, h2, _⟩ := hf.kids x (List.mem_reverse.1 hx)
    obtain ⟨nd', hf'⟩ := hfine x (Nat.zero_le _) (by omega)
    exact hf'.le
  have := chain_len _ _ _ hf.ch hle
  rw [List.length_reverse] at this
  omega
theorem shape {o : Except Flt (List Node)} {v : AV} {σ σ' : St} {len : Nat} (hc : Came len o) (h : parseQ σ o (.ret v) σ') :
    ∃ ad n c z e1 e2, v = .tuple [.slice ad n c z, .int .i64 e1, .int .i64 e2] ∧ ((∃ nd tb, o = .ok nd ∧ e1 = 0 ∧ ad = some (tb, 0) ∧ n = nd.length ∧ z = 6 ∧ Src σ' tb nd) ∨ e1 ≠ 0) := by
  obtain ⟨_, h⟩ := h
  cases o with
  | error e =>
    cases h
    exact ⟨_, _, _, _, _, _, rfl, .inr (by rcases hc.2 with h | h <;> rw [h] <;> decide)⟩
  | ok nd =>
    obtain ⟨w, h, hs⟩ := h
    cases h
    obtain ⟨l, rfl, _, _⟩ := hc
    obtain ⟨tb, c, rfl, hs2⟩ := hs.src (by simp [allNodes])
    exact ⟨_, _, _, _, _, _, rfl, .inl ⟨_, tb, rfl, rfl, rfl, rfl, rfl, hs2⟩⟩
theorem brackets_fn {s : List UInt8} {σ0 : St} (hk : Kn σ0) : Fw Tryz.prog Lb 5 [.str s] σ0 fun r σ' => r = .ret (.bool true) := by
  refine Fw.enter (fun n => f5_e) ?_
  simp only [f5_t]
  refine Wp.call (shown_fn hk) (fun v σ1 hv => ?_) fun v σ' hv => by cases hv.1
  obtain ⟨hv, hu1⟩ := hv
  cases hv
  simp only [xBool_b]
  refine Wp.ite (fun _ => Wp.ret rfl) fun hlen => ?_
  have hlen : s.length ≤ 2000 := by rw [decide_eq_false_iff_not] at hlen; omega
  refine Wp.call (toks10 (by omega)) (fun v σ2 hv => ?_) fun v σ' hv => by obtain ⟨_, _, _, _, _, _, hv, _⟩ := hv; cases hv
  obtain ⟨hu2, bt, l, ct, cs, kd, hv, hl, hcs, hx⟩ := hv
  cases hv
  have hw : IntKind.wrap .i64 (((l + 1 : Nat) : Int) - 1) = (l : Int) := by rw [wrap64 (by omega) (by omega)]; omega
  have hld (f : AV → Out) : ldK Tryz.prog 3 σ2 bt ((0 + ((l : Int)).toNat * 4) + 0) f = f (.int .i64 kd) := ldc hcs agg3 (by simpa using hx)
  simp only [xSl_s, hw, derefK_s, szK_s, hld, xInt_i, idxK_ok (show (0 : Int) ≤ (l : Int) ∧ (l : Int) < ((l + 1 : Nat) : Int) from ⟨by omega, by omega⟩)]
  refine Wp.ite (fun _ => Wp.ret rfl) fun _ => ?_
  have hA : [105, 110, 116, 32, 102, 40, 41, 123, 114, 101, 116, 117, 114, 110, 32] ++ s ++ [10, 59, 125] = textA s := by simp [textA, p1]
  have hB : [105, 110, 116, 32, 102, 40, 41, 123, 114, 101, 116, 117, 114, 110, 32, 40] ++ s ++ [10, 41, 59, 125] = textB s := by simp [textB, p2]
  have hlA : (textA s).length ≤ 8192 := by simp [textA, p1]; omega
  have hlB : (textB s).length ≤ 8192 := by simp [textB, p2]; omega
  obtain ⟨oA, hoA, hcA⟩ := read_tot (textA s) (n := 20000) (by omega)
  obtain ⟨oB, hoB, hcB⟩ := read_tot (textB s) (n := 20002) (by omega)
  have c1 (f : List UInt8 → Out) : catK [105, 110, 116, 32, 102, 40, 41, 123, 114, 101, 116, 117, 114, 110, 32] s f = f ([105, 110, 116, 32, 102, 40, 41, 123, 114, 101, 116, 117, 114, 110, 32] ++ s) := if_pos (by simp; omega)
  have c2 (f : List UInt8 → Out) : catK ([105, 110, 116, 32, 102, 40, 41, 123, 114, 101, 116, 117, 114, 110, 32] ++ s) [10, 59, 125] f = f (textA s) := by rw [← hA]; exact if_pos (by simp; omega)
  have c3 (f : List UInt8 → Out) : catK [105, 110, 116, 32, 102, 40, 41, 123, 114, 101, 116, 117, 114, 110, 32, 40] s f = f ([105, 110, 116, 32, 102, 40, 41, 123, 114, 101, 116, 117, 114, 110, 32, 40] ++ s) := if_pos (by simp; omega)
  have c4 (f : List UInt8 → Out) : catK ([105, 110, 116, 32, 102, 40, 41, 123, 114, 101, 116, 117, 114, 110, 32, 40] ++ s) [10, 41, 59, 125] f = f (textB s) := by rw [← hB]; exact if_pos (by simp; omega)
  simp only [c1, c2]
  have hk2 := hk.up (hu1.trans hu2)
  refine Wp.call (parse_fn hk2 (n := 20000) (by decide) (by unfold parseO; rw [if_neg (by omega)]; exact hoA)) (fun v σ3 hv => ?_) fun v σ' hv => ?_
  rotate_left
  · obtain ⟨_, hv⟩ := hv
    split at hv
    · obtain ⟨_, hv, _⟩ := hv; cases hv
    · cases hv
  have hvA := hv
  have hu3 := hv.1
  obtain ⟨adA, nA, cA, zA, eA, eA2, rfl, hA2⟩ := shape hcA hvA
  simp only [xTup_t, unC_c, xSl_s, xInt_i, nlC_n, c3, c4]
  refine Wp.call (parse_fn (hk2.up hu3) (n := 20002) (by decide) (by unfold parseO; rw [if_neg (by omega)]; exact hoB)) (fun v σ4 hv => ?_) fun v σ' hv => ?_
  rotate_left
  · obtain ⟨_, hv⟩ := hv
    split at hv
    · obtain ⟨_, hv, _⟩ := hv; cases hv
    · cases hv
  have hvB := hv
  have hu4 := hv.1
  obtain ⟨adB, nB, cB, zB, eB, eB2, rfl, hB2⟩ := shape hcB hvB
  simp only [xTup_t, unC_c, xSl_s, xInt_i, nlC_n]
  rcases hA2 with ⟨ndA, tA, rfl, rfl, rfl, rfl, rfl, hsA⟩ | hne
  rotate_left
  · exact Wp.pos (by simpa using hne) (Wp.ret rfl)
  refine Wp.neg rfl ?_
  rcases hB2 with ⟨ndB, tB, rfl, rfl, rfl, rfl, rfl, hsB⟩ | hne
  rotate_left
  · exact Wp.pos (by simpa using hne) (Wp.ret rfl)
  refine Wp.neg rfl ?_
  have hab := brackets hoA hoB
  obtain ⟨lA, rfl, hgA, hlA⟩ := hcA
  have h0 := count_loop (ca := cA) (cb := cB) (hsA.up hu4) hsB hab (by omega) (kids_le hgA hlA) (allNodes lA).length 0 0 (by omega)
  rw [show ((0 : Nat) : Int) = 0 from rfl] at h0
  exact Wp.fresh1 (F := fun n m => f5_l1 (L5 n) m true (some (tA, 0)) (allNodes lA).length cA 6 (some (tB, 0)) ndB.length cB 6 0 0 σ4) h0
end Go.Front

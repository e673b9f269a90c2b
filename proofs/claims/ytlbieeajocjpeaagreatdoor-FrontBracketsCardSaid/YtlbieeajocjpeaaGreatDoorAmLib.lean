/- What is known of a function beforehand: from a contract to the machine's answer. -/
import Derived.Test.YtlbieeajocjpeaaGreatDoorAmLaw
import Derived.Test.YtlbieeajocjpeaaGreatDoorAmS
namespace Go.AM
open Go.RowKit
section
variable {P : Program} {μ : Emb} {σ : St} {w w' : World}
theorem Below.fr (hb : Below w.heap.size w w') : Fr μ w w' := ⟨hb.os, hb.tape, hb.output, hb.size, fun k hk _ => hb.block k hk⟩
theorem R.below (h : R μ σ w) (hb : Below w.heap.size w w') : R μ σ w' :=
  ⟨h.dom, fun b e hm => Nat.lt_of_lt_of_le (h.lt b e hm) hb.size, fun b o hs => let ⟨e, he, ho⟩ := h.obj b o hs; ⟨e, he, ho.carry (hb.block _ (h.lt b e he))⟩, h.inj⟩
theorem R.more (h : R μ σ w) (hb : Below w.heap.size w w') {o : AObj} {e : Ent} (h1 : w.heap.size ≤ e.blk) (h2 : e.blk < w'.heap.size) (ho : ORel (μ.push σ.length e) w' o e) :
    R (μ.push σ.length e) (σ ++ [o]) w' ∧ Ext μ (μ.push σ.length e) w := by
  have hf := h.fresh
  have hle := Emb.push_le (e := e) hf
  have old (b : Nat) (hb : b ≠ σ.length) : μ.push σ.length e b = μ b := by unfold Emb.push; rw [if_neg hb]
  have new : μ.push σ.length e σ.length = some e := by unfold Emb.push; rw [if_pos rfl]
  refine ⟨⟨fun b hb => ?_, fun b e' hb' => ?_, fun b o' hb' => ?_, fun b1 b2 o1 o2 e1 e2 h1' h2' he1 he2 hl1 hl2 hw1 hbk => ?_⟩, ⟨hle, fun b e' hb' hn => ?_⟩⟩
  · by_cases hbn : b = σ.length
    · subst hbn; simp
    · rw [old b hbn] at hb; have := h.dom b hb; simp; omega
  · by_cases hbn : b = σ.length
    · subst hbn; rw [new] at hb'; cases hb'; exact h2
    · rw [old b hbn] at hb'; have := h.lt b e' hb'; have := hb.size; omega
  · by_cases hbn : b = σ.length
    · subst hbn
      rw [List.getElem?_append_right (Nat.le_refl _)] at hb'
      simp at hb'
      subst hb'
      exact ⟨e, new, ho⟩
    · have hlt : b < σ.length := by
        rcases Nat.lt_or_ge b σ.length with h' | h'
        · exact h'
        · rw [List.getElem?_eq_none (by simp; omega)] at hb'; cases hb'
      rw [List.getElem?_append_left hlt] at hb'
      obtain ⟨e', he', ho'⟩ := h.obj b o' hb'
      exact ⟨e', hle _ _ he', (ho'.mono hle).carry (hb.block _ (h.lt b e' he'))⟩
  · have side (b : Nat) (o' : AObj) (e' : Ent) (hb' : (σ ++ [o])[b]? = some o') (he' : μ.push σ.length e b = some e') : (b = σ.length ∧ w.heap.size ≤ e'.blk) ∨ (b < σ.length ∧ σ[b]? = some o' ∧ μ b = some e' ∧ e'.blk < w.heap.size) := by
      by_cases hbn : b = σ.length
      · left; subst hbn; rw [new] at he'; cases he'; exact ⟨rfl, h1⟩
      · right
        have hlt : b < σ.length := by
          rcases Nat.lt_or_ge b σ.length with h' | h'
          · exact h'
          · rw [List.getElem?_eq_none (by simp; omega)] at hb'; cases hb'
        rw [List.getElem?_append_left hlt] at hb'
        rw [old b hbn] at he'
        exact ⟨hlt, hb', he', h.lt b e' he'⟩
    rcases side b1 o1 e1 h1' he1 with ⟨hb1, hk1⟩ | ⟨hb1, hs1, hm1, hk1⟩ <;> rcases side b2 o2 e2 h2' he2 with ⟨hb2, hk2⟩ | ⟨hb2, hs2, hm2, hk2⟩
    · omega
    · omega
    · omega
    · exact h.inj b1 b2 o1 o2 e1 e2 hs1 hs2 hm1 hm2 hl1 hl2 hw1 hbk
  · left
    by_cases hbn : b = σ.length
    · subst hbn; rw [new] at hb'; cases hb'; exact h1
    · rw [old b hbn, hn] at hb'; cases hb'
theorem end_pure (h : R μ σ w) (hb : Below w.heap.size w w') {x : AV} {v : Value} (hv : VRel μ x v) : EndR μ w (.ret x, σ) (.returned v) w' :=
  ⟨μ, h.below hb, Ext.refl _ _, Below.fr hb, v, rfl, hv⟩
theorem end_more (h : R μ σ w) (hb : Below w.heap.size w w') {o : AObj} {e : Ent} (h1 : w.heap.size ≤ e.blk) (h2 : e.blk < w'.heap.size) (ho : ORel (μ.push σ.length e) w' o e) {x : AV} {v : Value} (hv : VRel (μ.push σ.length e) x v) :
    EndR μ w (.ret x, σ ++ [o]) (.returned v) w' :=
  let ⟨hR, hE⟩ := h.more hb h1 h2 ho; ⟨_, hR, hE, Below.fr hb, v, rfl, hv⟩
theorem R.knows (h : R μ σ w) {b g : Nat} {p : Obj → Prop} (hs : σ[b]? = some (.know g p)) : ∃ ob, w.heap[g]? = some ob ∧ p ob := by
  obtain ⟨e, _, ob, h1, h2, h3⟩ := h.obj b _ hs
  subst h3; exact ⟨ob, h1, h2⟩
theorem R.know (h : R μ σ w) (hr : μ.ro) {g : Nat} {p : Obj → Prop} {ob : Obj} (hg : w.heap[g]? = some ob) (hp : p ob) :
    R (μ.push σ.length ⟨g, 0, 0, false⟩) (σ ++ [.know g p]) w ∧ (μ.push σ.length ⟨g, 0, 0, false⟩).ro := by
  have hf := h.fresh
  have hle := Emb.push_le (e := (⟨g, 0, 0, false⟩ : Ent)) hf
  have old (b : Nat) (hb : b ≠ σ.length) : μ.push σ.length ⟨g, 0, 0, false⟩ b = μ b := by unfold Emb.push; rw [if_neg hb]
  have new : μ.push σ.length ⟨g, 0, 0, false⟩ σ.length = some ⟨g, 0, 0, false⟩ := by unfold Emb.push; rw [if_pos rfl]
  have hblk : g < w.heap.size := (Array.getElem?_eq_some_iff.1 hg).1
  have hro : (μ.push σ.length ⟨g, 0, 0, false⟩).ro := by
    intro b e' hb
    by_cases hbn : b = σ.length
    · subst hbn; rw [new] at hb; cases hb; rfl
    · rw [old b hbn] at hb; exact hr b e' hb
  refine ⟨⟨fun b hb => ?_, fun b e' hb => ?_, fun b o' hb => ?_, fun b1 b2 o1 o2 e1 e2 h1 h2 he1 he2 hl1 hl2 hw1 hbk => ?_⟩, hro⟩
  · by_cases hbn : b = σ.length
    · subst hbn; simp
    · rw [old b hbn] at hb; have := h.dom b hb; simp; omega
  · by_cases hbn : b = σ.length
    · subst hbn; rw [new] at hb; cases hb; exact hblk
    · rw [old b hbn] at hb; exact h.lt b e' hb
  · by_cases hbn : b = σ.length
    · subst hbn
      rw [List.getElem?_append_right (Nat.le_refl _)] at hb
      simp at hb
      subst hb
      exact ⟨_, new, ob, hg, hp, rfl⟩
    · have hlt : b < σ.length := by
        rcases Nat.lt_or_ge b σ.length with h' | h'
        · exact h'
        · rw [List.getElem?_eq_none (by simp; omega)] at hb; cases hb
      rw [List.getElem?_append_left hlt] at hb
      obtain ⟨e', he', ho'⟩ := h.obj b o' hb
      exact ⟨e', hle _ _ he', ho'.mono hle⟩
  · have := hro b1 e1 he1
    rw [this] at hw1; cases hw1
end
end Go.AM

/- The words of a text, parted by commas, blanks and brackets: how many, how long, and which they are in a text of plain signs. -/
import Derived.Test.YtidammkjfdonaaaDoorTextRef
import Derived.Laws.RangeString
namespace Go.Proofs.Inst
open Go.AM Go.Proofs Go.Lib

theorem spans_len (p : Nat → Bool) (s : ByteArray) : ∀ (f pos : Nat) (st : Option Nat) (acc : List (Nat × Nat)), (spansFromP p s f pos st acc).1.length ≤ acc.length + f
  | 0, _, _, acc => by simp [spansFromP]
  | f + 1, pos, st, acc => by
    unfold spansFromP
    split
    · split
      · cases st with
        | none => have := spans_len p s f (pos + (Utf8.decode s pos).2) none acc; simp only; omega
        | some a => have := spans_len p s f (pos + (Utf8.decode s pos).2) none (acc ++ [(a, pos)]); simp at this ⊢; omega
      · cases st with
        | none => have := spans_len p s f (pos + (Utf8.decode s pos).2) (some pos) acc; simp only; omega
        | some a => have := spans_len p s f (pos + (Utf8.decode s pos).2) (some a) acc; simp only; omega
    · simp only; omega

theorem wordsOf_length (s : List UInt8) : (wordsOf s).length ≤ s.length + 1 := by
  unfold wordsOf goFieldsP spansOfP
  rw [List.length_map, List.length_map]
  have := spans_len sepP ⟨s.toArray⟩ s.length 0 none []
  have e : (⟨s.toArray⟩ : ByteArray).size = s.length := by simp [ByteArray.size]
  rw [e]
  unfold closeSpans
  split
  · simp at this ⊢; omega
  · simp at this ⊢; omega

theorem wordsOf_short {s w : List UInt8} (h : w ∈ wordsOf s) : w.length ≤ s.length := by
  unfold wordsOf goFieldsP at h
  simp only [List.mem_map] at h
  obtain ⟨a, ⟨x, _, rfl⟩, rfl⟩ := h
  rw [Array.length_toList, ByteArray.data_extract, Array.size_extract]
  simp
  omega

/-! ### plain signs -/

def sepB (b : UInt8) : Bool := sepP b.toNat

def splitGo (p : UInt8 → Bool) : List UInt8 → List UInt8 → List (List UInt8)
  | cur, [] => if cur = [] then [] else [cur]
  | cur, b :: l => if p b then (if cur = [] then splitGo p [] l else cur :: splitGo p [] l) else splitGo p (cur ++ [b]) l

theorem splitGo_word {p : UInt8 → Bool} : ∀ (w cur l : List UInt8), (∀ b ∈ w, p b = false) → splitGo p cur (w ++ l) = splitGo p (cur ++ w) l
  | [], cur, l, _ => by simp
  | b :: w, cur, l, h => by
    have hb := h b (by simp)
    rw [List.cons_append, show splitGo p cur (b :: (w ++ l)) = splitGo p (cur ++ [b]) (w ++ l) by simp [splitGo, hb]]
    rw [splitGo_word w _ _ fun x hx => h x (by simp [hx])]
    simp
theorem splitGo_end {p : UInt8 → Bool} {w : List UInt8} (hw : w ≠ []) : splitGo p w [] = [w] := by simp [splitGo, hw]
theorem splitGo_sep {p : UInt8 → Bool} {w l : List UInt8} {b : UInt8} (hw : w ≠ []) (hb : p b = true) : splitGo p w (b :: l) = w :: splitGo p [] l := by simp [splitGo, hw, hb]
theorem splitGo_skip {p : UInt8 → Bool} {l : List UInt8} {b : UInt8} (hb : p b = true) : splitGo p [] (b :: l) = splitGo p [] l := by simp [splitGo, hb]

def stOk (st : Option Nat) (pos : Nat) : Prop := ∀ a, st = some a → a < pos

theorem extract_piece (s : ByteArray) (a b : Nat) : (s.extract a b).data.toList = pieceU s.data.toList a b := by
  rw [ByteArray.data_extract, Array.toList_extract]; rfl

theorem spans_split (s : ByteArray) (hs : ∀ b ∈ s.data.toList, b.toNat < 128) : ∀ (f pos : Nat) (st : Option Nat) (acc : List (Nat × Nat)), s.size ≤ pos + f → pos ≤ s.size → stOk st pos →
    acc.map (fun p => pieceU s.data.toList p.1 p.2) ++ splitGo sepB (openPiece s.data.toList st pos) (s.data.toList.drop pos) = (closeSpans s (spansFromP sepP s f pos st acc)).map (fun p => pieceU s.data.toList p.1 p.2) := by
  have hsz : s.data.toList.length = s.size := (size_eq s).symm
  have fin : ∀ (f pos : Nat) (st : Option Nat) (acc : List (Nat × Nat)), ¬ pos < s.size → pos ≤ s.size → stOk st pos →
    acc.map (fun p => pieceU s.data.toList p.1 p.2) ++ splitGo sepB (openPiece s.data.toList st pos) (s.data.toList.drop pos) = (closeSpans s (spansFromP sepP s f pos st acc)).map (fun p => pieceU s.data.toList p.1 p.2) := by
    intro f pos st acc hlt hp hst
    obtain rfl : pos = s.size := by omega
    have hd : s.data.toList.drop s.size = [] := List.drop_eq_nil_of_le (by omega)
    rw [hd, spansFromP_end _ s _ _ _ _ hlt]
    cases st with
    | none => simp [closeSpans, openPiece, splitGo]
    | some a =>
      have := pieceU_ne s.data.toList a s.size (hst a rfl) (by omega)
      simp [closeSpans, openPiece, splitGo, this]
  intro f
  induction f with
  | zero => intro pos st acc h hp hst; exact fin 0 pos st acc (by omega) hp hst
  | succ f ih =>
    intro pos st acc h hp hst
    by_cases hlt : pos < s.size
    · have hget : s.data.toList.drop pos = s[pos] :: s.data.toList.drop (pos + 1) := by
        rw [List.drop_eq_getElem_cons (by omega)]; rfl
      have hmem : s[pos] ∈ s.data.toList := List.mem_of_mem_drop (i := pos) (by rw [hget]; simp)
      have hdec := Go.decode_ascii s pos hlt (hs _ hmem)
      unfold spansFromP
      rw [if_pos hlt, hdec]
      simp only
      rw [hget]
      by_cases hsp : sepP s[pos].toNat = true
      · rw [if_pos hsp]
        have hsb : sepB s[pos] = true := hsp
        cases st with
        | none =>
          have := ih (pos + 1) none acc (by omega) (by omega) (fun a h => by cases h)
          simp only [openPiece] at this ⊢
          rw [splitGo_skip hsb]; exact this
        | some a =>
          have hpn := pieceU_ne s.data.toList a pos (hst a rfl) (by omega)
          have := ih (pos + 1) none (acc ++ [(a, pos)]) (by omega) (by omega) (fun a h => by cases h)
          simp only [openPiece] at this ⊢
          rw [splitGo_sep hpn hsb]
          rw [← this]; simp
      · have hsp : sepP s[pos].toNat = false := by simpa using hsp
        rw [if_neg (by simp [hsp])]
        have hsb : sepB s[pos] = false := hsp
        have one : (s.data.toList.drop pos).take 1 = [s[pos]] := by rw [hget]; rfl
        cases st with
        | none =>
          have := ih (pos + 1) (some pos) acc (by omega) (by omega) (fun a h => by cases h; omega)
          simp only [openPiece] at this ⊢
          have e : pieceU s.data.toList pos (pos + 1) = [s[pos]] := by unfold pieceU; rw [Nat.add_sub_cancel_left]; exact one
          rw [e] at this
          rw [← this]
          simp [splitGo, hsb]
        | some a =>
          have ha := hst a rfl
          have := ih (pos + 1) (some a) acc (by omega) (by omega) (fun b h => by cases h; omega)
          simp only [openPiece] at this ⊢
          rw [← pieceU_grow _ _ _ 1 (Nat.le_of_lt ha), one] at this
          rw [← this]
          simp [splitGo, hsb]
    · exact fin (f + 1) pos st acc hlt hp hst

/-- The words of a text of plain signs. -/
theorem wordsOf_plain {s : List UInt8} (hs : ∀ b ∈ s, b.toNat < 128) : wordsOf s = splitGo sepB [] s := by
  have e : (⟨s.toArray⟩ : ByteArray).size = s.length := by simp [ByteArray.size]
  have := spans_split ⟨s.toArray⟩ (by simpa using hs) s.length 0 none [] (by omega) (by omega) (fun a h => by cases h)
  simp only [List.map_nil, List.nil_append, openPiece, List.drop_zero] at this
  rw [this]
  unfold wordsOf goFieldsP spansOfP
  rw [e, List.map_map]
  apply List.map_congr_left
  intro x _
  exact extract_piece _ _ _

end Go.Proofs.Inst

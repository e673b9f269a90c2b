/- A text is read as the instruction that was written: its name, its words, their numbers, and the place of each. -/
import Derived.Test.YtidammkjfdonaaaDoorNumRef
namespace Go.Proofs.Inst
open Go.AM Go.Proofs Go.Lib

/-! ### name and rest -/

def headS (op i : Int) : List UInt8 := if (rowAt op).form = 9 then nameAt op ++ suf i else nameAt op
def restS (x : Ins) : List UInt8 := if (rowAt x.op).form = 10 then [] else join (partsS (rowAt x.op).form x) [44, 32]

theorem textS_eq (x : Ins) : textS x = if (rowAt x.op).form = 10 then headS x.op x.imm else headS x.op x.imm ++ 32 :: restS x := by
  unfold textS headS restS
  by_cases h : (rowAt x.op).form = 10
  · rw [if_pos h, if_pos h, if_neg (by omega)]
  · rw [if_neg h, if_neg h, if_neg h, List.append_assoc]; rfl

theorem index32 : ∀ (h r : List UInt8), (∀ b ∈ h, b ≠ 32) → indexByte (h ++ 32 :: r) 32 = h.length
  | [], r, _ => by simp [indexByte]
  | b :: h, r, hh => by
    have := index32 h r fun x hx => hh x (by simp [hx])
    have hb : (b == 32) = false := by simpa using hh b (by simp)
    rw [List.cons_append, indexByte, hb, this, List.length_cons]
    have : (((h.length : Nat) : Int) == -1) = false := by simp
    rw [this]; simp
theorem index32_none : ∀ (h : List UInt8), (∀ b ∈ h, b ≠ 32) → indexByte h 32 = -1
  | [], _ => rfl
  | b :: h, hh => by
    have := index32_none h fun x hx => hh x (by simp [hx])
    have hb : (b == 32) = false := by simpa using hh b (by simp)
    rw [indexByte, hb, this]; rfl
theorem cut_at {h r : List UInt8} (hh : ∀ b ∈ h, b ≠ 32) : cut (h ++ 32 :: r) [32] = (h, r, true) := by
  unfold cut
  rw [index_one, index32 h r hh, if_pos (by omega)]
  simp
theorem cut_none {h : List UInt8} (hh : ∀ b ∈ h, b ≠ 32) : cut h [32] = (h, [], false) := by
  unfold cut
  rw [index_one, index32_none h hh, if_neg (by decide)]

theorem head_in {op i : Int} (h1 : 1 ≤ op) (h2 : op ≤ 87) : (∀ b ∈ headS op i, inB b = true) ∧ headS op i ≠ [] := by
  have hn := all_ops (p := fun op => (nameAt op).all inB && !(nameAt op).isEmpty) (by kernel_rfl) h1 h2
  simp only [Bool.and_eq_true, List.all_eq_true] at hn
  have hs : ∀ b ∈ suf i, inB b = true := by
    unfold suf
    rcases Nat.lt_or_ge i.toNat 4 with h | h
    · have : i.toNat = 0 ∨ i.toNat = 1 ∨ i.toNat = 2 ∨ i.toNat = 3 := by omega
      rcases this with h | h | h | h <;> rw [h] <;> decide
    · rw [List.getD_eq_getElem?_getD, List.getElem?_eq_none (by exact h)]; simp
  have hne : nameAt op ≠ [] := by intro h; rw [h] at hn; simp at hn
  unfold headS
  split
  · refine ⟨fun b hb => ?_, by simp [hne]⟩
    rcases List.mem_append.1 hb with hb | hb
    · exact hn.1 b hb
    · exact hs b hb
  · exact ⟨hn.1, hne⟩

theorem head_32 {op i : Int} (h1 : 1 ≤ op) (h2 : op ≤ 87) : ∀ b ∈ headS op i, b ≠ 32 := by
  intro b hb h
  subst h
  have := (head_in (i := i) h1 h2).1 32 hb
  exact absurd this (by decide)

theorem cut_text {x : Ins} (h : May x) : (cut (textS x) [32]).1 = headS x.op x.imm ∧ (cut (textS x) [32]).2.1 = restS x := by
  rw [textS_eq]
  split
  · rename_i h10
    rw [cut_none (head_32 h.1 h.2.1)]
    exact ⟨rfl, by unfold restS; rw [if_pos h10]⟩
  · rw [cut_at (head_32 h.1 h.2.1)]
    exact ⟨rfl, rfl⟩

/-! ### names are told apart -/

def heads : List (List UInt8 × Int × Int) := (List.range 87).flatMap fun (k : Nat) => if (rowAt ((k : Int) + 1)).form = 9 then (List.range 4).map (fun (i : Nat) => (headS ((k : Int) + 1) (i : Int), (k : Int) + 1, (i : Int))) else [(headS ((k : Int) + 1) 0, (k : Int) + 1, 0)]
def findH (s : List UInt8) : Option (Int × Int) := (heads.find? fun e => e.1 == s).map (·.2)
def sufOf (op i : Int) : Int := if (rowAt op).form = 9 then i else 0

theorem find_heads : heads.all (fun e => decide (findH e.1 = some e.2)) = true := by kernel_rfl

theorem mem_heads {op i : Int} (h1 : 1 ≤ op) (h2 : op ≤ 87) (hi : 0 ≤ i ∧ i < 4) : (headS op i, op, sufOf op i) ∈ heads := by
  unfold heads sufOf
  refine List.mem_flatMap.2 ⟨(op - 1).toNat, List.mem_range.2 (by omega), ?_⟩
  have e : (((op - 1).toNat : Int) + 1) = op := by omega
  rw [e]
  split
  · refine List.mem_map.2 ⟨i.toNat, List.mem_range.2 (by omega), ?_⟩
    rw [Int.toNat_of_nonneg hi.1]
  · rename_i h
    refine List.mem_singleton.2 ?_
    unfold headS
    rw [if_neg h, if_neg h]

theorem heads_apart {a b i j : Int} (ha : 1 ≤ a ∧ a ≤ 87) (hb : 1 ≤ b ∧ b ≤ 87) (hi : 0 ≤ i ∧ i < 4) (hj : 0 ≤ j ∧ j < 4) (h : headS a i = headS b j) : a = b ∧ sufOf a i = sufOf b j := by
  have h1 := of_decide_eq_true (List.all_eq_true.1 find_heads _ (mem_heads ha.1 ha.2 hi))
  have h2 := of_decide_eq_true (List.all_eq_true.1 find_heads _ (mem_heads hb.1 hb.2 hj))
  simp only at h1 h2
  rw [h] at h1
  have := Option.some.inj (h1.symm.trans h2)
  exact ⟨congrArg (·.1) this, congrArg (·.2) this⟩

/-! ### words -/

def wordsX (f : Int) (x : Ins) : List (List UInt8) :=
  if f = 1 ∨ f = 2 then [reg x.rd, itoa x.imm]
  else if f = 4 then [reg x.rs1, reg x.rs2, itoa x.imm]
  else if f = 5 then [reg x.rs2, itoa x.imm, reg x.rs1]
  else if f = 8 then [reg x.rd, reg x.rs1, reg x.rs2]
  else if f = 9 then (if x.op = 66 ∨ x.op = 77 then [reg x.rd, reg x.rs1] else [reg x.rd, reg x.rs2, reg x.rs1])
  else if f = 3 ∧ (x.op = 4 ∨ (11 ≤ x.op ∧ x.op ≤ 17)) then [reg x.rd, itoa x.imm, reg x.rs1]
  else [reg x.rd, reg x.rs1, itoa x.imm]
def numsX (f : Int) (x : Ins) : List Int :=
  if f = 1 ∨ f = 2 then [x.rd, x.imm]
  else if f = 4 then [x.rs1, x.rs2, x.imm]
  else if f = 5 then [x.rs2, x.imm, x.rs1]
  else if f = 8 then [x.rd, x.rs1, x.rs2]
  else if f = 9 then (if x.op = 66 ∨ x.op = 77 then [x.rd, x.rs1] else [x.rd, x.rs2, x.rs1])
  else if f = 3 ∧ (x.op = 4 ∨ (11 ≤ x.op ∧ x.op ≤ 17)) then [x.rd, x.imm, x.rs1]
  else [x.rd, x.rs1, x.imm]

theorem reg_ne (n : Int) : reg n ≠ [] := by simp [reg]

section
variable {p : UInt8 → Bool}

theorem sw_end {w : List UInt8} (hw : w ≠ []) (h : ∀ b ∈ w, p b = false) : splitGo p [] w = [w] := by
  have := splitGo_word w [] [] h
  rw [List.append_nil, List.nil_append] at this
  rw [this, splitGo_end hw]
theorem sw_sep {w l : List UInt8} {b : UInt8} (hw : w ≠ []) (h : ∀ b ∈ w, p b = false) (hb : p b = true) : splitGo p [] (w ++ b :: l) = w :: splitGo p [] l := by
  rw [splitGo_word w [] _ h, List.nil_append, splitGo_sep hw hb]

theorem split_parts (hr : ∀ n b, b ∈ reg n → p b = false) (hi : ∀ n b, b ∈ itoa n → p b = false) (h44 : p 44 = true) (h32 : p 32 = true) (h40 : p 40 = true) (h41 : p 41 = true) (f : Int) (x : Ins) :
    splitGo p [] (join (partsS f x) [44, 32]) = wordsX f x := by
  have e2 (a b : List UInt8) : join [a, b] [44, 32] = a ++ 44 :: 32 :: b := by simp [join_cons, joinTail]
  have e3 (a b c : List UInt8) : join [a, b, c] [44, 32] = a ++ 44 :: 32 :: (b ++ 44 :: 32 :: c) := by simp [join_cons, joinTail]
  have p2 (a b : List UInt8) : a ++ [40] ++ b ++ [41] = a ++ 40 :: (b ++ 41 :: []) := by simp
  have p3 (b : List UInt8) : ([40] ++ b ++ [41] : List UInt8) = 40 :: (b ++ 41 :: []) := by simp
  have nil : splitGo p [] [] = [] := by simp [splitGo]
  have r1 (n : Int) (l : List UInt8) (b : UInt8) (hb : p b = true) : splitGo p [] (reg n ++ b :: l) = reg n :: splitGo p [] l := sw_sep (reg_ne n) (hr n) hb
  have r2 (n : Int) (l : List UInt8) (b : UInt8) (hb : p b = true) : splitGo p [] (itoa n ++ b :: l) = itoa n :: splitGo p [] l := sw_sep (itoa_ne n) (hi n) hb
  have r3 (n : Int) : splitGo p [] (reg n) = [reg n] := sw_end (reg_ne n) (hr n)
  have r4 (n : Int) : splitGo p [] (itoa n) = [itoa n] := sw_end (itoa_ne n) (hi n)
  unfold partsS wordsX
  repeat' split
  all_goals simp only [e2, e3, p2, p3, r1 _ _ 44 h44, r1 _ _ 41 h41, r2 _ _ 40 h40, splitGo_skip h32, splitGo_skip h40, r3, r4, nil]

end

theorem words_rest {x : Ins} : wordsOf (restS x) = if (rowAt x.op).form = 10 then [] else wordsX (rowAt x.op).form x := by
  unfold restS
  split
  · rw [wordsOf_plain (by simp)]; rfl
  · rw [wordsOf_plain, split_parts (fun n b => reg_sep b) (fun n b => itoa_sep b) rfl rfl rfl rfl]
    have hi (n : Int) : (itoa n).all (fun b => decide (b.toNat < 128)) = true := by
      refine List.all_eq_true.2 fun b hb => ?_
      have := itoa_sign b hb
      simp; omega
    have hr (n : Int) : (reg n).all (fun b => decide (b.toNat < 128)) = true := by
      unfold reg
      rw [List.all_append, hi]; rfl
    have : (join (partsS (rowAt x.op).form x) [44, 32]).all (fun b => decide (b.toNat < 128)) = true := by
      unfold partsS
      repeat' split
      all_goals (simp only [join_cons, joinTail, List.map_cons, List.map_nil, List.flatten_cons, List.flatten_nil, List.all_append, hi, hr]; rfl)
    intro b hb
    exact of_decide_eq_true (List.all_eq_true.1 this b hb)

theorem words_text {x : Ins} (h : May x) : splitGo outB [] (textS x) = headS x.op x.imm :: (if (rowAt x.op).form = 10 then [] else wordsX (rowAt x.op).form x) := by
  have hh := head_in (i := x.imm) h.1 h.2.1
  have ho : ∀ b ∈ headS x.op x.imm, outB b = false := by
    intro b hb; unfold outB; rw [hh.1 b hb]; rfl
  have hi (n : Int) : ∀ b ∈ itoa n, outB b = false := by
    intro b hb
    have := itoa_sign b hb
    simp [outB, inB]; omega
  have hr (n : Int) : ∀ b ∈ reg n, outB b = false := by
    intro b hb
    unfold reg at hb
    rcases List.mem_append.1 hb with hb | hb
    · obtain rfl := List.mem_singleton.1 hb; rfl
    · exact hi n b hb
  rw [textS_eq]
  split
  · rw [sw_end hh.2 ho]
  · rename_i h10
    rw [sw_sep hh.2 ho rfl]
    unfold restS
    rw [if_neg h10, split_parts (fun n b => hr n b) (fun n b => hi n b) rfl rfl rfl rfl]

/-! ### numbers -/

theorem vals_words {x : Ins} (h : May x) : (wordsX (rowAt x.op).form x).filterMap valS = numsX (rowAt x.op).form x := by
  obtain ⟨h1, h2, h3, h4, h5, h⟩ := h
  have e1 := valS_reg (n := x.rd) (by omega) (by omega)
  have e2 := valS_reg (n := x.rs1) (by omega) (by omega)
  have e3 := valS_reg (n := x.rs2) (by omega) (by omega)
  have e4 := valS_itoa (n := x.imm) (by unfold FormOk at h; omega) (by unfold FormOk at h; omega)
  unfold wordsX numsX
  repeat' split
  all_goals simp only [List.filterMap_cons, List.filterMap_nil, e1, e2, e3, e4]
theorem nums_words {x : Ins} (h : May x) : (wordsX (rowAt x.op).form x).map numS = numsX (rowAt x.op).form x := by
  obtain ⟨h1, h2, h3, h4, h5, h⟩ := h
  have e1 := numS_reg (n := x.rd) (by omega) (by omega)
  have e2 := numS_reg (n := x.rs1) (by omega) (by omega)
  have e3 := numS_reg (n := x.rs2) (by omega) (by omega)
  have e4 := numS_itoa (n := x.imm) (by unfold FormOk at h; omega) (by unfold FormOk at h; omega)
  unfold wordsX numsX
  repeat' split
  all_goals simp only [List.map_cons, List.map_nil, e1, e2, e3, e4]

/-! ### the program's guess -/

def cl (v : Int) : Int := if (99 : Int) < (if (-1 : Int) > v then (-1 : Int) else v) then (99 : Int) else (if (-1 : Int) > v then (-1 : Int) else v)
def gi (l : List Int) (i : Nat) : Int := match l[i]? with | some v => cl v | none => 0
def lastI (l : List Int) : Int := l.getLast?.getD 0

def guessS (f op : Int) (l : List Int) : Ins :=
  if f = 1 ∨ f = 2 then ⟨op, gi l 0, 0, 0, lastI l⟩
  else if f = 4 then ⟨op, 0, gi l 0, gi l 1, lastI l⟩
  else if f = 5 then ⟨op, 0, gi l 2, gi l 0, l.getD 1 0⟩
  else if op = 4 ∨ (11 ≤ op ∧ op ≤ 17) then ⟨op, gi l 0, gi l 2, 0, l.getD 1 0⟩
  else if f = 8 then ⟨op, gi l 0, gi l 1, gi l 2, 0⟩
  else if f = 9 then (if op = 66 ∨ op = 77 then ⟨op, gi l 0, gi l 1, 0, 0⟩ else ⟨op, gi l 0, gi l 2, gi l 1, 0⟩)
  else if f = 10 then ⟨op, 0, 0, 0, 0⟩
  else ⟨op, gi l 0, gi l 1, 0, lastI l⟩
def candS (f op i : Int) (l : List Int) : Ins := if f = 9 then { guessS f op l with imm := i } else guessS f op l

/-- The numbers that the program finds behind the name. -/
noncomputable def numsOf (s : List UInt8) : List Int := (wordsOf (cut s [32]).2.1).filterMap valS

theorem numsOf_text {x : Ins} (h : May x) : numsOf (textS x) = if (rowAt x.op).form = 10 then [] else numsX (rowAt x.op).form x := by
  unfold numsOf
  rw [(cut_text h).2, words_rest]
  split
  · rfl
  · exact vals_words h

theorem cand_text {x : Ins} (h : May x) : candS (rowAt x.op).form x.op (sufOf x.op x.imm) (numsOf (textS x)) = x := by
  rw [numsOf_text h]
  obtain ⟨h1, h2, h3, h4, h5, h⟩ := h
  have hf := (rowOk h1 h2).form
  have hc := code3 h1 h2
  unfold sufOf
  have clr (v : Int) (hv : 0 ≤ v ∧ v ≤ 31) : cl v = v := by unfold cl; rw [if_neg (show ¬ (-1 : Int) > v by omega), if_neg (by omega)]
  have c1 := clr x.rd h3; have c2 := clr x.rs1 h4; have c3 := clr x.rs2 h5
  have hmem : x.op = 4 ∨ (11 ≤ x.op ∧ x.op ≤ 17) → (rowAt x.op).form = 3 := fun hm => hc.2 (hm.elim .inr fun hm => .inl (hc.1.2 hm))
  generalize (rowAt x.op).form = f at *
  rcases h with h | h | h | h | h | h | h | h | h | h <;> obtain ⟨rfl, h⟩ := h <;> simp only [Int.reduceEq, imp_false, not_or, not_and] at hmem
  · refine Ins.ext' rfl ?_ ?_ ?_ ?_ <;> simp [candS, guessS, numsX, gi, lastI, c1, h]
  · refine Ins.ext' rfl ?_ ?_ ?_ ?_ <;> simp [candS, guessS, numsX, gi, lastI, c1, h]
  · by_cases hm : x.op = 4 ∨ (11 ≤ x.op ∧ x.op ≤ 17)
    · refine Ins.ext' ?_ ?_ ?_ ?_ ?_ <;> simp [candS, guessS, numsX, gi, c1, c2, h, hm]
    · refine Ins.ext' ?_ ?_ ?_ ?_ ?_ <;> simp only [candS, guessS, numsX, Int.reduceEq, or_self, if_false, hm, and_false] <;> simp [gi, lastI, c1, c2, h]
  · refine Ins.ext' rfl ?_ ?_ ?_ ?_ <;> simp [candS, guessS, numsX, gi, lastI, c2, c3, h]
  · refine Ins.ext' rfl ?_ ?_ ?_ ?_ <;> simp [candS, guessS, numsX, gi, c2, c3, h]
  · have hm : ¬ (x.op = 4 ∨ (11 ≤ x.op ∧ x.op ≤ 17)) := by omega
    refine Ins.ext' ?_ ?_ ?_ ?_ ?_ <;> simp only [candS, guessS, numsX, Int.reduceEq, or_self, if_false, hm, and_false] <;> simp [gi, lastI, c1, c2, h]
  · have hm : ¬ (x.op = 4 ∨ (11 ≤ x.op ∧ x.op ≤ 17)) := by omega
    refine Ins.ext' ?_ ?_ ?_ ?_ ?_ <;> simp only [candS, guessS, numsX, Int.reduceEq, or_self, if_false, hm, and_false] <;> simp [gi, lastI, c1, c2, h]
  · have hm : ¬ (x.op = 4 ∨ (11 ≤ x.op ∧ x.op ≤ 17)) := by omega
    refine Ins.ext' ?_ ?_ ?_ ?_ ?_ <;> simp only [candS, guessS, numsX, Int.reduceEq, or_self, if_false, if_true, hm, and_false] <;> simp [gi, c1, c2, c3, h]
  · have hm : ¬ (x.op = 4 ∨ (11 ≤ x.op ∧ x.op ≤ 17)) := by omega
    by_cases hl : x.op = 66 ∨ x.op = 77
    · have h0 : x.rs2 = 0 := by omega
      refine Ins.ext' ?_ ?_ ?_ ?_ ?_ <;> simp only [candS, guessS, numsX, Int.reduceEq, or_self, if_false, if_true, hm, hl, and_false] <;> simp [gi, c1, c2, h0]
    · refine Ins.ext' ?_ ?_ ?_ ?_ ?_ <;> simp only [candS, guessS, numsX, Int.reduceEq, or_self, if_false, if_true, hm, hl, and_false] <;> simp [gi, c1, c2, c3]
  · have hm : ¬ (x.op = 4 ∨ (11 ≤ x.op ∧ x.op ≤ 17)) := by omega
    refine Ins.ext' ?_ ?_ ?_ ?_ ?_ <;> simp only [candS, guessS, Int.reduceEq, or_self, if_false, if_true, hm, h]

theorem imm_suf {x : Ins} (h : May x) (h9 : (rowAt x.op).form = 9) : 0 ≤ x.imm ∧ x.imm < 4 := by
  have := h.2.2.2.2.2
  rw [h9] at this
  unfold FormOk at this; omega

theorem headS_suf {op i : Int} : headS op i = headS op (sufOf op i) := by
  unfold headS sufOf; split <;> rfl

/-- Two instructions have other texts. -/
theorem text_inj {x y : Ins} (hx : May x) (hy : May y) (h : textS x = textS y) : x = y := by
  have cx := cand_text hx; have cy := cand_text hy
  have hh : headS x.op x.imm = headS y.op y.imm := by rw [← (cut_text hx).1, h, (cut_text hy).1]
  rw [headS_suf (op := x.op), headS_suf (op := y.op)] at hh
  have r1 : 0 ≤ sufOf x.op x.imm ∧ sufOf x.op x.imm < 4 := by unfold sufOf; split; exact imm_suf hx (by assumption); omega
  have r2 : 0 ≤ sufOf y.op y.imm ∧ sufOf y.op y.imm < 4 := by unfold sufOf; split; exact imm_suf hy (by assumption); omega
  obtain ⟨e1, e2⟩ := heads_apart ⟨hx.1, hx.2.1⟩ ⟨hy.1, hy.2.1⟩ r1 r2 hh
  have e3 : sufOf x.op (sufOf x.op x.imm) = sufOf x.op x.imm := by unfold sufOf; split <;> rfl
  have e4 : sufOf y.op (sufOf y.op y.imm) = sufOf y.op y.imm := by unfold sufOf; split <;> rfl
  rw [e3, e4] at e2
  rw [← cx, ← cy, h, e2, e1]

/-- The instruction whose text it is. -/
noncomputable def parseV (s : List UInt8) : AV :=
  open Classical in if h : ∃ x, May x ∧ textS x = s then .tuple [insV (Classical.choose h), .int .i64 0] else .tuple [insV noIns, .int .i64 2]

theorem parseV_some {x : Ins} {s : List UInt8} (h : May x) (e : textS x = s) : parseV s = .tuple [insV x, .int .i64 0] := by
  have hex : ∃ x, May x ∧ textS x = s := ⟨x, h, e⟩
  unfold parseV
  rw [dif_pos hex]
  have hc := Classical.choose_spec hex
  rw [text_inj hc.1 h (hc.2.trans e.symm)]
theorem parseV_none {s : List UInt8} (h : ∀ x, May x → textS x ≠ s) : parseV s = .tuple [insV noIns, .int .i64 2] := by
  unfold parseV
  rw [dif_neg]
  rintro ⟨x, h1, h2⟩
  exact h x h1 h2

end Go.Proofs.Inst

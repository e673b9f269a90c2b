/- The reference's numbers and parts of a text. -/
import Derived.Test.YtidammkjfdonaaaDoorNums
namespace Go.Proofs.Inst
open Go.AM Go.Proofs Go.Lib

theorem num_bound {v c : Int} {i : Nat} (h0 : 0 ≤ v) (h : v < 10 ^ i) (hc : 0 ≤ c ∧ c ≤ 9) : 0 ≤ v * 10 + c ∧ v * 10 + c < 10 ^ (i + 1) := by
  rw [Int.pow_succ]
  generalize (10 : Int) ^ i = P at *
  omega

theorem ten12 {i : Nat} (h : i ≤ 12) : (10 : Int) ^ i ≤ 1000000000000 := by
  have e : ((10 ^ i : Nat) : Int) = (10 : Int) ^ i := by rw [Int.natCast_pow]; rfl
  have := Nat.pow_le_pow_right (n := 10) (by omega) h
  have e2 : (10 : Nat) ^ 12 = 1000000000000 := rfl
  rw [← e]; omega

theorem num_l4 {n : Nat} {t : List UInt8} {i2 : Int} {b : Bool} {σ : St} (ht : t.length ≤ 12) : ∀ (d m i : Nat) (v : Int), i + d = t.length → d < m → 0 ≤ v → v < 10 ^ i →
    Gives σ (.int .i64 (match numGo v (t.drop i) with | some w => if b = true then -w else w | none => -99)) (f43_l4 (pt Tryd.prog Lb 43 n) m t i2 b v (i : Int) σ) := by
  intro d
  induction d with
  | zero =>
    intro m i v hi hm h0 hv
    obtain ⟨m, rfl⟩ : ∃ m', m = m' + 1 := ⟨m - 1, by omega⟩
    have h12 := ten12 (show i ≤ 12 by omega)
    refine .le f43_l4_e ?_
    unfold f43_l4_t
    rw [decide_eq_false (by omega), cF]
    refine .le f43_j6_e ?_
    unfold f43_j6_t
    rw [List.drop_eq_nil_of_le (by omega)]
    refine .ite (fun h => ?_) fun h => ?_
    · rw [wrap64 (by omega) (by omega)]
      refine .ret (.refl _) ?_
      simp [numGo, h]
    · exact .ret (.refl _) (by simp [numGo, h])
  | succ d ih =>
    intro m i v hi hm h0 hv
    obtain ⟨m, rfl⟩ : ∃ m', m = m' + 1 := ⟨m - 1, by omega⟩
    refine .le f43_l4_e ?_
    unfold f43_l4_t
    have hlt : i < t.length := by omega
    have hget : t[(i : Int).toNat]? = some t[i] := by rw [Int.toNat_natCast]; exact List.getElem?_eq_getElem hlt
    rw [decide_eq_true (by omega), cT, byteK_ok (by omega) hget, List.drop_eq_getElem_cons hlt]
    generalize t[i] = c at *
    rw [numGo]
    refine .ite (fun h => ?_) fun h => ?_
    · have h : (c.toNat : Int) < 48 := by simpa using h
      rw [if_pos (by omega)]
      exact .ret (.refl _)
    rw [byteK_ok (by omega) hget]
    refine .ite (fun h' => ?_) fun h' => ?_
    · have h' : (c.toNat : Int) > 57 := by simpa using h'
      rw [if_pos (by omega)]
      exact .ret (.refl _)
    have h : ¬ (c.toNat : Int) < 48 := by simpa using h
    have h' : ¬ (c.toNat : Int) > 57 := by simpa using h'
    have h12 := ten12 (show i + 1 ≤ 12 by omega)
    have hb := num_bound (c := (c.toNat : Int) - 48) h0 hv (by omega)
    have h12' := ten12 (show i ≤ 12 by omega)
    rw [byteK_ok (by omega) hget, if_neg (by omega), wrapu8 (by omega) (by omega), wrap64 (x := v * 10) (by omega) (by omega), wrap64 (x := (c.toNat : Int) - 48) (by omega) (by omega), wrap64 (x := v * 10 + ((c.toNat : Int) - 48)) (by omega) (by omega), wrap64 (x := (i : Int) + 1) (by omega) (by omega)]
    exact ih m (i + 1) _ (by omega) (by omega) hb.1 hb.2

theorem num_l5 {n : Nat} {t : List UInt8} {i2 : Int} {σ : St} (ht : t.length ≤ 12) : ∀ (d m i : Nat) (v : Int), i + d = t.length → d < m → 0 ≤ v → v < 10 ^ i →
    Gives σ (.int .i64 (match numGo v (t.drop i) with | some w => w | none => -99)) (f43_l5 (pt Tryd.prog Lb 43 n) m t i2 v (i : Int) σ) := by
  intro d
  induction d with
  | zero =>
    intro m i v hi hm h0 hv
    obtain ⟨m, rfl⟩ : ∃ m', m = m' + 1 := ⟨m - 1, by omega⟩
    refine .le f43_l5_e ?_
    unfold f43_l5_t
    rw [decide_eq_false (by omega), cF]
    refine .le f43_j7_e ?_
    unfold f43_j7_t
    rw [List.drop_eq_nil_of_le (by omega)]
    exact .ret (.refl _) (by simp [numGo])
  | succ d ih =>
    intro m i v hi hm h0 hv
    obtain ⟨m, rfl⟩ : ∃ m', m = m' + 1 := ⟨m - 1, by omega⟩
    refine .le f43_l5_e ?_
    unfold f43_l5_t
    have hlt : i < t.length := by omega
    have hget : t[(i : Int).toNat]? = some t[i] := by rw [Int.toNat_natCast]; exact List.getElem?_eq_getElem hlt
    rw [decide_eq_true (by omega), cT, byteK_ok (by omega) hget, List.drop_eq_getElem_cons hlt]
    generalize t[i] = c at *
    rw [numGo]
    refine .ite (fun h => ?_) fun h => ?_
    · have h : (c.toNat : Int) < 48 := by simpa using h
      rw [if_pos (by omega)]
      exact .ret (.refl _)
    rw [byteK_ok (by omega) hget]
    refine .ite (fun h' => ?_) fun h' => ?_
    · have h' : (c.toNat : Int) > 57 := by simpa using h'
      rw [if_pos (by omega)]
      exact .ret (.refl _)
    have h : ¬ (c.toNat : Int) < 48 := by simpa using h
    have h' : ¬ (c.toNat : Int) > 57 := by simpa using h'
    have h12 := ten12 (show i + 1 ≤ 12 by omega)
    have hb := num_bound (c := (c.toNat : Int) - 48) h0 hv (by omega)
    have h12' := ten12 (show i ≤ 12 by omega)
    rw [byteK_ok (by omega) hget, if_neg (by omega), wrapu8 (by omega) (by omega), wrap64 (x := v * 10) (by omega) (by omega), wrap64 (x := (c.toNat : Int) - 48) (by omega) (by omega), wrap64 (x := v * 10 + ((c.toNat : Int) - 48)) (by omega) (by omega), wrap64 (x := (i : Int) + 1) (by omega) (by omega)]
    exact ih m (i + 1) _ (by omega) (by omega) hb.1 hb.2

theorem num_j2 {n : Nat} {t : List UInt8} {i2 : Int} {b : Bool} {σ : St} (hn : 14 ≤ n) :
    Gives σ (.int .i64 (match numU t with | some w => if b = true then -w else w | none => -99)) (f43_j2 (pt Tryd.prog Lb 43 n) t i2 b σ) := by
  refine .le f43_j2_e ?_
  unfold f43_j2_t
  unfold numU
  refine .ite (fun h => ?_) fun h => .ite (fun h' => ?_) fun h' => ?_
  · have h : t = [] := by simpa using h
    rw [if_pos (.inl h)]; exact .ret (.refl _)
  · have h' : (t.length : Int) > 12 := by simpa using h'
    rw [if_pos (.inr (by omega))]; exact .ret (.refl _)
  · have h : t ≠ [] := by simpa using h
    have h' : ¬ (t.length : Int) > 12 := by simpa using h'
    rw [if_neg fun h1 => h1.elim h fun h2 => h' (by omega)]
    exact num_l4 (by omega) t.length n 0 0 (by omega) (by omega) (by decide) (by decide)

theorem num_j3 {n : Nat} {t : List UInt8} {i2 : Int} {σ : St} (hn : 14 ≤ n) :
    Gives σ (.int .i64 ((numU t).getD (-99))) (f43_j3 (pt Tryd.prog Lb 43 n) t i2 σ) := by
  refine .le f43_j3_e ?_
  unfold f43_j3_t
  unfold numU
  refine .ite (fun h => ?_) fun h => .ite (fun h' => ?_) fun h' => ?_
  · have h : t = [] := by simpa using h
    rw [if_pos (.inl h)]; exact .ret (.refl _)
  · have h' : (t.length : Int) > 12 := by simpa using h'
    rw [if_pos (.inr (by omega))]; exact .ret (.refl _)
  · have h : t ≠ [] := by simpa using h
    have h' : ¬ (t.length : Int) > 12 := by simpa using h'
    rw [if_neg fun h1 => h1.elim h fun h2 => h' (by omega)]
    have := num_l5 (n := n) (i2 := i2) (σ := σ) (t := t) (by omega) t.length n 0 0 (by omega) (by omega) (by decide) (by decide)
    have e : ((numGo 0 t).getD (-99)) = (match numGo 0 (t.drop 0) with | some w => w | none => -99) := by
      rw [List.drop_zero]; cases numGo 0 t <;> rfl
    rw [e]; exact this

theorem byte_eq {c : UInt8} {k : Nat} (h : ((c.toNat : Int) == (k : Int)) = true) (hk : k < 256) : c = UInt8.ofNat k := by
  have h : (c.toNat : Int) = k := by simpa using h
  refine UInt8.toNat_inj.1 ?_
  rw [UInt8.toNat_ofNat']; omega

theorem num_j1 {n : Nat} {t : List UInt8} {i2 : Int} {σ : St} (hn : 14 ≤ n) :
    Gives σ (.int .i64 (if t.head? = some 45 then (match numU t.tail with | some v => -v | none => -99) else (numU t).getD (-99))) (f43_j1 (pt Tryd.prog Lb 43 n) t i2 σ) := by
  refine .le f43_j1_e ?_
  unfold f43_j1_t
  refine .ite (fun h => ?_) fun h => ?_
  · have h : t ≠ [] := by rintro rfl; simp at h
    obtain ⟨c, r, rfl⟩ := List.exists_cons_of_ne_nil h
    rw [byteK_ok (b := c) (by decide) rfl]
    refine .ite (fun hc => ?_) fun hc => ?_
    · rw [hc]
      obtain rfl : c = 45 := byte_eq (k := 45) hc (by decide)
      rw [cutK_ok (by simp; omega)]
      have e : (((45 :: r).take (((45 :: r).length : Nat) : Int).toNat).drop (1 : Int).toNat) = r := by simp
      rw [e]
      have := num_j2 (t := r) (i2 := i2) (b := true) (σ := σ) hn
      simpa using this
    · rw [hc]
      have hne : c ≠ 45 := by rintro rfl; simp at hc
      have := num_j2 (t := c :: r) (i2 := i2) (b := false) (σ := σ) hn
      simp only [List.head?_cons, Option.some.injEq, hne, if_false]
      have e : (numU (c :: r)).getD (-99) = (match numU (c :: r) with | some w => if false = true then -w else w | none => -99) := by
        cases numU (c :: r) <;> rfl
      rw [e]; exact this
  · have h : t = [] := by
      cases t with
      | nil => rfl
      | cons c r => simp at h
    subst h
    exact num_j3 hn

theorem ret_numeral (t : List UInt8) : Ret 43 [.str t] 15 (.int .i64 (numS t)) := .mk fun n hn σ _ => by
  refine .le f43_e ?_
  unfold f43_t
  unfold numS
  refine .ite (fun h => ?_) fun h => ?_
  · have h : t ≠ [] := by rintro rfl; simp at h
    obtain ⟨c, r, rfl⟩ := List.exists_cons_of_ne_nil h
    rw [byteK_ok (b := c) (by decide) rfl]
    refine .ite (fun hc => ?_) fun hc => ?_
    · obtain rfl : c = 120 := byte_eq (k := 120) hc (by decide)
      rw [cutK_ok (by simp; omega)]
      have e : (((120 :: r).take (((120 :: r).length : Nat) : Int).toNat).drop (1 : Int).toNat) = r := by simp
      rw [e]
      exact num_j1 hn
    · have hne : c ≠ 120 := by rintro rfl; simp at hc
      have e : stripX (c :: r) = c :: r := by unfold stripX; rw [if_neg (by simpa using hne)]
      rw [e]
      exact num_j1 hn
  · have h : t = [] := by
      cases t with
      | nil => rfl
      | cons c r => simp at h
    subst h
    exact num_j1 hn

theorem numU_range {t : List UInt8} {v : Int} (h : numU t = some v) : 0 ≤ v ∧ v < 1000000000000 := by
  unfold numU at h
  split at h
  · cases h
  · rename_i hn
    obtain ⟨a, b⟩ := numGo_range t 0 v h (by decide)
    have := ten12 (Nat.not_lt.1 fun h => hn (.inr h))
    rw [Int.zero_add, Int.one_mul] at b
    omega
theorem numS_range (t : List UInt8) : -1000000000000 < numS t ∧ numS t < 1000000000000 := by
  unfold numS
  split
  · split
    · rename_i v hv; have := numU_range hv; omega
    · omega
  · cases h : numU (stripX t) with
    | none => simp
    | some v => have := numU_range h; simp; omega

/-! ### rows that grow -/

/-- A slice that is empty, or over a row of its own, made behind the base. -/
def AccV {α : Type} (base : St) (enc : α → AV) (l : List α) (a : Option (Nat × Nat)) (n z : Nat) (σ : St) : Prop :=
  (l = [] ∧ a = none ∧ n = 0) ∨ (∃ b t, a = some (b, 0) ∧ n = l.length ∧ z = 1 ∧ base.length ≤ b ∧ σ[b]? = some (.cells (l.map enc) (.rw t)))

theorem AccV.nil {α : Type} {base σ : St} {enc : α → AV} {z : Nat} : AccV base enc [] none 0 z σ := .inl ⟨rfl, rfl, rfl⟩
theorem AccV.up {α : Type} {base σ σ' : St} {enc : α → AV} {l : List α} {a : Option (Nat × Nat)} {n z : Nat} (h : AccV base enc l a n z σ) (u : Up σ σ') : AccV base enc l a n z σ' := by
  rcases h with h | ⟨b, t, h1, h2, h3, h4, h5⟩
  · exact .inl h
  · exact .inr ⟨b, t, h1, h2, h3, h4, u.get h5⟩
theorem AccV.len {α : Type} {base σ : St} {enc : α → AV} {l : List α} {a : Option (Nat × Nat)} {n z : Nat} (h : AccV base enc l a n z σ) : n = l.length := by
  rcases h with ⟨h1, _, h3⟩ | ⟨b, t, h1, h2, h3, h4, h5⟩
  · subst h1; exact h3
  · exact h2

theorem app_acc {α : Type} {base σ : St} {enc : α → AV} {l : List α} (x : α) {a : Option (Nat × Nat)} {n z : Nat} (e by' : Nat) (h : AccV base enc l a n z σ) (u : Up base σ) (hb : (l.length + 1) * by' ≤ 140737488355328) (hl : l.length + 1 < 9223372036854775807) :
    ∃ a' σ', Up base σ' ∧ AccV base enc (l ++ [x]) a' (n + 1) 1 σ' ∧ ∀ f : Option (Nat × Nat) → Nat → Option Nat → St → Out, appK σ e 1 by' a n z 1 [enc x] f = f a' (n + 1) none σ' := by
  rcases h with ⟨h1, h2, h3⟩ | ⟨b, t, h1, h2, h3, h4, h5⟩
  · subst h1; subst h2; subst h3
    refine ⟨some (σ.length, 0), σ ++ [.cells [enc x] (.rw (some e))], u.more _, .inr ⟨σ.length, some e, rfl, rfl, rfl, u.len, by simp⟩, fun f => ?_⟩
    unfold appK
    simp only
    rw [if_neg (by decide), if_pos ⟨by simpa using hb, by decide⟩]
  · subst h1; subst h2; subst h3
    refine ⟨some (σ.length, 0), σ.set b .dead ++ [.cells (l.map enc ++ [enc x]) (.rw (joinW t e))], (u.set h4 _).more _, .inr ⟨σ.length, joinW t e, rfl, by simp, rfl, u.len, ?_⟩, fun f => ?_⟩
    · rw [List.getElem?_append_right (by simp)]
      simp
    · unfold appK
      simp only [if_true]
      rw [h5]
      simp only [List.length_map, Nat.zero_add, Nat.mul_one, Nat.le_refl, if_true, List.drop_zero]
      rw [if_pos ⟨hb, hl⟩, List.take_of_length_le (by simp)]

/-! ### parts -/

def inB (c : UInt8) : Bool := decide (97 ≤ c.toNat ∧ c.toNat ≤ 122) || decide (48 ≤ c.toNat ∧ c.toNat ≤ 57) || decide (c.toNat = 46) || decide (c.toNat = 45)
def outB (c : UInt8) : Bool := !inB c

theorem splitGo_in {p : UInt8 → Bool} {cur l : List UInt8} {b : UInt8} (h : p b = false) : splitGo p cur (b :: l) = splitGo p (cur ++ [b]) l := by simp [splitGo, h]
theorem splitGo_out {p : UInt8 → Bool} {cur l : List UInt8} {b : UInt8} (h : p b = true) : splitGo p cur (b :: l) = (if cur = [] then [] else [cur]) ++ splitGo p [] l := by
  by_cases hc : cur = [] <;> simp [splitGo, h, hc]

theorem cut_piece (s : List UInt8) (f i : Nat) : ((s.take i).drop f) = pieceU s f i := by
  unfold pieceU; rw [List.drop_take]

theorem pieceU_nil (s : List UInt8) (i : Nat) : pieceU s i i = [] := by unfold pieceU; simp

def PartsQ (base : St) (R : List (List UInt8)) (v : AV) (σ : St) : Prop := ∃ a c z, v = .slice a R.length c z ∧ AccV base AV.str R a R.length z σ

theorem parts_l1 {n : Nat} {s : List UInt8} {a2 : Option (Nat × Nat)} {n3 : Nat} {c4 : Option Nat} {z5 : Nat} {σ0 : St} {R : List (List UInt8)} (hs : s.length ≤ 1048576) : ∀ (d m i f : Nat) (acc : List (List UInt8)) (a : Option (Nat × Nat)) (k : Nat) (c : Option Nat) (z : Nat) (σ : St),
    i + d = s.length + 1 → d < m → f ≤ i → acc.length ≤ i → Up σ0 σ → AccV σ0 AV.str acc a k z σ → acc ++ (if i ≤ s.length then splitGo outB (pieceU s f i) (s.drop i) else []) = R →
    GivesQ σ0 (PartsQ σ0 R) (f42_l1 (pt Tryd.prog Lb 42 n) m s a2 n3 c4 z5 a k c z (f : Int) (i : Int) σ) := by
  intro d
  induction d with
  | zero =>
    intro m i f acc a k c z σ hi hm hf hacc u hA hR
    obtain ⟨m, rfl⟩ : ∃ m', m = m' + 1 := ⟨m - 1, by omega⟩
    refine .le f42_l1_e ?_
    unfold f42_l1_t
    rw [decide_eq_false (by omega), cF]
    refine .le f42_j4_e ?_
    unfold f42_j4_t
    rw [if_neg (by omega), List.append_nil] at hR
    subst hR
    have hk := hA.len
    subst hk
    exact .ret u ⟨a, c, z, rfl, hA⟩
  | succ d ih =>
    intro m i f acc a k c z σ hi hm hf hacc u hA hR
    obtain ⟨m, rfl⟩ : ∃ m', m = m' + 1 := ⟨m - 1, by omega⟩
    have hil : i ≤ s.length := by omega
    rw [if_pos hil] at hR
    have e1 : IntKind.wrap .i64 ((i : Int) + 1) = ((i + 1 : Nat) : Int) := by rw [wrap64 (by omega) (by omega)]; omega
    -- on, from a place
    have on : ∀ (f' : Nat) (acc' : List (List UInt8)) (a' : Option (Nat × Nat)) (k' : Nat) (c' : Option Nat) (z' : Nat) (σ' : St), f' ≤ i + 1 → acc'.length ≤ i + 1 → Up σ0 σ' → AccV σ0 AV.str acc' a' k' z' σ' →
        acc' ++ (if i + 1 ≤ s.length then splitGo outB (pieceU s f' (i + 1)) (s.drop (i + 1)) else []) = R → GivesQ σ0 (PartsQ σ0 R) (f42_j2 (pt Tryd.prog Lb 42 n) m s a2 n3 c4 z5 a' k' c' z' (f' : Int) (i : Int) σ') := by
      intro f' acc' a' k' c' z' σ' h1 h2 u' hA' hR'
      refine .le f42_j2_e ?_
      unfold f42_j2_t
      rw [e1]
      exact ih m (i + 1) f' acc' a' k' c' z' σ' (by omega) (by omega) h1 h2 u' hA' hR'
    -- a sign that parts
    have out : (acc ++ (if pieceU s f i = [] then [] else [pieceU s f i])) ++ (if i + 1 ≤ s.length then splitGo outB [] (s.drop (i + 1)) else []) = R → GivesQ σ0 (PartsQ σ0 R) (f42_j3 (pt Tryd.prog Lb 42 n) m s a2 n3 c4 z5 a k c z (f : Int) (i : Int) σ) := by
      intro hR'
      refine .le f42_j3_e ?_
      unfold f42_j3_t
      rw [e1]
      refine .ite (fun h => ?_) fun h => ?_
      · have h : f < i := by
          have : (i : Int) > (f : Int) := by simpa using h
          omega
        rw [if_neg (pieceU_ne s f i h hil)] at hR'
        rw [cutK_ok (by omega), Int.toNat_natCast, Int.toNat_natCast, cut_piece]
        obtain ⟨a', σ', u', hA', hf'⟩ := app_acc (pieceU s f i) 9 16 hA u (by omega) (by omega)
        rw [hf']
        exact on (i + 1) (acc ++ [pieceU s f i]) a' _ _ _ σ' (by omega) (by simp; omega) u' hA' (by rw [pieceU_nil]; exact hR')
      · have h : f = i := by
          have : ¬ (i : Int) > (f : Int) := by simpa using h
          omega
        subst h
        rw [pieceU_nil, if_pos rfl, List.append_nil] at hR'
        exact on (f + 1) acc a k c z σ (by omega) (by omega) u hA (by rw [pieceU_nil]; exact hR')
    refine .le f42_l1_e ?_
    unfold f42_l1_t
    rw [decide_eq_true (by omega), cT]
    by_cases hlt : i < s.length
    · have hget : s[(i : Int).toNat]? = some s[i] := by rw [Int.toNat_natCast]; exact List.getElem?_eq_getElem hlt
      rw [List.drop_eq_getElem_cons hlt] at hR
      have hpiece : pieceU s f (i + 1) = pieceU s f i ++ [s[i]] := by
        rw [← pieceU_grow s f i 1 hf, List.drop_eq_getElem_cons hlt]; rfl
      generalize s[i] = b at *
      have gin : inB b = true → GivesQ σ0 (PartsQ σ0 R) (f42_j2 (pt Tryd.prog Lb 42 n) m s a2 n3 c4 z5 a k c z (f : Int) (i : Int) σ) := by
        intro hb
        refine on f acc a k c z σ (by omega) (by omega) u hA ?_
        rw [if_pos (by omega), hpiece, ← hR, splitGo_in (by simp [outB, hb])]
      have gout : inB b = false → GivesQ σ0 (PartsQ σ0 R) (f42_j3 (pt Tryd.prog Lb 42 n) m s a2 n3 c4 z5 a k c z (f : Int) (i : Int) σ) := by
        intro hb
        refine out ?_
        rw [if_pos (c := i + 1 ≤ s.length) (by omega), ← hR, splitGo_out (by simp [outB, hb]), List.append_assoc]
      clear on out hR hpiece
      rw [decide_eq_true (by omega), cT, byteK_ok (by omega) hget]
      refine .ite (fun h1 => ?_) fun h1 => ?_
      · rw [byteK_ok (by omega) hget]
        refine .ite (fun h2 => gin ?_) fun h2 => ?_
        · simp at h1 h2; simp [inB]; omega
        rw [byteK_ok (by omega) hget]
        refine .ite (fun h3 => ?_) fun h3 => ?_
        · rw [byteK_ok (by omega) hget]
          refine .ite (fun h4 => gin ?_) fun h4 => ?_
          · simp at h3 h4; simp [inB]; omega
          rw [byteK_ok (by omega) hget]
          refine .ite (fun h5 => gin ?_) fun h5 => ?_
          · simp at h5; simp [inB]; omega
          rw [byteK_ok (by omega) hget]
          refine .ite (fun h6 => gin ?_) fun h6 => gout ?_
          · simp at h6; simp [inB]; omega
          · simp at h1 h2 h3 h4 h5 h6; simp [inB]; omega
        · rw [byteK_ok (by omega) hget]
          refine .ite (fun h5 => gin ?_) fun h5 => ?_
          · simp at h5; simp [inB]; omega
          rw [byteK_ok (by omega) hget]
          refine .ite (fun h6 => gin ?_) fun h6 => gout ?_
          · simp at h6; simp [inB]; omega
          · simp at h1 h2 h3 h5 h6; simp [inB]; omega
      · rw [byteK_ok (by omega) hget]
        refine .ite (fun h3 => ?_) fun h3 => ?_
        · rw [byteK_ok (by omega) hget]
          refine .ite (fun h4 => gin ?_) fun h4 => ?_
          · simp at h3 h4; simp [inB]; omega
          rw [byteK_ok (by omega) hget]
          refine .ite (fun h5 => gin ?_) fun h5 => ?_
          · simp at h5; simp [inB]; omega
          rw [byteK_ok (by omega) hget]
          refine .ite (fun h6 => gin ?_) fun h6 => gout ?_
          · simp at h6; simp [inB]; omega
          · simp at h1 h3 h4 h5 h6; simp [inB]; omega
        · rw [byteK_ok (by omega) hget]
          refine .ite (fun h5 => gin ?_) fun h5 => ?_
          · simp at h5; simp [inB]; omega
          rw [byteK_ok (by omega) hget]
          refine .ite (fun h6 => gin ?_) fun h6 => gout ?_
          · simp at h6; simp [inB]; omega
          · simp at h1 h3 h5 h6; simp [inB]; omega
    · rw [decide_eq_false (by omega), cF]
      refine out ?_
      rw [List.drop_eq_nil_of_le (by omega)] at hR
      rw [if_neg (c := i + 1 ≤ s.length) (by omega), List.append_nil, ← hR]
      simp [splitGo]

theorem gives_parts42 {n : Nat} {s : List UInt8} {σ : St} (hs : s.length ≤ 1048576) (hn : s.length + 2 < n) : GivesQ σ (PartsQ σ (splitGo outB [] s)) (callP Tryd.prog Lb (n + 1) 42 [.str s] σ) := by
  refine .le f42_e ?_
  unfold f42_t
  refine parts_l1 hs (s.length + 1) n 0 0 [] none 0 (some 0) 0 σ (by omega) (by omega) (by omega) (by simp) (.refl _) .nil ?_
  rw [if_pos (by omega), pieceU_nil]; rfl

end Go.Proofs.Inst

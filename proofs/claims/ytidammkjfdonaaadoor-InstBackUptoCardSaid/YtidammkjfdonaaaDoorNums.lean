/- Numbers out of words: both texts' readings; a numeral is read as its number. -/
import Derived.Test.YtidammkjfdonaaaDoorWordsOf
import Derived.Test.YtidammkjfdonaaaDoorT4
namespace Go.Proofs.Inst
open Go.AM Go.Proofs Go.Lib

/-! ### numerals -/

theorem digit_of {u : Nat} (h : u < 10) : (UInt8.ofNat (48 + u)).toNat = 48 + u := by
  rw [UInt8.toNat_ofNat']; omega

theorem dec_digits : ∀ (u : Nat), ∀ b ∈ decDigits u, 48 ≤ b.toNat ∧ b.toNat ≤ 57 := by
  intro u
  induction u using Nat.strongRecOn with
  | _ u ih =>
    intro b hb
    by_cases h : u < 10
    · rw [decDigits, dif_pos h] at hb
      obtain rfl := List.mem_singleton.1 hb
      rw [digit_of h]; omega
    · rw [decDigits, dif_neg h] at hb
      rcases List.mem_append.1 hb with hb | hb
      · exact ih (u / 10) (by omega) b hb
      · obtain rfl := List.mem_singleton.1 hb
        rw [digit_of (Nat.mod_lt _ (by decide))]; omega

theorem dec_ne (u : Nat) : decDigits u ≠ [] := by
  rw [decDigits]; split <;> simp

theorem itoa_sign {n : Int} : ∀ b ∈ itoa n, b.toNat = 45 ∨ (48 ≤ b.toNat ∧ b.toNat ≤ 57) := by
  intro b hb
  unfold itoa at hb
  split at hb
  · rcases List.mem_cons.1 hb with rfl | hb
    · exact .inl rfl
    · exact .inr (dec_digits _ b hb)
  · exact .inr (dec_digits _ b hb)
theorem itoa_ne (n : Int) : itoa n ≠ [] := by
  unfold itoa; split
  · simp
  · exact dec_ne _
theorem itoa_sep {n : Int} : ∀ b ∈ itoa n, sepB b = false := by
  intro b hb
  have := itoa_sign b hb
  simp [sepB, sepP]
  omega
theorem reg_sep {n : Int} : ∀ b ∈ reg n, sepB b = false := by
  intro b hb
  unfold reg at hb
  rcases List.mem_append.1 hb with hb | hb
  · simp at hb; subst hb; rfl
  · exact itoa_sep b hb

/-! ### the program's reading -/

theorem uint_dec (M : Nat) : ∀ (u acc : Nat) (r : List UInt8), acc * 10 ^ nDigits u + u ≤ M → acc * 10 ^ nDigits u + u < 1844674407370955162 → parseUintM M acc (decDigits u ++ r) = parseUintM M (acc * 10 ^ nDigits u + u) r := by
  intro u
  induction u using Nat.strongRecOn with
  | _ u ih =>
    intro acc r h1 h2
    have step : ∀ (a d : Nat) (r : List UInt8), d < 10 → a * 10 + d ≤ M → a * 10 + d < 1844674407370955162 → parseUintM M a (UInt8.ofNat (48 + d) :: r) = parseUintM M (a * 10 + d) r := by
      intro a d r hd ha hb
      rw [parseUintM, digit_of hd, if_pos (by omega), if_neg (by omega), if_neg (by omega)]
      congr 1; omega
    by_cases h : u < 10
    · rw [nDigits_small h] at h1 h2 ⊢
      rw [decDigits, dif_pos h, Nat.pow_one] at *
      exact step acc u r h h1 h2
    · rw [nDigits_big h] at h1 h2 ⊢
      rw [decDigits, dif_neg h, List.append_assoc]
      have e : acc * 10 ^ (nDigits (u / 10) + 1) = acc * 10 ^ nDigits (u / 10) * 10 := by rw [Nat.pow_succ, Nat.mul_assoc]
      rw [e] at h1 h2 ⊢
      rw [ih (u / 10) (by omega) acc _ (by omega) (by omega), List.cons_append, List.nil_append]
      rw [step _ _ _ (by omega) (by omega) (by omega)]
      congr 1; omega

theorem uint_64 {u : Nat} (h : u < 1844674407370955162) : parseUintB 64 (decDigits u) = .ok u := by
  unfold parseUintB
  rw [if_neg (dec_ne u)]
  have := uint_dec (2 ^ 64 - 1) u 0 [] (by rw [Nat.zero_mul]; omega) (by omega)
  rw [List.append_nil, Nat.zero_mul, Nat.zero_add] at this
  rw [this]; rfl

theorem int_64 {n : Int} (h1 : -1000000000000 ≤ n) (h2 : n ≤ 1000000000000) : parseIntB 64 (itoa n) = .ok n := by
  unfold itoa
  have e : (2 : Nat) ^ (64 - 1) = 9223372036854775808 := rfl
  by_cases h : n < 0
  · rw [if_pos h]
    unfold parseIntB
    have : (45 : UInt8).toNat = 45 := rfl
    simp only [this, or_true, if_true, uint_64 (u := n.natAbs) (by omega), not_true_eq_false, false_and, if_false, true_and, e]
    rw [if_neg (by omega)]
    congr 1; omega
  · rw [if_neg h]
    have hne := dec_ne n.toNat
    have hd := dec_digits n.toNat
    have hu := uint_64 (u := n.toNat) (by omega)
    generalize decDigits n.toNat = l at *
    cases l with
    | nil => exact absurd rfl hne
    | cons c r =>
      have hc := hd c (by simp)
      have n1 : ¬ (c.toNat = 43 ∨ c.toNat = 45) := by omega
      have n2 : ¬ c.toNat = 45 := by omega
      rw [parseIntB]
      rw [if_neg n1, hu]
      simp only
      rw [if_neg (by rw [e]; omega), if_neg (fun h => n2 h.1), if_neg n2]
      congr 1; omega

/-- A part's number, and is it one. -/
def stripX (s : List UInt8) : List UInt8 := if s.head? = some 120 then s.tail else s
def valS (s : List UInt8) : Option Int := match parseIntB 64 (stripX s) with | .ok v => some v | _ => none

theorem valS_itoa {n : Int} (h1 : -1000000000000 ≤ n) (h2 : n ≤ 1000000000000) : valS (itoa n) = some n := by
  unfold valS
  have : stripX (itoa n) = itoa n := by
    unfold stripX
    rw [if_neg]
    intro h
    have := itoa_sign (n := n) 120 (List.mem_of_head? h)
    simp at this
  rw [this, int_64 h1 h2]
theorem valS_reg {n : Int} (h1 : -1000000000000 ≤ n) (h2 : n ≤ 1000000000000) : valS (reg n) = some n := by
  unfold valS
  have : stripX (reg n) = itoa n := rfl
  rw [this, int_64 h1 h2]

theorem parseInt_range {B : Nat} {l : List UInt8} {v : Int} (h : parseIntB B l = .ok v) : -(2 ^ (B - 1) : Nat) ≤ v ∧ v ≤ (2 ^ (B - 1) : Nat) := by
  cases l with
  | nil => simp [parseIntB] at h
  | cons c r =>
    rw [parseIntB] at h
    split at h
    · cases h
    · cases h
    · rename_i u hu
      by_cases hc : c.toNat = 45
      · rw [if_neg (fun h => h.1 hc), if_pos hc] at h
        split at h
        · cases h
        · rename_i hn
          have hn : ¬ 2 ^ (B - 1) < u := fun h => hn ⟨hc, h⟩
          cases h; omega
      · rw [if_neg hc] at h
        split at h
        · cases h
        · rename_i hn
          have hn : ¬ 2 ^ (B - 1) ≤ u := fun h => hn ⟨hc, h⟩
          rw [if_neg (fun h => hc h.1)] at h
          cases h; omega

theorem valS_i64 {s : List UInt8} {v : Int} (h : valS s = some v) : -9223372036854775808 ≤ v ∧ v ≤ 9223372036854775808 := by
  unfold valS at h
  split at h
  · rename_i w hw; cases h; exact parseInt_range hw
  · cases h

theorem eq101 {σ : St} {b : Nat} {f : Bool → Out} : eqK Tryd.prog 101 (.iface 133 (.ptr (some (σ.length, b)))) .nilIface f = f false := by
  have h1 : eqFree Tryd.prog 101 = true := by kernel_rfl
  unfold eqK
  rw [if_pos h1]
  simp only [eqIn, Tryd.underlying101]
theorem eq101n {f : Bool → Out} : eqK Tryd.prog 101 .nilIface .nilIface f = f true := by
  have h1 : eqFree Tryd.prog 101 = true := by kernel_rfl
  unfold eqK
  rw [if_pos h1]
  simp only [eqIn, Tryd.underlying101]

theorem value_j1 {n : Nat} {s : List UInt8} {i : Int} {σ σ0 : St} {Q : AV → St → Prop} (hs : s.length ≤ 281474976710656) (hn : 1 ≤ n) (hu : Up σ0 σ) (hk : Kn σ)
    (g : ∀ σ1 v, Up σ0 σ1 → (∀ r, (match parseIntB 64 s with | .ok w => some w | _ => none) = some r → v = r) → Q (.tuple [.int .i64 v, .bool (match parseIntB 64 s with | .ok w => some w | _ => none).isSome]) σ1) :
    GivesQ σ0 Q (f39_j1 (pt Tryd.prog Lb 39 n) s i σ) := by
  refine .le f39_j1_e ?_
  unfold f39_j1_t
  obtain ⟨n, rfl⟩ : ∃ m, n = m + 1 := ⟨n - 1, by omega⟩
  have hl : Lb 55 [.str s, .int .i64 10, .int .i64 64] σ = match parseIntB 64 s with
      | .ok v => some (.ret (.tuple [.int .i64 v, .nilIface]), σ)
      | .syntax => some (.ret (.tuple [.int .i64 0, .iface 133 (.ptr (some (σ.length, 0)))]), σ ++ [.dead])
      | .range => some (.ret (.tuple [.int .i64 (intSat 64 s), .iface 133 (.ptr (some (σ.length, 0)))]), σ ++ [.dead]) :=
    if_pos ⟨hk, rfl, rfl, hs⟩
  cases hp : parseIntB 64 s
  case ok v =>
    rw [hp] at hl g
    rw [callT_ok (callP_lib hl)]
    simp only [xTup_t, unC_c, xInt_i, nlC_n, eq101n]
    exact .ret hu (g σ v hu fun r h => by cases h; rfl)
  case range =>
    rw [hp] at hl g
    rw [callT_ok (callP_lib hl)]
    simp only [xTup_t, unC_c, xInt_i, nlC_n, eq101]
    exact .ret (hu.more _) (g _ _ (hu.more _) fun r h => by cases h)
  all_goals
    rw [hp] at hl g
    rw [callT_ok (callP_lib hl)]
    simp only [xTup_t, unC_c, xInt_i, nlC_n, eq101]
    exact .ret (hu.more _) (g _ 0 (hu.more _) fun r h => by cases h)

theorem gives_value {n : Nat} {s : List UInt8} {σ : St} (hs : s.length ≤ 281474976710656) (hn : 1 ≤ n) (hk : Kn σ) :
    GivesQ σ (fun r _ => ∃ v, r = .tuple [.int .i64 v, .bool (valS s).isSome] ∧ ∀ w, valS s = some w → v = w) (callP Tryd.prog Lb (n + 1) 39 [.str s] σ) := by
  refine .le f39_e ?_
  unfold f39_t
  refine .ite (fun h => ?_) fun h => ?_
  · have h : s ≠ [] := by rintro rfl; simp at h
    obtain ⟨c, t, rfl⟩ := List.exists_cons_of_ne_nil h
    rw [byteK_ok (b := c) (by decide) rfl]
    refine .ite (fun hc => ?_) fun hc => ?_
    · have hc : c = 120 := by
        have : (c.toNat : Int) = 120 := by simpa using hc
        exact UInt8.toNat_inj.1 (by have e : (120 : UInt8).toNat = 120 := rfl; omega)
      subst hc
      rw [cutK_ok (by simp; omega)]
      have e : (((120 :: t).take (((120 :: t).length : Nat) : Int).toNat).drop (1 : Int).toNat) = t := by simp
      rw [e]
      refine value_j1 (by simp at hs; omega) hn (.refl _) hk fun σ1 v _ hv => ⟨v, rfl, fun w hw => hv w hw⟩
    · have hc : c ≠ 120 := by rintro rfl; simp at hc
      have e : stripX (c :: t) = c :: t := by unfold stripX; rw [if_neg (by simpa using hc)]
      unfold valS
      rw [e]
      exact value_j1 hs hn (.refl _) hk fun σ1 v _ hv => ⟨v, rfl, hv⟩
  · have h : s = [] := by
      cases s with
      | nil => rfl
      | cons c t => simp at h
    subst h
    exact value_j1 hs hn (.refl _) hk fun σ1 v _ hv => ⟨v, rfl, hv⟩

/-! ### the reference's reading -/

def numGo : Int → List UInt8 → Option Int
  | v, [] => some v
  | v, c :: r => if c.toNat < 48 ∨ 57 < c.toNat then none else numGo (v * 10 + ((c.toNat : Int) - 48)) r
def numU (t : List UInt8) : Option Int := if t = [] ∨ 12 < t.length then none else numGo 0 t
def numS (t : List UInt8) : Int :=
  if (stripX t).head? = some 45 then (match numU (stripX t).tail with | some v => -v | none => -99) else (numU (stripX t)).getD (-99)

theorem numGo_dec : ∀ (u : Nat) (v : Int) (r : List UInt8), numGo v (decDigits u ++ r) = numGo (v * 10 ^ nDigits u + u) r := by
  intro u
  induction u using Nat.strongRecOn with
  | _ u ih =>
    intro v r
    have step : ∀ (a : Int) (d : Nat) (r : List UInt8), d < 10 → numGo a (UInt8.ofNat (48 + d) :: r) = numGo (a * 10 + d) r := by
      intro a d r hd
      rw [numGo, digit_of hd, if_neg (by omega)]
      congr 1; omega
    by_cases h : u < 10
    · rw [nDigits_small h, decDigits, dif_pos h]
      exact step v u r h
    · rw [nDigits_big h, decDigits, dif_neg h, List.append_assoc, ih (u / 10) (by omega), List.cons_append, List.nil_append, step _ _ _ (by omega)]
      congr 1
      rw [Int.pow_succ, ← Int.mul_assoc]
      generalize v * 10 ^ nDigits (u / 10) = z
      omega

theorem numU_dec {u : Nat} (h : u < 1000000000000) : numU (decDigits u) = some (u : Int) := by
  have e : (10 : Nat) ^ 12 = 1000000000000 := rfl
  have := nDigits_le 12 u (by rw [e]; exact h)
  unfold numU
  rw [if_neg]
  · have := numGo_dec u 0 []
    rw [List.append_nil] at this
    rw [this]; simp [numGo]
  · rw [decDigits_length]
    intro hh
    rcases hh with hh | hh
    · exact dec_ne u hh
    · omega

theorem num_itoa {n : Int} {t : List UInt8} (ht : stripX t = itoa n) (h1 : -100000000000 ≤ n) (h2 : n ≤ 100000000000) : numS t = n := by
  unfold numS
  rw [ht]
  unfold itoa
  by_cases h : n < 0
  · rw [if_pos h]
    simp only [List.head?_cons, if_true, List.tail_cons]
    rw [numU_dec (by omega)]
    simp only; omega
  · rw [if_neg h]
    have hne : (decDigits n.toNat).head? ≠ some 45 := by
      intro hh
      have := dec_digits n.toNat 45 (List.mem_of_head? hh)
      simp at this
    rw [if_neg hne, numU_dec (by omega)]
    simp; omega
theorem numS_reg {n : Int} (h1 : -100000000000 ≤ n) (h2 : n ≤ 100000000000) : numS (reg n) = n := num_itoa rfl h1 h2
theorem numS_itoa {n : Int} (h1 : -100000000000 ≤ n) (h2 : n ≤ 100000000000) : numS (itoa n) = n := by
  refine num_itoa ?_ h1 h2
  unfold stripX
  rw [if_neg]
  intro h
  have := itoa_sign (n := n) 120 (List.mem_of_head? h)
  simp at this

theorem numGo_range : ∀ (t : List UInt8) (v w : Int), numGo v t = some w → 0 ≤ v → 0 ≤ w ∧ w < (v + 1) * 10 ^ t.length
  | [], v, w, h, h0 => by simp [numGo] at h; subst h; simp; omega
  | c :: t, v, w, h, h0 => by
    rw [numGo] at h
    split at h
    · cases h
    · rename_i hc
      obtain ⟨a, b⟩ := numGo_range t _ w h (by omega)
      refine ⟨a, Int.lt_of_lt_of_le b ?_⟩
      rw [List.length_cons, Int.pow_succ, Int.mul_comm (10 ^ t.length) 10, ← Int.mul_assoc]
      refine Int.mul_le_mul_of_nonneg_right (by omega) ?_
      exact Int.pow_nonneg (by omega)

end Go.Proofs.Inst

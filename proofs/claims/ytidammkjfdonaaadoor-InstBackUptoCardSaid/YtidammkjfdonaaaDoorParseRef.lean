/- The reference's reading of a text. -/
import Derived.Test.YtidammkjfdonaaaDoorParse
namespace Go.Proofs.Inst
open Go.AM Go.Proofs Go.Lib

/-- All places that a text's numbers could have. -/
def candsR (op a b c : Int) : List Ins :=
  [⟨op, 0, 0, 0, 0⟩, ⟨op, a, 0, 0, b⟩, ⟨op, a, b, 0, c⟩, ⟨op, a, c, 0, b⟩, ⟨op, 0, a, b, c⟩, ⟨op, 0, c, a, b⟩, ⟨op, a, b, c, 0⟩,
   ⟨op, a, c, b, 0⟩, ⟨op, a, b, 0, 0⟩, ⟨op, a, c, b, 1⟩, ⟨op, a, b, 0, 1⟩, ⟨op, a, c, b, 2⟩, ⟨op, a, b, 0, 2⟩, ⟨op, a, c, b, 3⟩, ⟨op, a, b, 0, 3⟩]

def numsR (s : List UInt8) : List Int := (splitGo outB [] s).tail.map numS

theorem numsR_text {x : Ins} (h : May x) : numsR (textS x) = if (rowAt x.op).form = 10 then [] else numsX (rowAt x.op).form x := by
  unfold numsR
  rw [words_text h, List.tail_cons]
  split
  · rfl
  · exact nums_words h

theorem mem_cands {x : Ins} (h : May x) : x ∈ candsR x.op ((numsR (textS x)).getD 0 0) ((numsR (textS x)).getD 1 0) ((numsR (textS x)).getD 2 0) := by
  rw [numsR_text h]
  obtain ⟨h1, h2, h3, h4, h5, h⟩ := h
  obtain ⟨op, rd, rs1, rs2, imm⟩ := x
  simp only at h1 h2 h3 h4 h5 h ⊢
  unfold FormOk at h
  simp only at h
  generalize (rowAt op).form = f at *
  rcases h with h | h | h | h | h | h | h | h | h | h <;> obtain ⟨rfl, h⟩ := h
  · simp [numsX, candsR, h]
  · simp [numsX, candsR, h]
  · by_cases hm : op = 4 ∨ (11 ≤ op ∧ op ≤ 17)
    · simp [numsX, hm, candsR, h]
    · simp only [numsX, Int.reduceEq, or_self, if_false, hm, and_false]; simp [candsR, h]
  · simp [numsX, candsR, h]
  · simp [numsX, candsR, h]
  · simp [numsX, candsR, h]
  · simp [numsX, candsR, h]
  · simp [numsX, candsR, h]
  · have hi : imm = 0 ∨ imm = 1 ∨ imm = 2 ∨ imm = 3 := by omega
    by_cases hl : op = 66 ∨ op = 77
    · have h0 : rs2 = 0 := by omega
      subst h0
      rcases hi with rfl | rfl | rfl | rfl <;> simp [numsX, hl, candsR]
    · rcases hi with rfl | rfl | rfl | rfl <;> simp [numsX, hl, candsR]
  · simp [candsR, h]

theorem parts_count {x : Ins} (h : May x) : (splitGo outB [] (textS x)).length ≤ 4 ∧ 0 < (splitGo outB [] (textS x)).length := by
  rw [words_text h]
  have : (wordsX (rowAt x.op).form x).length ≤ 3 := by
    unfold wordsX
    repeat' split
    all_goals simp
  split <;> simp <;> omega

/-! ### candidates in a row -/

def AccI (base : St) (C : List Ins) (a : Option (Nat × Nat)) (n z : Nat) (σ : St) : Prop := ∃ b t, a = some (b, 0) ∧ n = C.length ∧ z = 5 ∧ base.length ≤ b ∧ σ[b]? = some (.cells (C.flatMap insC) (.rw t))

theorem insC_len (x : Ins) : (insC x).length = 5 := rfl

theorem app_ins {base σ : St} {C : List Ins} (x y : Ins) {a : Option (Nat × Nat)} {n z : Nat} (h : AccI base C a n z σ) (u : Up base σ) (hl : C.length ≤ 100) :
    ∃ a' σ', Up base σ' ∧ AccI base (C ++ [x, y]) a' (n + 2) 5 σ' ∧ ∀ f : Option (Nat × Nat) → Nat → Option Nat → St → Out, appK σ 23 5 40 a n z 2 (insC x ++ insC y) f = f a' (n + 2) none σ' := by
  obtain ⟨b, t, h1, h2, h3, h4, h5⟩ := h
  subst h1; subst h2; subst h3
  have hlen := flat_length insC_len C
  refine ⟨some (σ.length, 0), σ.set b .dead ++ [.cells (C.flatMap insC ++ (insC x ++ insC y)) (.rw (joinW t 23))], (u.set h4 _).more _, ⟨σ.length, joinW t 23, rfl, by simp, rfl, u.len, ?_⟩, fun f => ?_⟩
  · rw [List.getElem?_append_right (by simp)]
    simp
  · unfold appK
    simp only [if_true]
    rw [h5]
    simp only [Nat.zero_add, hlen, Nat.le_refl, if_true, List.drop_zero]
    rw [if_pos ⟨by omega, by omega⟩, List.take_of_length_le (by omega)]

theorem AccI.ld {base σ : St} {C : List Ins} {b : Nat} {n z i : Nat} {x : Ins} {f : AV → Out} (h : AccI base C (some (b, 0)) n z σ) (hx : C[i]? = some x) : ldK Tryd.prog 23 σ b (0 + i * 5) f = f (.agg (insC x)) := by
  obtain ⟨b', t, h1, h2, h3, h4, h5⟩ := h
  cases h1
  have : cellsAt σ b = some (C.flatMap insC) := by unfold cellsAt; rw [h5]
  rw [ldK_at this, Nat.zero_add]
  exact partK_part insC_len agg23 sz23 hx rfl
theorem AccI.up {base σ σ' : St} {C : List Ins} {a : Option (Nat × Nat)} {n z : Nat} (h : AccI base C a n z σ) (u : Up σ σ') : AccI base C a n z σ' := by
  obtain ⟨b', t, h1, h2, h3, h4, h5⟩ := h
  exact ⟨b', t, h1, h2, h3, h4, u.get h5⟩


/-! ### a text without numbers -/

theorem candA {n m0 : Nat} {s : List UInt8} {i2 op a b c z1 z2 z3 z4 z5 y1 y2 y3 : Int} {C : List Ins} {bk N : Nat} {cp : Option Nat} {σ0 σc : St} {v : AV} (hn : 40 ≤ n) (hu0 : Up σ0 σc) (hC : C.length ≤ 100) (hN : N = C.length) (hv : v = parseV s)
    (next : (∀ x, May x → textS x = s → x.op ≠ op) → ∀ σ, Up σc σ → Kn σ → Gives σ0 v (f20_j14 (pt Tryd.prog Lb 20 n) m0 s i2 a b c op z1 z2 z3 z4 z5 y1 y2 y3 σ)) : ∀ (d m i : Nat) (σ : St), i + d = C.length → d < m → Up σc σ → Kn σ → AccI σc C (some (bk, 0)) N 5 σ →
    (∀ x, May x → textS x = s → x.op = op → x ∈ C.drop i) → Gives σ0 v (f20_l12 (pt Tryd.prog Lb 20 n) m0 m s i2 a b c op (some (bk, 0)) N cp 5 (i : Int) z1 z2 z3 z4 z5 y1 y2 y3 σ) := by
  intro d
  induction d with
  | zero =>
    intro m i σ hi hm u hk _ hinv
    obtain ⟨m, rfl⟩ : ∃ m', m = m' + 1 := ⟨m - 1, by omega⟩
    refine .le f20_l12_e ?_
    unfold f20_l12_t
    rw [decide_eq_false (by omega), cF]
    refine next ?_ σ u hk
    intro x hx ht ho
    have := hinv x hx ht ho
    rw [List.drop_eq_nil_of_le (by omega)] at this
    cases this
  | succ d ih =>
    intro m i σ hi hm u hk hA hinv
    obtain ⟨m, rfl⟩ : ∃ m', m = m' + 1 := ⟨m - 1, by omega⟩
    have hlt : i < C.length := by omega
    have hg : C[i]? = some C[i] := List.getElem?_eq_getElem hlt
    have hd := List.drop_eq_getElem_cons hlt
    generalize C[i] = x at *
    have on : (May x → textS x ≠ s) → ∀ σ1, Up σ σ1 → Up σc σ1 → Kn σ1 → Gives σ0 v (f20_l12 (pt Tryd.prog Lb 20 n) m0 m s i2 a b c op (some (bk, 0)) N cp 5 (IntKind.wrap .i64 ((i : Int) + 1)) z1 z2 z3 z4 z5 y1 y2 y3 σ1) := by
      intro hne σ1 uσ u1 k1
      have hwr : IntKind.wrap .i64 ((i : Int) + 1) = ((i + 1 : Nat) : Int) := by rw [wrap64 (by omega) (by omega)]; omega
      rw [hwr]
      refine ih m (i + 1) σ1 (by omega) (by omega) u1 k1 (hA.up uσ) fun y hy ht ho => ?_
      have := hinv y hy ht ho
      rw [hd] at this
      rcases List.mem_cons.1 this with rfl | h
      · exact absurd ht (hne hy)
      · exact h
    refine .le f20_l12_e ?_
    unfold f20_l12_t
    rw [decide_eq_true (by omega), cT, idxK_ok ⟨by omega, by omega⟩, derefK_s, szK_s, Int.toNat_natCast, hA.ld hg]
    simp only [insC, xAgg_a, unC_c, xInt_i, nlC_n]
    refine .call (ret_textRef x) (by omega) (hu0.trans u) hk fun σ1 uσ1 _ k1 => ?_
    simp only [xTup_t, unC_c, xStr_s, xInt_i, nlC_n]
    by_cases hM : May x
    · rw [if_pos hM, if_pos hM]
      refine .ite (fun _ => .ite (fun h => ?_) fun h => on (fun _ => by simpa using h) σ1 uσ1 (u.trans uσ1) k1) fun h => by simp at h
      rw [idxK_ok ⟨by omega, by omega⟩, derefK_s, szK_s, (hA.up uσ1).ld hg]
      simp only [insC, xAgg_a, unC_c, xInt_i, nlC_n]
      refine .ret (hu0.trans (u.trans uσ1)) ?_
      rw [hv, parseV_some hM (by simpa using h)]; rfl
    · rw [if_neg hM, if_neg hM]
      exact .ite (fun h => by simp at h) fun _ => on (fun h => absurd h hM) σ1 uσ1 (u.trans uσ1) k1

theorem growA {n m0 : Nat} {s : List UInt8} {i2 op a b c z1 z2 z3 z4 z5 y1 y2 y3 : Int} {N : Nat} {cp : Option Nat} {σ0 σb σ : St} {v : AV} {ar : Option (Nat × Nat)} {C : List Ins} {m : Nat} {i : Int} {k : Nat} (hi : i = 0 ∨ i = 1 ∨ i = 2 ∨ i = 3) (hA : AccI σb C ar N 5 σ) (u : Up σb σ) (hkb : Kn σb) (hC : C.length ≤ 90) (hk : k = N + 2)
    (g : ∀ a' σ', Up σb σ' → Kn σ' → AccI σb (C ++ [⟨op, a, c, b, i⟩, ⟨op, a, b, 0, i⟩]) a' k 5 σ' → Gives σ0 v (f20_l7 (pt Tryd.prog Lb 20 n) m0 m s i2 a b c op a' k none 5 (i + 1) z1 z2 z3 z4 z5 y1 y2 y3 σ')) :
    Gives σ0 v (f20_l7 (pt Tryd.prog Lb 20 n) m0 (m + 1) s i2 a b c op ar N cp 5 i z1 z2 z3 z4 z5 y1 y2 y3 σ) := by
  subst hk
  refine .le f20_l7_e ?_
  unfold f20_l7_t
  rw [decide_eq_true (by omega), cT, wrap64 (by omega) (by omega)]
  obtain ⟨a', σ', u', hA', hf⟩ := app_ins ⟨op, a, c, b, i⟩ ⟨op, a, b, 0, i⟩ hA u (by omega)
  refine (hf _).symm ▸ ?_
  exact g a' σ' u' (u'.kn hkb) hA'

theorem opsA {n : Nat} {s : List UInt8} {i2 a b c z1 z2 z3 z4 z5 y1 y2 y3 : Int} {σ0 : St} {v : AV} (hn : 100 ≤ n) (hy : b = y2 ∧ c = y3) (hv : v = parseV s) (hR : ∀ x, May x → textS x = s → x ∈ candsR x.op a b c) : ∀ (d m : Nat) (op : Int) (σ : St), 1 ≤ op → op + d = 88 → d < m → Up σ0 σ → Kn σ → (∀ x, May x → textS x = s → op ≤ x.op) →
    Gives σ0 v (f20_l5 (pt Tryd.prog Lb 20 n) m s i2 a b c op z1 z2 z3 z4 z5 y1 y2 y3 σ) := by
  intro d
  induction d with
  | zero =>
    intro m op σ h1 ho hm u hk hinv
    obtain ⟨m, rfl⟩ : ∃ m', m = m' + 1 := ⟨m - 1, by omega⟩
    refine .le f20_l5_e ?_
    unfold f20_l5_t
    rw [decide_eq_false (by omega), cF]
    refine .le f20_j8_e ?_
    unfold f20_j8_t
    refine .ret u ?_
    rw [hv, parseV_none]
    · rfl
    · intro x hx ht
      have := hinv x hx ht; have := hx.2.1; omega
  | succ d ih =>
    intro m op σ h1 ho hm u hk hinv
    obtain ⟨m, rfl⟩ : ∃ m', m = m' + 1 := ⟨m - 1, by omega⟩
    have next : (∀ x, May x → textS x = s → x.op ≠ op) → ∀ σ1, Up σ σ1 → Kn σ1 → Gives σ0 v (f20_j14 (pt Tryd.prog Lb 20 n) m s i2 a b c op z1 z2 z3 z4 z5 y1 y2 y3 σ1) := by
      intro hne σ1 u1 k1
      refine .le f20_j14_e ?_
      unfold f20_j14_t
      rw [wrap64 (by omega) (by omega)]
      refine ih m (op + 1) σ1 (by omega) (by omega) (by omega) (u.trans u1) k1 fun x hx ht => ?_
      have h3 := hinv x hx ht
      have h4 := hne x hx ht
      omega
    refine .le f20_l5_e ?_
    unfold f20_l5_t
    rw [decide_eq_true (by omega), cT]
    obtain ⟨rfl, rfl⟩ := hy
    obtain ⟨n, rfl⟩ : ∃ n', n = n' + 5 := ⟨n - 5, by omega⟩
    have hA0 : AccI σ [⟨op, 0, 0, 0, 0⟩, ⟨op, a, 0, 0, b⟩, ⟨op, a, b, 0, c⟩, ⟨op, a, c, 0, b⟩, ⟨op, 0, a, b, c⟩, ⟨op, 0, c, a, b⟩, ⟨op, a, b, c, 0⟩] (some (σ.length, 0)) 7 5 (σ ++ [AObj.cells ([⟨op, 0, 0, 0, 0⟩, ⟨op, a, 0, 0, b⟩, ⟨op, a, b, 0, c⟩, ⟨op, a, c, 0, b⟩, ⟨op, 0, a, b, c⟩, ⟨op, 0, c, a, b⟩, ⟨op, a, b, c, 0⟩].flatMap insC) (.rw (some 23))]) :=
      ⟨σ.length, some 23, rfl, rfl, rfl, Nat.le_refl _, by simp⟩
    refine growA (N := 7) (.inl rfl) hA0 (.app _ _) hk (by simp) rfl fun a1 σ1 u1 _ hA1 => ?_
    refine growA (i := 0 + 1) (N := 9) (.inr (.inl rfl)) hA1 u1 hk (by simp) rfl fun a2 σ2 u2 _ hA2 => ?_
    refine growA (i := 0 + 1 + 1) (N := 11) (.inr (.inr (.inl rfl))) hA2 u2 hk (by simp) rfl fun a3 σ3 u3 _ hA3 => ?_
    refine growA (i := 0 + 1 + 1 + 1) (N := 13) (.inr (.inr (.inr rfl))) hA3 u3 hk (by simp) rfl fun a4 σ4 u4 k4 hA4 => ?_
    refine .le f20_l7_e ?_
    unfold f20_l7_t
    rw [decide_eq_false (by decide), cF]
    refine .le f20_j10_e ?_
    unfold f20_j10_t
    obtain ⟨bk, t, rfl, q2, q3, q4, q5⟩ := hA4
    refine candA (C := candsR op a b c) (by omega) u (by simp [candsR]) rfl hv next 15 _ 0 σ4 rfl (by omega) u4 k4 ⟨bk, t, rfl, rfl, rfl, q4, q5⟩ ?_
    intro x hx ht hop
    have := hR x hx ht
    rw [hop] at this
    exact this

/-! ### a text with numbers -/

theorem candB {n m0 : Nat} {s : List UInt8} {i2 op a b c z1 z2 z3 z4 z5 : Int} {C : List Ins} {bk N : Nat} {cp : Option Nat} {σ0 σc : St} {v : AV} (hn : 40 ≤ n) (hu0 : Up σ0 σc) (hC : C.length ≤ 100) (hN : N = C.length) (hv : v = parseV s)
    (next : (∀ x, May x → textS x = s → x.op ≠ op) → ∀ σ, Up σc σ → Kn σ → Gives σ0 v (f20_j15 (pt Tryd.prog Lb 20 n) m0 s i2 a b c op z1 z2 z3 z4 z5 [numV a, numV b, numV c] σ)) : ∀ (d m i : Nat) (σ : St), i + d = C.length → d < m → Up σc σ → Kn σ → AccI σc C (some (bk, 0)) N 5 σ →
    (∀ x, May x → textS x = s → x.op = op → x ∈ C.drop i) → Gives σ0 v (f20_l13 (pt Tryd.prog Lb 20 n) m0 m s i2 a b c op (some (bk, 0)) N cp 5 (i : Int) z1 z2 z3 z4 z5 [numV a, numV b, numV c] σ) := by
  intro d
  induction d with
  | zero =>
    intro m i σ hi hm u hk _ hinv
    obtain ⟨m, rfl⟩ : ∃ m', m = m' + 1 := ⟨m - 1, by omega⟩
    refine .le f20_l13_e ?_
    unfold f20_l13_t
    rw [decide_eq_false (by omega), cF]
    refine next ?_ σ u hk
    intro x hx ht ho
    have := hinv x hx ht ho
    rw [List.drop_eq_nil_of_le (by omega)] at this
    cases this
  | succ d ih =>
    intro m i σ hi hm u hk hA hinv
    obtain ⟨m, rfl⟩ : ∃ m', m = m' + 1 := ⟨m - 1, by omega⟩
    have hlt : i < C.length := by omega
    have hg : C[i]? = some C[i] := List.getElem?_eq_getElem hlt
    have hd := List.drop_eq_getElem_cons hlt
    generalize C[i] = x at *
    have on : (May x → textS x ≠ s) → ∀ σ1, Up σ σ1 → Up σc σ1 → Kn σ1 → Gives σ0 v (f20_l13 (pt Tryd.prog Lb 20 n) m0 m s i2 a b c op (some (bk, 0)) N cp 5 (IntKind.wrap .i64 ((i : Int) + 1)) z1 z2 z3 z4 z5 [numV a, numV b, numV c] σ1) := by
      intro hne σ1 uσ u1 k1
      have hwr : IntKind.wrap .i64 ((i : Int) + 1) = ((i + 1 : Nat) : Int) := by rw [wrap64 (by omega) (by omega)]; omega
      rw [hwr]
      refine ih m (i + 1) σ1 (by omega) (by omega) u1 k1 (hA.up uσ) fun y hy ht ho => ?_
      have := hinv y hy ht ho
      rw [hd] at this
      rcases List.mem_cons.1 this with rfl | h
      · exact absurd ht (hne hy)
      · exact h
    refine .le f20_l13_e ?_
    unfold f20_l13_t
    rw [decide_eq_true (by omega), cT, idxK_ok ⟨by omega, by omega⟩, derefK_s, szK_s, Int.toNat_natCast, hA.ld hg]
    simp only [insC, xAgg_a, unC_c, xInt_i, nlC_n]
    refine .call (ret_textRef x) (by omega) (hu0.trans u) hk fun σ1 uσ1 _ k1 => ?_
    simp only [xTup_t, unC_c, xStr_s, xInt_i, nlC_n]
    by_cases hM : May x
    · rw [if_pos hM, if_pos hM]
      refine .ite (fun _ => .ite (fun h => ?_) fun h => on (fun _ => by simpa using h) σ1 uσ1 (u.trans uσ1) k1) fun h => by simp at h
      rw [idxK_ok ⟨by omega, by omega⟩, derefK_s, szK_s, (hA.up uσ1).ld hg]
      simp only [insC, xAgg_a, unC_c, xInt_i, nlC_n]
      refine .ret (hu0.trans (u.trans uσ1)) ?_
      rw [hv, parseV_some hM (by simpa using h)]; rfl
    · rw [if_neg hM, if_neg hM]
      exact .ite (fun h => by simp at h) fun _ => on (fun h => absurd h hM) σ1 uσ1 (u.trans uσ1) k1

theorem growB {n m0 : Nat} {s : List UInt8} {i2 op a b c z1 z2 z3 z4 z5 : Int} {N : Nat} {cp : Option Nat} {σ0 σb σ : St} {v : AV} {ar : Option (Nat × Nat)} {C : List Ins} {m : Nat} {i : Int} {k : Nat} (hi : i = 0 ∨ i = 1 ∨ i = 2 ∨ i = 3) (hA : AccI σb C ar N 5 σ) (u : Up σb σ) (hkb : Kn σb) (hC : C.length ≤ 90) (hk : k = N + 2)
    (g : ∀ a' σ', Up σb σ' → Kn σ' → AccI σb (C ++ [⟨op, a, c, b, i⟩, ⟨op, a, b, 0, i⟩]) a' k 5 σ' → Gives σ0 v (f20_l9 (pt Tryd.prog Lb 20 n) m0 m s i2 a b c op a' k none 5 (i + 1) z1 z2 z3 z4 z5 [numV a, numV b, numV c] σ')) :
    Gives σ0 v (f20_l9 (pt Tryd.prog Lb 20 n) m0 (m + 1) s i2 a b c op ar N cp 5 i z1 z2 z3 z4 z5 [numV a, numV b, numV c] σ) := by
  subst hk
  refine .le f20_l9_e ?_
  unfold f20_l9_t
  rw [decide_eq_true (by omega), cT, wrap64 (by omega) (by omega)]
  obtain ⟨a', σ', u', hA', hf⟩ := app_ins ⟨op, a, c, b, i⟩ ⟨op, a, b, 0, i⟩ hA u (by omega)
  refine (hf _).symm ▸ ?_
  exact g a' σ' u' (u'.kn hkb) hA'

theorem opsB {n : Nat} {s : List UInt8} {i2 a b c z1 z2 z3 z4 z5 : Int} {σ0 : St} {v : AV} (hn : 100 ≤ n) (hv : v = parseV s) (hR : ∀ x, May x → textS x = s → x ∈ candsR x.op a b c) : ∀ (d m : Nat) (op : Int) (σ : St), 1 ≤ op → op + d = 88 → d < m → Up σ0 σ → Kn σ → (∀ x, May x → textS x = s → op ≤ x.op) →
    Gives σ0 v (f20_l6 (pt Tryd.prog Lb 20 n) m s i2 a b c op z1 z2 z3 z4 z5 [numV a, numV b, numV c] σ) := by
  intro d
  induction d with
  | zero =>
    intro m op σ h1 ho hm u hk hinv
    obtain ⟨m, rfl⟩ : ∃ m', m = m' + 1 := ⟨m - 1, by omega⟩
    refine .le f20_l6_e ?_
    unfold f20_l6_t
    rw [decide_eq_false (by omega), cF]
    refine .le f20_j8_e ?_
    unfold f20_j8_t
    refine .ret u ?_
    rw [hv, parseV_none]
    · rfl
    · intro x hx ht
      have := hinv x hx ht; have := hx.2.1; omega
  | succ d ih =>
    intro m op σ h1 ho hm u hk hinv
    obtain ⟨m, rfl⟩ : ∃ m', m = m' + 1 := ⟨m - 1, by omega⟩
    have next : (∀ x, May x → textS x = s → x.op ≠ op) → ∀ σ1, Up σ σ1 → Kn σ1 → Gives σ0 v (f20_j15 (pt Tryd.prog Lb 20 n) m s i2 a b c op z1 z2 z3 z4 z5 [numV a, numV b, numV c] σ1) := by
      intro hne σ1 u1 k1
      refine .le f20_j15_e ?_
      unfold f20_j15_t
      rw [wrap64 (by omega) (by omega)]
      refine ih m (op + 1) σ1 (by omega) (by omega) (by omega) (u.trans u1) k1 fun x hx ht => ?_
      have h3 := hinv x hx ht
      have h4 := hne x hx ht
      omega
    refine .le f20_l6_e ?_
    unfold f20_l6_t
    rw [decide_eq_true (by omega), cT]
    rw [partK_s agg2 (v := .int .i64 b) rfl, xInt_i, partK_s agg2 (v := .int .i64 c) rfl, xInt_i, partK_s agg2 (v := .int .i64 b) rfl, xInt_i, partK_s agg2 (v := .int .i64 c) rfl, xInt_i, partK_s agg2 (v := .int .i64 b) rfl, xInt_i]
    obtain ⟨n, rfl⟩ : ∃ n', n = n' + 5 := ⟨n - 5, by omega⟩
    have hA0 : AccI σ [⟨op, 0, 0, 0, 0⟩, ⟨op, a, 0, 0, b⟩, ⟨op, a, b, 0, c⟩, ⟨op, a, c, 0, b⟩, ⟨op, 0, a, b, c⟩, ⟨op, 0, c, a, b⟩, ⟨op, a, b, c, 0⟩] (some (σ.length, 0)) 7 5 (σ ++ [AObj.cells ([⟨op, 0, 0, 0, 0⟩, ⟨op, a, 0, 0, b⟩, ⟨op, a, b, 0, c⟩, ⟨op, a, c, 0, b⟩, ⟨op, 0, a, b, c⟩, ⟨op, 0, c, a, b⟩, ⟨op, a, b, c, 0⟩].flatMap insC) (.rw (some 23))]) :=
      ⟨σ.length, some 23, rfl, rfl, rfl, Nat.le_refl _, by simp⟩
    refine growB (N := 7) (.inl rfl) hA0 (.app _ _) hk (by simp) rfl fun a1 σ1 u1 _ hA1 => ?_
    refine growB (i := 0 + 1) (N := 9) (.inr (.inl rfl)) hA1 u1 hk (by simp) rfl fun a2 σ2 u2 _ hA2 => ?_
    refine growB (i := 0 + 1 + 1) (N := 11) (.inr (.inr (.inl rfl))) hA2 u2 hk (by simp) rfl fun a3 σ3 u3 _ hA3 => ?_
    refine growB (i := 0 + 1 + 1 + 1) (N := 13) (.inr (.inr (.inr rfl))) hA3 u3 hk (by simp) rfl fun a4 σ4 u4 k4 hA4 => ?_
    refine .le f20_l9_e ?_
    unfold f20_l9_t
    rw [decide_eq_false (by decide), cF]
    refine .le f20_j11_e ?_
    unfold f20_j11_t
    obtain ⟨bk, t, rfl, q2, q3, q4, q5⟩ := hA4
    refine candB (C := candsR op a b c) (by omega) u (by simp [candsR]) rfl hv next 15 _ 0 σ4 rfl (by omega) u4 k4 ⟨bk, t, rfl, rfl, rfl, q4, q5⟩ ?_
    intro x hx ht hop
    have := hR x hx ht
    rw [hop] at this
    exact this

/-! ### the numbers -/

theorem num_step2 {n m : Nat} {s t : List UInt8} {p : List (List UInt8)} {i2 z1 z2 z3 z4 z5 : Int} {a : Option (Nat × Nat)} {N : Nat} {c : Option Nat} {z i : Nat} {cs : List AV} {σ0 σb σ : St} {v : AV} (hn : 15 ≤ n) (hi : 1 ≤ i ∧ i ≤ 3) (hc : cs.length = 3) (ht : p[i]? = some t) (hu0 : Up σ0 σ) (hk : Kn σ) (hA : AccV σb AV.str p a N z σ)
    (g : ∀ σ', Up σ σ' → Kn σ' → Gives σ0 v (f20_l2 (pt Tryd.prog Lb 20 n) m s i2 a N c z ((i + 1 : Nat) : Int) z1 z2 z3 z4 z5 (cs.set (i - 1) (numV (numS t))) σ')) :
    Gives σ0 v (f20_l2 (pt Tryd.prog Lb 20 n) (m + 1) s i2 a N c z (i : Int) z1 z2 z3 z4 z5 cs σ) := by
  refine .le f20_l2_e ?_
  unfold f20_l2_t
  have hlt := (List.getElem?_eq_some_iff.1 ht).1
  rcases hA with ⟨rfl, _, _⟩ | ⟨b, w, rfl, h2, rfl, _, h5⟩
  · simp at ht
  have hcell : cellsAt σ b = some (p.map AV.str) := by unfold cellsAt; rw [h5]
  have e1 : IntKind.wrap .i64 ((i : Int) + 1) = ((i + 1 : Nat) : Int) := by rw [wrap64 (by omega) (by omega)]; omega
  have e2 : IntKind.wrap .i64 ((i : Int) - 1) = ((i - 1 : Nat) : Int) := by rw [wrap64 (by omega) (by omega)]; omega
  rw [decide_eq_true (by omega), cT, idxK_ok ⟨by omega, by omega⟩, derefK_s, szK_s, ldK_at hcell, Int.toNat_natCast, Nat.zero_add, Nat.mul_one, partK_s agg9 (v := .str t) (by rw [List.getElem?_map, ht]; rfl), xStr_s]
  refine .call (ret_numeral t) (by omega) hu0 hk fun σ1 uσ _ k1 => ?_
  rw [xInt_i, e1, e2, idxK_ok ⟨by omega, by omega⟩, Int.toNat_natCast, Nat.mul_one, lstK_ok (by simp; omega)]
  exact g σ1 uσ k1

theorem num_step1 {n m : Nat} {s t : List UInt8} {p : List (List UInt8)} {i2 z1 z2 z3 z4 z5 : Int} {a : Option (Nat × Nat)} {N : Nat} {c : Option Nat} {z : Nat} {σ0 σb σ : St} {v : AV} (hn : 15 ≤ n) (ht : p[1]? = some t) (hN : N ≤ 4) (hu0 : Up σ0 σ) (hk : Kn σ) (hA : AccV σb AV.str p a N z σ)
    (g : ∀ σ', Up σ σ' → Kn σ' → Gives σ0 v (f20_l2 (pt Tryd.prog Lb 20 n) m s i2 a N c z ((2 : Nat) : Int) z1 z2 z3 z4 z5 [numV (numS t), numV 0, numV 0] σ')) :
    Gives σ0 v (f20_l1 (pt Tryd.prog Lb 20 n) (m + 1) s i2 a N c z 1 z1 z2 z3 z4 z5 0 0 0 σ) := by
  refine .le f20_l1_e ?_
  unfold f20_l1_t
  have hlt := (List.getElem?_eq_some_iff.1 ht).1
  rcases hA with ⟨rfl, _, _⟩ | ⟨b, w, rfl, h2, rfl, _, h5⟩
  · simp at ht
  have hcell : cellsAt σ b = some (p.map AV.str) := by unfold cellsAt; rw [h5]
  rw [decide_eq_true (by omega), cT, idxK_ok ⟨by omega, by omega⟩, derefK_s, szK_s, ldK_at hcell, partK_s agg9 (v := .str t) (by rw [show 0 + ((1 : Int).toNat * 1) = 1 from rfl, List.getElem?_map, ht]; rfl), xStr_s]
  refine .call (ret_numeral t) (by omega) hu0 hk fun σ1 uσ _ k1 => ?_
  rw [xInt_i, idxK_ok (by decide), show (IntKind.wrap .i64 ((1 : Int) - 1)).toNat * 1 = 0 from rfl, lstK_ok (by simp)]
  exact g σ1 uσ k1

theorem num_end2 {n m : Nat} {s : List UInt8} {i2 z1 z2 z3 z4 z5 x y w : Int} {a : Option (Nat × Nat)} {N : Nat} {c : Option Nat} {z i : Nat} {σ0 σ : St} {v : AV} (hi : N = i)
    (g : Gives σ0 v (f20_l6 (pt Tryd.prog Lb 20 n) n s i2 x y w 1 z1 z2 z3 z4 z5 [numV x, numV y, numV w] σ)) :
    Gives σ0 v (f20_l2 (pt Tryd.prog Lb 20 n) (m + 1) s i2 a N c z (i : Int) z1 z2 z3 z4 z5 [numV x, numV y, numV w] σ) := by
  refine .le f20_l2_e ?_
  unfold f20_l2_t
  rw [decide_eq_false (by omega), cF]
  refine .le f20_j4_e ?_
  unfold f20_j4_t
  rw [partK_s agg2 (v := .int .i64 x) rfl, xInt_i, partK_s agg2 (v := .int .i64 y) rfl, xInt_i, partK_s agg2 (v := .int .i64 w) rfl, xInt_i]
  exact g

theorem ret_parseRef {s : List UInt8} (hs : s.length ≤ 1048576) : Ret 20 [.str s] 1048800 (parseV s) := .mk fun n hn σ hk => by
  refine .le f20_e ?_
  unfold f20_t
  obtain ⟨n, rfl⟩ : ∃ n', n = n' + 1 := ⟨n - 1, by omega⟩
  refine .callQ (gives_parts42 hs (by omega)) (.refl _) hk fun r σ1 hq u1 _ k1 => ?_
  obtain ⟨a, c, z, rfl, hA⟩ := hq
  rw [xSl_s]
  have hM : ∀ x, May x → textS x = s → x ∈ candsR x.op ((numsR s).getD 0 0) ((numsR s).getD 1 0) ((numsR s).getD 2 0) := by
    intro x hx ht; rw [← ht]; exact mem_cands hx
  have hcnt : ∀ x, May x → textS x = s → (splitGo outB [] s).length ≤ 4 ∧ 0 < (splitGo outB [] s).length := by
    intro x hx ht; rw [← ht]; exact parts_count hx
  unfold numsR at hM
  generalize splitGo outB [] s = p at *
  refine .ite (fun h => .ret u1 ?_) fun h => .ite (fun h' => .ret u1 ?_) fun h' => ?_
  · have h : p = [] := by simpa using h
    subst h
    rw [parseV_none]
    · rfl
    · intro x hx ht; have := (hcnt x hx ht).2; simp at this
  · have h' : (p.length : Int) > 4 := by simpa using h'
    rw [parseV_none]
    · rfl
    · intro x hx ht; have := (hcnt x hx ht).1; omega
  have h : p ≠ [] := by simpa using h
  have h' : ¬ (p.length : Int) > 4 := by simpa using h'
  obtain ⟨n, rfl⟩ : ∃ n', n = n' + 10 := ⟨n - 10, by omega⟩
  match p, h, h', hA, hM with
  | [], h, _, _, _ => exact absurd rfl h
  | [hd], _, _, hA, hM =>
    refine .le f20_l1_e ?_
    unfold f20_l1_t
    rw [decide_eq_false (by simp), cF]
    refine .le f20_j3_e ?_
    unfold f20_j3_t
    exact opsA (by omega) ⟨rfl, rfl⟩ rfl hM 87 _ 1 σ1 (by decide) (by decide) (by omega) u1 k1 fun x hx _ => hx.1
  | [hd, t1], _, _, hA, hM =>
    refine num_step1 (by omega) rfl (by simp) u1 k1 hA fun σ2 u2 k2 => num_end2 rfl ?_
    exact opsB (by omega) rfl hM 87 _ 1 σ2 (by decide) (by decide) (by omega) (u1.trans u2) k2 fun x hx _ => hx.1
  | [hd, t1, t2], _, _, hA, hM =>
    refine num_step1 (by omega) rfl (by simp) u1 k1 hA fun σ2 u2 k2 => num_step2 (p := [hd, t1, t2]) (by omega) (by decide) rfl rfl (u1.trans u2) k2 (hA.up u2) fun σ3 u3 k3 => num_end2 rfl ?_
    exact opsB (by omega) rfl hM 87 _ 1 σ3 (by decide) (by decide) (by omega) (u1.trans (u2.trans u3)) k3 fun x hx _ => hx.1
  | [hd, t1, t2, t3], _, _, hA, hM =>
    refine num_step1 (by omega) rfl (by simp) u1 k1 hA fun σ2 u2 k2 => num_step2 (p := [hd, t1, t2, t3]) (by omega) (by decide) rfl rfl (u1.trans u2) k2 (hA.up u2) fun σ3 u3 k3 => num_step2 (p := [hd, t1, t2, t3]) (by omega) (by decide) rfl rfl (u1.trans (u2.trans u3)) k3 ((hA.up u2).up u3) fun σ4 u4 k4 => num_end2 rfl ?_
    exact opsB (by omega) rfl hM 87 _ 1 σ4 (by decide) (by decide) (by omega) (u1.trans (u2.trans (u3.trans u4))) k4 fun x hx _ => hx.1
  | _ :: _ :: _ :: _ :: _ :: _, _, h', _, _ => exact absurd (by simp; omega) h'

end Go.Proofs.Inst

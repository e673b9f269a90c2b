/- The program's reading of a text. -/
import Derived.Test.YtidammkjfdonaaaDoorGuess2
namespace Go.Proofs.Inst
open Go.AM Go.Proofs Go.Lib

theorem ret_cut {s : List UInt8} (hs : s.length ≤ 1048576) : Ret 36 [.str s, .str [32]] 1 (.tuple [.str (cut s [32]).1, .str (cut s [32]).2.1, .bool (cut s [32]).2.2]) :=
  .lib0 fun σ hk => if_pos ⟨hk, by omega⟩
theorem ret_prefix (s p : List UInt8) : Ret 40 [.str s, .str p] 1 (.tuple [.str (trimPrefix s p), .bool (hasPrefix s p)]) := .lib0 fun _ _ => rfl

theorem cut_len (s : List UInt8) : (cut s [32]).2.1.length ≤ s.length := by
  unfold cut; split <;> simp

/-- The words' numbers are gathered. -/
theorem parse_l1 {n N bw : Nat} {s nm rest : List UInt8} {i2 z1 z2 z3 z4 z5 : Int} {c10 : Option Nat} {L : List Int} {σ0 σb : St} {v : AV} (hn : 2 ≤ n) (hu0 : Up σ0 σb) (hkb : Kn σb) (hN : N = (wordsOf rest).length) (hw : cellsAt σb bw = some ((wordsOf rest).map .str)) (hs : s.length ≤ 1048576) (hr : rest.length ≤ s.length)
    (fin : ∀ a k c z σ, Up σb σ → Kn σ → AccV σb numV L a k z σ → Gives σ0 v (f19_j2 (pt Tryd.prog Lb 19 n) s i2 nm a k c z z1 z2 z3 z4 z5 σ)) : ∀ (d m i : Nat) (acc : List Int) (a : Option (Nat × Nat)) (k : Nat) (c : Option Nat) (z : Nat) (σ : St),
    i + d = (wordsOf rest).length → d < m → acc.length ≤ i → Up σb σ → Kn σ → AccV σb numV acc a k z σ → acc ++ ((wordsOf rest).drop i).filterMap valS = L →
    Gives σ0 v (f19_l1 (pt Tryd.prog Lb 19 n) m s i2 nm a k c z (some (bw, 0)) N c10 1 (N : Int) (i : Int) z1 z2 z3 z4 z5 σ) := by
  have hwl := wordsOf_length rest
  intro d
  induction d with
  | zero =>
    intro m i acc a k c z σ hi hm _ u hk hA hL
    obtain ⟨m, rfl⟩ : ∃ m', m = m' + 1 := ⟨m - 1, by omega⟩
    refine .le f19_l1_e ?_
    unfold f19_l1_t
    rw [decide_eq_false (by omega), cF]
    rw [List.drop_eq_nil_of_le (by omega), List.filterMap_nil, List.append_nil] at hL
    subst hL
    exact fin _ _ _ _ _ u hk hA
  | succ d ih =>
    intro m i acc a k c z σ hi hm ha u hk hA hL
    obtain ⟨m, rfl⟩ : ∃ m', m = m' + 1 := ⟨m - 1, by omega⟩
    have hlt : i < (wordsOf rest).length := by omega
    have hg : (wordsOf rest)[i]? = some (wordsOf rest)[i] := List.getElem?_eq_getElem hlt
    have hsh : (wordsOf rest)[i].length ≤ rest.length := wordsOf_short (List.getElem_mem hlt)
    rw [List.drop_eq_getElem_cons hlt] at hL
    generalize (wordsOf rest)[i] = t at *
    refine .le f19_l1_e ?_
    unfold f19_l1_t
    rw [decide_eq_true (by omega), cT, idxK_ok ⟨by omega, by omega⟩, derefK_s, szK_s, ldK_at (u.cells hw), Int.toNat_natCast, Nat.zero_add, Nat.mul_one, partK_s agg9 (v := .str t) (by rw [List.getElem?_map, hg]; rfl), xStr_s]
    obtain ⟨n, rfl⟩ : ∃ n', n = n' + 1 := ⟨n - 1, by omega⟩
    have e1 : IntKind.wrap .i64 ((i : Int) + 1) = ((i + 1 : Nat) : Int) := by rw [wrap64 (by omega) (by omega)]; omega
    refine .callQ (gives_value (s := t) (by omega) (by omega) hk) (hu0.trans u) hk fun r σ1 hq u1 u01 hk1 => ?_
    obtain ⟨x, rfl, hx⟩ := hq
    simp only [xTup_t, unC_c, xInt_i, xBool_b, nlC_n]
    rw [e1]
    cases hv : valS t with
    | none =>
      rw [List.filterMap_cons, hv] at hL
      refine .ite (fun h => by simp at h) fun _ => ?_
      exact ih m (i + 1) acc a k c z σ1 (by omega) (by omega) (by omega) (u.trans u1) hk1 (hA.up u1) hL
    | some y =>
      rw [List.filterMap_cons, hv] at hL
      have := hx y hv
      subst this
      refine .ite (fun _ => ?_) fun h => by simp at h
      obtain ⟨a', σ', u', hA', hf⟩ := app_acc (enc := numV) x 2 8 (hA.up u1) (u.trans u1) (by omega) (by omega)
      rw [show (AV.int IntKind.i64 x) = numV x from rfl, hf]
      exact ih m (i + 1) (acc ++ [x]) a' (k + 1) none 1 σ' (by omega) (by omega) (by simp; omega) u' (u'.kn hkb) hA' (by rw [List.append_assoc]; exact hL)


theorem AccV.ls {base σ : St} {l : List Int} {a : Option (Nat × Nat)} {n z : Nat} (h : AccV base numV l a n z σ) (hk : Kn σ) : ∃ bl, bl < σ.length ∧ LsV σ bl l a n z := by
  rcases h with ⟨h1, _, h3⟩ | ⟨b, t, h1, h2, h3, h4, h5⟩
  · exact ⟨0, by have := hk.len; omega, by subst h1; exact h3, .inl h1⟩
  · refine ⟨b, (List.getElem?_eq_some_iff.1 h5).1, h2, .inr ⟨h1, h3, ?_⟩⟩
    unfold cellsAt; rw [h5]

theorem prefix_self (a b : List UInt8) : hasPrefix (a ++ b) a = true ∧ trimPrefix (a ++ b) a = b := by
  have h : hasPrefix (a ++ b) a = true := by
    unfold hasPrefix
    rw [List.isPrefixOf_iff_prefix]; exact List.prefix_append a b
  exact ⟨h, by unfold trimPrefix; rw [if_pos h]; simp⟩

/-- What the head of a text says at its opcode. -/
theorem head_at {x : Ins} {s : List UInt8} (h : May x) (e : textS x = s) : (cut s [32]).1 = nameAt x.op ++ suf (sufOf x.op x.imm) ∧ 0 ≤ sufOf x.op x.imm ∧ sufOf x.op x.imm < 4 := by
  subst e
  rw [(cut_text h).1]
  unfold headS sufOf
  split
  · rename_i h9
    exact ⟨rfl, imm_suf h h9⟩
  · exact ⟨by simp [suf, sufs], by omega, by omega⟩

theorem parse_j7 {n m0 m1 : Nat} {s end_ nm : List UInt8} {s12 s13 s14 s15 : List UInt8} {i2 z1 z2 z3 z4 z5 op j : Int} {a : Option (Nat × Nat)} {k : Nat} {c : Option Nat} {z b : Nat} {σ σ0 : St} {x : Ins} {w : Option TypeId} {v : AV} (hn : 8 ≤ n) (u : Up σ0 σ) (hk : Kn σ) (hx : σ[b]? = some (.cells (insC x) (.rw w)))
    (hit : May x → textS x = s → v = .tuple [insV x, .int .i64 0])
    (miss : (May x → textS x ≠ s) → ∀ σ1, Up σ0 σ1 → Up σ σ1 → Kn σ1 → Gives σ0 v (f19_l5 (pt Tryd.prog Lb 19 n) m0 m1 s i2 nm a k c z op end_ s12 s13 s14 s15 (IntKind.wrap .i64 (j + 1)) z1 z2 z3 z4 z5 σ1)) :
    Gives σ0 v (f19_j7 (pt Tryd.prog Lb 19 n) m0 m1 s i2 nm a k c z op end_ b 0 s12 s13 s14 s15 j z1 z2 z3 z4 z5 σ) := by
  have ld : ∀ (σ1 : St), Up σ σ1 → ∀ f : AV → Out, ldK Tryd.prog 23 σ1 b 0 f = f (.agg (insC x)) := by
    intro σ1 u1 f
    have : cellsAt σ1 b = some (insC x) := by unfold cellsAt; rw [u1.get hx]
    rw [ldK_at this]
    exact partK_all agg23 sz23 rfl
  refine .le f19_j7_e ?_
  unfold f19_j7_t
  rw [ld σ (.refl _)]
  simp only [insC, xAgg_a, unC_c, xInt_i, nlC_n]
  refine .call (ret_text x) hn u hk fun σ1 uσ u1 k1 => ?_
  simp only [xTup_t, unC_c, xStr_s, xInt_i, nlC_n]
  by_cases hM : May x
  · rw [if_pos hM, if_pos hM]
    refine .ite (fun _ => .ite (fun h => ?_) fun h => miss (fun _ => by simpa using h) σ1 u1 uσ k1) fun h => by simp at h
    rw [ld σ1 uσ]
    simp only [insC, xAgg_a, unC_c, xInt_i, nlC_n]
    exact .ret u1 (hit hM (by simpa using h)).symm
  · rw [if_neg hM, if_neg hM]
    exact .ite (fun h => by simp at h) fun _ => miss (fun h => absurd h hM) σ1 u1 uσ k1

theorem sufs_at {i : Nat} (h : i < 4) {f : AV → Out} : (idxK (i : Int) 4 <| partK Tryd.prog 9 [.str [], .str [46, 114, 108], .str [46, 97, 113], .str [46, 97, 113, 114, 108]] ((i : Int).toNat * 1) f) = f (.str (suf (i : Int))) := suf_at (by omega)
theorem suf_inj {i j : Int} (hi : 0 ≤ i ∧ i < 4) (hj : 0 ≤ j ∧ j < 4) (h : suf i = suf j) : i = j := by
  have a : i = 0 ∨ i = 1 ∨ i = 2 ∨ i = 3 := by omega
  have b : j = 0 ∨ j = 1 ∨ j = 2 ∨ j = 3 := by omega
  rcases a with rfl | rfl | rfl | rfl <;> rcases b with rfl | rfl | rfl | rfl <;> first | rfl | exact absurd h (by decide)

/-- The ends of an opcode's name, one behind the other. -/
theorem parse_l5 {n m0 : Nat} {s nm end_ : List UInt8} {i2 z1 z2 z3 z4 z5 op : Int} {L : List Int} {a : Option (Nat × Nat)} {k : Nat} {c : Option Nat} {z : Nat} {σ0 σc : St} {v : AV} (hn : 30 ≤ n) (h1 : 1 ≤ op) (h2 : op ≤ 87) (hu0 : Up σ0 σc) (_ : Kn σc) (hA : ∃ bl, bl < σc.length ∧ LsV σc bl L a k z)
    (hL : L = numsOf s) (hLl : L.length ≤ 2000000) (hv : v = parseV s) (hend : ∀ x, May x → textS x = s → x.op = op → end_ = suf (sufOf x.op x.imm))
    (next : (∀ x, May x → textS x = s → x.op ≠ op) → ∀ σ, Up σc σ → Kn σ → Gives σ0 v (f19_j4 (pt Tryd.prog Lb 19 n) m0 s i2 nm a k c z op z1 z2 z3 z4 z5 σ)) : ∀ (d m j : Nat) (σ : St), j + d = 4 → d < m → Up σc σ → Kn σ →
    (∀ x, May x → textS x = s → x.op = op → (j : Int) ≤ sufOf x.op x.imm) →
    Gives σ0 v (f19_l5 (pt Tryd.prog Lb 19 n) m0 m s i2 nm a k c z op end_ [] [46, 114, 108] [46, 97, 113] [46, 97, 113, 114, 108] (j : Int) z1 z2 z3 z4 z5 σ) := by
  intro d
  induction d with
  | zero =>
    intro m j σ hj hm u hk hinv
    obtain ⟨m, rfl⟩ : ∃ m', m = m' + 1 := ⟨m - 1, by omega⟩
    refine .le f19_l5_e ?_
    unfold f19_l5_t
    rw [decide_eq_false (by omega), cF]
    refine next ?_ σ u hk
    intro x hx ht ho
    have := hinv x hx ht ho
    have := head_at hx ht
    omega
  | succ d ih =>
    intro m j σ hj hm u hk hinv
    obtain ⟨m, rfl⟩ : ∃ m', m = m' + 1 := ⟨m - 1, by omega⟩
    have hwr : IntKind.wrap .i64 ((j : Int) + 1) = ((j + 1 : Nat) : Int) := by rw [wrap64 (by omega) (by omega)]; omega
    have on : (∀ x, May x → textS x = s → x.op = op → sufOf x.op x.imm ≠ (j : Int)) → ∀ σ1, Up σc σ1 → Kn σ1 → Gives σ0 v (f19_l5 (pt Tryd.prog Lb 19 n) m0 m s i2 nm a k c z op end_ [] [46, 114, 108] [46, 97, 113] [46, 97, 113, 114, 108] (IntKind.wrap .i64 ((j : Int) + 1)) z1 z2 z3 z4 z5 σ1) := by
      intro hne σ1 u1 k1
      rw [hwr]
      refine ih m (j + 1) σ1 (by omega) (by omega) u1 k1 fun x hx ht ho => ?_
      have h3 := hinv x hx ht ho
      have h4 := hne x hx ht ho
      omega
    refine .le f19_l5_e ?_
    unfold f19_l5_t
    rw [decide_eq_true (by omega), cT, sufs_at (by omega), xStr_s]
    refine .ite (fun h => ?_) fun h => ?_
    · have h : end_ ≠ suf (j : Int) := by simpa using h
      refine on ?_ σ u hk
      intro x hx ht ho he
      exact h (by rw [hend x hx ht ho, he])
    · have hst : ∀ f : St → Out, stK (σ ++ [AObj.cells [.int .i64 (0 : Int), .int .i64 (0 : Int), .int .i64 (0 : Int), .int .i64 (0 : Int), .int .i64 (0 : Int)] (.rw none)]) σ.length 0 [.int .i64 op, .int .i64 (0 : Int), .int .i64 (0 : Int), .int .i64 (0 : Int), .int .i64 (0 : Int)] f = f (σ ++ [.cells (c5 op) (.rw none)]) := by
        intro f
        unfold stK
        simp only [List.getElem?_append_right (Nat.le_refl _), Nat.sub_self, List.getElem?_cons_zero]
        rw [if_pos (by simp)]
        congr 1
        rw [List.set_append_right _ _ (Nat.le_refl _), Nat.sub_self]
        rfl
      rw [hst]
      have hk1 := hk.app [.cells (c5 op) (.rw none)]
      refine .call ret_rows (by omega) (hu0.trans (u.more _)) hk1 fun σ1 uσ1 _ k1 => ?_
      rw [xAgg_a, rows_at (by omega) h2, xAgg_a]
      simp only [rowV, unC_c, xInt_i, nlC_n]
      have hx1 : σ1[σ.length]? = some (.cells (c5 op) (.rw none)) := uσ1.get (by simp)
      have uc1 : Up σ σ1 := (Up.app _ _).trans uσ1
      obtain ⟨bl, hbl, hLs⟩ := hA
      have hcl := u.len
      obtain ⟨n, rfl⟩ : ∃ n', n = n' + 1 := ⟨n - 1, by omega⟩
      have hg := gives_guess (n := n) (b := σ.length) (bl := bl) (σ0 := σ) (σ := σ1) (op := op) (l := L) (a := a) (N := k) (c := c) (z := z) (w := none) h1 h2 hLl (by omega) uc1 (Nat.le_refl _) ⟨by omega, by omega⟩ hx1 (hLs.up (u.trans uc1))
      obtain ⟨r, σ2, hc2, u2, hr, hx2⟩ := hg
      rw [callT_ok hc2]
      have k2 := u2.kn hk
      -- the candidate, in its block
      have go : ∀ σ3, Up σ σ3 → σ3[σ.length]? = some (.cells (insC (candS (rowAt op).form op (j : Int) L)) (.rw none)) → Gives σ0 v (f19_j7 (pt Tryd.prog Lb 19 (n + 1)) m0 m s i2 nm a k c z op end_ σ.length 0 [] [46, 114, 108] [46, 97, 113] [46, 97, 113, 114, 108] (j : Int) z1 z2 z3 z4 z5 σ3) := by
        intro σ3 u3 hx3
        refine parse_j7 (by omega) (hu0.trans (u.trans u3)) (u3.kn hk) hx3 (fun hM ht => ?_) fun hne σ4 _ u4 k4 => on ?_ σ4 (u.trans (u3.trans u4)) k4
        · rw [hv, parseV_some hM ht]
        · intro x hx ht ho he
          have hc := cand_text hx
          rw [ht, ← hL, ho] at hc
          rw [ho] at he
          rw [he] at hc
          rw [hc] at hne
          exact hne hx ht
      refine .ite (fun h9 => ?_) fun h9 => ?_
      · have h9 : (rowAt op).form = 9 := by simpa using h9
        have hT : Tgt σ2 (σ.length, 4) := ⟨_, _, hx2, by simp [insC]⟩
        rw [stK_put hT]
        refine go _ (put1_up u2 (Nat.le_refl _)) ?_
        rw [put1_at hx2]
        simp [candS, h9, insC]
      · have h9 : (rowAt op).form ≠ 9 := by simpa using h9
        refine go σ2 u2 ?_
        rw [hx2]
        simp [candS, h9]

theorem parse_l3 {n : Nat} {s : List UInt8} {i2 z1 z2 z3 z4 z5 : Int} {L : List Int} {a : Option (Nat × Nat)} {k : Nat} {c : Option Nat} {z : Nat} {σ0 σc : St} {v : AV} (hn : 30 ≤ n) (hu0 : Up σ0 σc) (hkc : Kn σc) (hA : ∃ bl, bl < σc.length ∧ LsV σc bl L a k z)
    (hL : L = numsOf s) (hLl : L.length ≤ 2000000) (hv : v = parseV s) : ∀ (d m : Nat) (op : Int) (σ : St), 1 ≤ op → op + d = 88 → d < m → Up σc σ → Kn σ → (∀ x, May x → textS x = s → op ≤ x.op) →
    Gives σ0 v (f19_l3 (pt Tryd.prog Lb 19 n) m s i2 (cut s [32]).1 a k c z op z1 z2 z3 z4 z5 σ) := by
  intro d
  induction d with
  | zero =>
    intro m op σ h1 ho hm u hk hinv
    obtain ⟨m, rfl⟩ : ∃ m', m = m' + 1 := ⟨m - 1, by omega⟩
    refine .le f19_l3_e ?_
    unfold f19_l3_t
    rw [decide_eq_false (by omega), cF]
    refine .le f19_j6_e ?_
    unfold f19_j6_t
    refine .ret (hu0.trans u) ?_
    rw [hv, parseV_none]
    · rfl
    · intro x hx ht
      have := hinv x hx ht; have := hx.2.1; omega
  | succ d ih =>
    intro m op σ h1 ho hm u hk hinv
    obtain ⟨m, rfl⟩ : ∃ m', m = m' + 1 := ⟨m - 1, by omega⟩
    have next : (∀ x, May x → textS x = s → x.op ≠ op) → ∀ σ1, Up σc σ1 → Kn σ1 → Gives σ0 v (f19_j4 (pt Tryd.prog Lb 19 n) m s i2 (cut s [32]).1 a k c z op z1 z2 z3 z4 z5 σ1) := by
      intro hne σ1 u1 k1
      refine .le f19_j4_e ?_
      unfold f19_j4_t
      rw [wrap64 (by omega) (by omega)]
      refine ih m (op + 1) σ1 (by omega) (by omega) (by omega) u1 k1 fun x hx ht => ?_
      have h3 := hinv x hx ht
      have h4 := hne x hx ht
      omega
    refine .le f19_l3_e ?_
    unfold f19_l3_t
    rw [decide_eq_true (by omega), cT]
    refine .call (ret_name op) (by omega) (hu0.trans u) hk fun σ1 uσ1 _ k1 => ?_
    have en : nameS op = nameAt op := if_pos ⟨h1, by omega⟩
    rw [xStr_s, en]
    refine .call (ret_prefix _ _) (by omega) (hu0.trans (u.trans uσ1)) k1 fun σ2 uσ2 _ k2 => ?_
    simp only [xTup_t, unC_c, xStr_s, xBool_b, nlC_n]
    have u2 : Up σc σ2 := u.trans (uσ1.trans uσ2)
    refine .ite (fun h => ?_) fun h => ?_
    · refine next ?_ σ2 u2 k2
      intro x hx ht hop
      have := (head_at hx ht).1
      rw [this, hop, (prefix_self _ _).1] at h
      simp at h
    · refine parse_l5 hn h1 (by omega) hu0 hkc hA hL hLl hv ?_ next 4 n 0 σ2 (by omega) (by omega) u2 k2 ?_
      · intro x hx ht hop
        rw [(head_at hx ht).1, ← hop, (prefix_self _ _).2]
      · intro x hx ht hop
        have := (head_at hx ht).2; omega

theorem numsOf_len (s : List UInt8) : (numsOf s).length ≤ s.length + 1 := by
  unfold numsOf
  have h1 := List.length_filterMap_le valS (wordsOf (cut s [32]).2.1)
  have h2 := wordsOf_length (cut s [32]).2.1
  have h3 := cut_len s
  omega

theorem ret_parse {s : List UInt8} (hs : s.length ≤ 1048576) : Ret 19 [.str s] 1048800 (parseV s) := .mk fun n hn σ hk => by
  refine .le f19_e ?_
  unfold f19_t
  refine .call (ret_cut hs) (by omega) (.refl _) hk fun σ1 _ u1 k1 => ?_
  simp only [xTup_t, unC_c, xStr_s, xBool_b, nlC_n]
  have hcl := cut_len s
  obtain ⟨n, rfl⟩ : ∃ n', n = n' + 1 := ⟨n - 1, by omega⟩
  have hff : Lb 37 [.str (cut s [32]).2.1, .func (.func 38) [] []] σ1 = some (.ret (.slice (some (σ1.length, 0)) (wordsOf (cut s [32]).2.1).length (some (wordsOf (cut s [32]).2.1).length) 1), σ1 ++ [.cells ((wordsOf (cut s [32]).2.1).map .str) .ro]) := if_pos (by omega)
  rw [callT_ok (callP_lib hff), xSl_s]
  have hwl := wordsOf_length (cut s [32]).2.1
  refine parse_l1 (L := numsOf s) (rest := (cut s [32]).2.1) (σb := σ1 ++ [.cells ((wordsOf (cut s [32]).2.1).map .str) .ro]) (by omega) (u1.more _) (k1.app _) rfl cellsAt_new hs hcl ?_ (wordsOf (cut s [32]).2.1).length (n + 1) 0 [] none 0 (some 0) 0 _ (by omega) (by omega) (by simp) (.refl _) (k1.app _) .nil rfl
  intro a k c z σ2 u2 k2 hA
  refine .le f19_j2_e ?_
  unfold f19_j2_t
  exact parse_l3 (by omega) ((u1.more _).trans u2) k2 (hA.ls k2) rfl (by have := numsOf_len s; omega) rfl 87 (n + 1) 1 σ2 (by decide) (by decide) (by omega) (.refl _) k2 fun x hx _ => hx.1

end Go.Proofs.Inst

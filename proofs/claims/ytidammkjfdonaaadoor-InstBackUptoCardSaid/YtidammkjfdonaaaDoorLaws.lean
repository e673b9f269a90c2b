/- The seven laws, as the machine answers them. -/
import Derived.Test.YtidammkjfdonaaaDoorParseRef
import Derived.Test.YtidammkjfdonaaaDoorT6
namespace Go.Proofs.Inst
open Go.AM Go.Proofs Go.Lib

/-! ### the examples -/

theorem dig1 {n : Nat} (h : n < 10) : itoa (n : Int) = [UInt8.ofNat (48 + n)] := by
  unfold itoa
  rw [if_neg (by omega), Int.toNat_natCast, decDigits_one h]

theorem text_amo : textS ⟨69, 5, 6, 7, 3⟩ = [97, 109, 111, 97, 100, 100, 46, 119, 46, 97, 113, 114, 108, 32, 120, 53, 44, 32, 120, 55, 44, 32, 40, 120, 54, 41] := by
  have e : textS ⟨69, 5, 6, 7, 3⟩ = nameAt 69 ++ suf 3 ++ [32] ++ join [reg 5, reg 7, [40] ++ reg 6 ++ [41]] [44, 32] := rfl
  have e5 : reg 5 = [120, 53] := by unfold reg; rw [show (5 : Int) = ((5 : Nat) : Int) from rfl, dig1 (by decide)]; rfl
  have e6 : reg 6 = [120, 54] := by unfold reg; rw [show (6 : Int) = ((6 : Nat) : Int) from rfl, dig1 (by decide)]; rfl
  have e7 : reg 7 = [120, 55] := by unfold reg; rw [show (7 : Int) = ((7 : Nat) : Int) from rfl, dig1 (by decide)]; rfl
  rw [e, e5, e6, e7]
  rfl
theorem text_sd : textS ⟨21, 0, 2, 1, 16⟩ = [115, 100, 32, 120, 49, 44, 32, 49, 54, 40, 120, 50, 41] := by
  have e : textS ⟨21, 0, 2, 1, 16⟩ = nameAt 21 ++ [32] ++ join [reg 1, itoa 16 ++ [40] ++ reg 2 ++ [41]] [44, 32] := rfl
  have e1 : reg 1 = [120, 49] := by unfold reg; rw [show (1 : Int) = ((1 : Nat) : Int) from rfl, dig1 (by decide)]; rfl
  have e2 : reg 2 = [120, 50] := by unfold reg; rw [show (2 : Int) = ((2 : Nat) : Int) from rfl, dig1 (by decide)]; rfl
  have e16 : itoa 16 = [49, 54] := by
    unfold itoa
    rw [if_neg (by decide), show (16 : Int).toNat = 16 from rfl, decDigits_two (by decide) (by decide)]; rfl
  rw [e, e1, e2, e16]
  rfl

theorem ret_shown : Ret 10 [] 1048801 (.bool true) := .mk fun n hn σ hk => by
  refine .le f10_e ?_
  unfold f10_t
  have m1 : May ⟨22, 1, 2, 0, -5⟩ := by decide
  have m3 : May ⟨69, 5, 6, 7, 3⟩ := by decide
  have h1 := ret_encode ⟨22, 1, 2, 0, -5⟩
  rw [if_pos m1, if_pos m1, show enc ⟨22, 1, 2, 0, -5⟩ = 4289790099 by decide] at h1
  refine .call h1 (by omega) (.refl _) hk fun σ1 _ u1 k1 => ?_
  simp only [xTup_t, unC_c, xInt_i, nlC_n]
  have h2 := ret_decode (w := 4263546595) (by decide)
  rw [decodeV_some (x := ⟨5, 0, 1, 2, -4⟩) (by decide) (by decide)] at h2
  refine .call h2 (by omega) u1 k1 fun σ2 _ u2 k2 => ?_
  simp only [xTup_t, unC_c, insV, xAgg_a, xInt_i, nlC_n]
  have h3 := ret_text ⟨69, 5, 6, 7, 3⟩
  rw [if_pos m3, if_pos m3, text_amo] at h3
  refine .call h3 (by omega) u2 k2 fun σ3 _ u3 k3 => ?_
  simp only [xTup_t, unC_c, xStr_s, xInt_i, nlC_n]
  have h4 := ret_parse (s := [115, 100, 32, 120, 49, 44, 32, 49, 54, 40, 120, 50, 41]) (by decide)
  rw [parseV_some (x := ⟨21, 0, 2, 1, 16⟩) (by decide) text_sd] at h4
  refine .call h4 (by omega) u3 k3 fun σ4 _ u4 _ => ?_
  simp only [xTup_t, unC_c, insV, xAgg_a, xInt_i, nlC_n]
  exact .ret u4 (by rfl)

/-! ### InstWords, InstReads, InstNames -/

theorem ret_words (x : Ins) : Ret 3 [insV x] 1048802 (.bool true) := .mk fun n hn σ hk => by
  refine .le f3_e ?_
  unfold f3_t
  refine .call ret_shown hn (.refl _) hk fun σ1 _ u1 k1 => ?_
  rw [xBool_b]
  refine .call (ret_may x) (by omega) u1 k1 fun σ2 _ u2 k2 => ?_
  rw [xBool_b]
  refine .call (ret_mayRef x) (by omega) u2 k2 fun σ3 _ u3 k3 => ?_
  rw [xBool_b]
  refine .call (ret_encode x) (by omega) u3 k3 fun σ4 _ u4 k4 => ?_
  simp only [xTup_t, unC_c, xInt_i, nlC_n]
  refine .call (ret_encodeRef x) (by omega) u4 k4 fun σ5 _ u5 _ => ?_
  simp only [xTup_t, unC_c, xInt_i, nlC_n]
  simp only [beq_self_eq_true, cT]
  exact .ret u5

/-- Both readings are one. -/
def InsT (v : AV) : Prop := ∃ (y : Ins) (e : Int), v = .tuple [insV y, .int .i64 e]
theorem decodeV_T (w : Int) : InsT (decodeV w) := by
  unfold decodeV
  split
  · exact ⟨_, _, rfl⟩
  · exact ⟨_, _, rfl⟩
theorem parseV_T (s : List UInt8) : InsT (parseV s) := by
  unfold parseV
  split
  · exact ⟨_, _, rfl⟩
  · exact ⟨_, _, rfl⟩

theorem ret_reads {w : Int} (hw : 0 ≤ w ∧ w < 4294967296) : Ret 4 [.int .u32 w] 1048802 (.bool true) := .mk fun n hn σ hk => by
  refine .le f4_e ?_
  unfold f4_t
  refine .call ret_shown hn (.refl _) hk fun σ1 _ u1 k1 => ?_
  rw [xBool_b]
  obtain ⟨y, e, he⟩ := decodeV_T w
  have h1 := ret_decode hw; have h2 := ret_decodeRef hw
  rw [he] at h1 h2
  refine .call h1 (by omega) u1 k1 fun σ2 _ u2 k2 => ?_
  simp only [xTup_t, unC_c, insV, xAgg_a, xInt_i, nlC_n]
  refine .call h2 (by omega) u2 k2 fun σ3 _ u3 _ => ?_
  simp only [xTup_t, unC_c, insV, xAgg_a, xInt_i, nlC_n]
  simp only [beq_self_eq_true, Bool.and_self, cT]
  exact .ret u3

theorem names_apart {a b : Int} (ha : 1 ≤ a ∧ a ≤ 87) (hb : 1 ≤ b ∧ b ≤ 87) (h : nameAt a = nameAt b) : a = b := by
  have := all_ops (p := fun a => (List.range 87).all fun (k : Nat) => !(nameAt a == nameAt ((k : Int) + 1)) || decide (a = (k : Int) + 1)) (by kernel_rfl) ha.1 ha.2
  have := all_ops (p := fun b => !(nameAt a == nameAt b) || decide (a = b)) this hb.1 hb.2
  simpa [h] using this

theorem nameS_ne {a : Int} (ha : 1 ≤ a ∧ a ≤ 87) : nameS a ≠ [] := by
  unfold nameS
  rw [if_pos ha]
  have := all_ops (p := fun a => !(nameAt a).isEmpty) (by kernel_rfl) ha.1 ha.2
  intro h; rw [h] at this; simp at this

theorem ret_names (a b : Int) : Ret 7 [.int .i64 a, .int .i64 b] 1048802 (.bool true) := .mk fun n hn σ hk => by
  refine .le f7_e ?_
  unfold f7_t
  refine .call ret_shown hn (.refl _) hk fun σ1 _ u1 k1 => ?_
  rw [xBool_b]
  refine .call (ret_name a) (by omega) u1 k1 fun σ2 _ u2 k2 => ?_
  rw [xStr_s]
  refine .call (ret_name b) (by omega) u2 k2 fun σ3 _ u3 k3 => ?_
  rw [xStr_s]
  have last : ∀ σ4, Up σ σ4 → Gives σ (.bool true) (f7_j1 (pt Tryd.prog Lb 7 n) a b true (nameS a) (nameS b) σ4) := by
    intro σ4 u4
    refine .le f7_j1_e ?_
    unfold f7_j1_t
    rw [cT]
    refine .ite (fun _ => .ret u4) fun h => .ite (fun _ => .ret u4) fun h' => .ret u4 ?_
    have h : nameS a = nameS b := by simpa using h
    have h' : nameS a ≠ [] := by simpa using h'
    have ha : 1 ≤ a ∧ a ≤ 87 := Classical.byContradiction fun hn => h' (if_neg hn)
    have hb : 1 ≤ b ∧ b ≤ 87 := Classical.byContradiction fun hn => h' (h.trans (if_neg hn))
    have e1 : nameS a = nameAt a := if_pos ha
    have e2 : nameS b = nameAt b := if_pos hb
    have : a = b := names_apart ha hb (by rw [← e1, ← e2]; exact h)
    simp [this]
  have hemp : ¬ (1 ≤ a ∧ a ≤ 87) → nameS a = [] := fun h => if_neg h
  refine .ite (fun h1 => ?_) fun h1 => ?_
  · have h1 : 1 ≤ a := by simpa using h1
    by_cases h2 : a ≤ 87
    · have hne := nameS_ne ⟨h1, h2⟩
      have e1 : (nameS a == []) = false := by simpa using hne
      rw [decide_eq_true h2, e1]
      refine .ite (fun h => by simp at h) fun _ => ?_
      rw [cT]
      obtain ⟨n, rfl⟩ : ∃ n', n = n' + 1 := ⟨n - 1, by omega⟩
      rw [callT_ok call_ref, xSl_s, idxK_ok ⟨by omega, by omega⟩, derefK_s, szK_s, ldK_at cellsAt_new]
      have hcell : ∀ f : AV → Out, partK Tryd.prog 9 refV (0 + a.toNat * 5 + 0) f = f (.str (nameAt a)) := by
        intro f
        exact partK_cell (enc := refRow) (s := 5) (fun _ => rfl) agg9 (l := List.range 88) (i := a.toNat) (j := 0) (by rw [List.getElem?_range (by omega)]) rfl (by omega)
      rw [hcell, xStr_s]
      have e2 : nameS a = nameAt a := if_pos ⟨h1, h2⟩
      refine .ite (fun h => ?_) fun _ => last _ (u3.more _)
      rw [e2] at h; simp at h
    · have e1 := hemp (by omega)
      rw [decide_eq_false h2, e1]
      refine .ite (fun h => by simp at h) fun _ => ?_
      rw [cF, ← e1]
      exact last σ3 u3
  · have h1 : ¬ 1 ≤ a := by simpa using h1
    have e1 := hemp (by omega)
    rw [e1]
    refine .ite (fun h => by simp at h) fun _ => ?_
    rw [← e1]
    exact last σ3 u3


/-! ### InstTexts, InstApart, InstBack -/

theorem ret_texts {x : Ins} {s : List UInt8} (hs : s.length ≤ 1048576) : Ret 5 [insV x, .str s] 1048802 (.bool true) := .mk fun n hn σ hk => by
  refine .le f5_e ?_
  unfold f5_t
  refine .call ret_shown hn (.refl _) hk fun σ1 _ u1 k1 => ?_
  rw [xBool_b]
  refine .call (ret_text x) (by omega) u1 k1 fun σ2 _ u2 k2 => ?_
  simp only [xTup_t, unC_c, xStr_s, xInt_i, nlC_n]
  refine .call (ret_textRef x) (by omega) u2 k2 fun σ3 _ u3 k3 => ?_
  simp only [xTup_t, unC_c, xStr_s, xInt_i, nlC_n]
  obtain ⟨y, e, he⟩ := parseV_T s
  have h1 := ret_parse hs; have h2 := ret_parseRef hs
  rw [he] at h1 h2
  refine .call h1 (by omega) u3 k3 fun σ4 _ u4 k4 => ?_
  simp only [xTup_t, unC_c, insV, xAgg_a, xInt_i, nlC_n]
  refine .call h2 (by omega) u4 k4 fun σ5 _ u5 _ => ?_
  simp only [xTup_t, unC_c, insV, xAgg_a, xInt_i, nlC_n]
  simp only [beq_self_eq_true, Bool.and_self, cT]
  exact .ret u5

theorem ret_apart (x y : Ins) : Ret 8 [insV x, insV y] 1048802 (.bool true) := .mk fun n hn σ hk => by
  refine .le f8_e ?_
  unfold f8_t
  refine .call ret_shown hn (.refl _) hk fun σ1 _ u1 k1 => ?_
  rw [xBool_b]
  refine .call (ret_encode x) (by omega) u1 k1 fun σ2 _ u2 k2 => ?_
  simp only [xTup_t, unC_c, xInt_i, nlC_n]
  refine .call (ret_encode y) (by omega) u2 k2 fun σ3 _ u3 k3 => ?_
  simp only [xTup_t, unC_c, xInt_i, nlC_n]
  refine .call (ret_text x) (by omega) u3 k3 fun σ4 _ u4 k4 => ?_
  simp only [xTup_t, unC_c, xStr_s, xInt_i, nlC_n]
  refine .call (ret_text y) (by omega) u4 k4 fun σ5 _ u5 _ => ?_
  simp only [xTup_t, unC_c, xStr_s, xInt_i, nlC_n]
  simp only [beq_self_eq_true, cT]
  refine .ite (fun _ => .ret u5) fun hx => .ite (fun _ => .ret u5) fun hy => .ite (fun _ => .ret u5) fun hne => ?_
  have hx : May x := by
    apply Classical.byContradiction; intro h; rw [if_neg h] at hx; simp at hx
  have hy : May y := by
    apply Classical.byContradiction; intro h; rw [if_neg h] at hy; simp at hy
  have hne : x ≠ y := by
    rintro rfl; simp at hne
  rw [if_pos hx, if_pos hy, if_pos hx, if_pos hy, if_pos hx, if_pos hy]
  simp only [beq_self_eq_true, cT]
  refine .ite (fun _ => .ret u5 ?_) fun h => ?_
  · have : textS x ≠ textS y := fun h => hne (text_inj hx hy h)
    simpa using this
  · have : enc x = enc y := by simpa using h
    exact absurd (enc_inj hx hy this) hne

theorem back_j2 {n : Nat} {s : List UInt8} {σ σ0 : St} (hs : s.length ≤ 1048576) (hn : 1048800 ≤ n) (u : Up σ0 σ) (hk : Kn σ) : Gives σ0 (.bool true) (f6_j2 (pt Tryd.prog Lb 6 n) s true σ) := by
  refine .le f6_j2_e ?_
  unfold f6_j2_t
  have h1 := ret_parse hs
  by_cases hex : ∃ x, May x ∧ textS x = s
  · obtain ⟨x, hx, he⟩ := hex
    rw [parseV_some hx he] at h1
    refine .call h1 hn u hk fun σ1 _ u1 k1 => ?_
    simp only [xTup_t, unC_c, insV, xAgg_a, xInt_i, nlC_n]
    refine .ite (fun _ => ?_) fun h => by simp at h
    have h2 := ret_text x
    rw [if_pos hx, if_pos hx] at h2
    refine .call h2 (by omega) u1 k1 fun σ2 _ u2 _ => ?_
    simp only [xTup_t, unC_c, xStr_s, xInt_i, nlC_n]
    refine .ite (fun h => by simp at h) fun _ => .ite (fun h => by simp [he] at h) fun _ => .ret u2
  · rw [parseV_none (fun x h1 h2 => hex ⟨x, h1, h2⟩)] at h1
    refine .call h1 hn u hk fun σ1 _ u1 k1 => ?_
    simp only [xTup_t, unC_c, insV, xAgg_a, xInt_i, nlC_n]
    exact .ite (fun h => by simp at h) fun _ => .ret u1

theorem back_j1 {n : Nat} {w : Int} {s : List UInt8} {σ σ0 : St} (hw : 0 ≤ w ∧ w < 4294967296) (hs : s.length ≤ 1048576) (hn : 1048800 ≤ n) (u : Up σ0 σ) (hk : Kn σ) : Gives σ0 (.bool true) (f6_j1 (pt Tryd.prog Lb 6 n) w s true σ) := by
  refine .le f6_j1_e ?_
  unfold f6_j1_t
  have h1 := ret_decode hw
  by_cases hex : ∃ x, May x ∧ enc x = w
  · obtain ⟨x, hx, he⟩ := hex
    rw [decodeV_some hx he] at h1
    refine .call h1 (by omega) u hk fun σ1 _ u1 k1 => ?_
    simp only [xTup_t, unC_c, insV, xAgg_a, xInt_i, nlC_n]
    refine .ite (fun _ => ?_) fun h => by simp at h
    have h2 := ret_encode x
    rw [if_pos hx, if_pos hx] at h2
    refine .call h2 (by omega) u1 k1 fun σ2 _ u2 k2 => ?_
    simp only [xTup_t, unC_c, xInt_i, nlC_n]
    refine .ite (fun h => by simp at h) fun _ => .ite (fun h => by simp [he] at h) fun _ => back_j2 hs hn u2 k2
  · rw [decodeV_none (fun x h1 h2 => hex ⟨x, h1, h2⟩)] at h1
    refine .call h1 (by omega) u hk fun σ1 _ u1 k1 => ?_
    simp only [xTup_t, unC_c, insV, xAgg_a, xInt_i, nlC_n]
    exact .ite (fun h => by simp at h) fun _ => back_j2 hs hn u1 k1

theorem textS_len {x : Ins} (h : May x) : (textS x).length ≤ 1048576 := by
  obtain ⟨i1, i2, i3, i4⟩ := may_i64 h
  have a := partsS_len (rowAt x.op).form x i1 i2 i3 i4
  have b := name_len h.1 h.2.1
  have c := suf_len x.imm
  unfold textS
  split
  · omega
  · split <;> simp <;> omega

theorem ret_back {x : Ins} {w : Int} {s : List UInt8} (hw : 0 ≤ w ∧ w < 4294967296) (hs : s.length ≤ 1048576) : Ret 6 [insV x, .int .u32 w, .str s] 1048802 (.bool true) := .mk fun n hn σ hk => by
  refine .le f6_e ?_
  unfold f6_t
  refine .call ret_shown hn (.refl _) hk fun σ1 _ u1 k1 => ?_
  rw [xBool_b]
  refine .call (ret_encode x) (by omega) u1 k1 fun σ2 _ u2 k2 => ?_
  simp only [xTup_t, unC_c, xInt_i, nlC_n]
  refine .call (ret_text x) (by omega) u2 k2 fun σ3 _ u3 k3 => ?_
  simp only [xTup_t, unC_c, xStr_s, xInt_i, nlC_n]
  refine .ite (fun h => by simp at h) fun _ => ?_
  by_cases hM : May x
  · rw [if_pos hM, if_pos hM, if_pos hM]
    refine .ite (fun _ => ?_) fun h => by simp at h
    have h1 := ret_decode (enc_range hM)
    rw [decodeV_some hM rfl] at h1
    refine .call h1 (by omega) u3 k3 fun σ4 _ u4 k4 => ?_
    simp only [xTup_t, unC_c, insV, xAgg_a, xInt_i, nlC_n]
    have h2 := ret_parse (textS_len hM)
    rw [parseV_some hM rfl] at h2
    refine .call h2 (by omega) u4 k4 fun σ5 _ u5 k5 => ?_
    simp only [xTup_t, unC_c, insV, xAgg_a, xInt_i, nlC_n]
    refine .ite (fun h => by simp at h) fun _ => .ite (fun h => by simp at h) fun _ => .ite (fun h => by simp at h) fun _ => .ite (fun h => by simp at h) fun _ => back_j1 hw hs (by omega) u5 k5
  · rw [if_neg hM]
    refine .ite (fun h => by simp at h) fun _ => back_j1 hw hs (by omega) u3 k3

/-! ### InstRegisters -/

theorem xor_split (a b k : Nat) : a ^^^ b = (a % 2 ^ k ^^^ b % 2 ^ k) + 2 ^ k * (a / 2 ^ k ^^^ b / 2 ^ k) := by
  have h := Nat.div_add_mod (a ^^^ b) (2 ^ k)
  rw [Nat.xor_mod_two_pow] at h
  have h2 : (a ^^^ b) / 2 ^ k = a / 2 ^ k ^^^ b / 2 ^ k := by
    rw [← Nat.shiftRight_eq_div_pow, ← Nat.shiftRight_eq_div_pow, ← Nat.shiftRight_eq_div_pow, Nat.shiftRight_xor_distrib]
  rw [h2] at h
  omega

def xorI (a b : Int) : Int := ((a.toNat ^^^ b.toNat : Nat) : Int)
theorem xorI_split {a b : Int} (ha : 0 ≤ a) (hb : 0 ≤ b) (k : Nat) {K : Int} (hK : ((2 ^ k : Nat) : Int) = K) : xorI a b = xorI (a % K) (b % K) + K * xorI (a / K) (b / K) := by
  unfold xorI
  rw [xor_split a.toNat b.toNat k, Int.natCast_add, Int.natCast_mul, hK]
  have hKp : 0 ≤ K := by rw [← hK]; exact Int.natCast_nonneg _
  have hda := Int.ediv_nonneg ha hKp
  have hdb := Int.ediv_nonneg hb hKp
  have e1 : a.toNat % 2 ^ k = (a % K).toNat := by
    have : ((a.toNat % 2 ^ k : Nat) : Int) = a % K := by rw [Int.natCast_emod, hK, Int.toNat_of_nonneg ha]
    omega
  have e2 : b.toNat % 2 ^ k = (b % K).toNat := by
    have : ((b.toNat % 2 ^ k : Nat) : Int) = b % K := by rw [Int.natCast_emod, hK, Int.toNat_of_nonneg hb]
    omega
  have e3 : a.toNat / 2 ^ k = (a / K).toNat := by
    have : ((a.toNat / 2 ^ k : Nat) : Int) = a / K := by rw [Int.natCast_ediv, hK, Int.toNat_of_nonneg ha]
    omega
  have e4 : b.toNat / 2 ^ k = (b / K).toNat := by
    have : ((b.toNat / 2 ^ k : Nat) : Int) = b / K := by rw [Int.natCast_ediv, hK, Int.toNat_of_nonneg hb]
    omega
  rw [e1, e2, e3, e4]
theorem xorI_self (a : Int) : xorI a a = 0 := by unfold xorI; rw [Nat.xor_self]; rfl
theorem xorI_lt {a b : Int} (ha : 0 ≤ a ∧ a < 32) (hb : 0 ≤ b ∧ b < 32) : 0 ≤ xorI a b ∧ xorI a b < 32 := by
  have : a.toNat ^^^ b.toNat < 2 ^ 5 := Nat.xor_lt_two_pow (by omega) (by omega)
  unfold xorI
  omega

theorem xor32 {a b : Int} (ha : 0 ≤ a ∧ a < 4294967296) (hb : 0 ≤ b ∧ b < 4294967296) : IntKind.wrap .u32 (((BitVec.ofInt 32 a ^^^ BitVec.ofInt 32 b).toNat : Nat) : Int) = xorI a b := by
  have e1 : (2 : Int) ^ 32 = 4294967296 := rfl
  rw [BitVec.toNat_xor, ofInt_toNat ha.1 (by rw [e1]; exact ha.2), ofInt_toNat hb.1 (by rw [e1]; exact hb.2)]
  have : a.toNat ^^^ b.toNat < 2 ^ 32 := Nat.xor_lt_two_pow (by omega) (by omega)
  rw [wrap32 (by omega) (by omega)]; rfl
theorem xor64 {a b : Int} (ha : 0 ≤ a ∧ a < 32) (hb : 0 ≤ b ∧ b < 32) : IntKind.wrap .u32 (IntKind.wrap .i64 (((BitVec.ofInt 64 a ^^^ BitVec.ofInt 64 b).toNat : Nat) : Int)) = xorI a b := by
  have e1 : (2 : Int) ^ 64 = 18446744073709551616 := rfl
  rw [BitVec.toNat_xor, ofInt_toNat ha.1 (by rw [e1]; omega), ofInt_toNat hb.1 (by rw [e1]; omega)]
  have h := xorI_lt ha hb
  show IntKind.wrap .u32 (IntKind.wrap .i64 (xorI a b)) = _
  rw [wrap64 (by omega) (by omega), wrap32 (by omega) (by omega)]

set_option maxHeartbeats 2000000 in
/-- The bits of two words that have the same opcode and number: they differ in their registers alone. -/
theorem enc_regs {x y : Ins} (hx : May x) (hy : May y) (ho : x.op = y.op) (hi : x.imm = y.imm) :
    enc x % 128 = enc y % 128 ∧ enc x / 4096 % 8 = enc y / 4096 % 8 ∧ enc x / 33554432 = enc y / 33554432 ∧
    ((enc x / 128 % 32 = x.rd ∧ enc y / 128 % 32 = y.rd) ∨ (x.rd = y.rd ∧ enc x / 128 % 32 = enc y / 128 % 32)) ∧
    ((enc x / 32768 % 32 = x.rs1 ∧ enc y / 32768 % 32 = y.rs1) ∨ (x.rs1 = y.rs1 ∧ enc x / 32768 % 32 = enc y / 32768 % 32)) ∧
    ((enc x / 1048576 % 32 = x.rs2 ∧ enc y / 1048576 % 32 = y.rs2) ∨ (x.rs2 = y.rs2 ∧ enc x / 1048576 % 32 = enc y / 1048576 % 32)) := by
  obtain ⟨h1, h2, h3, h4, h5, h⟩ := hx
  obtain ⟨g1, g2, g3, g4, g5, g⟩ := hy
  have hr := rowOk h1 h2
  have q1 := hr.code0; have q2 := hr.code; have q3 := hr.f3; have q4 := hr.f7; have q5 := hr.f76; have q6 := hr.f77; have q7 := hr.f79
  unfold enc
  rw [← ho] at g ⊢
  generalize rowAt x.op = r at *
  unfold encR
  rw [← hi]
  obtain ⟨A1, p1, b1, _⟩ := pieces1 x.imm
  obtain ⟨A2, B2, C2, D2, p2, p2', p2'', p2''', b2, b2', b2'', b2''', _⟩ := pieces2 x.imm
  obtain ⟨A3, p3, b3, _⟩ := pieces3 x.imm
  obtain ⟨A4, B4, C4, D4, p4, p4', p4'', p4''', b4, b4', b4'', b4''', _⟩ := pieces4 x.imm
  obtain ⟨A5, B5, p5, p5', b5, b5', _⟩ := pieces5 x.imm
  have hd : D4 = C2 := p4'''.symm.trans p2''
  subst hd
  simp only [p1, p2, p2', p2'', p2''', p3, p4, p4', p4'', p5, p5']
  clear p1 p2 p2' p2'' p2''' p3 p4 p4' p4'' p4''' p5 p5' hr
  unfold FormOk at g
  rcases h with h | h | h | h | h | h | h | h | h | h <;> simp only [h.1, Int.reduceEq, false_and, false_or, or_false, or_true, or_self, true_and, ne_eq, not_false_eq_true, forall_const, not_true_eq_false, if_true, if_false] at g q2 q5 q6 q7 ⊢
  · exact ⟨by omega, by omega, by omega, .inl ⟨by omega, by omega⟩, .inr ⟨by omega, by omega⟩, .inr ⟨by omega, by omega⟩⟩
  · exact ⟨by omega, by omega, by omega, .inl ⟨by omega, by omega⟩, .inr ⟨by omega, by omega⟩, .inr ⟨by omega, by omega⟩⟩
  · exact ⟨by omega, by omega, by omega, .inl ⟨by omega, by omega⟩, .inl ⟨by omega, by omega⟩, .inr ⟨by omega, by omega⟩⟩
  · exact ⟨by omega, by omega, by omega, .inr ⟨by omega, by omega⟩, .inl ⟨by omega, by omega⟩, .inl ⟨by omega, by omega⟩⟩
  · exact ⟨by omega, by omega, by omega, .inr ⟨by omega, by omega⟩, .inl ⟨by omega, by omega⟩, .inl ⟨by omega, by omega⟩⟩
  · exact ⟨by omega, by omega, by omega, .inl ⟨by omega, by omega⟩, .inl ⟨by omega, by omega⟩, .inr ⟨by omega, by omega⟩⟩
  · exact ⟨by omega, by omega, by omega, .inl ⟨by omega, by omega⟩, .inl ⟨by omega, by omega⟩, .inr ⟨by omega, by omega⟩⟩
  · exact ⟨by omega, by omega, by omega, .inl ⟨by omega, by omega⟩, .inl ⟨by omega, by omega⟩, .inl ⟨by omega, by omega⟩⟩
  · exact ⟨by omega, by omega, by omega, .inl ⟨by omega, by omega⟩, .inl ⟨by omega, by omega⟩, .inl ⟨by omega, by omega⟩⟩
  · exact ⟨.inr ⟨by omega, trivial⟩, .inr ⟨by omega, trivial⟩, .inr ⟨by omega, trivial⟩⟩

theorem xor_words {x y : Ins} (hx : May x) (hy : May y) (ho : x.op = y.op) (hi : x.imm = y.imm) : xorI (enc x) (enc y) = xorI x.rd y.rd * 128 + xorI x.rs1 y.rs1 * 32768 + xorI x.rs2 y.rs2 * 1048576 := by
  have hrx := enc_range hx; have hry := enc_range hy
  obtain ⟨r0, r3, r6, r1, r2, r4⟩ := enc_regs hx hy ho hi
  generalize enc x = a at *
  generalize enc y = b at *
  have d1 (v : Int) : v / 128 / 32 = v / 4096 := by omega
  have d2 (v : Int) : v / 4096 / 8 = v / 32768 := by omega
  have d3 (v : Int) : v / 32768 / 32 = v / 1048576 := by omega
  have d4 (v : Int) : v / 1048576 / 32 = v / 33554432 := by omega
  rw [xorI_split hrx.1 hry.1 7 (K := 128) rfl, r0, xorI_self, xorI_split (a := a / 128) (b := b / 128) (by omega) (by omega) 5 (K := 32) rfl, d1, d1, xorI_split (a := a / 4096) (b := b / 4096) (by omega) (by omega) 3 (K := 8) rfl, r3, xorI_self, d2, d2,
    xorI_split (a := a / 32768) (b := b / 32768) (by omega) (by omega) 5 (K := 32) rfl, d3, d3, xorI_split (a := a / 1048576) (b := b / 1048576) (by omega) (by omega) 5 (K := 32) rfl, d4, d4, r6, xorI_self]
  have e1 : xorI (a / 128 % 32) (b / 128 % 32) = xorI x.rd y.rd := by
    rcases r1 with ⟨h1, h2⟩ | ⟨h1, h2⟩
    · rw [h1, h2]
    · rw [h1, h2, xorI_self, xorI_self]
  have e2 : xorI (a / 32768 % 32) (b / 32768 % 32) = xorI x.rs1 y.rs1 := by
    rcases r2 with ⟨h1, h2⟩ | ⟨h1, h2⟩
    · rw [h1, h2]
    · rw [h1, h2, xorI_self, xorI_self]
  have e3 : xorI (a / 1048576 % 32) (b / 1048576 % 32) = xorI x.rs2 y.rs2 := by
    rcases r4 with ⟨h1, h2⟩ | ⟨h1, h2⟩
    · rw [h1, h2]
    · rw [h1, h2, xorI_self, xorI_self]
  rw [e1, e2, e3]
  omega

theorem ret_registers (x : Ins) (rd rs1 rs2 : Int) : Ret 9 [.agg [.int .i64 x.op, .int .i64 x.rd, .int .i64 x.rs1, .int .i64 x.rs2, .int .i64 x.imm, .int .i64 rd, .int .i64 rs1, .int .i64 rs2]] 1048802 (.bool true) := .mk fun n hn σ hk => by
  refine .le f9_e ?_
  unfold f9_t
  refine .call ret_shown hn (.refl _) hk fun σ1 _ u1 k1 => ?_
  rw [xBool_b]
  refine .call (ret_encode x) (by omega) u1 k1 fun σ2 _ u2 k2 => ?_
  simp only [xTup_t, unC_c, xInt_i, nlC_n]
  refine .call (ret_encode ⟨x.op, rd, rs1, rs2, x.imm⟩) (by omega) u2 k2 fun σ3 _ u3 _ => ?_
  simp only [xTup_t, unC_c, xInt_i, nlC_n]
  refine .ite (fun _ => .ret u3) fun hx => .ite (fun _ => .ret u3) fun hy => ?_
  have hx : May x := by
    apply Classical.byContradiction; intro h; rw [if_neg h] at hx; simp at hx
  have hy : May ⟨x.op, rd, rs1, rs2, x.imm⟩ := by
    apply Classical.byContradiction; intro h; rw [if_neg h] at hy; simp at hy
  rw [if_pos hx, if_pos hy, xor32 (enc_range hx) (enc_range hy), xor_words hx hy rfl rfl]
  simp only
  have a3 := hx.2.2.1; have a4 := hx.2.2.2.1; have a5 := hx.2.2.2.2.1
  have c3 := hy.2.2.1; have c4 := hy.2.2.2.1; have c5 := hy.2.2.2.2.1
  simp only at c3 c4 c5
  have l1 := xorI_lt (a := x.rd) (b := rd) (by omega) (by omega)
  have l2 := xorI_lt (a := x.rs1) (b := rs1) (by omega) (by omega)
  have l3 := xorI_lt (a := x.rs2) (b := rs2) (by omega) (by omega)
  rw [xor64 (a := x.rd) (b := rd) (by omega) (by omega)]
  have go : ∀ v5, v5 = xorI x.rd rd * 128 → Gives σ (.bool true) (f9_j1 (pt Tryd.prog Lb 9 n) rs1 rs2 true (xorI x.rd rd * 128 + xorI x.rs1 rs1 * 32768 + xorI x.rs2 rs2 * 1048576) v5 x.op x.rd x.rs1 x.rs2 x.imm σ3) := by
    intro v5 h5
    refine .le f9_j1_e ?_
    unfold f9_j1_t
    rw [cT]
    refine .ret u3 ?_
    rw [xor64 (a := x.rs1) (b := rs1) (by omega) (by omega), xor64 (a := x.rs2) (b := rs2) (by omega) (by omega), wrap32 (x := xorI x.rs1 rs1 * 2 ^ 15) (by omega) (by omega), wrap32 (x := xorI x.rs2 rs2 * 2 ^ 20) (by omega) (by omega), fold_or, fold_or, h5]
    rw [show (2 : Int) ^ 15 = 32768 from rfl, show (2 : Int) ^ 20 = 1048576 from rfl]
    rw [orI_add (a := xorI x.rd rd * 128) (b := xorI x.rs1 rs1 * 32768) 15 5 (K := 32768) (M := 1048576) rfl rfl (by decide) (by omega) (by omega) (by omega) (by omega) (by omega) (by omega)]
    rw [orI_add (a := xorI x.rd rd * 128 + xorI x.rs1 rs1 * 32768) (b := xorI x.rs2 rs2 * 1048576) 20 5 (K := 1048576) (M := 33554432) rfl rfl (by decide) (by omega) (by omega) (by omega) (by omega) (by omega) (by omega)]
    simp
  refine .ite (fun h => go _ ?_) fun h => go _ ?_
  · rw [show (2 : Int) ^ 7 = 128 from rfl, wrap32 (x := xorI x.rd rd * 128) (by omega) (by omega), fold_or]
    rw [orI_add (a := 0) (b := xorI x.rd rd * 128) 7 5 (K := 128) (M := 4096) rfl rfl (by decide) (by omega) (by omega) (by omega) (by omega) (by omega) (by omega)]
    omega
  · have h : x.rd = rd := by simpa using h
    rw [h, xorI_self]; rfl

end Go.Proofs.Inst

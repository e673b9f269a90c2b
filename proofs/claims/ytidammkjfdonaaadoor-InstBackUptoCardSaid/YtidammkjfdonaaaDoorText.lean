/- The texts that both write. -/
import Derived.Test.YtidammkjfdonaaaDoorDec
import Derived.Test.YtidammkjfdonaaaDoorT3
namespace Go.Proofs.Inst
open Go.AM Go.Proofs

/-! ### the library -/

theorem Ret.lib {f : Nat} {args : List AV} {v : AV} (h : ∀ σ, Kn σ → ∃ τ, Lb f args σ = some (.ret v, σ ++ τ)) : Ret f args 1 v := .mk fun n _ σ hk => by
  obtain ⟨τ, h⟩ := h σ hk
  exact ⟨_, callP_lib h, .app _ _⟩
theorem Ret.lib0 {f : Nat} {args : List AV} {v : AV} (h : ∀ σ, Kn σ → Lb f args σ = some (.ret v, σ)) : Ret f args 1 v := .lib fun σ hk => ⟨[], by rw [h σ hk, List.append_nil]⟩

def I64 (n : Int) : Prop := -9223372036854775808 ≤ n ∧ n ≤ 9223372036854775807

theorem ret_itoa {n : Int} (h : I64 n) : Ret 63 [.int .i64 n] 1 (.str (Lib.itoa n)) := .lib0 fun _ hk => if_pos ⟨hk, h.1, h.2⟩
theorem ret_format {n : Int} (h : I64 n) : Ret 52 [.int .i64 n, .int .i64 10] 1 (.str (Lib.itoa n)) := .lib0 fun _ hk => if_pos ⟨hk, rfl, h.1, h.2⟩

/-! ### lengths -/

theorem nDigits_le : ∀ (k u : Nat), u < 10 ^ k → Lib.nDigits u ≤ max k 1 := by
  intro k
  induction k with
  | zero => intro u h; rw [Lib.nDigits_small (by omega)]; omega
  | succ k ih =>
    intro u h
    by_cases h1 : u < 10
    · rw [Lib.nDigits_small h1]; omega
    · rw [Lib.nDigits_big h1]
      rw [Nat.pow_succ] at h
      cases k with
      | zero => omega
      | succ k => have := ih (u / 10) (by omega); omega

theorem itoa_len {n : Int} (h : I64 n) : (Lib.itoa n).length ≤ 20 := by
  have h1 := h.1; have h2 := h.2
  have e : (10 : Nat) ^ 19 = 10000000000000000000 := rfl
  unfold Lib.itoa
  split
  · rw [List.length_cons, Lib.decDigits_length]
    have := nDigits_le 19 n.natAbs (by omega)
    omega
  · rw [Lib.decDigits_length]
    have := nDigits_le 19 n.toNat (by omega)
    omega

def reg (n : Int) : List UInt8 := [120] ++ Lib.itoa n
theorem reg_len {n : Int} (h : I64 n) : (reg n).length ≤ 21 := by
  unfold reg; have := itoa_len h; simp; omega

theorem name_len {op : Int} (h1 : 1 ≤ op) (h2 : op ≤ 87) : (nameAt op).length ≤ 20 := by
  have := all_ops (p := fun op => decide ((nameAt op).length ≤ 20)) (by kernel_rfl) h1 h2
  simpa using this

/-! ### names -/

theorem names_tail {n : Nat} {σ : St} (hk : Kn σ) : callP Tryd.prog Lb (n + 2) 44 [] σ = some (.ret (.slice (some (σ.length, 0)) 87 (some 87) 1), σ ++ [.cells (names.tail.map .str) .ro]) := by
  refine f44_e.some ?_
  unfold f44_t
  refine (callT_ok (v := .slice (some (σ.length, 0)) 87 (some 87) 1) (σ' := σ ++ [.cells (names.tail.map .str) .ro]) (callP_lib ?_)).trans ?_
  · refine (if_pos ⟨hk, of_decide_eq_true (by kernel_rfl), of_decide_eq_true (by kernel_rfl)⟩).trans ?_
    have e : ∀ s, Lib.fields s = names.tail → (some (Res.ret (.slice (some (σ.length, 0)) (Lib.fields s).length (some (Lib.fields s).length) 1), σ ++ [AObj.cells ((Lib.fields s).map .str) .ro]) : Out) = some (.ret (.slice (some (σ.length, 0)) 87 (some 87) 1), σ ++ [.cells (names.tail.map .str) .ro]) := by
      intro s hs
      rw [hs]
      have : names.tail.length = 87 := by kernel_rfl
      rw [this]
    exact e _ (by kernel_rfl)
  · rw [xSl_s]

/-- An opcode's name; no other number has one. -/
def nameS (op : Int) : List UInt8 := if 1 ≤ op ∧ op ≤ 87 then nameAt op else []

theorem ret_name (op : Int) : Ret 21 [.int .i64 op] 3 (.str (nameS op)) := .mk fun n hn σ hk => by
  refine .le f21_e ?_
  unfold f21_t
  refine .ite (fun h => .ret (.refl _) ?_) fun h1 => .ite (fun h => .ret (.refl _) ?_) fun h2 => ?_
  · simp at h; unfold nameS; rw [if_neg (by omega)]
  · simp at h; unfold nameS; rw [if_neg (by omega)]
  have h1 : 1 ≤ op := by simpa using h1
  have h2 : op ≤ 87 := by simpa using h2
  obtain ⟨n, rfl⟩ : ∃ m, n = m + 2 := ⟨n - 2, by omega⟩
  rw [callT_ok (names_tail hk), xSl_s, wrap64 (by omega) (by omega), idxK_ok ⟨by omega, by omega⟩, derefK_s, szK_s, ldK_at cellsAt_new, Nat.zero_add, Nat.mul_one]
  have e : (names.tail.map AV.str)[(op - 1).toNat]? = some (.str (nameAt op)) := by
    rw [List.getElem?_map, List.getElem?_tail]
    have : (op - 1).toNat + 1 = op.toNat := by omega
    rw [this, nameAt_get (by omega) h2]; rfl
  rw [partK_s agg9 e, xStr_s]
  refine .ret (.app _ _) ?_
  unfold nameS; rw [if_pos ⟨h1, h2⟩]

/-! ### parts -/

def partsS (f : Int) (x : Ins) : List (List UInt8) :=
  if f = 1 ∨ f = 2 then [reg x.rd, Lib.itoa x.imm]
  else if f = 4 then [reg x.rs1, reg x.rs2, Lib.itoa x.imm]
  else if f = 5 then [reg x.rs2, Lib.itoa x.imm ++ [40] ++ reg x.rs1 ++ [41]]
  else if f = 8 then [reg x.rd, reg x.rs1, reg x.rs2]
  else if f = 9 then (if x.op = 66 ∨ x.op = 77 then [reg x.rd, [40] ++ reg x.rs1 ++ [41]] else [reg x.rd, reg x.rs2, [40] ++ reg x.rs1 ++ [41]])
  else if f = 3 ∧ (x.op = 4 ∨ (11 ≤ x.op ∧ x.op ≤ 17)) then [reg x.rd, Lib.itoa x.imm ++ [40] ++ reg x.rs1 ++ [41]]
  else [reg x.rd, reg x.rs1, Lib.itoa x.imm]

def sufs : List (List UInt8) := [[], [46, 114, 108], [46, 97, 113], [46, 97, 113, 114, 108]]
def suf (i : Int) : List UInt8 := sufs.getD i.toNat []

/-- The text. -/
def textS (x : Ins) : List UInt8 :=
  if (rowAt x.op).form = 10 then nameAt x.op
  else (if (rowAt x.op).form = 9 then nameAt x.op ++ suf x.imm else nameAt x.op) ++ [32] ++ Lib.join (partsS (rowAt x.op).form x) [44, 32]

theorem ret_reg' {n : Int} (h : I64 n) : Ret 53 [.int .i64 n] 2 (.str (reg n)) := .mk fun m hm σ hk => by
  refine .le f53_e ?_
  unfold f53_t
  refine .call (ret_itoa h) hm (.refl _) hk fun σ1 _ u1 _ => ?_
  have := itoa_len h
  rw [xStr_s, catK_ok (by simp; omega)]
  exact .ret u1

/-- The answer and the heap are of a kind. -/
def GivesQ (σ : St) (Q : AV → St → Prop) (o : Out) : Prop := ∃ v σ', o = some (.ret v, σ') ∧ Up σ σ' ∧ Q v σ'
section
variable {σ σ1 : St} {Q : AV → St → Prop} {f n N : Nat} {args : List AV} {v' : AV} {k : AV → St → Out}
theorem GivesQ.ret {v : AV} (h : Up σ σ1) (q : Q v σ1) : GivesQ σ Q (some (.ret v, σ1)) := ⟨v, σ1, rfl, h, q⟩
theorem GivesQ.le {x y : Out} (h : Le x y) (g : GivesQ σ Q x) : GivesQ σ Q y := by
  obtain ⟨v, σ', h1, h2⟩ := g; exact ⟨v, σ', h _ h1, h2⟩
theorem GivesQ.ite {b : Bool} {x y : Out} (h1 : b = true → GivesQ σ Q x) (h2 : b = false → GivesQ σ Q y) : GivesQ σ Q (cond b x y) := by
  cases b
  · rw [cF]; exact h2 rfl
  · rw [cT]; exact h1 rfl
theorem GivesQ.call (h : Ret f args N v') (hn : N ≤ n) (hu : Up σ σ1) (hk : Kn σ1) (g : ∀ σ2, Up σ1 σ2 → Up σ σ2 → Kn σ2 → GivesQ σ Q (k v' σ2)) : GivesQ σ Q (callT Tryd.prog Lb n f args σ1 k) := by
  obtain ⟨σ2, h1, h2⟩ := h n hn σ1 hk
  rw [callT_ok h1]
  exact g σ2 h2 (hu.trans h2) (h2.kn hk)
theorem GivesQ.callD (h : Ret f args N v') (hn : N ≤ n) (hu : Up σ σ1) (hk : Kn σ1) (g : ∀ σ2, Up σ1 σ2 → Up σ σ2 → Kn σ2 → GivesQ σ Q (k v' σ2)) : GivesQ σ Q (callTD Tryd.prog Lb n f args σ1 k) := by
  obtain ⟨σ2, h1, h2⟩ := h n hn σ1 hk
  rw [callTD_ok h1]
  exact g σ2 h2 (hu.trans h2) (h2.kn hk)
/-- A call whose answer is of a kind. -/
theorem Gives.callQ {v : AV} {σ0 : St} (h : GivesQ σ1 Q (callP Tryd.prog Lb n f args σ1)) (hu : Up σ0 σ1) (hk : Kn σ1) (g : ∀ r σ2, Q r σ2 → Up σ1 σ2 → Up σ0 σ2 → Kn σ2 → Gives σ0 v (k r σ2)) : Gives σ0 v (callT Tryd.prog Lb n f args σ1 k) := by
  obtain ⟨r, σ2, h1, h2, h3⟩ := h
  rw [callT_ok h1]
  exact g r σ2 h3 h2 (hu.trans h2) (h2.kn hk)
theorem GivesQ.callQ {Q' : AV → St → Prop} {σ0 : St} (h : GivesQ σ1 Q (callP Tryd.prog Lb n f args σ1)) (hu : Up σ0 σ1) (hk : Kn σ1) (g : ∀ r σ2, Q r σ2 → Up σ1 σ2 → Up σ0 σ2 → Kn σ2 → GivesQ σ0 Q' (k r σ2)) : GivesQ σ0 Q' (callT Tryd.prog Lb n f args σ1 k) := by
  obtain ⟨r, σ2, h1, h2, h3⟩ := h
  rw [callT_ok h1]
  exact g r σ2 h3 h2 (hu.trans h2) (h2.kn hk)
end

/-- A slice over a row of texts. -/
def TextsV (l : List (List UInt8)) (v : AV) (σ : St) : Prop := ∃ b c, v = .slice (some (b, 0)) l.length c 1 ∧ cellsAt σ b = some (l.map .str)

theorem texts_new {l : List (List UInt8)} {σ : St} {w : Wr} {m : Nat} {c : Option Nat} (e : m = l.length) (cs : List AV) (h : cs = l.map .str) : TextsV l (.slice (some (σ.length, 0)) m c 1) (σ ++ [.cells cs w]) := by
  subst e; subst h; exact ⟨_, _, rfl, cellsAt_new⟩

theorem gives_parts {n : Nat} {σ : St} {f : Int} {x : Ins} (hf : 1 ≤ f ∧ f ≤ 9) (h1 : I64 x.rd) (h2 : I64 x.rs1) (h3 : I64 x.rs2) (h4 : I64 x.imm) (hn : 2 ≤ n) (hk : Kn σ) :
    GivesQ σ (TextsV (partsS f x)) (callP Tryd.prog Lb (n + 1) 33 [.int .u32 f, insV x] σ) := by
  have a1 := reg_len h1; have a2 := reg_len h2; have a3 := reg_len h3; have a4 := itoa_len h4
  refine .le f33_e ?_
  unfold f33_t
  refine .call (ret_format h4) (by omega) (.refl _) hk fun σ1 _ u k => ?_
  rw [xStr_s]
  have r1 := ret_reg' h1; have r2 := ret_reg' h2; have r3 := ret_reg' h3
  have hF : f = 1 ∨ f = 2 ∨ f = 3 ∨ f = 4 ∨ f = 5 ∨ f = 6 ∨ f = 7 ∨ f = 8 ∨ f = 9 := by omega
  rcases hF with rfl | rfl | rfl | rfl | rfl | rfl | rfl | rfl | rfl <;> simp only [Int.reduceBEq, cT, cF]
  · refine .le f33_j1_e ?_
    unfold f33_j1_t
    refine .call r1 (by omega) u k fun σ2 _ u k => ?_
    rw [xStr_s]
    exact .ret (u.more _) (texts_new rfl _ rfl)
  all_goals (refine .le f33_j2_e ?_; unfold f33_j2_t; simp only [Int.reduceBEq, cT, cF])
  · refine .call r1 (by omega) u k fun σ2 _ u k => ?_
    rw [xStr_s]
    exact .ret (u.more _) (texts_new rfl _ rfl)
  · refine .ite (fun h => ?_) fun h => .ite (fun h' => .ite (fun h'' => ?_) fun h'' => ?_) fun h' => ?_
    · have h : x.op = 4 := by simpa using h
      refine .callD r1 (by omega) u k fun σ2 _ u k => ?_
      rw [xStr_s, catK_ok (by simp; omega)]
      refine .callD r2 (by omega) u k fun σ2 _ u k => ?_
      rw [xStr_s, catK_ok (by simp; omega), catK_ok (by simp; omega)]
      have e : partsS 3 x = [reg x.rd, Lib.itoa x.imm ++ [40] ++ reg x.rs1 ++ [41]] := by simp [partsS, h]
      rw [e]
      exact .ret (u.more _) (texts_new rfl _ rfl)
    · simp at h h' h''
      refine .callD r1 (by omega) u k fun σ2 _ u k => ?_
      rw [xStr_s, catK_ok (by simp; omega)]
      refine .callD r2 (by omega) u k fun σ2 _ u k => ?_
      rw [xStr_s, catK_ok (by simp; omega), catK_ok (by simp; omega)]
      have e : partsS 3 x = [reg x.rd, Lib.itoa x.imm ++ [40] ++ reg x.rs1 ++ [41]] := by simp [partsS, h', h'']
      rw [e]
      exact .ret (u.more _) (texts_new rfl _ rfl)
    all_goals
      simp at h h'
      refine .le f33_j3_e ?_
      unfold f33_j3_t
      refine .callD r1 (by omega) u k fun σ2 _ u k => ?_
      rw [xStr_s]
      refine .callD r2 (by omega) u k fun σ2 _ u k => ?_
      rw [xStr_s]
    · simp at h''
      have e : partsS 3 x = [reg x.rd, reg x.rs1, Lib.itoa x.imm] := by unfold partsS; simp [h]; omega
      rw [e]
      exact .ret (u.more _) (texts_new rfl _ rfl)
    · have e : partsS 3 x = [reg x.rd, reg x.rs1, Lib.itoa x.imm] := by unfold partsS; simp [h]; omega
      rw [e]
      exact .ret (u.more _) (texts_new rfl _ rfl)
  · refine .callD r2 (by omega) u k fun σ2 _ u k => ?_
    rw [xStr_s]
    refine .callD r3 (by omega) u k fun σ2 _ u k => ?_
    rw [xStr_s]
    exact .ret (u.more _) (texts_new rfl _ rfl)
  · refine .callD r3 (by omega) u k fun σ2 _ u k => ?_
    rw [xStr_s, catK_ok (by simp; omega)]
    refine .callD r2 (by omega) u k fun σ2 _ u k => ?_
    rw [xStr_s, catK_ok (by simp; omega), catK_ok (by simp; omega)]
    exact .ret (u.more _) (texts_new rfl _ rfl)
  · refine .le f33_j3_e ?_
    unfold f33_j3_t
    refine .callD r1 (by omega) u k fun σ2 _ u k => ?_
    rw [xStr_s]
    refine .callD r2 (by omega) u k fun σ2 _ u k => ?_
    rw [xStr_s]
    exact .ret (u.more _) (texts_new rfl _ rfl)
  · refine .le f33_j3_e ?_
    unfold f33_j3_t
    refine .callD r1 (by omega) u k fun σ2 _ u k => ?_
    rw [xStr_s]
    refine .callD r2 (by omega) u k fun σ2 _ u k => ?_
    rw [xStr_s]
    exact .ret (u.more _) (texts_new rfl _ rfl)
  · refine .callD r1 (by omega) u k fun σ2 _ u k => ?_
    rw [xStr_s]
    refine .callD r2 (by omega) u k fun σ2 _ u k => ?_
    rw [xStr_s]
    refine .callD r3 (by omega) u k fun σ2 _ u k => ?_
    rw [xStr_s]
    exact .ret (u.more _) (texts_new rfl _ rfl)
  · have e9 : partsS 9 x = if x.op = 66 ∨ x.op = 77 then [reg x.rd, [40] ++ reg x.rs1 ++ [41]] else [reg x.rd, reg x.rs2, [40] ++ reg x.rs1 ++ [41]] := by simp [partsS]
    rw [e9]
    refine .ite (fun h => ?_) fun h => .ite (fun h' => ?_) fun h' => ?_
    · rw [if_pos (.inl (by simpa using h))]
      refine .callD r1 (by omega) u k fun σ2 _ u k => ?_
      rw [xStr_s]
      refine .callD r2 (by omega) u k fun σ2 _ u k => ?_
      rw [xStr_s, catK_ok (by simp; omega), catK_ok (by simp; omega)]
      exact .ret (u.more _) (texts_new rfl _ rfl)
    · rw [if_pos (.inr (by simpa using h'))]
      refine .callD r1 (by omega) u k fun σ2 _ u k => ?_
      rw [xStr_s]
      refine .callD r2 (by omega) u k fun σ2 _ u k => ?_
      rw [xStr_s, catK_ok (by simp; omega), catK_ok (by simp; omega)]
      exact .ret (u.more _) (texts_new rfl _ rfl)
    · simp at h h'
      rw [if_neg (by omega)]
      refine .callD r1 (by omega) u k fun σ2 _ u k => ?_
      rw [xStr_s]
      refine .callD r3 (by omega) u k fun σ2 _ u k => ?_
      rw [xStr_s]
      refine .callD r2 (by omega) u k fun σ2 _ u k => ?_
      rw [xStr_s, catK_ok (by simp; omega), catK_ok (by simp; omega)]
      exact .ret (u.more _) (texts_new rfl _ rfl)

theorem ret_join {l : List (List UInt8)} {sep : List UInt8} {v : AV} {σ : St} {n : Nat} (h : TextsV l v σ) (hl : l.length ≤ 1000) (hj : (Lib.join l sep).length ≤ 1000000) :
    callP Tryd.prog Lb (n + 1) 32 [v, .str sep] σ = some (.ret (.str (Lib.join l sep)), σ) := by
  obtain ⟨b, c, rfl, hc⟩ := h
  refine callP_lib ?_
  refine (show Lb 32 [.slice (some (b, 0)) l.length c 1, .str sep] σ = lbJoin [.slice (some (b, 0)) l.length c 1, .str sep] σ from rfl).trans ?_
  unfold lbJoin
  have hs : strsOf ((l.map AV.str).take l.length) = some l := by
    rw [List.take_of_length_le (by simp), strsOf_map]
  simp only [hc, true_and, List.drop_zero, hs, Nat.zero_add, List.length_map]
  rw [if_pos (by omega), if_pos (by omega), if_pos (by omega)]

theorem partsS_len (f : Int) (x : Ins) (h1 : I64 x.rd) (h2 : I64 x.rs1) (h3 : I64 x.rs2) (h4 : I64 x.imm) : (partsS f x).length ≤ 3 ∧ (Lib.join (partsS f x) [44, 32]).length ≤ 200 := by
  have a1 := reg_len h1; have a2 := reg_len h2; have a3 := reg_len h3; have a4 := itoa_len h4
  unfold partsS
  repeat' split
  all_goals (constructor <;> simp [Lib.join_cons, Lib.joinTail] <;> omega)

theorem may_i64 {x : Ins} (h : May x) : I64 x.rd ∧ I64 x.rs1 ∧ I64 x.rs2 ∧ I64 x.imm := by
  obtain ⟨h1, h2, h3, h4, h5, h⟩ := h
  unfold I64
  refine ⟨by omega, by omega, by omega, ?_⟩
  unfold FormOk at h
  omega

theorem suf_at {i : Int} (h : 0 ≤ i ∧ i < 4) {f : AV → Out} : (idxK i 4 <| partK Tryd.prog 9 [.str [], .str [46, 114, 108], .str [46, 97, 113], .str [46, 97, 113, 114, 108]] (i.toNat * 1) f) = f (.str (suf i)) := by
  rw [idxK_ok h, Nat.mul_one]
  refine partK_s agg9 ?_
  have : i.toNat = 0 ∨ i.toNat = 1 ∨ i.toNat = 2 ∨ i.toNat = 3 := by omega
  unfold suf
  rcases this with h | h | h | h <;> rw [h] <;> rfl
theorem suf_len (i : Int) : (suf i).length ≤ 5 := by
  unfold suf
  rcases Nat.lt_or_ge i.toNat 4 with h | h
  · have : i.toNat = 0 ∨ i.toNat = 1 ∨ i.toNat = 2 ∨ i.toNat = 3 := by omega
    rcases this with h | h | h | h <;> rw [h] <;> decide
  · rw [List.getD_eq_getElem?_getD, List.getElem?_eq_none (by exact h)]; simp

theorem ret_text (x : Ins) : Ret 17 [insV x] 8 (.tuple [.str (if May x then textS x else []), .int .i64 (if May x then 0 else 2)]) := .mk fun n hn σ hk => by
  refine .le f17_e ?_
  unfold f17_t
  refine .call (ret_may x) (by omega) (.refl _) hk fun σ1 _ u1 k1 => ?_
  rw [xBool_b]
  refine .ite (fun h => .ret u1 ?_) fun h => ?_
  · simp at h; simp [h]
  have hM : May x := by simpa using h
  rw [if_pos hM, if_pos hM]
  clear h
  obtain ⟨i1, i2, i3, i4⟩ := may_i64 hM
  obtain ⟨h1, h2, h3, h4, h5, h⟩ := hM
  have hl := partsS_len (rowAt x.op).form x i1 i2 i3 i4
  have hnl := name_len h1 h2
  refine .callD ret_rows (by omega) u1 k1 fun σ2 _ u2 k2 => ?_
  rw [xAgg_a, rows_at (by omega) h2, xAgg_a]
  simp only [rowV, unC_c, xInt_i, nlC_n]
  refine .call (ret_name x.op) (by omega) u2 k2 fun σ3 _ u3 k3 => ?_
  have en : nameS x.op = nameAt x.op := if_pos ⟨h1, h2⟩
  rw [xStr_s, en]
  have hf := (rowOk h1 h2).form
  obtain ⟨n, rfl⟩ : ∃ m, n = m + 1 := ⟨n - 1, by omega⟩
  unfold textS
  generalize (rowAt x.op).form = f at *
  refine .ite (fun h10 => ?_) fun h10 => .ite (fun h9 => ?_) fun h9 => ?_
  · have : f = 10 := by simpa using h10
    rw [if_pos this]; exact .ret u3
  · have h9 : f = 9 := by simpa using h9
    subst h9
    have hs := suf_len x.imm
    rw [if_neg (by decide), if_pos rfl, suf_at (by unfold FormOk at h; omega), xStr_s, catK_ok (by omega), catK_ok (by simp; omega)]
    refine .callQ (gives_parts (by decide) i1 i2 i3 i4 (by omega) k3) u3 k3 fun r σ4 hq _ u4 k4 => ?_
    obtain ⟨b, c, rfl, hc⟩ := hq
    rw [xSl_s, callT_ok (ret_join ⟨b, c, rfl, hc⟩ (by omega) (by omega)), xStr_s, catK_ok (by simp; omega)]
    exact .ret u4
  · have h9 : f ≠ 9 := by simpa using h9
    have h10 : f ≠ 10 := by simpa using h10
    rw [if_neg h10, if_neg h9, catK_ok (by simp; omega)]
    refine .callQ (gives_parts (by omega) i1 i2 i3 i4 (by omega) k3) u3 k3 fun r σ4 hq _ u4 k4 => ?_
    obtain ⟨b, c, rfl, hc⟩ := hq
    rw [xSl_s, callT_ok (ret_join ⟨b, c, rfl, hc⟩ (by omega) (by omega)), xStr_s, catK_ok (by simp; omega)]
    exact .ret u4

end Go.Proofs.Inst

/- What Parse comes to at every text; the document's examples. -/
import Derived.Test.YtlbieeajocjpeaaGreatDoorWk15
import Derived.Test.YtlbieeajocjpeaaGreatDoorSt
import Derived.Test.YtlbieeajocjpeaaGreatDoorT4
set_option linter.unusedSimpArgs false
set_option linter.unusedVariables false
namespace Go.Front
open Go.AM Go.Proofs

/-- What a parse of a text comes to. -/
def Came (len : Nat) (o : Except Flt (List Node)) : Prop :=
  match o with
  | .ok nd => ∃ l : List Dc, nd = allNodes l ∧ (∀ x ∈ l, x.good len) ∧ (allNodes l).length ≤ 4096
  | .error e => e.2 ≤ len ∧ (e.1 = 13 ∨ e.1 = 15)

theorem read_tot (s : List UInt8) {n : Nat} (hn : 2 * s.length + 6 ≤ n) : ∃ o, readP (strm s) (0 : Nat) n = some o ∧ Came s.length o := by
  unfold readP
  cases hx : (strm s).nxt (0 : Nat) with
  | inl f => exact ⟨_, rfl, (strmOk s).bad (0 : Nat) f (Nat.zero_le _) hx, .inl rfl⟩
  | inr x =>
    obtain ⟨t, q⟩ := x
    obtain ⟨h1, h2, h3, h4, h5⟩ := (strmOk s).ok (0 : Nat) t q (Nat.zero_le _) hx
    have hi : Inv (strmOk s) (⟨t, q, [], 0⟩ : PS (strm s)) := ⟨h1, h3, fun hk => ⟨(h4 hk).1, (h4 hk).2.1⟩, Nat.zero_le _, by simp, h5⟩
    have hR : R (strmOk s) (⟨t, q, [], 0⟩ : PS (strm s)) ≤ s.length + 1 := by
      unfold R
      split
      · omega
      · have : (strmOk s).left q ≤ s.length := Nat.sub_le _ _
        simp only; omega
    have := whole_tr (K := strmOk s) (n := n) (by omega) rfl rfl hi
    unfold Tr at this
    cases hw : wholeP (S := strm s) n ⟨t, q, [], 0⟩ with
    | none => rw [hw] at this; exact this.elim
    | some r =>
      rw [hw] at this
      cases r with
      | error e => exact ⟨.error e, by simp only; rw [hw], this⟩
      | ok x =>
        obtain ⟨a, st⟩ := x
        obtain ⟨l, h6, h7, h8⟩ := this
        exact ⟨.ok st.nodes, by simp only; rw [hw], l, h6, h7, h8⟩

def fuel : Nat := 20000
theorem parse_tot (s : List UInt8) : ∃ o, parseO s fuel = some o ∧ Came s.length o := by
  unfold parseO
  by_cases h : s.length > 8192
  · rw [if_pos h]; exact ⟨_, rfl, Nat.zero_le _, .inr rfl⟩
  · rw [if_neg h]
    exact read_tot s (by unfold fuel; omega)

/-! ### the examples -/

def ex1 : List UInt8 := [105, 110, 116, 32, 102, 40, 105, 110, 116, 32, 97, 41, 123, 114, 101, 116, 117, 114, 110, 32, 97, 43, 49, 42, 50, 59, 125]
def ex1l : List Dc := [.fn 0 [102] [(6, [97], 1)] 12 [.ret 13 (.bin 7 (.name 20 [97]) (.bin 4 (.num 22 1) (.num 24 2)))]]
def ex1s : List UInt8 := [105, 110, 116, 32, 102, 32, 40, 32, 105, 110, 116, 32, 97, 32, 41, 32, 123, 10, 114, 101, 116, 117, 114, 110, 32, 97, 32, 43, 32, 49, 32, 42, 32, 50, 32, 59, 10, 125, 10]
def ex2 : List UInt8 := [105, 110, 116, 32, 102, 40, 41, 123, 49, 61, 50, 59, 125]
def ex3 : List UInt8 := [105, 110, 116, 32, 53]

theorem ex1_parse : readP (strm ex1) (0 : Nat) 40 = some (.ok (allNodes ex1l)) := by kernel_rfl
theorem ex1_pr : allPr ex1l = ex1s := by
  have h1 : Lib.itoa 1 = [49] := by simp [Lib.itoa, Lib.decDigits]
  have h2 : Lib.itoa 2 = [50] := by simp [Lib.itoa, Lib.decDigits]
  simp only [allPr, ex1l, List.flatMap_cons, List.flatMap_nil, Dc.pr, Sm.prs, Sm.pr, Ex.pr, h1, h2]
  rfl
theorem ex1_again : ∃ nd, readP (strm ex1s) (0 : Nat) 60 = some (.ok nd) ∧ (allNodes ex1l).map Node.strip = nd.map Node.strip := by
  refine ⟨allNodes [.fn 0 [102] [(8, [97], 1)] 16 [.ret 18 (.bin 7 (.name 25 [97]) (.bin 4 (.num 29 1) (.num 33 2)))]], by kernel_rfl, by kernel_rfl⟩
theorem ex2_parse : readP (strm ex2) (0 : Nat) 40 = some (.error (13, 9)) := by kernel_rfl
theorem ex3_parse : readP (strm ex3) (0 : Nat) 40 = some (.error (13, 4)) := by kernel_rfl

theorem shown_fn {σ0 : St} (hk : Kn σ0) : Fw Tryz.prog Lb 6 [] σ0 fun r σ' => r = .ret (.bool true) ∧ Up σ0 σ' := by
  refine Fw.enter (fun n => f6_e) ?_
  simp only [f6_t]
  have p1 : parseO ex1 40 = some (.ok (allNodes ex1l)) := by unfold parseO; rw [if_neg (by decide)]; exact ex1_parse
  have p2 : parseO ex2 40 = some (.error (13, 9)) := by unfold parseO; rw [if_neg (by decide)]; exact ex2_parse
  have p3 : parseO ex3 40 = some (.error (13, 4)) := by unfold parseO; rw [if_neg (by decide)]; exact ex3_parse
  refine Wp.call (parse_fn hk (by decide) p1) (fun v σ1 hv => ?_) fun v σ' hv => by obtain ⟨_, _, hv, _⟩ := hv; cases hv
  obtain ⟨hu1, v1, hv, hsrc⟩ := hv
  cases hv
  obtain ⟨tb, c, rfl, hs⟩ := hsrc.src (by simp [allNodes])
  simp only [xTup_t, unC_c, xSl_s, xInt_i, nlC_n]
  have hg : ∀ x ∈ ex1l, x.good 27 := by
    intro x hx
    simp only [ex1l, List.mem_singleton] at hx
    subst hx
    have nm : ∀ c : UInt8, isLetter c = true → words.contains [c] = false → nameOk [c] := fun c h1 h2 => ⟨by simp, h2, c, [], rfl, h1, by simp⟩
    refine ⟨by decide, nm _ (by decide) (by decide), ?_, by decide, by decide, ?_, by decide⟩
    · intro y hy
      simp only [List.mem_singleton] at hy
      subst hy
      exact ⟨by decide, by decide, nm _ (by decide) (by decide), .inl rfl⟩
    · exact ⟨⟨by decide, ⟨⟨by decide, nm _ (by decide) (by decide)⟩, ⟨⟨by decide, by decide, by decide⟩, ⟨by decide, by decide, by decide⟩, by decide, by decide, by decide⟩, by decide, by decide, by decide⟩, by decide⟩, by decide, trivial⟩
  obtain ⟨nd2, hr, hsame⟩ := ex1_again
  have hk1 := hk.up hu1
  refine Wp.call (print_fn (ls := ex1l) (len := 27) (n := 60) (c2 := c) hk1 hs (by decide) hg (fun x hx ht => ?_) (fun x hx => ?_) (by rw [ex1_pr]; decide) (by decide) (by rw [ex1_pr]; exact hr) hsame) (fun v σ2 hv => ?_) fun v σ' hv => ?_
  · simp only [ex1l, List.mem_singleton] at hx
    subst hx; cases ht
  · simp only [ex1l, List.mem_singleton] at hx
    subst hx; rfl
  · obtain ⟨hu2, hv⟩ := hv
    rw [ex1_pr, if_neg (by decide)] at hv
    cases hv
    simp only [xTup_t, unC_c, xStr_s, xInt_i, nlC_n]
    have hk2 := hk1.up hu2
    refine Wp.call (parse_fn hk2 (by decide) p2) (fun v σ3 hv => ?_) fun v σ' hv => by obtain ⟨_, hv⟩ := hv; cases hv
    obtain ⟨hu3, hv⟩ := hv
    cases hv
    simp only [xTup_t, unC_c, xSl_s, xInt_i, nlC_n]
    refine Wp.call (parse_fn (hk2.up hu3) (by decide) p3) (fun v σ4 hv => ?_) fun v σ' hv => by obtain ⟨_, hv⟩ := hv; cases hv
    obtain ⟨hu4, hv⟩ := hv
    cases hv
    simp only [xTup_t, unC_c, xSl_s, xInt_i, nlC_n]
    refine Wp.pos rfl (Wp.pos rfl (Wp.pos (by decide) (Wp.pos rfl (Wp.pos (by decide) (Wp.pos rfl (Wp.pos rfl (Wp.pos rfl ?_)))))))
    exact Wp.ret ⟨rfl, hu1.trans (hu2.trans (hu3.trans hu4))⟩
  · obtain ⟨_, hv⟩ := hv
    split at hv <;> cases hv

/-! ### FrontPlaces -/

noncomputable abbrev L4 (n : Nat) : Leaf := pt Tryz.prog Lb 4 n

section
variable {Q : Post} {σ σ0 : St} {tb : Nat} {t : List Node} {nd : Node}

theorem places_kids {s : List UInt8} {len fb i : Nat} {F : Nat → Nat} {a : Option (Nat × Nat)} {z : Nat} {c c2 : Option Nat} (hf : Fine len t F i nd) (hS : Sh σ0 σ fb F i t.length) (hs : Src σ0 tb t) (htl : t.length ≤ 4096) (hkv : KAt σ (.slice a nd.kids.length c z) nd.kids) (hkl : nd.kids.length ≤ 4096)
    (h32 : ∀ f, ldK Tryz.prog 32 σ tb ((0 + ((i : Int)).toNat * 6) + 5) f = f (.slice a nd.kids.length c z)) :
    ∀ (j from_ : Nat), j ≤ nd.kids.length → chain F from_ (nd.kids.take j).reverse = some (F i) →
    (Wp Q fun u => f4_j7 (L4 u.n) u.m1 s true (some (tb, 0)) t.length c2 6 (some (fb, 0)) t.length (some t.length) 1 i (F i) σ) →
    Wp Q fun u => f4_l2 (L4 u.n) u.m1 u.m2 s true (some (tb, 0)) t.length c2 6 (some (fb, 0)) t.length (some t.length) 1 i from_ ((j : Int) - 1) σ := by
  intro j
  have hil : i < t.length := (List.getElem?_eq_some_iff.1 hf.at_).1
  have hsσ := hs.up hS.up
  induction j with
  | zero =>
    intro from_ hj hc hk
    rw [List.take_zero, List.reverse_nil] at hc
    simp only [chain, Option.some.injEq] at hc
    subst hc
    refine Wp.round2 (F := fun n m1 m2 => f4_l2 (L4 n) m1 m2 s true (some (tb, 0)) t.length c2 6 (some (fb, 0)) t.length (some t.length) 1 i (F i) (((0 : Nat) : Int) - 1) σ) (t := fun n m1 m2 => f4_l2_t (L4 n) n m1 m2 s true (some (tb, 0)) t.length c2 6 (some (fb, 0)) t.length (some t.length) 1 i (F i) (((0 : Nat) : Int) - 1) σ) (fun n m1 m2 => f4_l2_e) ?_
    simp only [f4_l2_t]
    exact Wp.neg (by simp) hk
  | succ j ih =>
    intro from_ hj hc hk
    obtain ⟨k, hkj⟩ : ∃ k, nd.kids[j]? = some k := ⟨nd.kids[j], List.getElem?_eq_getElem (by omega)⟩
    obtain ⟨hki, kd, hkd, hat⟩ := hf.kids k (List.mem_of_getElem? hkj)
    rw [List.take_add_one, hkj, Option.toList_some, List.reverse_append, List.reverse_singleton, List.singleton_append] at hc
    simp only [chain] at hc
    have hfrom : k + 1 = from_ := by
      by_cases h : k + 1 = from_
      · exact h
      · rw [if_neg h] at hc; cases hc
    rw [if_pos hfrom] at hc
    subst hfrom
    obtain ⟨b, c', hkv2, hbl⟩ := hkv.kid hkj
    cases hkv2
    have hw1 : IntKind.wrap .i64 (((k + 1 : Nat) : Int) - 1) = (k : Int) := by rw [wrap64 (by omega) (by omega)]; omega
    have hw2 : IntKind.wrap .i64 ((j : Int) - 1) = (j : Int) - 1 := wrap64 (by omega) (by omega)
    have hj1 : (((j + 1 : Nat) : Int) - 1) = ((j : Nat) : Int) := by omega
    have ii (x : Out) : idxK (i : Int) t.length x = x := idxK_ok ⟨by omega, by omega⟩
    have ik (x : Out) : idxK (k : Int) t.length x = x := idxK_ok ⟨by omega, by omega⟩
    have ij (x : Out) : idxK (j : Int) nd.kids.length x = x := idxK_ok ⟨by omega, by omega⟩
    have next := ih (F k) (by omega) hc hk
    refine Wp.round2 (F := fun n m1 m2 => f4_l2 (L4 n) m1 m2 s true (some (tb, 0)) t.length c2 6 (some (fb, 0)) t.length (some t.length) 1 i (k + 1 : Nat) (((j + 1 : Nat) : Int) - 1) σ) (t := fun n m1 m2 => f4_l2_t (L4 n) n m1 m2 s true (some (tb, 0)) t.length c2 6 (some (fb, 0)) t.length (some t.length) 1 i (k + 1 : Nat) (((j + 1 : Nat) : Int) - 1) σ) (fun n m1 m2 => f4_l2_e) ?_
    rw [hj1]
    simp only [f4_l2_t, hw1, ii, derefK_s, szK_s, h32, xSl_s, ij, ldKid hbl hkj, xInt_i, ik, hsσ.at_ hkd, hsσ.at_ hf.at_, hsσ.kind hf.at_]
    refine Wp.pos (by simp) (Wp.neg (by simp) (Wp.neg (by simp) (Wp.ite (fun hlt => ?_) fun hlt => ?_)))
    · have h23 : nd.kind = 23 := by
        rcases hat with h | h
        · simp at hlt; omega
        · exact h
      refine Wp.le (F := fun u => f4_j5_t (L4 u.n) u.n u.m1 u.m2 s true (some (tb, 0)) t.length c2 6 (some (fb, 0)) t.length (some t.length) 1 i (k + 1 : Nat) j (nd.kind != 23) σ) ?_ fun u => f4_j5_e
      simp only [f4_j5_t, ii, derefK_s, szK_s, h32, xSl_s, ij, ldKid hbl hkj, xInt_i, ik, hS.ld hki (show k < t.length by omega), hw2]
      exact Wp.neg (by rw [h23]; rfl) next
    · refine Wp.le (F := fun u => f4_j6_t (L4 u.n) u.n u.m1 u.m2 s true (some (tb, 0)) t.length c2 6 (some (fb, 0)) t.length (some t.length) 1 i (k + 1 : Nat) j σ) ?_ fun u => f4_j6_e
      simp only [f4_j6_t, ii, derefK_s, szK_s, h32, xSl_s, ij, ldKid hbl hkj, xInt_i, ik, hS.ld hki (show k < t.length by omega), hw2]
      exact next

theorem places_loop {s : List UInt8} {len fb : Nat} (hlen : len ≤ s.length) {F : Nat → Nat} {c2 : Option Nat} (hs : Src σ0 tb t) (htl : t.length ≤ 4096) (hpos : 0 < t.length) (hfine : FineSeg len t F 0 t.length) (h0 : F (t.length - 1) = 0) (h23 : ∃ nd, t[t.length - 1]? = some nd ∧ nd.kind = 23) :
    ∀ (k i : Nat) {σ : St}, i + k = t.length → Sh σ0 σ fb F i t.length →
    Wp (fun r σ' => r = .ret (.bool true)) fun u => f4_l1 (L4 u.n) u.m1 s true (some (tb, 0)) t.length c2 6 (some (fb, 0)) t.length (some t.length) 1 i σ := by
  intro k
  induction k with
  | zero =>
    intro i σ hi hS
    have hi : i = t.length := by omega
    subst hi
    obtain ⟨nd, hnd, hk23⟩ := h23
    refine Wp.round1 (F := fun n m => f4_l1 (L4 n) m s true (some (tb, 0)) t.length c2 6 (some (fb, 0)) t.length (some t.length) 1 t.length σ) (t := fun n m => f4_l1_t (L4 n) n m s true (some (tb, 0)) t.length c2 6 (some (fb, 0)) t.length (some t.length) 1 t.length σ) (fun n m => f4_l1_e) ?_
    simp only [f4_l1_t]
    refine Wp.neg (by simp) ?_
    refine Wp.le (F := fun u => f4_j3_t (L4 u.n) u.n true (some (tb, 0)) t.length c2 6 (some (fb, 0)) t.length (some t.length) 1 σ) ?_ fun u => f4_j3_e
    have hw : IntKind.wrap .i64 ((t.length : Int) - 1) = ((t.length - 1 : Nat) : Int) := by rw [wrap64 (by omega) (by omega)]; omega
    simp only [f4_j3_t, hw, derefK_s, szK_s, idxK_ok (show (0 : Int) ≤ ((t.length - 1 : Nat) : Int) ∧ ((t.length - 1 : Nat) : Int) < (t.length : Int) from ⟨by omega, by omega⟩), hS.ld (show t.length - 1 < t.length by omega) (by omega), xInt_i, h0, (hs.up hS.up).kind hnd]
    exact Wp.pos rfl (Wp.pos (by rw [decide_eq_true_eq]; omega) (Wp.pos rfl (Wp.ret (by rw [hk23]; rfl))))
  | succ k ih =>
    intro i σ hi hS
    obtain ⟨nd, hf⟩ := hfine i (Nat.zero_le _) (by omega)
    have hsσ := hs.up hS.up
    obtain ⟨kv, hkv0, hload⟩ := hs.kidsU hf.at_
    have hkv := hkv0.up hS.up
    obtain ⟨h32, _⟩ := hload σ hS.up
    obtain ⟨a, c, z, rfl⟩ := hkv.slice
    have hkl : nd.kids.length ≤ 4096 := by
      have hle : ∀ x ∈ nd.kids.reverse, F x ≤ x := fun x hx => by
        obtain ⟨h1, kd, h2, _⟩ := hf.kids x (List.mem_reverse.1 hx)
        obtain ⟨nd', hf'⟩ := hfine x (Nat.zero_le _) (by omega)
        exact hf'.le
      have := chain_len _ _ _ hf.ch hle
      rw [List.length_reverse] at this
      omega
    have hw : IntKind.wrap .i64 ((nd.kids.length : Int) - 1) = (nd.kids.length : Int) - 1 := wrap64 (by omega) (by omega)
    have hwi : IntKind.wrap .i64 ((i : Int) + 1) = ((i + 1 : Nat) : Int) := by rw [wrap64 (by omega) (by omega)]; omega
    have ii (x : Out) : idxK (i : Int) t.length x = x := idxK_ok ⟨by omega, by omega⟩
    refine Wp.round1 (F := fun n m => f4_l1 (L4 n) m s true (some (tb, 0)) t.length c2 6 (some (fb, 0)) t.length (some t.length) 1 i σ) (t := fun n m => f4_l1_t (L4 n) n m s true (some (tb, 0)) t.length c2 6 (some (fb, 0)) t.length (some t.length) 1 i σ) (fun n m => f4_l1_e) ?_
    simp only [f4_l1_t, derefK_s, szK_s, h32, xSl_s, hw, ii]
    refine Wp.pos (by rw [decide_eq_true_eq]; omega) ?_
    refine Wp.fresh2 (F := fun n m1 m2 => f4_l2 (L4 n) m1 m2 s true (some (tb, 0)) t.length c2 6 (some (fb, 0)) t.length (some t.length) 1 i i ((nd.kids.length : Int) - 1) σ) ?_
    refine places_kids hf hS hs htl hkv hkl h32 nd.kids.length i (Nat.le_refl _) (by rw [List.take_length]; exact hf.ch) ?_
    refine Wp.le (F := fun u => f4_j7_t (L4 u.n) u.n u.m1 s true (some (tb, 0)) t.length c2 6 (some (fb, 0)) t.length (some t.length) 1 i (F i) σ) ?_ fun u => f4_j7_e
    have hS1 := hS.next
    have hs1 := hs.up hS1.up
    simp only [f4_j7_t, derefK_s, szK_s, hS.st (show i < t.length by omega), ii, hs1.at_ hf.at_, hs1.kind hf.at_, xInt_i]
    have done : Wp (fun r σ' => r = .ret (.bool true)) fun u => f4_j8 (L4 u.n) u.m1 s true (some (tb, 0)) t.length c2 6 (some (fb, 0)) t.length (some t.length) 1 i (σ.set fb (.cells (cellsF F (i + 1) t.length) (.rw (.row 3)))) := by
      refine Wp.le (F := fun u => f4_j8_t (L4 u.n) u.n u.m1 s true (some (tb, 0)) t.length c2 6 (some (fb, 0)) t.length (some t.length) 1 i (σ.set fb (.cells (cellsF F (i + 1) t.length) (.rw (.row 3))))) ?_ fun u => f4_j8_e
      simp only [f4_j8_t, hwi]
      exact ih (i + 1) (by omega) hS1
    have h0' := hf.at0
    refine Wp.neg (by rw [decide_eq_false_iff_not]; omega) (Wp.ite (fun hge => ?_) fun _ => done)
    have hk23 : nd.kind = 23 := by
      rcases hf.lt with h | h
      · simp at hge; omega
      · exact h
    exact Wp.neg (by rw [hk23]; rfl) done

theorem places_fn {s : List UInt8} (hk : Kn σ0) : Fw Tryz.prog Lb 4 [.str s] σ0 fun r σ' => r = .ret (.bool true) := by
  refine Fw.enter (fun n => f4_e) ?_
  simp only [f4_t]
  refine Wp.call (shown_fn hk) (fun v σ1 hv => ?_) fun v σ' hv => by cases hv.1
  obtain ⟨hv, hu1⟩ := hv
  cases hv
  simp only [xBool_b]
  obtain ⟨o, ho, hc⟩ := parse_tot s
  refine Wp.call (parse_fn (hk.up hu1) (by decide) ho) (fun v σ2 hv => ?_) fun v σ' hv => ?_
  · obtain ⟨hu2, hv⟩ := hv
    cases o with
    | error e =>
      cases hv
      simp only [xTup_t, unC_c, xSl_s, xInt_i, nlC_n]
      obtain ⟨h1, h2⟩ := hc
      refine Wp.pos (by rcases h2 with h | h <;> rw [h] <;> rfl) (Wp.pos rfl (Wp.pos (by rw [decide_eq_true_eq]; omega) (Wp.pos (by rw [decide_eq_true_eq]; omega) (Wp.ret rfl))))
    | ok nd =>
      obtain ⟨v2, hv, hsrc⟩ := hv
      cases hv
      obtain ⟨l, rfl, hg, hl⟩ := hc
      obtain ⟨hfine, hF0, h23⟩ := all_fine l hg
      have hpos : 0 < (allNodes l).length := by simp [allNodes]
      obtain ⟨tb, c, rfl, hs⟩ := hsrc.src (by simp [allNodes])
      simp only [xTup_t, unC_c, xSl_s, xInt_i, nlC_n]
      refine Wp.neg rfl (Wp.make3 hl ?_)
      simp only [Int.toNat_natCast]
      have hS : Sh σ2 (σ2 ++ [AObj.cells (List.replicate (allNodes l).length (.int .i64 0)) (.rw (.row 3))]) σ2.length (Fof (allFirsts l)) 0 (allNodes l).length :=
        ⟨Up.app _, Nat.le_refl _, by rw [List.getElem?_append_right (Nat.le_refl _), cellsF_zero]; simp⟩
      have h := places_loop (s := s) (c2 := c) (Nat.le_refl _) hs hl hpos hfine hF0 h23 (allNodes l).length 0 (by omega) hS
      rw [show ((0 : Nat) : Int) = 0 from rfl] at h
      exact Wp.fresh1 (F := fun n m => f4_l1 (L4 n) m s true (some (tb, 0)) (allNodes l).length c 6 (some (σ2.length, 0)) (allNodes l).length (some (allNodes l).length) 1 0 (σ2 ++ [AObj.cells (List.replicate (allNodes l).length (.int .i64 0)) (.rw (.row 3))])) h
  · obtain ⟨_, hv⟩ := hv
    cases o with
    | error e => cases hv
    | ok nd => obtain ⟨_, hv, _⟩ := hv; cases hv

end
end Go.Front

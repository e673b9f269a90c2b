/- What Parse comes to at every text; the document's examples. -/
import Derived.Test.YtlbieeajocjpeaaGreatDoorWk15
import Derived.Test.YtlbieeajocjpeaaGreatDoorSt
import Derived.Test.YtlbieeajocjpeaaGreatDoorT4
set_option linter.unusedSimpArgs false
set_option linter.unusedVariables false
namespace Go.Front
open Go.AM Go.Proofs
def Came (len : Nat) (o : Except Flt (List Node)) : Prop :=
  match o with
  | .ok nd => ∃ l : List Dc, nd = allNodes l ∧ (∀ x ∈ l, x.good len) ∧ (allNodes l).length ≤ 4096
  | .error e => e.2 ≤ len ∧ (e.1 = 13 ∨ e.1 = 15)
theorem read_tot (s : List UInt8) {n : Nat} (hn : 2 * s.length + 6 ≤ n) : ∃ o, readP (strm s) (0 : Nat) n = some o ∧ Came s.length o := by
  unfold readP
  cases hx : (strm s).nxt (0 : Nat) with
  | inl f => exact ⟨_, rfl, (strmOk s).bad (0 : Nat) f (Nat.zero_le _) hx, .inl rfl⟩
  | inr x =>
    obtain ⟨t, q⟩ := x
    obtain ⟨h1, h2, h3, h4, h5⟩ := (strmOk s).ok (0 : Nat) t q (Nat.zero_le _) hx
    have hi : Inv (strmOk s) (⟨t, q, [], 0⟩ : PS (strm s)) := ⟨h1, h3, fun hk => ⟨(h4 hk).1, (h4 hk).2.1⟩, Nat.zero_le _, by simp, h5⟩
    have hR : R (strmOk s) (⟨t, q, [], 0⟩ : PS (strm s)) ≤ s.length + 1 := by
      unfold R
      split
      · omega
      · have : (strmOk s).left q ≤ s.length := Nat.sub_le _ _
        simp only; omega
    have := whole_tr (K := strmOk s) (n := n) (by omega) rfl rfl hi
    unfold Tr at this
    cases hw : wholeP (S := strm s) n ⟨t, q, [], 0⟩ with
    | none => rw [hw] at this; exact this.elim
    | some r =>
      rw [hw] at this
      cases r with
      | error e => exact ⟨.error e, by simp only; rw [hw], this⟩
      | ok x =>
        obtain ⟨a, st⟩ := x
        obtain ⟨l, h6, h7, h8⟩ := this
        exact ⟨.ok st.nodes, by simp only; rw [hw], l, h6, h7, h8⟩
def fuel : Nat := 20000
def ex1 : List UInt8 := [105, 110, 116, 32, 102, 40, 105, 110, 116, 32, 97, 41, 123, 114, 101, 116, 117, 114, 110, 32, 97, 43, 49, 42, 50, 59, 125]
def ex1l : List Dc := [.fn 0 [102] [(6, [97], 1)] 12 [.ret 13 (.bin 7 (.name 20 [97]) (.bin 4 (.num 22 1) (.num 24 2)))]]
def ex1s : List UInt8 := [105, 110, 116, 32, 102, 32, 40, 32, 105, 110, 116, 32, 97, 32, 41, 32, 123, 10, 114, 101, 116, 117, 114, 110, 32, 97, 32, 43, 32, 49, 32, 42, 32, 50, 32, 59, 10, 125, 10]
def ex2 : List UInt8 := [105, 110, 116, 32, 102, 40, 41, 123, 49, 61, 50, 59, 125]
def ex3 : List UInt8 := [105, 110, 116, 32, 53]
theorem ex1_parse : readP (strm ex1) (0 : Nat) 40 = some (.ok (allNodes ex1l)) := by kernel_rfl
theorem ex1_pr : allPr ex1l = ex1s := by
  have h1 : Lib.itoa 1 = [49] := by simp [Lib.itoa, Lib.decDigits]
  have h2 : Lib.itoa 2 = [50] := by simp [Lib.itoa, Lib.decDigits]
  simp only [allPr, ex1l, List.flatMap_cons, List.flatMap_nil, Dc.pr, Sm.prs, Sm.pr, Ex.pr, h1, h2]
  rfl
theorem ex1_again : ∃ nd, readP (strm ex1s) (0 : Nat) 60 = some (.ok nd) ∧ (allNodes ex1l).map Node.strip = nd.map Node.strip := by
  refine ⟨allNodes [.fn 0 [102] [(8, [97], 1)] 16 [.ret 18 (.bin 7 (.name 25 [97]) (.bin 4 (.num 29 1) (.num 33 2)))]], by kernel_rfl, by kernel_rfl⟩
theorem ex2_parse : readP (strm ex2) (0 : Nat) 40 = some (.error (13, 9)) := by kernel_rfl
theorem ex3_parse : readP (strm ex3) (0 : Nat) 40 = some (.error (13, 4)) := by kernel_rfl
theorem shown_fn {σ0 : St} (hk : Kn σ0) : Fw Tryz.prog Lb 6 [] σ0 fun r σ' => r = .ret (.bool true) ∧ Up σ0 σ' := by
  refine Fw.enter (fun n => f6_e) ?_
  simp only [f6_t]
  have p1 : parseO ex1 40 = some (.ok (allNodes ex1l)) := by unfold parseO; rw [if_neg (by decide)]; exact ex1_parse
  have p2 : parseO ex2 40 = some (.error (13, 9)) := by unfold parseO; rw [if_neg (by decide)]; exact ex2_parse
  have p3 : parseO ex3 40 = some (.error (13, 4)) := by unfold parseO; rw [if_neg (by decide)]; exact ex3_parse
  refine Wp.call (parse_fn hk (by decide) p1) (fun v σ1 hv => ?_) fun v σ' hv => by obtain ⟨_, _, hv, _⟩ := hv; cases hv
  obtain ⟨hu1, v1, hv, hsrc⟩ := hv
  cases hv
  obtain ⟨tb, c, rfl, hs⟩ := hsrc.src (by simp [allNodes])
  simp only [xTup_t, unC_c, xSl_s, xInt_i, nlC_n]
  have hg : ∀ x ∈ ex1l, x.good 27 := by
    intro x hx
    simp only [ex1l, List.mem_singleton] at hx
    subst hx
    have nm : ∀ c : UInt8, isLetter c = true → words.contains [c] = false → nameOk [c] := fun c h1 h2 => ⟨by simp, h2, c, [], rfl, h1, by simp⟩
    refine ⟨by decide, nm _ (by decide) (by decide), ?_, by decide, by decide, ?_, by decide⟩
    · intro y hy
      simp only [List.mem_singleton] at hy
      subst hy
      exact ⟨by decide, by decide, nm _ (by decide) (by decide), .inl rfl⟩
    · exact ⟨⟨by decide, ⟨⟨by decide, nm _ (by decide) (by decide)⟩, ⟨⟨by decide, by decide, by decide⟩, ⟨by decide, by decide, by decide⟩, by decide, by decide, by decide⟩, by decide, by decide, by decide⟩, by decide⟩, by decide, trivial⟩
  obtain ⟨nd2, hr, hsame⟩ := ex1_again
  have hk1 := hk.up hu1
  refine Wp.call (print_fn (ls := ex1l) (len := 27) (n := 60) (c2 := c) hk1 hs (by decide) hg (fun x hx ht => ?_) (fun x hx => ?_) (by rw [ex1_pr]; decide) (by decide) (by rw [ex1_pr]; exact hr) hsame) (fun v σ2 hv => ?_) fun v σ' hv => ?_
  · simp only [ex1l, List.mem_singleton] at hx
    subst hx; cases ht
  · simp only [ex1l, List.mem_singleton] at hx
    subst hx; rfl
  · obtain ⟨hu2, hv⟩ := hv
    rw [ex1_pr, if_neg (by decide)] at hv
    cases hv
    simp only [xTup_t, unC_c, xStr_s, xInt_i, nlC_n]
    have hk2 := hk1.up hu2
    refine Wp.call (parse_fn hk2 (by decide) p2) (fun v σ3 hv => ?_) fun v σ' hv => by obtain ⟨_, hv⟩ := hv; cases hv
    obtain ⟨hu3, hv⟩ := hv
    cases hv
    simp only [xTup_t, unC_c, xSl_s, xInt_i, nlC_n]
    refine Wp.call (parse_fn (hk2.up hu3) (by decide) p3) (fun v σ4 hv => ?_) fun v σ' hv => by obtain ⟨_, hv⟩ := hv; cases hv
    obtain ⟨hu4, hv⟩ := hv
    cases hv
    simp only [xTup_t, unC_c, xSl_s, xInt_i, nlC_n]
    refine Wp.pos rfl (Wp.pos rfl (Wp.pos (by decide) (Wp.pos rfl (Wp.pos (by decide) (Wp.pos rfl (Wp.pos rfl (Wp.pos rfl ?_)))))))
    exact Wp.ret ⟨rfl, hu1.trans (hu2.trans (hu3.trans hu4))⟩
  · obtain ⟨_, hv⟩ := hv
    split at hv <;> cases hv
end Go.Front

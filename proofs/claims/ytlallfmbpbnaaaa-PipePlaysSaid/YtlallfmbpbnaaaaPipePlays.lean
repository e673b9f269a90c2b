/- The row of PipePlays. -/
import Derived.Test.YtlallfmbpbnaaaaAmPlays
import Derived.Test.YtlallfmbpbnaaaaAmPipeRow
import Derived.Test.YtlallfmbpbnaaaaRows
namespace Go.Proofs.Ytlallfmbpbnaaaa
open Go.ChangeShapes Go.WideShapes Go.ChangeAt Go.RowKit Go.AM

theorem inR_wf {n : Int} (h : (Lit.int .i64 n).wf = true) : inR n := by
  simp only [Lit.wf, Bool.and_eq_true, decide_eq_true_eq] at h
  have e1 : IntKind.min .i64 = -9223372036854775808 := rfl
  have e2 : IntKind.max .i64 = 9223372036854775807 := rfl
  rw [e1, e2] at h
  unfold inR; omega

theorem act_d {H : Type} {d : DataW H} (h : FlatD Try.prog 2 27 d) : ∃ a : PAct, d = .agg [.lit (.int .i64 a.kind), .lit (.int .i64 a.n), .lit (.int .i64 a.k), .lit (.string a.s)] ∧ inR a.n ∧ inR a.k := by
  simp only [Try.underlying27, FlatD] at h
  obtain ⟨ds, rfl, h⟩ := h
  match ds, h with
  | [x, y, z, u], h =>
    simp only [All2, Try.underlying9, Try.underlying3] at h
    obtain ⟨⟨i, rfl, _⟩, ⟨j, rfl, hj⟩, ⟨k, rfl, hk⟩, ⟨s, rfl, _⟩, _⟩ := h
    exact ⟨⟨i, j, k, s⟩, rfl, inR_wf hj, inR_wf hk⟩
  | [], h => simp [All2] at h
  | [_], h => simp [All2] at h
  | [_, _], h => simp [All2] at h
  | [_, _, _], h => simp [All2] at h
  | _ :: _ :: _ :: _ :: _ :: _, h => simp [All2] at h

theorem pipe_wf {H : Type} {d : DataW H} (h : ArgD Try.prog 2 25 d) : ∃ p : PSt, d = .agg [.lit (.string p.s), .lit (.int .i64 p.r), .lit (.int .i64 p.w)] ∧ inR p.r ∧ inR p.w := by
  simp only [ArgD, Try.underlying25, FlatD] at h
  obtain ⟨ds, rfl, h⟩ := h
  match ds, h with
  | [a, b, c], h =>
    simp only [All2, Try.underlying9, Try.underlying3] at h
    obtain ⟨⟨s, rfl, _⟩, ⟨r, rfl, hr⟩, ⟨w, rfl, hw⟩, _⟩ := h
    exact ⟨⟨s, r, w⟩, rfl, inR_wf hr, inR_wf hw⟩
  | [], h => simp [All2] at h
  | [_], h => simp [All2] at h
  | [_, _], h => simp [All2] at h
  | _ :: _ :: _ :: _ :: _, h => simp [All2] at h

def actD {H : Type} (a : PAct) : DataW H := .agg [.lit (.int .i64 a.kind), .lit (.int .i64 a.n), .lit (.int .i64 a.k), .lit (.string a.s)]

theorem acts_d {H : Type} : ∀ {ds : List (DataW H)}, (∀ x ∈ ds, FlatD Try.prog 2 27 x) → ∃ l : List PAct, ds = l.map actD ∧ ∀ a ∈ l, inR a.n ∧ inR a.k
  | [], _ => ⟨[], rfl, by simp⟩
  | d :: ds, h => by
    obtain ⟨a, rfl, ha⟩ := act_d (h d (by simp))
    obtain ⟨l, rfl, hl⟩ := acts_d (ds := ds) (fun x hx => h x (by simp [hx]))
    refine ⟨a :: l, rfl, fun b hb => ?_⟩
    rcases List.mem_cons.1 hb with rfl | hb
    · exact ha
    · exact hl b hb

theorem acts_avs {H : Type} : ∀ l : List PAct, avsL (l.map (actD (H := H))) = l.flatMap cellsA
  | [] => rfl
  | a :: l => by
    rw [List.map_cons, avsL, acts_avs l, List.flatMap_cons]
    rfl

theorem acts_weights {H : Type} : ∀ (l : List PAct) (a : PAct), a ∈ l → a.s.length ∈ DataW.weightsAll Try.prog 27 (l.map (actD (H := H)))
  | b :: l, a, h => by
    rw [List.map_cons, DataW.weightsAll, List.mem_append]
    rcases List.mem_cons.1 h with rfl | h
    · left
      have : DataW.weights Try.prog 27 (actD (H := H) a) = [a.s.length] := by kernel_rfl
      rw [this]; simp
    · right; exact acts_weights l a h

theorem bytes27 : Try.prog.bytesOf 27 = 40 := by kernel_rfl

theorem plays_args {H : Type} (ds : List (DataW H)) (hd : All2 (ArgD Try.prog 2) [25, 22] ds) (hz : (DataW.weightsEach Try.prog [25, 22] ds).all (· ≤ reachBytes) = true) :
    ∃ n σ', callP Try.prog n 6 (absArgs Try.prog [25, 22] ds []).1 (absArgs Try.prog [25, 22] ds []).2 = some (.ret (.bool true), σ') := by
  obtain ⟨c, d, rfl⟩ : ∃ c d, ds = [c, d] := by
    match ds, hd with
    | [c, d], _ => exact ⟨c, d, rfl⟩
    | [], hd => simp [All2] at hd
    | [_], hd => simp [All2] at hd
    | _ :: _ :: _ :: _, hd => simp [All2] at hd
  obtain ⟨p, rfl, hr, hw⟩ := pipe_wf hd.1
  have hd := hd.2.1
  simp only [ArgD, Try.underlying22] at hd
  rcases hd with rfl | ⟨elems, spare, rfl, _, he⟩
  · have ha : absArgs Try.prog [25, 22] [DataW.agg (H := H) [.lit (.string p.s), .lit (.int .i64 p.r), .lit (.int .i64 p.w)], DataW.nil] [] = ([.agg [.str p.s, .int .i64 p.r, .int .i64 p.w], .slice none 0 (some 0) 4], []) := by kernel_rfl
    rw [ha]
    exact ⟨9, [], plays_nil (k := 0)⟩
  · obtain ⟨l, rfl, hl⟩ := acts_d he
    have ha : absArgs Try.prog [25, 22] [DataW.agg (H := H) [.lit (.string p.s), .lit (.int .i64 p.r), .lit (.int .i64 p.w)], DataW.slice (l.map (actD (H := H))) spare] [] = ([.agg [.str p.s, .int .i64 p.r, .int .i64 p.w], .slice (some (0, 0)) (l.map (actD (H := H))).length none 4], [.cells (avsL (l.map (actD (H := H)))) false]) := by kernel_rfl
    rw [ha, acts_avs, List.length_map]
    have hw1 : DataW.weights Try.prog 25 (DataW.agg (H := H) [.lit (.string p.s), .lit (.int .i64 p.r), .lit (.int .i64 p.w)]) = [p.s.length] := by kernel_rfl
    simp only [DataW.weightsEach, hw1] at hz
    simp only [DataW.weights, Try.underlying22, List.append_nil, List.all_cons, List.all_append, List.all_nil, Bool.and_eq_true] at hz
    have z0 := of_decide_eq_true hz.1.1
    have z1 := of_decide_eq_true hz.2.1
    rw [bytes27, List.length_map] at z1
    simp only [reachBytes] at z0 z1
    obtain ⟨σ', h⟩ := plays (N := p.s.length + l.length + 201) (B := p.s.length) (l := l) (p := p) (by omega) (by omega) (by omega) (fun a ha => by
      have := of_decide_eq_true (List.all_eq_true.1 hz.2.2.1 _ (acts_weights l a ha))
      simp only [reachBytes] at this
      exact ⟨by omega, hl a ha⟩) (by omega) ⟨Nat.le_refl _, hr, hw⟩
    exact ⟨_, _, h⟩

set_option maxRecDepth 100000 in
theorem pipePlays_lifted (os : Os) (started : os.Started) (H : Type) (enc : TypeId × Value → H) :
    ReturnsInHanded {} Try.checked os 6 .any (Rows.pipePlaysSpec.pre6 enc Try.prog Try.f6 Rows.pipePlaysRow.domain false) (Rows.pipePlaysSpec.post enc Try.prog Try.f6 false true false false) := by
  refine lifted_true (C := Try.checked) (k := 2) (tb := 4) Try.own1 started (by kernel_rfl) Try.func6
    (ChangeSpec.witness6 (enc := enc) (C := Try.checked) false ⟨#[], #[.agg #[.string ⟨#[]⟩, .int .i64 0, .int .i64 0], .slice none 0 0], []⟩ 8 (by kernel_rfl) (by kernel_rfl) (by kernel_rfl) (by kernel_rfl))
    rfl (by kernel_rfl) (by kernel_rfl) Try.laid1 Try.pok ?_ ?_ ?_
  · have h : (Try.f6.params.toList.all fun t => okT Try.prog 2 t && Try.prog.readableRec t && decide (t < Try.prog.types.size)) = true := by kernel_rfl
    intro t ht
    have := List.all_eq_true.1 h t ht
    simp only [Bool.and_eq_true, decide_eq_true_eq] at this
    exact ⟨this.1.1, this.1.2, this.2⟩
  · intro ds hd
    have h3 : ds.length = 2 := hd
    match ds, h3 with
    | [_, _], _ => rfl
  · intro ds hd hz
    exact plays_args ds hd hz

theorem pipePlays_holds : Rows.PipePlaysSaid :=
  OpenClaim.holds_of_wide 6 Try.f6 rfl rfl rfl rfl rfl rfl rfl ⟨rfl, rfl, rfl, rfl, rfl⟩ rfl rfl rfl rfl rfl (by kernel_rfl) Try.func6 (by kernel_rfl)
    (of_decide_eq_true (by kernel_rfl)) (by unfold Func.isWrapper; first | (rw [if_pos (by decide +kernel)]; kernel_rfl) | (rw [if_neg (by decide +kernel)]; exact ⟨rfl, rfl⟩))
    (fun os started H enc _ => pipePlays_lifted os started H enc)

end Go.Proofs.Ytlallfmbpbnaaaa

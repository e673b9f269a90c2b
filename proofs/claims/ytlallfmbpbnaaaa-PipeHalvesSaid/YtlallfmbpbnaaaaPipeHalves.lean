/- The row of PipeHalves. -/
import Derived.Test.YtlallfmbpbnaaaaAmHalves
import Derived.Test.YtlallfmbpbnaaaaAmLaw
import Derived.Test.YtlallfmbpbnaaaaRows
namespace Go.Proofs.Ytlallfmbpbnaaaa
open Go.ChangeShapes Go.WideShapes Go.ChangeAt Go.RowKit Go.AM

theorem Try.own1 : ownKnob Try.prog.godebug = none := by kernel_rfl
theorem Try.laid1 : laidOutB Try.prog = true := by kernel_rfl
theorem Try.pok : POk Try.prog := pok_of (by kernel_rfl) (by kernel_rfl) (by kernel_rfl)

theorem str_d {H : Type} {d : DataW H} (h : ArgD Try.prog 2 9 d) : ∃ s, d = .lit (.string s) := by
  simp only [ArgD, Try.underlying9, FlatD] at h
  obtain ⟨s, rfl, _⟩ := h
  exact ⟨s, rfl⟩

theorem pipe_d {H : Type} {d : DataW H} (h : ArgD Try.prog 2 25 d) : ∃ s r w, d = .agg [.lit (.string s), .lit (.int .i64 r), .lit (.int .i64 w)] := by
  simp only [ArgD, Try.underlying25, FlatD] at h
  obtain ⟨ds, rfl, h⟩ := h
  match ds, h with
  | [a, b, c], h =>
    simp only [All2, Try.underlying9, Try.underlying3] at h
    obtain ⟨⟨s, rfl, _⟩, ⟨r, rfl, _⟩, ⟨w, rfl, _⟩, _⟩ := h
    exact ⟨s, r, w, rfl⟩
  | [], h => simp [All2] at h
  | [_], h => simp [All2] at h
  | [_, _], h => simp [All2] at h
  | _ :: _ :: _ :: _ :: _, h => simp [All2] at h

set_option maxRecDepth 100000 in
theorem pipeHalves_lifted (os : Os) (started : os.Started) (H : Type) (enc : TypeId × Value → H) :
    ReturnsInHanded {} Try.checked os 4 .any (Rows.pipeHalvesSpec.pre6 enc Try.prog Try.f4 Rows.pipeHalvesRow.domain false) (Rows.pipeHalvesSpec.post enc Try.prog Try.f4 false true false false) := by
  refine lifted_true (C := Try.checked) (k := 2) (tb := 4) Try.own1 started (by kernel_rfl) Try.func4
    (ChangeSpec.witness6 (enc := enc) (C := Try.checked) false ⟨#[], #[.agg #[.string ⟨#[]⟩, .int .i64 0, .int .i64 0], .string ⟨#[]⟩, .string ⟨#[]⟩], []⟩ 8 (by kernel_rfl) (by kernel_rfl) (by kernel_rfl) (by kernel_rfl))
    rfl (by kernel_rfl) (by kernel_rfl) Try.laid1 Try.pok ?_ ?_ ?_
  · have h : (Try.f4.params.toList.all fun t => okT Try.prog 2 t && Try.prog.readableRec t && decide (t < Try.prog.types.size)) = true := by kernel_rfl
    intro t ht
    have := List.all_eq_true.1 h t ht
    simp only [Bool.and_eq_true, decide_eq_true_eq] at this
    exact ⟨this.1.1, this.1.2, this.2⟩
  · intro ds hd
    have h3 : ds.length = 3 := hd
    match ds, h3 with
    | [_, _, _], _ => rfl
  · intro ds hd hz
    have hd' : All2 (ArgD Try.prog 2) [25, 9, 9] ds := hd
    have hz' : (DataW.weightsEach Try.prog [25, 9, 9] ds).all (· ≤ reachBytes) = true := hz
    match ds, hd' with
    | [a, b, c], hd' =>
      obtain ⟨h1, h2, h3, _⟩ := hd'
      obtain ⟨s, r, w, rfl⟩ := pipe_d h1
      obtain ⟨t, rfl⟩ := str_d h2
      obtain ⟨u, rfl⟩ := str_d h3
      have hw : DataW.weightsEach Try.prog [25, 9, 9] [DataW.agg (H := H) [.lit (.string s), .lit (.int .i64 r), .lit (.int .i64 w)], .lit (.string t), .lit (.string u)] = [s.length, t.length, u.length] := by kernel_rfl
      rw [hw] at hz'
      have z1 := of_decide_eq_true (List.all_eq_true.1 hz' s.length (by simp))
      have z2 := of_decide_eq_true (List.all_eq_true.1 hz' t.length (by simp))
      have z3 := of_decide_eq_true (List.all_eq_true.1 hz' u.length (by simp))
      simp only [reachBytes] at z1 z2 z3
      exact ⟨8, [], halves (n := 0) (s := s) (t := t) (u := u) (r := r) (w := w) (σ := []) (by omega) (by omega) (by omega)⟩

theorem pipeHalves_holds : Rows.PipeHalvesSaid :=
  OpenClaim.holds_of_wide 4 Try.f4 rfl rfl rfl rfl rfl rfl rfl ⟨rfl, rfl, rfl, rfl, rfl⟩ rfl rfl rfl rfl rfl (by kernel_rfl) Try.func4 (by kernel_rfl)
    (of_decide_eq_true (by kernel_rfl)) (by unfold Func.isWrapper; first | (rw [if_pos (by decide +kernel)]; kernel_rfl) | (rw [if_neg (by decide +kernel)]; exact ⟨rfl, rfl⟩))
    (fun os started H enc _ => pipeHalves_lifted os started H enc)

end Go.Proofs.Ytlallfmbpbnaaaa

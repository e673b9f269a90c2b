/- The row of PipeEnds. -/
import Derived.Test.YtlallfmbpbnaaaaAmEnds
import Derived.Test.YtlallfmbpbnaaaaAmPipeRow
import Derived.Test.YtlallfmbpbnaaaaRows
namespace Go.Proofs.Ytlallfmbpbnaaaa
open Go.ChangeShapes Go.WideShapes Go.ChangeAt Go.RowKit Go.AM

theorem ends_args {H : Type} (ds : List (DataW H)) (hd : All2 (ArgD Try.prog 2) [25, 3, 9] ds) (hz : (DataW.weightsEach Try.prog [25, 3, 9] ds).all (· ≤ reachBytes) = true) :
    ∃ n σ', callP Try.prog n 5 (absArgs Try.prog [25, 3, 9] ds []).1 (absArgs Try.prog [25, 3, 9] ds []).2 = some (.ret (.bool true), σ') := by
  obtain ⟨a, b, c, rfl⟩ : ∃ a b c, ds = [a, b, c] := by
    match ds, hd with
    | [a, b, c], _ => exact ⟨a, b, c, rfl⟩
    | [], hd => simp [All2] at hd
    | [_], hd => simp [All2] at hd
    | [_, _], hd => simp [All2] at hd
    | _ :: _ :: _ :: _ :: _, hd => simp [All2] at hd
  obtain ⟨h1, h2, h3, _⟩ := hd
  obtain ⟨s, r, w, rfl⟩ := pipe_d h1
  obtain ⟨m, rfl, _⟩ := int_d h2
  obtain ⟨u, rfl⟩ := str_d h3
  have hw : DataW.weightsEach Try.prog [25, 3, 9] [DataW.agg (H := H) [.lit (.string s), .lit (.int .i64 r), .lit (.int .i64 w)], .lit (.int .i64 m), .lit (.string u)] = [s.length, u.length] := by kernel_rfl
  rw [hw] at hz
  have z3 := of_decide_eq_true (List.all_eq_true.1 hz u.length (by simp))
  simp only [reachBytes] at z3
  have ha : absArgs Try.prog [25, 3, 9] [DataW.agg (H := H) [.lit (.string s), .lit (.int .i64 r), .lit (.int .i64 w)], .lit (.int .i64 m), .lit (.string u)] [] = ([.agg [.str s, .int .i64 r, .int .i64 w], .int .i64 m, .str u], []) := by kernel_rfl
  rw [ha]
  exact ⟨s.length + 9, [], ends (Nat.le_refl _) (by omega)⟩

set_option maxRecDepth 100000 in
theorem pipeEnds_lifted (os : Os) (started : os.Started) (H : Type) (enc : TypeId × Value → H) :
    ReturnsInHanded {} Try.checked os 5 .any (Rows.pipeEndsSpec.pre6 enc Try.prog Try.f5 Rows.pipeEndsRow.domain false) (Rows.pipeEndsSpec.post enc Try.prog Try.f5 false true false false) := by
  refine lifted_true (C := Try.checked) (k := 2) (tb := 4) Try.own1 started (by kernel_rfl) Try.func5
    (ChangeSpec.witness6 (enc := enc) (C := Try.checked) false ⟨#[], #[.agg #[.string ⟨#[]⟩, .int .i64 0, .int .i64 0], .int .i64 0, .string ⟨#[]⟩], []⟩ 8 (by kernel_rfl) (by kernel_rfl) (by kernel_rfl) (by kernel_rfl))
    rfl (by kernel_rfl) (by kernel_rfl) Try.laid1 Try.pok ?_ ?_ ?_
  · have h : (Try.f5.params.toList.all fun t => okT Try.prog 2 t && Try.prog.readableRec t && decide (t < Try.prog.types.size)) = true := by kernel_rfl
    intro t ht
    have := List.all_eq_true.1 h t ht
    simp only [Bool.and_eq_true, decide_eq_true_eq] at this
    exact ⟨this.1.1, this.1.2, this.2⟩
  · intro ds hd
    have h3 : ds.length = 3 := hd
    match ds, h3 with
    | [_, _, _], _ => rfl
  · intro ds hd hz
    exact ends_args ds hd hz

theorem pipeEnds_holds : Rows.PipeEndsSaid :=
  OpenClaim.holds_of_wide 5 Try.f5 rfl rfl rfl rfl rfl rfl rfl ⟨rfl, rfl, rfl, rfl, rfl⟩ rfl rfl rfl rfl rfl (by kernel_rfl) Try.func5 (by kernel_rfl)
    (of_decide_eq_true (by kernel_rfl)) (by unfold Func.isWrapper; first | (rw [if_pos (by decide +kernel)]; kernel_rfl) | (rw [if_neg (by decide +kernel)]; exact ⟨rfl, rfl⟩))
    (fun os started H enc _ => pipeEnds_lifted os started H enc)

end Go.Proofs.Ytlallfmbpbnaaaa

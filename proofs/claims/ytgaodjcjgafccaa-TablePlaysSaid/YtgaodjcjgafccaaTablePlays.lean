/- The row of TablePlays. -/
import Derived.Test.YtgaodjcjgafccaaAmTabArgs2
import Derived.Test.YtgaodjcjgafccaaRows
namespace Go.Proofs.Ytgaodjcjgafccaa
open Go.ChangeShapes Go.WideShapes Go.ChangeAt Go.RowKit Go.AM

set_option maxRecDepth 100000 in
theorem tablePlays_lifted (os : Os) (started : os.Started) (H : Type) (enc : TypeId × Value → H) :
    ReturnsInHanded {} Try.checked os 6 .any (Rows.tablePlaysSpec.pre6 enc Try.prog Try.f6 Rows.tablePlaysRow.domain false) (Rows.tablePlaysSpec.post enc Try.prog Try.f6 false true false false) := by
  refine lifted_true2 (C := Try.checked) (k := 5) (tb := 4) Try.own1 started (by kernel_rfl) Try.func6
    (ChangeSpec.witness6 (enc := enc) (C := Try.checked) false ⟨#[], #[.agg ((Array.replicate 8 #[.int .i64 0, .int .i64 0, .int .i64 0, .bool false]).flatten ++ (#[.bool false] ++ (Array.replicate 8 (.bool false) ++ #[.slice none 0 0])))], []⟩ 8 (by kernel_rfl) (by kernel_rfl) (by kernel_rfl) (by kernel_rfl))
    rfl (by kernel_rfl) (by kernel_rfl) Try.laid1 Try.pok ?_ ?_ ?_
  · have h : (Try.f6.params.toList.all fun t => (okS Try.prog 5 t || okT Try.prog 5 t) && Try.prog.readableRec t && decide (t < Try.prog.types.size)) = true := by kernel_rfl
    intro t ht
    have := List.all_eq_true.1 h t ht
    simp only [Bool.and_eq_true, decide_eq_true_eq] at this
    exact ⟨this.1.1, this.1.2, this.2⟩
  · intro ds hd
    have h3 : ds.length = 1 := hd
    match ds, h3 with
    | [_], _ => rfl
  · intro ds hd hz
    exact plays_args ds hd hz

theorem tablePlays_holds : Rows.TablePlaysSaid :=
  OpenClaim.holds_of_wide 6 Try.f6 rfl rfl rfl rfl rfl rfl rfl ⟨rfl, rfl, rfl, rfl, rfl⟩ rfl rfl rfl rfl rfl (by kernel_rfl) Try.func6 (by kernel_rfl)
    (of_decide_eq_true (by kernel_rfl)) (by unfold Func.isWrapper; first | (rw [if_pos (by decide +kernel)]; kernel_rfl) | (rw [if_neg (by decide +kernel)]; exact ⟨rfl, rfl⟩))
    (fun os started H enc _ => tablePlays_lifted os started H enc)

end Go.Proofs.Ytgaodjcjgafccaa

/- What the pipe's rows share: closed facts of the program, and the forms of the arguments. -/
import Derived.Test.YtlallfmbpbnaaaaAmPipe
import Derived.Test.YtlallfmbpbnaaaaAmLaw
namespace Go.Proofs.Ytlallfmbpbnaaaa
open Go.AM

theorem Try.own1 : ownKnob Try.prog.godebug = none := by kernel_rfl
theorem Try.laid1 : laidOutB Try.prog = true := by kernel_rfl
theorem Try.pok : POk Try.prog := pok_of (by kernel_rfl) (by kernel_rfl) (by kernel_rfl)

theorem str_d {H : Type} {d : DataW H} (h : ArgD Try.prog 2 9 d) : ∃ s, d = .lit (.string s) := by
  simp only [ArgD, Try.underlying9, FlatD] at h
  obtain ⟨s, rfl, _⟩ := h
  exact ⟨s, rfl⟩

theorem pipe_d {H : Type} {d : DataW H} (h : ArgD Try.prog 2 25 d) : ∃ s r w, d = .agg [.lit (.string s), .lit (.int .i64 r), .lit (.int .i64 w)] := by
  simp only [ArgD, Try.underlying25, FlatD] at h
  obtain ⟨ds, rfl, h⟩ := h
  match ds, h with
  | [a, b, c], h =>
    simp only [All2, Try.underlying9, Try.underlying3] at h
    obtain ⟨⟨s, rfl, _⟩, ⟨r, rfl, _⟩, ⟨w, rfl, _⟩, _⟩ := h
    exact ⟨s, r, w, rfl⟩
  | [], h => simp [All2] at h
  | [_], h => simp [All2] at h
  | [_, _], h => simp [All2] at h
  | _ :: _ :: _ :: _ :: _, h => simp [All2] at h

theorem int_d {H : Type} {d : DataW H} (h : ArgD Try.prog 2 3 d) : ∃ n, d = .lit (.int .i64 n) ∧ (Lit.int .i64 n).wf = true := by
  simp only [ArgD, Try.underlying3, FlatD] at h
  exact h

end Go.Proofs.Ytlallfmbpbnaaaa

/- What the table's rows share: closed facts of the program, and the forms of the arguments. -/
import Derived.Test.YtgaodjcjgafccaaAmTabA
import Derived.Test.YtgaodjcjgafccaaAmLaw
namespace Go.Proofs.Ytgaodjcjgafccaa
open Go.AM

theorem Try.own1 : ownKnob Try.prog.godebug = none := by kernel_rfl
theorem Try.laid1 : laidOutB Try.prog = true := by kernel_rfl
theorem Try.pok : POk Try.prog := pok_of (by kernel_rfl) (by kernel_rfl) (by kernel_rfl)

theorem int_d {H : Type} {d : DataW H} (h : ArgD Try.prog 5 3 d) : ∃ n, d = .lit (.int .i64 n) ∧ (Lit.int .i64 n).wf = true := by
  simp only [ArgD, Try.underlying3, FlatD] at h
  exact h

def rowD {H : Type} (r : Rw) : DataW H := .agg [.lit (.int .i64 r.st), .lit (.int .i64 r.pa), .lit (.int .i64 r.sta), .lit (.bool r.kl)]

theorem row_d {H : Type} {d : DataW H} {k : Nat} (h : FlatD Try.prog (k + 2) 25 d) : ∃ r : Rw, d = rowD r := by
  simp only [Try.underlying25, FlatD] at h
  obtain ⟨ds, rfl, h⟩ := h
  match ds, h with
  | [x, y, z, u], h =>
    simp only [All2, Try.underlying4, Try.underlying3] at h
    obtain ⟨⟨i, rfl, _⟩, ⟨j, rfl, _⟩, ⟨k, rfl, _⟩, ⟨s, rfl⟩, _⟩ := h
    exact ⟨⟨i, j, k, s⟩, rfl⟩
  | [], h => simp [All2] at h
  | [_], h => simp [All2] at h
  | [_, _], h => simp [All2] at h
  | [_, _, _], h => simp [All2] at h
  | _ :: _ :: _ :: _ :: _ :: _, h => simp [All2] at h

theorem rows_d {H : Type} {k : Nat} : ∀ {ds : List (DataW H)}, (∀ x ∈ ds, FlatD Try.prog (k + 2) 25 x) → ∃ T : List Rw, ds = T.map rowD
  | [], _ => ⟨[], rfl⟩
  | d :: ds, h => by
    obtain ⟨a, rfl⟩ := row_d (h d (by simp))
    obtain ⟨l, rfl⟩ := rows_d (ds := ds) (fun x hx => h x (by simp [hx]))
    exact ⟨a :: l, rfl⟩

theorem tab_flat {H : Type} {d : DataW H} {k : Nat} (h : FlatD Try.prog (k + 3) 27 d) : ∃ T : List Rw, T.length = 8 ∧ d = .agg (T.map rowD) := by
  rw [flatD_arr Try.underlying27] at h
  obtain ⟨ds, rfl, hl, h⟩ := h
  obtain ⟨T, rfl⟩ := rows_d (k := k) h
  exact ⟨T, by simpa using hl, rfl⟩

theorem tab_d {H : Type} {d : DataW H} (h : ArgD Try.prog 5 27 d) : ∃ T : List Rw, T.length = 8 ∧ d = .agg (T.map rowD) := by
  have h' : FlatD Try.prog 5 27 d := by simpa only [ArgD, Try.underlying27] using h
  exact tab_flat (k := 2) h'

theorem tab_avs {H : Type} : ∀ T : List Rw, avsL (T.map (rowD (H := H))) = tb T
  | [] => rfl
  | a :: T => by
    rw [List.map_cons, avsL, tab_avs T]
    show avs (rowD a) ++ tb T = rwC a ++ tb T
    rfl

end Go.Proofs.Ytgaodjcjgafccaa

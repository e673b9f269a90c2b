/- PipeHalves: what it answers. -/
import Derived.Test.YtlallfmbpbnaaaaAmPipe
import Derived.Test.YtlallfmbpbnaaaaAmP1
namespace Go.Proofs
open Go.AM

theorem wS_len (s : List UInt8) (r : Int) (t : List UInt8) : (wS s r t).length ≤ s.length + t.length := by
  unfold wS
  split
  · simp
  · split
    · omega
    · simp; omega

theorem wBad_iff (s t : List UInt8) : wBad s t = true ↔ (min (64 - s.length) t.length = 0 ∧ 0 < t.length) := by simp [wBad, room]

theorem halves {n : Nat} {σ : St} {s t u : List UInt8} {r w : Int} (hs : s.length ≤ 1152921504606846976) (ht : t.length ≤ 1152921504606846976) (hu : u.length ≤ 576460752303423488) :
    callP Try.prog (n + 8) 4 [pipeV s r w, .str t, .str u] σ = some (.ret (.bool true), σ) := by
  have hl := wS_len s r t
  rw [f4_in, f4_r1_0 shown_true, f4_r2_3 (by omega), f4_r2_4 (f8_parts (by omega) (by simp; omega)), f4_r3_2 (f8_parts (by omega) (by omega)), f4_r4_2 (f8_parts (by omega) (by omega))]
  by_cases hr : r < 1
  · simp [wE, hr]
  · by_cases h1 : wBad s t
    · simp [wE, wK, wS, wR, wW, hr, h1]
      by_cases h2 : wBad s (t ++ u) <;> simp [h2]
    · simp [wE, wK, wS, wR, wW, hr, h1]
      by_cases h2 : wBad s (t ++ u)
      · have h1' := h1
        have h2' := h2
        rw [wBad_iff] at h1' h2'; rw [List.length_append] at h2'
        have e1 : t = [] := by cases t; rfl; simp at h1' h2'; omega
        subst e1
        have e3 : wBad s u = true := by
          rw [wBad_iff]
          simp only [List.length_nil, Nat.zero_add] at h2'
          omega
        simp [room, e3] at *
      · by_cases h3 : room s t < t.length
        · simp [h2, h3]
        · have hrt : room s t = t.length := by unfold room at *; omega
          have h2' := h2
          have h3' := hrt
          rw [wBad_iff, List.length_append] at h2'
          unfold room at h3'
          simp only [hrt, List.take_length, h2, Bool.false_eq_true, if_false, Nat.lt_irrefl, decide_false, cond]
          by_cases h4 : wBad (s ++ t) u
          · have h4' := h4
            rw [wBad_iff, List.length_append] at h4'
            have e1 : room s (t ++ u) = t.length := by unfold room; simp; omega
            simp [h4, e1]
          · have h4' := h4
            rw [wBad_iff, List.length_append] at h4'
            have e1 : room s (t ++ u) = t.length + room (s ++ t) u := by unfold room; simp; omega
            have e2 : room (s ++ t) u ≤ u.length := Nat.min_le_right _ _
            have e3 : IntKind.wrap .i64 ((t.length : Int) + (room (s ++ t) u : Int)) = (t.length : Int) + (room (s ++ t) u : Int) := wrap64 (by omega) (by omega)
            have e4 : List.take (t.length + room (s ++ t) u) (t ++ u) = t ++ List.take (room (s ++ t) u) u := List.take_length_add_append _
            simp [h4, e1, e3, e4]

end Go.Proofs

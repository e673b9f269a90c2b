/- The arguments of the table's rows, where there are lists of acts. -/
import Derived.Test.YtgaodjcjgafccaaAmPlays
import Derived.Test.YtgaodjcjgafccaaAmTabArgs
import Derived.Test.YtgaodjcjgafccaaAmLaw2
namespace Go.Proofs.Ytgaodjcjgafccaa
open Go.AM

section
variable {H : Type}

def tactD (a : TAct) : DataW H := .agg [.lit (.int .i64 a.kind), .lit (.int .i64 a.pid), .lit (.int .i64 a.n)]

theorem tacts_d {k : Nat} : ∀ {ds : List (DataW H)}, (∀ x ∈ ds, FlatD Try.prog (k + 2) 30 x) → ∃ l : List TAct, ds = l.map tactD
  | [], _ => ⟨[], rfl⟩
  | d :: ds, h => by
    have h0 := h d (by simp)
    rw [flatD_struct Try.underlying30] at h0
    obtain ⟨xs, rfl, h0⟩ := h0
    obtain ⟨x, y, z, rfl, g1, g2, g3⟩ := all2_3 h0 rfl
    obtain ⟨i, rfl, _⟩ := (flatD_int Try.underlying3).1 g1
    obtain ⟨j, rfl, _⟩ := (flatD_int Try.underlying3).1 g2
    obtain ⟨m, rfl, _⟩ := (flatD_int Try.underlying3).1 g3
    obtain ⟨l, rfl⟩ := tacts_d (ds := ds) (fun x hx => h x (by simp [hx]))
    exact ⟨⟨i, j, m⟩ :: l, rfl⟩

theorem tacts_avs : ∀ l : List TAct, avsL (l.map (tactD (H := H))) = l.flatMap tactC
  | [] => rfl
  | a :: l => by
    rw [List.map_cons, avsL, tacts_avs l, List.flatMap_cons]
    rfl

theorem bytes30 : Try.prog.bytesOf 30 = 24 := by kernel_rfl

theorem once_args (ds : List (DataW H)) (hd : All2 (ArgD Try.prog 5) [22] ds) (hz : (DataW.weightsEach Try.prog [22] ds).all (· ≤ reachBytes) = true) :
    ∃ n σ', callP Try.prog n 3 (absArgs Try.prog [22] ds []).1 (absArgs Try.prog [22] ds []).2 = some (.ret (.bool true), σ') := by
  match ds, hd with
  | [d], hd' =>
    have hd := hd'.1
    simp only [ArgD, Try.underlying22] at hd
    rcases hd with rfl | ⟨elems, spare, rfl, hm, he⟩
    · have ha : absArgs Try.prog [22] [DataW.nil (H := H)] [] = ([.slice none 0 (some 0) 3], []) := by kernel_rfl
      rw [ha]
      exact ⟨21, [], once_nil (n := 0)⟩
    · obtain ⟨l, rfl⟩ := tacts_d he
      have ha : absArgs Try.prog [22] [DataW.slice (l.map (tactD (H := H))) spare] [] = ([.slice (some (0, 0)) (l.map (tactD (H := H))).length none 3], [.cells (avsL (l.map (tactD (H := H)))) false]) := by kernel_rfl
      rw [ha, tacts_avs, List.length_map]
      simp only [DataW.weightsEach, DataW.weights, Try.underlying22, List.append_nil, List.all_cons, Bool.and_eq_true] at hz
      have z1 := of_decide_eq_true hz.1
      rw [bytes30, List.length_map] at z1
      simp only [reachBytes] at z1
      exact ⟨_, _, once (n := 0) (l := l) (by omega)⟩
  | [], h => exact False.elim h
  | _ :: _ :: _, h => exact h.2.elim

theorem plays_args (ds : List (DataW H)) (hd : All2 (ArgD2 Try.prog 5) [47] ds) (hz : (DataW.weightsEach Try.prog [47] ds).all (· ≤ reachBytes) = true) :
    ∃ n σ', callP Try.prog n 6 (absArgs2 Try.prog 5 [47] ds []).1 (absArgs2 Try.prog 5 [47] ds []).2 = some (.ret (.bool true), σ') := by
  have hS : okS Try.prog 5 47 = true := by kernel_rfl
  match ds, hd with
  | [a], hd' =>
    have h1 := hd'.1
    simp only [ArgD2, hS, if_true, Try.underlying47] at h1
    obtain ⟨xs, rfl, h3⟩ := h1
    obtain ⟨x, y, z, u, rfl, g1, g2, g3, g4⟩ := all2_4 h3 rfl
    obtain ⟨T, hT, rfl⟩ := tab_d g1
    have g2' : FlatD Try.prog 5 4 y := by simpa only [ArgD, Try.underlying4] using g2
    obtain ⟨first, rfl⟩ := (flatD_bool Try.underlying4).1 g2'
    have g3' : FlatD Try.prog 5 40 z := by simpa only [ArgD, Try.underlying40] using g3
    rw [flatD_arr Try.underlying40] at g3'
    obtain ⟨bs, rfl, hB, g3'⟩ := g3'
    obtain ⟨B, rfl⟩ := bools_d g3'
    have hB' : B.length = 8 := by simpa using hB
    simp only [ArgD, Try.underlying22] at g4
    rcases g4 with rfl | ⟨elems, spare, rfl, hm, he⟩
    · have ha : absArgs2 Try.prog 5 [47] [DataW.agg [.agg (T.map (rowD (H := H))), .lit (.bool first), .agg (B.map (boolD (H := H))), .nil]] [] =
          ([.agg (avsL (T.map (rowD (H := H))) ++ ([.bool first] ++ (avsL (B.map (boolD (H := H))) ++ [.slice none 0 (some 0) 3])))], []) := by kernel_rfl
      rw [ha, tab_avs, bools_avs]
      exact ⟨21, [], plays_none (n := 0) hT hB' first⟩
    · obtain ⟨l, rfl⟩ := tacts_d he
      have ha : absArgs2 Try.prog 5 [47] [DataW.agg [.agg (T.map (rowD (H := H))), .lit (.bool first), .agg (B.map (boolD (H := H))), .slice (l.map (tactD (H := H))) spare]] [] =
          ([.agg (avsL (T.map (rowD (H := H))) ++ ([.bool first] ++ (avsL (B.map (boolD (H := H))) ++ [.slice (some (0, 0)) (l.map (tactD (H := H))).length none 3])))], [.cells (avsL (l.map (tactD (H := H)))) false]) := by kernel_rfl
      rw [ha, tab_avs, bools_avs, tacts_avs, List.length_map]
      have hl : l.length ≤ 9007199254740992 := by
        have e : DataW.weightsEach Try.prog [47] [DataW.agg [.agg (T.map (rowD (H := H))), .lit (.bool first), .agg (B.map (boolD (H := H))), .slice (l.map (tactD (H := H))) spare]] = DataW.weights Try.prog 47 (DataW.agg [.agg (T.map (rowD (H := H))), .lit (.bool first), .agg (B.map (boolD (H := H))), .slice (l.map (tactD (H := H))) spare]) ++ [] := rfl
        rw [e, List.append_nil] at hz
        have hm : ((l.map (tactD (H := H))).length + spare.length) * Try.prog.bytesOf 30 ∈ DataW.weights Try.prog 47 (DataW.agg [.agg (T.map (rowD (H := H))), .lit (.bool first), .agg (B.map (boolD (H := H))), .slice (l.map (tactD (H := H))) spare]) := by
          rw [DataW.weights.eq_def]
          simp only [Try.underlying47, DataW.weightsEach, List.map_cons, List.map_nil]
          rw [DataW.weights.eq_def Try.prog 22]
          simp [Try.underlying22]
        have := of_decide_eq_true (List.all_eq_true.1 hz _ hm)
        rw [bytes30, List.length_map] at this
        simp only [reachBytes] at this
        omega
      exact ⟨_, _, plays (n := 0) hT hB' first hl⟩
  | [], h => exact False.elim h
  | _ :: _ :: _, h => exact h.2.elim

end
end Go.Proofs.Ytgaodjcjgafccaa

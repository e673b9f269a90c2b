/- The arguments of the table's rows. -/
import Derived.Test.YtgaodjcjgafccaaAmForks
import Derived.Test.YtgaodjcjgafccaaAmWaits
import Derived.Test.YtgaodjcjgafccaaAmFair
import Derived.Test.YtgaodjcjgafccaaAmTabRow
namespace Go.Proofs.Ytgaodjcjgafccaa
open Go.AM

section
variable {H : Type}

theorem forks_args (ds : List (DataW H)) (hd : All2 (ArgD Try.prog 5) [27, 3] ds) (_ : (DataW.weightsEach Try.prog [27, 3] ds).all (· ≤ reachBytes) = true) :
    ∃ n σ', callP Try.prog n 5 (absArgs Try.prog [27, 3] ds []).1 (absArgs Try.prog [27, 3] ds []).2 = some (.ret (.bool true), σ') := by
  match ds, hd with
  | [a, b], hd' =>
    obtain ⟨h1, h2, _⟩ := hd'
    obtain ⟨T, hT, rfl⟩ := tab_d h1
    obtain ⟨pid, rfl, _⟩ := int_d h2
    have ha : absArgs Try.prog [27, 3] [DataW.agg (T.map (rowD (H := H))), .lit (.int .i64 pid)] [] = ([.agg (avsL (T.map (rowD (H := H)))), .int .i64 pid], []) := by kernel_rfl
    rw [ha, tab_avs]
    exact ⟨20, [], forks (n := 0) hT pid⟩
  | [], h => simp [All2] at h
  | [_], h => simp [All2] at h
  | _ :: _ :: _ :: _, h => simp [All2] at h

theorem waits_args (ds : List (DataW H)) (hd : All2 (ArgD Try.prog 5) [27, 3, 3] ds) (_ : (DataW.weightsEach Try.prog [27, 3, 3] ds).all (· ≤ reachBytes) = true) :
    ∃ n σ', callP Try.prog n 7 (absArgs Try.prog [27, 3, 3] ds []).1 (absArgs Try.prog [27, 3, 3] ds []).2 = some (.ret (.bool true), σ') := by
  match ds, hd with
  | [a, b, c], hd' =>
    obtain ⟨h1, h2, h3, _⟩ := hd'
    obtain ⟨T, hT, rfl⟩ := tab_d h1
    obtain ⟨pid, rfl, _⟩ := int_d h2
    obtain ⟨other, rfl, _⟩ := int_d h3
    have ha : absArgs Try.prog [27, 3, 3] [DataW.agg (T.map (rowD (H := H))), .lit (.int .i64 pid), .lit (.int .i64 other)] [] = ([.agg (avsL (T.map (rowD (H := H)))), .int .i64 pid, .int .i64 other], []) := by kernel_rfl
    rw [ha, tab_avs]
    exact ⟨21, [], waits (n := 0) hT pid other⟩
  | [], h => simp [All2] at h
  | [_], h => simp [All2] at h
  | [_, _], h => simp [All2] at h
  | _ :: _ :: _ :: _ :: _, h => simp [All2] at h

def boolD (b : Bool) : DataW H := .lit (.bool b)
theorem bools_d {k : Nat} : ∀ {ds : List (DataW H)}, (∀ x ∈ ds, FlatD Try.prog (k + 1) 4 x) → ∃ B : List Bool, ds = B.map boolD
  | [], _ => ⟨[], rfl⟩
  | d :: ds, h => by
    obtain ⟨b, rfl⟩ := (flatD_bool Try.underlying4).1 (h d (by simp))
    obtain ⟨l, rfl⟩ := bools_d (ds := ds) (fun x hx => h x (by simp [hx]))
    exact ⟨b :: l, rfl⟩
theorem bools_avs : ∀ B : List Bool, avsL (B.map (boolD (H := H))) = bb B
  | [] => rfl
  | a :: B => by
    rw [List.map_cons, avsL, bools_avs B]
    rfl

theorem fair_args (ds : List (DataW H)) (hd : All2 (ArgD Try.prog 5) [42] ds) (_ : (DataW.weightsEach Try.prog [42] ds).all (· ≤ reachBytes) = true) :
    ∃ n σ', callP Try.prog n 4 (absArgs Try.prog [42] ds []).1 (absArgs Try.prog [42] ds []).2 = some (.ret (.bool true), σ') := by
  match ds, hd with
  | [a], hd' =>
    obtain ⟨h1, _⟩ := hd'
    have h2 : FlatD Try.prog 5 42 a := by simpa only [ArgD, Try.underlying42] using h1
    clear h1
    rw [flatD_struct Try.underlying42] at h2
    obtain ⟨xs, rfl, h3⟩ := h2
    obtain ⟨x, y, z, u, rfl, g1, g2, g3, g4⟩ := all2_4 h3 rfl
    obtain ⟨T, hT, rfl⟩ := tab_flat (k := 1) g1
    rw [flatD_arr Try.underlying40] at g2
    obtain ⟨bs, rfl, hB, g2⟩ := g2
    obtain ⟨B, rfl⟩ := bools_d g2
    obtain ⟨after, rfl, _⟩ := (flatD_int Try.underlying3).1 g3
    obtain ⟨pid, rfl, _⟩ := (flatD_int Try.underlying3).1 g4
    have hB' : B.length = 8 := by simpa using hB
    have ha : absArgs Try.prog [42] [DataW.agg [.agg (T.map (rowD (H := H))), .agg (B.map (boolD (H := H))), .lit (.int .i64 after), .lit (.int .i64 pid)]] [] =
        ([.agg (avsL (T.map (rowD (H := H))) ++ (avsL (B.map (boolD (H := H))) ++ [.int .i64 after, .int .i64 pid]))], []) := by kernel_rfl
    rw [ha, tab_avs, bools_avs]
    exact ⟨13, [], fair (n := 0) hT hB' after pid⟩
  | [], h => exact False.elim h
  | _ :: _ :: _, h => exact h.2.elim

end
end Go.Proofs.Ytgaodjcjgafccaa

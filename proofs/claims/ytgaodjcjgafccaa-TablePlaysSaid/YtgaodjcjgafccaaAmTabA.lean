/- What the table's laws share: the example, tables compared. -/
import Derived.Test.YtgaodjcjgafccaaAmTabR
import Derived.Test.YtgaodjcjgafccaaT2
namespace Go.Proofs
open Go.AM

theorem shown_true {n : Nat} {σ : St} : callP Try.prog (n + 12) 8 [] σ = some (.ret (.bool true), σ) := by kernel_rfl

theorem exists8 {α : Type} {T : List α} (h : T.length = 8) : ∃ a b c d e f g k, T = [a, b, c, d, e, f, g, k] := by
  match T, h with
  | [a, b, c, d, e, f, g, k], _ => exact ⟨a, b, c, d, e, f, g, k, rfl⟩

def rwEq (a b : Rw) : Bool := (a.st == b.st) && ((a.pa == b.pa) && ((a.sta == b.sta) && ((a.kl == b.kl) && true)))
theorem rwEq_dec (a b : Rw) : rwEq a b = decide (a = b) := by
  obtain ⟨a1, a2, a3, a4⟩ := a
  obtain ⟨b1, b2, b3, b4⟩ := b
  unfold rwEq
  rw [Bool.eq_iff_iff]
  simp

theorem eqF27 : eqFree Try.prog 27 = true := by kernel_rfl
theorem eq_tb {T U : List Rw} (h : T.length = 8) (g : U.length = 8) {f : Bool → Out} : eqK Try.prog 27 (.agg (tb T)) (.agg (tb U)) f = f (decide (T = U)) := by
  obtain ⟨a, b, c, d, e, i, j, k, rfl⟩ := exists8 h
  obtain ⟨a', b', c', d', e', i', j', k', rfl⟩ := exists8 g
  have key : eqIn Try.prog 100 27 (.agg (tb [a, b, c, d, e, i, j, k])) (.agg (tb [a', b', c', d', e', i', j', k'])) =
      some (rwEq a a' && (rwEq b b' && (rwEq c c' && (rwEq d d' && (rwEq e e' && (rwEq i i' && (rwEq j j' && (rwEq k k' && true)))))))) := by kernel_rfl
  unfold eqK
  rw [if_pos eqF27, key]
  simp only [rwEq_dec]
  congr 1
  rw [Bool.eq_iff_iff]
  simp

end Go.Proofs

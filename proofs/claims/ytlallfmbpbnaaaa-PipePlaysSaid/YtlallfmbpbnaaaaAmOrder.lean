/- PipeOrder: what it answers. -/
import Derived.Test.YtlallfmbpbnaaaaAmPipe
import Derived.Test.YtlallfmbpbnaaaaAmP1
namespace Go.Proofs
open Go.AM

structure PAct where
  kind : Int
  n : Int
  k : Int
  s : List UInt8

def cellsA (a : PAct) : List AV := [.int .i64 a.kind, .int .i64 a.n, .int .i64 a.k, .str a.s]

theorem act_get : ∀ {l : List PAct} {i : Nat} {a : PAct}, l[i]? = some a → ∀ j, j < 4 → (l.flatMap cellsA)[i * 4 + j]? = (cellsA a)[j]?
  | [], i, a, h, _, _ => by simp at h
  | b :: l, 0, a, h, j, hj => by
    simp at h
    subst h
    rw [List.flatMap_cons, Nat.zero_mul, Nat.zero_add, List.getElem?_append_left (by simp [cellsA]; omega)]
  | b :: l, i + 1, a, h, j, hj => by
    simp at h
    have := act_get h j hj
    rw [List.flatMap_cons, List.getElem?_append_right (by simp [cellsA]; omega), ← this]
    congr 1
    simp [cellsA]
    omega

theorem ld_act {l : List PAct} {i : Nat} {a : PAct} (h : l[i]? = some a) {t j : Nat} {v : AV} (hj : j < 4) (hv : (cellsA a)[j]? = some v) (ht : aggO Try.prog t = some false) :
    ldO Try.prog t [.cells (l.flatMap cellsA) false] 0 ((0 + ((i : Int).toNat * 4)) + j) = some v := by
  have e : (0 + ((i : Int).toNat * 4)) + j = i * 4 + j := by simp
  rw [e]
  simp only [ldO, cellsAt, List.getElem?_cons_zero, partO, ht]
  rw [act_get h j hj, hv]

theorem agg3 : aggO Try.prog 3 = some false := by kernel_rfl
theorem agg9 : aggO Try.prog 9 = some false := by kernel_rfl

section
variable {k : Nat} {l : List PAct} (hlen : l.length ≤ 4398046511104) (hstr : ∀ a ∈ l, a.s.length ≤ 1125899906842624)

abbrev actS (l : List PAct) : St := [.cells (l.flatMap cellsA) false]

include hlen in
/-- The second half of a round. -/
theorem order_tail {i m0 : Nat} {R : Out} {a : PAct} (ha : l[i]? = some a) {inn out buf : List UInt8} (h1 : inn = out ++ buf) (h2 : buf.length ≤ 64) (h3 : inn.length ≤ 64 * (i + 1))
    (hnext : ∀ out buf : List UInt8, inn = out ++ buf → buf.length ≤ 64 → pt Try.prog 3 (k + 8) [1, 1, 1, 1, 1, 0, 1, 0] [m0] ⟨tm 99 [(0, .v (.slice (some (0, 0)) l.length none 4)), (2, .v (.bool false)), (3, .v (.bool true)), (4, .lp 4 0), (5, .v (.str inn)), (6, .v (.str out)), (7, .v (.int .i64 ((i + 1 : Nat) : Int)))] 0, [(4, [.str buf, .int .i64 1, .int .i64 1])]⟩ (actS l) = R) :
    pt Try.prog 3 (k + 8) [1, 1, 1, 1, 1, 0, 1, 0, 0, 1, 0, 0, 1, 0, 0, 2] [m0] ⟨tm 99 [(0, .v (.slice (some (0, 0)) l.length none 4)), (2, .v (.bool false)), (3, .v (.bool true)), (4, .lp 4 0), (5, .v (.str inn)), (6, .v (.str out)), (7, .v (.int .i64 (i : Int))), (63, .v (.slice (some (0, 0)) l.length none 4)), (64, .v (.int .i64 (i : Int)))] 0, [(4, [.str buf, .int .i64 1, .int .i64 1])]⟩ (actS l) = R := by
  have hi : i < l.length := (List.getElem?_eq_some_iff.1 ha).1
  have e6 : IntKind.wrap .i64 ((i : Int) + 1) = ((i + 1 : Nat) : Int) := by rw [wrap64 (by omega) (by omega)]; simp
  have hol : out.length ≤ inn.length := by rw [h1]; simp
  rw [f3_r15_2 (by omega), f3_r15_4 (ld_act ha (by omega) rfl agg3)]
  have fin : ∀ out buf : List UInt8, inn = out ++ buf → buf.length ≤ 64 → ∀ b : Bool, (cond (!(inn == out ++ buf)) (some (.ret (.bool false), actS l)) (pt Try.prog 3 (k + 8) [1, 1, 1, 1, 1, 0, 1, 0] [m0] ⟨tm 99 [(0, .v (.slice (some (0, 0)) l.length none 4)), (2, .v (.bool false)), (3, .v (.bool true)), (4, .lp 4 0), (5, .v (.str inn)), (6, .v (.str out)), (7, .v (.int .i64 (IntKind.wrap .i64 ((i : Int) + 1))))] 0, [(4, [.str buf, .int .i64 1, .int .i64 1])]⟩ (actS l))) = R := by
    intro out buf ho hb _
    have e : (inn == out ++ buf) = true := by rw [ho]; simp
    rw [e, e6]
    exact hnext out buf ho hb
  have e64 : ∀ b : List UInt8, b.length ≤ 64 → decide ((b.length : Int) > 64) = false := by intro b hb; simp; omega
  by_cases h5 : a.kind = 2
  · rw [show (a.kind == 2) = true from by simp [h5]]
    simp only [cond]
    rw [f3_r16_3 (by omega), f3_r16_5 (ld_act ha (by omega) rfl agg3), f3_r16_6 f9_parts]
    by_cases h6 : rE buf 1 a.n = 0
    · rw [h6]
      simp only [show ((0 : Int) == 0) = true from rfl, cond]
      have hn : ¬ a.n < 0 := by intro h; simp [rE, h] at h6
      have e2 : rS buf a.n = buf.drop (rd buf a.n) := by unfold rS; rw [if_neg hn]
      have e3 : rT buf a.n = buf.take (rd buf a.n) := by unfold rT; rw [if_neg hn]
      have e4 : ∀ x, rR x a.n = x := by intro x; unfold rR; rw [if_neg hn]
      rw [e2, e3, e4, f3_r18_2 (by simp; omega), e64 _ (by simp; omega)]
      simp only [cond]
      rw [f3_r20_9 (by simp; omega)]
      exact fin _ _ (by rw [h1]; simp) (by simp; omega) true
    · rw [show (rE buf 1 a.n == 0) = false from by simp [h6], e64 _ h2]
      simp only [cond]
      rw [f3_r20_9 (by omega)]
      exact fin _ _ h1 h2 true
  · rw [show (a.kind == 2) = false from by simp [h5], e64 _ h2]
    simp only [cond]
    rw [f3_r20_9 (by omega)]
    exact fin _ _ h1 h2 true

include hlen hstr in
theorem order_loop : ∀ (d i m0 : Nat) (inn out buf : List UInt8), i + d = l.length → d + 1 ≤ m0 → inn = out ++ buf → buf.length ≤ 64 → inn.length ≤ 64 * i →
    pt Try.prog 3 (k + 8) [1, 1, 1, 1, 1, 0, 1, 0] [m0] ⟨tm 99 [(0, .v (.slice (some (0, 0)) l.length none 4)), (2, .v (.bool false)), (3, .v (.bool true)), (4, .lp 4 0), (5, .v (.str inn)), (6, .v (.str out)), (7, .v (.int .i64 (i : Int)))] 0, [(4, [.str buf, .int .i64 1, .int .i64 1])]⟩ (actS l) = some (.ret (.bool true), actS l) := by
  intro d
  induction d with
  | zero =>
    intro i m0 inn out buf hi hm0 h1 h2 h3
    obtain ⟨m, rfl⟩ : ∃ m, m0 = m + 1 := ⟨m0 - 1, by omega⟩
    rw [f3_l11111010, show decide ((i : Int) < (l.length : Int)) = false from by simp; omega]
    simp only [cond]
    rw [f3_j111111]
  | succ d ih =>
    intro i m0 inn out buf hi hm0 h1 h2 h3
    obtain ⟨m, rfl⟩ : ∃ m, m0 = m + 1 := ⟨m0 - 1, by omega⟩
    have hil : i < l.length := by omega
    obtain ⟨a, ha⟩ : ∃ a, l[i]? = some a := ⟨l[i], List.getElem?_eq_getElem hil⟩
    have has : a.s.length ≤ 1125899906842624 := hstr a (List.mem_of_getElem? ha)
    rw [f3_l11111010, show decide ((i : Int) < (l.length : Int)) = true from by simp; omega]
    simp only [cond]
    rw [f3_r8_2 (by omega), f3_r8_4 (ld_act ha (by omega) rfl agg3)]
    have tail : ∀ inn buf : List UInt8, inn = out ++ buf → buf.length ≤ 64 → inn.length ≤ 64 * (i + 1) → _ := fun inn buf e1 e2 e3 =>
      order_tail (k := k) (m0 := m) (R := some (.ret (.bool true), actS l)) hlen ha e1 e2 e3 (fun out' buf' g1 g2 => ih (i + 1) m inn out' buf' (by omega) (by omega) g1 g2 e3)
    by_cases h5 : a.kind = 1
    · rw [show (a.kind == 1) = true from by simp [h5]]
      simp only [cond]
      rw [f3_r9_3 (by omega), f3_r9_5 (ld_act ha (by omega) rfl agg9), f3_r9_6 (f8_parts (by omega) (by omega))]
      by_cases hb : wBad buf a.s
      · have e1 : wE buf 1 a.s = 12 := by simp [wE, hb]
        rw [e1]
        simp only [show ((12 : Int) == 0) = false from rfl]
        exact tail inn buf h1 h2 (by omega)
      · have e1 : wE buf 1 a.s = 0 := by simp [wE, hb]
        have e2 : wK buf 1 a.s = (room buf a.s : Int) := by simp [wK, hb]
        have e3 : wS buf 1 a.s = buf ++ a.s.take (room buf a.s) := by simp [wS, hb]
        have e4 : wR 1 = 1 := by simp [wR]
        have e5 : wW 1 1 = 1 := by simp [wW]
        have hr1 : room buf a.s ≤ a.s.length := Nat.min_le_right _ _
        have hr2 : room buf a.s ≤ 64 - buf.length := Nat.min_le_left _ _
        rw [e1, e2, e3, e4, e5]
        simp only [show ((0 : Int) == 0) = true from rfl, show decide ((room buf a.s : Int) < 0) = false from by simp]
        rw [f3_r11_6 (by omega), f3_r11_8 (ld_act ha (by omega) rfl agg9), show decide ((room buf a.s : Int) > (a.s.length : Int)) = false from by simp; omega]
        simp only [cond]
        rw [f3_r13_3 (by omega), f3_r13_5 (ld_act ha (by omega) rfl agg9), f3_r13_7 (by omega), f3_r13_8 (by simp; omega)]
        have e6 : List.drop (Int.toNat 0) (List.take (room buf a.s : Int).toNat a.s) = a.s.take (room buf a.s) := by simp
        rw [e6]
        exact tail _ _ (by rw [h1]; simp) (by simp; omega) (by simp; omega)
    · rw [show (a.kind == 1) = false from by simp [h5]]
      simp only [cond]
      exact tail inn buf h1 h2 (by omega)

include hlen hstr in
theorem order : callP Try.prog (l.length + k + 9) 3 [.slice (some (0, 0)) l.length none 4] (actS l) = some (.ret (.bool true), actS l) := by
  rw [f3_in, f3_r1_0 shown_true]
  exact order_loop (k := l.length + k) hlen hstr l.length 0 _ [] [] [] (by omega) (by omega) rfl (by simp) (by simp)

theorem order_nil {σ : St} {c : Option Nat} {k : Nat} : callP Try.prog (k + 9) 3 [.slice none 0 c 4] σ = some (.ret (.bool true), σ) := by
  rw [f3_in, f3_r1_0 shown_true, f3_l11111010]
  simp only [show decide ((0 : Int) < ((0 : Nat) : Int)) = false from rfl, cond]
  rw [f3_j111111]

end
end Go.Proofs

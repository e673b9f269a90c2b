/- The document's own Write and Read, in closed form: the same as the pipe's. -/
import Derived.Test.YtlallfmbpbnaaaaAmPipe
namespace Go.Proofs
open Go.AM

theorem f10_loop {N : Nat} {σ : St} {s t : List UInt8} {r w e1 e2 : Int} (hs : s.length ≤ 2305843009213693952) (ht : t.length ≤ 2305843009213693952) : ∀ (d i m0 : Nat), i + d = room s t → d + 1 ≤ m0 →
    pt Try.prog 10 N [1, 1, 1, 0, 0] [m0] ⟨tm 42 [(1, .v (.str t)), (2, .lp 2 0), (4, .lp 4 0), (5, .v (.int .i64 e1)), (6, .v (.int .i64 e2)), (7, .v (.int .i64 (i : Int)))] 0, [(2, [.str s, .int .i64 r, .int .i64 w]), (4, [.str [], .int .i64 (0 : Int), .int .i64 (0 : Int)])]⟩ σ =
    pt Try.prog 10 N [1, 1, 1, 1] [] ⟨tm 42 [(1, .v (.str t)), (2, .lp 2 0), (4, .lp 4 0), (5, .v (.int .i64 e1)), (6, .v (.int .i64 e2)), (7, .v (.int .i64 (room s t : Int)))] 0, [(2, [.str s, .int .i64 r, .int .i64 w]), (4, [.str [], .int .i64 (0 : Int), .int .i64 (0 : Int)])]⟩ σ := by
  intro d
  induction d with
  | zero =>
    intro i m0 hi hm
    obtain ⟨m, rfl⟩ : ∃ m, m0 = m + 1 := ⟨m0 - 1, by omega⟩
    have hi : i = room s t := by omega
    subst hi
    rw [f10_l11100]
    by_cases h1 : room s t < t.length
    · have hle : room s t ≤ t.length := Nat.min_le_right _ _
      have h64 : 64 ≤ s.length + room s t := by unfold room at h1 ⊢; omega
      have d1 : decide ((room s t : Int) < (t.length : Int)) = true := by simp; omega
      have d2 : decide ((s.length : Int) + (room s t : Int) < 64) = false := by simp; omega
      have w1 : IntKind.wrap .i64 ((s.length : Int) + (room s t : Int)) = (s.length : Int) + (room s t : Int) := wrap64 (by omega) (by omega)
      simp only [w1, d1, d2, cond]
    · have d1 : decide ((room s t : Int) < (t.length : Int)) = false := by simp; omega
      simp only [d1, cond]
  | succ d ih =>
    intro i m0 hi hm
    obtain ⟨m, rfl⟩ : ∃ m, m0 = m + 1 := ⟨m0 - 1, by omega⟩
    have h1 : room s t ≤ t.length := Nat.min_le_right _ _
    have h2 : room s t ≤ 64 - s.length := Nat.min_le_left _ _
    have e6 : IntKind.wrap .i64 ((i : Int) + 1) = ((i + 1 : Nat) : Int) := by rw [wrap64 (by omega) (by omega)]; simp
    rw [f10_l11100, show decide ((i : Int) < (t.length : Int)) = true from by simp; omega, wrap64 (x := (s.length : Int) + i) (by omega) (by omega), show decide ((s.length : Int) + (i : Int) < 64) = true from by simp; omega, e6]
    simp only [cond]
    exact ih (i + 1) m (by omega) (by omega)

theorem f10_parts {n : Nat} {σ : St} {s t : List UInt8} {r w : Int} (hs : s.length ≤ 2305843009213693952) (ht : t.length ≤ 2305843009213693952) :
    callP Try.prog (n + 66) 10 [.agg [.str s, .int .i64 r, .int .i64 w], .str t] σ = some (.ret (.tuple [.agg [.str (wS s r t), .int .i64 (wR r), .int .i64 (wW r w)], .int .i64 (wK s r t), .int .i64 (wE s r t)]), σ) := by
  rw [f10_in]
  by_cases hr : r < 1
  · simp [hr, wS, wR, wW, wK, wE]
  · have h2 : room s t ≤ 64 - s.length := Nat.min_le_left _ _
    have h3 : room s t ≤ t.length := Nat.min_le_right _ _
    have hl := f10_loop (N := n + 65) (σ := σ) (r := r) (w := w) (e1 := 0) (e2 := 0) hs ht (room s t) 0 (n + 65) (by omega) (by omega)
    rw [show ((0 : Nat) : Int) = 0 from rfl] at hl
    simp only [hr, decide_false, cond]
    rw [hl, f10_j1111]
    have go : pt Try.prog 10 (n + 65) [1, 1, 1, 1, 1, 0, 4] [] ⟨tm 42 [(1, .v (.str t)), (2, .lp 2 0), (4, .lp 4 0), (5, .v (.int .i64 (0 : Int))), (6, .v (.int .i64 (0 : Int))), (7, .v (.int .i64 (room s t : Int))), (33, .lp 2 0), (34, .v (.str s)), (35, .v (.str t)), (36, .v (.int .i64 (room s t : Int)))] 0, [(2, [.str s, .int .i64 r, .int .i64 w]), (4, [.str [], .int .i64 (0 : Int), .int .i64 (0 : Int)])]⟩ σ =
        some (.ret (.tuple [.agg [.str (s ++ t.take (room s t)), .int .i64 r, .int .i64 w], .int .i64 (room s t), .int .i64 0]), σ) := by
      rw [f10_r8_4 (by omega), f10_r8_5 (by simp; omega)]
      simp
    rw [go]
    by_cases h0 : room s t = 0
    · by_cases h1 : t = []
      · subst h1
        have hb : wBad s [] = false := by simp [wBad]
        simp [h0, wS, wR, wW, wK, wE, hr, hb]
      · have e : (t == []) = false := by cases t; exact absurd rfl h1; rfl
        have hp : 0 < t.length := List.length_pos_iff.2 h1
        have hb : wBad s t = true := by simp [wBad, h0, hp]
        rw [e]
        simp [h0, wS, wR, wW, wK, wE, hr, hb]
    · have e0 : ((room s t : Int) == 0) = false := by simp; omega
      have hb : wBad s t = false := by simp [wBad, h0]
      rw [e0]
      simp [wS, wR, wW, wK, wE, hr, hb]

theorem f11_loop {N : Nat} {σ : St} {s : List UInt8} {r w mo e2 : Int} (hs : s.length ≤ 2305843009213693952) : ∀ (d i m0 : Nat), i + d = rd s mo → d + 1 ≤ m0 →
    pt Try.prog 11 N [1, 1, 1, 1, 0, 0] [m0] ⟨tm 48 [(1, .v (.int .i64 mo)), (2, .lp 2 0), (4, .lp 4 0), (5, .v (.str [])), (6, .v (.int .i64 e2)), (7, .v (.int .i64 (i : Int)))] 0, [(2, [.str s, .int .i64 r, .int .i64 w]), (4, [.str [], .int .i64 (0 : Int), .int .i64 (0 : Int)])]⟩ σ =
    pt Try.prog 11 N [1, 1, 1, 1, 1] [] ⟨tm 48 [(2, .lp 2 0), (4, .lp 4 0), (5, .v (.str [])), (6, .v (.int .i64 e2)), (7, .v (.int .i64 (rd s mo : Int)))] 0, [(2, [.str s, .int .i64 r, .int .i64 w]), (4, [.str [], .int .i64 (0 : Int), .int .i64 (0 : Int)])]⟩ σ := by
  intro d
  induction d with
  | zero =>
    intro i m0 hi hm
    obtain ⟨m, rfl⟩ : ∃ m, m0 = m + 1 := ⟨m0 - 1, by omega⟩
    have hi : i = rd s mo := by omega
    subst hi
    rw [f11_l111100]
    by_cases h1 : (rd s mo : Int) < mo
    · have h2 : s.length ≤ rd s mo := by unfold rd at h1 ⊢; omega
      have d1 : decide ((rd s mo : Int) < mo) = true := by simp; omega
      have d2 : decide ((rd s mo : Int) < (s.length : Int)) = false := by simp; omega
      rw [d1, d2]
      simp only [cond]
    · have d1 : decide ((rd s mo : Int) < mo) = false := by simp; omega
      simp only [d1, cond]
  | succ d ih =>
    intro i m0 hi hm
    obtain ⟨m, rfl⟩ : ∃ m, m0 = m + 1 := ⟨m0 - 1, by omega⟩
    have h1 : rd s mo ≤ s.length := Nat.min_le_right _ _
    have h2 : rd s mo ≤ mo.toNat := Nat.min_le_left _ _
    have e6 : IntKind.wrap .i64 ((i : Int) + 1) = ((i + 1 : Nat) : Int) := by rw [wrap64 (by omega) (by omega)]; simp
    rw [f11_l111100, show decide ((i : Int) < mo) = true from by simp; omega, show decide ((i : Int) < (s.length : Int)) = true from by simp; omega, e6]
    simp only [cond]
    exact ih (i + 1) m (by omega) (by omega)

theorem f11_parts {n : Nat} {σ : St} {s : List UInt8} {r w m : Int} (hs : s.length ≤ 2305843009213693952) :
    callP Try.prog (s.length + n + 2) 11 [.agg [.str s, .int .i64 r, .int .i64 w], .int .i64 m] σ = some (.ret (.tuple [.agg [.str (rS s m), .int .i64 (rR r m), .int .i64 (rR w m)], .str (rT s m), .int .i64 (rE s w m)]), σ) := by
  rw [f11_in]
  by_cases hm : m < 0
  · simp [hm, rS, rR, rT, rE]
  · have h1 : rd s m ≤ s.length := Nat.min_le_right _ _
    have hl := f11_loop (N := s.length + n + 1) (σ := σ) (r := r) (w := w) (e2 := 0) (mo := m) hs (rd s m) 0 (s.length + n + 1) (by omega) (by omega)
    rw [show ((0 : Nat) : Int) = 0 from rfl] at hl
    rw [hl, f11_j11111, f11_r8_3 (by omega), f11_r9_3 (by omega)]
    by_cases hp : m > 0
    · by_cases hs : s = []
      · subst hs
        by_cases hw : w > 0
        · simp [hm, hp, hw, rS, rR, rT, rE, show (1 : Int) ≤ w from hw]
        · simp [hm, hp, hw, rS, rR, rT, rE, show ¬ (1 : Int) ≤ w from hw]
      · have e : (s == []) = false := by cases s; exact absurd rfl hs; rfl
        rw [e]
        simp [hm, hp, hs, rS, rR, rT, rE]
    · simp [hm, hp, rS, rR, rT, rE]

end Go.Proofs

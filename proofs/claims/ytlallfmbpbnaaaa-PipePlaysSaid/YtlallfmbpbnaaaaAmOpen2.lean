/- The pipe's Open, in closed form. -/
import Derived.Test.YtlallfmbpbnaaaaAmOpen
namespace Go.Proofs
open Go.AM

theorem last_get (σ : St) (o : AObj) : (σ ++ [o])[σ.length]? = some o := by simp

theorem ld_last {t off : Nat} {σ : St} {cs : List AV} {w : Bool} : ldO Try.prog t (σ ++ [.cells cs w]) σ.length off = partO Try.prog t cs off := by
  simp [ldO, cellsAt]

theorem set_last (σ : St) (o o' : AObj) : (σ ++ [o]).set σ.length o' = σ ++ [o'] := by
  rw [List.set_append_right _ _ (Nat.le_refl _)]; simp

theorem st_last {t off : Nat} {σ : St} {cs : List AV} {y : AV} (h1 : y.cells.length = szOf Try.prog t ∧ (Try.prog.info? t).isSome = true) (h2 : y.cells.all AV.one = true) (h3 : off + y.cells.length ≤ cs.length) :
    stO Try.prog t (σ ++ [.cells cs true]) σ.length off y = some (σ ++ [.cells (setMany cs off y.cells) true]) := by
  simp only [stO, if_pos h1, if_pos h2, last_get, if_pos h3, set_last]

theorem sz25 : szOf Try.prog 25 = 3 ∧ (Try.prog.info? 25).isSome = true := by constructor <;> kernel_rfl
theorem sz3 : szOf Try.prog 3 = 1 ∧ (Try.prog.info? 3).isSome = true := by constructor <;> kernel_rfl
theorem aggI : aggO Try.prog 3 = some false := by kernel_rfl

theorem open_round {n m : Nat} {σ : St} {s : List UInt8} {r w a b z : Int} {i : Int} {o : Nat} {y v : Int} {cs : List AV} (hi : i = 0 ∨ i = 1) (ho : (i = 0 → o = 0 + 1 ∧ y = a) ∧ (i = 1 → o = 0 + 2 ∧ y = b))
    (hv : partO Try.prog 3 cs o = some (.int .i64 v)) (hlen : o + 1 ≤ cs.length) (hvr : inR v) (hyr : inR y) :
    pt Try.prog 12 n [1, 1, 0, 1, 0] [m + 1] ⟨tm 73 [(3, .lp 3 0), (6, .lp 6 0), (7, .v (.int .i64 z)), (8, .v (.ptr (some (σ.length, 0)))), (20, .ls 20 2), (21, .v (.int .i64 (2 : Int))), (22, .v (.int .i64 i))] 0, [(3, [.str s, .int .i64 r, .int .i64 w]), (6, [.str [], .int .i64 (0 : Int), .int .i64 (0 : Int)]), (20, [.ptr (some (σ.length, (0 + 1))), .int .i64 a, .ptr (some (σ.length, (0 + 2))), .int .i64 b])]⟩ (σ ++ [.cells cs true]) =
    cond (sumOk v y) (pt Try.prog 12 n [1, 1, 0, 1, 0] [m] ⟨tm 73 [(3, .lp 3 0), (6, .lp 6 0), (7, .v (.int .i64 z)), (8, .v (.ptr (some (σ.length, 0)))), (20, .ls 20 2), (21, .v (.int .i64 (2 : Int))), (22, .v (.int .i64 (i + 1)))] 0, [(3, [.str s, .int .i64 r, .int .i64 w]), (6, [.str [], .int .i64 (0 : Int), .int .i64 (0 : Int)]), (20, [.ptr (some (σ.length, (0 + 1))), .int .i64 a, .ptr (some (σ.length, (0 + 2))), .int .i64 b])]⟩ (σ ++ [.cells (setMany cs o [.int .i64 (v + y)]) true]))
      (some (.ret (.tuple [.agg [.str s, .int .i64 r, .int .i64 w], .int .i64 1]), σ ++ [.cells cs true])) := by
  have hp : partO Try.prog 47 [.ptr (some (σ.length, (0 + 1))), .int .i64 a, .ptr (some (σ.length, (0 + 2))), .int .i64 b] (i.toNat * 2) = some (.agg [.ptr (some (σ.length, o)), .int .i64 y]) := by
    rcases hi with rfl | rfl
    · obtain ⟨rfl, rfl⟩ := ho.1 rfl; kernel_rfl
    · obtain ⟨rfl, rfl⟩ := ho.2 rfl; kernel_rfl
  have hl : ldO Try.prog 3 (σ ++ [.cells cs true]) σ.length o = some (.int .i64 v) := by rw [ld_last, hv]
  have d0 : decide (i < 2) = true := by simp; omega
  have w1 : IntKind.wrap .i64 (i + 1) = i + 1 := wrap64 (by omega) (by omega)
  have hw := wrap_cases hvr hyr
  unfold inR at *
  rw [f12_l11010]
  simp only [d0, cond]
  rw [f12_r4_0 (by omega), f12_r4_1 hp, f12_r5_2, f12_r5_3 hl]
  have hs : stO Try.prog 3 (σ ++ [.cells cs true]) σ.length o (.int .i64 (v + y)) = some (σ ++ [.cells (setMany cs o [.int .i64 (v + y)]) true]) := by
    have := st_last (t := 3) (off := o) (σ := σ) (cs := cs) (y := .int .i64 (v + y)) ⟨by rw [sz3.1]; rfl, sz3.2⟩ rfl (by simpa [AV.cells] using hlen)
    exact this
  by_cases hok : sumOk v y = true
  · have hk := hok
    simp only [sumOk, decide_eq_true_eq] at hk
    have hx : IntKind.wrap .i64 (v + y) = v + y := by omega
    rw [hx, hok]
    have d1 : decide (v + y < 0) = false := by simp; omega
    have d2 : decide (v + y > 1024) = false := by simp; omega
    by_cases hp0 : y > 0
    · have d3 : decide (y > 0) = true := by simp; omega
      have d4 : decide (v + y < v) = false := by simp; omega
      have d5 : decide (y < 0) = false := by simp; omega
      simp only [d3, cond]
      rw [f12_r6_7, f12_r6_8 hl]
      simp only [d4, d5, d1, d2, cond]
      rw [f12_r9_3, f12_r9_4 hs, w1]
    · have d3 : decide (y > 0) = false := by simp; omega
      by_cases hn : y < 0
      · have d4 : decide (v + y > v) = false := by simp; omega
        have d5 : decide (y < 0) = true := by simp; omega
        simp only [d3, d5, cond]
        rw [f12_r6_19, f12_r6_20 hl]
        simp only [d4, d1, d2, cond]
        rw [f12_r9_3, f12_r9_4 hs, w1]
      · have d5 : decide (y < 0) = false := by simp; omega
        simp only [d3, d5, d1, d2, cond]
        rw [f12_r9_3, f12_r9_4 hs, w1]
  · have hk := hok
    simp only [sumOk, decide_eq_true_eq] at hk
    simp only [Bool.not_eq_true] at hok
    rw [hok]
    generalize hxx : IntKind.wrap .i64 (v + y) = x at *
    by_cases hp0 : y > 0
    · have d3 : decide (y > 0) = true := by simp; omega
      have d5 : decide (y < 0) = false := by simp; omega
      simp only [d3, cond]
      rw [f12_r6_7, f12_r6_8 hl]
      by_cases h1 : x < v
      · simp only [h1, decide_true, cond]
      · have h2 : x > 1024 ∨ x < 0 := by omega
        rcases h2 with h2 | h2
        · have d6 : decide (x < 0) = false := by simp; omega
          simp only [h1, d5, d6, h2, decide_true, decide_false, cond]
        · simp only [h1, d5, h2, decide_true, decide_false, cond]
    · have d3 : decide (y > 0) = false := by simp; omega
      have h2 : x > v ∧ y < 0 ∨ x < 0 ∨ (¬ x < 0 ∧ x > 1024) := by omega
      by_cases hn : y < 0
      · have d5 : decide (y < 0) = true := by simp; omega
        simp only [d3, d5, cond]
        rw [f12_r6_19, f12_r6_20 hl]
        by_cases h1 : x > v
        · simp only [h1, decide_true, cond]
        · rcases h2 with h2 | h2 | h2
          · exact absurd h2.1 h1
          · simp only [h1, h2, decide_true, decide_false, cond]
          · simp only [h1, h2.1, h2.2, decide_true, decide_false, cond]
      · have d5 : decide (y < 0) = false := by simp; omega
        rcases h2 with h2 | h2 | h2
        · exact absurd h2.2 hn
        · simp only [d3, d5, h2, decide_true, cond]
        · simp only [d3, d5, h2.1, h2.2, decide_true, decide_false, cond]

theorem f12_parts {n : Nat} {σ : St} {s : List UInt8} {r w a b : Int} (hr : inR r) (hw : inR w) (ha : inR a) (hb : inR b) :
    ∃ cs, callP Try.prog (n + 4) 12 [.agg [.str s, .int .i64 r, .int .i64 w], .int .i64 a, .int .i64 b] σ = some (.ret (.tuple [.agg [.str s, .int .i64 (oR r w a b), .int .i64 (oW r w a b)], .int .i64 (oE r w a b)]), σ ++ [.cells cs true]) := by
  have hs : stO Try.prog 25 (σ ++ [.cells [.str [], .int .i64 (0 : Int), .int .i64 (0 : Int)] true]) σ.length 0 (.agg [.str s, .int .i64 r, .int .i64 w]) = some (σ ++ [.cells [.str s, .int .i64 r, .int .i64 w] true]) :=
    st_last (t := 25) (off := 0) (σ := σ) (y := .agg [.str s, .int .i64 r, .int .i64 w]) ⟨by rw [sz25.1]; rfl, sz25.2⟩ rfl (by simp [AV.cells])
  have h1 := open_round (n := n + 3) (m := n + 2) (σ := σ) (s := s) (r := r) (w := w) (a := a) (b := b) (z := 0) (i := 0) (o := 0 + 1) (y := a) (v := r) (cs := [.str s, .int .i64 r, .int .i64 w]) (.inl rfl) ⟨fun _ => ⟨rfl, rfl⟩, fun h => by omega⟩ (by kernel_rfl) (by simp) hr ha
  have h2 := open_round (n := n + 3) (m := n + 1) (σ := σ) (s := s) (r := r) (w := w) (a := a) (b := b) (z := 0) (i := 0 + 1) (o := 0 + 2) (y := b) (v := w) (cs := [.str s, .int .i64 (r + a), .int .i64 w]) (.inr rfl) ⟨fun h => by omega, fun _ => ⟨rfl, rfl⟩⟩ (by kernel_rfl) (by simp) hw hb
  rw [f12_in, f12_r1_2 hs, h1]
  have e4 : setMany [.str s, .int .i64 r, .int .i64 w] (0 + 1) [.int .i64 (r + a)] = [.str s, .int .i64 (r + a), .int .i64 w] := rfl
  have e5 : setMany [.str s, .int .i64 (r + a), .int .i64 w] (0 + 2) [.int .i64 (w + b)] = [.str s, .int .i64 (r + a), .int .i64 (w + b)] := rfl
  rw [e4, h2, e5]
  have d0 : decide ((0 + 1 + 1 : Int) < 2) = false := by decide
  have hl : ldO Try.prog 25 (σ ++ [.cells [.str s, .int .i64 (r + a), .int .i64 (w + b)] true]) σ.length 0 = some (.agg [.str s, .int .i64 (r + a), .int .i64 (w + b)]) := by rw [ld_last]; kernel_rfl
  rw [f12_l11010]
  simp only [d0, cond]
  rw [f12_j111, f12_r11_0 hl]
  unfold oR oW oE oOk
  cases e1 : sumOk r a <;> cases e2 : sumOk w b
  · exact ⟨[.str s, .int .i64 r, .int .i64 w], rfl⟩
  · exact ⟨[.str s, .int .i64 r, .int .i64 w], rfl⟩
  · exact ⟨[.str s, .int .i64 (r + a), .int .i64 w], rfl⟩
  · exact ⟨[.str s, .int .i64 (r + a), .int .i64 (w + b)], rfl⟩

end Go.Proofs

/- PipePlays: what it answers. -/
import Derived.Test.YtlallfmbpbnaaaaAmOpen2
import Derived.Test.YtlallfmbpbnaaaaAmRef
import Derived.Test.YtlallfmbpbnaaaaAmOrder
namespace Go.Proofs
open Go.AM

theorem ld_act' {l : List PAct} {τ : St} {i : Nat} {a : PAct} (h : l[i]? = some a) {t j : Nat} {v : AV} (hj : j < 4) (hv : (cellsA a)[j]? = some v) (ht : aggO Try.prog t = some false) :
    ldO Try.prog t (.cells (l.flatMap cellsA) false :: τ) 0 ((0 + ((i : Int).toNat * 4)) + j) = some v := by
  have := ld_act h hj hv ht
  simp only [ldO, cellsAt, List.getElem?_cons_zero] at this ⊢
  exact this

theorem f8' {N : Nat} {σ : St} {s t : List UInt8} {r w : Int} (hN : 2 ≤ N) (hs : s.length ≤ 2305843009213693952) (ht : t.length ≤ 2305843009213693952) :
    callP Try.prog N 8 [.agg [.str s, .int .i64 r, .int .i64 w], .str t] σ = some (.ret (.tuple [.agg [.str (wS s r t), .int .i64 (wR r), .int .i64 (wW r w)], .int .i64 (wK s r t), .int .i64 (wE s r t)]), σ) := by
  obtain ⟨n, rfl⟩ : ∃ n, N = n + 2 := ⟨N - 2, by omega⟩
  exact f8_parts hs ht
theorem f10' {N : Nat} {σ : St} {s t : List UInt8} {r w : Int} (hN : 66 ≤ N) (hs : s.length ≤ 2305843009213693952) (ht : t.length ≤ 2305843009213693952) :
    callP Try.prog N 10 [.agg [.str s, .int .i64 r, .int .i64 w], .str t] σ = some (.ret (.tuple [.agg [.str (wS s r t), .int .i64 (wR r), .int .i64 (wW r w)], .int .i64 (wK s r t), .int .i64 (wE s r t)]), σ) := by
  obtain ⟨n, rfl⟩ : ∃ n, N = n + 66 := ⟨N - 66, by omega⟩
  exact f10_parts hs ht
theorem f9' {N : Nat} {σ : St} {s : List UInt8} {r w m : Int} (hN : 2 ≤ N) :
    callP Try.prog N 9 [.agg [.str s, .int .i64 r, .int .i64 w], .int .i64 m] σ = some (.ret (.tuple [.agg [.str (rS s m), .int .i64 (rR r m), .int .i64 (rR w m)], .str (rT s m), .int .i64 (rE s w m)]), σ) := by
  obtain ⟨n, rfl⟩ : ∃ n, N = n + 2 := ⟨N - 2, by omega⟩
  exact f9_parts
theorem f11' {N : Nat} {σ : St} {s : List UInt8} {r w m : Int} (hN : s.length + 2 ≤ N) (hs : s.length ≤ 2305843009213693952) :
    callP Try.prog N 11 [.agg [.str s, .int .i64 r, .int .i64 w], .int .i64 m] σ = some (.ret (.tuple [.agg [.str (rS s m), .int .i64 (rR r m), .int .i64 (rR w m)], .str (rT s m), .int .i64 (rE s w m)]), σ) := by
  obtain ⟨n, rfl⟩ : ∃ n, N = s.length + n + 2 := ⟨N - 2 - s.length, by omega⟩
  exact f11_parts hs
theorem f12' {N : Nat} {σ : St} {s : List UInt8} {r w a b : Int} (hN : 4 ≤ N) (hr : inR r) (hw : inR w) (ha : inR a) (hb : inR b) :
    ∃ cs, callP Try.prog N 12 [.agg [.str s, .int .i64 r, .int .i64 w], .int .i64 a, .int .i64 b] σ = some (.ret (.tuple [.agg [.str s, .int .i64 (oR r w a b), .int .i64 (oW r w a b)], .int .i64 (oE r w a b)]), σ ++ [.cells cs true]) := by
  obtain ⟨n, rfl⟩ : ∃ n, N = n + 4 := ⟨N - 4, by omega⟩
  exact f12_parts hr hw ha hb
theorem f13' {N : Nat} {σ : St} {s : List UInt8} {r w a b : Int} (hN : 2 ≤ N) (hr : inR r) (hw : inR w) (ha : inR a) (hb : inR b) :
    callP Try.prog N 13 [.agg [.str s, .int .i64 r, .int .i64 w], .int .i64 a, .int .i64 b] σ = some (.ret (.tuple [.agg [.str s, .int .i64 (oR r w a b), .int .i64 (oW r w a b)], .int .i64 (oE r w a b)]), σ) := by
  obtain ⟨n, rfl⟩ : ∃ n, N = n + 2 := ⟨N - 2, by omega⟩
  exact f13_parts hr hw ha hb

theorem oR_in {r w a b : Int} (hr : inR r) : inR (oR r w a b) := by
  unfold oR
  split
  · rename_i h
    simp only [oOk, sumOk, Bool.and_eq_true, decide_eq_true_eq] at h
    unfold inR; omega
  · exact hr
theorem oW_in {r w a b : Int} (hw : inR w) : inR (oW r w a b) := by
  unfold oW
  split
  · rename_i h
    simp only [oOk, sumOk, Bool.and_eq_true, decide_eq_true_eq] at h
    unfold inR; omega
  · exact hw

structure PSt where
  s : List UInt8
  r : Int
  w : Int
def PSt.ok (B : Nat) (p : PSt) : Prop := p.s.length ≤ B + 64 ∧ inR p.r ∧ inR p.w

section
variable {N B : Nat} {l : List PAct} (hN : B + 200 ≤ N) (hB : B ≤ 1152921504606846976) (hlen : l.length ≤ 4398046511104) (hact : ∀ a ∈ l, a.s.length ≤ 1125899906842624 ∧ inR a.n ∧ inR a.k)

def playE (l : List PAct) (i : Nat) (p : PSt) : Env := ⟨tm 162 [(1, .v (.slice (some (0, 0)) l.length none 4)), (2, .lp 2 0), (4, .v (.bool false)), (5, .v (.bool true)), (6, .lp 6 0), (7, .v (.int .i64 (i : Int)))] 0, [(2, [.str p.s, .int .i64 p.r, .int .i64 p.w]), (6, [.str p.s, .int .i64 p.r, .int .i64 p.w])]⟩

include hN hB hlen hact in
theorem plays_loop : ∀ (d i m0 : Nat) (p : PSt) (τ : St), i + d = l.length → d + 1 ≤ m0 → p.ok B →
    ∃ σ', pt Try.prog 6 N [1, 1, 1, 0, 1, 0] [m0] (playE l i p) (.cells (l.flatMap cellsA) false :: τ) = some (.ret (.bool true), σ') := by
  intro d
  induction d with
  | zero =>
    intro i m0 p τ hi hm hp
    obtain ⟨m, rfl⟩ : ∃ m, m0 = m + 1 := ⟨m0 - 1, by omega⟩
    have d0 : decide ((i : Int) < (l.length : Int)) = false := by simp; omega
    unfold playE
    rw [f6_l111010]
    simp only [d0, cond]
    rw [f6_j1111]
    exact ⟨_, rfl⟩
  | succ d ih =>
    intro i m0 p τ hi hm hp
    obtain ⟨m, rfl⟩ : ∃ m, m0 = m + 1 := ⟨m0 - 1, by omega⟩
    have hil : i < l.length := by omega
    obtain ⟨a, ha⟩ : ∃ a, l[i]? = some a := ⟨l[i], List.getElem?_eq_getElem hil⟩
    obtain ⟨ha1, ha2, ha3⟩ := hact a (List.mem_of_getElem? ha)
    have hr0 : 0 ≤ (i : Int) ∧ (i : Int) < (l.length : Int) := by omega
    have d0 : decide ((i : Int) < (l.length : Int)) = true := by simp; omega
    have e6 : IntKind.wrap .i64 ((i : Int) + 1) = ((i + 1 : Nat) : Int) := by rw [wrap64 (by omega) (by omega)]; simp
    have hnext := fun p τ h => ih (i + 1) m p τ (by omega) (by omega) h
    obtain ⟨hp1, hp2, hp3⟩ := hp
    unfold playE at hnext ⊢
    rw [f6_l111010]
    simp only [d0, cond]
    rw [f6_r6_2 hr0, f6_r6_4 (ld_act' ha (by omega) rfl agg3)]
    by_cases k1 : a.kind = 1
    · have c1 : (a.kind == 1) = true := by simp [k1]
      simp only [c1, cond]
      rw [f6_r8_3 hr0, f6_r8_5 (ld_act' ha (by omega) rfl agg9), f6_r8_6 (f8' (by omega) (by omega) (by omega)), f6_r9_3 hr0, f6_r9_5 (ld_act' ha (by omega) rfl agg9), f6_r9_6 (f10' (by omega) (by omega) (by omega)), e6]
      by_cases ke : wE p.s p.r a.s = 0
      · have hq := hnext ⟨wS p.s p.r a.s, wR p.r, wW p.r p.w⟩ τ (by
          refine ⟨?_, ?_, ?_⟩
          · show (wS p.s p.r a.s).length ≤ B + 64
            unfold wS
            split
            · simp
            · split
              · exact hp1
              · simp [room]; omega
          · show inR (wR p.r)
            unfold wR; split
            · unfold inR; omega
            · exact hp2
          · show inR (wW p.r p.w)
            unfold wW; split
            · unfold inR; omega
            · exact hp3)
        obtain ⟨σ', hq⟩ := hq
        refine ⟨σ', ?_⟩
        have k0 : (wE p.s p.r a.s == 0) = true := by simp [ke]
        simp only [k0, beq_self_eq_true, Bool.and_true, Bool.not_true, bne_self_eq_false, cond]
        exact hq
      · obtain ⟨σ', hq⟩ := hnext p τ ⟨hp1, hp2, hp3⟩
        refine ⟨σ', ?_⟩
        have k0 : (wE p.s p.r a.s == 0) = false := by simp [ke]
        simp only [k0, beq_self_eq_true, Bool.and_true, Bool.not_true, bne_self_eq_false, cond]
        exact hq
    · have c1 : (a.kind == 1) = false := by simp [k1]
      by_cases k2 : a.kind = 2
      · have c2 : (a.kind == 2) = true := by simp [k2]
        simp only [c1, c2, cond]
        rw [f6_r16_3 hr0, f6_r16_5 (ld_act' ha (by omega) rfl agg3), f6_r16_6 (f9' (by omega)), f6_r17_3 hr0, f6_r17_5 (ld_act' ha (by omega) rfl agg3), f6_r17_6 (f11' (by omega) (by omega)), e6]
        by_cases ke : rE p.s p.w a.n = 0
        · obtain ⟨σ', hq⟩ := hnext ⟨rS p.s a.n, rR p.r a.n, rR p.w a.n⟩ τ (by
            refine ⟨?_, ?_, ?_⟩
            · show (rS p.s a.n).length ≤ B + 64
              unfold rS
              split
              · simp
              · simp; omega
            · show inR (rR p.r a.n)
              unfold rR; split
              · unfold inR; omega
              · exact hp2
            · show inR (rR p.w a.n)
              unfold rR; split
              · unfold inR; omega
              · exact hp3)
          refine ⟨σ', ?_⟩
          have k0 : (rE p.s p.w a.n == 0) = true := by simp [ke]
          simp only [k0, beq_self_eq_true, Bool.and_true, Bool.not_true, bne_self_eq_false, cond]
          exact hq
        · obtain ⟨σ', hq⟩ := hnext p τ ⟨hp1, hp2, hp3⟩
          refine ⟨σ', ?_⟩
          have k0 : (rE p.s p.w a.n == 0) = false := by simp [ke]
          simp only [k0, beq_self_eq_true, Bool.and_true, Bool.not_true, bne_self_eq_false, cond]
          exact hq
      · have c2 : (a.kind == 2) = false := by simp [k2]
        by_cases k3 : a.kind = 3
        · have c3 : (a.kind == 3) = true := by simp [k3]
          simp only [c1, c2, c3, cond]
          obtain ⟨cs, hO⟩ := f12' (N := N) (σ := .cells (l.flatMap cellsA) false :: τ) (s := p.s) (by omega) hp2 hp3 ha2 ha3
          rw [f6_r24_3 hr0, f6_r24_5 (ld_act' ha (by omega) rfl agg3), f6_r24_8 hr0, f6_r24_10 (ld_act' ha (by omega) rfl agg3), f6_r24_11 hO, List.cons_append, f6_r25_3 hr0, f6_r25_5 (ld_act' ha (by omega) rfl agg3), f6_r25_8 hr0, f6_r25_10 (ld_act' ha (by omega) rfl agg3), f6_r25_11 (f13' (by omega) hp2 hp3 ha2 ha3), e6]
          obtain ⟨σ', hq⟩ := hnext ⟨p.s, oR p.r p.w a.n a.k, oW p.r p.w a.n a.k⟩ (τ ++ [.cells cs true]) ⟨hp1, oR_in hp2, oW_in hp3⟩
          refine ⟨σ', ?_⟩
          simp only [beq_self_eq_true, Bool.and_true, Bool.not_true, bne_self_eq_false, cond]
          exact hq
        · have c3 : (a.kind == 3) = false := by simp [k3]
          simp only [c1, c2, c3, cond]
          rw [e6]
          exact hnext p τ ⟨hp1, hp2, hp3⟩

include hN hB hlen hact in
theorem plays {p : PSt} (hl : l.length + 1 ≤ N) (hp : p.s.length ≤ B ∧ inR p.r ∧ inR p.w) :
    ∃ σ', callP Try.prog (N + 1) 6 [.agg [.str p.s, .int .i64 p.r, .int .i64 p.w], .slice (some (0, 0)) l.length none 4] [.cells (l.flatMap cellsA) false] = some (.ret (.bool true), σ') := by
  have hsh : ∀ σ, callP Try.prog N 7 [] σ = some (.ret (.bool true), σ) := by
    intro σ
    obtain ⟨n, rfl⟩ : ∃ n, N = n + 5 := ⟨N - 5, by omega⟩
    exact shown_true
  rw [f6_in, f6_r1_0 (hsh _)]
  exact plays_loop hN hB hlen hact l.length 0 N p [] (by omega) (by omega) ⟨by omega, hp.2.1, hp.2.2⟩

theorem plays_nil {σ : St} {c : Option Nat} {k : Nat} {p : PSt} : callP Try.prog (k + 9) 6 [.agg [.str p.s, .int .i64 p.r, .int .i64 p.w], .slice none 0 c 4] σ = some (.ret (.bool true), σ) := by
  rw [f6_in, f6_r1_0 shown_true, f6_l111010]
  simp only [show decide ((0 : Int) < ((0 : Nat) : Int)) = false from rfl, cond]
  rw [f6_j1111]

end
end Go.Proofs

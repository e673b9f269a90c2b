/- 'guess', as a whole. -/
import Derived.Test.YtidammkjfdonaaaDoorGuess
namespace Go.Proofs.Inst
open Go.AM Go.Proofs

def insC (x : Ins) : List AV := [.int .i64 x.op, .int .i64 x.rd, .int .i64 x.rs1, .int .i64 x.rs2, .int .i64 x.imm]
def c5 (op : Int) : List AV := [.int .i64 op, .int .i64 0, .int .i64 0, .int .i64 0, .int .i64 0]
def GuessQ (b : Nat) (w : Option TypeId) (x : Ins) (v : AV) (σ : St) : Prop := v = .tuple [] ∧ σ[b]? = some (.cells (insC x) (.rw w))

section
variable {b bk : Nat} {op : Int} {l : List Int}

theorem eqU : (if l = [] then updT b (c5 op) [(b, 1)] l else (updT b (c5 op) [(b, 1)] l).set 4 (.int .i64 (lastI l))) = insC ⟨op, gi l 0, 0, 0, lastI l⟩ := by
  rcases l with _ | ⟨u, t⟩
  · rfl
  · simp [updT, c5, insC, gi]
theorem eqB : (if l = [] then updT b (c5 op) [(b, 2), (b, 3)] l else (updT b (c5 op) [(b, 2), (b, 3)] l).set 4 (.int .i64 (lastI l))) = insC ⟨op, 0, gi l 0, gi l 1, lastI l⟩ := by
  rcases l with _ | ⟨u, _ | ⟨u2, t⟩⟩ <;> simp [updT, c5, insC, gi, lastI]
theorem eqO : (if l = [] then updT b (c5 op) [(b, 1), (b, 2)] l else (updT b (c5 op) [(b, 1), (b, 2)] l).set 4 (.int .i64 (lastI l))) = insC ⟨op, gi l 0, gi l 1, 0, lastI l⟩ := by
  rcases l with _ | ⟨u, _ | ⟨u2, t⟩⟩ <;> simp [updT, c5, insC, gi, lastI]
theorem eqR : updT b (c5 op) [(b, 1), (b, 2), (b, 3)] l = insC ⟨op, gi l 0, gi l 1, gi l 2, 0⟩ := by
  rcases l with _ | ⟨u, _ | ⟨u2, _ | ⟨u3, t⟩⟩⟩ <;> simp [updT, c5, insC, gi]
theorem eqL : updT b (c5 op) [(b, 1), (b, 2)] l = insC ⟨op, gi l 0, gi l 1, 0, 0⟩ := by
  rcases l with _ | ⟨u, _ | ⟨u2, t⟩⟩ <;> simp [updT, c5, insC, gi]
theorem eqA : updT b (c5 op) [(b, 1), (b, 3), (b, 2)] l = insC ⟨op, gi l 0, gi l 2, gi l 1, 0⟩ := by
  rcases l with _ | ⟨u, _ | ⟨u2, _ | ⟨u3, t⟩⟩⟩ <;> simp [updT, c5, insC, gi]
theorem eqM (h : bk ≠ b) : updT b (c5 op) [(b, 1), (bk, 0), (b, 2)] l = insC ⟨op, gi l 0, gi l 2, 0, 0⟩ := by
  rcases l with _ | ⟨u, _ | ⟨u2, _ | ⟨u3, t⟩⟩⟩ <;> simp [updT, c5, insC, gi, h]

variable {σ0 σ2 : St} {p1 p2 bl : Nat} {w : Option TypeId} {a : Option (Nat × Nat)} {N : Nat} {c : Option Nat} {z n : Nat} {Q : AV → St → Prop}

/-- The places that the heap of 'guess' keeps apart. -/
structure Ap (σ0 σ2 : St) (b p1 p2 bl : Nat) : Prop where
  b : b ≠ p1 ∧ b ≠ p2 ∧ b ≠ bl ∧ σ0.length ≤ b
  p1 : p1 < σ2.length
  p2 : p2 < σ2.length
  bl : bl < σ2.length
  u0 : σ0.length ≤ σ2.length

theorem tgt_x (h : V σ0 b p1 p2 bl w l a N c z σ2 (c5 op)) {o : Nat} (ho : o < 5) : Tgt σ2 (b, o) := ⟨_, _, h.x, ho⟩

theorem leafU (h : V σ0 b p1 p2 bl w l a N c z σ2 (c5 op)) (p : Ap σ0 σ2 b p1 p2 bl) (hl : l.length ≤ 2000000) (hn : 20 ≤ n) :
    GivesQ σ0 (GuessQ b w ⟨op, gi l 0, 0, 0, lastI l⟩) (ldK Tryd.prog 85 σ2 p1 0 fun x107 => xPtr x107 fun a108 => derefK a108 fun b109 o110 =>
      callT Tryd.prog Lb n 57 [.slice (some (σ2.length, 0)) 1 (some 1) 1, .ptr (some (p2, 0))] (σ2 ++ [AObj.cells [.ptr (some (b109, (o110 + 1)))] (.rw (some 112))]) fun _ σ111 =>
      callT Tryd.prog Lb n 58 [.ptr (some (p2, 0)), .ptr (some (p1, 0))] σ111 fun _ σ113 => some (.ret (.tuple []), σ113)) := by
  rw [h.ld1, xPtr_p, derefK_s]
  refine (h.call57 (ps := [(b, 1)]) rfl rfl hl (by simp) (by simp; omega) ?_ p.p2 fun σ3 h3 => ?_).1
  · intro q hq
    simp at hq; subst hq
    exact ⟨tgt_x h (by decide), p.b⟩
  · refine h3.call58 (by omega) hl ?_ p.b fun σ4 h4 => ?_
    · rcases l with _ | ⟨u, t⟩ <;> simp [updT, c5]
    · rw [eqU] at h4
      exact .ret h4.up ⟨rfl, h4.x⟩

theorem leafB (h : V σ0 b p1 p2 bl w l a N c z σ2 (c5 op)) (p : Ap σ0 σ2 b p1 p2 bl) (hl : l.length ≤ 2000000) (hn : 20 ≤ n) :
    GivesQ σ0 (GuessQ b w ⟨op, 0, gi l 0, gi l 1, lastI l⟩) (ldK Tryd.prog 85 σ2 p1 0 fun x123 => xPtr x123 fun a124 => derefK a124 fun b125 o126 => ldK Tryd.prog 85 σ2 p1 0 fun x127 => xPtr x127 fun a128 => derefK a128 fun b129 o130 =>
      callTD Tryd.prog Lb n 57 [.slice (some (σ2.length, 0)) 2 (some 2) 1, .ptr (some (p2, 0))] (σ2 ++ [AObj.cells [.ptr (some (b125, (o126 + 2))), .ptr (some (b129, (o130 + 3)))] (.rw (some 112))]) fun _ σ131 =>
      callT Tryd.prog Lb n 58 [.ptr (some (p2, 0)), .ptr (some (p1, 0))] σ131 fun _ σ133 => some (.ret (.tuple []), σ133)) := by
  rw [h.ld1, xPtr_p, derefK_s, h.ld1, xPtr_p, derefK_s]
  refine (h.call57 (ps := [(b, 2), (b, 3)]) rfl rfl hl (by simp) (by simp; omega) ?_ p.p2 fun σ3 h3 => ?_).2
  · intro q hq
    simp at hq
    rcases hq with rfl | rfl <;> exact ⟨tgt_x h (by decide), p.b⟩
  · refine h3.call58 (by omega) hl ?_ p.b fun σ4 h4 => ?_
    · rcases l with _ | ⟨u, _ | ⟨u2, t⟩⟩ <;> simp [updT, c5]
    · rw [eqB] at h4
      exact .ret h4.up ⟨rfl, h4.x⟩

theorem leafO (h : V σ0 b p1 p2 bl w l a N c z σ2 (c5 op)) (p : Ap σ0 σ2 b p1 p2 bl) (hl : l.length ≤ 2000000) (hn : 20 ≤ n) :
    GivesQ σ0 (GuessQ b w ⟨op, gi l 0, gi l 1, 0, lastI l⟩) (ldK Tryd.prog 85 σ2 p1 0 fun x123 => xPtr x123 fun a124 => derefK a124 fun b125 o126 => ldK Tryd.prog 85 σ2 p1 0 fun x127 => xPtr x127 fun a128 => derefK a128 fun b129 o130 =>
      callTD Tryd.prog Lb n 57 [.slice (some (σ2.length, 0)) 2 (some 2) 1, .ptr (some (p2, 0))] (σ2 ++ [AObj.cells [.ptr (some (b125, (o126 + 1))), .ptr (some (b129, (o130 + 2)))] (.rw (some 112))]) fun _ σ131 =>
      callT Tryd.prog Lb n 58 [.ptr (some (p2, 0)), .ptr (some (p1, 0))] σ131 fun _ σ133 => some (.ret (.tuple []), σ133)) := by
  rw [h.ld1, xPtr_p, derefK_s, h.ld1, xPtr_p, derefK_s]
  refine (h.call57 (ps := [(b, 1), (b, 2)]) rfl rfl hl (by simp) (by simp; omega) ?_ p.p2 fun σ3 h3 => ?_).2
  · intro q hq
    simp at hq
    rcases hq with rfl | rfl <;> exact ⟨tgt_x h (by decide), p.b⟩
  · refine h3.call58 (by omega) hl ?_ p.b fun σ4 h4 => ?_
    · rcases l with _ | ⟨u, _ | ⟨u2, t⟩⟩ <;> simp [updT, c5]
    · rw [eqO] at h4
      exact .ret h4.up ⟨rfl, h4.x⟩

theorem leafL (h : V σ0 b p1 p2 bl w l a N c z σ2 (c5 op)) (p : Ap σ0 σ2 b p1 p2 bl) (hl : l.length ≤ 2000000) (hn : 20 ≤ n) :
    GivesQ σ0 (GuessQ b w ⟨op, gi l 0, gi l 1, 0, 0⟩) (ldK Tryd.prog 85 σ2 p1 0 fun x123 => xPtr x123 fun a124 => derefK a124 fun b125 o126 => ldK Tryd.prog 85 σ2 p1 0 fun x127 => xPtr x127 fun a128 => derefK a128 fun b129 o130 =>
      callTD Tryd.prog Lb n 57 [.slice (some (σ2.length, 0)) 2 (some 2) 1, .ptr (some (p2, 0))] (σ2 ++ [AObj.cells [.ptr (some (b125, (o126 + 1))), .ptr (some (b129, (o130 + 2)))] (.rw (some 112))]) fun _ σ131 =>
      some (.ret (.tuple []), σ131)) := by
  rw [h.ld1, xPtr_p, derefK_s, h.ld1, xPtr_p, derefK_s]
  refine (h.call57 (ps := [(b, 1), (b, 2)]) rfl rfl hl (by simp) (by simp; omega) ?_ p.p2 fun σ3 h3 => ?_).2
  · intro q hq
    simp at hq
    rcases hq with rfl | rfl <;> exact ⟨tgt_x h (by decide), p.b⟩
  · rw [eqL] at h3
    exact .ret h3.up ⟨rfl, h3.x⟩

theorem leafR (h : V σ0 b p1 p2 bl w l a N c z σ2 (c5 op)) (p : Ap σ0 σ2 b p1 p2 bl) (hl : l.length ≤ 2000000) (hn : 20 ≤ n) :
    GivesQ σ0 (GuessQ b w ⟨op, gi l 0, gi l 1, gi l 2, 0⟩) (ldK Tryd.prog 85 σ2 p1 0 fun x123 => xPtr x123 fun a124 => derefK a124 fun b125 o126 => ldK Tryd.prog 85 σ2 p1 0 fun x127 => xPtr x127 fun a128 => derefK a128 fun b129 o130 => ldK Tryd.prog 85 σ2 p1 0 fun x137 => xPtr x137 fun a138 => derefK a138 fun b139 o140 =>
      callTD Tryd.prog Lb n 57 [.slice (some (σ2.length, 0)) 3 (some 3) 1, .ptr (some (p2, 0))] (σ2 ++ [AObj.cells [.ptr (some (b125, (o126 + 1))), .ptr (some (b129, (o130 + 2))), .ptr (some (b139, (o140 + 3)))] (.rw (some 112))]) fun _ σ131 =>
      some (.ret (.tuple []), σ131)) := by
  rw [h.ld1, xPtr_p, derefK_s, h.ld1, xPtr_p, derefK_s, h.ld1, xPtr_p, derefK_s]
  refine (h.call57 (ps := [(b, 1), (b, 2), (b, 3)]) rfl rfl hl (by simp) (by simp; omega) ?_ p.p2 fun σ3 h3 => ?_).2
  · intro q hq
    simp at hq
    rcases hq with rfl | rfl | rfl <;> exact ⟨tgt_x h (by decide), p.b⟩
  · rw [eqR] at h3
    exact .ret h3.up ⟨rfl, h3.x⟩

theorem leafA (h : V σ0 b p1 p2 bl w l a N c z σ2 (c5 op)) (p : Ap σ0 σ2 b p1 p2 bl) (hl : l.length ≤ 2000000) (hn : 20 ≤ n) :
    GivesQ σ0 (GuessQ b w ⟨op, gi l 0, gi l 2, gi l 1, 0⟩) (ldK Tryd.prog 85 σ2 p1 0 fun x123 => xPtr x123 fun a124 => derefK a124 fun b125 o126 => ldK Tryd.prog 85 σ2 p1 0 fun x127 => xPtr x127 fun a128 => derefK a128 fun b129 o130 => ldK Tryd.prog 85 σ2 p1 0 fun x137 => xPtr x137 fun a138 => derefK a138 fun b139 o140 =>
      callTD Tryd.prog Lb n 57 [.slice (some (σ2.length, 0)) 3 (some 3) 1, .ptr (some (p2, 0))] (σ2 ++ [AObj.cells [.ptr (some (b125, (o126 + 1))), .ptr (some (b129, (o130 + 3))), .ptr (some (b139, (o140 + 2)))] (.rw (some 112))]) fun _ σ131 =>
      some (.ret (.tuple []), σ131)) := by
  rw [h.ld1, xPtr_p, derefK_s, h.ld1, xPtr_p, derefK_s, h.ld1, xPtr_p, derefK_s]
  refine (h.call57 (ps := [(b, 1), (b, 3), (b, 2)]) rfl rfl hl (by simp) (by simp; omega) ?_ p.p2 fun σ3 h3 => ?_).2
  · intro q hq
    simp at hq
    rcases hq with rfl | rfl | rfl <;> exact ⟨tgt_x h (by decide), p.b⟩
  · rw [eqA] at h3
    exact .ret h3.up ⟨rfl, h3.x⟩

/-- The end of the two forms with a number in the midst. -/
theorem leafJ {cs : List AV} {x : Ins} (h : V σ0 b p1 p2 bl w l a N c z σ2 cs) (hb : b ≠ p1 ∧ b ≠ p2 ∧ b ≠ bl ∧ σ0.length ≤ b) (hc : 4 < cs.length) (hl : l.length ≤ 2000000) (hx : (if 1 < l.length then cs.set 4 (.int .i64 (l.getD 1 0)) else cs) = insC x) :
    GivesQ σ0 (GuessQ b w x) (f41_j1 (pt Tryd.prog Lb 41 n) p1 0 p2 0 σ2) := by
  refine .le f41_j1_e ?_
  unfold f41_j1_t
  have hN := h.ls.1
  rw [ldK_at h.pl, partK_s agg77 rfl, xSl_s]
  refine .ite (fun h1 => ?_) fun h1 => ?_
  · have h1 : 1 < l.length := by
      have : (N : Int) > 1 := by simpa using h1
      omega
    rw [if_pos h1] at hx
    have hg : l[1]? = some (l.getD 1 0) := by rw [List.getD_eq_getElem?_getD, List.getElem?_eq_getElem h1]; rfl
    obtain ⟨ha, hz, hi, _⟩ := h.ls.at (f := fun _ => none) hg
    have hT : Tgt σ2 (b, 0 + 4) := ⟨cs, w, h.x, by simpa using hc⟩
    rw [h.ld1, xPtr_p, ldK_at h.pl, partK_s agg77 rfl, xSl_s, idxK_ok ⟨by decide, by omega⟩, ha, derefK_s, hz, szK_s, (h.ls.at hg).2.2.2, xInt_i, derefK_s, stK_put hT]
    have := h.put (p := (b, 0 + 4)) (v := l.getD 1 0) hb
    rw [if_pos rfl] at this
    simp only [Nat.zero_add] at this ⊢
    rw [hx] at this
    exact .ret this.up ⟨rfl, this.x⟩
  · have h1 : ¬ 1 < l.length := by
      have : ¬ (N : Int) > 1 := by simpa using h1
      omega
    rw [if_neg h1] at hx
    rw [hx] at h
    exact .ret h.up ⟨rfl, h.x⟩

theorem memV (h : V σ0 b p1 p2 bl w l a N c z σ2 (c5 op)) (p : Ap σ0 σ2 b p1 p2 bl) (hbσ : b < σ2.length) (hl : l.length ≤ 2000000) (hn : 20 ≤ n) {k : AV → St → Out}
    (g : ∀ σ3, V σ0 b p1 p2 bl w l a N c z σ3 (insC ⟨op, gi l 0, gi l 2, 0, 0⟩) → GivesQ σ0 Q (k (.tuple []) σ3)) :
    GivesQ σ0 Q (stK (σ2 ++ [AObj.cells [.int .i64 (0 : Int)] (.rw none)]) σ2.length 0 [.int .i64 (0 : Int)] fun σ41 =>
      ldK Tryd.prog 85 σ41 p1 0 fun x42 => xPtr x42 fun a43 => derefK a43 fun b44 o45 => ldK Tryd.prog 85 σ41 p1 0 fun x46 => xPtr x46 fun a47 => derefK a47 fun b48 o49 =>
      callTD Tryd.prog Lb n 57 [.slice (some (σ41.length, 0)) 3 (some 3) 1, .ptr (some (p2, 0))] (σ41 ++ [AObj.cells [.ptr (some (b44, (o45 + 1))), .ptr (some (σ2.length, 0)), .ptr (some (b48, (o49 + 2)))] (.rw (some 112))]) k) := by
  have hT : Tgt (σ2 ++ [AObj.cells [.int .i64 (0 : Int)] (.rw none)]) (σ2.length, 0) := ⟨[.int .i64 0], none, by simp, by simp⟩
  rw [stK_put hT]
  have h1 := h.app [AObj.cells [.int .i64 (0 : Int)] (.rw none)]
  have p1' := p.p1; have p2' := p.p2; have bl' := p.bl; have u0 := p.u0
  have h2 := h1.put (p := (σ2.length, 0)) (v := 0) ⟨by simp; omega, by simp; omega, by simp; omega, by simpa using u0⟩
  rw [if_neg (by simp; omega)] at h2
  have hT2 : Tgt (put1 (σ2.length, 0) 0 (σ2 ++ [AObj.cells [.int .i64 (0 : Int)] (.rw none)])) (σ2.length, 0) := put1_tgt hT
  have hlen : σ2.length < (put1 (σ2.length, 0) 0 (σ2 ++ [AObj.cells [.int .i64 (0 : Int)] (.rw none)])).length := by
    obtain ⟨cs, t, x, _⟩ := hT2
    exact (List.getElem?_eq_some_iff.1 x).1
  generalize put1 (σ2.length, 0) 0 (σ2 ++ [AObj.cells [.int .i64 (0 : Int)] (.rw none)]) = σ3 at *
  rw [h2.ld1, xPtr_p, derefK_s, h2.ld1, xPtr_p, derefK_s]
  refine (h2.call57 (ps := [(b, 1), (σ2.length, 0), (b, 2)]) rfl rfl hl (by simp) (by simp; omega) ?_ (by omega) fun σ4 h4 => ?_).2
  · intro q hq
    simp at hq
    rcases hq with rfl | rfl | rfl
    · exact ⟨tgt_x h2 (by decide), p.b⟩
    · exact ⟨hT2, by simp; omega, by simp; omega, by simp; omega, by simpa using u0⟩
    · exact ⟨tgt_x h2 (by decide), p.b⟩
  · rw [eqM (by omega)] at h4
    exact g σ4 h4


theorem leafM (h : V σ0 b p1 p2 bl w l a N c z σ2 (c5 op)) (p : Ap σ0 σ2 b p1 p2 bl) (hbσ : b < σ2.length) (hl : l.length ≤ 2000000) (hn : 20 ≤ n) :
    GivesQ σ0 (GuessQ b w ⟨op, gi l 0, gi l 2, 0, l.getD 1 0⟩) (stK (σ2 ++ [AObj.cells [.int .i64 (0 : Int)] (.rw none)]) σ2.length 0 [.int .i64 (0 : Int)] fun σ41 =>
      ldK Tryd.prog 85 σ41 p1 0 fun x42 => xPtr x42 fun a43 => derefK a43 fun b44 o45 => ldK Tryd.prog 85 σ41 p1 0 fun x46 => xPtr x46 fun a47 => derefK a47 fun b48 o49 =>
      callTD Tryd.prog Lb n 57 [.slice (some (σ41.length, 0)) 3 (some 3) 1, .ptr (some (p2, 0))] (σ41 ++ [AObj.cells [.ptr (some (b44, (o45 + 1))), .ptr (some (σ2.length, 0)), .ptr (some (b48, (o49 + 2)))] (.rw (some 112))]) fun _ σ171 =>
      f41_j1 (pt Tryd.prog Lb 41 n) p1 0 p2 0 σ171) :=
  memV h p hbσ hl hn fun σ3 h3 => leafJ h3 p.b (by simp [insC]) hl (by
    split
    · rfl
    · rename_i h1
      have : l.getD 1 0 = 0 := by rw [List.getD_eq_getElem?_getD, List.getElem?_eq_none (by omega)]; rfl
      rw [this])

theorem leafS (h : V σ0 b p1 p2 bl w l a N c z σ2 (c5 op)) (p : Ap σ0 σ2 b p1 p2 bl) (hbσ : b < σ2.length) (hl : l.length ≤ 2000000) (hn : 20 ≤ n) :
    GivesQ σ0 (GuessQ b w ⟨op, 0, gi l 2, gi l 0, l.getD 1 0⟩) (stK (σ2 ++ [AObj.cells [.int .i64 (0 : Int)] (.rw none)]) σ2.length 0 [.int .i64 (0 : Int)] fun σ41 =>
      ldK Tryd.prog 85 σ41 p1 0 fun x42 => xPtr x42 fun a43 => derefK a43 fun b44 o45 => ldK Tryd.prog 85 σ41 p1 0 fun x46 => xPtr x46 fun a47 => derefK a47 fun b48 o49 =>
      callTD Tryd.prog Lb n 57 [.slice (some (σ41.length, 0)) 3 (some 3) 1, .ptr (some (p2, 0))] (σ41 ++ [AObj.cells [.ptr (some (b44, (o45 + 1))), .ptr (some (σ2.length, 0)), .ptr (some (b48, (o49 + 2)))] (.rw (some 112))]) fun _ σ50 =>
      ldK Tryd.prog 85 σ50 p1 0 fun x52 => xPtr x52 fun a53 => ldK Tryd.prog 85 σ50 p1 0 fun x54 => xPtr x54 fun a55 => ldK Tryd.prog 85 σ50 p1 0 fun x56 => xPtr x56 fun a57 =>
      derefK a57 fun b58 o59 => ldK Tryd.prog 3 σ50 b58 (o59 + 1) fun x60 => xInt .i64 x60 fun i61 => derefK a53 fun b62 o63 => apK [(p1, b62)] <| stK σ50 b62 (o63 + 1) [.int .i64 (0 : Int)] fun σ64 =>
      derefK a55 fun b65 o66 => stK σ64 b65 (o66 + 3) [.int .i64 i61] fun σ67 => f41_j1 (pt Tryd.prog Lb 41 n) p1 0 p2 0 σ67) :=
  memV h p hbσ hl hn fun σ3 h3 => by
    rw [h3.ld1, xPtr_p, h3.ld1, xPtr_p, h3.ld1, xPtr_p, derefK_s, h3.ldi (v := gi l 0) rfl, xInt_i, derefK_s]
    have hap : ∀ x : Out, apK [(p1, b)] x = x := fun x => by unfold apK; rw [if_neg (by have := p.b.1; omega)]; rfl
    have hT : ∀ o, o < 5 → Tgt σ3 (b, 0 + o) := fun o ho => ⟨_, _, h3.x, by simpa [insC] using ho⟩
    rw [hap, stK_put (hT 1 (by decide)), derefK_s, stK_put (put1_tgt (hT 3 (by decide)))]
    have h4 := (h3.put (p := (b, 0 + 1)) (v := 0) p.b)
    rw [if_pos rfl] at h4
    have h5 := (h4.put (p := (b, 0 + 3)) (v := gi l 0) p.b)
    rw [if_pos rfl] at h5
    refine leafJ h5 p.b (by simp [insC]) hl ?_
    split
    · simp [insC]
    · rename_i h1
      have : l.getD 1 0 = 0 := by rw [List.getD_eq_getElem?_getD, List.getElem?_eq_none (by omega)]; rfl
      rw [this]
      simp [insC]

end

/-- 'guess', of an opcode with its form. -/
theorem gives_guess {n b bl : Nat} {σ0 σ : St} {op : Int} {l : List Int} {a : Option (Nat × Nat)} {N : Nat} {c : Option Nat} {z : Nat} {w : Option TypeId} (h1 : 1 ≤ op) (h2 : op ≤ 87) (hl : l.length ≤ 2000000) (hn : 20 ≤ n)
    (hu : Up σ0 σ) (hb : σ0.length ≤ b) (hbl : b ≠ bl ∧ bl < σ0.length) (hx : σ[b]? = some (.cells (c5 op) (.rw w))) (hL : LsV σ bl l a N z) :
    GivesQ σ0 (GuessQ b w (guessS (rowAt op).form op l)) (callP Tryd.prog Lb (n + 1) 41 [.ptr (some (b, 0)), .int .u32 (rowAt op).form, .slice a N c z] σ) := by
  refine .le f41_e ?_
  unfold f41_t
  have hbσ := (List.getElem?_eq_some_iff.1 hx).1
  have hlen := hu.len
  have hV : V σ0 b σ.length (σ ++ [AObj.cells [.ptr (some (b, 0))] (.rw none)]).length bl w l a N c z ((σ ++ [AObj.cells [.ptr (some (b, 0))] (.rw none)]) ++ [AObj.cells [.slice a N c z] (.rw none)]) (c5 op) :=
    ⟨(hu.more _).more _, (Up.app _ _).get ((Up.app _ _).get hx), (Up.app _ _).cells cellsAt_new, cellsAt_new, (hL.up (.app _ _)).up (.app _ _)⟩
  have hA : Ap σ0 ((σ ++ [AObj.cells [.ptr (some (b, 0))] (.rw none)]) ++ [AObj.cells [.slice a N c z] (.rw none)]) b σ.length (σ ++ [AObj.cells [.ptr (some (b, 0))] (.rw none)]).length bl :=
    ⟨⟨by omega, by simp; omega, hbl.1, hb⟩, by simp, by simp, by simp; omega, by simp; omega⟩
  have hb2 : b < ((σ ++ [AObj.cells [.ptr (some (b, 0))] (.rw none)]) ++ [AObj.cells [.slice a N c z] (.rw none)]).length := by simp; omega
  generalize ((σ ++ [AObj.cells [.ptr (some (b, 0))] (.rw none)]) ++ [AObj.cells [.slice a N c z] (.rw none)]) = σ2 at *
  generalize (σ ++ [AObj.cells [.ptr (some (b, 0))] (.rw none)]).length = p2 at *
  generalize σ.length = p1 at *
  have hf := (rowOk h1 h2).form
  have hc := code3 h1 h2
  have hmem : op = 4 ∨ (11 ≤ op ∧ op ≤ 17) → (rowAt op).form = 3 := fun hm => hc.2 (hm.elim .inr fun hm => .inl (hc.1.2 hm))
  have hop : ∀ f, ldK Tryd.prog 3 σ2 b (0 + 0) f = f (.int .i64 op) := fun f => hV.ldi (o := 0) rfl
  generalize (rowAt op).form = f at *
  rw [hV.ld1, xPtr_p, derefK_s, hop, xInt_i]
  refine .ite (fun h4 => ?_) fun h4 => ?_
  · have h4 : op = 4 := by simpa using h4
    obtain rfl := hmem (.inl h4)
    simp only [Int.reduceBEq, cF]
    have e : guessS 3 op l = ⟨op, gi l 0, gi l 2, 0, l.getD 1 0⟩ := by simp [guessS, h4]
    rw [e]
    exact leafM hV hA hb2 hl hn
  have h4 : op ≠ 4 := by simpa using h4
  rw [hV.ld1, xPtr_p, derefK_s, hop, xInt_i]
  refine .ite (fun h11 => ?_) fun h11 => ?_
  · have h11 : 11 ≤ op := by simpa using h11
    rw [hV.ld1, xPtr_p, derefK_s, hop, xInt_i]
    by_cases h17 : op ≤ 17
    · obtain rfl := hmem (.inr ⟨h11, h17⟩)
      simp only [Int.reduceBEq, cF]
      rw [decide_eq_true (by omega), cT]
      have e : guessS 3 op l = ⟨op, gi l 0, gi l 2, 0, l.getD 1 0⟩ := by simp [guessS, h11, h17]
      rw [e]
      exact leafM hV hA hb2 hl hn
    · have hm : ¬ (op = 4 ∨ (11 ≤ op ∧ op ≤ 17)) := by omega
      rw [decide_eq_false (by omega)]
      rcases ten hf with rfl | rfl | rfl | rfl | rfl | rfl | rfl | rfl | rfl | rfl <;> simp only [Int.reduceBEq, Int.reduceBNe, cT, cF, guessS, Int.reduceEq, or_self, or_true, true_or, if_true, if_false, hm]
      · exact leafU hV hA hl hn
      · exact leafU hV hA hl hn
      · exact leafO hV hA hl hn
      · exact leafB hV hA hl hn
      · exact leafS hV hA hb2 hl hn
      · exact leafO hV hA hl hn
      · exact leafO hV hA hl hn
      · exact leafR hV hA hl hn
      · rw [hV.ld1, xPtr_p, derefK_s, hop, xInt_i]
        refine .ite (fun ho => ?_) fun ho => ?_
        · have ho : op = 66 := by simpa using ho
          rw [if_pos (.inl ho)]
          exact leafL hV hA hl hn
        have ho : op ≠ 66 := by simpa using ho
        rw [hV.ld1, xPtr_p, derefK_s, hop, xInt_i]
        refine .ite (fun ho' => ?_) fun ho' => ?_
        · have ho' : op = 77 := by simpa using ho'
          rw [if_pos (.inr ho')]
          exact leafL hV hA hl hn
        have ho' : op ≠ 77 := by simpa using ho'
        rw [if_neg (by omega)]
        exact leafA hV hA hl hn
      · exact .ret hV.up ⟨rfl, hV.x⟩
  · have h11 : ¬ 11 ≤ op := by simpa using h11
    have hm : ¬ (op = 4 ∨ (11 ≤ op ∧ op ≤ 17)) := by omega
    rcases ten hf with rfl | rfl | rfl | rfl | rfl | rfl | rfl | rfl | rfl | rfl <;> simp only [Int.reduceBEq, Int.reduceBNe, cT, cF, guessS, Int.reduceEq, or_self, or_true, true_or, if_true, if_false, hm]
    · exact leafU hV hA hl hn
    · exact leafU hV hA hl hn
    · exact leafO hV hA hl hn
    · exact leafB hV hA hl hn
    · exact leafS hV hA hb2 hl hn
    · exact leafO hV hA hl hn
    · exact leafO hV hA hl hn
    · exact leafR hV hA hl hn
    · rw [hV.ld1, xPtr_p, derefK_s, hop, xInt_i]
      refine .ite (fun ho => ?_) fun ho => ?_
      · have ho : op = 66 := by simpa using ho
        omega
      rw [hV.ld1, xPtr_p, derefK_s, hop, xInt_i]
      refine .ite (fun ho' => ?_) fun ho' => ?_
      · have ho' : op = 77 := by simpa using ho'
        omega
      rw [if_neg (by omega)]
      exact leafA hV hA hl hn
    · exact .ret hV.up ⟨rfl, hV.x⟩

end Go.Proofs.Inst

/- 'guess' puts the numbers where a form has them. -/
import Derived.Test.YtidammkjfdonaaaDoorCand
import Derived.Test.YtidammkjfdonaaaDoorT5
namespace Go.Proofs.Inst
open Go.AM Go.Proofs

def put1 (p : Nat × Nat) (v : Int) (σ : St) : St :=
  match σ[p.1]? with
  | some (.cells cs (.rw t)) => σ.set p.1 (.cells (cs.set p.2 (.int .i64 v)) (.rw t))
  | _ => σ
def puts : List (Nat × Nat) → List Int → St → St
  | p :: ps, v :: vs, σ => puts ps vs (put1 p (cl v) σ)
  | [], _, σ => σ
  | _, [], σ => σ
def Tgt (σ : St) (p : Nat × Nat) : Prop := ∃ cs t, σ[p.1]? = some (.cells cs (.rw t)) ∧ p.2 < cs.length

theorem stK_put {σ : St} {b o : Nat} {v : Int} {f : St → Out} (h : Tgt σ (b, o)) : stK σ b o [.int .i64 v] f = f (put1 (b, o) v σ) := by
  obtain ⟨cs, t, h1, h2⟩ := h
  simp only at h1 h2
  unfold stK put1
  rw [h1]
  simp only [List.length_singleton]
  rw [if_pos (by omega)]
  rfl
theorem put1_ne {σ : St} {p : Nat × Nat} {v : Int} {b : Nat} (h : b ≠ p.1) : (put1 p v σ)[b]? = σ[b]? := by
  unfold put1
  split
  · rw [List.getElem?_set_ne (by omega)]
  · rfl
theorem put1_at {σ : St} {b o : Nat} {v : Int} {cs : List AV} {t : Option TypeId} (h : σ[b]? = some (.cells cs (.rw t))) : (put1 (b, o) v σ)[b]? = some (.cells (cs.set o (.int .i64 v)) (.rw t)) := by
  unfold put1
  simp only
  rw [h]
  simp only
  rw [List.getElem?_set_self (List.getElem?_eq_some_iff.1 h).1]
theorem put1_cells {σ : St} {p : Nat × Nat} {v : Int} {b : Nat} (h : b ≠ p.1) : cellsAt (put1 p v σ) b = cellsAt σ b := by
  unfold cellsAt; rw [put1_ne h]
theorem put1_tgt {σ : St} {p q : Nat × Nat} {v : Int} (h : Tgt σ q) : Tgt (put1 p v σ) q := by
  obtain ⟨cs, t, h1, h2⟩ := h
  by_cases hb : q.1 = p.1
  · obtain ⟨pb, po⟩ := p
    simp only at hb
    refine ⟨cs.set po (.int .i64 v), t, ?_, by simpa using h2⟩
    rw [hb] at h1 ⊢
    exact put1_at h1
  · exact ⟨cs, t, by rw [put1_ne hb]; exact h1, h2⟩
theorem put1_up {σ0 σ : St} {p : Nat × Nat} {v : Int} (u : Up σ0 σ) (h : σ0.length ≤ p.1) : Up σ0 (put1 p v σ) := by
  unfold put1
  split
  · exact u.set h _
  · exact u

theorem agg112 : aggO Tryd.prog 112 = some false := by kernel_rfl
theorem agg77 : aggO Tryd.prog 77 = some false := by kernel_rfl
theorem agg85 : aggO Tryd.prog 85 = some false := by kernel_rfl
theorem agg23 : aggO Tryd.prog 23 = some true := by kernel_rfl
theorem sz23 : szOf Tryd.prog 23 = 5 := by kernel_rfl

def numV (v : Int) : AV := .int .i64 v
def ptrV (p : Nat × Nat) : AV := .ptr (some p)

/-- A slice over the numbers l (in block bl, if there are any). -/
def LsV (σ : St) (bl : Nat) (l : List Int) (a : Option (Nat × Nat)) (N z : Nat) : Prop := N = l.length ∧ (l = [] ∨ (a = some (bl, 0) ∧ z = 1 ∧ cellsAt σ bl = some (l.map numV)))

theorem LsV.at {σ : St} {bl : Nat} {l : List Int} {a : Option (Nat × Nat)} {N z i : Nat} {v : Int} {f : AV → Out} (h : LsV σ bl l a N z) (hi : l[i]? = some v) :
    a = some (bl, 0) ∧ z = 1 ∧ i < N ∧ ldK Tryd.prog 2 σ bl (0 + i) f = f (.int .i64 v) := by
  obtain ⟨h1, h2⟩ := h
  have hlt := (List.getElem?_eq_some_iff.1 hi).1
  rcases h2 with rfl | ⟨h2, h3, h4⟩
  · simp at hi
  · refine ⟨h2, h3, by omega, ?_⟩
    rw [ldK_at h4, Nat.zero_add]
    exact partK_s agg2 (by rw [List.getElem?_map, hi]; rfl)

theorem put_l1 {n bt p2 bl K N z : Nat} {c c' : Option Nat} {a : Option (Nat × Nat)} {l : List Int} {tos : List (Nat × Nat)} (hK : K = tos.length) (hK2 : K ≤ 100) (_ : l.length ≤ 2000000) : ∀ (ps : List (Nat × Nat)) (m i : Nat) (σ : St),
    tos.drop i = ps → ps.length < m → cellsAt σ bt = some (tos.map ptrV) → cellsAt σ p2 = some [.slice a N c z] → LsV σ bl l a N z → (∀ p ∈ ps, Tgt σ p ∧ p.1 ≠ bt ∧ p.1 ≠ p2 ∧ p.1 ≠ bl) →
    f57_l1 (pt Tryd.prog Lb 57 n) m p2 0 (some (bt, 0)) K c' 1 (K : Int) (i : Int) σ = some (.ret (.tuple []), puts ps (l.drop i) σ) := by
  intro ps
  induction ps with
  | nil =>
    intro m i σ hd hm _ _ _ _
    obtain ⟨m, rfl⟩ : ∃ m', m = m' + 1 := ⟨m - 1, by simp at hm; omega⟩
    have : tos.length ≤ i := List.drop_eq_nil_iff.1 hd
    refine f57_l1_e.some ?_
    unfold f57_l1_t
    rw [decide_eq_false (by omega), cF]
    simp [puts]
  | cons p ps ih =>
    intro m i σ hd hm h1 h2 h3 h4
    obtain ⟨m, rfl⟩ : ∃ m', m = m' + 1 := ⟨m - 1, by simp at hm; omega⟩
    have hlt : i < tos.length := by
      rcases Nat.lt_or_ge i tos.length with h | h
      · exact h
      · rw [List.drop_eq_nil_of_le h] at hd; cases hd
    have hg : tos[i]? = some p := by
      rw [List.drop_eq_getElem_cons hlt] at hd
      rw [List.getElem?_eq_getElem hlt]
      exact congrArg some (List.cons.inj hd).1
    have hd' : tos.drop (i + 1) = ps := by
      rw [List.drop_eq_getElem_cons hlt] at hd
      exact (List.cons.inj hd).2
    refine f57_l1_e.some ?_
    unfold f57_l1_t
    have e1 : IntKind.wrap .i64 ((i : Int) + 1) = ((i + 1 : Nat) : Int) := by rw [wrap64 (by omega) (by omega)]; omega
    rw [decide_eq_true (by omega), cT, idxK_ok ⟨by omega, by omega⟩, derefK_s, szK_s, ldK_at h1, Int.toNat_natCast, Nat.zero_add, Nat.mul_one, partK_s agg112 (v := ptrV p) (by rw [List.getElem?_map, hg]; rfl)]
    unfold ptrV
    rw [xPtr_p, ldK_at h2, partK_s agg77 rfl, xSl_s, e1]
    have hN' := h3.1
    obtain ⟨pb, po⟩ := p
    have hp := h4 (pb, po) (by simp)
    cases hv : l[i]? with
    | none =>
      have hge : l.length ≤ i := List.getElem?_eq_none_iff.1 hv
      rw [decide_eq_false (by omega), cF]
      have := ih m (i + 1) σ hd' (by simp at hm; omega) h1 h2 h3 fun q hq => h4 q (by simp [hq])
      rw [this, List.drop_eq_nil_of_le hge, List.drop_eq_nil_of_le (by omega)]
      simp [puts]
      cases ps <;> simp [puts]
    | some v =>
      have hlt2 := (List.getElem?_eq_some_iff.1 hv).1
      obtain ⟨ha, hz, hi, _⟩ := h3.at (f := fun _ => none) hv
      rw [decide_eq_true (by omega), cT, ldK_at h2, partK_s agg77 rfl, xSl_s, idxK_ok ⟨by omega, by omega⟩, ha, derefK_s, hz, szK_s, (h3.at hv).2.2.2, xInt_i, derefK_s, stK_put hp.1]
      have e2 : l.drop i = v :: l.drop (i + 1) := by
        rw [List.drop_eq_getElem_cons hlt2]
        congr 1
        have := (List.getElem?_eq_some_iff.1 hv).2
        exact this
      rw [e2]
      have g1 : cellsAt (put1 (pb, po) (cl v) σ) bt = some (tos.map ptrV) := by rw [put1_cells (by simp; omega)]; exact h1
      have g2 : cellsAt (put1 (pb, po) (cl v) σ) p2 = some [.slice a N c z] := by rw [put1_cells (by simp; omega)]; exact h2
      have g3 : LsV (put1 (pb, po) (cl v) σ) bl l a N z := by
        refine ⟨h3.1, ?_⟩
        rcases h3.2 with h | ⟨x1, x2, x3⟩
        · exact .inl h
        · exact .inr ⟨x1, x2, by rw [put1_cells (by simp; omega)]; exact x3⟩
      rw [ha, hz] at g2 g3
      have := ih m (i + 1) (put1 (pb, po) (cl v) σ) hd' (by simp at hm; omega) g1
      rw [ha, hz] at this
      exact this g2 g3 fun q hq => ⟨put1_tgt (h4 q (by simp [hq])).1, (h4 q (by simp [hq])).2⟩

/-! ### what is in the heap while it is guessed -/

structure V (σ0 : St) (b p1 p2 bl : Nat) (w : Option TypeId) (l : List Int) (a : Option (Nat × Nat)) (N : Nat) (c : Option Nat) (z : Nat) (σ : St) (cs : List AV) : Prop where
  up : Up σ0 σ
  x : σ[b]? = some (.cells cs (.rw w))
  px : cellsAt σ p1 = some [.ptr (some (b, 0))]
  pl : cellsAt σ p2 = some [.slice a N c z]
  ls : LsV σ bl l a N z

section
variable {σ0 σ : St} {b p1 p2 bl : Nat} {w : Option TypeId} {l : List Int} {a : Option (Nat × Nat)} {N : Nat} {c : Option Nat} {z : Nat} {cs : List AV}

theorem LsV.up (h : LsV σ bl l a N z) {σ' : St} (u : Up σ σ') : LsV σ' bl l a N z := by
  refine ⟨h.1, ?_⟩
  rcases h.2 with h | ⟨x1, x2, x3⟩
  · exact .inl h
  · exact .inr ⟨x1, x2, u.cells x3⟩

theorem V.app (h : V σ0 b p1 p2 bl w l a N c z σ cs) (τ : St) : V σ0 b p1 p2 bl w l a N c z (σ ++ τ) cs :=
  ⟨h.up.more τ, (Up.app σ τ).get h.x, (Up.app σ τ).cells h.px, (Up.app σ τ).cells h.pl, h.ls.up (.app σ τ)⟩

/-- One is put. -/
theorem V.put (h : V σ0 b p1 p2 bl w l a N c z σ cs) {p : Nat × Nat} {v : Int} (hp : p.1 ≠ p1 ∧ p.1 ≠ p2 ∧ p.1 ≠ bl ∧ σ0.length ≤ p.1) : V σ0 b p1 p2 bl w l a N c z (put1 p v σ) (if p.1 = b then cs.set p.2 (.int .i64 v) else cs) := by
  refine ⟨put1_up h.up hp.2.2.2, ?_, by rw [put1_cells (by omega)]; exact h.px, by rw [put1_cells (by omega)]; exact h.pl, h.ls.1, ?_⟩
  · split
    · rename_i hb
      obtain ⟨pb, po⟩ := p
      simp only at hb
      subst hb
      exact put1_at h.x
    · rename_i hb
      rw [put1_ne (by omega)]; exact h.x
  · rcases h.ls.2 with h | ⟨x1, x2, x3⟩
    · exact .inl h
    · exact .inr ⟨x1, x2, by rw [put1_cells (by omega)]; exact x3⟩

def updT (b : Nat) (cs : List AV) : List (Nat × Nat) → List Int → List AV
  | p :: ps, v :: vs => updT b (if p.1 = b then cs.set p.2 (.int .i64 (cl v)) else cs) ps vs
  | [], _ => cs
  | _, [] => cs

theorem V.many : ∀ (ps : List (Nat × Nat)) (vs : List Int) {σ : St} {cs : List AV}, V σ0 b p1 p2 bl w l a N c z σ cs → (∀ p ∈ ps, p.1 ≠ p1 ∧ p.1 ≠ p2 ∧ p.1 ≠ bl ∧ σ0.length ≤ p.1) → V σ0 b p1 p2 bl w l a N c z (puts ps vs σ) (updT b cs ps vs)
  | [], vs, σ, cs, h, _ => by cases vs <;> exact h
  | p :: ps, [], σ, cs, h, _ => h
  | p :: ps, v :: vs, σ, cs, h, hp => V.many ps vs (h.put (hp p (by simp))) fun q hq => hp q (by simp [hq])

theorem V.ld1 (h : V σ0 b p1 p2 bl w l a N c z σ cs) {f : AV → Out} : ldK Tryd.prog 85 σ p1 0 f = f (.ptr (some (b, 0))) := by
  rw [ldK_at h.px, partK_s agg85 rfl]
theorem V.cells (h : V σ0 b p1 p2 bl w l a N c z σ cs) : cellsAt σ b = some cs := by
  unfold cellsAt; rw [h.x]
theorem V.ldi (h : V σ0 b p1 p2 bl w l a N c z σ cs) {o : Nat} {v : Int} {f : AV → Out} (hc : cs[o]? = some (.int .i64 v)) : ldK Tryd.prog 3 σ b (0 + o) f = f (.int .i64 v) := by
  rw [ldK_at h.cells, Nat.zero_add, partK_s agg3 hc]

/-- The numbers are put at their places: what follows. -/
theorem V.call57 (h : V σ0 b p1 p2 bl w l a N c z σ cs) {n : Nat} {c' : Option Nat} {Q : AV → St → Prop} {ps : List (Nat × Nat)} {k : AV → St → Out} {m : Nat} {tosV : List AV} (htv : tosV = ps.map ptrV) (hm : m = ps.length) (hN : l.length ≤ 2000000) (hps : ps.length ≤ 100) (hn : ps.length + 1 < n) (hp : ∀ p ∈ ps, Tgt σ p ∧ p.1 ≠ p1 ∧ p.1 ≠ p2 ∧ p.1 ≠ bl ∧ σ0.length ≤ p.1)
    (_ : p2 < σ.length) (g : ∀ σ', V σ0 b p1 p2 bl w l a N c z σ' (updT b cs ps l) → GivesQ σ0 Q (k (.tuple []) σ')) :
    GivesQ σ0 Q (callT Tryd.prog Lb n 57 [.slice (some (σ.length, 0)) m c' 1, .ptr (some (p2, 0))] (σ ++ [.cells tosV (.rw (some 112))]) k) ∧
    GivesQ σ0 Q (callTD Tryd.prog Lb n 57 [.slice (some (σ.length, 0)) m c' 1, .ptr (some (p2, 0))] (σ ++ [.cells tosV (.rw (some 112))]) k) := by
  subst hm
  subst htv
  obtain ⟨n, rfl⟩ : ∃ n', n = n' + 1 := ⟨n - 1, by omega⟩
  have hV := (h.app [.cells (ps.map ptrV) (.rw (some 112))])
  have hT : ∀ p ∈ ps, Tgt (σ ++ [.cells (ps.map ptrV) (.rw (some 112))]) p ∧ p.1 ≠ σ.length ∧ p.1 ≠ p2 ∧ p.1 ≠ bl := by
    intro p hq
    obtain ⟨⟨cs', t, x1, x2⟩, y1, y2, y3, y4⟩ := hp p hq
    have := (List.getElem?_eq_some_iff.1 x1).1
    exact ⟨⟨cs', t, (Up.app _ _).get x1, x2⟩, by omega, y2, y3⟩
  have hcall : callP Tryd.prog Lb (n + 1) 57 [.slice (some (σ.length, 0)) ps.length c' 1, .ptr (some (p2, 0))] (σ ++ [.cells (ps.map ptrV) (.rw (some 112))]) = some (.ret (.tuple []), puts ps l (σ ++ [.cells (ps.map ptrV) (.rw (some 112))])) := by
    refine f57_e.some ?_
    unfold f57_t
    exact put_l1 (tos := ps) rfl hps hN ps n 0 _ rfl (by omega) cellsAt_new hV.pl hV.ls hT
  have hV' := V.many ps l hV fun p hq => (hp p hq).2
  exact ⟨by rw [callT_ok hcall]; exact g _ hV', by rw [callTD_ok hcall]; exact g _ hV'⟩

/-- The last number is put. -/
theorem V.call58 (h : V σ0 b p1 p2 bl w l a N c z σ cs) {n : Nat} {Q : AV → St → Prop} {k : AV → St → Out} (hn : 1 ≤ n) (hN : l.length ≤ 2000000) (hc : 4 < cs.length) (hb : b ≠ p1 ∧ b ≠ p2 ∧ b ≠ bl ∧ σ0.length ≤ b)
    (g : ∀ σ', V σ0 b p1 p2 bl w l a N c z σ' (if l = [] then cs else cs.set 4 (.int .i64 (lastI l))) → GivesQ σ0 Q (k (.tuple []) σ')) :
    GivesQ σ0 Q (callT Tryd.prog Lb n 58 [.ptr (some (p2, 0)), .ptr (some (p1, 0))] σ k) := by
  obtain ⟨n, rfl⟩ : ∃ n', n = n' + 1 := ⟨n - 1, by omega⟩
  have hN' := h.ls.1
  by_cases hl : l = []
  · have hcall : callP Tryd.prog Lb (n + 1) 58 [.ptr (some (p2, 0)), .ptr (some (p1, 0))] σ = some (.ret (.tuple []), σ) := by
      refine f58_e.some ?_
      unfold f58_t
      subst hl
      rw [ldK_at h.pl, partK_s agg77 rfl, xSl_s, decide_eq_false (by simp at hN'; omega), cF]
    rw [callT_ok hcall]
    exact g σ (by rw [if_pos hl]; exact h)
  · have hpos : 0 < l.length := List.length_pos_iff.2 hl
    have hlast : l[l.length - 1]? = some (lastI l) := by
      unfold lastI
      rw [List.getLast?_eq_getElem?]
      rw [List.getElem?_eq_getElem (by omega)]; rfl
    obtain ⟨ha, hz, hi, _⟩ := h.ls.at (f := fun _ => none) hlast
    have hT : Tgt σ (b, 0 + 4) := ⟨cs, w, h.x, by simpa using hc⟩
    have e1 : IntKind.wrap .i64 ((N : Int) - 1) = ((l.length - 1 : Nat) : Int) := by rw [wrap64 (by omega) (by omega)]; omega
    have hcall : callP Tryd.prog Lb (n + 1) 58 [.ptr (some (p2, 0)), .ptr (some (p1, 0))] σ = some (.ret (.tuple []), put1 (b, 0 + 4) (lastI l) σ) := by
      refine f58_e.some ?_
      unfold f58_t
      rw [ldK_at h.pl, partK_s agg77 rfl, xSl_s, decide_eq_true (by omega), cT, h.ld1, xPtr_p, ldK_at h.pl, partK_s agg77 rfl, xSl_s, ldK_at h.pl, partK_s agg77 rfl, xSl_s, e1, idxK_ok ⟨by omega, by omega⟩, ha, derefK_s, hz, szK_s, Int.toNat_natCast, Nat.mul_one, (h.ls.at hlast).2.2.2, xInt_i, derefK_s, stK_put hT]
    rw [callT_ok hcall]
    have := h.put (p := (b, 0 + 4)) (v := lastI l) hb
    rw [if_pos rfl] at this
    exact g _ (by rw [if_neg hl]; exact this)

end

end Go.Proofs.Inst

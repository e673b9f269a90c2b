/- What a tree comes to: one answer and one heap, whatever fuel there is above some. -/
import Derived.Test.YtlbieeajocjpeaaGreatDoorAmLib
set_option linter.unusedSimpArgs false
namespace Go.AM
structure Fu where
  n : Nat
  m1 : Nat
  m2 : Nat
  m3 : Nat
def Fu.ge (u : Fu) (N : Nat) : Prop := N ≤ u.n ∧ N ≤ u.m1 ∧ N ≤ u.m2 ∧ N ≤ u.m3
theorem Fu.ge.mono {u : Fu} {N M : Nat} (h : u.ge N) (g : M ≤ N) : u.ge M := ⟨Nat.le_trans g h.1, Nat.le_trans g h.2.1, Nat.le_trans g h.2.2.1, Nat.le_trans g h.2.2.2⟩
abbrev Post := Res → St → Prop
def Wp (Q : Post) (F : Fu → Out) : Prop := ∃ N r σ, Q r σ ∧ ∀ u : Fu, u.ge N → F u = some (r, σ)
def Fw (P : Program) (B : Caller) (f : FuncId) (args : List AV) (σ : St) (Q : Post) : Prop := Wp Q fun u => callP P B u.n f args σ
section
variable {P : Program} {B : Caller} {Q Q' : Post} {σ : St} {F G : Fu → Out}
theorem Wp.mono (h : Wp Q F) (hq : ∀ r σ, Q r σ → Q' r σ) : Wp Q' F := let ⟨N, r, σ, h1, h2⟩ := h; ⟨N, r, σ, hq _ _ h1, h2⟩
theorem Fw.mono {f : FuncId} {args : List AV} (h : Fw P B f args σ Q) (hq : ∀ r σ, Q r σ → Q' r σ) : Fw P B f args σ Q' := Wp.mono h hq
theorem Wp.le (h : Wp Q F) (hl : ∀ u, Le (F u) (G u)) : Wp Q G := let ⟨N, r, σ, h1, h2⟩ := h; ⟨N, r, σ, h1, fun u hu => hl u _ (h2 u hu)⟩
theorem Wp.eq (h : Wp Q F) (hl : ∀ u, G u = F u) : Wp Q G := h.le fun u => Le.of_eq (hl u).symm
theorem Wp.ret {r : Res} (h : Q r σ) : Wp Q fun _ => some (r, σ) := ⟨0, r, σ, h, fun _ _ => rfl⟩
theorem Fw.enter {f : FuncId} {args : List AV} {t : Nat → Out} (he : ∀ n, Le (t n) (callP P B (n + 1) f args σ)) (h : Wp Q fun u => t u.n) : Fw P B f args σ Q := by
  obtain ⟨N, r, σ', h1, h2⟩ := h
  refine ⟨N + 1, r, σ', h1, fun u hu => ?_⟩
  obtain ⟨n, hn⟩ : ∃ n, u.n = n + 1 := ⟨u.n - 1, by have := hu.1; omega⟩
  show callP P B u.n f args σ = _
  rw [hn]
  exact he n _ (h2 ⟨n, n, n, n⟩ (by have := hu.1; exact ⟨by simp only; omega, by simp only; omega, by simp only; omega, by simp only; omega⟩))
theorem Fw.lib {f : FuncId} {args : List AV} {r : Res} {σ' : St} (h : B f args σ = some (r, σ')) (hq : Q r σ') : Fw P B f args σ Q := by
  refine ⟨1, r, σ', hq, fun u hu => ?_⟩
  obtain ⟨n, hn⟩ : ∃ n, u.n = n + 1 := ⟨u.n - 1, by have := hu.1; omega⟩
  show callP P B u.n f args σ = _
  rw [hn]
  exact callP_lib h
theorem Wp.fresh1 {F : Nat → Nat → Out} (h : Wp Q fun u => F u.n u.m1) : Wp Q fun u => F u.n u.n := by
  obtain ⟨N, r, σ, h1, h2⟩ := h
  exact ⟨N, r, σ, h1, fun u hu => h2 ⟨u.n, u.n, u.m2, u.m3⟩ ⟨hu.1, hu.1, hu.2.2.1, hu.2.2.2⟩⟩
theorem Wp.fresh2 {F : Nat → Nat → Nat → Out} (h : Wp Q fun u => F u.n u.m1 u.m2) : Wp Q fun u => F u.n u.m1 u.n := by
  obtain ⟨N, r, σ, h1, h2⟩ := h
  exact ⟨N, r, σ, h1, fun u hu => h2 ⟨u.n, u.m1, u.n, u.m3⟩ ⟨hu.1, hu.2.1, hu.1, hu.2.2.2⟩⟩
theorem Wp.round1 {t F : Nat → Nat → Out} (he : ∀ n m, Le (t n m) (F n (m + 1))) (h : Wp Q fun u => t u.n u.m1) : Wp Q fun u => F u.n u.m1 := by
  obtain ⟨N, r, σ, h1, h2⟩ := h
  refine ⟨N + 1, r, σ, h1, fun u hu => ?_⟩
  obtain ⟨m, hm⟩ : ∃ m, u.m1 = m + 1 := ⟨u.m1 - 1, by have := hu.2.1; omega⟩
  show F u.n u.m1 = _
  rw [hm]
  exact he u.n m _ (h2 ⟨u.n, m, u.m2, u.m3⟩ ⟨by have := hu.1; simp only; omega, by have := hu.2.1; simp only; omega, by have := hu.2.2.1; simp only; omega, by have := hu.2.2.2; simp only; omega⟩)
theorem Wp.round2 {t F : Nat → Nat → Nat → Out} (he : ∀ n m1 m, Le (t n m1 m) (F n m1 (m + 1))) (h : Wp Q fun u => t u.n u.m1 u.m2) : Wp Q fun u => F u.n u.m1 u.m2 := by
  obtain ⟨N, r, σ, h1, h2⟩ := h
  refine ⟨N + 1, r, σ, h1, fun u hu => ?_⟩
  obtain ⟨m, hm⟩ : ∃ m, u.m2 = m + 1 := ⟨u.m2 - 1, by have := hu.2.2.1; omega⟩
  show F u.n u.m1 u.m2 = _
  rw [hm]
  exact he u.n u.m1 m _ (h2 ⟨u.n, u.m1, m, u.m3⟩ ⟨by have := hu.1; simp only; omega, by have := hu.2.1; simp only; omega, by have := hu.2.2.1; simp only; omega, by have := hu.2.2.2; simp only; omega⟩)
theorem Wp.call {f : FuncId} {args : List AV} {Qf : Post} {k : Fu → AV → St → Out} (hf : Fw P B f args σ Qf) (hk : ∀ v σ', Qf (.ret v) σ' → Wp Q fun u => k u v σ') (hp : ∀ v σ', Qf (.pan v) σ' → Q (.pan v) σ') :
    Wp Q fun u => callT P B u.n f args σ (k u) := by
  obtain ⟨N, r, σ', h1, h2⟩ := hf
  cases r with
  | ret v =>
    obtain ⟨M, r2, σ2, g1, g2⟩ := hk v σ' h1
    refine ⟨max N M, r2, σ2, g1, fun u hu => ?_⟩
    show callT P B u.n f args σ (k u) = _
    rw [callT_ok (h2 u (hu.mono (Nat.le_max_left _ _)))]
    exact g2 u (hu.mono (Nat.le_max_right _ _))
  | pan v =>
    refine ⟨N, .pan v, σ', hp v σ' h1, fun u hu => ?_⟩
    show callK (callP P B u.n) f args σ (k u) panK = _
    unfold callK
    rw [show callP P B u.n f args σ = some (.pan v, σ') from h2 u hu]
    rfl
theorem Wp.calle {f : FuncId} {args : List AV} {Qf : Post} {k kp : Fu → AV → St → Out} (hf : Fw P B f args σ Qf) (hk : ∀ v σ', Qf (.ret v) σ' → Wp Q fun u => k u v σ') (hp : ∀ v σ', Qf (.pan v) σ' → Wp Q fun u => kp u v σ') :
    Wp Q fun u => callE P B u.n f args σ (k u) (kp u) := by
  obtain ⟨N, r, σ', h1, h2⟩ := hf
  cases r with
  | ret v =>
    obtain ⟨M, r2, σ2, g1, g2⟩ := hk v σ' h1
    refine ⟨max N M, r2, σ2, g1, fun u hu => ?_⟩
    show callK (callP P B u.n) f args σ (k u) (kp u) = _
    unfold callK
    rw [show callP P B u.n f args σ = some (.ret v, σ') from h2 u (hu.mono (Nat.le_max_left _ _))]
    exact g2 u (hu.mono (Nat.le_max_right _ _))
  | pan v =>
    obtain ⟨M, r2, σ2, g1, g2⟩ := hp v σ' h1
    refine ⟨max N M, r2, σ2, g1, fun u hu => ?_⟩
    show callK (callP P B u.n) f args σ (k u) (kp u) = _
    unfold callK
    rw [show callP P B u.n f args σ = some (.pan v, σ') from h2 u (hu.mono (Nat.le_max_left _ _))]
    exact g2 u (hu.mono (Nat.le_max_right _ _))
theorem Wp.calld {f : FuncId} {args : List AV} {Qf : Post} {k : Fu → AV → St → Out} (hf : Fw P B f args σ Qf) (hk : ∀ v σ', Qf (.ret v) σ' → Wp Q fun u => k u v σ') (hp : ∀ v σ', ¬ Qf (.pan v) σ') :
    Wp Q fun u => callTD P B u.n f args σ (k u) := by
  obtain ⟨N, r, σ', h1, h2⟩ := hf
  cases r with
  | ret v =>
    obtain ⟨M, r2, σ2, g1, g2⟩ := hk v σ' h1
    refine ⟨max N M, r2, σ2, g1, fun u hu => ?_⟩
    show callTD P B u.n f args σ (k u) = _
    rw [callTD_ok (h2 u (hu.mono (Nat.le_max_left _ _)))]
    exact g2 u (hu.mono (Nat.le_max_right _ _))
  | pan v => exact absurd h1 (hp v σ')
theorem Wp.callf {f : FuncId} {fs cs args : List AV} {k : Fu → AV → St → Out} (h : Wp Q fun u => callT P B u.n f (fs ++ args ++ cs) σ (k u)) : Wp Q fun u => callF P B u.n (.func (.func f) fs cs) args σ (k u) := h
theorem Wp.callfd {f : FuncId} {fs cs args : List AV} {k : Fu → AV → St → Out} (h : Wp Q fun u => Go.AM.callTD P B u.n f (fs ++ args ++ cs) σ (k u)) : Wp Q fun u => callFD P B u.n (.func (.func f) fs cs) args σ (k u) := h
theorem Wp.df {f : FuncId} {args : List AV} {x x' : Option AV} {σ' : St} {k : Fu → Option AV → St → Out} (hf : ∃ N, ∀ n, N ≤ n → runD P (callP P B n) n f args x σ = some (x', σ')) (hk : Wp Q fun u => k u x' σ') :
    Wp Q fun u => dfT P B u.n f args x σ (k u) := by
  obtain ⟨N, h⟩ := hf
  obtain ⟨M, r2, σ2, g1, g2⟩ := hk
  refine ⟨max N M, r2, σ2, g1, fun u hu => ?_⟩
  show dfK (runD P (callP P B u.n) u.n) f args x σ (k u) = _
  unfold dfK
  rw [h u.n (Nat.le_trans (Nat.le_max_left _ _) hu.1)]
  exact g2 u (hu.mono (Nat.le_max_right _ _))
theorem Wp.ld {t : TypeId} {b off : Nat} {cs : List AV} {x : AV} {k : Fu → AV → Out} (hc : cellsAt σ b = some cs) (hx : ∀ f : AV → Out, partK P t cs off f = f x) (h : Wp Q fun u => k u x) : Wp Q fun u => ldK P t σ b off (k u) :=
  h.eq fun u => by unfold ldK; rw [hc]; exact hx _
theorem Wp.st {b off : Nat} {cs ys : List AV} {m : Mk} {k : Fu → St → Out} (hc : σ[b]? = some (.cells cs (.rw m))) (hl : off + ys.length ≤ cs.length) (h : Wp Q fun u => k u (σ.set b (.cells (setMany cs off ys) (.rw m)))) :
    Wp Q fun u => stK σ b off ys (k u) :=
  h.eq fun u => by unfold stK; rw [hc]; simp only; rw [if_pos hl]
theorem Wp.app0 {e : TypeId} {size bytes len sz n : Nat} {new : List AV} {k : Fu → Option (Nat × Nat) → Nat → Option Nat → St → Out} (hn : n ≠ 0) (hb : n * bytes ≤ 140737488355328 ∧ n < 9223372036854775807)
    (h : Wp Q fun u => k u (some (σ.length, 0)) n none (σ ++ [.cells new (.rw (.row e))])) : Wp Q fun u => appK σ e size bytes none len sz n new (k u) :=
  h.eq fun u => by unfold appK; simp only; rw [if_neg hn, if_pos hb]
theorem Wp.appN {e : TypeId} {size bytes len sz : Nat} {new : List AV} {k : Fu → Option (Nat × Nat) → Nat → Option Nat → St → Out} (h : Wp Q fun u => k u none 0 (some 0) σ) : Wp Q fun u => appK σ e size bytes none len sz 0 new (k u) :=
  h.eq fun u => by unfold appK; simp
theorem Wp.app1 {e : TypeId} {size bytes b o len n : Nat} {cs new : List AV} {m : Mk} {k : Fu → Option (Nat × Nat) → Nat → Option Nat → St → Out} (hc : σ[b]? = some (.cells cs (.rw m))) (hl : o + len * size ≤ cs.length)
    (hb : (len + n) * bytes ≤ 140737488355328 ∧ len + n < 9223372036854775807)
    (h : Wp Q fun u => k u (some (σ.length, 0)) (len + n) none (σ.set b .dead ++ [.cells ((cs.drop o).take (len * size) ++ new) (.rw (joinW m e))])) : Wp Q fun u => appK σ e size bytes (some (b, o)) len size n new (k u) :=
  h.eq fun u => by unfold appK; simp only; rw [if_pos trivial, hc]; simp only; rw [if_pos hl, if_pos hb]
theorem Wp.keeps {l : List (St × St × Nat)} (hl : ∀ p ∈ l, p.2.1[p.2.2]? = p.1[p.2.2]?) (h : Wp Q F) : Wp Q fun u => keepsK l (F u) := by
  refine h.eq fun u => ?_
  induction l with
  | nil => rfl
  | cons p l ih =>
    obtain ⟨s, s', b⟩ := p
    unfold keepsK keepK
    rw [if_pos (hl (s, s', b) (by simp))]
    exact ih fun p hp => hl p (by simp [hp])
theorem Wp.ite {b : Bool} (h1 : b = true → Wp Q F) (h0 : b = false → Wp Q G) : Wp Q fun u => cond b (F u) (G u) := by
  cases b
  · exact (h0 rfl).eq fun u => cF
  · exact (h1 rfl).eq fun u => cT
theorem Wp.pos {b : Bool} (hb : b = true) (h : Wp Q F) : Wp Q fun u => cond b (F u) (G u) := h.eq fun u => by rw [hb]; exact cT
theorem Wp.neg {b : Bool} (hb : b = false) (h : Wp Q G) : Wp Q fun u => cond b (F u) (G u) := h.eq fun u => by rw [hb]; exact cF
theorem Wp.lv0 {f : Fu → AV → Out} (h : Wp Q F) : Wp Q fun u => lvK none (f u) (F u) := h.eq fun u => by simp only [lvK]
theorem Wp.lv1 {v : AV} {f : Fu → AV → Out} (h : Wp Q fun u => f u v) : Wp Q fun u => lvK (some v) (f u) (F u) := h.eq fun u => by simp only [lvK]
end
end Go.AM

/- Regions that draw their order: any order comes to what the text's order comes to. -/
import Derived.Test.YtidammkjfdonaaaDoorAmDraw
set_option linter.unusedSimpArgs false
namespace Go.AM
open Go.RowKit

/-- A step, its guard asked ahead. -/
def gop (P : Program) (lm : Nat) (call : Caller) (ops : Array Oper) (o : Oper) (env : Env) (σ : St) (k : TV → Env → St → Out) : Out :=
  match o.guard with
  | none => xop P lm call env σ o k (fun _ _ => none)
  | some (j, want) =>
    match (ops[j]?).bind (·.dst) with
    | some d => match env.tmps.getD d .no with
      | .v (.bool b) => if b = want then xop P lm call env σ o k (fun _ _ => none) else k (.v (.tuple [])) env σ
      | .v (.tuple []) => k (.v (.tuple [])) env σ
      | _ => none
    | none => none

/-- As Unif, for a step with its guard. -/
def GU (P : Program) (lm : Nat) (call : Caller) (ops : Array Oper) (o : Oper) (c : Cls) (e : Env) (σ : St) (t : TV) (δ : Delta) : Prop :=
  (∀ k, k ∈ keyOf t → k ∈ c.keys) ∧ δ.ok c (newKey lm o) ∧ (∀ d ∈ newKey lm o, d ∈ c.keys ∧ c.w = true) ∧
  ∀ e2 σ2, Agree o ops c e σ e2 σ2 → ∀ k, gop P lm call ops o e2 σ2 k = k t (δ.env e2) (δ.st σ2)

section
variable {P : Program} {lm : Nat} {call : Caller} {ops : Array Oper} {out : Res × St} {k : Env → St → Out}

theorem Agree.refl (o : Oper) (c : Cls) (e : Env) (σ : St) : Agree o ops c e σ e σ := ⟨fun _ _ => rfl, fun _ _ _ _ _ => rfl, fun _ _ => rfl, fun _ _ => rfl, fun _ _ _ => rfl⟩
theorem Agree.trans {o : Oper} {c : Cls} {e1 e2 e3 : Env} {σ1 σ2 σ3 : St} (h : Agree o ops c e1 σ1 e2 σ2) (g : Agree o ops c e2 σ2 e3 σ3) : Agree o ops c e1 σ1 e3 σ3 :=
  ⟨fun x hx => (g.ops_ x hx).trans (h.ops_ x hx), fun j want d h1 h2 => (g.guard j want d h1 h2).trans (h.guard j want d h1 h2), fun q hq => (g.keys q hq).trans (h.keys q hq), fun hh hb => (g.heap hh hb).trans (h.heap hh hb), fun hh b hb => (g.blk hh b hb).trans (h.blk hh b hb)⟩

theorem GU.move {o : Oper} {c : Cls} {e e' : Env} {σ σ' : St} {t : TV} {δ : Delta} (h : GU P lm call ops o c e σ t δ) (g : Agree o ops c e σ e' σ') : GU P lm call ops o c e' σ' t δ :=
  ⟨h.1, h.2.1, h.2.2.1, fun e2 σ2 ha k => h.2.2.2 e2 σ2 (g.trans ha) k⟩

theorem gop_goes {o : Oper} {env : Env} {σ : St} {k : TV → Env → St → Out} (hcalm : calmO P o = true) (h : gop P lm call ops o env σ k = some out) : ∃ t δ, GU P lm call ops o (clsOf lm env o) env σ t δ ∧ k t (δ.env env) (δ.st σ) = some out := by
  have hnew : ∀ d ∈ newKey lm o, d ∈ (clsOf lm env o).keys ∧ (clsOf lm env o).w = true := by
    intro d hd
    refine ⟨mem_new hd, ?_⟩
    have hne : (newKey lm o).isEmpty = false := by cases hn : newKey lm o <;> simp_all
    unfold clsOf
    simp only
    split
    · rename_i t x y hop; exfalso; unfold newKey at hd; rw [hop] at hd; simp at hd
    · rw [hne]; rfl
  unfold gop at h
  split at h
  · rename_i hg
    obtain ⟨t, δ, ⟨h1, h2, h3⟩, hk⟩ := xop_goes (ops := ops) hcalm h
    exact ⟨t, δ, ⟨h1, h2, hnew, fun e2 σ2 ha k => by unfold gop; rw [hg]; exact h3 e2 σ2 ha k _⟩, hk⟩
  · rename_i j want hg
    split at h
    · rename_i d hd
      have skip (hk : k (.v (.tuple [])) env σ = some out) (hs : ∀ e2 σ2, Agree o ops (clsOf lm env o) env σ e2 σ2 → ∀ k, gop P lm call ops o e2 σ2 k = k (.v (.tuple [])) e2 σ2) : ∃ t δ, GU P lm call ops o (clsOf lm env o) env σ t δ ∧ k t (δ.env env) (δ.st σ) = some out :=
        ⟨.v (.tuple []), .id, ⟨fun q hq => by simp [keyOf] at hq, ⟨fun d h => (by cases h), fun k cs h => (by cases h), fun h => (by cases h), fun b ob h => (by cases h)⟩, hnew, hs⟩, hk⟩
      split at h
      · rename_i b hb
        split at h
        · rename_i hw
          obtain ⟨t, δ, ⟨h1, h2, h3⟩, hk⟩ := xop_goes (ops := ops) hcalm h
          refine ⟨t, δ, ⟨h1, h2, hnew, fun e2 σ2 ha k => ?_⟩, hk⟩
          have hgd := ha.guard j want d hg hd
          unfold gop
          simp only [hg, hd, hgd, hb, if_pos hw]
          exact h3 e2 σ2 ha k _
        · rename_i hw
          refine skip h fun e2 σ2 ha k => ?_
          have hgd := ha.guard j want d hg hd
          unfold gop
          simp only [hg, hd, hgd, hb, if_neg hw]
      · rename_i hb
        refine skip h fun e2 σ2 ha k => ?_
        have hgd := ha.guard j want d hg hd
        unfold gop
        simp only [hg, hd, hgd, hb]
      · cases h
    · cases h

/-- The text's order, step by step. -/
inductive DR (P : Program) (lm : Nat) (call : Caller) (ops : Array Oper) (k : Env → St → Out) (out : Res × St) : List (Nat × Oper × Cls) → Env → St → Prop
  | nil (e : Env) (σ : St) (h : k e σ = some out) : DR P lm call ops k out [] e σ
  | cons (i : Nat) (o : Oper) (c : Cls) (r : List (Nat × Oper × Cls)) (e : Env) (σ : St) (t : TV) (δ : Delta) (h : GU P lm call ops o c e σ t δ)
      (hr : DR P lm call ops k out r ((δ.env e).put o.dst t) (δ.st σ)) : DR P lm call ops k out ((i, o, c) :: r) e σ

/-- Two operations, one ahead of the other in the text: ordered, or apart. -/
def Good (ops : Array Oper) (anc : List Nat) (lm : Nat) (x y : Nat × Oper × Cls) : Prop :=
  ((anc.getD y.1 0).testBit x.1 = true ∨ (Oper.apart ops x.2.1 y.2.1 = true ∧ x.2.2.conflict y.2.2 = false)) ∧ ∀ d ∈ newKey lm y.2.1, d ∉ x.2.2.keys

def NewFree (lm : Nat) (l : List (Nat × Oper × Cls)) (e : Env) : Prop := ∀ x ∈ l, ∀ d ∈ newKey lm x.2.1, ∀ t ∈ e.tmps, d ∉ keyOf t

theorem killT_id {d : Nat} {t : TV} (h : d ∉ keyOf t) : killT d t = t := by
  cases t with
  | lp k off => simp [keyOf] at h; simp [killT]; omega
  | ls k n => simp [keyOf] at h; simp [killT]; omega
  | _ => rfl

theorem keyOf_killT {d q : Nat} {t : TV} (h : q ∈ keyOf (killT d t)) : q ∈ keyOf t := by
  cases t with
  | lp k off => simp only [killT] at h; split at h <;> simp_all [keyOf]
  | ls k n => simp only [killT] at h; split at h <;> simp_all [keyOf]
  | _ => exact h

theorem map_kill_id {d : Nat} {l : List TV} (h : ∀ t ∈ l, d ∉ keyOf t) : l.map (killT d) = l := by
  exact (List.map_congr_left (f := killT d) (g := id) fun t ht => killT_id (h t ht)).trans (List.map_id l)

theorem Delta.tmps_id {δ : Delta} {c : Cls} {o : Oper} {e : Env} (h : δ.ok c (newKey lm o)) (hf : ∀ d ∈ newKey lm o, ∀ t ∈ e.tmps, d ∉ keyOf t) : (δ.env e).tmps = e.tmps := by
  unfold Delta.env
  simp only
  split
  · rename_i d hd; exact map_kill_id (hf d (h.kill d hd))
  · rfl

theorem put_tmps (e : Env) (dst : Option Tmp) (t : TV) : (e.put dst t).tmps = match dst with | some d => e.tmps.set d t | none => e.tmps := by
  cases dst <;> rfl
theorem put_locs (e : Env) (dst : Option Tmp) (t : TV) : (e.put dst t).locs = e.locs := by
  cases dst <;> rfl

theorem getD_put_ne {e : Env} {dst : Option Tmp} {t : TV} {u : Nat} (h : ∀ d, dst = some d → d ≠ u) : (e.put dst t).tmps.getD u .no = e.tmps.getD u .no := by
  cases dst with
  | none => rfl
  | some d => simp only [put_tmps, List.getD_eq_getElem?_getD]; rw [List.getElem?_set_ne (h d rfl)]

theorem over_sym (a b : Cls) : a.over b = b.over a := by
  unfold Cls.over
  cases a.hb <;> cases b.hb <;> simp only
  rename_i x y
  rw [Bool.eq_iff_iff]; simp only [beq_iff_eq]; exact ⟨fun h => h.symm, fun h => h.symm⟩

theorem conflict_sym (a b : Cls) (h : a.conflict b = false) : b.conflict a = false := by
  unfold Cls.conflict at h ⊢
  rw [over_sym b a]
  simp only [Bool.or_eq_false_iff] at h ⊢
  obtain ⟨⟨h1, h2⟩, h3⟩ := h
  refine ⟨⟨?_, h3⟩, h2⟩
  simp only [Bool.and_eq_false_iff, Bool.or_eq_false_iff] at h1 ⊢
  rcases h1 with ⟨ha, hb⟩ | h1
  · exact .inl ⟨hb, ha⟩
  · right
    rw [Bool.eq_false_iff] at h1 ⊢
    intro hc
    apply h1
    obtain ⟨x, hx, hy⟩ := List.any_eq_true.1 hc
    exact List.any_eq_true.2 ⟨x, by simpa using hy, by simpa using hx⟩

theorem conflict_key {a b : Cls} (h : a.conflict b = false) {q : Nat} (ha : q ∈ a.keys) (hb : q ∈ b.keys) : a.w = false ∧ b.w = false := by
  unfold Cls.conflict at h
  simp only [Bool.or_eq_false_iff, Bool.and_eq_false_iff] at h
  rcases h.1.1 with h1 | h1
  · exact h1
  · exfalso
    rw [Bool.eq_false_iff] at h1
    exact h1 (List.any_eq_true.2 ⟨q, ha, by simpa using hb⟩)

theorem conflict_heap {a b : Cls} (h : a.conflict b = false) (ha : a.hp = 2) (hb : b.hp ≠ 0) : ∃ x y, a.hb = some x ∧ b.hb = some y ∧ x ≠ y := by
  unfold Cls.conflict at h
  simp only [Bool.or_eq_false_iff, Bool.and_eq_false_iff] at h
  have h2 := h.1.2
  have e1 : (a.hp == 2) = true := by simp [ha]
  have e2 : (b.hp != 0) = true := by simp [hb]
  simp only [e1, e2] at h2
  have ho : a.over b = false := by rcases h2 with (h2 | h2) | h2 <;> first | (cases h2; done) | exact h2
  unfold Cls.over at ho
  split at ho
  · rename_i x y hx hy; exact ⟨x, y, hx, hy, by simpa using ho⟩
  · cases ho

theorem conflict_of_S {a b : Cls} (h : a.conflictS b = false) (hn : ∀ p ∈ a.need b, p.1 ≠ p.2) : a.conflict b = false := by
  unfold Cls.conflictS at h
  unfold Cls.conflict
  unfold Cls.need at hn
  unfold Cls.overS at h
  unfold Cls.over
  cases ha : a.hb with
  | none => rw [ha] at h; exact h
  | some x =>
    cases hb : b.hb with
    | none => rw [ha, hb] at h; exact h
    | some y =>
      rw [ha, hb] at h hn
      simp only at h hn ⊢
      simp only [Bool.and_false, Bool.or_false] at h
      rw [h]
      split at hn
      · rename_i hc
        have := hn (x, y) (by simp)
        have hxy : (x == y) = false := by simpa using this
        rw [hxy]; simp
      · rename_i hc
        simp only [Bool.or_eq_true, not_or, Bool.not_eq_true] at hc
        rw [hc.1, hc.2]; simp

theorem apK_some : ∀ {l : List (Nat × Nat)} {x : Out}, apK l x = some out → (∀ p ∈ l, p.1 ≠ p.2) ∧ x = some out
  | [], _, h => ⟨fun p hp => (by cases hp), h⟩
  | (a, b) :: r, x, h => by
    unfold apK at h
    split at h
    · cases h
    · rename_i hne
      obtain ⟨h1, h2⟩ := apK_some h
      refine ⟨fun p hp => ?_, h2⟩
      rcases List.mem_cons.1 hp with rfl | hp
      · exact hne
      · exact h1 p hp

theorem needs_mem {anc : List Nat} {i : Nat} {c : Cls} : ∀ {acc : List (Nat × Oper × Cls)}, (∀ p ∈ needsOf anc i c acc, p.1 ≠ p.2) → ∀ x ∈ acc, (anc.getD i 0).testBit x.1 = false → ∀ p ∈ x.2.2.need c, p.1 ≠ p.2
  | [], _, x, hx, _, _, _ => by cases hx
  | (j, oj, cj) :: r, h, x, hx, ht, p, hp => by
    unfold needsOf at h
    rcases List.mem_cons.1 hx with rfl | hx
    · rw [if_neg (by simp only at ht; rw [ht]; decide)] at h
      exact h p (List.mem_append.2 (.inl hp))
    · split at h
      · exact needs_mem h x hx ht p hp
      · exact needs_mem (fun p hp => h p (List.mem_append.2 (.inr hp))) x hx ht p hp

/-- What one step does, the other can't tell. -/
theorem agree_past {x y : Oper} {cx cy : Cls} {e : Env} {σ : St} {t : TV} {δ : Delta} (hg : GU P lm call ops x cx e σ t δ) (hap : ∀ d, x.dst = some d → d ∉ y.looksAt ops) (hcf : cx.conflict cy = false)
    (hf : ∀ d ∈ newKey lm x, ∀ t ∈ e.tmps, d ∉ keyOf t) : Agree y ops cy ((δ.env e).put x.dst t) (δ.st σ) e σ := by
  have htm := Delta.tmps_id hg.2.1 hf
  refine ⟨fun p hp => ?_, fun j want d hgd hd => ?_, fun q hq => ?_, fun hh hbn => ?_, fun hh b hbb => ?_⟩
  · cases p with
    | tmp u =>
      have hu : u ∈ y.looksAt ops := by
        unfold Oper.looksAt
        exact List.mem_append.2 (.inl (List.mem_filterMap.2 ⟨.tmp u, hp, rfl⟩))
      show e.tmps.getD u .no = ((δ.env e).put x.dst t).tmps.getD u .no
      rw [getD_put_ne (fun d hd he => hap d hd (he ▸ hu)), htm]
    | _ => rfl
  · have hu : d ∈ y.looksAt ops := by
      unfold Oper.looksAt
      refine List.mem_append.2 (.inr ?_)
      rw [hgd]; simp only; rw [hd]; simp
    rw [getD_put_ne (fun d' hd' he => hap d' hd' (he ▸ hu)), htm]
  · rw [put_locs]
    unfold Delta.env
    simp only
    split
    · rename_i kx cs hs
      have := hg.2.1.setl kx cs hs
      by_cases hqk : q = kx
      · subst hqk
        have := (conflict_key hcf this.1 hq).1
        simp_all
      · rw [lookL_setL_ne _ _ _ hqk]
    · rfl
  · unfold Delta.st
    cases hp : δ.put with
    | some q =>
      obtain ⟨b, ob⟩ := q
      exfalso
      obtain ⟨x, y, _, hy, _⟩ := conflict_heap hcf (hg.2.1.put b ob hp).1 hh
      rw [hbn] at hy; cases hy
    | none =>
      cases hs : δ.heap with
      | none => rfl
      | some s =>
        exfalso
        obtain ⟨x, y, _, hy, _⟩ := conflict_heap hcf (hg.2.1.heap (by rw [hs]; rfl)).1 hh
        rw [hbn] at hy; cases hy
  · unfold Delta.st
    cases hp : δ.put with
    | some q =>
      obtain ⟨b', ob⟩ := q
      have h1 := hg.2.1.put b' ob hp
      obtain ⟨x, y, hx, hy, hne⟩ := conflict_heap hcf h1.1 hh
      rw [h1.2] at hx; cases hx
      rw [hbb] at hy; cases hy
      exact (List.getElem?_set_ne hne).symm
    | none =>
      cases hs : δ.heap with
      | none => rfl
      | some s =>
        exfalso
        have h1 := hg.2.1.heap (by rw [hs]; rfl)
        obtain ⟨x, y, hx, _, _⟩ := conflict_heap hcf h1.1 hh
        rw [h1.2] at hx; cases hx

/-- Two steps that leave each other alone, exchanged. -/
theorem steps_swap {x y : Oper} {cx cy : Cls} {e : Env} {σ : St} {tx ty : TV} {δx δy : Delta} (hx : GU P lm call ops x cx e σ tx δx) (hy : GU P lm call ops y cy e σ ty δy)
    (hap : Oper.apart ops x y = true) (hcf : cx.conflict cy = false) (hfx : ∀ d ∈ newKey lm x, ∀ t ∈ e.tmps, d ∉ keyOf t) (hfy : ∀ d ∈ newKey lm y, ∀ t ∈ e.tmps, d ∉ keyOf t) :
    (δx.env ((δy.env e).put y.dst ty)).put x.dst tx = (δy.env ((δx.env e).put x.dst tx)).put y.dst ty ∧ δx.st (δy.st σ) = δy.st (δx.st σ) := by
  obtain ⟨h1, h2, h3⟩ := Oper.apart_spec hap
  have set_mem {l : List TV} {d : Nat} {t u : TV} (h : u ∈ l.set d t) : u ∈ l ∨ u = t := by
    rcases List.mem_or_eq_of_mem_set h with h | h <;> simp [h]
  have tmx : (δx.env e).tmps = e.tmps := Delta.tmps_id hx.2.1 hfx
  have tmy : (δy.env e).tmps = e.tmps := Delta.tmps_id hy.2.1 hfy
  have tmxy : (δx.env ((δy.env e).put y.dst ty)).tmps = ((δy.env e).put y.dst ty).tmps := by
    refine Delta.tmps_id hx.2.1 fun d hd t ht => ?_
    rw [put_tmps] at ht
    have main (ht' : t = ty) : d ∉ keyOf t := by
      subst ht'
      intro hk
      obtain ⟨hdk, hdw⟩ := hx.2.2.1 d hd
      have := (conflict_key hcf hdk (hy.1 d hk)).1
      simp_all
    split at ht
    · rcases set_mem ht with ht | ht
      · rw [tmy] at ht; exact hfx d hd t ht
      · exact main ht
    · rw [tmy] at ht; exact hfx d hd t ht
  have tmyx : (δy.env ((δx.env e).put x.dst tx)).tmps = ((δx.env e).put x.dst tx).tmps := by
    refine Delta.tmps_id hy.2.1 fun d hd t ht => ?_
    rw [put_tmps] at ht
    have main (ht' : t = tx) : d ∉ keyOf t := by
      subst ht'
      intro hk
      obtain ⟨hdk, hdw⟩ := hy.2.2.1 d hd
      have := (conflict_key hcf (hx.1 d hk) hdk).2
      simp_all
    split at ht
    · rcases set_mem ht with ht | ht
      · rw [tmx] at ht; exact hfy d hd t ht
      · exact main ht
    · rw [tmx] at ht; exact hfy d hd t ht
  have locs_of (δ : Delta) (e : Env) : (δ.env e).locs = match δ.setl with | some (k, cs) => setL e.locs k cs | none => e.locs := rfl
  constructor
  · have htm : ((δx.env ((δy.env e).put y.dst ty)).put x.dst tx).tmps = ((δy.env ((δx.env e).put x.dst tx)).put y.dst ty).tmps := by
      rw [put_tmps, put_tmps, tmxy, tmyx, put_tmps, put_tmps, tmx, tmy]
      cases hdx : x.dst with
      | none => rfl
      | some dx =>
        cases hdy : y.dst with
        | none => rfl
        | some dy =>
          have hne : dx ≠ dy := fun he => h2 dx hdx (by rw [hdy, he])
          simp only
          rw [List.set_comm _ _ hne.symm]
    have hlc : ((δx.env ((δy.env e).put y.dst ty)).put x.dst tx).locs = ((δy.env ((δx.env e).put x.dst tx)).put y.dst ty).locs := by
      rw [put_locs, put_locs, locs_of, locs_of, put_locs, put_locs, locs_of, locs_of]
      cases hsx : δx.setl with
      | none => cases hsy : δy.setl <;> rfl
      | some px =>
        cases hsy : δy.setl with
        | none => rfl
        | some py =>
          obtain ⟨kx, csx⟩ := px
          obtain ⟨ky, csy⟩ := py
          have hkx := hx.2.1.setl kx csx hsx
          have hky := hy.2.1.setl ky csy hsy
          have hne : kx ≠ ky := fun he => by
            subst he
            have := (conflict_key hcf hkx.1 hky.1).1
            simp_all
          simp only
          exact setL_comm _ hne.symm _ _
    cases hA : (δx.env ((δy.env e).put y.dst ty)).put x.dst tx
    cases hB : (δy.env ((δx.env e).put x.dst tx)).put y.dst ty
    rw [hA, hB] at htm hlc
    simp only at htm hlc
    rw [htm, hlc]
  · have two {δ : Delta} {c : Cls} {o : Oper} (h : δ.ok c (newKey lm o)) (hs : δ.heap.isSome = true) : c.hp = 2 ∧ c.hb = none := h.heap hs
    unfold Delta.st
    cases hpx : δx.put with
    | some qx =>
      obtain ⟨bx, ox⟩ := qx
      have h1 := hx.2.1.put bx ox hpx
      cases hpy : δy.put with
      | some qy =>
        obtain ⟨by_, oy⟩ := qy
        have h2 := hy.2.1.put by_ oy hpy
        obtain ⟨x, y, hx', hy', hne⟩ := conflict_heap hcf h1.1 (by rw [h2.1]; decide)
        rw [h1.2] at hx'; cases hx'
        rw [h2.2] at hy'; cases hy'
        exact List.set_comm _ _ hne.symm
      | none =>
        cases hsy : δy.heap with
        | none => rfl
        | some s2 =>
          exfalso
          have h2 := two hy.2.1 (by rw [hsy]; rfl)
          obtain ⟨x, y, _, hy', _⟩ := conflict_heap hcf h1.1 (by rw [h2.1]; decide)
          rw [h2.2] at hy'; cases hy'
    | none =>
      cases hsx : δx.heap with
      | none => cases hpy : δy.put <;> rfl
      | some s1 =>
        have h1 := two hx.2.1 (by rw [hsx]; rfl)
        have no (h2 : cy.hp = 2) : False := by
          obtain ⟨x, y, hx', _, _⟩ := conflict_heap hcf h1.1 (by rw [h2]; decide)
          rw [h1.2] at hx'; cases hx'
        cases hpy : δy.put with
        | some qy => exact (no (hy.2.1.put qy.1 qy.2 hpy).1).elim
        | none =>
          cases hsy : δy.heap with
          | none => rfl
          | some s2 => exact (no (two hy.2.1 (by rw [hsy]; rfl)).1).elim

theorem NewFree.step {l : List (Nat × Oper × Cls)} {anc : List Nat} {x : Nat × Oper × Cls} {e : Env} {σ : St} {t : TV} {δ : Delta} (h : NewFree lm l e) (hx : GU P lm call ops x.2.1 x.2.2 e σ t δ) (hg : ∀ y ∈ l, Good ops anc lm x y)
    (hfx : ∀ d ∈ newKey lm x.2.1, ∀ t ∈ e.tmps, d ∉ keyOf t) : NewFree lm l ((δ.env e).put x.2.1.dst t) := by
  intro y hy d hd u hu
  rw [put_tmps, Delta.tmps_id hx.2.1 hfx] at hu
  split at hu
  · rcases List.mem_or_eq_of_mem_set hu with hu | hu
    · exact h y hy d hd u hu
    · subst hu
      intro hk
      exact (hg y hy).2 d hd (hx.1 d hk)
  · exact h y hy d hd u hu

/-- One that comes behind none of those ahead of it goes first. -/
theorem DR.front {anc : List Nat} {z : Nat × Oper × Cls} : ∀ (p q : List (Nat × Oper × Cls)) (e : Env) (σ : St), DR P lm call ops k out (p ++ z :: q) e σ → List.Pairwise (Good ops anc lm) (p ++ z :: q) → NewFree lm (p ++ z :: q) e →
    (∀ x ∈ p, (anc.getD z.1 0).testBit x.1 = false) → ∃ t δ, GU P lm call ops z.2.1 z.2.2 e σ t δ ∧ DR P lm call ops k out (p ++ q) ((δ.env e).put z.2.1.dst t) (δ.st σ)
  | [], q, e, σ, h, _, _, _ => by
    cases h with
    | cons i o c r _ _ t δ hu hr => exact ⟨t, δ, hu, hr⟩
  | x :: p, q, e, σ, h, hp, hf, hno => by
    cases h with
    | cons i o c r _ _ tx δx hu hr =>
      simp only [List.cons_append, List.pairwise_cons] at hp
      have hfx : ∀ d ∈ newKey lm o, ∀ t ∈ e.tmps, d ∉ keyOf t := fun d hd t ht => hf (i, o, c) (by simp) d hd t ht
      have hf1 : NewFree lm (p ++ z :: q) e := fun y hy => hf y (by simp at hy ⊢; exact .inr hy)
      have hf2 := hf1.step (x := (i, o, c)) hu hp.1 hfx
      obtain ⟨tz, δz, hz, hrest⟩ := DR.front p q _ _ hr hp.2 hf2 (fun y hy => hno y (by simp [hy]))
      have hgood := hp.1 z (by simp)
      have hun := hno (i, o, c) (by simp)
      obtain ⟨hap, hcf⟩ : Oper.apart ops o z.2.1 = true ∧ c.conflict z.2.2 = false := by
        rcases hgood.1 with h | h
        · rw [hun] at h; cases h
        · exact h
      obtain ⟨a1, a2, a3⟩ := Oper.apart_spec hap
      have hfz : ∀ d ∈ newKey lm z.2.1, ∀ t ∈ e.tmps, d ∉ keyOf t := fun d hd t ht => hf z (by simp) d hd t ht
      have hz0 := hz.move (agree_past hu a1 hcf hfx)
      refine ⟨tz, δz, hz0, ?_⟩
      have hag : Agree o ops c e σ ((δz.env e).put z.2.1.dst tz) (δz.st σ) := by
        have := agree_past hz0 (y := o) (cy := c) a3 (conflict_sym _ _ hcf) hfz
        exact ⟨fun p hp => (this.ops_ p hp).symm, fun j want d h1 h2 => (this.guard j want d h1 h2).symm, fun q hq => (this.keys q hq).symm, fun hh hb => (this.heap hh hb).symm, fun hh b hb => (this.blk hh b hb).symm⟩
      have hu2 := hu.move hag
      obtain ⟨he, hs⟩ := steps_swap hu hz0 hap hcf hfx hfz
      refine .cons i o c _ _ _ tx δx hu2 ?_
      rw [he, hs]
      exact hrest

/-! ### whatever order -/

theorem set_getD_self {l : List TV} {d : Nat} {x : AV} (h : l.getD d .no = .v x) : l.set d (.v x) = l := by
  rw [List.getD_eq_getElem?_getD] at h
  cases hd : l[d]? with
  | none => rw [hd] at h; cases h
  | some y =>
    rw [hd] at h
    simp at h
    subst h
    obtain ⟨hlt, he⟩ := List.getElem?_eq_some_iff.1 hd
    rw [← he]; simp

theorem runDr_cons {anc : List Nat} {i : Nat} {o : Oper} {r : List Oper} {acc : List (Nat × Oper × Cls)} {env : Env} {σ : St} (h : runDr P lm call ops anc k i (o :: r) acc env σ = some out) :
    (drawOk lm ops anc i o r (clsOf lm env o) acc = true ∧ calmO P o = true ∧ ∀ p ∈ needsOf anc i (clsOf lm env o) acc, p.1 ≠ p.2) ∧ gop P lm call ops o env σ (fun t env' σ' => runDr P lm call ops anc k (i + 1) r (acc ++ [(i, o, clsOf lm env o)]) (env'.put o.dst t) σ') = some out := by
  unfold runDr at h
  simp only at h
  cases hd : (drawOk lm ops anc i o r (clsOf lm env o) acc && calmO P o) with
  | false => rw [hd] at h; cases h
  | true =>
    rw [hd] at h
    simp only [cond] at h
    obtain ⟨hap, h⟩ := apK_some h
    simp only [Bool.and_eq_true] at hd
    refine ⟨⟨hd.1, hd.2, hap⟩, ?_⟩
    unfold gop
    split at h
    · rename_i hg; simp only [hg]; exact h
    · rename_i j want hg
      simp only [hg]
      split at h
      · rename_i d hdst
        simp only [hdst]
        split at h
        · rename_i b hb
          simp only [hb]
          cases b <;> cases want <;> simp only [set_getD_self hb] at h <;> simpa using h
        · rename_i hb; simp only [hb]; exact h
        · cases h
      · cases h

theorem runDr_DR {anc : List Nat} : ∀ (r : List Oper) (i : Nat) (acc : List (Nat × Oper × Cls)) (env : Env) (σ : St), runDr P lm call ops anc k i r acc env σ = some out → (∀ x ∈ acc, x.1 < i) →
    ∃ L : List (Nat × Oper × Cls), DR P lm call ops k out L env σ ∧ L.map (fun x => (x.1, x.2.1)) = (r.zipIdx i).map (fun x => (x.2, x.1)) ∧ List.Pairwise (Good ops anc lm) L ∧
      ∀ x ∈ acc, ∀ y ∈ L, ((anc.getD y.1 0).testBit x.1 = true ∨ (Oper.apart ops x.2.1 y.2.1 = true ∧ x.2.2.conflict y.2.2 = false))
  | [], i, acc, env, σ, h, _ => ⟨[], .nil _ _ h, rfl, .nil, fun _ _ y hy => by simp at hy⟩
  | o :: r, i, acc, env, σ, h, hacc => by
    obtain ⟨⟨hd, hcalm, hneed⟩, hg⟩ := runDr_cons h
    obtain ⟨t, δ, hu, hk⟩ := gop_goes hcalm hg
    obtain ⟨L, hL, hm, hp, ha⟩ := runDr_DR r (i + 1) _ _ _ hk (fun x hx => by
      rcases List.mem_append.1 hx with hx | hx
      · have := hacc x hx; omega
      · simp at hx; subst hx; simp)
    unfold drawOk at hd
    simp only [Bool.and_eq_true, List.all_eq_true] at hd
    refine ⟨(i, o, clsOf lm env o) :: L, .cons _ _ _ _ _ _ t δ hu hL, by simp [hm], ?_, ?_⟩
    · refine List.pairwise_cons.2 ⟨fun y hy => ⟨ha _ (by simp) y hy, fun d hdn hk => ?_⟩, hp⟩
      have hyr : y.2.1 ∈ r := by
        have h1 : (y.1, y.2.1) ∈ (r.zipIdx (i + 1)).map (fun x => (x.2, x.1)) := by rw [← hm]; exact List.mem_map.2 ⟨y, hy, rfl⟩
        obtain ⟨z, hz, he⟩ := List.mem_map.1 h1
        have hz2 := List.fst_mem_of_mem_zipIdx hz
        have : z.1 = y.2.1 := by simpa using congrArg Prod.snd he
        rw [← this]; exact hz2
      have := hd.2 _ hyr d hdn
      simp at this
      exact this hk
    · intro x hx y hy
      rcases List.mem_cons.1 hy with rfl | hy
      · have := hd.1 x hx
        simp only [Bool.or_eq_true, Bool.and_eq_true, Bool.not_eq_true'] at this
        cases hbit : (anc.getD i 0).testBit x.1 with
        | true => exact .inl rfl
        | false =>
          rcases this with h | ⟨h1, h2⟩
          · rw [hbit] at h; cases h
          · exact .inr ⟨h1, conflict_of_S h2 (needs_mem hneed x hx hbit)⟩
      · exact ha x (by simp [hx]) y hy

end
end Go.AM

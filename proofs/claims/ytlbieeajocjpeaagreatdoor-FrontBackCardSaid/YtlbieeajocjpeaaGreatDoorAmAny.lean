/- Regions that draw their order: any order comes to what the text's order comes to. -/
import Derived.Test.YtlbieeajocjpeaaGreatDoorAmDraw
set_option linter.unusedSimpArgs false
namespace Go.AM
open Go.RowKit
noncomputable def gop (P:Program) (lm:Nat) (call:Caller) (ops:Array Oper) (o:Oper) (env:Env) (σ:St) (k:TV → Env → St → Out):Out:=
 match o.guard with
 | none=>xopQ P lm call env σ o k (fun _ _ _=>none)
 | some (j,want)=>
  match (ops[j]?).bind (·.dst) with
  | some d=>match env.tmps.getD d .no with
   | .v (.bool b)=>if b = want then xopQ P lm call env σ o k (fun _ _ _=>none) else k (.v (.tuple [])) env σ
   | .v (.tuple [])=>k (.v (.tuple [])) env σ
   | _=>none
  | none=>none
def GU (P:Program) (lm:Nat) (call:Caller) (ops:Array Oper) (o:Oper) (c:Cls) (e:Env) (σ:St) (t:TV) (δ:Delta):Prop:=
 (∀ k,k ∈ keyOf t → k ∈ c.keys) ∧ δ.ok c (newKey lm o) ∧ (∀ d ∈ newKey lm o,d ∈ c.keys ∧ c.w = true) ∧
 (∀ e2 σ2,Agree o ops c e σ e2 σ2 → ∀ k,gop P lm call ops o e2 σ2 k = k t (δ.env e2) (δ.st σ2)) ∧
 ∀ s1 s2,c.tr = some (s1,s2) → c.hp = 2 ∧ c.hb = none ∧ s1 = σ ∧ s2 = δ.st σ
section
variable {P:Program} {lm:Nat} {call:Caller} {ops:Array Oper} {out:Res × St} {k:Env → St → Out}
theorem Agree.refl (o:Oper) (c:Cls) (e:Env) (σ:St):Agree o ops c e σ e σ:=⟨fun _ _=>rfl,fun _ _ _ _ _=>rfl,fun _ _=>rfl,fun _ _=>rfl,fun _ _ _=>.of_eq rfl⟩
theorem Agree.trans {o:Oper} {c:Cls} {e1 e2 e3:Env} {σ1 σ2 σ3:St} (h:Agree o ops c e1 σ1 e2 σ2) (g:Agree o ops c e2 σ2 e3 σ3):Agree o ops c e1 σ1 e3 σ3:=
 ⟨fun x hx=>(g.ops_ x hx).trans (h.ops_ x hx),fun j want d h1 h2=>(g.guard j want d h1 h2).trans (h.guard j want d h1 h2),fun q hq=>(g.keys q hq).trans (h.keys q hq),fun hh hb=>(g.heap hh hb).trans (h.heap hh hb),fun hh b hb=>(h.blk hh b hb).trans (g.blk hh b hb)⟩
theorem GU.move {o:Oper} {c:Cls} {e e':Env} {σ σ':St} {t:TV} {δ:Delta} (h:GU P lm call ops o c e σ t δ) (g:Agree o ops c e σ e' σ'):GU P lm call ops o c e' σ' t δ:=
 ⟨h.1,h.2.1,h.2.2.1,fun e2 σ2 ha k=>h.2.2.2.1 e2 σ2 (g.trans ha) k,fun s1 s2 ht=>by
  obtain ⟨h1,h2,h3,h4⟩:=h.2.2.2.2 s1 s2 ht
  have:=g.heap (by rw [h1];decide) h2
  subst this
  exact ⟨h1,h2,h3,h4⟩⟩
def GU0 (P:Program) (lm:Nat) (call:Caller) (ops:Array Oper) (o:Oper) (c:Cls) (e:Env) (σ:St) (t:TV) (δ:Delta):Prop:=
 (∀ k,k ∈ keyOf t → k ∈ c.keys) ∧ δ.ok c (newKey lm o) ∧ (∀ d ∈ newKey lm o,d ∈ c.keys ∧ c.w = true) ∧
 ∀ e2 σ2,Agree o ops c e σ e2 σ2 → ∀ k,gop P lm call ops o e2 σ2 k = k t (δ.env e2) (δ.st σ2)
theorem gop_goes0 {o:Oper} {env:Env} {σ:St} {k:TV → Env → St → Out} (hcalm:calmO P o = true) (h:gop P lm call ops o env σ k = some out):∃ t δ,GU0 P lm call ops o (clsOf P lm env o) env σ t δ ∧ k t (δ.env env) (δ.st σ) = some out:=by
 have hnew:∀ d ∈ newKey lm o,d ∈ (clsOf P lm env o).keys ∧ (clsOf P lm env o).w = true:=by
  intro d hd
  refine ⟨mem_new hd,?_⟩
  have hne:(newKey lm o).isEmpty = false:=by cases hn:newKey lm o <;> simp_all
  unfold clsOf
  simp only
  split
  ·rename_i t x y hop;exfalso;unfold newKey at hd;rw [hop] at hd;simp at hd
  ·rw [hne];rfl
 unfold gop at h
 split at h
 ·rename_i hg
  obtain ⟨t,δ,⟨h1,h2,h3⟩,hk⟩:=xop_goes (ops:=ops) hcalm h
  exact ⟨t,δ,⟨h1,h2,hnew,fun e2 σ2 ha k=>by unfold gop;rw [hg];exact h3 e2 σ2 ha k _⟩,hk⟩
 ·rename_i j want hg
  split at h
  ·rename_i d hd
   have skip (hk:k (.v (.tuple [])) env σ = some out) (hs:∀ e2 σ2,Agree o ops (clsOf P lm env o) env σ e2 σ2 → ∀ k,gop P lm call ops o e2 σ2 k = k (.v (.tuple [])) e2 σ2):∃ t δ,GU0 P lm call ops o (clsOf P lm env o) env σ t δ ∧ k t (δ.env env) (δ.st σ) = some out:=
    ⟨.v (.tuple []),.id,⟨fun q hq=>by simp [keyOf] at hq,⟨fun d h=>(by cases h),fun k cs h=>(by cases h),fun h=>(by cases h),fun b ob h=>(by cases h),fun r kb v h=>(by cases h),fun b ob h=>(by cases h)⟩,hnew,hs⟩,hk⟩
   split at h
   ·rename_i b hb
    split at h
    ·rename_i hw
     obtain ⟨t,δ,⟨h1,h2,h3⟩,hk⟩:=xop_goes (ops:=ops) hcalm h
     refine ⟨t,δ,⟨h1,h2,hnew,fun e2 σ2 ha k=>?_⟩,hk⟩
     have hgd:=ha.guard j want d hg hd
     unfold gop
     simp only [hg,hd,hgd,hb,if_pos hw]
     exact h3 e2 σ2 ha k _
    ·rename_i hw
     refine skip h fun e2 σ2 ha k=>?_
     have hgd:=ha.guard j want d hg hd
     unfold gop
     simp only [hg,hd,hgd,hb,if_neg hw]
   ·rename_i hb
    refine skip h fun e2 σ2 ha k=>?_
    have hgd:=ha.guard j want d hg hd
    unfold gop
    simp only [hg,hd,hgd,hb]
   ·cases h
  ·cases h
theorem gop_goes {o:Oper} {env:Env} {σ:St} {k:TV → Env → St → Out} (hcalm:calmO P o = true) (h:gop P lm call ops o env σ k = some out):∃ t δ,GU P lm call ops o ((clsOf P lm env o).ran σ (δ.st σ)) env σ t δ ∧ k t (δ.env env) (δ.st σ) = some out:=by
 obtain ⟨t,δ,⟨h1,h2,h3,h4⟩,hk⟩:=gop_goes0 hcalm h
 refine ⟨t,δ,⟨h1,⟨h2.kill,h2.setl,h2.heap,h2.put,h2.ins,h2.pik⟩,h3,fun e2 σ2 ha k=>h4 e2 σ2 ⟨ha.ops_,ha.guard,ha.keys,ha.heap,ha.blk⟩ k,fun s1 s2 ht=>?_⟩,hk⟩
 simp only [Cls.ran] at ht ⊢
 split at ht
 ·rename_i hc
  simp only [Bool.and_eq_true,beq_iff_eq,Option.isNone_iff_eq_none] at hc
  cases ht
  exact ⟨hc.1,hc.2,rfl,rfl⟩
 ·cases ht
def Cls.Sep (a b:Cls):Prop:=(∃ x y,a.hb = some x ∧ b.hb = some y ∧ x ≠ y) ∨ (b.hp = 1 ∧ ∃ y s1 s2,b.hb = some y ∧ a.tr = some (s1,s2) ∧ s2[y]? = s1[y]?) ∨ (∃ x k1 k2,a.hb = some x ∧ b.hb = some x ∧ a.ik = some k1 ∧ b.ik = some k2 ∧ k1 ≠ k2)
structure Cls.Free (a b:Cls):Prop where
 key:∀ q,q ∈ a.keys → q ∈ b.keys → a.w = false ∧ b.w = false
 fst:a.hp = 2 → b.hp ≠ 0 → a.Sep b
 snd:b.hp = 2 → a.hp ≠ 0 → b.Sep a
theorem Cls.Free.sym {a b:Cls} (h:a.Free b):b.Free a:=⟨fun q h1 h2=>⟨(h.key q h2 h1).2,(h.key q h2 h1).1⟩,h.snd,h.fst⟩
inductive DR (P:Program) (lm:Nat) (call:Caller) (ops:Array Oper) (k:Env → St → Out) (out:Res × St):List (Nat × Oper × Cls) → Env → St → Prop
 | nil (e:Env) (σ:St) (h:k e σ = some out):DR P lm call ops k out [] e σ
 | cons (i:Nat) (o:Oper) (c:Cls) (r:List (Nat × Oper × Cls)) (e:Env) (σ:St) (t:TV) (δ:Delta) (h:GU P lm call ops o c e σ t δ)
   (hr:DR P lm call ops k out r ((δ.env e).put o.dst t) (δ.st σ)):DR P lm call ops k out ((i,o,c) :: r) e σ
def Good (ops:Array Oper) (anc:List Nat) (lm:Nat) (x y:Nat × Oper × Cls):Prop:=
 ((anc.getD y.1 0).testBit x.1 = true ∨ (Oper.apart ops x.2.1 y.2.1 = true ∧ x.2.2.Free y.2.2)) ∧ ∀ d ∈ newKey lm y.2.1,d ∉ x.2.2.keys
def NewFree (lm:Nat) (l:List (Nat × Oper × Cls)) (e:Env):Prop:=∀ x ∈ l,∀ d ∈ newKey lm x.2.1,∀ t ∈ e.tmps,d ∉ keyOf t
theorem killT_id {d:Nat} {t:TV} (h:d ∉ keyOf t):killT d t = t:=by
 cases t with
 | lp k off=>simp [keyOf] at h;simp [killT];omega
 | ls k n=>simp [keyOf] at h;simp [killT];omega
 | _=>rfl
theorem map_kill_id {d:Nat} {l:List TV} (h:∀ t ∈ l,d ∉ keyOf t):l.map (killT d) = l:=by
 exact (List.map_congr_left (f:=killT d) (g:=id) fun t ht=>killT_id (h t ht)).trans (List.map_id l)
theorem Delta.tmps_id {δ:Delta} {c:Cls} {o:Oper} {e:Env} (h:δ.ok c (newKey lm o)) (hf:∀ d ∈ newKey lm o,∀ t ∈ e.tmps,d ∉ keyOf t):(δ.env e).tmps = e.tmps:=by
 unfold Delta.env
 simp only
 split
 ·rename_i d hd;exact map_kill_id (hf d (h.kill d hd))
 ·rfl
theorem put_tmps (e:Env) (dst:Option Tmp) (t:TV):(e.put dst t).tmps = match dst with | some d=>e.tmps.set d t | none=>e.tmps:=by
 cases dst <;> rfl
theorem put_locs (e:Env) (dst:Option Tmp) (t:TV):(e.put dst t).locs = e.locs:=by
 cases dst <;> rfl
theorem put_defs (e:Env) (dst:Option Tmp) (t:TV):(e.put dst t).defs = e.defs:=by
 cases dst <;> rfl
theorem delta_defs (δ:Delta) (e:Env):(δ.env e).defs = e.defs:=rfl
theorem getD_put_ne {e:Env} {dst:Option Tmp} {t:TV} {u:Nat} (h:∀ d,dst = some d → d ≠ u):(e.put dst t).tmps.getD u .no = e.tmps.getD u .no:=by
 cases dst with
 | none=>rfl
 | some d=>simp only [put_tmps,List.getD_eq_getElem?_getD];rw [List.getElem?_set_ne (h d rfl)]
theorem free_of_S {a b:Cls} (h:a.conflictS b = false) (hn:∀ p ∈ a.need b,p.1 ≠ p.2) (h1:∀ p ∈ a.keep1 b,p.2.1[p.2.2]? = p.1[p.2.2]?) (h2:∀ p ∈ b.keep1 a,p.2.1[p.2.2]? = p.1[p.2.2]?)
  (ta:a.hp = 2 → a.hb = none → a.tr.isSome = true) (tb:b.hp = 2 → b.hb = none → b.tr.isSome = true):a.Free b:=by
 unfold Cls.conflictS at h
 simp only [Bool.or_eq_false_iff] at h
 obtain ⟨⟨hk,hf⟩,hs⟩:=h
 have sep (a b:Cls) (hf:(a.hp == 2 && b.hp != 0 && a.overS b) = false) (hn:∀ x y,a.hb = some x → b.hb = some y → a.hp = 2 → b.hp ≠ 0 → x ≠ y ∨ ∃ k1 k2,a.ik = some k1 ∧ b.ik = some k2 ∧ k1 ≠ k2) (h1:∀ p ∈ a.keep1 b,p.2.1[p.2.2]? = p.1[p.2.2]?) (ta:a.hp = 2 → a.hb = none → a.tr.isSome = true)
   (ha:a.hp = 2) (hb:b.hp ≠ 0):a.Sep b:=by
  have e1:(a.hp == 2) = true:=by simp [ha]
  have e2:(b.hp != 0) = true:=by simp [hb]
  rw [e1,e2] at hf
  simp only [Bool.and_self,Bool.true_and] at hf
  unfold Cls.overS at hf
  split at hf
  ·rename_i x y hx hy
   rcases hn x y hx hy ha hb with h | ⟨k1,k2,g1,g2,g3⟩
   ·exact .inl ⟨x,y,hx,hy,h⟩
   ·by_cases hxy:x = y
    ·subst hxy;exact .inr (.inr ⟨x,k1,k2,hx,hy,g1,g2,g3⟩)
    ·exact .inl ⟨x,y,hx,hy,hxy⟩
  ·rename_i y hx hy
   right;left
   have hb1:b.hp = 1:=by simpa using hf
   cases ht:a.tr with
   | none=>have:=ta ha hx;rw [ht] at this;cases this
   | some q=>
    obtain ⟨s1,s2⟩:=q
    refine ⟨hb1,y,s1,s2,hy,rfl,?_⟩
    exact h1 (s1,s2,y) (by unfold Cls.keep1;simp [hb1,hy,ht])
  ·cases hf
 have two (x y:Nat) (hx:a.hb = some x) (hy:b.hb = some y) (hw:a.hp = 2 ∧ b.hp ≠ 0 ∨ b.hp = 2 ∧ a.hp ≠ 0):x ≠ y ∨ ∃ k1 k2,a.ik = some k1 ∧ b.ik = some k2 ∧ k1 ≠ k2:=by
  cases hi:a.ins2 b with
  | true=>
   right
   unfold Cls.ins2 at hi
   split at hi
   ·rename_i k1 k2 g1 g2;exact ⟨k1,k2,g1,g2,by simpa using hi⟩
   ·cases hi
  | false=>
   left
   refine hn (x,y) ?_
   unfold Cls.need
   rw [hi,hx,hy]
   rcases hw with ⟨h1,h2⟩ | ⟨h1,h2⟩ <;> simp [h1,h2]
 refine ⟨fun q ha hb=>?_,fun ha hb=>sep a b hf (fun x y hx hy h1 h2=>two x y hx hy (.inl ⟨h1,h2⟩)) h1 ta ha hb,fun ha hb=>sep b a hs (fun x y hx hy h1 h2=>?_) h2 tb ha hb⟩
 ·simp only [Bool.and_eq_false_iff,Bool.or_eq_false_iff] at hk
  rcases hk with hk | hk
  ·exact hk
  ·exfalso
   rw [Bool.eq_false_iff] at hk
   exact hk (List.any_eq_true.2 ⟨q,ha,by simpa using hb⟩)
 ·rcases two y x hy hx (.inr ⟨h1,h2⟩) with h | ⟨k1,k2,g1,g2,g3⟩
  ·exact .inl h.symm
  ·exact .inr ⟨k2,k1,g2,g1,g3.symm⟩
theorem keepsK_some:∀ {l:List (St × St × Nat)} {x:Out},keepsK l x = some out → (∀ p ∈ l,p.2.1[p.2.2]? = p.1[p.2.2]?) ∧ x = some out
 | [],_,h=>⟨fun p hp=>(by cases hp),h⟩
 | (s,s',b) :: r,x,h=>by
  unfold keepsK keepK at h
  split at h
  ·rename_i he
   obtain ⟨h1,h2⟩:=keepsK_some h
   refine ⟨fun p hp=>?_,h2⟩
   rcases List.mem_cons.1 hp with rfl | hp
   ·exact he
   ·exact h1 p hp
  ·cases h
theorem keeps_mem {anc:List Nat} {i:Nat} {c:Cls}:∀ {acc:List (Nat × Oper × Cls)},(∀ p ∈ keepsOf anc i c acc,p.2.1[p.2.2]? = p.1[p.2.2]?) → ∀ x ∈ acc,(anc.getD i 0).testBit x.1 = false →
  (∀ p ∈ x.2.2.keep1 c,p.2.1[p.2.2]? = p.1[p.2.2]?) ∧ ∀ p ∈ c.keep1 x.2.2,p.2.1[p.2.2]? = p.1[p.2.2]?
 | [],_,x,hx,_=>by cases hx
 | (j,oj,cj) :: r,h,x,hx,ht=>by
  unfold keepsOf at h
  rcases List.mem_cons.1 hx with rfl | hx
  ·rw [if_neg (by simp only at ht;rw [ht];decide)] at h
   exact ⟨fun p hp=>h p (by simp [hp]),fun p hp=>h p (by simp [hp])⟩
  ·split at h
   ·exact keeps_mem h x hx ht
   ·exact keeps_mem (fun p hp=>h p (by simp [hp])) x hx ht
theorem apK_some:∀ {l:List (Nat × Nat)} {x:Out},apK l x = some out → (∀ p ∈ l,p.1 ≠ p.2) ∧ x = some out
 | [],_,h=>⟨fun p hp=>(by cases hp),h⟩
 | (a,b) :: r,x,h=>by
  unfold apK at h
  split at h
  ·cases h
  ·rename_i hne
   obtain ⟨h1,h2⟩:=apK_some h
   refine ⟨fun p hp=>?_,h2⟩
   rcases List.mem_cons.1 hp with rfl | hp
   ·exact hne
   ·exact h1 p hp
theorem needs_mem {anc:List Nat} {i:Nat} {c:Cls}:∀ {acc:List (Nat × Oper × Cls)},(∀ p ∈ needsOf anc i c acc,p.1 ≠ p.2) → ∀ x ∈ acc,(anc.getD i 0).testBit x.1 = false → ∀ p ∈ x.2.2.need c,p.1 ≠ p.2
 | [],_,x,hx,_,_,_=>by cases hx
 | (j,oj,cj) :: r,h,x,hx,ht,p,hp=>by
  unfold needsOf at h
  rcases List.mem_cons.1 hx with rfl | hx
  ·rw [if_neg (by simp only at ht;rw [ht];decide)] at h
   exact h p (List.mem_append.2 (.inl hp))
  ·split at h
   ·exact needs_mem h x hx ht p hp
   ·exact needs_mem (fun p hp=>h p (List.mem_append.2 (.inr hp))) x hx ht p hp
theorem Delta.cases {δ:Delta} {c:Cls} {new:List Nat} (h:δ.ok c new):(∃ b ob,(∀ σ,δ.st σ = σ.set b ob) ∧ c.hp = 2 ∧ c.hb = some b ∧ c.ik = none) ∨ (∃ r kb v,(∀ σ,δ.st σ = modB σ r kb v) ∧ c.hp = 2 ∧ c.hb = some r ∧ c.ik = some kb) ∨
  (∃ s,(∀ σ,δ.st σ = s) ∧ c.hp = 2 ∧ c.hb = none) ∨ ∀ σ,δ.st σ = σ:=by
 cases hp:δ.put with
 | some q=>exact .inl ⟨q.1,q.2,fun σ=>by unfold Delta.st;rw [hp],(h.put _ _ hp).1,(h.put _ _ hp).2,h.pik _ _ hp⟩
 | none=>
  cases hi:δ.ins with
  | some q=>exact .inr (.inl ⟨q.1,q.2.1,q.2.2,fun σ=>by unfold Delta.st;rw [hp,hi],h.ins _ _ _ hi⟩)
  | none=>
   cases hh:δ.heap with
   | some s=>exact .inr (.inr (.inl ⟨s,fun σ=>by unfold Delta.st;rw [hp,hi,hh];rfl,h.heap (by rw [hh];rfl)⟩))
   | none=>exact .inr (.inr (.inr fun σ=>by unfold Delta.st;rw [hp,hi,hh];rfl))
theorem modB_map {σ:St} {r:Nat} {b:Bool} {v:AV} {es:List (AV × AV)} (h:σ[r]? = some (.map es)):modB σ r b v = σ.set r (.map (insB (.bool b) v es)):=by unfold modB;rw [h]
theorem modB_no {σ:St} {r:Nat} {b:Bool} {v:AV} (h:∀ es,σ[r]? ≠ some (.map es)):modB σ r b v = σ:=by
 unfold modB
 split
 ·rename_i es he;exact absurd he (h es)
 ·rfl
theorem modB_get {σ:St} {r q:Nat} {b:Bool} {v:AV} (h:q ≠ r):(modB σ r b v)[q]? = σ[q]?:=by
 unfold modB
 split
 ·exact List.getElem?_set_ne h.symm
 ·rfl
theorem insB_comm {b c:Bool} (h:b ≠ c) (u v:AV) (es:List (AV × AV)):insB (.bool b) u (insB (.bool c) v es) = insB (.bool c) v (insB (.bool b) u es):=by
 cases b <;> cases c <;> first | exact absurd rfl h | rfl
theorem fresh_modB {σ:St} {r:Nat} {b c:Bool} {v:AV} (h:b ≠ c):freshB b (modB σ r c v)[r]? = freshB b σ[r]?:=by
 unfold modB
 split
 ·rename_i es he
  have hl:r < σ.length:=(List.getElem?_eq_some_iff.1 he).1
  rw [List.getElem?_set_self hl,he]
  have hn:(c != b) = true:=by simpa using h.symm
  unfold freshB insB
  cases c
  ·simp only [List.all_cons,hn,Bool.true_and]
  ·simp only [List.all_append,List.all_cons,List.all_nil,hn,Bool.and_true]
 ·rfl
theorem modB_set {σ:St} {r q:Nat} {b:Bool} {v:AV} {ob:AObj} (h:q ≠ r):modB (σ.set q ob) r b v = (modB σ r b v).set q ob:=by
 by_cases hm:∃ es,σ[r]? = some (.map es)
 ·obtain ⟨es,he⟩:=hm
  rw [modB_map he,modB_map (by rw [List.getElem?_set_ne h];exact he)]
  exact List.set_comm _ _ h
 ·have hm':∀ es,σ[r]? ≠ some (.map es):=fun es he=>hm ⟨es,he⟩
  rw [modB_no hm',modB_no (fun es=>by rw [List.getElem?_set_ne h];exact hm' es)]
theorem modB_comm {σ:St} {r q:Nat} {b c:Bool} {u v:AV} (h:r ≠ q ∨ b ≠ c):modB (modB σ q c v) r b u = modB (modB σ r b u) q c v:=by
 by_cases hq:r = q
 ·subst hq
  have h:b ≠ c:=h.resolve_left fun h=>h rfl
  by_cases hm:∃ es,σ[r]? = some (.map es)
  ·obtain ⟨es,he⟩:=hm
   have hl:r < σ.length:=(List.getElem?_eq_some_iff.1 he).1
   have s1 (x:List (AV × AV)):(σ.set r (.map x))[r]? = some (.map x):=List.getElem?_set_self hl
   rw [modB_map he,modB_map he,modB_map (s1 _),modB_map (s1 _),List.set_set,List.set_set,insB_comm h]
  ·have hm':∀ es,σ[r]? ≠ some (.map es):=fun es he=>hm ⟨es,he⟩
   rw [modB_no (v:=v) (b:=c) hm',modB_no (v:=u) (b:=b) hm',modB_no (v:=v) (b:=c) hm']
 ·by_cases hm:∃ es,σ[q]? = some (.map es)
  ·obtain ⟨es,he⟩:=hm
   rw [modB_map he,modB_set (Ne.symm hq)]
   have:(modB σ r b u)[q]? = some (.map es):=by rw [modB_get (Ne.symm hq)];exact he
   rw [modB_map this]
  ·have hm':∀ es,σ[q]? ≠ some (.map es):=fun es he=>hm ⟨es,he⟩
   rw [modB_no hm',modB_no (σ:=modB σ r b u) (fun es he=>hm' es (by rwa [modB_get (Ne.symm hq)] at he))]
theorem agree_past {x y:Oper} {cx cy:Cls} {e:Env} {σ:St} {t:TV} {δ:Delta} (hg:GU P lm call ops x cx e σ t δ) (hap:∀ d,x.dst = some d → d ∉ y.looksAt ops) (hcf:cx.Free cy)
  (hf:∀ d ∈ newKey lm x,∀ t ∈ e.tmps,d ∉ keyOf t):Agree y ops cy ((δ.env e).put x.dst t) (δ.st σ) e σ:=by
 have htm:=Delta.tmps_id hg.2.1 hf
 refine ⟨fun p hp=>?_,fun j want d hgd hd=>?_,fun q hq=>?_,fun hh hbn=>?_,fun hh b hbb=>?_⟩
 ·cases p with
  | tmp u=>
   have hu:u ∈ y.looksAt ops:=by
    unfold Oper.looksAt
    exact List.mem_append.2 (.inl (List.mem_filterMap.2 ⟨.tmp u,hp,rfl⟩))
   show e.tmps.getD u .no = ((δ.env e).put x.dst t).tmps.getD u .no
   rw [getD_put_ne (fun d hd he=>hap d hd (he ▸ hu)),htm]
  | _=>rfl
 ·have hu:d ∈ y.looksAt ops:=by
   unfold Oper.looksAt
   refine List.mem_append.2 (.inr ?_)
   rw [hgd];simp only;rw [hd];simp
  rw [getD_put_ne (fun d' hd' he=>hap d' hd' (he ▸ hu)),htm]
 ·rw [put_locs]
  unfold Delta.env
  simp only
  split
  ·rename_i kx cs hs
   have:=hg.2.1.setl kx cs hs
   by_cases hqk:q = kx
   ·subst hqk
    have:=(hcf.key _ this.1 hq).1
    simp_all
   ·rw [lookL_setL_ne _ _ _ hqk]
  ·rfl
 ·have no (h2:cx.hp = 2):False:=by
   rcases hcf.fst h2 hh with ⟨x,y,_,hy,_⟩ | ⟨_,y,s1,s2,hy,_⟩ | ⟨x,k1,k2,_,hy,_⟩ <;> (rw [hbn] at hy;cases hy)
  rcases Delta.cases hg.2.1 with ⟨b,ob,_,h2,_⟩ | ⟨r,kb,v,_,h2,_⟩ | ⟨s,_,h2,_⟩ | h
  ·exact (no h2).elim
  ·exact (no h2).elim
  ·exact (no h2).elim
  ·exact (h σ).symm
 ·have tr (h:cy.hp = 1 ∧ ∃ y s1 s2,cy.hb = some y ∧ cx.tr = some (s1,s2) ∧ s2[y]? = s1[y]?):SameAt cy.ik (δ.st σ)[b]? σ[b]?:=by
   obtain ⟨_,y,s1,s2,hy,ht,he⟩:=h
   rw [hbb] at hy;cases hy
   obtain ⟨_,_,h3,h4⟩:=hg.2.2.2.2 s1 s2 ht
   subst h3;subst h4
   exact .of_eq he.symm
  rcases Delta.cases hg.2.1 with ⟨b',ob,h1,h2,h3,h4⟩ | ⟨r,kb,v,h1,h2,h3,h4⟩ | ⟨s,h1,h2,h3⟩ | h
  ·rcases hcf.fst h2 hh with ⟨x,y,hx,hy,hne⟩ | h | ⟨x,k1,k2,hx,hy,g1,_⟩
   ·rw [hbb] at hy;cases hy
    rw [h3] at hx;cases hx
    rw [h1]
    exact .of_eq (List.getElem?_set_ne hne).symm
   ·exact tr h
   ·rw [h4] at g1;cases g1
  ·rcases hcf.fst h2 hh with ⟨x,y,hx,hy,hne⟩ | h | ⟨x,k1,k2,hx,hy,g1,g2,g3⟩
   ·rw [hbb] at hy;cases hy
    rw [h3] at hx;cases hx
    rw [h1]
    exact .of_eq (modB_get hne.symm).symm
   ·exact tr h
   ·rw [hbb] at hy;cases hy
    rw [h3] at hx;cases hx
    rw [h4] at g1;cases g1
    rw [g2,h1]
    exact (fresh_modB g3.symm).symm
  ·rcases hcf.fst h2 hh with ⟨x,y,hx,hy,hne⟩ | h | ⟨x,k1,k2,hx,hy,g1,_⟩
   ·rw [h3] at hx;cases hx
   ·exact tr h
   ·rw [h3] at hx;cases hx
  ·exact .of_eq (by rw [h])
theorem free_two {a b:Cls} (h:a.Free b) (ha:a.hp = 2) (hb:b.hp = 2):∃ x y,a.hb = some x ∧ b.hb = some y ∧ (x ≠ y ∨ ∃ k1 k2,a.ik = some k1 ∧ b.ik = some k2 ∧ k1 ≠ k2):=by
 rcases h.fst ha (by rw [hb];decide) with ⟨x,y,h1,h2,h3⟩ | ⟨h1,_⟩ | ⟨x,k1,k2,h1,h2,h3⟩
 ·exact ⟨x,y,h1,h2,.inl h3⟩
 ·rw [hb] at h1;cases h1
 ·exact ⟨x,x,h1,h2,.inr ⟨k1,k2,h3⟩⟩
theorem steps_swap {x y:Oper} {cx cy:Cls} {e:Env} {σ:St} {tx ty:TV} {δx δy:Delta} (hx:GU P lm call ops x cx e σ tx δx) (hy:GU P lm call ops y cy e σ ty δy)
  (hap:Oper.apart ops x y = true) (hcf:cx.Free cy) (hfx:∀ d ∈ newKey lm x,∀ t ∈ e.tmps,d ∉ keyOf t) (hfy:∀ d ∈ newKey lm y,∀ t ∈ e.tmps,d ∉ keyOf t) :
  (δx.env ((δy.env e).put y.dst ty)).put x.dst tx = (δy.env ((δx.env e).put x.dst tx)).put y.dst ty ∧ δx.st (δy.st σ) = δy.st (δx.st σ):=by
 obtain ⟨h1,h2,h3⟩:=Oper.apart_spec hap
 have set_mem {l:List TV} {d:Nat} {t u:TV} (h:u ∈ l.set d t):u ∈ l ∨ u = t:=by
  rcases List.mem_or_eq_of_mem_set h with h | h <;> simp [h]
 have tmx:(δx.env e).tmps = e.tmps:=Delta.tmps_id hx.2.1 hfx
 have tmy:(δy.env e).tmps = e.tmps:=Delta.tmps_id hy.2.1 hfy
 have tmxy:(δx.env ((δy.env e).put y.dst ty)).tmps = ((δy.env e).put y.dst ty).tmps:=by
  refine Delta.tmps_id hx.2.1 fun d hd t ht=>?_
  rw [put_tmps] at ht
  have main (ht':t = ty):d ∉ keyOf t:=by
   subst ht'
   intro hk
   obtain ⟨hdk,hdw⟩:=hx.2.2.1 d hd
   have:=(hcf.key _ hdk (hy.1 d hk)).1
   simp_all
  split at ht
  ·rcases set_mem ht with ht | ht
   ·rw [tmy] at ht;exact hfx d hd t ht
   ·exact main ht
  ·rw [tmy] at ht;exact hfx d hd t ht
 have tmyx:(δy.env ((δx.env e).put x.dst tx)).tmps = ((δx.env e).put x.dst tx).tmps:=by
  refine Delta.tmps_id hy.2.1 fun d hd t ht=>?_
  rw [put_tmps] at ht
  have main (ht':t = tx):d ∉ keyOf t:=by
   subst ht'
   intro hk
   obtain ⟨hdk,hdw⟩:=hy.2.2.1 d hd
   have:=(hcf.key _ (hx.1 d hk) hdk).2
   simp_all
  split at ht
  ·rcases set_mem ht with ht | ht
   ·rw [tmx] at ht;exact hfy d hd t ht
   ·exact main ht
  ·rw [tmx] at ht;exact hfy d hd t ht
 have locs_of (δ:Delta) (e:Env):(δ.env e).locs = match δ.setl with | some (k,cs)=>setL e.locs k cs | none=>e.locs:=rfl
 constructor
 ·have htm:((δx.env ((δy.env e).put y.dst ty)).put x.dst tx).tmps = ((δy.env ((δx.env e).put x.dst tx)).put y.dst ty).tmps:=by
   rw [put_tmps,put_tmps,tmxy,tmyx,put_tmps,put_tmps,tmx,tmy]
   cases hdx:x.dst with
   | none=>rfl
   | some dx=>
    cases hdy:y.dst with
    | none=>rfl
    | some dy=>
     have hne:dx ≠ dy:=fun he=>h2 dx hdx (by rw [hdy,he])
     simp only
     rw [List.set_comm _ _ hne.symm]
  have hlc:((δx.env ((δy.env e).put y.dst ty)).put x.dst tx).locs = ((δy.env ((δx.env e).put x.dst tx)).put y.dst ty).locs:=by
   rw [put_locs,put_locs,locs_of,locs_of,put_locs,put_locs,locs_of,locs_of]
   cases hsx:δx.setl with
   | none=>cases hsy:δy.setl <;> rfl
   | some px=>
    cases hsy:δy.setl with
    | none=>rfl
    | some py=>
     obtain ⟨kx,csx⟩:=px
     obtain ⟨ky,csy⟩:=py
     have hkx:=hx.2.1.setl kx csx hsx
     have hky:=hy.2.1.setl ky csy hsy
     have hne:kx ≠ ky:=fun he=>by
      subst he
      have:=(hcf.key _ hkx.1 hky.1).1
      simp_all
     simp only
     exact setL_comm _ hne.symm _ _
  have hdf:((δx.env ((δy.env e).put y.dst ty)).put x.dst tx).defs = ((δy.env ((δx.env e).put x.dst tx)).put y.dst ty).defs:=by
   rw [put_defs,put_defs,delta_defs,delta_defs,put_defs,put_defs,delta_defs,delta_defs]
  cases hA:(δx.env ((δy.env e).put y.dst ty)).put x.dst tx
  cases hB:(δy.env ((δx.env e).put x.dst tx)).put y.dst ty
  rw [hA,hB] at htm hlc hdf
  simp only at htm hlc hdf
  rw [htm,hlc,hdf]
 ·rcases Delta.cases hx.2.1 with ⟨bx,ox,ex,x2,xb,xk⟩ | ⟨rx,kx,vx,ex,x2,xb,xk⟩ | ⟨sx,ex,x2,xb⟩ | ex
  ·rcases Delta.cases hy.2.1 with ⟨by_,oy,ey,y2,yb,yk⟩ | ⟨ry,ky,vy,ey,y2,yb,yk⟩ | ⟨sy,ey,y2,yb⟩ | ey
   ·obtain ⟨x,y,h1,h2,h3⟩:=free_two hcf x2 y2
    rw [xb] at h1;cases h1
    rw [yb] at h2;cases h2
    rcases h3 with h3 | ⟨k1,k2,g,_⟩
    ·rw [ex,ey,ex,ey];exact List.set_comm _ _ h3.symm
    ·rw [xk] at g;cases g
   ·obtain ⟨x,y,h1,h2,h3⟩:=free_two hcf x2 y2
    rw [xb] at h1;cases h1
    rw [yb] at h2;cases h2
    rcases h3 with h3 | ⟨k1,k2,g,_⟩
    ·rw [ex,ey,ex,ey];exact (modB_set h3).symm
    ·rw [xk] at g;cases g
   ·obtain ⟨x,y,_,h2,_⟩:=free_two hcf x2 y2
    rw [yb] at h2;cases h2
   ·rw [ex,ey,ex,ey]
  ·rcases Delta.cases hy.2.1 with ⟨by_,oy,ey,y2,yb,yk⟩ | ⟨ry,ky,vy,ey,y2,yb,yk⟩ | ⟨sy,ey,y2,yb⟩ | ey
   ·obtain ⟨x,y,h1,h2,h3⟩:=free_two hcf x2 y2
    rw [xb] at h1;cases h1
    rw [yb] at h2;cases h2
    rcases h3 with h3 | ⟨k1,k2,_,g,_⟩
    ·rw [ex,ey,ex,ey];exact modB_set h3.symm
    ·rw [yk] at g;cases g
   ·obtain ⟨x,y,h1,h2,h3⟩:=free_two hcf x2 y2
    rw [xb] at h1;cases h1
    rw [yb] at h2;cases h2
    rw [ex,ey,ex,ey]
    refine modB_comm (h3.imp id fun ⟨k1,k2,g1,g2,g3⟩=>?_)
    rw [xk] at g1;cases g1
    rw [yk] at g2;cases g2
    exact g3
   ·obtain ⟨x,y,_,h2,_⟩:=free_two hcf x2 y2
    rw [yb] at h2;cases h2
   ·rw [ex,ey,ex,ey]
  ·have no (y2:cy.hp = 2):False:=by
    obtain ⟨x,y,h1,_,_⟩:=free_two hcf x2 y2
    rw [xb] at h1;cases h1
   rcases Delta.cases hy.2.1 with ⟨by_,oy,ey,y2,yb,yk⟩ | ⟨ry,ky,vy,ey,y2,yb,yk⟩ | ⟨sy,ey,y2,yb⟩ | ey
   ·exact (no y2).elim
   ·exact (no y2).elim
   ·exact (no y2).elim
   ·rw [ex,ey,ex]
  ·rw [ex,ex]
theorem NewFree.step {l:List (Nat × Oper × Cls)} {anc:List Nat} {x:Nat × Oper × Cls} {e:Env} {σ:St} {t:TV} {δ:Delta} (h:NewFree lm l e) (hx:GU P lm call ops x.2.1 x.2.2 e σ t δ) (hg:∀ y ∈ l,Good ops anc lm x y)
  (hfx:∀ d ∈ newKey lm x.2.1,∀ t ∈ e.tmps,d ∉ keyOf t):NewFree lm l ((δ.env e).put x.2.1.dst t):=by
 intro y hy d hd u hu
 rw [put_tmps,Delta.tmps_id hx.2.1 hfx] at hu
 split at hu
 ·rcases List.mem_or_eq_of_mem_set hu with hu | hu
  ·exact h y hy d hd u hu
  ·subst hu
   intro hk
   exact (hg y hy).2 d hd (hx.1 d hk)
 ·exact h y hy d hd u hu
theorem DR.front {anc:List Nat} {z:Nat × Oper × Cls}:∀ (p q:List (Nat × Oper × Cls)) (e:Env) (σ:St),DR P lm call ops k out (p ++ z :: q) e σ → List.Pairwise (Good ops anc lm) (p ++ z :: q) → NewFree lm (p ++ z :: q) e →
  (∀ x ∈ p,(anc.getD z.1 0).testBit x.1 = false) → ∃ t δ,GU P lm call ops z.2.1 z.2.2 e σ t δ ∧ DR P lm call ops k out (p ++ q) ((δ.env e).put z.2.1.dst t) (δ.st σ)
 | [],q,e,σ,h,_,_,_=>by
  cases h with
  | cons i o c r _ _ t δ hu hr=>exact ⟨t,δ,hu,hr⟩
 | x :: p,q,e,σ,h,hp,hf,hno=>by
  cases h with
  | cons i o c r _ _ tx δx hu hr=>
   simp only [List.cons_append,List.pairwise_cons] at hp
   have hfx:∀ d ∈ newKey lm o,∀ t ∈ e.tmps,d ∉ keyOf t:=fun d hd t ht=>hf (i,o,c) (by simp) d hd t ht
   have hf1:NewFree lm (p ++ z :: q) e:=fun y hy=>hf y (by simp at hy ⊢;exact .inr hy)
   have hf2:=hf1.step (x:=(i,o,c)) hu hp.1 hfx
   obtain ⟨tz,δz,hz,hrest⟩:=DR.front p q _ _ hr hp.2 hf2 (fun y hy=>hno y (by simp [hy]))
   have hgood:=hp.1 z (by simp)
   have hun:=hno (i,o,c) (by simp)
   obtain ⟨hap,hcf⟩:Oper.apart ops o z.2.1 = true ∧ c.Free z.2.2:=by
    rcases hgood.1 with h | h
    ·rw [hun] at h;cases h
    ·exact h
   obtain ⟨a1,a2,a3⟩:=Oper.apart_spec hap
   have hfz:∀ d ∈ newKey lm z.2.1,∀ t ∈ e.tmps,d ∉ keyOf t:=fun d hd t ht=>hf z (by simp) d hd t ht
   have hz0:=hz.move (agree_past hu a1 hcf hfx)
   refine ⟨tz,δz,hz0,?_⟩
   have hag:Agree o ops c e σ ((δz.env e).put z.2.1.dst tz) (δz.st σ):=by
    have:=agree_past hz0 (y:=o) (cy:=c) a3 hcf.sym hfz
    exact ⟨fun p hp=>(this.ops_ p hp).symm,fun j want d h1 h2=>(this.guard j want d h1 h2).symm,fun q hq=>(this.keys q hq).symm,fun hh hb=>(this.heap hh hb).symm,fun hh b hb=>(this.blk hh b hb).symm⟩
   have hu2:=hu.move hag
   obtain ⟨he,hs⟩:=steps_swap hu hz0 hap hcf hfx hfz
   refine .cons i o c _ _ _ tx δx hu2 ?_
   rw [he,hs]
   exact hrest
theorem set_getD_self {l:List TV} {d:Nat} {x:AV} (h:l.getD d .no = .v x):l.set d (.v x) = l:=by
 rw [List.getD_eq_getElem?_getD] at h
 cases hd:l[d]? with
 | none=>rw [hd] at h;cases h
 | some y=>
  rw [hd] at h
  simp at h
  subst h
  obtain ⟨hlt,he⟩:=List.getElem?_eq_some_iff.1 hd
  rw [← he];simp
theorem runDr_cons {anc:List Nat} {i:Nat} {o:Oper} {r:List Oper} {acc:List (Nat × Oper × Cls)} {env:Env} {σ:St} (h:runDr P lm call ops anc k i (o :: r) acc env σ = some out) :
  (drawOk lm ops anc i o r (clsOf P lm env o) acc = true ∧ calmO P o = true ∧ ∀ p ∈ needsOf anc i (clsOf P lm env o) acc,p.1 ≠ p.2) ∧ gop P lm call ops o env σ (fun t env' σ'=>keepsK (keepsOf anc i ((clsOf P lm env o).ran σ σ') acc)
   (runDr P lm call ops anc k (i + 1) r (acc ++ [(i,o,(clsOf P lm env o).ran σ σ')]) (env'.put o.dst t) σ')) = some out:=by
 unfold runDr at h
 simp only at h
 cases hd:(drawOk lm ops anc i o r (clsOf P lm env o) acc && calmO P o) with
 | false=>rw [hd] at h;cases h
 | true=>
  rw [hd] at h
  simp only [cond] at h
  obtain ⟨hap,h⟩:=apK_some h
  simp only [Bool.and_eq_true] at hd
  refine ⟨⟨hd.1,hd.2,hap⟩,?_⟩
  unfold gop
  split at h
  ·rename_i hg;simp only [hg];exact h
  ·rename_i j want hg
   simp only [hg]
   split at h
   ·rename_i d hdst
    simp only [hdst]
    split at h
    ·rename_i b hb
     simp only [hb]
     cases b <;> cases want <;> simp only [set_getD_self hb] at h <;> simpa using h
    ·rename_i hb;simp only [hb];exact h
    ·cases h
   ·cases h
theorem runDr_DR {anc:List Nat}:∀ (r:List Oper) (i:Nat) (acc:List (Nat × Oper × Cls)) (env:Env) (σ:St),runDr P lm call ops anc k i r acc env σ = some out → (∀ x ∈ acc,x.1 < i) → (∀ x ∈ acc,x.2.2.hp = 2 → x.2.2.hb = none → x.2.2.tr.isSome = true) →
  ∃ L:List (Nat × Oper × Cls),DR P lm call ops k out L env σ ∧ L.map (fun x=>(x.1,x.2.1)) = (r.zipIdx i).map (fun x=>(x.2,x.1)) ∧ List.Pairwise (Good ops anc lm) L ∧
   ∀ x ∈ acc,∀ y ∈ L,((anc.getD y.1 0).testBit x.1 = true ∨ (Oper.apart ops x.2.1 y.2.1 = true ∧ x.2.2.Free y.2.2))
 | [],i,acc,env,σ,h,_,_=>⟨[],.nil _ _ h,rfl,.nil,fun _ _ y hy=>by simp at hy⟩
 | o :: r,i,acc,env,σ,h,hacc,htr=>by
  obtain ⟨⟨hd,hcalm,hneed⟩,hg⟩:=runDr_cons h
  obtain ⟨t,δ,hu,hk⟩:=gop_goes hcalm hg
  obtain ⟨hkeep,hk⟩:=keepsK_some hk
  have htr0:((clsOf P lm env o).ran σ (δ.st σ)).hp = 2 → ((clsOf P lm env o).ran σ (δ.st σ)).hb = none → ((clsOf P lm env o).ran σ (δ.st σ)).tr.isSome = true:=by
   intro h1 h2
   simp only [Cls.ran] at h1 h2 ⊢
   rw [h1,h2];rfl
  obtain ⟨L,hL,hm,hp,ha⟩:=runDr_DR r (i + 1) _ _ _ hk (fun x hx=>by
   rcases List.mem_append.1 hx with hx | hx
   ·have:=hacc x hx;omega
   ·simp at hx;subst hx;simp) (fun x hx=>by
   rcases List.mem_append.1 hx with hx | hx
   ·exact htr x hx
   ·simp only [List.mem_singleton] at hx;subst hx;exact htr0)
  unfold drawOk at hd
  simp only [Bool.and_eq_true,List.all_eq_true] at hd
  refine ⟨(i,o,(clsOf P lm env o).ran σ (δ.st σ)) :: L,.cons _ _ _ _ _ _ t δ hu hL,by simp [hm],?_,?_⟩
  ·refine List.pairwise_cons.2 ⟨fun y hy=>⟨ha _ (by simp) y hy,fun d hdn hk=>?_⟩,hp⟩
   have hyr:y.2.1 ∈ r:=by
    have h1:(y.1,y.2.1) ∈ (r.zipIdx (i + 1)).map (fun x=>(x.2,x.1)):=by rw [← hm];exact List.mem_map.2 ⟨y,hy,rfl⟩
    obtain ⟨z,hz,he⟩:=List.mem_map.1 h1
    have hz2:=List.fst_mem_of_mem_zipIdx hz
    have:z.1 = y.2.1:=by simpa using congrArg Prod.snd he
    rw [← this];exact hz2
   have:=hd.2 _ hyr d hdn
   simp at this
   exact this hk
  ·intro x hx y hy
   rcases List.mem_cons.1 hy with rfl | hy
   ·have:=hd.1 x hx
    simp only [Bool.or_eq_true,Bool.and_eq_true,Bool.not_eq_true'] at this
    cases hbit:(anc.getD i 0).testBit x.1 with
    | true=>exact .inl rfl
    | false=>
     rcases this with h | ⟨h1,h2⟩
     ·rw [hbit] at h;cases h
     ·obtain ⟨k1,k2⟩:=keeps_mem hkeep x hx hbit
      exact .inr ⟨h1,free_of_S (b:=(clsOf P lm env o).ran σ (δ.st σ)) h2 (needs_mem hneed x hx hbit) k1 k2 (htr x hx) htr0⟩
   ·exact ha x (by simp [hx]) y hy
end
end Go.AM

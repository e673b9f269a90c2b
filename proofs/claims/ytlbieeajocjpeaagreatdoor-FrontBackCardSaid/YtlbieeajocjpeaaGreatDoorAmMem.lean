/- The abstract heap's own steps, held against the model's memory. -/
import Derived.Test.YtlbieeajocjpeaaGreatDoorAmRel
import Derived.Laws.IdiomCopy
namespace Go.AM
open Go.RowKit
section
variable {P:Program}
theorem info_of_underlying {t:TypeId} {d:TypeDesc} (h:P.underlying t = some d):∃ i,P.info? t = some i:=by
 cases hi:P.info? t with
 | some i=>exact ⟨i,rfl⟩
 | none=>simp [Program.underlying,hi] at h
theorem aggO_underlying {t:TypeId} {b:Bool} (h:aggO P t = some b):∃ d,P.underlying t = some d:=by
 unfold aggO at h
 split at h <;> first | exact ⟨_,‹_›⟩ | cases h
theorem run_isAgg {t:TypeId} {b:Bool} (h:aggO P t = some b) (w:World):(isAgg t).run P w = .ok b w:=by
 unfold aggO at h
 split at h
 ·rename_i hu;cases h;simp [isAgg,run_underlying hu]
 ·rename_i hu;cases h;simp [isAgg,run_underlying hu]
 ·rename_i hn1 hn2 hu
  cases h
  simp only [isAgg,Sem.run_bind,run_underlying hu,Result.andThen_ok]
  rfl
 ·cases h
theorem run_sizeOf {t:TypeId} {i:TypeInfo} (h:P.info? t = some i) (w:World):(sizeOf t).run P w = .ok (szOf P t) w:=by
 simp [sizeOf,typeInfo,h,szOf]
theorem run_sizeOf_u {t:TypeId} {d:TypeDesc} (h:P.underlying t = some d) (w:World):(sizeOf t).run P w = .ok (szOf P t) w:=
 let ⟨_,hi⟩:=info_of_underlying h;run_sizeOf hi w
theorem partK_some {t:TypeId} {cs:List AV} {off:Nat} {k:AV → Out} {out:Res × St} (h:partK P t cs off k = some out) :
  ∃ x,partO P t cs off = some x ∧ k x = some out:=by
 unfold partK at h
 unfold partO
 split at h
 ·rename_i ha
  split at h
  ·rename_i hl;exact ⟨_,if_pos hl,h⟩
  ·cases h
 ·split at h
  ·rename_i x hx;exact ⟨x,hx,h⟩
  ·cases h
 ·cases h
theorem addr_add (b o n:Nat):(⟨b,o,none⟩:Addr).add n = ⟨b,o + n,none⟩:=by unfold Addr.add;split <;> simp_all
theorem cell_of_heap {w:World} {b:Nat} {cs:Array Value} {ty:TypeId} {fr:Nat × Nat} (h:w.heap[b]? = some (.cells cs ty fr)) (o:Nat):w.cell? ⟨b,o,none⟩ = cs[o]?:=by
 simp [World.cell?,h]
theorem frozen_of_heap {w:World} {b:Nat} {cs:Array Value} {ty:TypeId} {fr:Nat × Nat} (h:w.heap[b]? = some (.cells cs ty fr)) (o:Nat):w.frozen? ⟨b,o,none⟩ = (decide (fr.1 ≤ o) && decide (o < fr.2)):=by
 simp [World.frozen?,h]
theorem run_loadVar_part {μ:Emb} {t:TypeId} {cs:List AV} {off:Nat} {x:AV} (hp:partO P t cs off = some x)
  {w:World} {b base:Nat} {cs':Array Value} {ty:TypeId} {fr:Nat × Nat} (hb:w.heap[b]? = some (.cells cs' ty fr)) (hc:CRel μ cs cs' base) :
  ∃ v,(loadVar t ⟨b,base + off,none⟩).run P w = .ok v w ∧ VRel μ x v:=by
 unfold partO at hp
 split at hp
 ·rename_i ha
  split at hp
  ·rename_i hl
   cases hp
   obtain ⟨d,hd⟩:=aggO_underlying ha
   have hcells:∀ j,j < szOf P t → w.cell? ((⟨b,base + off,none⟩:Addr).add j) = some (cs'.getD (base + off + j) undef):=by
    intro j hj
    rw [addr_add,cell_of_heap hb]
    have hlt:off + j < cs.length:=by omega
    obtain ⟨⟨v,hv,_⟩,_⟩:=hc (off + j) cs[off + j] (by simp [hlt])
    rw [← Nat.add_assoc] at hv
    simp [hv]
   have hrun:=run_loadCells (P:=P) w ⟨b,base + off,none⟩ (szOf P t) (fun j=>cs'.getD (base + off + j) undef) hcells
   refine ⟨.agg ((List.range (szOf P t)).map fun j=>cs'.getD (base + off + j) undef).toArray,?_,.agg _ _ (VRels.of_get ?_ ?_)⟩
   ·simp only [loadVar,Sem.run_bind,run_isAgg ha,Result.andThen_ok,if_true,run_sizeOf_u hd,hrun,Sem.run_pure]
   ·simp;omega
   ·intro i y hi
    have hi':i < szOf P t ∧ cs[off + i]? = some y:=by
     rw [List.getElem?_take] at hi
     split at hi
     ·rename_i hlt;exact ⟨hlt,by simpa [List.getElem?_drop] using hi⟩
     ·cases hi
    obtain ⟨⟨v,hv,hr⟩,_⟩:=hc (off + i) y hi'.2
    rw [← Nat.add_assoc] at hv
    exact ⟨v,by simp [hi'.1,hv],hr⟩
  ·cases hp
 ·rename_i ha
  obtain ⟨⟨v,hv,hr⟩,_⟩:=hc off x hp
  refine ⟨v,?_,hr⟩
  simp only [loadVar,Sem.run_bind,run_isAgg ha,Result.andThen_ok,Bool.false_eq_true,if_false,run_load,cell_of_heap hb,hv]
 ·cases hp
structure Upd (w w':World) (b:Nat) (o:Obj):Prop where
 os:w'.os = w.os
 tape:w'.tape = w.tape
 output:w'.output = w.output
 size:w'.heap.size = w.heap.size
 at_:w'.heap[b]? = some o
 other:∀ k,k ≠ b → w'.heap[k]? = w.heap[k]?
theorem setMany_length (xs:List AV):∀ (cs:List AV) (off:Nat),(setMany cs off xs).length = cs.length:=by
 induction xs with
 | nil=>intro cs off;rfl
 | cons x xs ih=>intro cs off;simp [setMany,ih]
theorem CRel.set {μ:Emb} {cs:List AV} {cs':Array Value} {base off:Nat} (h:CRel μ cs cs' base) {x:AV} {v:Value} (hx:VRel μ x v) (ho:x.one = true) (hl:base + cs.length ≤ cs'.size) :
  CRel μ (cs.set off x) (cs'.setIfInBounds (base + off) v) base:=by
 intro i y hi
 by_cases he:off = i
 ·subst he
  have hlt:off < cs.length:=by
   rcases Nat.lt_or_ge off cs.length with hlt | hge
   ·exact hlt
   ·rw [List.getElem?_eq_none (by simpa using hge)] at hi;cases hi
  rw [List.getElem?_set_self hlt] at hi
  cases hi
  exact ⟨⟨v,by rw [Array.getElem?_setIfInBounds_self_of_lt (by omega)],hx⟩,ho⟩
 ·rw [List.getElem?_set_ne he] at hi
  obtain ⟨⟨u,hu,hr⟩,ho'⟩:=h i y hi
  exact ⟨⟨u,by rw [Array.getElem?_setIfInBounds_ne (by omega)];exact hu,hr⟩,ho'⟩
theorem setCell_upd {w:World} {b:Nat} {cs':Array Value} {ty:TypeId} {fr:Nat × Nat} (hb:w.heap[b]? = some (.cells cs' ty fr)) (o:Nat) (v:Value) :
  Upd w (w.setCell ⟨b,o,none⟩ v) b (.cells (cs'.setIfInBounds o v) ty fr) where
 os:=rfl
 tape:=rfl
 output:=rfl
 size:=by simp [World.setCell]
 at_:=by simp [World.setCell,Array.getElem?_modify,hb]
 other:=fun k hk=>by simp only [World.setCell,Array.getElem?_modify];rw [if_neg (fun h=>hk h.symm)]
theorem run_storeCells_rel {μ:Emb} {b base:Nat} {ty:TypeId} {fr:Nat × Nat}:∀ (xs:List AV) (vs:List Value),VRels μ xs vs → xs.all AV.one = true →
  ∀ (off i:Nat) (cs:List AV) (cs':Array Value) (w:World),w.heap[b]? = some (.cells cs' ty fr) → CRel μ cs cs' base → off + i + xs.length ≤ cs.length → base + cs.length ≤ cs'.size →
   (∀ j,base ≤ j → j < base + cs.length → ¬ (fr.1 ≤ j ∧ j < fr.2)) →
   ∃ w' cs2,(storeCells ⟨b,base + off,none⟩ vs i).run P w = .ok () w' ∧ Upd w w' b (.cells cs2 ty fr) ∧ CRel μ (setMany cs (off + i) xs) cs2 base ∧ cs2.size = cs'.size:=by
 intro xs
 induction xs with
 | nil=>
  intro vs hv _ off i cs cs' w hb hc _ _ _
  cases hv
  exact ⟨w,cs',rfl,⟨rfl,rfl,rfl,rfl,hb,fun _ _=>rfl⟩,hc,rfl⟩
 | cons x xs ih=>
  intro vs hv hone off i cs cs' w hb hc hl hs hf
  cases hv with
  | cons _ v _ vs hx hr=>
   simp only [List.all_cons,Bool.and_eq_true] at hone
   simp only [List.length_cons] at hl
   have hlt:off + i < cs.length:=by omega
   obtain ⟨⟨u,hu,_⟩,_⟩:=hc (off + i) cs[off + i] (by simp [hlt])
   have hcell:w.cell? ⟨b,base + off + i,none⟩ = some u:=by rw [cell_of_heap hb,Nat.add_assoc];exact hu
   have hfr:w.frozen? ⟨b,base + off + i,none⟩ = false:=by
    rw [frozen_of_heap hb]
    have:=hf (base + off + i) (by omega) (by omega)
    simp only [Bool.and_eq_false_iff,decide_eq_false_iff_not]
    omega
   have hst:(store ((⟨b,base + off,none⟩:Addr).add i) v).run P w = .ok () (w.setCell ⟨b,base + off + i,none⟩ v):=by
    rw [addr_add,run_store P w _ v .plain (by rw [hx.one];exact hone.1),hcell,hfr]
    rfl
   have hup:=setCell_upd hb (base + off + i) v
   have hc2:CRel μ (cs.set (off + i) x) (cs'.setIfInBounds (base + off + i) v) base:=by
    have:=hc.set (off:=off + i) hx hone.1 hs
    rwa [← Nat.add_assoc] at this
   obtain ⟨w',cs2,hrun,hu2,hc3,hsz⟩:=ih vs hr hone.2 off (i + 1) (cs.set (off + i) x) (cs'.setIfInBounds (base + off + i) v) (w.setCell ⟨b,base + off + i,none⟩ v) hup.at_ hc2
    (by simp;omega) (by simpa using hs) (by simpa using hf)
   refine ⟨w',cs2,?_,?_,?_,?_⟩
   ·simp only [storeCells,Sem.run_bind,hst,Result.andThen_ok,hrun]
   ·exact ⟨hu2.os,hu2.tape,hu2.output,hu2.size.trans hup.size,hu2.at_,fun k hk=>(hu2.other k hk).trans (hup.other k hk)⟩
   ·simpa [setMany,Nat.add_assoc] using hc3
   ·simpa using hsz
theorem ORel.carry {μ:Emb} {w w':World} {o:AObj} {e:Ent} (h:ORel μ w o e) (hb:w'.heap[e.blk]? = w.heap[e.blk]?):ORel μ w' o e:=by
 cases o <;> simp only [ORel] at h ⊢
 ·rw [hb];exact h
 ·rw [hb];exact h
 ·rw [hb];exact h
 ·rw [hb];exact h
 ·rw [hb];exact h
theorem ORel.mono {μ μ':Emb} (hm:μ.le μ') {w:World} {o:AObj} {e:Ent} (h:ORel μ w o e):ORel μ' w o e:=by
 cases o <;> simp only [ORel] at h ⊢
 ·obtain ⟨cs',ty,fr,h1,h2,h3⟩:=h;exact ⟨cs',ty,fr,h1,h2.mono hm,h3⟩
 ·obtain ⟨cs',ty,fr,h1,h2,h3⟩:=h;exact ⟨cs',ty,fr,h1,h2.mono hm,h3⟩
 ·exact h
 ·obtain ⟨es',clock,h1,⟨l,hl,h2⟩,h3⟩:=h;exact ⟨es',clock,h1,⟨l,hl,h2.mono hm⟩,h3⟩
 ·exact h
theorem R.upd {μ:Emb} {σ:St} {w w':World} (h:R μ σ w) {b:Nat} {o o':AObj} {e:Ent} {ob:Obj} (hb:σ[b]? = some o) (he:μ b = some e) (hw:e.wr = true) (hl:o.live = true)
  (u:Upd w w' e.blk ob) (ho:ORel μ w' o' e):R μ (σ.set b o') w':=by
 have hlt:b < σ.length:=by
  rcases Nat.lt_or_ge b σ.length with h' | h'
  ·exact h'
  ·rw [List.getElem?_eq_none h'] at hb;cases hb
 refine ⟨fun b' h'=>by simpa using h.dom b' h',fun b' e' h'=>by rw [u.size];exact h.lt b' e' h',fun b' o2 h2=>?_,fun b1 b2 o1 o2 e1 e2 h1 h2 he1 he2 hl1 hl2 hw1 hbk=>?_⟩
 ·by_cases hbb:b = b'
  ·subst hbb
   rw [List.getElem?_set_self hlt] at h2
   cases h2
   exact ⟨e,he,ho⟩
  ·rw [List.getElem?_set_ne hbb] at h2
   obtain ⟨e2,he2,ho2⟩:=h.obj b' o2 h2
   refine ⟨e2,he2,?_⟩
   cases hlive:o2.live with
   | false=>cases o2 <;> first | exact trivial | cases hlive
   | true=>
    refine ho2.carry (u.other _ fun hek=>hbb ?_)
    exact (h.inj b b' o o2 e e2 hb h2 he he2 hl hlive hw hek).symm
 ·have live (b':Nat) (o2:AObj) (h2:(σ.set b o')[b']? = some o2) (hl2:o2.live = true):∃ o3,σ[b']? = some o3 ∧ o3.live = true:=by
   by_cases hbb:b = b'
   ·subst hbb;exact ⟨o,hb,hl⟩
   ·rw [List.getElem?_set_ne hbb] at h2;exact ⟨o2,h2,hl2⟩
  obtain ⟨o3,h3,hl3⟩:=live b1 o1 h1 hl1
  obtain ⟨o4,h4,hl4⟩:=live b2 o2 h2 hl2
  exact h.inj b1 b2 o3 o4 e1 e2 h3 h4 he1 he2 hl3 hl4 hw1 hbk
theorem Upd.fr {μ:Emb} {w w':World} {b:Nat} {e:Ent} {ob:Obj} (he:μ b = some e) (hw:e.wr = true) (u:Upd w w' e.blk ob):Fr μ w w':=
 ⟨u.os,u.tape,u.output,Nat.le_of_eq u.size.symm,fun k _ hn=>u.other k fun hk=>hn b e he hw hk.symm⟩
def Emb.push (μ:Emb) (n:Nat) (e:Ent):Emb:=fun b=>if b = n then some e else μ b
theorem Emb.push_le {μ:Emb} {n:Nat} {e:Ent} (h:μ n = none):μ.le (μ.push n e):=by
 intro b e' hb
 unfold Emb.push
 split
 ·rename_i hbn;subst hbn;rw [h] at hb;cases hb
 ·exact hb
theorem R.fresh {μ:Emb} {σ:St} {w:World} (h:R μ σ w):μ σ.length = none:=by
 cases hm:μ σ.length with
 | none=>rfl
 | some e=>have:=h.dom σ.length (by simp [hm]);omega
structure Grew (w w':World) (ob:Obj):Prop where
 os:w'.os = w.os
 tape:w'.tape = w.tape
 output:w'.output = w.output
 heap:w'.heap = w.heap.push ob
theorem Grew.old {w w':World} {ob:Obj} (g:Grew w w' ob) {k:Nat} (h:k < w.heap.size):w'.heap[k]? = w.heap[k]?:=by
 rw [g.heap,Array.getElem?_push,if_neg (by omega)]
theorem Grew.new {w w':World} {ob:Obj} (g:Grew w w' ob):w'.heap[w.heap.size]? = some ob:=by
 rw [g.heap];simp
theorem Grew.size {w w':World} {ob:Obj} (g:Grew w w' ob):w'.heap.size = w.heap.size + 1:=by
 rw [g.heap];simp
theorem Grew.fr {w w':World} {ob:Obj} (g:Grew w w' ob) (μ:Emb):Fr μ w w':=
 ⟨g.os,g.tape,g.output,by rw [g.size];omega,fun _ hk _=>g.old hk⟩
theorem Grew.alloc (w:World) (ob:Obj):Grew w (w.alloc ob) ob:=⟨rfl,rfl,rfl,rfl⟩
theorem Grew.drewAlloc (w:World) (ob:Obj):Grew w (w.drew.alloc ob) ob:=⟨rfl,rfl,rfl,rfl⟩
theorem R.grow {μ:Emb} {σ:St} {w w':World} (h:R μ σ w) {ob:Obj} (g:Grew w w' ob) {o:AObj} {e:Ent} (heb:e.blk = w.heap.size) (ho:ORel (μ.push σ.length e) w' o e) :
  R (μ.push σ.length e) (σ ++ [o]) w' ∧ Ext μ (μ.push σ.length e) w:=by
 have hf:=h.fresh
 have hle:=Emb.push_le (e:=e) hf
 have old (b:Nat) (hb:b ≠ σ.length):μ.push σ.length e b = μ b:=by unfold Emb.push;rw [if_neg hb]
 have new:μ.push σ.length e σ.length = some e:=by unfold Emb.push;rw [if_pos rfl]
 refine ⟨⟨fun b hb=>?_,fun b e' hb=>?_,fun b o' hb=>?_,fun b1 b2 o1 o2 e1 e2 h1 h2 he1 he2 hl1 hl2 hw1 hbk=>?_⟩,⟨hle,fun b e' hb hn=>?_⟩⟩
 ·by_cases hbn:b = σ.length
  ·subst hbn;simp
  ·rw [old b hbn] at hb;have:=h.dom b hb;simp;omega
 ·rw [g.size]
  by_cases hbn:b = σ.length
  ·subst hbn;rw [new] at hb;cases hb;omega
  ·rw [old b hbn] at hb;have:=h.lt b e' hb;omega
 ·by_cases hbn:b = σ.length
  ·subst hbn
   rw [List.getElem?_append_right (Nat.le_refl _)] at hb
   simp at hb
   subst hb
   exact ⟨e,new,ho⟩
  ·have hlt:b < σ.length:=by
    rcases Nat.lt_or_ge b σ.length with h' | h'
    ·exact h'
    ·rw [List.getElem?_eq_none (by simp;omega)] at hb;cases hb
   rw [List.getElem?_append_left hlt] at hb
   obtain ⟨e',he',ho'⟩:=h.obj b o' hb
   exact ⟨e',hle _ _ he',(ho'.mono hle).carry (g.old (h.lt b e' he'))⟩
 ·have side (b:Nat) (o':AObj) (e':Ent) (hb:(σ ++ [o])[b]? = some o') (he':μ.push σ.length e b = some e'):(b = σ.length ∧ e'.blk = w.heap.size) ∨ (b < σ.length ∧ σ[b]? = some o' ∧ μ b = some e' ∧ e'.blk < w.heap.size):=by
   by_cases hbn:b = σ.length
   ·left;subst hbn;rw [new] at he';cases he';exact ⟨rfl,heb⟩
   ·right
    have hlt:b < σ.length:=by
     rcases Nat.lt_or_ge b σ.length with h' | h'
     ·exact h'
     ·rw [List.getElem?_eq_none (by simp;omega)] at hb;cases hb
    rw [List.getElem?_append_left hlt] at hb
    rw [old b hbn] at he'
    exact ⟨hlt,hb,he',h.lt b e' he'⟩
  rcases side b1 o1 e1 h1 he1 with ⟨hb1,hk1⟩ | ⟨hb1,hs1,hm1,hk1⟩ <;> rcases side b2 o2 e2 h2 he2 with ⟨hb2,hk2⟩ | ⟨hb2,hs2,hm2,hk2⟩
  ·omega
  ·omega
  ·omega
  ·exact h.inj b1 b2 o1 o2 e1 e2 hs1 hs2 hm1 hm2 hl1 hl2 hw1 hbk
 ·left
  by_cases hbn:b = σ.length
  ·subst hbn;rw [new] at hb;cases hb;omega
  ·rw [old b hbn,hn] at hb;cases hb
theorem CRel.of_rels {μ:Emb} {xs:List AV} {vs:Array Value} (h:VRels μ xs vs.toList) (ho:xs.all AV.one = true):CRel μ xs vs 0:=by
 intro i x hi
 obtain ⟨v,hv,hr⟩:=h.get hi
 refine ⟨⟨v,by simpa using hv,hr⟩,?_⟩
 exact List.all_eq_true.1 ho x (List.mem_of_getElem? hi)
end
end Go.AM

/- Each operation of the interpreter, held against the model's: panics, maps, type assertions. -/
import Derived.Test.YtlbieeajocjpeaaGreatDoorAmOp6
import Derived.MapKept
set_option linter.unusedSimpArgs false
namespace Go.AM
open Go.RowKit
section
variable {P:Program} {μ0 μ:Emb} {w0 w:World} {lam:Lam} {env:Env} {σ:St} {a:Act} {o:Oper} {next:Act → World → Prop} {Q:Exit → Act → World → Prop} {out:Res × St} {k:TV → Env → St → Out} {kp:AV → Env → St → Out}
theorem op_panic {x:Operand} (H:Sit μ0 w0 μ lam env σ a w) (hkp:KpOk μ0 w0 Q out kp) (ho:o.op = .panic x)
  (hx:(match env.get x with | .v (.iface t v)=>kp (.iface t v) env σ | _=>none) = some out):o.wp P a w next Q:=by
 have h1:=H.get x
 split at hx
 ·rename_i t v hp
  rw [hp] at h1
  have hv:=h1.val
  generalize hxv:a.eval x = xv at hv
  cases hv with
  | iface _ _ v' hr=>
   have hrun:(execOp a.eval o).run P w = .halt (.panic (.iface t v')) w:=by
    simp only [execOp,ho,hxv,Instr.panic]
    rfl
   unfold Oper.wp
   rw [hrun]
   exact hkp _ _ _ _ _ _ _ _ H (.iface t _ _ hr) hx
 ·cases hx
theorem MRel.push {key v:AV} {e:MapEntry} (h1:VRel μ key e.key) (h2:VRel μ v e.val):∀ {es:List (AV × AV)} {es':List MapEntry},MRel μ es es' → MRel μ (es ++ [(key,v)]) (es' ++ [e])
 | [],[],_=>⟨h1,h2,trivial⟩
 | (_,_) :: _,_ :: _,h=>⟨h.1,h.2.1,MRel.push h1 h2 h.2.2⟩
 | [],_ :: _,h=>h.elim
 | _ :: _,[],h=>h.elim
theorem MRel.modify {key v:AV} {f:MapEntry → MapEntry} (h1:∀ e,VRel μ key (f e).key) (h2:∀ e,VRel μ v (f e).val):∀ {es:List (AV × AV)} {es':List MapEntry} (i:Nat),MRel μ es es' → MRel μ (es.set i (key,v)) (es'.modify i f)
 | [],[],i,_=>by cases i <;> exact trivial
 | (_,_) :: _,e :: _,0,h=>⟨h1 e,h2 e,h.2.2⟩
 | (_,_) :: _,_ :: _,i + 1,h=>by
  simp only [List.set_cons_succ,List.modify_succ_cons]
  exact ⟨h.1,h.2.1,MRel.modify h1 h2 i h.2.2⟩
 | [],_ :: _,_,h=>h.elim
 | _ :: _,[],_,h=>h.elim
theorem run_checkKey_scalar {kt:TypeId} (hs:scalarT P kt = true) (e:Bool) (n:Nat) (v:Value) (w:World):(Instr.checkKey e (n + 1) kt v).run P w = .ok () w:=by
 unfold scalarT at hs
 unfold Instr.checkKey
 split at hs
 ·rename_i hu;simp only [Sem.run_bind,run_underlying hu,Result.andThen_ok];rfl
 ·rename_i hu;simp only [Sem.run_bind,run_underlying hu,Result.andThen_ok];rfl
 ·rename_i hu;simp only [Sem.run_bind,run_underlying hu,Result.andThen_ok];rfl
 ·cases hs
theorem bytes_beq (a b:List UInt8):((⟨a.toArray⟩:ByteArray) == ⟨b.toArray⟩) = (a == b):=by
 show ((a.toArray:Array UInt8) == b.toArray) = _
 simp
theorem sameNow_of_eqIn {kt:TypeId} {d:TypeDesc} (hs:scalarT P kt = true) (hu:P.underlying kt = some d) {x y:AV} {v u:Value} {b:Bool} (h:eqIn P 100 kt x y = some b) (hx:VRel μ x v) (hy:VRel μ y u) :
  Instr.sameNow d v u = some b ∧ (b = true → ∀ n,Instr.sameBits n u v = true):=by
 unfold scalarT at hs
 unfold eqIn at h
 rw [hu] at hs h
 cases d with
 | bool=>
  cases hx <;> cases hy <;> simp at h
  subst h
  refine ⟨rfl,fun hb n=>?_⟩
  rename_i p q
  simp at hb;subst hb
  cases n <;> simp [Instr.sameBits]
 | int kk=>
  cases hx <;> cases hy <;> simp at h
  rename_i k1 p k2 q
  obtain ⟨rfl,rfl⟩:=h
  refine ⟨by simp [Instr.sameNow],fun hb n=>?_⟩
  simp at hb;subst hb
  cases n <;> simp [Instr.sameBits]
 | string=>
  cases hx <;> cases hy <;> simp at h
  rename_i p q
  subst h
  refine ⟨by simp only [Instr.sameNow,bytes_beq],fun hb n=>?_⟩
  simp at hb;subst hb
  cases n <;> simp [Instr.sameBits,bytes_beq]
 | _=>cases hs
theorem findNow_sound {kt:TypeId} {d:TypeDesc} (hs:scalarT P kt = true) (hu:P.underlying kt = some d) {key:AV} {v:Value} (hk:VRel μ key v):∀ {es:List (AV × AV)} {es':List MapEntry} (i:Nat) {r:Option (Nat × AV)},
  MRel μ es es' → mapFind P kt key es i = some r →
  (match r with
   | none=>Instr.findNow d v es' i = some none
   | some (j,x)=>∃ u e,Instr.findNow d v es' i = some (some (j,u)) ∧ VRel μ x u ∧ i ≤ j ∧ es'[j - i]? = some e ∧ ∀ n,Instr.sameBits n e.key v = true)
 | [],[],i,r,_,h=>by simp [mapFind] at h;subst h;rfl
 | (x,y) :: es,e :: es',i,r,hm,h=>by
  unfold mapFind at h
  unfold Instr.findNow
  split at h
  ·rename_i he
   cases h
   obtain ⟨h1,h2⟩:=sameNow_of_eqIn hs hu he hk hm.1
   rw [h1]
   exact ⟨e.val,e,rfl,hm.2.1,Nat.le_refl _,by simp,h2 rfl⟩
  ·rename_i he
   obtain ⟨h1,_⟩:=sameNow_of_eqIn hs hu he hk hm.1
   rw [h1]
   have ih:=findNow_sound hs hu hk (i + 1) hm.2.2 h
   split at ih
   ·exact ih
   ·rename_i j x'
    obtain ⟨u,e2,g1,g2,g3,g4,g5⟩:=ih
    refine ⟨u,e2,g1,g2,by omega,?_,g5⟩
    have:j - i = (j - (i + 1)) + 1:=by omega
    rw [this];simpa using g4
  ·cases h
 | [],_ :: _,_,_,h,_=>h.elim
 | _ :: _,[],_,_,h,_=>h.elim
theorem run_findKey {kt:TypeId} (hs:scalarT P kt = true) {key:AV} {v:Value} (hk:VRel μ key v) {es:List (AV × AV)} {es':List MapEntry} {r:Option (Nat × AV)} (hm:MRel μ es es') (h:mapFind P kt key es 0 = some r) (w:World) :
  (match r with
   | none=>(Instr.findKey kt v es').run P w = .ok none w
   | some (j,x)=>∃ u e,(Instr.findKey kt v es').run P w = .ok (some (j,u)) w ∧ VRel μ x u ∧ es'[j]? = some e ∧ ∀ n,Instr.sameBits n e.key v = true):=by
 obtain ⟨d,hu⟩:∃ d,P.underlying kt = some d:=by
  unfold scalarT at hs
  cases hu:P.underlying kt with
  | none=>rw [hu] at hs;cases hs
  | some d=>exact ⟨d,rfl⟩
 have hf:=findNow_sound hs hu hk 0 hm h
 unfold Instr.findKey
 simp only [Sem.run_bind,run_underlying hu,Result.andThen_ok]
 split at hf
 ·rw [hf];rfl
 ·obtain ⟨u,e,g1,g2,_,g4,g5⟩:=hf
  rw [g1]
  exact ⟨u,e,rfl,g2,by simpa using g4,g5⟩
theorem sameTag.symm {x y:AV} (h:sameTag x y):sameTag y x:=by
 unfold sameTag at h ⊢
 split at h
 ·trivial
 ·exact h.symm
 ·trivial
 ·cases h
theorem eqIn_scalar {kt:TypeId} {x y:AV} {b:Bool} (hs:scalarT P kt = true) (h:eqIn P 100 kt x y = some b):sameTag x y ∧ (b = true ↔ x = y):=by
 unfold scalarT at hs
 unfold eqIn at h
 cases hu:P.underlying kt with
 | none=>rw [hu] at hs;cases hs
 | some d=>
  rw [hu] at hs h
  cases d with
  | bool=>cases x <;> cases y <;> simp at h;subst h;exact ⟨trivial,by simp⟩
  | int kk=>cases x <;> cases y <;> simp at h;obtain ⟨rfl,rfl⟩:=h;exact ⟨rfl,by simp⟩
  | string=>cases x <;> cases y <;> simp at h;subst h;exact ⟨trivial,by simp⟩
  | _=>cases hs
theorem eqIn_tag {kt:TypeId} {x y z:AV} {b:Bool} (hs:scalarT P kt = true) (h:eqIn P 100 kt x y = some b) (g:sameTag y z):∃ c,eqIn P 100 kt x z = some c:=by
 unfold scalarT at hs
 unfold eqIn at h ⊢
 cases hu:P.underlying kt with
 | none=>rw [hu] at hs;cases hs
 | some d=>
  rw [hu] at hs h
  cases d with
  | bool=>cases x <;> cases y <;> simp at h;cases z <;> simp only [sameTag] at g;exact ⟨_,rfl⟩
  | int kk=>cases x <;> cases y <;> simp at h;cases z <;> simp only [sameTag] at g;obtain ⟨rfl,rfl⟩:=h;subst g;simp
  | string=>cases x <;> cases y <;> simp at h;cases z <;> simp only [sameTag] at g;exact ⟨_,rfl⟩
  | _=>cases hs
theorem find_all {kt:TypeId} {key:AV} {es:List (AV × AV)} {i:Nat} {r:Option (Nat × AV)} (hs:scalarT P kt = true) (hK:KeysOk es) (h:mapFind P kt key es i = some r):∀ x ∈ es,∃ b,eqIn P 100 kt key x.1 = some b:=by
 cases es with
 | nil=>intro x hx;cases hx
 | cons y es=>
  obtain ⟨y,v⟩:=y
  have h0:∃ b,eqIn P 100 kt key y = some b:=by
   unfold mapFind at h
   split at h
   ·exact ⟨_,‹_›⟩
   ·exact ⟨_,‹_›⟩
   ·cases h
  obtain ⟨b,hb⟩:=h0
  intro x hx
  rcases List.mem_cons.1 hx with rfl | hx
  ·exact ⟨b,hb⟩
  ·exact eqIn_tag hs hb ((List.pairwise_cons.1 hK).1 x hx).1
theorem find_spec {kt:TypeId} {key:AV} (hs:scalarT P kt = true):∀ (l:List (AV × AV)) (i:Nat),(∀ x ∈ l,∃ b,eqIn P 100 kt key x.1 = some b) →
  (mapFind P kt key l i = some none ∧ ∀ x ∈ l,sameTag key x.1 ∧ key ≠ x.1) ∨ ∃ j v,mapFind P kt key l i = some (some (i + j,v)) ∧ l[j]? = some (key,v)
 | [],i,_=>.inl ⟨rfl,fun x hx=>by cases hx⟩
 | (y,v) :: l,i,h=>by
  obtain ⟨b,hb⟩:=h (y,v) (by simp)
  obtain ⟨h1,h2⟩:=eqIn_scalar hs hb
  cases b with
  | true=>exact .inr ⟨0,v,by unfold mapFind;rw [hb];rfl,by rw [h2.1 rfl];rfl⟩
  | false=>
   have hm:mapFind P kt key ((y,v) :: l) i = mapFind P kt key l (i + 1):=by
    rw [mapFind,hb]
   have hne:key ≠ y:=fun e=>by have:=h2.2 e;cases this
   rcases find_spec hs l (i + 1) fun x hx=>h x (List.mem_cons_of_mem _ hx) with ⟨g1,g2⟩ | ⟨j,u,g1,g2⟩
   ·refine .inl ⟨by rw [hm,g1],fun x hx=>?_⟩
    rcases List.mem_cons.1 hx with rfl | hx
    ·exact ⟨h1,hne⟩
    ·exact g2 x hx
   ·exact .inr ⟨j + 1,u,by rw [hm,g1];congr 3;omega,by simpa using g2⟩
theorem perm_none {kt:TypeId} {key:AV} {es l:List (AV × AV)} (hs:scalarT P kt = true) (hK:KeysOk es) (hp:l.Perm es) (h:mapFind P kt key es 0 = some none):mapFind P kt key l 0 = some none ∧ ∀ x ∈ es,sameTag key x.1 ∧ key ≠ x.1:=by
 have ha:=find_all hs hK h
 have hne:∀ x ∈ es,sameTag key x.1 ∧ key ≠ x.1:=by
  rcases find_spec hs es 0 ha with ⟨_,g⟩ | ⟨j,v,g,_⟩
  ·exact g
  ·rw [h] at g;cases g
 refine ⟨?_,hne⟩
 rcases find_spec hs l 0 (fun x hx=>ha x (hp.mem_iff.1 hx)) with ⟨g,_⟩ | ⟨j,v,_,g⟩
 ·exact g
 ·exact absurd rfl (hne (key,v) (hp.mem_iff.1 (List.mem_of_getElem? g))).2
theorem perm_some {kt:TypeId} {key v:AV} {j:Nat} {es l:List (AV × AV)} (hs:scalarT P kt = true) (hK:KeysOk es) (hp:l.Perm es) (h:mapFind P kt key es 0 = some (some (j,v))):es[j]? = some (key,v) ∧ ∃ j',mapFind P kt key l 0 = some (some (j',v)) ∧ l[j']? = some (key,v):=by
 have ha:=find_all hs hK h
 have hj:es[j]? = some (key,v):=by
  rcases find_spec hs es 0 ha with ⟨g,_⟩ | ⟨j',v',g,g2⟩
  ·rw [h] at g;cases g
  ·rw [h] at g;cases g;rwa [Nat.zero_add]
 refine ⟨hj,?_⟩
 have hm:(key,v) ∈ l:=hp.mem_iff.2 (List.mem_of_getElem? hj)
 rcases find_spec hs l 0 (fun x hx=>ha x (hp.mem_iff.1 hx)) with ⟨_,g⟩ | ⟨j',v',g,g2⟩
 ·exact absurd rfl (g _ hm).2
 ·have hv:v' = v:=by
   have hm':(key,v') ∈ es:=hp.mem_iff.1 (List.mem_of_getElem? g2)
   have hm2:=List.mem_of_getElem? hj
   have hu:∀ es:List (AV × AV),KeysOk es → (key,v) ∈ es → (key,v') ∈ es → v' = v:=by
    intro es
    induction es with
    | nil=>intro _ h;cases h
    | cons x es ih=>
     intro hK h1 h2
     obtain ⟨k1,k2⟩:=List.pairwise_cons.1 hK
     rcases List.mem_cons.1 h1 with e1 | m1
     ·rcases List.mem_cons.1 h2 with e2 | m2
      ·rw [← e1] at e2;cases e2;rfl
      ·rw [← e1] at k1;exact absurd rfl (k1 _ m2).2
     ·rcases List.mem_cons.1 h2 with e2 | m2
      ·rw [← e2] at k1;exact absurd rfl (k1 _ m1).2
      ·exact ih k2 m1 m2
   exact hu es hK hm2 hm'
  subst hv
  exact ⟨0 + j',g,g2.trans rfl |> fun h=>by rwa [Nat.zero_add]⟩
theorem set_erase {α:Type} {b:α}:∀ (l:List α) (i:Nat),i < l.length → (l.set i b).Perm (b :: l.eraseIdx i)
 | x :: l,0,_=>List.Perm.refl _
 | x :: l,i + 1,h=>by
  simp only [List.set_cons_succ,List.eraseIdx_cons_succ]
  exact ((set_erase l i (by simpa using h)).cons x).trans (List.Perm.swap ..)
theorem erase_perm {α:Type} {a:α} {l:List α} {i:Nat} (h:l[i]? = some a):(a :: l.eraseIdx i).Perm l:=by
 obtain ⟨h1,h2⟩:=List.getElem?_eq_some_iff.1 h
 have:=set_erase (b:=a) l i h1
 rw [← h2,List.set_getElem_self,h2] at this
 exact this.symm
theorem perm_set {α:Type} {l es:List α} {a b:α} {i j:Nat} (hp:l.Perm es) (hi:l[i]? = some a) (hj:es[j]? = some a):(l.set i b).Perm (es.set j b):=by
 have h1:=erase_perm hi
 have h2:=erase_perm hj
 have hi1:=(List.getElem?_eq_some_iff.1 hi).1
 have hj1:=(List.getElem?_eq_some_iff.1 hj).1
 have h3:(l.eraseIdx i).Perm (es.eraseIdx j):=(List.perm_cons a).1 (h1.trans (hp.trans h2.symm))
 exact (set_erase l i hi1).trans ((h3.cons b).trans (set_erase es j hj1).symm)
theorem KeysOk.set {key v v':AV} {es:List (AV × AV)} {j:Nat} (h:KeysOk es) (hj:es[j]? = some (key,v)):KeysOk (es.set j (key,v')):=by
 have h1:(es.map (·.1)).Pairwise fun x y=>sameTag x y ∧ x ≠ y:=List.pairwise_map.2 h
 have e:(es.set j (key,v')).map (·.1) = es.map (·.1):=by
  rw [List.map_set]
  apply List.ext_getElem?
  intro i
  by_cases hij:j = i
  ·subst hij
   rw [List.getElem?_set_self (by have:=(List.getElem?_eq_some_iff.1 hj).1;simpa using this)]
   rw [List.getElem?_map,hj];rfl
  ·rw [List.getElem?_set_ne hij]
 exact List.pairwise_map.1 (by rw [e];exact h1)
theorem insB_perm (key v:AV) (es:List (AV × AV)):(insB key v es).Perm (es ++ [(key,v)]):=by
 unfold insB
 split
 ·exact (List.perm_append_comm (l₁:=es) (l₂:=[(_,v)])).symm
 ·exact List.Perm.refl _
theorem KeysOk.ins {key v:AV} {es:List (AV × AV)} (h:KeysOk es) (hn:∀ x ∈ es,sameTag key x.1 ∧ key ≠ x.1):KeysOk (insB key v es):=by
 have hp:=insB_perm key v es
 unfold KeysOk at h ⊢
 refine (List.Perm.pairwise_iff (fun {x y} hxy=>⟨hxy.1.symm,hxy.2.symm⟩) hp).2 (List.pairwise_append.2 ⟨h,List.pairwise_singleton ..,fun x hx y hy=>?_⟩)
 rw [List.mem_singleton] at hy
 subst hy
 exact ⟨(hn x hx).1.symm,(hn x hx).2.symm⟩
theorem getMap {r:Nat} {es:Array MapEntry} {clock:Nat} (hb:w.heap[r]? = some (.map es clock)):(getObj r).run P w = .ok (.map es clock) w:=by
 simp [getObj,Sem.run,hb]
theorem setMap {r:Nat} {es:Array MapEntry} {clock:Nat} (o:Obj) (hb:w.heap[r]? = some (.map es clock)):(setObj r o).run P w = .ok () { w with heap:=w.heap.setIfInBounds r o }:=by
 simp [setObj,Sem.run,hb]
theorem op_lookup {t:TypeId} {x ix:Operand} {ok:Bool} (H:Sit μ0 w0 μ lam env σ a w) (hk:KOk μ0 w0 a o.dst next out k) (ho:o.op = .lookup t x ix ok)
  (hx:(match P.underlying t with
   | some (.map kt et)=>(match env.get ix with
    | .v key=>lookK P kt et σ (env.get x) key fun v b=>k (.v (cond ok (.tuple [v,.bool b]) v)) env σ
    | _=>none)
   | _=>none) = some out):o.wp P a w next Q:=by
 have h1:=H.get x
 have h2:=H.get ix
 split at hx
 ·rename_i kt et hu
  split at hx
  ·rename_i key hp
   rw [hp] at h2
   have hkey:=h2.val
   unfold lookK at hx
   split at hx
   ·rename_i hs
    have fin (v:AV) (v':Value) (b:Bool) (hv:VRel μ v v') (hrun:(Instr.lookup t (a.eval x) (a.eval ix) ok).run P w = .ok (if ok then .tuple #[v',.bool b] else v') w)
      (hx:k (.v (cond ok (.tuple [v,.bool b]) v)) env σ = some out):o.wp P a w next Q:=by
     refine op_val H hk (v:=if ok then .tuple #[v',.bool b] else v') ?_ (.v _ _ ?_) hx
     ·simp only [execOp,ho];exact exec_v hrun
     ·cases ok
      ·exact hv
      ·exact .tuple _ _ (.cons _ _ _ _ hv (.cons _ _ _ _ (.bool b) .nil))
    split at hx
    ·rename_i hm
     split at hx
     ·rename_i z hz
      rw [hm] at h1
      have hv1:=h1.val
      generalize hxv:a.eval x = xv at hv1 fin
      cases hv1
      obtain ⟨zv,hzr,hzv⟩:=run_zeroValue (P:=P) hz μ w
      refine fin z zv false hzv ?_ hx
      have hf:=run_findKey hs hkey (es:=[]) (es':=[]) (r:=none) trivial rfl w
      simp only at hf
      simp only [Instr.lookup,Sem.run_bind,run_underlying hu,Result.andThen_ok,Sem.run_pure,run_checkKey_scalar hs,hf,hzr]
     ·cases hx
    ·rename_i b hm
     rw [hm] at h1
     have hv1:=h1.val
     generalize hxv:a.eval x = xv at hv1 fin
     cases hv1 with
     | map _ e he=>
      split at hx
      ·rename_i es hes
       obtain ⟨e',he',hob⟩:=H.r.obj b _ hes
       rw [he] at he';cases he'
       obtain ⟨es',clock,g1,⟨l,hpl,g2⟩,hK,g3⟩:=hob
       have hget:=getMap (P:=P) g1
       split at hx
       ·rename_i j v hmf
        obtain ⟨_,j',hmf',_⟩:=perm_some hs hK hpl hmf
        obtain ⟨u,en,f1,f2,_⟩:=run_findKey hs hkey g2 hmf' w
        refine fin v u true f2 ?_ hx
        simp only [Instr.lookup,Sem.run_bind,run_underlying hu,Result.andThen_ok,hget,Sem.run_pure,run_checkKey_scalar hs,f1]
       ·rename_i hmf
        have hf:=run_findKey hs hkey g2 (perm_none hs hK hpl hmf).1 w
        simp only at hf
        split at hx
        ·rename_i z hz
         obtain ⟨zv,hzr,hzv⟩:=run_zeroValue (P:=P) hz μ w
         refine fin z zv false hzv ?_ hx
         simp only [Instr.lookup,Sem.run_bind,run_underlying hu,Result.andThen_ok,hget,Sem.run_pure,run_checkKey_scalar hs,hf,hzr]
        ·cases hx
       ·cases hx
      ·cases hx
    ·cases hx
   ·cases hx
  ·cases hx
 ·cases hx
theorem op_makeMap {t:TypeId} {r:Option Operand} (H:Sit μ0 w0 μ lam env σ a w) (hk:KOk μ0 w0 a o.dst next out k) (ho:o.op = .makeMap t r)
  (hx:mkMapK P t (r.map env.get) (k (.v (.map (some σ.length))) env (σ ++ [.map []])) = some out):o.wp P a w next Q:=by
 unfold mkMapK at hx
 split at hx
 ·rename_i kt et hu
  have main (hrun:(Instr.makeMap t (r.map a.eval)).run P w = .ok (.map (some w.heap.size)) (w.alloc (.map #[] 0))) (hx:k (.v (.map (some σ.length))) env (σ ++ [.map []]) = some out):o.wp P a w next Q:=by
   have hg:=Grew.alloc w (.map #[] 0)
   obtain ⟨hR,hE⟩:=H.r.grow hg (o:=.map []) (e:=⟨w.heap.size,0,0,true⟩) rfl ⟨#[],0,hg.new,⟨[],List.Perm.refl _,trivial⟩,List.Pairwise.nil,rfl⟩
   refine wp_value (v:=.map (some w.heap.size)) ?_ (hk _ _ _ _ _ _ _ (H.step hR hE (hg.fr μ)) (.v _ _ ?_) hx)
   ·simp only [execOp,ho];exact exec_v hrun
   ·exact .map σ.length ⟨w.heap.size,0,0,true⟩ (push_self _ _ _)
  cases r with
  | none=>exact main rfl hx
  | some y=>
   have hy:=H.get y
   simp only [Option.map_some] at hx
   split at hx
   ·rename_i h;cases h
   ·rename_i kk n hp
    simp only [Option.some.injEq] at hp
    rw [hp] at hy
    have hv:=hy.val
    generalize hyv:a.eval y = yv at hv
    cases hv
    refine main ?_ hx
    simp only [Option.map_some,hyv,Instr.makeMap,Sem.run_bind,run_underlying hu,Result.andThen_ok,asInt,Sem.run_pure]
    rfl
   ·cases hx
 ·cases hx
theorem setBlock_upd {b:Nat} {es es':Array MapEntry} {c c':Nat} (h:w.heap[b]? = some (.map es c)):Upd w { w with heap:=w.heap.setIfInBounds b (.map es' c') } b (.map es' c') where
 os:=rfl
 tape:=rfl
 output:=rfl
 size:=by simp
 at_:=by
  have hlt:b < w.heap.size:=(Array.getElem?_eq_some_iff.1 h).1
  simp [hlt]
 other:=fun k hk=>by rw [Array.getElem?_setIfInBounds_ne (Ne.symm hk)]
theorem op_update {t:TypeId} {m ix x:Operand} (H:Sit μ0 w0 μ lam env σ a w) (hk:KOk μ0 w0 a o.dst next out k) (ho:o.op = .mapUpdate t m ix x ∨ o.op = .insert t m ix x)
  (hx:(match P.underlying t with
   | some (.map kt _)=>(match env.get ix,env.get x with
    | .v key,.v v=>updK P kt σ (env.get m) key v fun σ'=>k .no env σ'
    | _,_=>none)
   | _=>none) = some out):o.wp P a w next Q:=by
 have h1:=H.get m
 have h2:=H.get ix
 have h3:=H.get x
 split at hx
 ·rename_i kt et hu
  split at hx
  ·rename_i key v hp hq
   rw [hp] at h2
   rw [hq] at h3
   have hkey:=h2.val
   have hval:=h3.val
   unfold updK at hx
   split at hx
   ·rename_i hs
    split at hx
    ·rename_i b hm
     rw [hm] at h1
     have hv1:=h1.val
     generalize hxv:a.eval m = mv at hv1
     cases hv1 with
     | map _ e he=>
      split at hx
      ·rename_i es hes
       obtain ⟨e',he',hob⟩:=H.r.obj b _ hes
       rw [he] at he';cases he'
       obtain ⟨es',clock,g1,⟨l,hpl,g2⟩,hK,g3⟩:=hob
       have hget:=getMap (P:=P) g1
       have fin (es1:List (AV × AV)) (es2:Array MapEntry) (c2:Nat) (hr:∃ l,l.Perm es1 ∧ MRel μ l es2.toList) (hK1:KeysOk es1)
         (hrun:(Instr.mapUpdate t (a.eval m) (a.eval ix) (a.eval x)).run P w = .ok () { w with heap:=w.heap.setIfInBounds e.blk (.map es2 c2) })
         (hx:k .no env (σ.set b (.map es1)) = some out):o.wp P a w next Q:=by
        have hup:=setBlock_upd (es':=es2) (c':=c2) g1
        have hR:=H.r.upd hes he g3 rfl hup (o':=.map es1) ⟨es2,c2,hup.at_,hr,hK1,g3⟩
        refine wp_skipped (w':={ w with heap:=w.heap.setIfInBounds e.blk (.map es2 c2) }) ?_ (hk _ _ _ _ _ _ _ (H.step hR (Ext.refl _ _) (hup.fr he g3)) (.no _) hx)
        have hex:execOp a.eval o = (do Instr.mapUpdate t (a.eval m) (a.eval ix) (a.eval x);pure .skip):=by
         rcases ho with ho | ho <;> simp only [execOp,ho]
        rw [hex]
        simp only [Sem.run_bind,hrun,Result.andThen_ok,Sem.run_pure]
       rw [hxv] at fin
       split at hx
       ·rename_i j y hmf
        obtain ⟨hej,j',hmf',hlj⟩:=perm_some hs hK hpl hmf
        obtain ⟨u,en,f1,f2,f3,f4⟩:=run_findKey hs hkey g2 hmf' w
        rw [Array.getElem?_toList] at f3
        refine fin _ (es'.modify j' fun e=>{ e with key:=a.eval ix,val:=a.eval x }) clock ⟨l.set j' (key,v),perm_set hpl hlj hej,by rw [Array.toList_modify];exact MRel.modify (fun _=>hkey) (fun _=>hval) j' g2⟩ (hK.set hej) ?_ hx
        simp only [Instr.mapUpdate,Sem.run_bind,run_underlying hu,Result.andThen_ok,hget,run_checkKey_scalar hs,f1,f3,Option.map_some,Option.getD_some,Instr.keyThatStays,f4,if_true,Sem.run_pure,setMap _ g1]
       ·rename_i hmf
        obtain ⟨hmf',hne⟩:=perm_none hs hK hpl hmf
        have hf:=run_findKey hs hkey g2 hmf' w
        simp only at hf
        refine fin _ (es'.push { key:=a.eval ix,val:=a.eval x,born:=clock }) (clock + 1) ⟨l ++ [(key,v)],(hpl.append (List.Perm.refl _)).trans (insB_perm key v es).symm,by rw [Array.toList_push];exact MRel.push hkey hval g2⟩ (hK.ins hne) ?_ hx
        simp only [Instr.mapUpdate,Sem.run_bind,run_underlying hu,Result.andThen_ok,hget,run_checkKey_scalar hs,hf,setMap _ g1]
       ·cases hx
      ·cases hx
    ·cases hx
   ·cases hx
  ·cases hx
 ·cases hx
theorem op_typeAssert {x:Operand} {xt ty:TypeId} {ok:Bool} (H:Sit μ0 w0 μ lam env σ a w) (hk:KOk μ0 w0 a o.dst next out k) (ho:o.op = .typeAssert x xt ty ok)
  (hx:assertK P (env.get x) ty ok (fun v=>k (.v v) env σ) = some out):o.wp P a w next Q:=by
 have h1:=H.get x
 unfold assertK at hx
 split at hx
 ·cases hx
 ·rename_i d hn hu
  unfold assertV at hx
  have fails (hrun:∀ v,(zeroValue ty).run P w = .ok v w → ok = true → (Instr.typeAssert (a.eval x) xt ty ok).run P w = .ok (.tuple #[v,.bool false]) w)
    (hx:cond ok (match zeroOf P ty with | some z=>k (.v (.tuple [z,.bool false])) env σ | none=>none) none = some out):o.wp P a w next Q:=by
   cases ok
   ·cases hx
   ·simp only [cond] at hx
    split at hx
    ·rename_i z hz
     obtain ⟨zv,hzr,hzv⟩:=run_zeroValue (P:=P) hz μ w
     refine op_val H hk (v:=.tuple #[zv,.bool false]) ?_ (.v _ _ (.tuple _ _ (.cons _ _ _ _ hzv (.cons _ _ _ _ (.bool false) .nil)))) hx
     simp only [execOp,ho];exact exec_v (hrun zv hzr rfl)
    ·cases hx
  have hn':∀ ms,d ≠ .interface ms:=fun ms e=>hn ms e
  split at hx
  ·rename_i hp
   rw [hp] at h1
   have hv:=h1.val
   generalize hxv:a.eval x = xv at hv fails
   cases hv
   refine fails (fun v hz hok=>?_) hx
   subst hok
   unfold Instr.typeAssert
   simp only [Sem.run_bind,run_underlying hu,Result.andThen_ok]
   cases d <;> first | exact absurd rfl (hn' _) | simp only [if_true,Sem.run_bind,hz,Result.andThen_ok,Sem.run_pure]
  ·rename_i t v hp
   rw [hp] at h1
   have hv:=h1.val
   generalize hxv:a.eval x = xv at hv fails
   cases hv with
   | iface _ _ v' hr=>
    split at hx
    ·rename_i ht
     subst ht
     refine op_val H hk (v:=if ok then .tuple #[v',.bool true] else v') ?_ (.v _ _ ?_) hx
     ·simp only [execOp,ho]
      refine exec_v ?_
      rw [hxv]
      unfold Instr.typeAssert
      simp only [Sem.run_bind,run_underlying hu,Result.andThen_ok]
      cases d <;> first | exact absurd rfl (hn' _) | simp only [if_true,Sem.run_pure]
     ·cases ok
      ·exact hr
      ·exact .tuple _ _ (.cons _ _ _ _ hr (.cons _ _ _ _ (.bool true) .nil))
    ·rename_i ht
     refine fails (fun v hz hok=>?_) hx
     subst hok
     unfold Instr.typeAssert
     simp only [Sem.run_bind,run_underlying hu,Result.andThen_ok]
     cases d <;> first | exact absurd rfl (hn' _) | simp only [if_neg ht,if_true,Sem.run_bind,hz,Result.andThen_ok,Sem.run_pure]
  ·cases hx
 ·cases hx
end
end Go.AM

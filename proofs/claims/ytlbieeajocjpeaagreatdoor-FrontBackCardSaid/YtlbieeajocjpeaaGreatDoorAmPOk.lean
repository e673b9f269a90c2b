/- From closed checks of a program: what the interpreter asks of it. -/
import Derived.Test.YtlbieeajocjpeaaGreatDoorAmRun
import Derived.ChangeMade
namespace Go.AM
open Lean.Order
theorem flat_some {α:Type} {x y:Option α} (h:x ⊑ y) {a:α} (ha:x = some a):y = some a:=by
 cases h with
 | bot=>cases ha
 | refl=>exact ha
theorem map_mono {β:Type} (u:TypeId) (f:TypeInfo → β):monotone (fun (info:TypeId → Option TypeInfo)=>(info u).map f):=by
 intro a b hab
 show Option.map f (a u) ⊑ Option.map f (b u)
 cases hu:a u with
 | none=>exact FlatOrder.rel.bot
 | some j=>rw [flat_some (hab u) hu]
theorem funcStr_mono (ps rs:Array TypeId) (v:Bool):monotone (fun (info:TypeId → Option TypeInfo)=>Made.funcStr info ps rs v):=by
 unfold Made.funcStr
 repeat' (first | exact map_mono _ _ | monotonicity | split)
theorem reckonStruct_mono (fs:Array Field):monotone (fun (info:TypeId → Option TypeInfo)=>Made.reckonStruct info fs):=by
 unfold Made.reckonStruct
 repeat' (first | monotonicity | split)
theorem reckon_mono (d:TypeDesc):monotone (fun (info:TypeId → Option TypeInfo)=>Made.reckon info d):=by
 unfold Made.reckon
 cases d <;> dsimp only <;> repeat' (first | exact funcStr_mono _ _ _ | exact reckonStruct_mono _ | monotonicity | split)
theorem infoAt_step (T:Tables):∀ f t i,Made.infoAt T f t = some i → Made.infoAt T (f + 1) t = some i:=by
 intro f
 induction f with
 | zero=>intro t i h;simp [Made.infoAt] at h
 | succ f ih=>
  intro t i h
  unfold Made.infoAt at h ⊢
  split at h
  ·rename_i hlt
   rw [if_pos hlt];exact h
  ·rename_i hlt
   rw [if_neg hlt]
   simp only [Option.bind_eq_some_iff] at h ⊢
   obtain ⟨d,hd,h⟩:=h
   refine ⟨d,hd,flat_some (reckon_mono d (Made.infoAt T f) (Made.infoAt T (f + 1)) ?_) h⟩
   intro u
   show Made.infoAt T f u ⊑ Made.infoAt T (f + 1) u
   cases hu:Made.infoAt T f u with
   | none=>exact FlatOrder.rel.bot
   | some j=>rw [ih u j hu];first | done | exact FlatOrder.rel.refl
theorem info_of_at {T:Tables} {e:TypeId} {i:TypeInfo} (h:Made.infoAt T 99 e = some i):T.info? e = some i:=by
 unfold Tables.info?
 split
 ·rename_i hlt
  unfold Made.infoAt at h
  rw [if_pos hlt] at h
  exact h
 ·exact infoAt_step T 99 e i h
theorem forIn_inv {α β:Type} (I:β → Prop) (f:α → β → Option (ForInStep β)):∀ (l:List α) (b r:β),I b → (∀ a ∈ l,∀ b s,I b → f a b = some s → ∃ b',s = .yield b' ∧ I b') → forIn l b f = some r → I r
 | [],b,r,h0,_,h=>by simp at h;exact h ▸ h0
 | a :: l,b,r,h0,hs,h=>by
  simp only [List.forIn_cons,bind,Option.bind_eq_some_iff] at h
  obtain ⟨s,hf,h⟩:=h
  obtain ⟨b',rfl,hb⟩:=hs a (by simp) b s h0 hf
  exact forIn_inv I f l b' r hb (fun a ha=>hs a (by simp [ha])) h
theorem reckon_struct {info:TypeId → Option TypeInfo} {fs:Array Field} {i:TypeInfo} (h:Made.reckon info (.struct fs) = some i):∃ gs,i.desc = .struct gs ∧ ∀ g ∈ gs.toList,(info g.type).isSome = true:=by
 unfold Made.reckon at h
 dsimp only at h
 unfold Made.reckonStruct at h
 simp only [bind,Option.bind_eq_some_iff,pure] at h
 obtain ⟨a,ha,h⟩:=h
 rw [← Array.forIn_toList] at ha
 have hI:=forIn_inv (fun s:Array Field × Nat × Nat × Nat × Nat × Bool × Bool × Option (Array Value) × String=>∀ g ∈ s.1.toList,(info g.type).isSome = true) _ _ _ _ (by simp) ?_ ha
 ·split at h <;> (cases h;exact ⟨_,rfl,hI⟩)
 ·clear ha h
  intro f hf b s hb hs
  simp only [Option.bind_eq_some_iff] at hs
  obtain ⟨j,hj,hs⟩:=hs
  have hnew:∀ (g:Field),g.type = f.type → ∀ g' ∈ (b.1.push g).toList,(info g'.type).isSome = true:=by
   intro g hg g' hg'
   simp only [Array.toList_push,List.mem_append,List.mem_singleton] at hg'
   rcases hg' with h' | rfl
   ·exact hb _ h'
   ·rw [hg,hj];rfl
  repeat' first
   | (cases hs;exact ⟨_,rfl,hnew _ rfl⟩)
   | (cases hs;done)
   | (split at hs)
   | (obtain ⟨_,_,hs⟩:=Option.bind_eq_some_iff.1 hs)
def typesOk (P:Program):Bool:=(List.range P.types.size).all fun t=>match P.underlying t with
 | some (.struct fs)=>fs.toList.all fun f=>(P.info? f.type).isSome
 | some (.array _ e)=>(P.info? e).isSome
 | some (.slice e)=>(P.info? e).isSome
 | _=>true
theorem made_row {T:Tables} {t:TypeId} {i:TypeInfo} (ht:¬ t < T.types.size) (h:T.info? t = some i):∃ d,Made.reckon (Made.infoAt T 99) d = some i:=by
 unfold Tables.info? at h
 rw [if_neg ht] at h
 unfold Made.depth at h
 unfold Made.infoAt at h
 rw [if_neg ht] at h
 simp only [Option.bind_eq_some_iff] at h
 obtain ⟨d,_,h⟩:=h
 exact ⟨d,h⟩
theorem und_made {P:Program} {t:TypeId} {d:TypeDesc} (ht:¬ t < P.types.size) (h:P.underlying t = some d):∃ i d',P.info? t = some i ∧ i.desc = d ∧ Made.reckon (Made.infoAt P.toTables 99) d' = some i:=by
 unfold Program.underlying at h
 split at h
 ·rename_i i hi
  have:=Tables.info?_beyond ht hi
  cases this
 ·rename_i i hn hi
  obtain ⟨d',hd'⟩:=made_row ht hi
  cases h
  exact ⟨i,d',hi,rfl,hd'⟩
 ·cases h
theorem reckon_slice {info:TypeId → Option TypeInfo} {d:TypeDesc} {i:TypeInfo} (h:Made.reckon info d = some i) :
  (∀ e,i.desc = .slice e → (info e).isSome = true) ∧ (∀ n e,i.desc = .array n e → (info e).isSome = true) ∧ (∀ fs,i.desc = .struct fs → ∀ f ∈ fs.toList,(info f.type).isSome = true):=by
 by_cases hs:∃ fs,d = .struct fs
 ·obtain ⟨fs,rfl⟩:=hs
  obtain ⟨gs,hg,hx⟩:=reckon_struct h
  rw [hg]
  exact ⟨fun e he=>by simp at he,fun n e he=>by simp at he,fun fs he=>by simp at he;exact he ▸ hx⟩
 ·unfold Made.reckon at h
  cases d <;> simp only [bind,Option.bind_eq_some_iff,pure,reduceCtorEq] at h
  case struct fs=>exact absurd ⟨fs,rfl⟩ hs
  all_goals
   repeat' first
    | (obtain ⟨_,_,h⟩:=h)
    | (split at h)
  all_goals try simp only [Option.bind_eq_some_iff,Option.some.injEq] at h
  all_goals try (first | (obtain ⟨_,_,rfl⟩:=h) | subst h | (exact absurd h (by simp)))
  all_goals simp only [Made.word]
  all_goals refine ⟨fun e he=>?_,fun n e he=>?_,fun fs he=>?_⟩
  all_goals simp at he
  all_goals simp_all
theorem pok_of {P:Program} (h1:typesOk P = true) (h2:P.follows .mixedOrders = true) (h3:(P.funcs.toList.all fun fn=>!(fn.body.isSome && (fn.name == "runtime.NumGoroutine"))) = true):POk P:=by
 have lt:∀ t,t < P.types.size → _:=fun t ht=>List.all_eq_true.1 h1 t (List.mem_range.2 ht)
 refine ⟨?_,?_,?_,h2,?_⟩
 ·intro t fs hu f hf
  by_cases ht:t < P.types.size
  ·have:=lt t ht
   rw [hu] at this
   exact List.all_eq_true.1 this f hf
  ·obtain ⟨i,d,hi,hd,hr⟩:=und_made ht hu
   obtain ⟨j,hj⟩:=Option.isSome_iff_exists.1 ((reckon_slice hr).2.2 fs hd f hf)
   rw [info_of_at hj];rfl
 ·intro t n e hu
  by_cases ht:t < P.types.size
  ·have:=lt t ht
   rw [hu] at this
   exact this
  ·obtain ⟨i,d,hi,hd,hr⟩:=und_made ht hu
   obtain ⟨j,hj⟩:=Option.isSome_iff_exists.1 ((reckon_slice hr).2.1 n e hd)
   rw [info_of_at hj];rfl
 ·intro t e hu
  by_cases ht:t < P.types.size
  ·have:=lt t ht
   rw [hu] at this
   exact this
  ·obtain ⟨i,d,hi,hd,hr⟩:=und_made ht hu
   obtain ⟨j,hj⟩:=Option.isSome_iff_exists.1 ((reckon_slice hr).1 e hd)
   rw [info_of_at hj];rfl
 ·intro f fn hf hb hn
  have hm:fn ∈ P.funcs.toList:=by
   have:=Array.mem_of_getElem? hf
   simpa using this
  have:=List.all_eq_true.1 h3 fn hm
  simp [hb,hn] at this
end Go.AM

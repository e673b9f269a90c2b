/- Named steps, given what they ask for; rows of parts. -/
import Derived.Test.YtlbieeajocjpeaaGreatDoorAmT
import Derived.Test.YtlbieeajocjpeaaGreatDoorAmLaw
namespace Go.AM
section
variable {P:Program} {B:Caller} {σ σ':St}
theorem cT {α:Type} {x y:α}:cond true x y = x:=by simp
theorem cF {α:Type} {x y:α}:cond false x y = y:=by simp
theorem cond_if {α:Type} {b:Bool} {x y:α}:cond b x y = if b = true then x else y:=by cases b <;> simp
@[simp] theorem xBool_b {b:Bool} {f:Bool → Out}:xBool (.bool b) f = f b:=by simp only [xBool]
@[simp] theorem xInt_i {k:IntKind} {n:Int} {f:Int → Out}:xInt k (.int k n) f = f n:=by simp [xInt]
@[simp] theorem xStr_s {s:List UInt8} {f:List UInt8 → Out}:xStr (.str s) f = f s:=by simp only [xStr]
@[simp] theorem xPtr_p {a:Option (Nat × Nat)} {f:Option (Nat × Nat) → Out}:xPtr (.ptr a) f = f a:=by simp only [xPtr]
@[simp] theorem xSl_s {a:Option (Nat × Nat)} {n:Nat} {c:Option Nat} {z:Nat} {f:Option (Nat × Nat) → Nat → Option Nat → Nat → Out}:xSl (.slice a n c z) f = f a n c z:=by simp only [xSl]
@[simp] theorem xAgg_a {cs:List AV} {f:List AV → Out}:xAgg (.agg cs) f = f cs:=by simp only [xAgg]
@[simp] theorem xTup_t {cs:List AV} {f:List AV → Out}:xTup (.tuple cs) f = f cs:=by simp only [xTup]
@[simp] theorem unC_c {x:AV} {cs:List AV} {f:AV → List AV → Out}:unC (x :: cs) f = f x cs:=by simp only [unC]
@[simp] theorem nlC_n {x:Out}:nlC [] x = x:=by simp only [nlC]
@[simp] theorem derefK_s {b o:Nat} {f:Nat → Nat → Out}:derefK (some (b,o)) f = f b o:=by simp only [derefK]
@[simp] theorem szK_s {a:Nat} {x:Out}:szK a a x = x:=by simp [szK]
theorem callT_ok {n:Nat} {f:FuncId} {args:List AV} {v:AV} {k:AV → St → Out} (h:callP P B n f args σ = some (.ret v,σ')):callT P B n f args σ k = k v σ':=by
 unfold callT callK;rw [h]
theorem callTD_ok {n:Nat} {f:FuncId} {args:List AV} {v:AV} {k:AV → St → Out} (h:callP P B n f args σ = some (.ret v,σ')):callTD P B n f args σ k = k v σ':=by
 unfold callTD callK;rw [h]
theorem callP_lib {n:Nat} {f:FuncId} {args:List AV} {r:Res × St} (h:B f args σ = some r):callP P B (n + 1) f args σ = some r:=by
 unfold callP;rw [h]
theorem idxK_ok {i:Int} {n:Nat} {x:Out} (h:0 ≤ i ∧ i < n):idxK i n x = x:=if_pos h
theorem catK_ok {a b:List UInt8} {f:List UInt8 → Out} (h:a.length + b.length ≤ 4611686018427387904):catK a b f = f (a ++ b):=if_pos h
theorem cutK_ok {s:List UInt8} {l h:Int} {f:List UInt8 → Out} (hc:0 ≤ l ∧ l ≤ h ∧ h ≤ s.length):cutK s l h f = f ((s.take h.toNat).drop l.toNat):=if_pos hc
theorem byteK_ok {s:List UInt8} {i:Int} {b:UInt8} {f:UInt8 → Out} (h0:0 ≤ i) (h:s[i.toNat]? = some b):byteK s i f = f b:=by
 unfold byteK;rw [if_pos h0,h]
theorem wellK_ok {t:TypeId} {ys:List AV} {x:Out} (h1:ys.length = szOf P t) (h2:(P.info? t).isSome = true) (h3:ys.all AV.one = true):wellK P t ys x = x:=by
 unfold wellK;rw [if_pos ⟨h1,h2⟩,if_pos h3]
theorem partK_s {t:TypeId} {cs:List AV} {off:Nat} {v:AV} {f:AV → Out} (ha:aggO P t = some false) (h:cs[off]? = some v):partK P t cs off f = f v:=by
 unfold partK;rw [ha];simp only;rw [h]
theorem partK_a {t:TypeId} {cs:List AV} {off s:Nat} {f:AV → Out} (ha:aggO P t = some true) (hs:szOf P t = s) (h:off + s ≤ cs.length):partK P t cs off f = f (.agg ((cs.drop off).take s)):=by
 subst hs;unfold partK;rw [ha];simp only;rw [if_pos h]
end
section
variable {α:Type} {enc:α → List AV} {s:Nat}
theorem setMany_append_left:∀ (ys xs zs:List AV) (off:Nat),off + ys.length ≤ xs.length → setMany (xs ++ zs) off ys = setMany xs off ys ++ zs
 | [],xs,zs,off,_=>rfl
 | y :: ys,xs,zs,off,h=>by
  simp only [List.length_cons] at h
  simp only [setMany]
  rw [List.set_append_left _ _ (by omega)]
  exact setMany_append_left ys _ zs (off + 1) (by simp;omega)
theorem setMany_append_right:∀ (ys xs zs:List AV) (off:Nat),setMany (xs ++ zs) (xs.length + off) ys = xs ++ setMany zs off ys
 | [],xs,zs,off=>rfl
 | y :: ys,xs,zs,off=>by
  simp only [setMany]
  rw [List.set_append_right _ _ (by omega),Nat.add_sub_cancel_left,Nat.add_assoc]
  exact setMany_append_right ys xs _ (off + 1)
theorem flat_length (hs:∀ a,(enc a).length = s):∀ l:List α,(l.flatMap enc).length = l.length * s
 | []=>by simp
 | a :: l=>by rw [List.flatMap_cons,List.length_append,hs,flat_length hs l,List.length_cons,Nat.add_mul,Nat.one_mul,Nat.add_comm]
theorem flat_get (hs:∀ a,(enc a).length = s):∀ {l:List α} {i j:Nat} {a:α},l[i]? = some a → j < s → (l.flatMap enc)[i * s + j]? = (enc a)[j]?
 | b :: l,0,j,a,h,hj=>by
  simp at h;subst h
  rw [List.flatMap_cons,Nat.zero_mul,Nat.zero_add,List.getElem?_append_left (by rw [hs];exact hj)]
 | b :: l,i + 1,j,a,h,hj=>by
  simp at h
  have:=flat_get hs h hj
  rw [List.flatMap_cons,List.getElem?_append_right (by rw [hs,Nat.add_mul];omega),← this,hs]
  congr 1
  rw [Nat.add_mul];omega
theorem flat_part (hs:∀ a,(enc a).length = s):∀ {l:List α} {i:Nat} {a:α},l[i]? = some a → ((l.flatMap enc).drop (i * s)).take s = enc a
 | b :: l,0,a,h=>by
  simp at h;subst h
  rw [Nat.zero_mul,List.drop_zero,List.flatMap_cons,List.take_append_of_le_length (by rw [hs];exact Nat.le_refl _),← hs b,List.take_length]
 | b :: l,i + 1,a,h=>by
  simp at h
  rw [List.flatMap_cons,Nat.add_mul,Nat.one_mul,Nat.add_comm (i * s) s]
  have e:(enc b ++ l.flatMap enc).drop (s + i * s) = (l.flatMap enc).drop (i * s):=by
   rw [← hs b,List.drop_length_add_append]
  rw [e,flat_part hs h]
variable {P:Program}
theorem partK_part (hs:∀ a,(enc a).length = s) {t:TypeId} {l:List α} {i off:Nat} {a:α} {f:AV → Out} (ha:aggO P t = some true) (hz:szOf P t = s) (h:l[i]? = some a) (ho:off = i * s) :
  partK P t (l.flatMap enc) off f = f (.agg (enc a)):=by
 subst ho
 have hi:=(List.getElem?_eq_some_iff.1 h).1
 rw [partK_a ha hz (by rw [flat_length hs,← Nat.succ_mul];exact Nat.mul_le_mul_right _ hi),flat_part hs h]
theorem setMany_all:∀ (ys cs:List AV),ys.length = cs.length → setMany cs 0 ys = ys:=by
 have key:∀ (ys pre cs:List AV),ys.length = cs.length → setMany (pre ++ cs) pre.length ys = pre ++ ys:=by
  intro ys
  induction ys with
  | nil=>intro pre cs h;cases cs with | nil=>rfl | cons _ _=>simp at h
  | cons y ys ih=>
   intro pre cs h
   cases cs with
   | nil=>simp at h
   | cons c cs=>
    simp only [setMany]
    have e:(pre ++ c :: cs).set pre.length y = (pre ++ [y]) ++ cs:=by simp
    rw [e]
    have:=ih (pre ++ [y]) cs (by simpa using h)
    rw [List.length_append,List.length_singleton] at this
    rw [this];simp
 intro ys cs h
 exact key ys [] cs h
end
theorem wrap64 {x:Int} (h1:-9223372036854775808 ≤ x) (h2:x < 9223372036854775808):IntKind.wrap .i64 x = x:=by
 simp only [IntKind.wrap,IntKind.bits,IntKind.signed]
 have e1:(2:Int) ^ 64 = 18446744073709551616:=rfl
 have e2:(2:Int) ^ (64 - 1) = 9223372036854775808:=rfl
 simp only [Bool.true_and,decide_eq_true_eq,e1,e2]
 split <;> omega
end Go.AM
namespace Go.AM
open Go.RowKit
section
variable {P:Program} {μ:Emb} {σ:St} {w w':World}
theorem Below.fr (hb:Below w.heap.size w w'):Fr μ w w':=⟨hb.os,hb.tape,hb.output,hb.size,fun k hk _=>hb.block k hk⟩
theorem R.below (h:R μ σ w) (hb:Below w.heap.size w w'):R μ σ w':=
 ⟨h.dom,fun b e hm=>Nat.lt_of_lt_of_le (h.lt b e hm) hb.size,fun b o hs=>let ⟨e,he,ho⟩:=h.obj b o hs;⟨e,he,ho.carry (hb.block _ (h.lt b e he))⟩,h.inj⟩
theorem R.more (h:R μ σ w) (hb:Below w.heap.size w w') {o:AObj} {e:Ent} (h1:w.heap.size ≤ e.blk) (h2:e.blk < w'.heap.size) (ho:ORel (μ.push σ.length e) w' o e) :
  R (μ.push σ.length e) (σ ++ [o]) w' ∧ Ext μ (μ.push σ.length e) w:=by
 have hf:=h.fresh
 have hle:=Emb.push_le (e:=e) hf
 have old (b:Nat) (hb:b ≠ σ.length):μ.push σ.length e b = μ b:=by unfold Emb.push;rw [if_neg hb]
 have new:μ.push σ.length e σ.length = some e:=by unfold Emb.push;rw [if_pos rfl]
 refine ⟨⟨fun b hb=>?_,fun b e' hb'=>?_,fun b o' hb'=>?_,fun b1 b2 o1 o2 e1 e2 h1' h2' he1 he2 hl1 hl2 hw1 hbk=>?_⟩,⟨hle,fun b e' hb' hn=>?_⟩⟩
 ·by_cases hbn:b = σ.length
  ·subst hbn;simp
  ·rw [old b hbn] at hb;have:=h.dom b hb;simp;omega
 ·by_cases hbn:b = σ.length
  ·subst hbn;rw [new] at hb';cases hb';exact h2
  ·rw [old b hbn] at hb';have:=h.lt b e' hb';have:=hb.size;omega
 ·by_cases hbn:b = σ.length
  ·subst hbn
   rw [List.getElem?_append_right (Nat.le_refl _)] at hb'
   simp at hb'
   subst hb'
   exact ⟨e,new,ho⟩
  ·have hlt:b < σ.length:=by
    rcases Nat.lt_or_ge b σ.length with h' | h'
    ·exact h'
    ·rw [List.getElem?_eq_none (by simp;omega)] at hb';cases hb'
   rw [List.getElem?_append_left hlt] at hb'
   obtain ⟨e',he',ho'⟩:=h.obj b o' hb'
   exact ⟨e',hle _ _ he',(ho'.mono hle).carry (hb.block _ (h.lt b e' he'))⟩
 ·have side (b:Nat) (o':AObj) (e':Ent) (hb':(σ ++ [o])[b]? = some o') (he':μ.push σ.length e b = some e'):(b = σ.length ∧ w.heap.size ≤ e'.blk) ∨ (b < σ.length ∧ σ[b]? = some o' ∧ μ b = some e' ∧ e'.blk < w.heap.size):=by
   by_cases hbn:b = σ.length
   ·left;subst hbn;rw [new] at he';cases he';exact ⟨rfl,h1⟩
   ·right
    have hlt:b < σ.length:=by
     rcases Nat.lt_or_ge b σ.length with h' | h'
     ·exact h'
     ·rw [List.getElem?_eq_none (by simp;omega)] at hb';cases hb'
    rw [List.getElem?_append_left hlt] at hb'
    rw [old b hbn] at he'
    exact ⟨hlt,hb',he',h.lt b e' he'⟩
  rcases side b1 o1 e1 h1' he1 with ⟨hb1,hk1⟩ | ⟨hb1,hs1,hm1,hk1⟩ <;> rcases side b2 o2 e2 h2' he2 with ⟨hb2,hk2⟩ | ⟨hb2,hs2,hm2,hk2⟩
  ·omega
  ·omega
  ·omega
  ·exact h.inj b1 b2 o1 o2 e1 e2 hs1 hs2 hm1 hm2 hl1 hl2 hw1 hbk
 ·left
  by_cases hbn:b = σ.length
  ·subst hbn;rw [new] at hb';cases hb';exact h1
  ·rw [old b hbn,hn] at hb';cases hb'
theorem end_pure (h:R μ σ w) (hb:Below w.heap.size w w') {x:AV} {v:Value} (hv:VRel μ x v):EndR μ w (.ret x,σ) (.returned v) w':=
 ⟨μ,h.below hb,Ext.refl _ _,Below.fr hb,v,rfl,hv⟩
theorem end_more (h:R μ σ w) (hb:Below w.heap.size w w') {o:AObj} {e:Ent} (h1:w.heap.size ≤ e.blk) (h2:e.blk < w'.heap.size) (ho:ORel (μ.push σ.length e) w' o e) {x:AV} {v:Value} (hv:VRel (μ.push σ.length e) x v) :
  EndR μ w (.ret x,σ ++ [o]) (.returned v) w':=
 let ⟨hR,hE⟩:=h.more hb h1 h2 ho;⟨_,hR,hE,Below.fr hb,v,rfl,hv⟩
theorem R.knows (h:R μ σ w) {b g:Nat} {p:Obj → Prop} (hs:σ[b]? = some (.know g p)):∃ ob,w.heap[g]? = some ob ∧ p ob:=by
 obtain ⟨e,_,ob,h1,h2,h3⟩:=h.obj b _ hs
 subst h3;exact ⟨ob,h1,h2⟩
theorem R.know (h:R μ σ w) (hr:μ.ro) {g:Nat} {p:Obj → Prop} {ob:Obj} (hg:w.heap[g]? = some ob) (hp:p ob) :
  R (μ.push σ.length ⟨g,0,0,false⟩) (σ ++ [.know g p]) w ∧ (μ.push σ.length ⟨g,0,0,false⟩).ro:=by
 have hf:=h.fresh
 have hle:=Emb.push_le (e:=(⟨g,0,0,false⟩:Ent)) hf
 have old (b:Nat) (hb:b ≠ σ.length):μ.push σ.length ⟨g,0,0,false⟩ b = μ b:=by unfold Emb.push;rw [if_neg hb]
 have new:μ.push σ.length ⟨g,0,0,false⟩ σ.length = some ⟨g,0,0,false⟩:=by unfold Emb.push;rw [if_pos rfl]
 have hblk:g < w.heap.size:=(Array.getElem?_eq_some_iff.1 hg).1
 have hro:(μ.push σ.length ⟨g,0,0,false⟩).ro:=by
  intro b e' hb
  by_cases hbn:b = σ.length
  ·subst hbn;rw [new] at hb;cases hb;rfl
  ·rw [old b hbn] at hb;exact hr b e' hb
 refine ⟨⟨fun b hb=>?_,fun b e' hb=>?_,fun b o' hb=>?_,fun b1 b2 o1 o2 e1 e2 h1 h2 he1 he2 hl1 hl2 hw1 hbk=>?_⟩,hro⟩
 ·by_cases hbn:b = σ.length
  ·subst hbn;simp
  ·rw [old b hbn] at hb;have:=h.dom b hb;simp;omega
 ·by_cases hbn:b = σ.length
  ·subst hbn;rw [new] at hb;cases hb;exact hblk
  ·rw [old b hbn] at hb;exact h.lt b e' hb
 ·by_cases hbn:b = σ.length
  ·subst hbn
   rw [List.getElem?_append_right (Nat.le_refl _)] at hb
   simp at hb
   subst hb
   exact ⟨_,new,ob,hg,hp,rfl⟩
  ·have hlt:b < σ.length:=by
    rcases Nat.lt_or_ge b σ.length with h' | h'
    ·exact h'
    ·rw [List.getElem?_eq_none (by simp;omega)] at hb;cases hb
   rw [List.getElem?_append_left hlt] at hb
   obtain ⟨e',he',ho'⟩:=h.obj b o' hb
   exact ⟨e',hle _ _ he',ho'.mono hle⟩
 ·have:=hro b1 e1 he1
  rw [this] at hw1;cases hw1
end
end Go.AM

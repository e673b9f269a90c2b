/- What is printed of a tree. -/
import Derived.Test.YtlbieeajocjpeaaGreatDoorAst
import Derived.Lib.ItoaNum
import Derived.Test.YtlbieeajocjpeaaGreatDoorWk10
set_option linter.unusedSimpArgs false
set_option linter.unusedVariables false
namespace Go.Front
def putS (s:List UInt8):List UInt8:=s ++ [if s = [59] ∨ s = [123] ∨ s = [125] then 10 else 32]
def opNames:List (List UInt8):=[45] :: [33] :: [126] :: ops
def opName (op:Nat):List UInt8:=opNames.getD (op - 1) []
def escS:List UInt8 → List UInt8
 | []=>[]
 | c :: r=>(if c = 10 then [92,110] else if c = 9 then [92,116] else if c = 92 then [92,92] else if c = 34 then [92,34] else [c]) ++ escS r
def quoteS (s:List UInt8):List UInt8:=34 :: escS s ++ [34]
def brack (is:Bool) (s:List UInt8):List UInt8:=if is then putS [40] ++ s ++ putS [41] else s
def joinC:List (List UInt8) → List UInt8
 | []=>[]
 | x :: r=>x ++ r.flatMap fun y=>putS [44] ++ y
mutual
def Ex.pr:Ex → List UInt8
 | .num _ n=>putS (Lib.itoa n)
 | .text _ s=>putS (quoteS s)
 | .name _ s=>putS s
 | .call _ s l=>putS s ++ putS [40] ++ joinC (Ex.prs l) ++ putS [41]
 | .index x i=>brack x.isUB x.pr ++ putS [91] ++ i.pr ++ putS [93]
 | .un _ op x=>putS (opName op) ++ brack x.isBin x.pr
 | .bin op x y=>brack (decide (x.lv < level op)) x.pr ++ putS (opName op) ++ brack (decide (y.lv ≤ level op)) y.pr
def Ex.prs:List Ex → List (List UInt8)
 | []=>[]
 | x :: l=>x.pr :: Ex.prs l
end
theorem Ex.prs_map:∀ l:List Ex,Ex.prs l = l.map Ex.pr
 | []=>rfl
 | x :: l=>by simp [Ex.prs,Ex.prs_map l]
def parS (ty:Int) (s:List UInt8):List UInt8:=
 if ty = 1 then putS [105,110,116] ++ putS s else if ty = 3 then putS [105,110,116] ++ putS [42] ++ putS s else putS [99,104,97,114] ++ putS [42] ++ putS s
mutual
def Sm.pr:Sm → List UInt8
 | .expr _ x=>x.pr ++ putS [59]
 | .set x y=>x.pr ++ putS [61] ++ y.pr ++ putS [59]
 | .if1 _ c a=>putS [105,102] ++ putS [40] ++ c.pr ++ putS [41] ++ a.pr
 | .if2 _ c a b=>putS [105,102] ++ putS [40] ++ c.pr ++ putS [41] ++ a.pr ++ putS [101,108,115,101] ++ b.pr
 | .while _ c a=>putS [119,104,105,108,101] ++ putS [40] ++ c.pr ++ putS [41] ++ a.pr
 | .ret _ x=>putS [114,101,116,117,114,110] ++ x.pr ++ putS [59]
 | .brk _=>putS [98,114,101,97,107] ++ putS [59]
 | .next _=>putS [99,111,110,116,105,110,117,101] ++ putS [59]
 | .block _ l=>putS [123] ++ Sm.prs l ++ putS [125]
 | .var _ s ty=>parS ty s ++ putS [59]
 | .vari _ s ty x=>parS ty s ++ putS [61] ++ x.pr ++ putS [59]
def Sm.prs:List Sm → List UInt8
 | []=>[]
 | x :: l=>x.pr ++ Sm.prs l
end
mutual
def Ex.hasText:Ex → Bool
 | .num _ _=>false
 | .text _ _=>true
 | .name _ _=>false
 | .call _ _ l=>Ex.haveText l
 | .index x i=>x.hasText || i.hasText
 | .un _ _ x=>x.hasText
 | .bin _ x y=>x.hasText || y.hasText
def Ex.haveText:List Ex → Bool
 | []=>false
 | x :: l=>x.hasText || Ex.haveText l
end
theorem Ex.haveText_mem:∀ {l:List Ex} {x:Ex},x ∈ l → x.hasText = true → Ex.haveText l = true
 | y :: l,x,h,hx=>by
  cases h with
  | head=>simp [Ex.haveText,hx]
  | tail _ h=>simp [Ex.haveText,Ex.haveText_mem h hx]
mutual
def Sm.hasText:Sm → Bool
 | .expr _ x=>x.hasText
 | .set x y=>x.hasText || y.hasText
 | .if1 _ c a=>c.hasText || a.hasText
 | .if2 _ c a b=>c.hasText || a.hasText || b.hasText
 | .while _ c a=>c.hasText || a.hasText
 | .ret _ x=>x.hasText
 | .brk _=>false
 | .next _=>false
 | .block _ l=>Sm.haveText l
 | .var _ _ _=>false
 | .vari _ _ _ x=>x.hasText
def Sm.haveText:List Sm → Bool
 | []=>false
 | x :: l=>x.hasText || Sm.haveText l
end
def Dc.hasText:Dc → Bool
 | .fn _ _ _ _ l=>Sm.haveText l
 | _=>false
def Dc.pr:Dc → List UInt8
 | .var _ s=>putS [105,110,116] ++ putS s ++ putS [59]
 | .array _ s ty n=>putS (if ty = 2 then [99,104,97,114] else [105,110,116]) ++ putS s ++ putS [91] ++ putS (Lib.itoa n) ++ putS [93] ++ putS [59]
 | .fn _ s ps _ l=>putS [105,110,116] ++ putS s ++ putS [40] ++ joinC (ps.map fun p=>parS p.2.2 p.2.1) ++ putS [41] ++ (putS [123] ++ Sm.prs l ++ putS [125])
def allPr (l:List Dc):List UInt8:=l.flatMap Dc.pr
end Go.Front
set_option linter.unusedSimpArgs false
set_option linter.unusedVariables false
namespace Go.Front
open Go.AM Go.Proofs
theorem lies57:liesAt Tryz.prog Tryz.prog.depth 57 (3 / Tryz.prog.cellsOf 57) 1 55 1 = true:=by kernel_rfl
structure Pw (σ0:St) (fr:Fr) (σ:St) (w:Nat) (tv:AV) (l:List UInt8):Prop where
 kn:Kn σ0
 base:∀ b o,σ0[b]? = some o → fr b = some o
 keep:∀ b o,fr b = some o → σ[b]? = some o
 wf:fr w = none
 bu:(l = [] ∧ ∃ a z,(a = none ∨ a = some (w,1)) ∧ σ[w]? = some (.cells [tv,.ptr a,.slice none 0 (some 0) z] (.rw (.box 57)))) ∨
  ∃ g,l ≠ [] ∧ σ[w]? = some (.cells [tv,.ptr (some (w,1)),.slice (some (g,0)) l.length none 1] (.rw (.box 57))) ∧ σ[g]? = some (.cells (bytesAV l) (.rw (.row 5))) ∧ g ≠ w ∧ fr g = none
section
variable {σ0 σ σ':St} {fr:Fr} {w:Nat} {tv:AV} {l:List UInt8} {Q:Post}
theorem Pw.up (h:Pw σ0 fr σ w tv l):Up σ0 σ:=by
 have hsame:∀ x,x < σ0.length → σ[x]? = σ0[x]?:=fun x hx=>by
  obtain ⟨o,ho⟩:∃ o,σ0[x]? = some o:=⟨σ0[x],List.getElem?_eq_getElem hx⟩
  rw [ho];exact h.keep x o (h.base x o ho)
 refine ⟨?_,hsame⟩
 rcases Nat.lt_or_ge σ.length σ0.length with hl | hl
 ·have:=hsame σ.length hl
  rw [List.getElem?_eq_none (Nat.le_refl _),List.getElem?_eq_getElem hl] at this;cases this
 ·exact hl
theorem Pw.lt (h:Pw σ0 fr σ w tv l):w < σ.length:=by
 rcases h.bu with ⟨_,a,z,_,h⟩ | ⟨g,_,h,_⟩ <;> exact lt_of h
theorem Pw.fnone (h:Pw σ0 fr σ w tv l) {b:Nat} (hb:σ.length ≤ b):fr b = none:=by
 cases hf:fr b with
 | none=>rfl
 | some o=>have:=lt_of (h.keep b o hf);omega
theorem Pw.newBlock (h:Pw σ0 fr σ w tv l) (o:AObj):Pw σ0 (ins fr σ.length o) (σ ++ [o]) w tv l:=by
 have hf:=h.fnone (Nat.le_refl σ.length)
 have hw:=h.lt
 refine ⟨h.kn,fun b y hb=>ins_le hf (h.base b y hb),fun b y hb=>?_,by rw [ins_ne (by omega)];exact h.wf,?_⟩
 ·by_cases e:b = σ.length
  ·subst e;rw [ins_self] at hb;cases hb
   rw [List.getElem?_append_right (Nat.le_refl _)];simp
  ·rw [ins_ne e] at hb
   have:=h.keep b y hb
   rw [List.getElem?_append_left (lt_of this)];exact this
 ·rcases h.bu with ⟨h1,a,z,h2,h3⟩ | ⟨g,h1,h2,h3,h4,h5⟩
  ·exact .inl ⟨h1,a,z,h2,by rw [List.getElem?_append_left hw];exact h3⟩
  ·exact .inr ⟨g,h1,by rw [List.getElem?_append_left hw];exact h2,by rw [List.getElem?_append_left (lt_of h3)];exact h3,h4,by rw [ins_ne (by have:=lt_of h3;omega)];exact h5⟩
theorem Pw.weak {b:Nat} {o:AObj} (h:Pw σ0 (ins fr b o) σ w tv l) (hf:fr b = none) (hb:∀ b o,σ0[b]? = some o → fr b = some o):Pw σ0 fr σ w tv l:=by
 refine ⟨h.kn,hb,fun x y hx=>h.keep x y (ins_le hf hx),ins_ge hf h.wf,?_⟩
 rcases h.bu with h1 | ⟨g,h1,h2,h3,h4,h5⟩
 ·exact .inl h1
 ·exact .inr ⟨g,h1,h2,h3,h4,ins_ge hf h5⟩
theorem Pw.grow (h:Pw σ0 fr σ w tv l) (hu:Up σ σ'):Pw σ0 fr σ' w tv l:=by
 have hw:=h.lt
 refine ⟨h.kn,h.base,fun b o hb=>?_,h.wf,?_⟩
 ·have:=h.keep b o hb
  rw [hu.same b (lt_of this)];exact this
 ·rcases h.bu with ⟨h1,a,z,h2,h3⟩ | ⟨g,h1,h2,h3,h4,h5⟩
  ·exact .inl ⟨h1,a,z,h2,by rw [hu.same w hw];exact h3⟩
  ·exact .inr ⟨g,h1,by rw [hu.same w hw];exact h2,by rw [hu.same g (lt_of h3)];exact h3,h4,h5⟩
theorem Pw.tree (h:Pw σ0 fr σ w tv l) (f:AV → Out):ldK Tryz.prog 24 σ w (0 + 0) f = f tv:=by
 rcases h.bu with ⟨_,a,z,_,h⟩ | ⟨g,_,h,_⟩ <;> exact ldc (by unfold cellsAt;rw [h]) agg24 rfl
def PwQ (σ0:St) (fr:Fr) (w:Nat) (tv:AV) (l:List UInt8):Post:=fun r σ'=>r = .ret (.tuple []) ∧ Pw σ0 fr σ' w tv l
theorem copy_fn {a:Option (Nat × Nat)} {v:AV} (h:σ[w]? = some (.cells [tv,.ptr a,v] (.rw (.box 57)))) (ha:a = none ∨ a = some (w,1)) :
  Fw Tryz.prog Lb 76 [.ptr (some (w,1))] σ fun r σ'=>r = .ret (.tuple []) ∧ σ' = σ.set w (.cells [tv,.ptr (some (w,1)),v] (.rw (.box 57))):=by
 rcases ha with rfl | rfl
 ·refine Fw.lib (r:=.ret (.tuple [])) (σ':=σ.set w (.cells [tv,.ptr (some (w,1)),v] (.rw (.box 57)))) ?_ ⟨rfl,rfl⟩
  simp only [Lb,lbCheck,h,List.getElem?_cons_succ,List.getElem?_cons_zero]
  exact if_pos lies57
 ·refine Fw.lib (r:=.ret (.tuple [])) (σ':=σ) ?_ ⟨rfl,(set_same h).symm⟩
  simp only [Lb,lbCheck,h,List.getElem?_cons_succ,List.getElem?_cons_zero,if_true]
theorem bytesAV_len {s:List UInt8}:(bytesAV s).length = s.length:=by simp [bytesAV]
theorem bytesAV_app {s t:List UInt8}:bytesAV (s ++ t) = bytesAV s ++ bytesAV t:=by simp [bytesAV]
theorem Pw.write {n z:Nat} {a:Option (Nat × Nat)} {c:Option Nat} {s:List UInt8} {K:Fu → St → Out} (h:Pw σ0 fr σ w tv l) (hl:l.length + s.length ≤ 1000000000)
  (hc:∃ v,σ[w]? = some (.cells [tv,.ptr (some (w,1)),v] (.rw (.box 57))) ∧ v = .slice a n c z)
  (hk:∀ σ',Pw σ0 fr σ' w tv (l ++ s) → Wp Q fun u=>K u σ') :
  Wp Q fun u=>appK σ 5 1 1 a n z s.length (bytesAV s) fun a12 n13 c14 σ15=>stK σ15 w (1 + 1) [.slice a12 n13 c14 1] fun σ18=>K u σ18:=by
 obtain ⟨v,hv,rfl⟩:=hc
 have hw:=h.lt
 have st3 {τ:St} {y x:AV} {k:St → Out} (hx:τ[w]? = some (.cells [tv,.ptr (some (w,1)),x] (.rw (.box 57)))):stK τ w (1 + 1) [y] k = k (τ.set w (.cells [tv,.ptr (some (w,1)),y] (.rw (.box 57)))):=by
  unfold stK;rw [hx];simp only;rw [if_pos (by simp)];rfl
 rcases h.bu with ⟨h1,a',z',h2,h3⟩ | ⟨g,h1,h2,h3,h4,h5⟩
 ·rw [hv] at h3
  cases h3
  subst h1
  cases s with
  | nil=>
   refine Wp.appN ?_
   simp only [st3 hv]
   refine hk _ ⟨h.kn,h.base,fun b o hb=>?_,h.wf,.inl ⟨rfl,some (w,1),1,.inr rfl,List.getElem?_set_self hw⟩⟩
   rw [List.getElem?_set_ne (fun e=>by subst e;rw [h.wf] at hb;cases hb)];exact h.keep b o hb
  | cons x s=>
   refine Wp.app0 (by simp) (by simp only [List.length_nil,List.length_cons] at hl ⊢;omega) ?_
   have hv':(σ ++ [AObj.cells (bytesAV (x :: s)) (.rw (.row 5))])[w]? = some (.cells [tv,.ptr (some (w,1)),.slice none 0 (some 0) z] (.rw (.box 57))):=by rw [List.getElem?_append_left hw];exact hv
   simp only [st3 hv']
   refine hk _ ⟨h.kn,h.base,fun b o hb=>?_,h.wf,.inr ⟨σ.length,by simp,by rw [List.getElem?_set_self (by simp;omega)];rfl,?_,by omega,h.fnone (Nat.le_refl _)⟩⟩
   ·rw [List.getElem?_set_ne (fun e=>by subst e;rw [h.wf] at hb;cases hb),List.getElem?_append_left (lt_of (h.keep b o hb))];exact h.keep b o hb
   ·rw [List.getElem?_set_ne (by omega),List.getElem?_append_right (Nat.le_refl _)];simp
 ·rw [hv] at h2
  cases h2
  have hg:=lt_of h3
  refine Wp.app1 h3 (by rw [bytesAV_len];omega) (by omega) ?_
  have hv':(σ.set g .dead ++ [AObj.cells (((bytesAV l).drop 0).take (l.length * 1) ++ bytesAV s) (.rw (joinW (.row 5) 5))])[w]? = some (.cells [tv,.ptr (some (w,1)),.slice (some (g,0)) l.length none 1] (.rw (.box 57))):=by
   rw [List.getElem?_append_left (by simpa using hw),List.getElem?_set_ne h4];exact hv
  simp only [st3 hv']
  refine hk _ ⟨h.kn,h.base,fun b o hb=>?_,h.wf,.inr ⟨σ.length,by simp [h1],by rw [List.getElem?_set_self (by simp;omega)];simp,?_,by omega,h.fnone (Nat.le_refl _)⟩⟩
  ·have hne:g ≠ b:=fun e=>by subst e;rw [h5] at hb;cases hb
   rw [List.getElem?_set_ne (fun e=>by subst e;rw [h.wf] at hb;cases hb),List.getElem?_append_left (by simpa using lt_of (h.keep b o hb)),List.getElem?_set_ne hne];exact h.keep b o hb
  ·rw [List.getElem?_set_ne (by omega),List.getElem?_append_right (by simp)]
   simp only [List.length_set,Nat.sub_self,List.getElem?_cons_zero]
   have e:((bytesAV l).drop 0).take (l.length * 1) = bytesAV l:=by rw [List.drop_zero,Nat.mul_one,← bytesAV_len,List.take_length]
   rw [e,← bytesAV_app];rfl
theorem Pw.checked (h:Pw σ0 fr σ w tv l):∃ a n c z a0,σ[w]? = some (.cells [tv,.ptr a0,.slice a n c z] (.rw (.box 57))) ∧ (a0 = none ∨ a0 = some (w,1)) ∧
  (σ.set w (.cells [tv,.ptr (some (w,1)),.slice a n c z] (.rw (.box 57))))[w]? = some (.cells [tv,.ptr (some (w,1)),.slice a n c z] (.rw (.box 57))) ∧ Pw σ0 fr (σ.set w (.cells [tv,.ptr (some (w,1)),.slice a n c z] (.rw (.box 57)))) w tv l:=by
 have hw:=h.lt
 have hk:∀ {x:AObj} b o,fr b = some o → (σ.set w x)[b]? = some o:=fun b o hb=>by
  rw [List.getElem?_set_ne (fun e=>by subst e;rw [h.wf] at hb;cases hb)];exact h.keep b o hb
 rcases h.bu with ⟨h1,a',z',h2,h3⟩ | ⟨g,h1,h2,h3,h4,h5⟩
 ·exact ⟨_,_,_,_,_,h3,h2,List.getElem?_set_self hw,h.kn,h.base,hk,h.wf,.inl ⟨h1,some (w,1),z',.inr rfl,List.getElem?_set_self hw⟩⟩
 ·exact ⟨_,_,_,_,_,h2,.inr rfl,List.getElem?_set_self hw,h.kn,h.base,hk,h.wf,.inr ⟨g,h1,List.getElem?_set_self hw,by rw [List.getElem?_set_ne (Ne.symm h4)];exact h3,h4,h5⟩⟩
theorem wstr_fn {s:List UInt8} (h:Pw σ0 fr σ w tv l) (hl:l.length + s.length ≤ 1000000000):Fw Tryz.prog Lb 64 [.ptr (some (w,1)),.str s] σ fun r σ'=>r = .ret (.tuple [.int .i64 (s.length:Int),.nilIface]) ∧ Pw σ0 fr σ' w tv (l ++ s):=by
 refine Fw.enter (fun _=>f64_e) ?_
 simp only [f64_t]
 obtain ⟨a,n,c,z,a0,h1,h2,h3,h4⟩:=h.checked
 refine Wp.call (copy_fn h1 h2) (fun v σ' hv=>?_) fun v σ' hv=>by cases hv.1
 obtain ⟨hv,rfl⟩:=hv
 have hld (f:AV → Out):ldK Tryz.prog 53 (σ.set w (.cells [tv,.ptr (some (w,1)),.slice a n c z] (.rw (.box 57)))) w (1 + 1) f = f (.slice a n c z):=ldc (by unfold cellsAt;rw [h3]) agg53 rfl
 simp only [derefK_s,hld,xSl_s]
 exact h4.write hl ⟨_,h3,rfl⟩ fun σ' hp=>Wp.ret ⟨rfl,hp⟩
theorem wbyte_fn {b:UInt8} (h:Pw σ0 fr σ w tv l) (hl:l.length + 1 ≤ 1000000000):Fw Tryz.prog Lb 56 [.ptr (some (w,1)),.int .u8 b.toNat] σ fun r σ'=>r = .ret .nilIface ∧ Pw σ0 fr σ' w tv (l ++ [b]):=by
 refine Fw.enter (fun _=>f56_e) ?_
 simp only [f56_t]
 obtain ⟨a,n,c,z,a0,h1,h2,h3,h4⟩:=h.checked
 refine Wp.call (copy_fn h1 h2) (fun v σ' hv=>?_) fun v σ' hv=>by cases hv.1
 obtain ⟨hv,rfl⟩:=hv
 have hld (f:AV → Out):ldK Tryz.prog 53 (σ.set w (.cells [tv,.ptr (some (w,1)),.slice a n c z] (.rw (.box 57)))) w (1 + 1) f = f (.slice a n c z):=ldc (by unfold cellsAt;rw [h3]) agg53 rfl
 simp only [derefK_s,hld,xSl_s]
 exact h4.write (s:=[b]) hl ⟨_,h3,rfl⟩ fun σ' hp=>Wp.ret ⟨rfl,hp⟩
noncomputable abbrev L38 (n:Nat):Leaf:=pt Tryz.prog Lb 38 n
theorem put_loop {b:Nat} {c:Option Nat} {strs:List (List UInt8)} (hsl:strs.length ≤ 1000) (hb:fr b = some (.cells (strs.map .str) (.rw (.row 9)))) :
  ∀ (k i:Nat) {l:List UInt8} {σ:St},i + k = strs.length → Pw σ0 fr σ w tv l → (l ++ (strs.drop i).flatMap putS).length ≤ 1000000000 →
  Wp (PwQ σ0 fr w tv (l ++ (strs.drop i).flatMap putS)) fun u=>f38_l1 (L38 u.n) u.m1 (some (w,0)) (some (b,0)) strs.length c 1 strs.length i σ:=by
 intro k
 induction k with
 | zero=>
  intro i l σ hi h hl
  refine Wp.round1 (F:=fun n m=>f38_l1 (L38 n) m (some (w,0)) (some (b,0)) strs.length c 1 strs.length i σ) (fun n m=>f38_l1_e) ?_
  simp only [f38_l1_t]
  refine Wp.neg (by rw [decide_eq_false_iff_not];omega) (Wp.ret ⟨rfl,?_⟩)
  rw [List.drop_eq_nil_of_le (by omega)];simpa using h
 | succ k ih=>
  intro i l σ hi h hl
  obtain ⟨s,hs⟩:∃ s,strs[i]? = some s:=⟨strs[i],List.getElem?_eq_getElem (by omega)⟩
  have hc:cellsAt σ b = some (strs.map .str):=by unfold cellsAt;rw [h.keep b _ hb]
  have hw:IntKind.wrap .i64 ((i:Int) + 1) = ((i + 1:Nat):Int):=by rw [wrap64 (by omega) (by omega)];omega
  rw [drop_cons hs,List.flatMap_cons] at hl ⊢
  rw [← List.append_assoc] at hl ⊢
  have hps:(putS s).length = s.length + 1:=by simp [putS]
  have hl1:l.length + s.length + 1 ≤ 1000000000:=by simp only [List.length_append,hps] at hl;omega
  refine Wp.round1 (F:=fun n m=>f38_l1 (L38 n) m (some (w,0)) (some (b,0)) strs.length c 1 strs.length i σ) (fun n m=>f38_l1_e) ?_
  simp only [f38_l1_t,derefK_s,szK_s,ldStr hc hs,xStr_s,idxK_ok (show (0:Int) ≤ (i:Int) ∧ (i:Int) < (strs.length:Int) from ⟨by omega,by omega⟩)]
  refine Wp.pos (by rw [decide_eq_true_eq];omega) ?_
  refine Wp.call (wstr_fn (w:=w) h (by omega)) (fun v σ' hv=>?_) fun v σ' hv=>by cases hv.1
  obtain ⟨hv,h⟩:=hv
  cases hv
  simp only [xTup_t,unC_c,xInt_i,nlC_n]
  have nl (he:putS s = s ++ [10]) (hF:∀ σ',Pw σ0 fr σ' w tv (l ++ putS s) → Wp (PwQ σ0 fr w tv (l ++ putS s ++ (strs.drop (i + 1)).flatMap putS)) fun u=>f38_l1 (L38 u.n) u.m1 (some (w,0)) (some (b,0)) strs.length c 1 strs.length (i + 1:Nat) σ') :
    Wp (PwQ σ0 fr w tv (l ++ putS s ++ (strs.drop (i + 1)).flatMap putS)) fun u=>f38_j2 (L38 u.n) u.m1 (some (w,0)) (some (b,0)) strs.length c 1 strs.length i σ':=by
   refine Wp.le (F:=fun u=>f38_j2_t (L38 u.n) u.n u.m1 (some (w,0)) (some (b,0)) strs.length c 1 strs.length i σ') ?_ fun u=>f38_j2_e
   simp only [f38_j2_t,derefK_s,hw]
   refine Wp.call (wbyte_fn (b:=10) (w:=w) h (by simp;omega)) (fun v σ2 hv=>?_) fun v σ' hv=>by cases hv.1
   obtain ⟨_,h2⟩:=hv
   refine hF σ2 ?_
   rw [he,← List.append_assoc];exact h2
  have next:∀ σ',Pw σ0 fr σ' w tv (l ++ putS s) → Wp (PwQ σ0 fr w tv (l ++ putS s ++ (strs.drop (i + 1)).flatMap putS)) fun u=>f38_l1 (L38 u.n) u.m1 (some (w,0)) (some (b,0)) strs.length c 1 strs.length (i + 1:Nat) σ':=
   fun σ' hp=>ih (i + 1) (by omega) hp hl
  have p1 (h1:(s == [59]) = true):putS s = s ++ [10]:=by
   have:s = [59]:=by simpa using h1
   unfold putS;rw [if_pos (.inl this)]
  have p2 (h1:(s == [123]) = true):putS s = s ++ [10]:=by
   have:s = [123]:=by simpa using h1
   unfold putS;rw [if_pos (.inr (.inl this))]
  refine Wp.ite (fun h1=>nl (p1 h1) next) fun h1=>Wp.ite (fun h2=>nl (p2 h2) next) fun h2=>?_
  refine Wp.le (F:=fun u=>f38_j3_t (L38 u.n) u.n u.m1 (some (w,0)) (some (b,0)) strs.length c 1 strs.length i (s == [125]) σ') ?_ fun u=>f38_j3_e
  simp only [f38_j3_t,derefK_s,hw]
  refine Wp.ite (fun h3=>?_) fun h3=>?_
  ·refine Wp.call (wbyte_fn (b:=10) (w:=w) h (by simp;omega)) (fun v σ2 hv=>?_) fun v σ' hv=>by cases hv.1
   obtain ⟨_,h4⟩:=hv
   refine next σ2 ?_
   have:putS s = s ++ [10]:=by
    have:s = [125]:=by simpa using h3
    unfold putS;rw [if_pos (.inr (.inr this))]
   rw [this,← List.append_assoc];exact h4
  ·refine Wp.call (wbyte_fn (b:=32) (w:=w) h (by simp;omega)) (fun v σ2 hv=>?_) fun v σ' hv=>by cases hv.1
   obtain ⟨_,h4⟩:=hv
   refine next σ2 ?_
   have:putS s = s ++ [32]:=by
    unfold putS;rw [if_neg]
    rintro (e | e | e) <;> subst e <;> simp at h1 h2 h3
   rw [this,← List.append_assoc];exact h4
theorem put_fn {b:Nat} {c:Option Nat} {strs:List (List UInt8)} (hsl:strs.length ≤ 1000) (hb:fr b = some (.cells (strs.map .str) (.rw (.row 9)))) (h:Pw σ0 fr σ w tv l) (hl:(l ++ strs.flatMap putS).length ≤ 1000000000) :
  Fw Tryz.prog Lb 38 [.ptr (some (w,0)),.slice (some (b,0)) strs.length c 1] σ (PwQ σ0 fr w tv (l ++ strs.flatMap putS)):=by
 refine Fw.enter (fun n=>f38_e) ?_
 simp only [f38_t]
 have h0:=put_loop (c:=c) hsl hb strs.length 0 (by omega) h (by simpa using hl)
 rw [show ((0:Nat):Int) = 0 from rfl,List.drop_zero] at h0
 exact Wp.fresh1 (F:=fun n m=>f38_l1 (L38 n) m (some (w,0)) (some (b,0)) strs.length c 1 strs.length 0 σ) h0
theorem Pw.put {K:Fu → AV → St → Out} {b n:Nat} {c:Option Nat} {cs:List AV} (strs:List (List UInt8)) (h:Pw σ0 fr σ w tv l) (hb:b = σ.length) (hn:n = strs.length) (hcs:cs = strs.map .str) (hsl:strs.length ≤ 1000) (hl:(l ++ strs.flatMap putS).length ≤ 1000000000)
  (hk:∀ σ',Pw σ0 fr σ' w tv (l ++ strs.flatMap putS) → Wp Q fun u=>K u (.tuple []) σ') :
  Wp Q fun u=>callT Tryz.prog Lb u.n 38 [.ptr (some (w,0)),.slice (some (b,0)) n c 1] (σ ++ [AObj.cells cs (.rw (.row 9))]) (K u):=by
 subst hb;subst hn;subst hcs
 refine Wp.call (put_fn hsl ins_self (h.newBlock _) hl) (fun v σ' hv=>?_) fun v σ' hv=>by cases hv.1
 obtain ⟨hv,hp⟩:=hv
 cases hv
 exact hk σ' (hp.weak (h.fnone (Nat.le_refl _)) h.base)
theorem Pw.putd {K:Fu → AV → St → Out} {b n:Nat} {c:Option Nat} {cs:List AV} (strs:List (List UInt8)) (h:Pw σ0 fr σ w tv l) (hb:b = σ.length) (hn:n = strs.length) (hcs:cs = strs.map .str) (hsl:strs.length ≤ 1000) (hl:(l ++ strs.flatMap putS).length ≤ 1000000000)
  (hk:∀ σ',Pw σ0 fr σ' w tv (l ++ strs.flatMap putS) → Wp Q fun u=>K u (.tuple []) σ') :
  Wp Q fun u=>callTD Tryz.prog Lb u.n 38 [.ptr (some (w,0)),.slice (some (b,0)) n c 1] (σ ++ [AObj.cells cs (.rw (.row 9))]) (K u):=by
 subst hb;subst hn;subst hcs
 refine Wp.calld (put_fn hsl ins_self (h.newBlock _) hl) (fun v σ' hv=>?_) fun v σ' hv=>by cases hv.1
 obtain ⟨hv,hp⟩:=hv
 cases hv
 exact hk σ' (hp.weak (h.fnone (Nat.le_refl _)) h.base)
end
end Go.Front

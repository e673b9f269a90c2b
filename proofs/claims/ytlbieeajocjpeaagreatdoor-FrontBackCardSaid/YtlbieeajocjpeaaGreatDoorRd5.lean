/- The reader in the heap, and its small functions. -/
import Derived.Test.YtlbieeajocjpeaaGreatDoorPm
import Derived.Test.YtlbieeajocjpeaaGreatDoorLbOk
import Derived.Test.YtlbieeajocjpeaaGreatDoorT1
import Derived.Test.YtlbieeajocjpeaaGreatDoorT2
namespace Go.Front
open Go.AM Go.Proofs
theorem agg3:aggO Tryz.prog 3 = some false:=by kernel_rfl
theorem agg2:aggO Tryz.prog 2 = some false:=by kernel_rfl
theorem agg9:aggO Tryz.prog 9 = some false:=by kernel_rfl
theorem agg24:aggO Tryz.prog 24 = some false:=by kernel_rfl
theorem agg44:aggO Tryz.prog 44 = some true:=by kernel_rfl
theorem sz44:szOf Tryz.prog 44 = 4:=by kernel_rfl
def Tok.cells (t:Tok):List AV:=[.int .i64 t.kind,.int .i64 t.at_,.str t.text,.int .i64 t.n]
def Tok.av (t:Tok):AV:=.agg t.cells
def rc (s:List UInt8) (at_:Nat) (t:Tok) (tv:AV) (deep:Int):List AV:=
 [.str s,.int .i64 at_,.int .i64 t.kind,.int .i64 t.at_,.str t.text,.int .i64 t.n,tv,.int .i64 deep]
structure RdC (σ:St) (p:Nat) (s:List UInt8) (at_:Nat) (t:Tok) (tv:AV) (deep:Int):Prop where
 h:σ[p]? = some (.cells (rc s at_ t tv deep) (.rw (.box 46)))
section
variable {σ:St} {p:Nat} {s:List UInt8} {at_:Nat} {t:Tok} {tv:AV} {deep:Int}
theorem RdC.c (h:RdC σ p s at_ t tv deep):cellsAt σ p = some (rc s at_ t tv deep):=by unfold cellsAt;rw [h.h]
theorem ldc {b ty off:Nat} {cs:List AV} {x:AV} {f:AV → Out} (hc:cellsAt σ b = some cs) (ha:aggO Tryz.prog ty = some false) (hx:cs[off]? = some x):ldK Tryz.prog ty σ b off f = f x:=by
 unfold ldK;rw [hc];simp only;exact partK_s ha hx
theorem RdC.s_ (h:RdC σ p s at_ t tv deep) (f:AV → Out):ldK Tryz.prog 9 σ p (0 + 0) f = f (.str s):=ldc h.c agg9 rfl
theorem RdC.at__ (h:RdC σ p s at_ t tv deep) (f:AV → Out):ldK Tryz.prog 3 σ p (0 + 1) f = f (.int .i64 at_):=ldc h.c agg3 rfl
theorem RdC.kind (h:RdC σ p s at_ t tv deep) (f:AV → Out):ldK Tryz.prog 3 σ p (0 + 2 + 0) f = f (.int .i64 t.kind):=ldc h.c agg3 rfl
theorem RdC.tat (h:RdC σ p s at_ t tv deep) (f:AV → Out):ldK Tryz.prog 3 σ p (0 + 2 + 1) f = f (.int .i64 t.at_):=ldc h.c agg3 rfl
theorem RdC.text (h:RdC σ p s at_ t tv deep) (f:AV → Out):ldK Tryz.prog 9 σ p (0 + 2 + 2) f = f (.str t.text):=ldc h.c agg9 rfl
theorem RdC.nodes (h:RdC σ p s at_ t tv deep) (f:AV → Out):ldK Tryz.prog 24 σ p (0 + 6) f = f tv:=ldc h.c agg24 rfl
theorem RdC.deep_ (h:RdC σ p s at_ t tv deep) (f:AV → Out):ldK Tryz.prog 3 σ p (0 + 7) f = f (.int .i64 deep):=ldc h.c agg3 rfl
theorem RdC.tok (h:RdC σ p s at_ t tv deep) (f:AV → Out):ldK Tryz.prog 44 σ p (0 + 2) f = f t.av:=by
 unfold ldK;rw [h.c];simp only
 rw [partK_a agg44 sz44 (by simp [rc])]
 rfl
theorem lt_of {o:AObj} {b:Nat} (h:σ[b]? = some o):b < σ.length:=(List.getElem?_eq_some_iff.1 h).1
theorem RdC.lt (h:RdC σ p s at_ t tv deep):p < σ.length:=lt_of h.h
theorem RdC.stAt (h:RdC σ p s at_ t tv deep) (n:Nat) (f:St → Out):stK σ p (0 + 1) [.int .i64 n] f = f (σ.set p (.cells (rc s n t tv deep) (.rw (.box 46)))):=by
 unfold stK;rw [h.h];simp only;rw [if_pos (by simp [rc])];rfl
theorem RdC.stTok (h:RdC σ p s at_ t tv deep) (t2:Tok) (f:St → Out):stK σ p (0 + 2) t2.cells f = f (σ.set p (.cells (rc s at_ t2 tv deep) (.rw (.box 46)))):=by
 unfold stK;rw [h.h];simp only;rw [if_pos (by simp [rc,Tok.cells])];rfl
theorem RdC.stNodes (h:RdC σ p s at_ t tv deep) (v:AV) (f:St → Out):stK σ p (0 + 6) [v] f = f (σ.set p (.cells (rc s at_ t v deep) (.rw (.box 46)))):=by
 unfold stK;rw [h.h];simp only;rw [if_pos (by simp [rc])];rfl
theorem RdC.stDeep (h:RdC σ p s at_ t tv deep) (n:Int) (f:St → Out):stK σ p (0 + 7) [.int .i64 n] f = f (σ.set p (.cells (rc s at_ t tv n) (.rw (.box 46)))):=by
 unfold stK;rw [h.h];simp only;rw [if_pos (by simp [rc])];rfl
theorem RdC.put (h:RdC σ p s at_ t tv deep) {s2:List UInt8} {at2:Nat} {t2:Tok} {tv2:AV} {deep2:Int}:RdC (σ.set p (.cells (rc s2 at2 t2 tv2 deep2) (.rw (.box 46)))) p s2 at2 t2 tv2 deep2:=
 ⟨by rw [List.getElem?_set_self h.lt]⟩
end
theorem natInt {a b:Nat}:((a:Int) == (b:Int)) = (a == b):=by
 by_cases h:a = b
 ·subst h;simp
 ·have h2:((a:Int) == (b:Int)) = false:=by rw [beq_eq_false_iff_ne];omega
  have h3:(a == b) = false:=by rw [beq_eq_false_iff_ne];exact h
  rw [h2,h3]
theorem is_fn {σ:St} {p:Nat} {s:List UInt8} {at_:Nat} {t:Tok} {tv:AV} {deep:Int} (h:RdC σ p s at_ t tv deep) (m:List UInt8):Fw Tryz.prog Lb 35 [.ptr (some (p,0)),.str m] σ fun r σ'=>r = .ret (.bool (isB t m)) ∧ σ' = σ:=by
 refine Fw.enter (fun n=>f35_e) ?_
 simp only [f35_t,derefK_s,h.kind,xInt_i,h.text,xStr_s]
 have e2:((t.kind:Int) == (2:Int)) = (t.kind == 2):=natInt (b:=2)
 have e5:((t.kind:Int) == (5:Int)) = (t.kind == 5):=natInt (b:=5)
 rw [e2,e5]
 unfold isB
 refine Wp.ite (fun h1=>Wp.ret ⟨by rw [h1];simp,rfl⟩) fun h1=>Wp.ite (fun h2=>Wp.ret ⟨by rw [h1,h2];simp,rfl⟩) fun h2=>Wp.ret ⟨by rw [h1,h2];simp,rfl⟩
end Go.Front
/- Small functions of the lexer. -/
set_option linter.unusedSimpArgs false
namespace Go.Front
open Go.AM Go.Proofs
def faultAV (e at_:Int):AV:=.iface 40 (.agg [.int .i64 e,.int .i64 at_])
section
variable {σ:St}
theorem wrong_fn (e a:Int):Fw Tryz.prog Lb 27 [.int .i64 e,.int .i64 a] σ fun r σ'=>r = .pan (faultAV e a) ∧ σ' = σ:=
 Fw.enter (fun n=>f27_e) (Wp.ret ⟨rfl,rfl⟩)
theorem prefix_fn (s m:List UInt8):Fw Tryz.prog Lb 57 [.str s,.str m] σ fun r σ'=>r = .ret (.bool (m.isPrefixOf s)) ∧ σ' = σ:=by
 refine Fw.enter (fun n=>f57_e) ?_
 simp only [f57_t]
 refine Wp.ite (fun h=>?_) fun h=>Wp.ret ⟨?_,rfl⟩
 ·have hl:m.length ≤ s.length:=by simpa using h
  simp only [cutK_ok (s:=s) (l:=0) (h:=(m.length:Int)) ⟨Int.le_refl _,by omega,by omega⟩]
  refine Wp.ret ⟨?_,rfl⟩
  congr 2
  simp only [Int.toNat_natCast,Int.toNat_zero,List.drop_zero]
  rw [Bool.eq_iff_iff]
  simp only [beq_iff_eq,List.isPrefixOf_iff_prefix]
  exact ⟨fun h=>h ▸ List.take_prefix _ _,fun h=>(List.prefix_iff_eq_take.1 h).symm⟩
 ·have hl:s.length < m.length:=by simpa using h
  congr 2
  symm
  rw [Bool.eq_false_iff]
  intro hp
  have:=(List.isPrefixOf_iff_prefix.1 hp).length_le
  omega
theorem hasPrefix_fn (s m:List UInt8):Fw Tryz.prog Lb 31 [.str s,.str m] σ fun r σ'=>r = .ret (.bool (m.isPrefixOf s)) ∧ σ' = σ:=by
 refine Fw.enter (fun n=>f31_e) ?_
 simp only [f31_t]
 refine Wp.call (prefix_fn s m) (fun v σ' h=>?_) fun v σ' h=>by cases h.1
 obtain ⟨h1,rfl⟩:=h
 cases h1
 simp only [xBool_b]
 exact Wp.ret ⟨rfl,rfl⟩
theorem letter_fn (c:UInt8):Fw Tryz.prog Lb 23 [.int .u8 c.toNat] σ fun r σ'=>r = .ret (.bool (isLetter c)) ∧ σ' = σ:=by
 refine Fw.enter (fun n=>f23_e) ?_
 simp only [f23_t,cond_if]
 have e95:((c.toNat:Int) == (95:Int)) = (c.toNat == 95):=natInt (b:=95)
 refine (Wp.ret (Q:=fun r σ'=>r = .ret (.bool (isLetter c)) ∧ σ' = σ) ⟨rfl,rfl⟩).eq fun u=>?_
 unfold isLetter
 rw [e95]
 simp only [decide_eq_true_eq]
 by_cases h1:97 ≤ c.toNat <;> by_cases h2:c.toNat ≤ 122 <;> by_cases h3:65 ≤ c.toNat <;> by_cases h4:c.toNat ≤ 90 <;>
  simp [h1,h2,h3,h4,show ((c.toNat:Int) ≥ 97) = (97 ≤ c.toNat) from propext (by omega),show ((c.toNat:Int) ≤ 122) = (c.toNat ≤ 122) from propext (by omega),
   show ((c.toNat:Int) ≥ 65) = (65 ≤ c.toNat) from propext (by omega),show ((c.toNat:Int) ≤ 90) = (c.toNat ≤ 90) from propext (by omega)]
theorem digit_fn (c:UInt8):Fw Tryz.prog Lb 24 [.int .u8 c.toNat] σ fun r σ'=>r = .ret (.bool (isDigit c)) ∧ σ' = σ:=by
 refine Fw.enter (fun n=>f24_e) ?_
 simp only [f24_t,cond_if]
 refine (Wp.ret (Q:=fun r σ'=>r = .ret (.bool (isDigit c)) ∧ σ' = σ) ⟨rfl,rfl⟩).eq fun u=>?_
 unfold isDigit
 simp only [decide_eq_true_eq]
 by_cases h1:48 ≤ c.toNat <;> by_cases h2:c.toNat ≤ 57 <;>
  simp [h1,h2,show ((c.toNat:Int) ≥ 48) = (48 ≤ c.toNat) from propext (by omega),show ((c.toNat:Int) ≤ 57) = (c.toNat ≤ 57) from propext (by omega)]
end
end Go.Front
/- blanks: what goes behind them. -/
set_option linter.unusedSimpArgs false
set_option linter.unusedVariables false
namespace Go.Front
open Go.AM Go.Proofs
theorem set_same {σ:St} {b:Nat} {o:AObj} (h:σ[b]? = some o):σ.set b o = σ:=by
 obtain ⟨hl,he⟩:=List.getElem?_eq_some_iff.1 h
 rw [← he];exact List.set_getElem_self hl
section
variable {σ:St} {p:Nat} {s:List UInt8} {at_:Nat} {t:Tok} {tv:AV} {deep:Int}
def atQ (σ:St) (p:Nat) (s:List UInt8) (n:Nat) (t:Tok) (tv:AV) (deep:Int):Post:=fun r σ'=>r = .ret (.tuple []) ∧ σ' = σ.set p (.cells (rc s n t tv deep) (.rw (.box 46)))
theorem drop_at {c:UInt8} (h:s[at_]? = some c):s.drop at_ = c :: s.drop (at_ + 1):=by
 obtain ⟨hl,he⟩:=List.getElem?_eq_some_iff.1 h
 rw [← he];exact List.drop_eq_getElem_cons hl
theorem wrapS (hs:s.length ≤ 4611686018427387904) (h:at_ < s.length):IntKind.wrap .i64 ((at_:Int) + 1) = ((at_ + 1:Nat):Int):=by
 rw [wrap64 (by omega) (by omega)];omega
theorem blanks_loop (hs:s.length ≤ 4611686018427387904):∀ (k:Nat) {σ:St} {at_:Nat},at_ + k = s.length → RdC σ p s at_ t tv deep →
  (Wp (atQ σ p s (at_ + skip false (s.drop at_)) t tv deep) fun u=>f22_l1 (pt Tryz.prog Lb 22 u.n) u.m1 (some (p,0)) σ) ∧
  Wp (atQ σ p s (at_ + skip true (s.drop at_)) t tv deep) fun u=>f22_l4 (pt Tryz.prog Lb 22 u.n) u.m1 u.m2 (some (p,0)) σ:=by
 intro k
 induction k with
 | zero=>
  intro σ at_ hk h
  have hd:s.drop at_ = []:=List.drop_eq_nil_of_le (by omega)
  have h1:Wp (atQ σ p s at_ t tv deep) fun u=>f22_l1 (pt Tryz.prog Lb 22 u.n) u.m1 (some (p,0)) σ:=by
   refine Wp.round1 (F:=fun n m=>f22_l1 (pt Tryz.prog Lb 22 n) m (some (p,0)) σ) (fun n m=>f22_l1_e) ?_
   simp only [f22_l1_t,derefK_s,h.at__,h.s_,xInt_i,xStr_s]
   refine Wp.neg (by simp;omega) (Wp.ret ⟨rfl,(set_same h.h).symm⟩)
  rw [hd]
  refine ⟨h1,?_⟩
  refine Wp.round2 (F:=fun n m1 m=>f22_l4 (pt Tryz.prog Lb 22 n) m1 m (some (p,0)) σ) (fun n m1 m=>f22_l4_e) ?_
  simp only [f22_l4_t,derefK_s,h.at__,h.s_,xInt_i,xStr_s]
  exact Wp.neg (by simp;omega) h1
 | succ k ih=>
  intro σ at_ hk h
  have hlt:at_ < s.length:=by omega
  obtain ⟨c,hc⟩:∃ c,s[at_]? = some c:=⟨s[at_],List.getElem?_eq_getElem hlt⟩
  have hd:=drop_at hc
  have hw:=wrapS (at_:=at_) hs hlt
  have hby (f:UInt8 → Out):byteK s (at_:Int) f = f c:=byteK_ok (by omega) (by simpa using hc)
  have hput:RdC (σ.set p (.cells (rc s (at_ + 1) t tv deep) (.rw (.box 46)))) p s (at_ + 1) t tv deep:=h.put
  obtain ⟨i1,i2⟩:=ih (at_:=at_ + 1) (by omega) hput
  have up {n:Nat}:∀ r σ',atQ (σ.set p (.cells (rc s (at_ + 1) t tv deep) (.rw (.box 46)))) p s n t tv deep r σ' → atQ σ p s n t tv deep r σ':=fun r σ' ⟨h1,h2⟩=>⟨h1,by rw [h2,List.set_set]⟩
  have n10:((c.toNat:Int) == (10:Int)) = (c.toNat == 10):=natInt (b:=10)
  have n32:((c.toNat:Int) == (32:Int)) = (c.toNat == 32):=natInt (b:=32)
  have n9:((c.toNat:Int) == (9:Int)) = (c.toNat == 9):=natInt (b:=9)
  -- one blank more
  have blank:Wp (atQ σ p s (at_ + 1 + skip false (s.drop (at_ + 1))) t tv deep) fun u=>f22_j2 (pt Tryz.prog Lb 22 u.n) u.m1 (some (p,0)) σ:=by
   refine Wp.le (F:=fun u=>f22_j2_t (pt Tryz.prog Lb 22 u.n) u.n u.m1 (some (p,0)) σ) ?_ fun u=>f22_j2_e
   simp only [f22_j2_t,derefK_s,h.at__,xInt_i,hw,h.stAt]
   exact i1.mono up
  -- within a comment,at a byte that ends none
  have com (h10:c.toNat ≠ 10):Wp (atQ σ p s (at_ + 1 + skip true (s.drop (at_ + 1))) t tv deep) fun u=>f22_l4 (pt Tryz.prog Lb 22 u.n) u.m1 u.m2 (some (p,0)) σ:=by
   refine Wp.round2 (F:=fun n m1 m=>f22_l4 (pt Tryz.prog Lb 22 n) m1 m (some (p,0)) σ) (fun n m1 m=>f22_l4_e) ?_
   simp only [f22_l4_t,derefK_s,h.at__,h.s_,xInt_i,xStr_s,hby,hw,h.stAt]
   refine Wp.pos (by simp;omega) (Wp.pos ?_ (i2.mono up))
   rw [bne,n10];simpa using h10
  have first:Wp (atQ σ p s (at_ + skip false (s.drop at_)) t tv deep) fun u=>f22_l1 (pt Tryz.prog Lb 22 u.n) u.m1 (some (p,0)) σ:=by
   refine Wp.round1 (F:=fun n m=>f22_l1 (pt Tryz.prog Lb 22 n) m (some (p,0)) σ) (fun n m=>f22_l1_e) ?_
   simp only [f22_l1_t,derefK_s,h.at__,h.s_,xInt_i,xStr_s,hby]
   refine Wp.pos (by simp;omega) ?_
   rw [n32,n9,n10]
   have isB (hb:c.toNat = 32 ∨ c.toNat = 9 ∨ c.toNat = 10):at_ + skip false (s.drop at_) = at_ + 1 + skip false (s.drop (at_ + 1)):=by
    rw [hd];simp only [skip];rw [if_pos hb];omega
   refine Wp.ite (fun hb=>?_) fun hb32=>Wp.ite (fun hb=>?_) fun hb9=>?_
   ·rw [isB (.inl (by simpa using hb))];exact blank
   ·rw [isB (.inr (.inl (by simpa using hb)))];exact blank
   ·refine Wp.le (F:=fun u=>f22_j3_t (pt Tryz.prog Lb 22 u.n) u.n u.m1 (some (p,0)) (c.toNat == 10) σ) ?_ fun u=>f22_j3_e
    simp only [f22_j3_t,derefK_s,h.at__,h.s_,xInt_i,xStr_s,hw,h.stAt]
    refine Wp.ite (fun hb=>?_) fun hb10=>?_
    ·rw [isB (.inr (.inr (by simpa using hb)))];exact i1.mono up
    ·have nb:¬ (c.toNat = 32 ∨ c.toNat = 9 ∨ c.toNat = 10):=by
      rintro (h' | h' | h') <;> simp [h'] at hb32 hb9 hb10
     simp only [cutK_ok (s:=s) (l:=(at_:Int)) (h:=(s.length:Int)) ⟨by omega,by omega,by omega⟩,Int.toNat_natCast,List.take_length]
     refine Wp.calld (hasPrefix_fn (s.drop at_) [47,47]) (fun v σ' hv=>?_) (fun v σ' hv=>by cases hv.1)
     obtain ⟨hv,rfl⟩:=hv
     cases hv
     simp only [xBool_b]
     have hpre:List.isPrefixOf [47,47] (s.drop at_) = (c == 47 && (s.drop (at_ + 1)).head? == some 47):=by
      rw [hd]
      cases s.drop (at_ + 1) with
      | nil=>simp [List.isPrefixOf]
      | cons d r=>simp [List.isPrefixOf,Bool.beq_comm (a:=(47:UInt8))]
     rw [hpre]
     have hsk:skip false (s.drop at_) = if c.toNat = 47 ∧ (s.drop (at_ + 1)).head? = some 47 then skip true (s.drop (at_ + 1)) + 1 else 0:=by
      rw [hd];simp only [skip];rw [if_neg nb]
     have c47:(c == 47) = decide (c.toNat = 47):=by
      rw [Bool.eq_iff_iff];simp only [beq_iff_eq,decide_eq_true_eq]
      exact ⟨fun h=>by rw [h];rfl,fun h=>by apply UInt8.toNat_inj.1;rw [h];rfl⟩
     refine Wp.ite (fun hb=>?_) fun hb=>?_
     ·rw [c47] at hb
      simp only [Bool.and_eq_true,decide_eq_true_eq,beq_iff_eq] at hb
      rw [hsk,if_pos hb]
      have:=com (by omega)
      rw [show at_ + (skip true (s.drop (at_ + 1)) + 1) = at_ + 1 + skip true (s.drop (at_ + 1)) from by omega]
      exact Wp.fresh2 (F:=fun n m1 m2=>f22_l4 (pt Tryz.prog Lb 22 n) m1 m2 (some (p,0)) σ') this
     ·rw [c47] at hb
      have hn:¬ (c.toNat = 47 ∧ (s.drop (at_ + 1)).head? = some 47):=by
       rintro ⟨h1,h2⟩;simp [h1,h2] at hb
      rw [hsk,if_neg hn]
      exact Wp.ret ⟨rfl,(set_same h.h).symm⟩
  refine ⟨first,?_⟩
  by_cases h10:c.toNat = 10
  ·have e:at_ + skip true (s.drop at_) = at_ + skip false (s.drop at_):=by
    rw [hd];simp only [skip];rw [if_pos h10,if_pos (.inr (.inr h10))]
   rw [e]
   refine Wp.round2 (F:=fun n m1 m=>f22_l4 (pt Tryz.prog Lb 22 n) m1 m (some (p,0)) σ) (fun n m1 m=>f22_l4_e) ?_
   simp only [f22_l4_t,derefK_s,h.at__,h.s_,xInt_i,xStr_s,hby,hw,h.stAt]
   refine Wp.pos (by simp;omega) (Wp.neg ?_ first)
   rw [bne,n10];simpa using h10
  ·have e:at_ + skip true (s.drop at_) = at_ + 1 + skip true (s.drop (at_ + 1)):=by
    rw [hd];simp only [skip];rw [if_neg h10];omega
   rw [e];exact com h10
theorem blanks_fn (hs:s.length ≤ 4611686018427387904) (ha:at_ ≤ s.length) (h:RdC σ p s at_ t tv deep):Fw Tryz.prog Lb 22 [.ptr (some (p,0))] σ (atQ σ p s (at_ + skip false (s.drop at_)) t tv deep):=by
 refine Fw.enter (fun _=>f22_e) ?_
 simp only [f22_t]
 exact Wp.fresh1 (F:=fun n m=>f22_l1 (pt Tryz.prog Lb 22 n) m (some (p,0)) σ) (blanks_loop hs (s.length - at_) (by omega) h).1
end
end Go.Front
/- escape: a byte within quotes. -/
set_option linter.unusedSimpArgs false
set_option linter.unusedVariables false
namespace Go.Front
open Go.AM Go.Proofs
theorem u8_toNat (d:UInt8):((d.toNat:Int).toNat.toUInt8) = d:=by simp
theorem idx_esc (d:UInt8):(esc d = none ∧ Lib.indexByte [110,116,48,92,39,34] d = -1) ∨ (∃ b i,esc d = some b ∧ Lib.indexByte [110,116,48,92,39,34] d = ((i:Nat):Int) ∧ [(10:UInt8),9,0,92,39,34][i]? = some b):=by
 have inj (n:UInt8):d.toNat = n.toNat ↔ n = d:=⟨fun h=>(UInt8.toNat_inj.1 h).symm,fun h=>by rw [h]⟩
 unfold esc
 by_cases h1:d = 110
 ·subst h1;exact .inr ⟨10,0,rfl,rfl,rfl⟩
 by_cases h2:d = 116
 ·subst h2;exact .inr ⟨9,1,rfl,rfl,rfl⟩
 by_cases h3:d = 48
 ·subst h3;exact .inr ⟨0,2,rfl,rfl,rfl⟩
 by_cases h4:d = 92
 ·subst h4;exact .inr ⟨92,3,rfl,rfl,rfl⟩
 by_cases h5:d = 39
 ·subst h5;exact .inr ⟨39,4,rfl,rfl,rfl⟩
 by_cases h6:d = 34
 ·subst h6;exact .inr ⟨34,5,rfl,rfl,rfl⟩
 left
 have n1:d.toNat ≠ 110:=fun h=>h1 ((inj 110).1 h).symm
 have n2:d.toNat ≠ 116:=fun h=>h2 ((inj 116).1 h).symm
 have n3:d.toNat ≠ 48:=fun h=>h3 ((inj 48).1 h).symm
 have n4:d.toNat ≠ 92:=fun h=>h4 ((inj 92).1 h).symm
 have n5:d.toNat ≠ 39:=fun h=>h5 ((inj 39).1 h).symm
 have n6:d.toNat ≠ 34:=fun h=>h6 ((inj 34).1 h).symm
 refine ⟨by rw [if_neg n1,if_neg n2,if_neg n3,if_neg n4,if_neg n5,if_neg n6],?_⟩
 simp [Lib.indexByte,Ne.symm h1,Ne.symm h2,Ne.symm h3,Ne.symm h4,Ne.symm h5,Ne.symm h6]
section
variable {σ:St} {p:Nat} {s:List UInt8} {at_:Nat} {t:Tok} {tv:AV} {deep:Int}
def escQ (σ:St) (p:Nat) (s:List UInt8) (at_ q:Nat) (t:Tok) (tv:AV) (deep:Int):Post:=fun r σ'=>
 match escape q (s.drop at_) with
 | some (b,k)=>r = .ret (.tuple [.int .u8 b.toNat,.bool true]) ∧ σ' = σ.set p (.cells (rc s (at_ + k) t tv deep) (.rw (.box 46)))
 | none=>∃ x n,r = .ret (.tuple [.int .u8 x,.bool false]) ∧ σ' = σ.set p (.cells (rc s n t tv deep) (.rw (.box 46)))
theorem escape_fn (hs:s.length ≤ 4611686018427387904) (ha:at_ ≤ s.length) (q:Nat) (h:RdC σ p s at_ t tv deep):Fw Tryz.prog Lb 54 [.ptr (some (p,0)),.int .u8 q] σ (escQ σ p s at_ q t tv deep):=by
 refine Fw.enter (fun _=>f54_e) ?_
 unfold escQ
 simp only [f54_t,derefK_s,h.at__,h.s_,xInt_i,xStr_s]
 refine Wp.ite (fun h0=>?_) fun h0=>?_
 ·have hd:s.drop at_ = []:=List.drop_eq_nil_of_le (by simp at h0;omega)
  rw [hd]
  exact Wp.ret ⟨0,at_,rfl,(set_same h.h).symm⟩
 ·have hlt:at_ < s.length:=by simp at h0;omega
  obtain ⟨c,hc⟩:∃ c,s[at_]? = some c:=⟨s[at_],List.getElem?_eq_getElem hlt⟩
  have hd:=drop_at hc
  have hw:=wrapS (at_:=at_) hs hlt
  have hby (f:UInt8 → Out):byteK s (at_:Int) f = f c:=byteK_ok (by omega) (by simpa using hc)
  have hput:RdC (σ.set p (.cells (rc s (at_ + 1) t tv deep) (.rw (.box 46)))) p s (at_ + 1) t tv deep:=h.put
  simp only [hby,hw,h.stAt,hput.at__,hput.s_,xInt_i,xStr_s]
  have n92a:((c.toNat:Int) == (92:Int)) = (c.toNat == 92):=natInt (b:=92)
  have n92:((c.toNat:Int) != (92:Int)) = !(c.toNat == 92):=by rw [bne,n92a]
  have nq:((c.toNat:Int) != (q:Int)) = !(c.toNat == q):=by rw [bne,natInt]
  rw [n92,nq]
  refine Wp.ite (fun h1=>?_) fun h1=>?_
  ·have h1':c.toNat ≠ 92:=by simpa using h1
   have e:escape q (s.drop at_) = if 32 ≤ c.toNat ∧ c.toNat ≤ 126 ∧ c.toNat ≠ q then some (c,1) else none:=by rw [hd];simp only [escape];rw [if_neg h1']
   rw [e]
   refine Wp.ite (fun h2=>Wp.ite (fun h3=>?_) fun h3=>?_) fun h2=>?_
   ·have g2:32 ≤ c.toNat:=by simp at h2;omega
    have g3:c.toNat ≤ 126:=by simp at h3;omega
    by_cases h4:c.toNat = q
    ·rw [if_neg (by rintro ⟨_,_,h⟩;exact h h4)]
     exact Wp.ret ⟨(c.toNat:Int),at_ + 1,by rw [h4];simp,rfl⟩
    ·rw [if_pos ⟨g2,g3,h4⟩]
     have:(!(c.toNat == q)) = true:=by simpa using h4
     exact Wp.ret ⟨by rw [this],rfl⟩
   ·rw [if_neg (by rintro ⟨_,h,_⟩;simp at h3;omega)]
    exact Wp.ret ⟨_,at_ + 1,rfl,rfl⟩
   ·rw [if_neg (by rintro ⟨h,_,_⟩;simp at h2;omega)]
    exact Wp.ret ⟨_,at_ + 1,rfl,rfl⟩
  ·have h1':c.toNat = 92:=by simpa using h1
   refine Wp.ite (fun h2=>?_) fun h2=>?_
   ·have hd2:s.drop (at_ + 1) = []:=List.drop_eq_nil_of_le (by simp at h2;omega)
    have e:escape q (s.drop at_) = none:=by rw [hd,hd2];simp only [escape];rw [if_pos h1']
    rw [e]
    exact Wp.ret ⟨0,at_ + 1,rfl,rfl⟩
   ·have hlt2:at_ + 1 < s.length:=by simp at h2;omega
    obtain ⟨d,hdd⟩:∃ d,s[at_ + 1]? = some d:=⟨s[at_ + 1],List.getElem?_eq_getElem hlt2⟩
    have hd2:=drop_at hdd
    have hw2:=wrapS (at_:=at_ + 1) hs hlt2
    have hby2 (f:UInt8 → Out):byteK s ((at_ + 1:Nat):Int) f = f d:=byteK_ok (by omega) (by simpa using hdd)
    have e:escape q (s.drop at_) = (esc d).map fun b=>(b,2):=by rw [hd,hd2];simp only [escape];rw [if_pos h1']
    rw [e]
    simp only [hby2]
    refine Wp.calld (Fw.lib (Q:=fun r σ'=>r = .ret (.int .i64 (Lib.indexByte [110,116,48,92,39,34] d)) ∧ σ' = σ.set p (.cells (rc s (at_ + 1) t tv deep) (.rw (.box 46)))) (r:=.ret (.int .i64 (Lib.indexByte [110,116,48,92,39,34] d))) (σ':=σ.set p (.cells (rc s (at_ + 1) t tv deep) (.rw (.box 46)))) (by
     simp only [Lb,lbIndexByte,u8_toNat]) ⟨rfl,rfl⟩) (fun v σ' hv=>?_) (fun v σ' hv=>by cases hv.1)
    obtain ⟨hv,rfl⟩:=hv
    cases hv
    simp only [xInt_i,hput.at__,hw2,hput.stAt,List.set_set]
    rcases idx_esc d with ⟨h3,h4⟩ | ⟨b,i,h3,h4,h5⟩
    ·rw [h3,h4]
     refine Wp.pos (by decide) ?_
     exact Wp.ret ⟨0,at_ + 1 + 1,rfl,rfl⟩
    ·rw [h3,h4]
     refine Wp.neg (by simp) ?_
     simp only [byteK_ok (s:=[10,9,0,92,39,34]) (i:=(i:Int)) (b:=b) (by omega) (by simpa using h5)]
     exact Wp.ret ⟨rfl,rfl⟩
end
end Go.Front
/- A builder of one's own,in the heap. -/
set_option linter.unusedSimpArgs false
set_option linter.unusedVariables false
namespace Go.Front
open Go.AM Go.Proofs
theorem agg53:aggO Tryz.prog 53 = some false:=by kernel_rfl
theorem lies55:liesAt Tryz.prog Tryz.prog.depth 55 (2 / Tryz.prog.cellsOf 55) 0 55 1 = true:=by kernel_rfl
structure Bu0 (n0:Nat) (σ:St) (q:Nat) (a:Option (Nat × Nat)) (z:Nat):Prop where
 h:σ[q]? = some (.cells [.ptr a,.slice none 0 (some 0) z] (.rw (.box 55)))
 ha:a = none ∨ a = some (q,0)
 hq:n0 ≤ q
structure Bu1 (n0:Nat) (σ:St) (q g:Nat) (l:List UInt8):Prop where
 h:σ[q]? = some (.cells [.ptr (some (q,0)),.slice (some (g,0)) l.length none 1] (.rw (.box 55)))
 hg:σ[g]? = some (.cells (bytesAV l) (.rw (.row 5)))
 hq:n0 ≤ q
 hn:n0 ≤ g
 ne:g ≠ q
 l0:l ≠ []
def Bu (n0:Nat) (σ:St) (q:Nat) (l:List UInt8):Prop:=(l = [] ∧ ∃ a z,Bu0 n0 σ q a z) ∨ ∃ g,Bu1 n0 σ q g l
structure Low (n0:Nat) (σ σ':St):Prop where
 len:σ.length ≤ σ'.length
 same:∀ x,x < n0 → σ'[x]? = σ[x]?
theorem Low.refl (n0:Nat) (σ:St):Low n0 σ σ:=⟨Nat.le_refl _,fun _ _=>rfl⟩
theorem Low.trans {n0:Nat} {σ σ1 σ2:St} (h:Low n0 σ σ1) (g:Low n0 σ1 σ2):Low n0 σ σ2:=⟨Nat.le_trans h.len g.len,fun x hx=>(g.same x hx).trans (h.same x hx)⟩
theorem Low.set {n0:Nat} {σ:St} {b:Nat} {o:AObj} (h:n0 ≤ b):Low n0 σ (σ.set b o):=⟨by simp,fun x hx=>List.getElem?_set_ne (by omega)⟩
theorem Low.app {n0:Nat} {σ τ:St} (h:n0 ≤ σ.length):Low n0 σ (σ ++ τ):=⟨by simp,fun x hx=>List.getElem?_append_left (by omega)⟩
section
variable {σ:St} {n0 q:Nat} {l:List UInt8}
theorem check_fn {a:Option (Nat × Nat)} {v:AV} (h:σ[q]? = some (.cells [.ptr a,v] (.rw (.box 55)))) (ha:a = none ∨ a = some (q,0)) :
  Fw Tryz.prog Lb 76 [.ptr (some (q,0))] σ fun r σ'=>r = .ret (.tuple []) ∧ σ' = σ.set q (.cells [.ptr (some (q,0)),v] (.rw (.box 55))):=by
 rcases ha with rfl | rfl
 ·refine Fw.lib (r:=.ret (.tuple [])) (σ':=σ.set q (.cells [.ptr (some (q,0)),v] (.rw (.box 55)))) ?_ ⟨rfl,rfl⟩
  simp only [Lb,lbCheck,h,List.getElem?_cons_zero]
  exact if_pos lies55
 ·refine Fw.lib (r:=.ret (.tuple [])) (σ':=σ) ?_ ⟨rfl,(set_same h).symm⟩
  simp only [Lb,lbCheck,h,List.getElem?_cons_zero,if_true]
theorem set_get_self {σ:St} {b:Nat} {o o':AObj} (h:σ[b]? = some o):(σ.set b o')[b]? = some o':=List.getElem?_set_self (lt_of h)
theorem writeByte_fn (hn:n0 ≤ σ.length) (hl:l.length ≤ 1000000000) (h:Bu n0 σ q l) (b:UInt8):Fw Tryz.prog Lb 56 [.ptr (some (q,0)),.int .u8 b.toNat] σ fun r σ'=>r = .ret .nilIface ∧ Bu n0 σ' q (l ++ [b]) ∧ Low n0 σ σ':=by
 refine Fw.enter (fun _=>f56_e) ?_
 simp only [f56_t]
 rcases h with ⟨rfl,a,z,h⟩ | ⟨g,h⟩
 ·refine Wp.call (check_fn h.h h.ha) (fun v σ' hv=>?_) (fun v σ' hv=>by cases hv.1)
  obtain ⟨_,rfl⟩:=hv
  have h1:=set_get_self (o':=.cells [.ptr (some (q,0)),.slice none 0 (some 0) z] (.rw (.box 55))) h.h
  have hld (f:AV → Out):ldK Tryz.prog 53 (σ.set q (.cells [.ptr (some (q,0)),.slice none 0 (some 0) z] (.rw (.box 55)))) q (0 + 1) f = f (.slice none 0 (some 0) z):=
   ldc (cs:=[.ptr (some (q,0)),.slice none 0 (some 0) z]) (by unfold cellsAt;rw [h1]) agg53 rfl
  simp only [derefK_s,hld,xSl_s]
  refine Wp.app0 (by decide) (by decide) ?_
  have hq:=lt_of h.h
  refine Wp.st (cs:=[.ptr (some (q,0)),.slice none 0 (some 0) z]) (m:=.box 55) (by rw [List.getElem?_append_left (by simpa using hq)];exact h1) (by simp) ?_
  refine Wp.ret ⟨rfl,.inr ⟨σ.length,?_,?_,h.hq,hn,by omega,by simp⟩,?_⟩
  ·rw [List.getElem?_set_self (by simp;omega)]
   simp [setMany]
  ·rw [List.getElem?_set_ne (by omega),List.getElem?_append_right (by simp)]
   simp [bytesAV]
  ·refine ((Low.set (b:=q) h.hq).trans (Low.app (by simpa using hn))).trans (Low.set h.hq)
 ·refine Wp.call (check_fn h.h (.inr rfl)) (fun v σ' hv=>?_) (fun v σ' hv=>by cases hv.1)
  obtain ⟨_,rfl⟩:=hv
  rw [set_same h.h]
  have hld (f:AV → Out):ldK Tryz.prog 53 σ q (0 + 1) f = f (.slice (some (g,0)) l.length none 1):=
   ldc (cs:=[.ptr (some (q,0)),.slice (some (g,0)) l.length none 1]) (by unfold cellsAt;rw [h.h]) agg53 rfl
  simp only [derefK_s,hld,xSl_s]
  refine Wp.app1 (cs:=bytesAV l) (m:=.row 5) h.hg (by simp [bytesAV]) ⟨by omega,by omega⟩ ?_
  have hq:=lt_of h.h
  have e:((bytesAV l).drop 0).take (l.length * 1) ++ [AV.int .u8 (b.toNat:Int)] = bytesAV (l ++ [b]):=by
   have:(bytesAV l).length = l.length:=by simp [bytesAV]
   rw [List.drop_zero,Nat.mul_one,List.take_of_length_le (by omega)]
   simp [bytesAV]
  rw [e]
  refine Wp.st (cs:=[.ptr (some (q,0)),.slice (some (g,0)) l.length none 1]) (m:=.box 55) (by rw [List.getElem?_append_left (by simpa using hq),List.getElem?_set_ne h.ne];exact h.h) (by simp) ?_
  refine Wp.ret ⟨rfl,.inr ⟨σ.length,?_,?_,h.hq,hn,by omega,by simp⟩,?_⟩
  ·rw [List.getElem?_set_self (by simp;omega)]
   simp [setMany]
  ·rw [List.getElem?_set_ne (by omega),List.getElem?_append_right (by simp)]
   simp [joinW]
  ·exact ((Low.set (b:=g) h.hn).trans (Low.app (by simpa using hn))).trans (Low.set h.hq)
theorem len_fn (h:Bu n0 σ q l):Fw Tryz.prog Lb 55 [.ptr (some (q,0))] σ fun r σ'=>r = .ret (.int .i64 l.length) ∧ σ' = σ:=by
 refine Fw.enter (fun _=>f55_e) ?_
 simp only [f55_t]
 rcases h with ⟨rfl,a,z,h⟩ | ⟨g,h⟩
 ·have hld (f:AV → Out):ldK Tryz.prog 53 σ q (0 + 1) f = f (.slice none 0 (some 0) z):=ldc (cs:=[.ptr a,.slice none 0 (some 0) z]) (by unfold cellsAt;rw [h.h]) agg53 rfl
  simp only [derefK_s,hld,xSl_s]
  exact Wp.ret ⟨rfl,rfl⟩
 ·have hld (f:AV → Out):ldK Tryz.prog 53 σ q (0 + 1) f = f (.slice (some (g,0)) l.length none 1):=ldc (cs:=[.ptr (some (q,0)),.slice (some (g,0)) l.length none 1]) (by unfold cellsAt;rw [h.h]) agg53 rfl
  simp only [derefK_s,hld,xSl_s]
  exact Wp.ret ⟨rfl,rfl⟩
theorem string_fn (hl:l.length ≤ 1000000000) (h:Bu n0 σ q l):Fw Tryz.prog Lb 17 [.ptr (some (q,0))] σ fun r σ'=>r = .ret (.str l) ∧ Low n0 σ σ':=by
 rcases h with ⟨rfl,a,z,h⟩ | ⟨g,h⟩
 ·refine Fw.lib (r:=.ret (.str [])) (σ':=σ) ?_ ⟨rfl,Low.refl _ _⟩
  have hc:cellsAt σ q = some [.ptr a,.slice none 0 (some 0) z]:=by unfold cellsAt;rw [h.h]
  simp only [Lb,lbString,hc]
  rfl
 ·refine Fw.lib (r:=.ret (.str l)) (σ':=σ.set g (.cells (bytesAV l) .ro)) ?_ ⟨rfl,Low.set h.hn⟩
  have hc:cellsAt σ q = some [.ptr (some (q,0)),.slice (some (g,0)) l.length none 1]:=by unfold cellsAt;rw [h.h]
  have h0:0 < l.length:=List.length_pos_iff.2 h.l0
  have hlen:(bytesAV l).length = l.length:=by simp [bytesAV]
  simp only [Lb,lbString,hc,Nat.zero_add,List.getElem?_cons_succ,List.getElem?_cons_zero]
  rw [if_pos ⟨trivial,h0,by omega⟩,h.hg]
  simp only
  rw [if_pos ⟨trivial,by omega⟩,List.drop_zero,List.take_of_length_le (by omega),bytesX_bytes]
end
end Go.Front

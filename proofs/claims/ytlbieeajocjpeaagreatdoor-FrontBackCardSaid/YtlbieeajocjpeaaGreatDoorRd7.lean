/- cut: the next token. -/
import Derived.Test.YtlbieeajocjpeaaGreatDoorRd6
set_option linter.unusedSimpArgs false
set_option linter.unusedVariables false
namespace Go.Front
open Go.AM Go.Proofs
theorem eqNN:eqIn Tryz.prog 100 72 .nilIface .nilIface = some true:=by kernel_rfl
theorem eqIN {t:TypeId} {v:AV}:eqIn Tryz.prog 100 72 (.iface t v) .nilIface = some false:=by kernel_rfl
theorem eqFree72:eqFree Tryz.prog 72 = true:=by kernel_rfl
theorem ldStr {σ:St} {b i:Nat} {l:List (List UInt8)} {x:List UInt8} (hc:cellsAt σ b = some (l.map .str)) (h:l[i]? = some x) (f:AV → Out):ldK Tryz.prog 9 σ b (0 + (((i:Nat):Int).toNat * 1)) f = f (.str x):=
 ldc hc agg9 (by simp [h])
theorem drop_cons {α:Type} {l:List α} {i:Nat} {x:α} (h:l[i]? = some x):l.drop i = x :: l.drop (i + 1):=by
 obtain ⟨hl,he⟩:=List.getElem?_eq_some_iff.1 h
 rw [← he];exact List.drop_eq_getElem_cons hl
section
variable {σ:St} {p:Nat} {s:List UInt8} {at_:Nat} {t:Tok} {tv:AV} {deep:Int}
theorem among_fn {b:Nat} {l:List (List UInt8)} {c:Option Nat} (hl:l.length ≤ 1000000000) (hc:cellsAt σ b = some (l.map .str)) (x:List UInt8) :
  Fw Tryz.prog Lb 25 [.slice (some (b,0)) l.length c 1,.str x] σ fun r σ'=>r = .ret (.bool (l.contains x)) ∧ σ' = σ:=by
 refine Fw.enter (fun n=>f25_e) ?_
 simp only [f25_t]
 have key:∀ (k i:Nat),i + k = l.length → Wp (fun r σ'=>r = .ret (.bool ((l.drop i).contains x)) ∧ σ' = σ) fun u=>f25_l1 (pt Tryz.prog Lb 25 u.n) u.m1 x (some (b,0)) l.length c 1 l.length i σ:=by
  intro k
  induction k with
  | zero=>
   intro i hi
   refine Wp.round1 (F:=fun n m=>f25_l1 (pt Tryz.prog Lb 25 n) m x (some (b,0)) l.length c 1 l.length i σ) (fun n m=>f25_l1_e) ?_
   simp only [f25_l1_t]
   refine Wp.neg (by simp;omega) (Wp.le (F:=fun u=>f25_j2_t (pt Tryz.prog Lb 25 u.n) u.n σ) ?_ fun u=>f25_j2_e)
   simp only [f25_j2_t]
   refine Wp.ret ⟨?_,rfl⟩
   rw [List.drop_eq_nil_of_le (by omega)];rfl
  | succ k ih=>
   intro i hi
   obtain ⟨y,hy⟩:∃ y,l[i]? = some y:=⟨l[i],List.getElem?_eq_getElem (by omega)⟩
   have hw:IntKind.wrap .i64 ((i:Int) + 1) = ((i + 1:Nat):Int):=by rw [wrap64 (by omega) (by omega)];omega
   refine Wp.round1 (F:=fun n m=>f25_l1 (pt Tryz.prog Lb 25 n) m x (some (b,0)) l.length c 1 l.length i σ) (fun n m=>f25_l1_e) ?_
   simp only [f25_l1_t,derefK_s,szK_s,ldStr hc hy,xStr_s,hw]
   refine Wp.pos (by simp;omega) ?_
   simp only [idxK_ok (show (0:Int) ≤ (i:Int) ∧ (i:Int) < (l.length:Int) from ⟨by omega,by omega⟩)]
   rw [drop_cons hy]
   refine Wp.ite (fun h=>?_) fun h=>?_
   ·refine Wp.ret ⟨?_,rfl⟩
    have:y = x:=by simpa using h
    subst this;simp
   ·refine (ih (i + 1) (by omega)).mono fun r σ' hq=>⟨?_,hq.2⟩
    rw [hq.1]
    have:¬ y = x:=by simpa using h
    simp [List.contains_cons,Ne.symm this]
 exact Wp.fresh1 (F:=fun n m=>f25_l1 (pt Tryz.prog Lb 25 n) m x (some (b,0)) l.length c 1 l.length 0 σ) (key l.length 0 (by omega))
theorem fields_fn (hk:Kn σ) {x:List UInt8} {l:List (List UInt8)} (hx:x.length < 4294967281 ∧ ∀ b ∈ x,b.toNat < 128) (hl:Lib.fields x = l) :
  Fw Tryz.prog Lb 51 [.str x] σ fun r σ'=>r = .ret (.slice (some (σ.length,0)) l.length (some l.length) 1) ∧ σ' = σ ++ [.cells (l.map .str) .ro]:=by
 subst hl
 refine Fw.lib (r:=.ret (.slice (some (σ.length,0)) (Lib.fields x).length (some (Lib.fields x).length) 1)) (σ':=σ ++ [.cells ((Lib.fields x).map .str) .ro]) ?_ ⟨rfl,rfl⟩
 simp only [Lb,lbFields]
 rw [if_pos ⟨hk,hx⟩]
theorem words_fn (hk:Kn σ):Fw Tryz.prog Lb 26 [] σ fun r σ'=>r = .ret (.slice (some (σ.length,0)) words.length (some words.length) 1) ∧ σ' = σ ++ [.cells (words.map .str) .ro]:=by
 refine Fw.enter (fun n=>f26_e) ?_
 simp only [f26_t]
 refine Wp.call (fields_fn hk (l:=words) (by decide) (by kernel_rfl)) (fun v σ' hv=>?_) fun v σ' hv=>by cases hv.1
 obtain ⟨hv,rfl⟩:=hv
 cases hv
 simp only [xSl_s]
 exact Wp.ret ⟨rfl,rfl⟩
theorem marks_fn (hk:Kn σ):Fw Tryz.prog Lb 30 [] σ fun r σ'=>r = .ret (.slice (some (σ.length,0)) marks.length (some marks.length) 1) ∧ σ' = σ ++ [.cells (marks.map .str) .ro]:=by
 refine Fw.enter (fun n=>f30_e) ?_
 simp only [f30_t]
 refine Wp.call (fields_fn hk (l:=marks) (by decide) (by kernel_rfl)) (fun v σ' hv=>?_) fun v σ' hv=>by cases hv.1
 obtain ⟨hv,rfl⟩:=hv
 cases hv
 simp only [xSl_s]
 exact Wp.ret ⟨rfl,rfl⟩
noncomputable abbrev L12 (n:Nat):Leaf:=pt Tryz.prog Lb 12 n
theorem let_loop {Q:Post} {i2 i3 i4 i6:Int} {s5:List UInt8} (hs:s.length ≤ 1000000000):∀ (k:Nat) {σ:St} {a:Nat},a + k = s.length → RdC σ p s a t tv deep →
  Wp Q (fun u=>f12_j4 (L12 u.n) (some (p,0)) i2 i3 i4 s5 i6 (σ.set p (.cells (rc s (a + ((s.drop a).takeWhile fun c=>isLetter c || isDigit c).length) t tv deep) (.rw (.box 46))))) →
  Wp Q fun u=>f12_l1 (L12 u.n) u.m1 (some (p,0)) i2 i3 i4 s5 i6 σ:=by
 intro k
 induction k with
 | zero=>
  intro σ a hk h hj
  rw [List.drop_eq_nil_of_le (by omega),List.takeWhile_nil,List.length_nil,Nat.add_zero,set_same h.h] at hj
  refine Wp.round1 (F:=fun n m=>f12_l1 (L12 n) m (some (p,0)) i2 i3 i4 s5 i6 σ) (fun n m=>f12_l1_e) ?_
  simp only [f12_l1_t,derefK_s,h.at__,h.s_,xInt_i,xStr_s]
  exact Wp.neg (by simp;omega) hj
 | succ k ih=>
  intro σ a hk h hj
  have hlt:a < s.length:=by omega
  obtain ⟨c,hc⟩:∃ c,s[a]? = some c:=⟨s[a],List.getElem?_eq_getElem hlt⟩
  have hd:=drop_at hc
  have hby (f:UInt8 → Out):byteK s (a:Int) f = f c:=byteK_ok (by omega) (by simpa using hc)
  have hw:=wrapS (at_:=a) (s:=s) (by omega) hlt
  have hput:RdC (σ.set p (.cells (rc s (a + 1) t tv deep) (.rw (.box 46)))) p s (a + 1) t tv deep:=h.put
  refine Wp.round1 (F:=fun n m=>f12_l1 (L12 n) m (some (p,0)) i2 i3 i4 s5 i6 σ) (fun n m=>f12_l1_e) ?_
  simp only [f12_l1_t,derefK_s,h.at__,h.s_,xInt_i,xStr_s,hby,hw,h.stAt]
  refine Wp.pos (by simp;omega) ?_
  have go (hy:(isLetter c || isDigit c) = true):Wp Q fun u=>f12_l1 (L12 u.n) u.m1 (some (p,0)) i2 i3 i4 s5 i6 (σ.set p (.cells (rc s (a + 1) t tv deep) (.rw (.box 46)))):=by
   refine ih (by omega) hput ?_
   rw [List.set_set]
   rw [hd,List.takeWhile_cons,if_pos hy,List.length_cons] at hj
   rw [show a + 1 + ((s.drop (a + 1)).takeWhile fun c=>isLetter c || isDigit c).length = a + (((s.drop (a + 1)).takeWhile fun c=>isLetter c || isDigit c).length + 1) from by omega]
   exact hj
  refine Wp.calld (letter_fn c) (fun v σ' hv=>?_) (fun v σ' hv=>by cases hv.1)
  obtain ⟨hv,rfl⟩:=hv
  cases hv
  simp only [xBool_b,h.at__,h.s_,xInt_i,xStr_s,hby,hw,h.stAt]
  refine Wp.ite (fun h1=>go (by rw [h1];rfl)) fun h1=>?_
  refine Wp.calld (digit_fn c) (fun v σ' hv=>?_) (fun v σ' hv=>by cases hv.1)
  obtain ⟨hv,rfl⟩:=hv
  cases hv
  simp only [xBool_b,h.at__,h.s_,xInt_i,xStr_s,hby,hw,h.stAt]
  refine Wp.ite (fun h2=>go (by rw [h1,h2];rfl)) fun h2=>?_
  rw [hd,List.takeWhile_cons,if_neg (by rw [h1,h2];simp),List.length_nil,Nat.add_zero,set_same h.h] at hj
  exact hj
theorem dig_loop {Q:Post} {i2 i3 i4 i5 i7:Int} {s6:List UInt8} (hs:s.length ≤ 1000000000):∀ (k:Nat) {σ:St} {a:Nat},a + k = s.length → RdC σ p s a t tv deep →
  Wp Q (fun u=>f12_j5 (L12 u.n) (some (p,0)) i2 i3 i4 i5 s6 i7 (σ.set p (.cells (rc s (a + ((s.drop a).takeWhile isDigit).length) t tv deep) (.rw (.box 46))))) →
  Wp Q fun u=>f12_l2 (L12 u.n) u.m1 (some (p,0)) i2 i3 i4 i5 s6 i7 σ:=by
 intro k
 induction k with
 | zero=>
  intro σ a hk h hj
  rw [List.drop_eq_nil_of_le (by omega),List.takeWhile_nil,List.length_nil,Nat.add_zero,set_same h.h] at hj
  refine Wp.round1 (F:=fun n m=>f12_l2 (L12 n) m (some (p,0)) i2 i3 i4 i5 s6 i7 σ) (fun n m=>f12_l2_e) ?_
  simp only [f12_l2_t,derefK_s,h.at__,h.s_,xInt_i,xStr_s]
  exact Wp.neg (by simp;omega) hj
 | succ k ih=>
  intro σ a hk h hj
  have hlt:a < s.length:=by omega
  obtain ⟨c,hc⟩:∃ c,s[a]? = some c:=⟨s[a],List.getElem?_eq_getElem hlt⟩
  have hd:=drop_at hc
  have hby (f:UInt8 → Out):byteK s (a:Int) f = f c:=byteK_ok (by omega) (by simpa using hc)
  have hw:=wrapS (at_:=a) (s:=s) (by omega) hlt
  have hput:RdC (σ.set p (.cells (rc s (a + 1) t tv deep) (.rw (.box 46)))) p s (a + 1) t tv deep:=h.put
  refine Wp.round1 (F:=fun n m=>f12_l2 (L12 n) m (some (p,0)) i2 i3 i4 i5 s6 i7 σ) (fun n m=>f12_l2_e) ?_
  simp only [f12_l2_t,derefK_s,h.at__,h.s_,xInt_i,xStr_s,hby,hw,h.stAt]
  refine Wp.pos (by simp;omega) ?_
  refine Wp.calld (digit_fn c) (fun v σ' hv=>?_) (fun v σ' hv=>by cases hv.1)
  obtain ⟨hv,rfl⟩:=hv
  cases hv
  simp only [xBool_b,h.at__,h.s_,xInt_i,xStr_s,hby,hw,h.stAt]
  refine Wp.ite (fun h2=>?_) fun h2=>?_
  ·refine ih (by omega) hput ?_
   rw [List.set_set]
   rw [hd,List.takeWhile_cons,if_pos h2,List.length_cons] at hj
   rw [show a + 1 + ((s.drop (a + 1)).takeWhile isDigit).length = a + (((s.drop (a + 1)).takeWhile isDigit).length + 1) from by omega]
   exact hj
  ·rw [hd,List.takeWhile_cons,if_neg (by rw [h2];simp),List.length_nil,Nat.add_zero,set_same h.h] at hj
   exact hj
def cutQ (σ:St) (p:Nat) (s:List UInt8) (t:Tok) (tv:AV) (deep:Int) (o:Nat × Option (Tok × Nat)):Post:=fun r σ'=>
 match o with
 | (_,some (x,q))=>r = .ret x.av ∧ RdC σ' p s q t tv deep ∧ Kp σ.length p σ σ'
 | (f,none)=>r = .pan (faultAV 13 f) ∧ Kp σ.length p σ σ' ∧ ∃ n,RdC σ' p s n t tv deep
theorem _root_.Go.Proofs.Kn.kp {σ σ':St} (h:Kn σ) (hk:Kp σ.length p σ σ') (hp:4 ≤ p):Kn σ':=by
 have hl:=h.len
 refine ⟨?_,?_,?_,?_⟩ <;> rw [hk.same _ (by omega) (by omega)]
 ·exact h.asc
 ·exact h.pow
 ·exact h.syn
 ·exact h.rng
theorem RdC.app {τ:St} (h:RdC σ p s at_ t tv deep):RdC (σ ++ τ) p s at_ t tv deep:=⟨by rw [List.getElem?_append_left h.lt];exact h.h⟩
theorem Kp.app {n0:Nat} {σ τ:St} (h:n0 ≤ σ.length):Kp n0 p σ (σ ++ τ):=(Low.app h).kp
theorem wrong_wp {Q:Post} {e:Int} {a:Nat} {F:Fu → AV → St → Out} (h:Q (.pan (faultAV e a)) σ):Wp Q fun u=>callT Tryz.prog Lb u.n 27 [.int .i64 e,.int .i64 a] σ (F u):=by
 refine Wp.call (wrong_fn e a) (fun v σ' hv=>by cases hv.1) (fun v σ' hv=>?_)
 obtain ⟨hv,rfl⟩:=hv
 cases hv
 exact h
theorem take_tw {f:UInt8 → Bool} (from_:Nat):(s.take (from_ + ((s.drop from_).takeWhile f).length)).drop from_ = (s.drop from_).takeWhile f:=by
 rw [List.drop_take,Nat.add_sub_cancel_left]
 exact (List.prefix_iff_eq_take.1 (List.takeWhile_prefix f)).symm
theorem tw_le {f:UInt8 → Bool} {from_:Nat} (h:from_ ≤ s.length):from_ + ((s.drop from_).takeWhile f).length ≤ s.length:=by
 have:=(List.takeWhile_prefix f (l:=s.drop from_)).length_le
 rw [List.length_drop] at this
 omega
theorem mark_loop {σ0:St} {from_ b:Nat} {i9 i10 i12:Int} {s11:List UInt8} {c:Option Nat} (hs:s.length ≤ 1000000000) (hf:from_ ≤ s.length) (h:RdC σ p s from_ t tv deep) (hc:cellsAt σ b = some (marks.map .str)) (h0:Kp σ0.length p σ0 σ)
  (ho:∀ o,one (s.drop from_) = o → o = (marks.find? fun m=>m.isPrefixOf (s.drop from_)).map fun m=>(5,m,0,m.length)):∀ (k i:Nat),i + k = marks.length → (∀ m ∈ marks.take i,m.isPrefixOf (s.drop from_) = false) →
  Wp (cutQ σ0 p s t tv deep (from_,(one (s.drop from_)).map fun x=>(⟨x.1,from_,x.2.1,x.2.2.1⟩,from_ + x.2.2.2))) fun u=>f12_l6 (L12 u.n) u.m1 (some (p,0)) from_ (some (b,0)) marks.length c 1 marks.length i i9 i10 s11 i12 σ:=by
 intro k
 induction k with
 | zero=>
  intro i hi hno
  refine Wp.round1 (F:=fun n m=>f12_l6 (L12 n) m (some (p,0)) from_ (some (b,0)) marks.length c 1 marks.length i i9 i10 s11 i12 σ) (fun n m=>f12_l6_e) ?_
  simp only [f12_l6_t]
  refine Wp.neg (by simp;omega) (Wp.le (F:=fun u=>f12_j8_t (L12 u.n) u.n from_ i9 i10 s11 i12 σ) ?_ fun u=>f12_j8_e)
  simp only [f12_j8_t]
  refine wrong_wp ?_
  have hi2:i = marks.length:=by omega
  rw [hi2,List.take_length] at hno
  rw [ho _ rfl,List.find?_eq_none.2 fun m hm=>by rw [hno m hm];simp]
  exact ⟨rfl,h0,_,h⟩
 | succ k ih=>
  intro i hi hno
  obtain ⟨m,hm⟩:∃ m,marks[i]? = some m:=⟨marks[i],List.getElem?_eq_getElem (by omega)⟩
  have hw:IntKind.wrap .i64 ((i:Int) + 1) = ((i + 1:Nat):Int):=by
   have:marks.length = 29:=rfl
   rw [wrap64 (by omega) (by omega)];omega
  refine Wp.round1 (F:=fun n m=>f12_l6 (L12 n) m (some (p,0)) from_ (some (b,0)) marks.length c 1 marks.length i i9 i10 s11 i12 σ) (fun n m=>f12_l6_e) ?_
  simp only [f12_l6_t,derefK_s,szK_s,ldStr hc hm,xStr_s,hw,h.s_]
  refine Wp.pos (by simp;omega) ?_
  simp only [idxK_ok (show (0:Int) ≤ (i:Int) ∧ (i:Int) < (marks.length:Int) from ⟨by omega,by omega⟩)]
  simp only [cutK_ok (s:=s) (l:=(from_:Int)) (h:=(s.length:Int)) ⟨by omega,by omega,by omega⟩,Int.toNat_natCast,List.take_length]
  refine Wp.call (hasPrefix_fn (s.drop from_) m) (fun v σ' hv=>?_) (fun v σ' hv=>by cases hv.1)
  obtain ⟨hv,rfl⟩:=hv
  cases hv
  simp only [xBool_b,h.at__,xInt_i]
  refine Wp.ite (fun h1=>?_) fun h1=>?_
  ·have hpl:m.length ≤ s.length - from_:=by
    have:=(List.isPrefixOf_iff_prefix.1 h1).length_le;rw [List.length_drop] at this;exact this
   have hw2:IntKind.wrap .i64 ((from_:Int) + (m.length:Int)) = ((from_ + m.length:Nat):Int):=by rw [wrap64 (by omega) (by omega)];omega
   simp only [hw2,h.stAt]
   refine Wp.ret ?_
   have hfind:(marks.find? fun m=>m.isPrefixOf (s.drop from_)) = some m:=by
    have hd:marks = marks.take i ++ m :: marks.drop (i + 1):=by rw [← drop_cons hm,List.take_append_drop]
    rw [hd,List.find?_append,List.find?_eq_none.2 fun x hx=>by rw [hno x hx];simp,Option.none_or]
    exact List.find?_cons_of_pos (p:=fun m:List UInt8=>m.isPrefixOf (s.drop from_)) h1
   rw [ho _ rfl,hfind]
   exact ⟨rfl,h.put,h0.trans Kp.set⟩
  ·refine ih (i + 1) (by omega) fun x hx=>?_
   rw [List.take_add_one,hm] at hx
   rcases List.mem_append.1 hx with hx | hx
   ·exact hno x hx
   ·simp at hx;subst hx;exact h1
theorem lib_ok {w:List UInt8} {v:Int} (hk:Kn σ ∧ (10:Int) = 10 ∧ (64:Int) = 64 ∧ w.length ≤ 281474976710656) (h:Lib.parseIntB 64 w = .ok v) :
  Lb 28 [.str w,.int .i64 10,.int .i64 64] σ = some (.ret (.tuple [.int .i64 v,.nilIface]),σ):=by
 simp only [Lb,lbParseInt];rw [if_pos hk,h]
theorem lib_bad {w:List UInt8} (hk:Kn σ ∧ (10:Int) = 10 ∧ (64:Int) = 64 ∧ w.length ≤ 281474976710656) (h:∀ v,Lib.parseIntB 64 w ≠ .ok v) :
  ∃ x,Lb 28 [.str w,.int .i64 10,.int .i64 64] σ = some (.ret (.tuple [.int .i64 x,.iface 110 (.ptr (some (σ.length,0)))]),σ ++ [.dead]):=by
 simp only [Lb,lbParseInt];rw [if_pos hk]
 cases h2:Lib.parseIntB 64 w
 case ok v=>exact absurd h2 (h v)
 all_goals exact ⟨_,rfl⟩
theorem cut_fn (hs:s.length ≤ 1000000000) (hk:Kn σ) (hp:4 ≤ p) (ha:at_ ≤ s.length) (h:RdC σ p s at_ t tv deep):Fw Tryz.prog Lb 12 [.ptr (some (p,0))] σ (cutQ σ p s t tv deep (cut s at_)):=by
 refine Fw.enter (fun n=>f12_e) ?_
 simp only [f12_t]
 refine Wp.call (blanks_fn (by omega) ha h) (fun v σ' hv=>?_) (fun v σ' hv=>by cases hv.1)
 obtain ⟨_,rfl⟩:=hv
 have hskip:∀ (l:List UInt8),skip false l ≤ l.length ∧ skip true l ≤ l.length:=by
  intro l
  induction l with
  | nil=>simp [skip]
  | cons c r ih=>simp only [skip,List.length_cons];(repeat' split) <;> omega
 have hfrom:at_ + skip false (s.drop at_) ≤ s.length:=by have:=(hskip (s.drop at_)).1;rw [List.length_drop] at this;omega
 unfold cut
 generalize at_ + skip false (s.drop at_) = from_ at *
 have h1:RdC (σ.set p (.cells (rc s from_ t tv deep) (.rw (.box 46)))) p s from_ t tv deep:=h.put
 have k1:Kp σ.length p σ (σ.set p (.cells (rc s from_ t tv deep) (.rw (.box 46)))):=Kp.set
 have kn1:=hk.kp k1 hp
 have l1:σ.length ≤ (σ.set p (.cells (rc s from_ t tv deep) (.rw (.box 46)))).length:=by simp
 generalize σ.set p (.cells (rc s from_ t tv deep) (.rw (.box 46))) = σ1 at *
 simp only [derefK_s,h1.at__,h1.s_,xInt_i,xStr_s]
 have hlp:=h1.lt
 refine Wp.ite (fun he=>?_) fun he=>?_
 ·have he:from_ = s.length:=by have:=eq_of_beq he;omega
  refine Wp.ret ?_
  rw [List.drop_eq_nil_of_le (by omega)]
  exact ⟨by simp [Tok.av,Tok.cells],h1,k1⟩
 have hlt:from_ < s.length:=by
  have:¬ from_ = s.length:=fun e=>by subst e;simp at he
  omega
 obtain ⟨c,hc⟩:∃ c,s[from_]? = some c:=⟨s[from_],List.getElem?_eq_getElem hlt⟩
 have hd:=drop_at hc
 have hby (f:UInt8 → Out):byteK s (from_:Int) f = f c:=byteK_ok (by omega) (by simpa using hc)
 simp only [hby]
 refine Wp.call (letter_fn c) (fun v σ' hv=>?_) (fun v σ' hv=>by cases hv.1)
 obtain ⟨hv,rfl⟩:=hv
 cases hv
 simp only [xBool_b]
 refine Wp.ite (fun hL=>?_) fun hL=>?_
 ·refine Wp.fresh1 (F:=fun n m=>f12_l1 (L12 n) m (some (p,0)) from_ 0 0 [] 0 σ') (let_loop hs (s.length - from_) (by omega) h1 ?_)
  have hle:=tw_le (s:=s) (f:=fun c=>isLetter c || isDigit c) hfrom
  have htk:=take_tw (s:=s) (f:=fun c=>isLetter c || isDigit c) from_
  have hone:one (s.drop from_) = (if words.contains ((s.drop from_).takeWhile fun c=>isLetter c || isDigit c) then some (2,(s.drop from_).takeWhile fun c=>isLetter c || isDigit c,0,((s.drop from_).takeWhile fun c=>isLetter c || isDigit c).length)
    else if ((s.drop from_).takeWhile fun c=>isLetter c || isDigit c).length ≤ 14 then some (1,(s.drop from_).takeWhile fun c=>isLetter c || isDigit c,0,((s.drop from_).takeWhile fun c=>isLetter c || isDigit c).length) else none):=by
   rw [hd];simp only [one];rw [if_pos hL]
  rw [hone]
  generalize (s.drop from_).takeWhile (fun c=>isLetter c || isDigit c) = w at *
  have h2:RdC (σ'.set p (.cells (rc s (from_ + w.length) t tv deep) (.rw (.box 46)))) p s (from_ + w.length) t tv deep:=h1.put
  have k2:Kp σ.length p σ (σ'.set p (.cells (rc s (from_ + w.length) t tv deep) (.rw (.box 46)))):=k1.trans Kp.set
  have kn2:=hk.kp k2 hp
  have l2:σ.length ≤ (σ'.set p (.cells (rc s (from_ + w.length) t tv deep) (.rw (.box 46)))).length:=by simpa using l1
  generalize σ'.set p (.cells (rc s (from_ + w.length) t tv deep) (.rw (.box 46))) = σ2 at *
  refine Wp.le (F:=fun u=>f12_j4_t (L12 u.n) u.n (some (p,0)) from_ 0 0 [] 0 σ2) ?_ fun u=>f12_j4_e
  simp only [f12_j4_t,derefK_s,h2.at__,h2.s_,xInt_i,xStr_s]
  simp only [cutK_ok (s:=s) (l:=(from_:Int)) (h:=((from_ + w.length:Nat):Int)) ⟨by omega,by omega,by omega⟩,Int.toNat_natCast,htk]
  refine Wp.call (words_fn kn2) (fun v σ3 hv=>?_) (fun v σ3 hv=>by cases hv.1)
  obtain ⟨hv,rfl⟩:=hv
  cases hv
  simp only [xSl_s]
  refine Wp.call (among_fn (b:=σ2.length) (by decide) (by unfold cellsAt;rw [List.getElem?_append_right (Nat.le_refl _)];simp) w) (fun v σ3 hv=>?_) (fun v σ3 hv=>by cases hv.1)
  obtain ⟨hv,rfl⟩:=hv
  cases hv
  simp only [xBool_b]
  have h3:RdC (σ2 ++ [.cells (words.map .str) .ro]) p s (from_ + w.length) t tv deep:=h2.app
  have k3:Kp σ.length p σ (σ2 ++ [.cells (words.map .str) .ro]):=k2.trans (Kp.app l2)
  refine Wp.ite (fun hw=>?_) fun hw=>Wp.ite (fun h14=>?_) fun h14=>?_
  ·rw [if_pos hw];exact Wp.ret ⟨rfl,h3,k3⟩
  ·rw [if_neg (by rw [hw];simp),if_neg (by simp at h14;omega)]
   exact wrong_wp ⟨rfl,k3,_,h3⟩
  ·rw [if_neg (by rw [hw];simp),if_pos (by simp at h14;omega)];exact Wp.ret ⟨rfl,h3,k3⟩
 refine Wp.call (digit_fn c) (fun v σ2 hv=>?_) (fun v σ2 hv=>by cases hv.1)
 obtain ⟨hv,rfl⟩:=hv
 cases hv
 simp only [xBool_b]
 have nL:¬ isLetter c = true:=by rw [hL];simp
 refine Wp.ite (fun hD=>?_) fun hD=>?_
 ·refine Wp.fresh1 (F:=fun n m=>f12_l2 (L12 n) m (some (p,0)) from_ c.toNat 0 0 [] 0 σ2) (dig_loop hs (s.length - from_) (by omega) h1 ?_)
  have hle:=tw_le (s:=s) (f:=isDigit) hfrom
  have htk:=take_tw (s:=s) (f:=isDigit) from_
  have hone:one (s.drop from_) = numOf c ((s.drop from_).takeWhile isDigit) (Lib.parseIntB 64 ((s.drop from_).takeWhile isDigit)):=by
   rw [hd];simp only [one];rw [if_neg nL,if_pos hD]
  have hw1:1 ≤ ((s.drop from_).takeWhile isDigit).length:=by rw [hd,List.takeWhile_cons,if_pos hD];simp
  rw [hone]
  generalize (s.drop from_).takeWhile isDigit = w at *
  have h2:RdC (σ2.set p (.cells (rc s (from_ + w.length) t tv deep) (.rw (.box 46)))) p s (from_ + w.length) t tv deep:=h1.put
  have k2:Kp σ.length p σ (σ2.set p (.cells (rc s (from_ + w.length) t tv deep) (.rw (.box 46)))):=k1.trans Kp.set
  have kn2:=hk.kp k2 hp
  have l2:σ.length ≤ (σ2.set p (.cells (rc s (from_ + w.length) t tv deep) (.rw (.box 46)))).length:=by simpa using l1
  generalize σ2.set p (.cells (rc s (from_ + w.length) t tv deep) (.rw (.box 46))) = σ3 at *
  refine Wp.le (F:=fun u=>f12_j5_t (L12 u.n) u.n (some (p,0)) from_ c.toNat 0 0 [] 0 σ3) ?_ fun u=>f12_j5_e
  simp only [f12_j5_t,derefK_s,h2.at__,h2.s_,xInt_i,xStr_s]
  simp only [cutK_ok (s:=s) (l:=(from_:Int)) (h:=((from_ + w.length:Nat):Int)) ⟨by omega,by omega,by omega⟩,Int.toNat_natCast,htk]
  have hwl:w.length ≤ 281474976710656:=by omega
  have hargs:=And.intro kn2 (And.intro (rfl:(10:Int) = 10) (And.intro (rfl:(64:Int) = 64) hwl))
  have badP {x:Int}:Wp (cutQ σ p s t tv deep (from_,none)) fun u=>
    eqK Tryz.prog 72 (.iface 110 (.ptr (some (σ3.length,0)))) .nilIface fun b25=>
     cond (!b25) (callT Tryz.prog Lb u.n 27 [.int .i64 (13:Int),.int .i64 from_] (σ3 ++ [.dead]) fun _ σ26=>f12_j7 (L12 u.n) (some (p,0)) from_ x 0 0 [] 0 σ26)
      (cond ((c.toNat:Int) == (48:Int)) (ldK Tryz.prog 3 (σ3 ++ [.dead]) p (0 + 1) fun x30=>xInt .i64 x30 fun i31=>cond (decide (i31 > (IntKind.wrap .i64 ((from_:Int) + (1:Int)))))
       (callT Tryz.prog Lb u.n 27 [.int .i64 (13:Int),.int .i64 from_] (σ3 ++ [.dead]) fun _ σ32=>f12_j7 (L12 u.n) (some (p,0)) from_ x 0 0 [] 0 σ32)
       (f12_j7 (L12 u.n) (some (p,0)) from_ x 0 0 [] 0 (σ3 ++ [.dead]))) (f12_j7 (L12 u.n) (some (p,0)) from_ x 0 0 [] 0 (σ3 ++ [.dead]))):=by
   simp only [eqK,eqFree72,if_true,eqNN,eqIN]
   refine Wp.pos rfl (wrong_wp ⟨rfl,k2.trans (Kp.app l2),_,h2.app⟩)
  cases hpi:Lib.parseIntB 64 w
  case ok v=>
   refine Wp.calld (Fw.lib (Q:=fun r σ'=>r = .ret (.tuple [.int .i64 v,.nilIface]) ∧ σ' = σ3) (lib_ok hargs hpi) ⟨rfl,rfl⟩) (fun v σ4 hv=>?_) (fun v σ4 hv=>by cases hv.1)
   obtain ⟨hv,rfl⟩:=hv
   cases hv
   simp only [xTup_t,unC_c,xInt_i,nlC_n]
   simp only [eqK,eqFree72,if_true,eqNN,eqIN]
   refine Wp.neg rfl ?_
   have n48:((c.toNat:Int) == (48:Int)) = (c.toNat == 48):=natInt (b:=48)
   rw [n48]
   have fin (hz:¬ (c.toNat = 48 ∧ w.length ≠ 1)):Wp (cutQ σ p s t tv deep (from_,(numOf c w (.ok v)).map fun x=>(⟨x.1,from_,x.2.1,x.2.2.1⟩,from_ + x.2.2.2))) fun u=>f12_j7 (L12 u.n) (some (p,0)) from_ v 0 0 [] 0 σ4:=by
    simp only [numOf]
    rw [if_neg hz]
    refine Wp.le (F:=fun u=>f12_j7_t (L12 u.n) u.n (some (p,0)) from_ v 0 0 [] 0 σ4) ?_ fun u=>f12_j7_e
    simp only [f12_j7_t]
    exact Wp.ret ⟨rfl,h2,k2⟩
   refine Wp.ite (fun h48=>?_) fun h48=>fin (by simp at h48;omega)
   have hwf:IntKind.wrap .i64 ((from_:Int) + 1) = ((from_ + 1:Nat):Int):=wrapS (by omega) hlt
   simp only [h2.at__,xInt_i,hwf]
   refine Wp.ite (fun hg=>?_) fun hg=>fin (by simp at hg;omega)
   simp only [numOf]
   rw [if_pos (by simp at h48 hg;omega)]
   exact wrong_wp ⟨rfl,k2,_,h2⟩
  all_goals
   obtain ⟨x,hx⟩:=lib_bad hargs (fun v=>by rw [hpi];intro h;cases h)
   refine Wp.calld (Fw.lib (Q:=fun r σ'=>∃ x,r = .ret (.tuple [.int .i64 x,.iface 110 (.ptr (some (σ3.length,0)))]) ∧ σ' = σ3 ++ [.dead]) hx ⟨_,rfl,rfl⟩) (fun v σ4 hv=>?_) (fun v σ4 hv=>by obtain ⟨_,hv,_⟩:=hv;cases hv)
   obtain ⟨x,hv,rfl⟩:=hv
   cases hv
   simp only [xTup_t,unC_c,xInt_i,nlC_n]
   exact badP
 have nD:¬ isDigit c = true:=by rw [hD];simp
 have n34:((c.toNat:Int) == (34:Int)) = (c.toNat == 34):=natInt (b:=34)
 have n39:((c.toNat:Int) == (39:Int)) = (c.toNat == 39):=natInt (b:=39)
 rw [n34,n39]
 have tok {o:Option (Tok × Nat)} {r:Res} {σ':St} (hq:tokQ σ2.length p s from_ o t tv deep σ2 r σ'):cutQ σ p s t tv deep (from_,o) r σ':=by
  unfold tokQ at hq
  cases o with
  | none=>exact ⟨hq.1,k1.trans ⟨hq.2.1.len,fun x hx hn=>hq.2.1.same x (by omega) hn⟩,hq.2.2⟩
  | some y=>exact ⟨hq.1,hq.2.1,k1.trans ⟨hq.2.2.len,fun x hx hn=>hq.2.2.same x (by omega) hn⟩⟩
 refine Wp.ite (fun h34=>?_) fun h34=>Wp.ite (fun h39=>?_) fun h39=>?_
 ·have e34:c = 34:=UInt8.toNat_inj.1 (by simpa using h34)
  subst e34
  have hone:(one (s.drop from_)).map (fun x=>((⟨x.1,from_,x.2.1,x.2.2.1⟩:Tok),from_ + x.2.2.2)) = strTok s from_:=by
   rw [hd];simp only [one,strTok];rw [if_neg nL,if_neg nD,if_pos (by decide),Option.map_map];rfl
  simp only [hone]
  refine Wp.call (quoted_str hs h1 hc) (fun v σ3 hv=>?_) (fun v σ3 hv=>tok hv)
  have hv2:=tok hv
  cases ho:strTok s from_ with
  | none=>rw [ho] at hv;cases hv.1
  | some y=>
   obtain ⟨y,q⟩:=y
   rw [ho] at hv2
   obtain ⟨hv1,hv3⟩:=hv2
   cases hv1
   simp only [Tok.av,Tok.cells,xAgg_a,unC_c,xInt_i,xStr_s,nlC_n]
   exact Wp.ret ⟨rfl,hv3⟩
 ·have e39:c = 39:=UInt8.toNat_inj.1 (by simpa using h39)
  subst e39
  have hone:(one (s.drop from_)).map (fun x=>((⟨x.1,from_,x.2.1,x.2.2.1⟩:Tok),from_ + x.2.2.2)) = chrTok s from_:=by
   rw [hd];simp only [one,chrTok];rw [if_neg nL,if_neg nD,if_neg (by decide),if_pos (by decide)]
   cases escape 39 (s.drop (from_ + 1)) with
   | none=>rfl
   | some y=>
    obtain ⟨y,k⟩:=y
    simp only [List.drop_drop,List.head?_drop]
    split <;> rfl
  simp only [hone]
  refine Wp.call (quoted_chr hs h1 hc) (fun v σ3 hv=>?_) (fun v σ3 hv=>tok hv)
  have hv2:=tok hv
  cases ho:chrTok s from_ with
  | none=>rw [ho] at hv;cases hv.1
  | some y=>
   obtain ⟨y,q⟩:=y
   rw [ho] at hv2
   obtain ⟨hv1,hv3⟩:=hv2
   cases hv1
   simp only [Tok.av,Tok.cells,xAgg_a,unC_c,xInt_i,xStr_s,nlC_n]
   exact Wp.ret ⟨rfl,hv3⟩
 ·refine Wp.le (F:=fun u=>f12_j3_t (L12 u.n) u.n (some (p,0)) from_ 0 0 [] 0 σ2) ?_ fun u=>f12_j3_e
  simp only [f12_j3_t]
  refine Wp.call (marks_fn kn1) (fun v σ3 hv=>?_) (fun v σ3 hv=>by cases hv.1)
  obtain ⟨hv,rfl⟩:=hv
  cases hv
  simp only [xSl_s]
  have hones:∀ o,one (s.drop from_) = o → o = (marks.find? fun m=>m.isPrefixOf (s.drop from_)).map fun m=>(5,m,0,m.length):=fun o ho=>by
   rw [← ho,hd];simp only [one];rw [if_neg nL,if_neg nD,if_neg (by simpa using h34),if_neg (by simpa using h39)]
  have hloop:=mark_loop (i9:=0) (i10:=0) (i12:=0) (s11:=[]) (b:=σ2.length) (c:=some marks.length) (σ0:=σ) (σ:=σ2 ++ [.cells (marks.map .str) .ro]) hs hfrom h1.app (by unfold cellsAt;rw [List.getElem?_append_right (Nat.le_refl _)];simp) (k1.trans (Kp.app l1)) hones marks.length 0 (by omega) (by simp)
  ·rw [show ((0:Nat):Int) = 0 from rfl] at hloop
   generalize σ2 ++ [.cells (marks.map .str) .ro] = σ3 at hloop ⊢
   generalize marks.length = ml at hloop ⊢
   refine Wp.fresh1 (F:=fun n m=>f12_l6 (L12 n) m (some (p,0)) from_ (some (σ2.length,0)) ml (some ml) 1 ml (0:Int) 0 0 [] 0 σ3) ?_
   exact hloop
end
end Go.Front

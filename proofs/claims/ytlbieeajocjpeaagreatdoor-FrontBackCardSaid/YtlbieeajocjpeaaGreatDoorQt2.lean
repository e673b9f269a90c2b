/- strings.NewReplacer's table is built: (*Replacer).build, buildOnce. -/
import Derived.Test.YtlbieeajocjpeaaGreatDoorQt1
set_option linter.unusedSimpArgs false
set_option linter.unusedVariables false
namespace Go.Front
open Go.AM Go.Proofs
def olds:List (List UInt8):=[[10],[92,110],[9],[92,116],[92],[92,92],[34],[92,34]]
noncomputable abbrev L137 (n:Nat):Leaf:=pt Tryz.prog Lb 137 n
theorem j8_eq {L:Leaf} {n n3 z5:Nat} {x1:AV} {a2:Ad} {c4:On} {σ:St}:f137_j8_t L n x1 a2 n3 c4 z5 σ =
  makeK Tryz.prog 9 1 (0:Int) (IntKind.wrap .i64 (Int.tdiv (n3:Int) (2:Int))) σ fun σ6=>
  stK (σ6 ++ [AObj.cells (List.replicate 257 nilS) (.rw (.box 209))]:St) σ6.length 0 (List.replicate 256 nilS ++ [.slice (some (σ.length,0)) 0 (some ((IntKind.wrap .i64 (Int.tdiv (n3:Int) (2:Int)))).toNat) 1]) fun σ7=>
  f137_l10 L n x1 a2 n3 c4 z5 σ6.length 0 (IntKind.wrap .i64 ((n3:Int) - (2:Int))) σ7:=by kernel_rfl
theorem zero9':zeroOf Tryz.prog 9 = some (.str []):=by kernel_rfl
theorem bytes9:bytesOfT Tryz.prog 9 = 16:=by kernel_rfl
structure Bs (σ0 σ:St) (q h m:Nat):Prop where
 up:Up σ0 σ
 q0:σ0.length ≤ q
 h0:σ0.length ≤ h
 hq:h ≠ q
 hist:∃ ys w,σ[h]? = some (.cells ys (.rw w)) ∧ m ≤ ys.length ∧ ys.take m = (SP.take m).map (fun c=>AV.str [c]) ∧ (0 < m → ys.length = m)
 box:∃ cs kk,σ[q]? = some (.cells cs (.rw (.box 209))) ∧ cs.length = 257 ∧ cs[256]? = some (.slice (some (h,0)) m kk 1) ∧ (∀ c:UInt8,c ∉ SP.take m → cs[c.toNat]? = some nilS) ∧
  ∀ c l,c ∈ SP.take m → rep c = some l → ∃ p k,cs[c.toNat]? = some (.slice (some (p,0)) 2 k 1) ∧ cellsAt σ p = some (bytesAV l) ∧ p ≠ h ∧ p ≠ q
theorem sp_mem {c:UInt8} {l:List UInt8} (h:rep c = some l):c ∈ SP:=by
 rcases rep_cases c with ⟨e,_⟩ | ⟨e,_⟩ | ⟨e,_⟩ | ⟨e,_⟩ | ⟨_,_,_,_,e⟩
 ·subst e;decide
 ·subst e;decide
 ·subst e;decide
 ·subst e;decide
 ·rw [e] at h;cases h
theorem Bs.tab {σ0 σ:St} {q h:Nat} (hb:Bs σ0 σ q h 4):Tab σ q:=by
 obtain ⟨cs,kk,h1,h2,h3,h4,h5⟩:=hb.box
 obtain ⟨ys,w,g1,g2,g3,g4⟩:=hb.hist
 refine ⟨cs,by unfold cellsAt;rw [h1],fun c hc=>h4 c fun hm=>?_,fun c l hc=>?_,h,kk,h3,?_⟩
 ·have:SP.take 4 = SP:=rfl
  rw [this] at hm
  simp only [SP,List.mem_cons,List.not_mem_nil,or_false] at hm
  rcases hm with rfl | rfl | rfl | rfl <;> cases hc
 ·obtain ⟨p,k,a,b,_⟩:=h5 c l (sp_mem hc) hc
  exact ⟨p,k,a,b⟩
 ·have:ys = SP.map fun c=>AV.str [c]:=by
   rw [List.take_of_length_le (by rw [g4 (by decide)];exact Nat.le_refl _)] at g3
   exact g3
  unfold cellsAt;rw [g1,this]
section
variable {Q:Post} {σ0 σ:St} {q h g:Nat}
theorem old_at {i:Nat} {c:UInt8} {m:Nat} (hm:m < 4) (hi:i = 6 - 2 * m) (hc:SP[m]? = some c):olds[i]? = some [c] ∧ ∃ l,rep c = some l ∧ olds[i + 1]? = some l:=by
 have:m = 0 ∨ m = 1 ∨ m = 2 ∨ m = 3:=by omega
 rcases this with rfl | rfl | rfl | rfl <;> (simp [SP] at hc;subst hc;subst hi;exact ⟨rfl,_,rfl,rfl⟩)
theorem ldO (hg:cellsAt σ g = some (olds.map .str)) {i:Nat} {s:List UInt8} (hi:olds[i]? = some s) (f:AV → Out):ldK Tryz.prog 9 σ g (0 + (((i:Int)).toNat * 1)) f = f (.str s):=
 ldc hg agg9 (by rw [List.getElem?_map];simp only [Int.toNat_natCast,Nat.zero_add,Nat.mul_one,hi];rfl)
theorem Bs.round {m:Nat} {kg:Option Nat} (hb:Bs σ0 σ q h m) (hm:m < 4) (hg:cellsAt σ0 g = some (olds.map .str)) {x1:AV}
  (hk:∀ σ' h',Bs σ0 σ' q h' (m + 1) → Wp Q fun u=>f137_l10 (L137 u.n) u.m1 x1 (some (g,0)) 8 kg 1 q 0 (IntKind.wrap .i64 (((6 - 2 * m:Nat):Int) - 2)) σ') :
  Wp Q fun u=>f137_l10 (L137 u.n) u.m1 x1 (some (g,0)) 8 kg 1 q 0 ((6 - 2 * m:Nat):Int) σ:=by
 obtain ⟨c,hc⟩:∃ c,SP[m]? = some c:=⟨SP[m]'(by simpa [SP] using hm),List.getElem?_eq_getElem (by simpa [SP] using hm)⟩
 obtain ⟨ho1,l,hr,ho2⟩:=old_at hm rfl hc
 have hgσ:=hb.up.cells hg
 obtain ⟨cs,kk,b1,b2,b3,b4,b5⟩:=hb.box
 obtain ⟨ys,w,g1,g2,g3,g4⟩:=hb.hist
 have hl2:=rep_len hr
 have hql:=lt_of b1
 have hhl:=lt_of g1
 have hq0:=hb.q0
 have hh0:=hb.h0
 have hul:=hb.up.len
 generalize hi:6 - 2 * m = i at *
 have w1:IntKind.wrap .i64 ((i:Int) + 1) = ((i + 1:Nat):Int):=by rw [wrap64 (by omega) (by omega)];omega
 have hcm:c ∉ SP.take m:=by
  have:m = 0 ∨ m = 1 ∨ m = 2 ∨ m = 3:=by omega
  rcases this with rfl | rfl | rfl | rfl <;> (simp [SP] at hc;subst hc;decide)
 have hsnoc:SP.take (m + 1) = SP.take m ++ [c]:=by rw [List.take_add_one,hc];rfl
 refine Wp.round1 (F:=fun n m'=>f137_l10 (L137 n) m' x1 (some (g,0)) 8 kg 1 q 0 (i:Int) σ) (fun n m'=>f137_l10_e) ?_
 have hcq:cellsAt σ q = some cs:=by unfold cellsAt;rw [b1]
 have ld53 (f:AV → Out):ldK Tryz.prog 53 σ q ((0 + 0) + (((c.toNat:Int)).toNat * 1)) f = f nilS:=ldc hcq agg53 (by simpa using b4 c hcm)
 have ld68 (f:AV → Out):ldK Tryz.prog 68 σ q (0 + 256) f = f (.slice (some (h,0)) m kk 1):=ldc hcq agg68 (by simpa using b3)
 simp only [f137_l10_t,idxK_ok (show (0:Int) ≤ (i:Int) ∧ (i:Int) < ((8:Nat):Int) from ⟨by omega,by omega⟩),derefK_s,szK_s,ldO hgσ ho1,xStr_s,byteK_ok (s:=[c]) (i:=0) (b:=c) (by decide) rfl,w1,
  idxK_ok (show (0:Int) ≤ ((i + 1:Nat):Int) ∧ ((i + 1:Nat):Int) < ((8:Nat):Int) from ⟨by omega,by omega⟩),ldO hgσ ho2,idx256,ld53,nilS,xSl_s,eqS53,ld68]
 refine Wp.pos (by simp) (Wp.pos rfl ?_)
 have hby (f:List UInt8 → Out):bytsK (σ ++ [AObj.cells [.int .u8 (c.toNat:Int)] (.rw (.row 5))]) (some (σ.length,0)) 1 1 f = f [c]:=by
  unfold bytsK
  simp only
  have:cellsAt (σ ++ [AObj.cells [.int .u8 (c.toNat:Int)] (.rw (.row 5))]) σ.length = some (bytesAV [c]):=by
   unfold cellsAt
   rw [List.getElem?_append_right (Nat.le_refl _)];simp [bytesAV]
  rw [if_pos trivial,this]
  simp only
  rw [if_pos (by simp [bytesAV]),List.drop_zero,List.take_of_length_le (by simp [bytesAV]),bytesOf_b]
 simp only [hby]
 generalize hσ1:σ ++ [AObj.cells [.int .u8 (c.toNat:Int)] (.rw (.row 5))] = σ1
 have l1:σ1.length = σ.length + 1:=by rw [← hσ1];simp
 have a1 (x:Nat) (hx:x < σ.length):σ1[x]? = σ[x]?:=by rw [← hσ1];exact List.getElem?_append_left hx
 refine Wp.app1 (cs:=ys) (m:=w) (by rw [a1 h hhl];exact g1) (by omega) ⟨by omega,by omega⟩ ?_
 rw [Nat.mul_one,List.drop_zero,g3]
 generalize hH:AObj.cells ((SP.take m).map (fun c=>AV.str [c]) ++ [.str [c]]) (.rw (joinW w 9)) = H
 generalize hσ2:σ1.set h .dead ++ [H] = σ2
 have l2:σ2.length = σ.length + 2:=by rw [← hσ2];simp [l1]
 have a2 (x:Nat) (hx:x < σ.length) (hne:x ≠ h):σ2[x]? = σ[x]?:=by
  rw [← hσ2,List.getElem?_append_left (by simp [l1];omega),List.getElem?_set_ne (by omega)];exact a1 x hx
 have a2':σ2[σ1.length]? = some H:=by rw [← hσ2,List.getElem?_append_right (by simp)];simp
 have setOne (xs:List AV) (k:Nat) (y:AV):setMany xs k [y] = xs.set k y:=rfl
 refine Wp.st (cs:=cs) (m:=.box 209) (by rw [a2 q hql (Ne.symm hb.hq)];exact b1) (by simp [b2]) ?_
 rw [setOne,Nat.zero_add]
 generalize hσ3:σ2.set q (.cells (cs.set 256 (.slice (some (σ1.length,0)) (m + 1) none 1)) (.rw (.box 209))) = σ3
 have l3:σ3.length = σ.length + 2:=by rw [← hσ3];simp [l2]
 have a3q:σ3[q]? = some (.cells (cs.set 256 (.slice (some (σ1.length,0)) (m + 1) none 1)) (.rw (.box 209))):=by rw [← hσ3];exact List.getElem?_set_self (by omega)
 have a3 (x:Nat) (hx:x ≠ q):σ3[x]? = σ2[x]?:=by rw [← hσ3];exact List.getElem?_set_ne (Ne.symm hx)
 have hP (f:Nat):True:=trivial
 refine Wp.st (cs:=cs.set 256 (.slice (some (σ1.length,0)) (m + 1) none 1)) (m:=.box 209) (by rw [List.getElem?_append_left (by omega)];exact a3q) (by simp [b2];have:=c.toNat_lt;omega) ?_
 rw [setOne]
 simp only [Nat.zero_add,Nat.mul_one,Int.toNat_natCast]
 generalize hσ4:(σ3 ++ [AObj.cells (bytesAV l) (.rw (.row 5))]).set q (.cells ((cs.set 256 (.slice (some (σ1.length,0)) (m + 1) none 1)).set c.toNat (.slice (some (σ3.length,0)) l.length none 1)) (.rw (.box 209))) = σ4
 have a4q:σ4[q]? = some (.cells ((cs.set 256 (.slice (some (σ1.length,0)) (m + 1) none 1)).set c.toNat (.slice (some (σ3.length,0)) l.length none 1)) (.rw (.box 209))):=by rw [← hσ4];exact List.getElem?_set_self (by simp;omega)
 have a4 (x:Nat) (hx:x ≠ q) (hl:x < σ3.length):σ4[x]? = σ3[x]?:=by rw [← hσ4,List.getElem?_set_ne (Ne.symm hx)];exact List.getElem?_append_left hl
 have a4p:σ4[σ3.length]? = some (.cells (bytesAV l) (.rw (.row 5))):=by rw [← hσ4,List.getElem?_set_ne (by omega),List.getElem?_append_right (Nat.le_refl _)];simp
 have hc256:c.toNat < 256:=c.toNat_lt
 refine hk σ4 σ1.length ⟨?_,hq0,by omega,by omega,?_,?_⟩
 ·refine ⟨by rw [← hσ4];simp;omega,fun x hx=>?_⟩
  rw [a4 x (by omega) (by omega),a3 x (by omega),a2 x (by omega) (by omega)]
  exact hb.up.same x hx
 ·refine ⟨_,_,(by rw [a4 _ (by omega) (by omega),a3 _ (by omega),a2',← hH]),?_,?_,?_⟩
  ·simp [SP];omega
  ·rw [List.take_of_length_le (by simp [SP];omega),hsnoc,List.map_append];rfl
  ·intro _;simp [SP];omega
 ·refine ⟨_,none,a4q,by simp [b2],?_,fun d hd=>?_,fun d ld hd hrd=>?_⟩
  ·rw [List.getElem?_set_ne (by omega),List.getElem?_set_self (by omega)]
  ·rw [hsnoc,List.mem_append,List.mem_singleton] at hd
   have hdc:d ≠ c:=fun e=>hd (.inr e)
   have hne:c.toNat ≠ d.toNat:=fun e=>hdc (UInt8.toNat_inj.1 e).symm
   have:=d.toNat_lt
   rw [List.getElem?_set_ne hne,List.getElem?_set_ne (by omega)]
   exact b4 d fun h=>hd (.inl h)
  ·by_cases hdc:d = c
   ·subst hdc
    rw [hr] at hrd;cases hrd
    refine ⟨σ3.length,none,?_,by unfold cellsAt;rw [a4p],by omega,by omega⟩
    rw [List.getElem?_set_self (by simp [b2];omega),hl2]
   ·have hd':d ∈ SP.take m:=by
     rw [hsnoc,List.mem_append,List.mem_singleton] at hd
     exact hd.resolve_right hdc
    have hne:c.toNat ≠ d.toNat:=fun e=>hdc (UInt8.toNat_inj.1 e).symm
    have:=d.toNat_lt
    obtain ⟨p,k,p1,p2,p3,p4⟩:=b5 d ld hd' hrd
    have hpl:p < σ.length:=by
     unfold cellsAt at p2
     split at p2
     ·exact lt_of ‹_›
     ·cases p2
    refine ⟨p,k,?_,?_,by omega,p4⟩
    ·rw [List.getElem?_set_ne hne,List.getElem?_set_ne (by omega)];exact p1
    ·unfold cellsAt at p2 ⊢
     rw [a4 p p4 (by omega),a3 p p4,a2 p hpl p3];exact p2
theorem l10_all {kg:Option Nat} {x1:AV} (hg:cellsAt σ0 g = some (olds.map .str)) (hk:∀ σ' h',Bs σ0 σ' q h' 4 → Wp Q fun u=>f137_j12 (L137 u.n) x1 q 0 σ') (hb:Bs σ0 σ q h 0) :
  Wp Q fun u=>f137_l10 (L137 u.n) u.m1 x1 (some (g,0)) 8 kg 1 q 0 (6:Int) σ:=by
 have w (a b:Int) (h:IntKind.wrap .i64 a = b):IntKind.wrap .i64 a = b:=h
 refine hb.round (by omega) hg fun σ1 h1 b1=>?_
 rw [show IntKind.wrap .i64 (((6 - 2 * 0:Nat):Int) - 2) = ((6 - 2 * 1:Nat):Int) by decide]
 refine b1.round (by omega) hg fun σ2 h2 b2=>?_
 rw [show IntKind.wrap .i64 (((6 - 2 * 1:Nat):Int) - 2) = ((6 - 2 * 2:Nat):Int) by decide]
 refine b2.round (by omega) hg fun σ3 h3 b3=>?_
 rw [show IntKind.wrap .i64 (((6 - 2 * 2:Nat):Int) - 2) = ((6 - 2 * 3:Nat):Int) by decide]
 refine b3.round (by omega) hg fun σ4 h4 b4=>?_
 rw [show IntKind.wrap .i64 (((6 - 2 * 3:Nat):Int) - 2) = -2 by decide]
 refine Wp.round1 (F:=fun n m'=>f137_l10 (L137 n) m' x1 (some (g,0)) 8 kg 1 q 0 (-2:Int) σ4) (fun n m'=>f137_l10_e) ?_
 simp only [f137_l10_t]
 exact Wp.neg rfl (hk σ4 h4 b4)
theorem l4_all {kg:Option Nat} {x1:AV} (hg:cellsAt σ g = some (olds.map .str)) (hk:Wp Q fun u=>f137_j6 (L137 u.n) x1 (some (g,0)) 8 kg 1 σ) :
  ∀ (m i:Nat),i + 2 * m = 8 → Wp Q fun u=>f137_l4 (L137 u.n) u.m1 x1 (some (g,0)) 8 kg 1 (i:Int) σ:=by
 intro m
 induction m with
 | zero=>
  intro i hi
  obtain rfl:i = 8:=by omega
  refine Wp.round1 (F:=fun n m'=>f137_l4 (L137 n) m' x1 (some (g,0)) 8 kg 1 ((8:Nat):Int) σ) (fun n m'=>f137_l4_e) ?_
  simp only [f137_l4_t]
  exact Wp.neg rfl hk
 | succ m ih=>
  intro i hi
  have ih:=ih (i + 2) (by omega)
  obtain ⟨s1,s2,h1,h2,h3,h4⟩:∃ s1 s2,olds[i]? = some s1 ∧ olds[i + 1]? = some s2 ∧ s1.length = 1 ∧ s2.length = 2:=by
   have:i = 0 ∨ i = 2 ∨ i = 4 ∨ i = 6:=by omega
   rcases this with rfl | rfl | rfl | rfl <;> exact ⟨_,_,rfl,rfl,rfl,rfl⟩
  have w1:IntKind.wrap .i64 ((i:Int) + 1) = ((i + 1:Nat):Int):=by rw [wrap64 (by omega) (by omega)];omega
  have w2:IntKind.wrap .i64 ((i:Int) + 2) = ((i + 2:Nat):Int):=by rw [wrap64 (by omega) (by omega)];omega
  refine Wp.round1 (F:=fun n m'=>f137_l4 (L137 n) m' x1 (some (g,0)) 8 kg 1 (i:Int) σ) (fun n m'=>f137_l4_e) ?_
  simp only [f137_l4_t,idxK_ok (show (0:Int) ≤ (i:Int) ∧ (i:Int) < ((8:Nat):Int) from ⟨by omega,by omega⟩),derefK_s,szK_s,ldO hg h1,xStr_s,w1,w2,
   idxK_ok (show (0:Int) ≤ ((i + 1:Nat):Int) ∧ ((i + 1:Nat):Int) < ((8:Nat):Int) from ⟨by omega,by omega⟩),ldO hg h2,h3,h4]
  exact Wp.pos (by simp;omega) (Wp.neg rfl (Wp.pos rfl ih))
theorem build_fn {b:Nat} {kg:Option Nat} {x0 x1 x2 x3:AV} (hb:cellsAt σ b = some [x0,x1,x2,x3,.slice (some (g,0)) 8 kg 1]) (hg:cellsAt σ g = some (olds.map .str)) :
  Fw Tryz.prog Lb 137 [.ptr (some (b,0))] σ fun r σ'=>∃ q,r = .ret (.iface 210 (.ptr (some (q,0)))) ∧ Up σ σ' ∧ Tab σ' q:=by
 refine Fw.enter (fun n=>f137_e) ?_
 have hl (f:AV → Out):ldK Tryz.prog 68 σ b (0 + 4) f = f (.slice (some (g,0)) 8 kg 1):=ldc hb agg68 rfl
 simp only [f137_t,derefK_s,hl,xSl_s]
 refine Wp.neg rfl ?_
 refine Wp.le (F:=fun u=>f137_j2_t (L137 u.n) u.n .nilIface (some (g,0)) 8 kg 1 σ) ?_ fun u=>f137_j2_e
 simp only [f137_j2_t]
 refine Wp.fresh1 (F:=fun n m=>f137_l3 (L137 n) m .nilIface (some (g,0)) 8 kg 1 (0:Int) σ) ?_
 refine Wp.round1 (F:=fun n m'=>f137_l3 (L137 n) m' .nilIface (some (g,0)) 8 kg 1 (0:Int) σ) (fun n m'=>f137_l3_e) ?_
 have o0 (f:AV → Out):ldK Tryz.prog 9 σ g (0 + (((0:Int)).toNat * 1)) f = f (.str [10]):=ldO hg (i:=0) rfl f
 have o1 (f:AV → Out):ldK Tryz.prog 9 σ g (0 + (((1:Int)).toNat * 1)) f = f (.str [92,110]):=ldO hg (i:=1) rfl f
 simp only [f137_l3_t,idxK_ok (show (0:Int) ≤ (0:Int) ∧ (0:Int) < ((8:Nat):Int) by decide),derefK_s,szK_s,o0,xStr_s,show IntKind.wrap .i64 ((0:Int) + 1) = 1 by decide,show IntKind.wrap .i64 ((0:Int) + 2) = 2 by decide,
  idxK_ok (show (0:Int) ≤ (1:Int) ∧ (1:Int) < ((8:Nat):Int) by decide),o1]
 refine Wp.pos (by decide) (Wp.neg rfl (Wp.pos rfl ?_))
 refine l4_all hg ?_ 3 2 rfl
 refine Wp.le (F:=fun u=>f137_j6_t (L137 u.n) u.n .nilIface (some (g,0)) 8 kg 1 σ) ?_ fun u=>f137_j6_e
 simp only [f137_j6_t]
 refine Wp.le (F:=fun u=>f137_j8_t (L137 u.n) u.n .nilIface (some (g,0)) 8 kg 1 σ) ?_ fun u=>f137_j8_e
 simp only [j8_eq,show IntKind.wrap .i64 (Int.tdiv ((8:Nat):Int) 2) = 4 by decide,show IntKind.wrap .i64 (((8:Nat):Int) - 2) = 6 by decide]
 have hmk (f:St → Out):makeK Tryz.prog 9 1 (0:Int) (4:Int) σ f = f (σ ++ [AObj.cells (zeros [.str []] 4) (.rw (.row 9))]):=by
  unfold makeK
  rw [zero9']
  simp only [bytes9]
  rw [if_pos ⟨rfl,⟨by decide,by decide,by decide,by decide⟩,rfl⟩]
  rfl
 simp only [hmk]
 generalize hσ1:σ ++ [AObj.cells (zeros [.str []] 4) (.rw (.row 9))] = σ1
 have l1:σ1.length = σ.length + 1:=by rw [← hσ1];simp
 have hst (f:St → Out):=stNew (τ:=σ1) (cs:=List.replicate 257 nilS) (ys:=List.replicate 256 nilS ++ [.slice (some (σ.length,0)) 0 (some (4:Int).toNat) 1]) (m:=.box 209) (f:=f) (by rw [List.length_append,List.length_replicate,List.length_replicate];rfl)
 simp only [hst]
 refine Wp.fresh1 (F:=fun n m=>f137_l10 (L137 n) m .nilIface (some (g,0)) 8 kg 1 σ1.length 0 (6:Int) _) ?_
 refine l10_all (σ0:=σ) (h:=σ.length) hg (fun σ' h' hb'=>?_) ⟨?_,by omega,by omega,by omega,?_,?_⟩
 ·refine Wp.le (F:=fun u=>f137_j12_t (L137 u.n) u.n .nilIface σ1.length 0 σ') ?_ fun u=>f137_j12_e
  simp only [f137_j12_t]
  exact Wp.ret ⟨_,rfl,hb'.up,hb'.tab⟩
 ·rw [← hσ1,List.append_assoc];exact Up.app _
 ·refine ⟨zeros [.str []] 4,.row 9,?_,by simp,by simp,fun h=>by omega⟩
  rw [List.getElem?_append_left (by omega),← hσ1,List.getElem?_append_right (Nat.le_refl _)];simp
 ·refine ⟨List.replicate 256 nilS ++ [.slice (some (σ.length,0)) 0 (some (4:Int).toNat) 1],some (4:Int).toNat,by rw [List.getElem?_append_right (Nat.le_refl _),Nat.sub_self];rfl,by rw [List.length_append,List.length_replicate];rfl,?_,fun c _=>?_,fun c l hc=>?_⟩
  ·rw [List.getElem?_append_right (by rw [List.length_replicate];decide),List.length_replicate];rfl
  ·have:=c.toNat_lt
   rw [List.getElem?_append_left (by rw [List.length_replicate];omega),List.getElem?_replicate,if_pos (by omega)]
  ·cases hc
theorem well181 {t:TypeId} {v:AV} {x:Out}:wellK Tryz.prog 181 (AV.cells (.iface t v)) x = x:=wellK_ok (by kernel_rfl) (by kernel_rfl) rfl
theorem Tab.set5 {b:Nat} {cs cs':List AV} {m m':Wr} (ht:Tab σ q) (hb:σ[b]? = some (.cells cs m)) (h5:cs.length = 5):Tab (σ.set b (.cells cs' m')) q:=by
 obtain ⟨ds,h1,h2,h3,g,k,h4,h6⟩:=ht.box
 have keep {p:Nat} {es:List AV} (hp:cellsAt σ p = some es) (hl:es.length ≠ 5):cellsAt (σ.set b (.cells cs' m')) p = some es:=by
  have hne:b ≠ p:=by
   rintro rfl
   unfold cellsAt at hp
   rw [hb] at hp
   cases hp
   exact hl h5
  unfold cellsAt at hp ⊢
  rw [List.getElem?_set_ne hne];exact hp
 refine ⟨ds,keep h1 ?_,h2,fun c l hc=>?_,g,k,h4,keep h6 (by decide)⟩
 ·have:=(List.getElem?_eq_some_iff.1 h4).1
  omega
 ·obtain ⟨p,kp,a,b⟩:=h3 c l hc
  exact ⟨p,kp,a,keep b (by rw [bytesAV_len,rep_len hc];decide)⟩
theorem buildOnce_fn {b:Nat} {kg:Option Nat} {x0 x1 x2 x3:AV} {m:Mk} (hb:σ[b]? = some (.cells [x0,x1,x2,x3,.slice (some (g,0)) 8 kg 1] (.rw m))) (hg:cellsAt σ g = some (olds.map .str)) :
  Fw Tryz.prog Lb 130 [.ptr (some (b,0))] σ fun r σ'=>r = .ret (.tuple []) ∧ ∃ q,σ.length ≤ σ'.length ∧ (∀ x,x < σ.length → x ≠ b → σ'[x]? = σ[x]?) ∧ σ'[b]? = some (.cells [x0,x1,x2,.iface 210 (.ptr (some (q,0))),nilS] (.rw m)) ∧ Tab σ' q:=by
 refine Fw.enter (fun n=>f130_e) ?_
 simp only [f130_t]
 refine Wp.call (build_fn (by unfold cellsAt;rw [hb]) hg) (fun v σ2 hv=>?_) fun v σ' hv=>by obtain ⟨_,hv,_⟩:=hv;cases hv
 obtain ⟨q,hv,hu,ht⟩:=hv
 cases hv
 have hbl:=lt_of hb
 have hb2:σ2[b]? = some (.cells [x0,x1,x2,x3,.slice (some (g,0)) 8 kg 1] (.rw m)):=by rw [hu.same b hbl];exact hb
 simp only [derefK_s,well181]
 refine Wp.st (cs:=[x0,x1,x2,x3,.slice (some (g,0)) 8 kg 1]) (m:=m) hb2 (by simp [AV.cells]) ?_
 have e1:setMany [x0,x1,x2,x3,.slice (some (g,0)) 8 kg 1] (0 + 3) (AV.cells (.iface 210 (.ptr (some (q,0))))) = [x0,x1,x2,.iface 210 (.ptr (some (q,0))),.slice (some (g,0)) 8 kg 1]:=rfl
 rw [e1]
 have hl2:b < σ2.length:=lt_of hb2
 refine Wp.st (cs:=[x0,x1,x2,.iface 210 (.ptr (some (q,0))),.slice (some (g,0)) 8 kg 1]) (m:=m) (List.getElem?_set_self hl2) (by simp) ?_
 have e2:setMany [x0,x1,x2,.iface 210 (.ptr (some (q,0))),.slice (some (g,0)) 8 kg 1] (0 + 4) [.slice none 0 (some 0) 0] = [x0,x1,x2,.iface 210 (.ptr (some (q,0))),nilS]:=rfl
 rw [e2,List.set_set]
 refine Wp.ret ⟨rfl,q,by simp;exact hu.len,fun x hx hne=>?_,List.getElem?_set_self hl2,ht.set5 hb2 rfl⟩
 rw [List.getElem?_set_ne (Ne.symm hne)];exact hu.same x hx
end
end Go.Front

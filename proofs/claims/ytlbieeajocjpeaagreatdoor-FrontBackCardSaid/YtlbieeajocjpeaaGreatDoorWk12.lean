/- Expressions are written. -/
import Derived.Test.YtlbieeajocjpeaaGreatDoorWk11
set_option linter.unusedSimpArgs false
set_option linter.unusedVariables false
namespace Go.Front
open Go.AM Go.Proofs
theorem agg51:aggO Tryz.prog 51 = some false:=by kernel_rfl
theorem agg95:aggO Tryz.prog 95 = some false:=by kernel_rfl
theorem stNew {τ:St} {cs ys:List AV} {m:Mk} {f:St → Out} (h:ys.length = cs.length):stK (τ ++ [AObj.cells cs (.rw m)]) τ.length 0 ys f = f (τ ++ [AObj.cells ys (.rw m)]):=by
 unfold stK
 rw [List.getElem?_append_right (Nat.le_refl _)]
 simp only [Nat.sub_self,List.getElem?_cons_zero]
 rw [if_pos (by omega),List.set_append_right _ _ (Nat.le_refl _),setMany_all _ _ h]
 simp
def nodeC (y:Node) (kv:AV):List AV:=[.int .i64 y.kind,.int .i64 y.at_,.str y.text,.int .i64 y.n,.int .i64 y.m,kv]
def boxA (w:Nat):AObj:=.cells [.ptr (some (w,0))] (.rw (.box 51))
def boxB (y:Node) (kv:AV):AObj:=.cells (nodeC y kv) (.rw (.box 34))
def boxC (n0:Nat):AObj:=.cells [.func (.func 90) [] [.ptr (some (n0,0)),.ptr (some (n0 + 1,0))]] (.rw (.box 95))
structure Box (τ:St) (n0 w:Nat) (y:Node) (kv:AV):Prop where
 a:τ[n0]? = some (boxA w)
 b:τ[n0 + 1]? = some (boxB y kv)
 c:τ[n0 + 2]? = some (boxC n0)
section
variable {τ:St} {n0 w:Nat} {y:Node} {kv:AV}
theorem Box.ldW (h:Box τ n0 w y kv) (f:AV → Out):ldK Tryz.prog 51 τ n0 0 f = f (.ptr (some (w,0))):=ldc (cs:=[.ptr (some (w,0))]) (by unfold cellsAt;rw [h.a];rfl) agg51 rfl
theorem Box.cb (h:Box τ n0 w y kv):cellsAt τ (n0 + 1) = some (nodeC y kv):=by unfold cellsAt;rw [h.b];rfl
theorem Box.ldK0 (h:Box τ n0 w y kv) (f:AV → Out):ldK Tryz.prog 3 τ (n0 + 1) 0 f = f (.int .i64 y.kind):=ldc h.cb agg3 rfl
theorem Box.ldN (h:Box τ n0 w y kv) (f:AV → Out):ldK Tryz.prog 2 τ (n0 + 1) 3 f = f (.int .i64 y.n):=ldc h.cb agg2 rfl
theorem Box.ldT (h:Box τ n0 w y kv) (f:AV → Out):ldK Tryz.prog 9 τ (n0 + 1) 2 f = f (.str y.text):=ldc h.cb agg9 rfl
theorem Box.ldKids (h:Box τ n0 w y kv) (f:AV → Out):ldK Tryz.prog 32 τ (n0 + 1) 5 f = f kv:=ldc h.cb agg32 rfl
theorem Box.ldKids' (h:Box τ n0 w y kv) (f:AV → Out):ldK Tryz.prog 32 τ (n0 + 1) (0 + 5) f = f kv:=ldc h.cb agg32 rfl
theorem Box.ldF (h:Box τ n0 w y kv) (f:AV → Out):ldK Tryz.prog 95 τ (n0 + 2) 0 f = f (.func (.func 90) [] [.ptr (some (n0,0)),.ptr (some (n0 + 1,0))]):=ldc (cs:=[.func (.func 90) [] [.ptr (some (n0,0)),.ptr (some (n0 + 1,0))]]) (by unfold cellsAt;rw [h.c];rfl) agg95 rfl
end
theorem Ex.root_bin (e:Ex) (b:Nat):(e.root b).kind = 7 ↔ e.isBin = true:=by cases e <;> simp [Ex.root,Ex.isBin]
theorem Ex.root_ub (e:Ex) (b:Nat):((e.root b).kind = 6 ∨ (e.root b).kind = 7) ↔ e.isUB = true:=by cases e <;> simp [Ex.root,Ex.isUB]
theorem Ex.root_lv (e:Ex) (b:Nat) (h:(e.root b).kind = 7):∃ op:Nat,(e.root b).n = (op:Int) ∧ e.lv = level op:=by
 cases e <;> simp [Ex.root] at h
 exact ⟨_,rfl,rfl⟩
theorem Ex.root_nlv (e:Ex) (b:Nat) (h:¬ (e.root b).kind = 7):e.lv = 99:=by
 cases e <;> simp [Ex.root,Ex.lv] at h ⊢
section
variable {σ0 σ τ:St} {fr:Fr} {w tb n0 i k:Nat} {tv kv:AV} {l:List UInt8} {Q:Post} {t:List Node} {c2:Option Nat} {y z:Node}
theorem ldKid0 {b k:Nat} {ks:List Nat} (h:cellsAt σ b = some (kidsL ks)) (hk:ks[0]? = some k) (f:AV → Out):ldK Tryz.prog 3 σ b (0 + 0) f = f (.int .i64 (k:Int)):=
 ldc h agg3 (by simp [kidsL,hk])
theorem ldKid1 {b k:Nat} {ks:List Nat} (h:cellsAt σ b = some (kidsL ks)) (hk:ks[1]? = some k) (f:AV → Out):ldK Tryz.prog 3 σ b (0 + 1) f = f (.int .i64 (k:Int)):=
 ldc h agg3 (by simp [kidsL,hk])
theorem kind_cl (h:Pw σ0 fr τ w (.slice (some (tb,0)) t.length c2 6) l) (hb:Box τ n0 w y kv) (hkv:KAt σ0 kv y.kids) (hs:Src σ0 tb t) (hk:y.kids[i]? = some k) (hz:t[k]? = some z) :
  Fw Tryz.prog Lb 90 [.int .i64 (i:Int),.ptr (some (n0,0)),.ptr (some (n0 + 1,0))] τ fun r σ'=>r = .ret (.int .i64 z.kind) ∧ σ' = τ:=by
 obtain ⟨b,c,rfl,hbl⟩:=hkv.kid hk
 have hi:=(List.getElem?_eq_some_iff.1 hk).1
 have hkl:=(List.getElem?_eq_some_iff.1 hz).1
 refine Fw.enter (fun n=>f90_e) ?_
 simp only [f90_t,hb.ldW,xPtr_p,derefK_s,h.tree,xSl_s,hb.ldKids',szK_s,idxK_ok (show (0:Int) ≤ (i:Int) ∧ (i:Int) < (y.kids.length:Int) from ⟨by omega,by omega⟩),ldKid (h.up.cells hbl) hk,xInt_i,
  idxK_ok (show (0:Int) ≤ (k:Int) ∧ (k:Int) < (t.length:Int) from ⟨by omega,by omega⟩),(hs.up h.up).kind hz]
 exact Wp.ret ⟨rfl,rfl⟩
theorem level_cl {e:Ex} {b0:Nat} (h:Pw σ0 fr τ w (.slice (some (tb,0)) t.length c2 6) l) (hb:Box τ n0 w y kv) (hkv:KAt σ0 kv y.kids) (hs:Src σ0 tb t) (hk:y.kids[i]? = some k) (hz:t[k]? = some (e.root b0)) :
  Fw Tryz.prog Lb 94 [.int .i64 (i:Int),.ptr (some (n0 + 2,0)),.ptr (some (n0,0)),.ptr (some (n0 + 1,0))] τ fun r σ'=>r = .ret (.int .i64 (e.lv:Int)) ∧ σ' = τ:=by
 obtain ⟨b,c,hkv2,hbl⟩:=hkv.kid hk
 have hi:=(List.getElem?_eq_some_iff.1 hk).1
 have hkl:=(List.getElem?_eq_some_iff.1 hz).1
 refine Fw.enter (fun n=>f94_e) ?_
 simp only [f94_t,hb.ldF]
 refine Wp.callf (Wp.call (kind_cl h hb hkv hs hk hz) (fun v σ' hv=>?_) fun v σ' hv=>by cases hv.1)
 obtain ⟨hv,rfl⟩:=hv
 cases hv
 simp only [xInt_i]
 refine Wp.ite (fun h7=>?_) fun h7=>?_
 ·refine Wp.ret ⟨?_,rfl⟩
  rw [Ex.root_nlv e b0 (by simpa using h7)];rfl
 ·have h7:(e.root b0).kind = 7:=by simpa using h7
  obtain ⟨op,hop,hlv⟩:=Ex.root_lv e b0 h7
  rw [hkv2] at hb
  simp only [hb.ldW,xPtr_p,derefK_s,h.tree,xSl_s,hb.ldKids',szK_s,idxK_ok (show (0:Int) ≤ (i:Int) ∧ (i:Int) < (y.kids.length:Int) from ⟨by omega,by omega⟩),ldKid (h.up.cells hbl) hk,xInt_i,
   idxK_ok (show (0:Int) ≤ (k:Int) ∧ (k:Int) < (t.length:Int) from ⟨by omega,by omega⟩),(hs.up h.up).num hz,hop]
  refine Wp.calld (level_fn op) (fun v σ' hv=>?_) fun v σ' hv=>by cases hv.1
  obtain ⟨hv,rfl⟩:=hv
  cases hv
  simp only [xInt_i]
  exact Wp.ret ⟨by rw [hlv],rfl⟩
theorem op_fn (hk:Kn σ) {op:Nat} (h1:1 ≤ op) (h2:op ≤ 21):Fw Tryz.prog Lb 93 [.int .i64 (op:Int)] σ fun r σ'=>r = .ret (.str (opName op)) ∧ σ' = σ ++ [.cells (opNames.map .str) .ro]:=by
 refine Fw.enter (fun n=>f93_e) ?_
 simp only [f93_t]
 refine Wp.call (fields_fn hk (l:=opNames) (by decide) (by kernel_rfl)) (fun v σ' hv=>?_) fun v σ' hv=>by cases hv.1
 obtain ⟨hv,rfl⟩:=hv
 cases hv
 simp only [xSl_s]
 have hc:cellsAt (σ ++ [AObj.cells (opNames.map .str) .ro]) σ.length = some (opNames.map .str):=by unfold cellsAt;rw [List.getElem?_append_right (Nat.le_refl _)];simp
 have hlen:opNames.length = 21:=rfl
 have hw:IntKind.wrap .i64 ((op:Int) - 1) = ((op - 1:Nat):Int):=by rw [wrap64 (by omega) (by omega)];omega
 have hx:opNames[op - 1]? = some (opName op):=by
  unfold opName
  rw [List.getD_eq_getElem?_getD,List.getElem?_eq_getElem (by omega)];rfl
 simp only [hw,derefK_s,szK_s,idxK_ok (show (0:Int) ≤ ((op - 1:Nat):Int) ∧ ((op - 1:Nat):Int) < (opNames.length:Int) from ⟨by omega,by omega⟩),ldStr hc hx,xStr_s]
 exact Wp.ret ⟨rfl,rfl⟩
def ExS (σ0:St) (w:Nat) (tv:AV) (e:Ex) (x:Nat):Prop:=∀ fr σ l,Pw σ0 fr σ w tv l → (l ++ e.pr).length ≤ 1000000000 → Fw Tryz.prog Lb 66 [.ptr (some (w,0)),.int .i64 (x:Int)] σ (PwQ σ0 fr w tv (l ++ e.pr))
theorem within_fn {e:Ex} {x:Nat} {is:Bool} (he:ExS σ0 w tv e x) (h:Pw σ0 fr σ w tv l) (hl:(l ++ brack is e.pr).length ≤ 1000000000):Fw Tryz.prog Lb 92 [.ptr (some (w,0)),.int .i64 (x:Int),.bool is] σ (PwQ σ0 fr w tv (l ++ brack is e.pr)):=by
 refine Fw.enter (fun n=>f92_e) ?_
 simp only [f92_t]
 cases is with
 | true=>
  have hbr:l ++ brack true e.pr = l ++ [[40]].flatMap putS ++ e.pr ++ [[41]].flatMap putS:=by simp [brack]
  rw [hbr] at hl ⊢
  refine Wp.pos rfl ?_
  refine h.put [[40]] rfl rfl rfl (by decide) (by simp only [List.length_append] at hl ⊢;omega) fun σ1 h1=>?_
  refine Wp.le (F:=fun u=>f92_j1_t (pt Tryz.prog Lb 92 u.n) u.n (some (w,0)) x true σ1) ?_ fun u=>f92_j1_e
  simp only [f92_j1_t]
  refine Wp.call (he _ _ _ h1 (by simp only [List.length_append] at hl ⊢;omega)) (fun v σ' hv=>?_) fun v σ' hv=>by cases hv.1
  refine Wp.pos rfl ?_
  refine hv.2.put [[41]] rfl rfl rfl (by decide) hl fun σ2 h2=>Wp.ret ⟨rfl,h2⟩
 | false=>
  have hbr:l ++ brack false e.pr = l ++ e.pr:=by simp [brack]
  rw [hbr] at hl ⊢
  refine Wp.neg rfl ?_
  refine Wp.le (F:=fun u=>f92_j1_t (pt Tryz.prog Lb 92 u.n) u.n (some (w,0)) x false σ) ?_ fun u=>f92_j1_e
  simp only [f92_j1_t]
  refine Wp.call (he _ _ _ h hl) (fun v σ' hv=>?_) fun v σ' hv=>by cases hv.1
  exact Wp.neg rfl (Wp.ret ⟨rfl,hv.2⟩)
noncomputable abbrev L40 (n:Nat):Leaf:=pt Tryz.prog Lb 40 n
def joinT (i:Nat) (r:List (List UInt8)):List UInt8:=if i = 0 then joinC r else r.flatMap fun y=>putS [44] ++ y
theorem joinT_cons {i:Nat} {x:List UInt8} {r:List (List UInt8)}:joinT i (x :: r) = (if i = 0 then [] else putS [44]) ++ x ++ joinT (i + 1) r:=by
 unfold joinT
 by_cases h:i = 0
 ·subst h;simp [joinC]
 ·simp [h]
theorem joinT_nil {i:Nat}:joinT i [] = []:=by unfold joinT;split <;> rfl
def KP (σ0:St) (kv:AV) (ks:List Nat):Prop:=(∃ a c z,kv = .slice a ks.length c z) ∧ ∀ (i x:Nat),ks[i]? = some x → ∃ b c,kv = .slice (some (b,0)) ks.length c 1 ∧ ∀ σ,Up σ0 σ → ∀ f,ldK Tryz.prog 3 σ b (0 + ((i:Int)).toNat * 1) f = f (.int .i64 (x:Int))
theorem KAt.kp {ks:List Nat} (h:KAt σ0 kv ks):KP σ0 kv ks:=
 ⟨h.slice,fun i x hx=>by obtain ⟨b,c,h1,h2⟩:=h.kid hx;exact ⟨b,c,h1,fun σ hu f=>ldKid (hu.cells h2) hx f⟩⟩
theorem commas_loop {f:FuncId} {ks:List Nat} {outs:List (List UInt8)} (hlen:outs.length = ks.length) (hkl:ks.length ≤ 1000000) (hkv:KP σ0 kv ks) {a:Option (Nat × Nat)} {n z:Nat} {c:Option Nat} (he:kv = .slice a n c z)
  (hone:∀ (j k:Nat) (out:List UInt8),ks[j]? = some k → outs[j]? = some out → ∀ fr σ l,Pw σ0 fr σ w tv l → (l ++ out).length ≤ 1000000000 → Fw Tryz.prog Lb f [.ptr (some (w,0)),.int .i64 (k:Int)] σ (PwQ σ0 fr w tv (l ++ out))) :
  ∀ (k i:Nat) {l:List UInt8} {σ:St},i + k = ks.length → Pw σ0 fr σ w tv l → (l ++ joinT i (outs.drop i)).length ≤ 1000000000 →
  Wp (PwQ σ0 fr w tv (l ++ joinT i (outs.drop i))) fun u=>f40_l1 (L40 u.n) u.m1 (some (w,0)) (.func (.func f) [.ptr (some (w,0))] []) a n c z n i σ:=by
 intro k
 induction k with
 | zero=>
  intro i l σ hi h hl
  obtain ⟨_,_,_,he2⟩:=hkv.1
  rw [he2] at he
  cases he
  refine Wp.round1 (F:=fun n m=>f40_l1 (L40 n) m (some (w,0)) (.func (.func f) [.ptr (some (w,0))] []) a ks.length c z ks.length i σ) (fun n m=>f40_l1_e) ?_
  simp only [f40_l1_t]
  refine Wp.neg (by rw [decide_eq_false_iff_not];omega) (Wp.ret ⟨rfl,?_⟩)
  rw [List.drop_eq_nil_of_le (by omega),joinT_nil,List.append_nil];exact h
 | succ k ih=>
  intro i l σ hi h hl
  obtain ⟨x,hx⟩:∃ x,ks[i]? = some x:=⟨ks[i],List.getElem?_eq_getElem (by omega)⟩
  obtain ⟨o,ho⟩:∃ o,outs[i]? = some o:=⟨outs[i],List.getElem?_eq_getElem (by omega)⟩
  obtain ⟨b,c',hkv2,hbl⟩:=hkv.2 i x hx
  rw [hkv2] at he
  cases he
  have hw:IntKind.wrap .i64 ((i:Int) + 1) = ((i + 1:Nat):Int):=by rw [wrap64 (by omega) (by omega)];omega
  rw [drop_cons ho,joinT_cons,← List.append_assoc,← List.append_assoc] at hl ⊢
  refine Wp.round1 (F:=fun n m=>f40_l1 (L40 n) m (some (w,0)) (.func (.func f) [.ptr (some (w,0))] []) (some (b,0)) ks.length c 1 ks.length i σ) (fun n m=>f40_l1_e) ?_
  simp only [f40_l1_t,derefK_s,szK_s,hbl σ h.up,xInt_i,hw,idxK_ok (show (0:Int) ≤ (i:Int) ∧ (i:Int) < (ks.length:Int) from ⟨by omega,by omega⟩)]
  refine Wp.pos (by rw [decide_eq_true_eq];omega) (Wp.ite (fun hp=>?_) fun hp=>?_)
  ·have h0:¬ i = 0:=by simp at hp;omega
   rw [if_neg h0] at hl ⊢
   refine h.put [[44]] rfl rfl rfl (by decide) (by simp only [List.flatMap_cons,List.flatMap_nil,List.append_nil,List.length_append] at hl ⊢;omega) fun σ1 h1=>?_
   rw [show ([[44]]:List (List UInt8)).flatMap putS = putS [44] by simp] at h1
   refine Wp.callf (Wp.call (hone i x o hx ho _ _ _ h1 (by simp only [List.length_append] at hl ⊢;omega)) (fun v σ' hv=>?_) fun v σ' hv=>by cases hv.1)
   exact ih (i + 1) (by omega) hv.2 hl
  ·have h0:i = 0:=by simp at hp;omega
   rw [if_pos h0,List.append_nil] at hl ⊢
   refine Wp.callf (Wp.call (hone i x o hx ho _ _ _ h (by simp only [List.length_append] at hl ⊢;omega)) (fun v σ' hv=>?_) fun v σ' hv=>by cases hv.1)
   exact ih (i + 1) (by omega) hv.2 hl
theorem commas_fn {f:FuncId} {ks:List Nat} {outs:List (List UInt8)} (hlen:outs.length = ks.length) (hkl:ks.length ≤ 1000000) (hkv:KP σ0 kv ks)
  (hone:∀ (j k:Nat) (out:List UInt8),ks[j]? = some k → outs[j]? = some out → ∀ fr σ l,Pw σ0 fr σ w tv l → (l ++ out).length ≤ 1000000000 → Fw Tryz.prog Lb f [.ptr (some (w,0)),.int .i64 (k:Int)] σ (PwQ σ0 fr w tv (l ++ out)))
  (h:Pw σ0 fr σ w tv l) (hl:(l ++ joinC outs).length ≤ 1000000000):Fw Tryz.prog Lb 40 [.ptr (some (w,0)),kv,.func (.func f) [.ptr (some (w,0))] []] σ (PwQ σ0 fr w tv (l ++ joinC outs)):=by
 obtain ⟨a,c,z,rfl⟩:=hkv.1
 refine Fw.enter (fun n=>f40_e) ?_
 simp only [f40_t]
 have h0:=commas_loop (fr:=fr) hlen hkl hkv rfl hone ks.length 0 (by omega) h hl
 rw [show ((0:Nat):Int) = 0 from rfl] at h0
 exact Wp.fresh1 (F:=fun n m=>f40_l1 (L40 n) m (some (w,0)) (.func (.func f) [.ptr (some (w,0))] []) a ks.length c z ks.length 0 σ) h0
end
end Go.Front

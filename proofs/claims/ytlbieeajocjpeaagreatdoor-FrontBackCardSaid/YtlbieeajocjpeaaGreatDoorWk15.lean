/- Declarations are written; Print. -/
import Derived.Test.YtlbieeajocjpeaaGreatDoorWk14
set_option linter.unusedSimpArgs false
set_option linter.unusedVariables false
namespace Go.Front
open Go.AM Go.Proofs
theorem Dc.flats_sub {t:List Node}:∀ (l:List Dc) (b:Nat),Seg t b (Dc.flats b l) → ∀ (j:Nat) (x:Dc),l[j]? = some x → ∃ bj,Seg t bj (x.flat bj) ∧ (Dc.roots b l)[j]? = some (bj + x.size - 1)
 | [],b,h,j,x,hj=>by simp at hj
 | y :: l,b,h,0,x,hj=>by
  simp only [List.getElem?_cons_zero,Option.some.injEq] at hj;subst hj
  exact ⟨b,h.app.1,rfl⟩
 | y :: l,b,h,j + 1,x,hj=>by
  rw [List.getElem?_cons_succ] at hj
  have h2:=h.app.2
  rw [Dc.flat_len] at h2
  obtain ⟨bj,h3,h4⟩:=Dc.flats_sub l (b + y.size) h2 j x hj
  exact ⟨bj,h3,by simp only [Dc.roots,List.getElem?_cons_succ];exact h4⟩
theorem Dc.roots_len:∀ (l:List Dc) (b:Nat),(Dc.roots b l).length = l.length
 | [],b=>rfl
 | x :: l,b=>by simp [Dc.roots,Dc.roots_len l]
theorem Dc.sizes_len:∀ (l:List Dc),l.length ≤ Dc.sizes l
 | []=>by simp [Dc.sizes]
 | x :: l=>by have:=Dc.sizes_len l;have:=Dc.size_pos x;simp [Dc.sizes];omega
theorem KAt.cap {σ:St} {b n z:Nat} {c:Option Nat} {ks:List Nat} (h:KAt σ (.slice (some (b,0)) n c z) ks):∀ x,c = some x → ks.length ≤ x:=by
 cases h with
 | one b c hc hb=>exact hc
section
variable {σ0 σ τ:St} {fr:Fr} {w tb n0 i k:Nat} {tv kv:AV} {l:List UInt8} {Q:Post} {t:List Node} {c2:Option Nat} {y z:Node}
def DcS (σ0:St) (w:Nat) (tv:AV) (e:Dc) (x:Nat):Prop:=∀ fr σ l,Pw σ0 fr σ w tv l → (l ++ e.pr).length ≤ 1000000000 → Fw Tryz.prog Lb 16 [.ptr (some (w,0)),.int .i64 (x:Int)] σ (PwQ σ0 fr w tv (l ++ e.pr))
theorem decl_fn (hs:Src σ0 tb t) (htl:t.length ≤ 4096) (len:Nat) (e:Dc) (b:Nat) (hg:e.good len) (hseg:Seg t b (e.flat b)) (hq:e.hasText = true → QuoteS):DcS σ0 w (.slice (some (tb,0)) t.length c2 6) e (b + e.size - 1):=by
 intro fr σ l h hl
 refine Fw.enter (fun n=>f16_e) ?_
 cases e with
 | array a s ty v=>
  obtain ⟨_,hnm,hty,hn0,hn1⟩:=hg
  have hroot:t[b + (Dc.array a s ty v).size - 1]? = some ⟨21,a,s,v,ty,[]⟩:=hseg.one
  have hxl:=(List.getElem?_eq_some_iff.1 hroot).1
  obtain ⟨kv,hkv,hload⟩:=hs.kidsU hroot
  obtain ⟨_,hnode⟩:=hload _ h.up
  obtain ⟨ka,kc,kz,rfl⟩:=hkv.slice
  simp only [f16_t,derefK_s,h.tree,xSl_s,szK_s,idxK_ok (show (0:Int) ≤ ((b + (Dc.array a s ty v).size - 1:Nat):Int) ∧ ((b + (Dc.array a s ty v).size - 1:Nat):Int) < (t.length:Int) from ⟨by omega,by omega⟩),hnode,xAgg_a,unC_c,xInt_i,xStr_s,nlC_n]
  refine Wp.neg rfl (Wp.pos rfl (mapD ?_))
  have hkσ:=h.kn.up h.up
  have hlen:=hkσ.len
  simp only [xStr_s]
  refine Wp.ap (fun p hp=>?_) (format_wp (hkσ.app _) ⟨by omega,by omega⟩ ?_)
  ·simp only [List.mem_cons,List.not_mem_nil,or_false,or_self] at hp
   subst hp
   simp only;omega
  simp only [xStr_s]
  refine Wp.keeps (fun p hp=>?_) ?_
  ·simp only [List.mem_cons,List.not_mem_nil,or_false] at hp
   subst hp
   exact List.getElem?_append_left (show 1 < σ.length by omega)
  have hpr:(Dc.array a s ty v).pr = ([if (ty == 2) = true then [99,104,97,114] else [105,110,116],s,[91],Lib.itoa v,[93],[59]]:List (List UInt8)).flatMap putS:=by
   rcases hty with rfl | rfl <;> simp [Dc.pr]
  rw [hpr] at hl ⊢
  exact (h.grow (Up.app _)).putd [if (ty == 2) = true then [99,104,97,114] else [105,110,116],s,[91],Lib.itoa v,[93],[59]] rfl rfl rfl (by simp) hl fun σ3 h3=>Wp.ret ⟨rfl,h3⟩
 | var a s=>
  have hroot:t[b + (Dc.var a s).size - 1]? = some ⟨20,a,s,0,1,[]⟩:=hseg.one
  have hxl:=(List.getElem?_eq_some_iff.1 hroot).1
  obtain ⟨kv,hkv,hload⟩:=hs.kidsU hroot
  obtain ⟨_,hnode⟩:=hload _ h.up
  obtain ⟨ka,kc,kz,rfl⟩:=hkv.slice
  simp only [f16_t,derefK_s,h.tree,xSl_s,szK_s,idxK_ok (show (0:Int) ≤ ((b + (Dc.var a s).size - 1:Nat):Int) ∧ ((b + (Dc.var a s).size - 1:Nat):Int) < (t.length:Int) from ⟨by omega,by omega⟩),hnode,xAgg_a,unC_c,xInt_i,xStr_s,nlC_n]
  refine Wp.pos rfl ?_
  exact h.put [[105,110,116],s,[59]] rfl rfl rfl (by simp) (by simpa [Dc.pr] using hl) fun σ3 h3=>Wp.ret ⟨rfl,by simpa [Dc.pr] using h3⟩
 | fn a s ps bat ls=>
  obtain ⟨g1,g2,g3,g4,g5,g6,g7⟩:=hg
  have hroot:t[b + (Dc.fn a s ps bat ls).size - 1]? = some ⟨22,a,s,0,ps.length,(List.range' b ps.length) ++ [b + ps.length + Sm.sizes ls]⟩:=by
   have:=rootAt hseg (n:=ps.length + (Sm.sizes ls + 1)) (by simp [Sm.flats_len])
   rwa [show b + (ps.length + (Sm.sizes ls + 1)) = b + (Dc.fn a s ps bat ls).size - 1 from by simp only [Dc.size];omega] at this
  have hxl:=(List.getElem?_eq_some_iff.1 hroot).1
  obtain ⟨kv,hkv,hload⟩:=hs.kidsU hroot
  obtain ⟨_,hnode⟩:=hload _ h.up
  have hkm:((List.range' b ps.length) ++ [b + ps.length + Sm.sizes ls])[ps.length]? = some (b + ps.length + Sm.sizes ls):=by
   rw [List.getElem?_append_right (by simp)];simp
  obtain ⟨kb,c',hkv2,hbl⟩:=hkv.kid hkm
  have hkl:((List.range' b ps.length) ++ [b + ps.length + Sm.sizes ls]).length = ps.length + 1:=by simp
  have hcap:∀ x,c' = some x → ps.length + 1 ≤ x:=by
   have hkv':=hkv
   rw [hkv2] at hkv'
   intro x hx
   have:=hkv'.cap x hx
   rw [← hkl];exact this
  have hsz:ps.length + Sm.sizes ls + 2 ≤ 4096:=by simp only [Dc.size] at hxl;omega
  subst hkv2
  have hl':=hl
  simp only [Dc.pr,List.length_append] at hl'
  simp only [f16_t,derefK_s,h.tree,xSl_s,szK_s,idxK_ok (show (0:Int) ≤ ((b + (Dc.fn a s ps bat ls).size - 1:Nat):Int) ∧ ((b + (Dc.fn a s ps bat ls).size - 1:Nat):Int) < (t.length:Int) from ⟨by omega,by omega⟩),hnode,xAgg_a,unC_c,xInt_i,xStr_s,nlC_n]
  refine Wp.neg rfl (Wp.neg rfl (Wp.pos rfl ?_))
  refine h.put [[105,110,116],s,[40]] rfl rfl rfl (by simp) (by simp only [List.flatMap_cons,List.flatMap_nil,List.append_nil,List.length_append];omega) fun σ1 h1=>?_
  have hres (f:Option (Nat × Nat) → Nat → Option Nat → Out):resliceK (some (kb,0)) ((List.range' b ps.length) ++ [b + ps.length + Sm.sizes ls]).length c' 1 1 (0:Int) (ps.length:Int) f = f (some (kb,0)) ps.length c':=by
   have hle:(ps.length:Int) ≤ ((c'.getD ((List.range' b ps.length) ++ [b + ps.length + Sm.sizes ls]).length:Nat):Int):=by
    cases c' with
    | none=>simp only [Option.getD_none];omega
    | some x=>simp only [Option.getD_some];have:=hcap x rfl;omega
   unfold resliceK
   simp only
   rw [if_pos trivial,if_pos ⟨by omega,by omega,hle⟩]
   cases c' <;> simp
  simp only [hres]
  have hsp:Seg t b (ps.map parNode):=hseg.app.1.app.1
  have hkp:KP σ0 (.slice (some (kb,0)) ps.length c' 1) (List.range' b ps.length):=by
   refine ⟨⟨_,_,_,by rw [List.length_range']⟩,fun i x hx=>⟨kb,c',by rw [List.length_range'],fun σ hu f=>?_⟩⟩
   have hi:i < ps.length:=by have:=(List.getElem?_eq_some_iff.1 hx).1;simpa using this
   refine ldKid (hu.cells hbl) ?_ f
   rw [List.getElem?_append_left (by simpa using hi)];exact hx
  have hcom:=commas_fn (f:=41) (fr:=fr) (ks:=List.range' b ps.length) (outs:=ps.map fun p=>parS p.2.2 p.2.1) (σ0:=σ0) (w:=w) (tv:=.slice (some (tb,0)) t.length c2 6) (by simp) (by rw [List.length_range'];omega) hkp (fun j k out hk ho fr' σ' l' hp hl'=>by
   rw [List.getElem?_map] at ho
   obtain ⟨p,hp2,rfl⟩:=Option.map_eq_some_iff.1 ho
   have hj:j < ps.length:=(List.getElem?_eq_some_iff.1 hp2).1
   have hkj:k = b + j:=by rw [List.getElem?_range' hj] at hk;simpa using hk.symm
   subst hkj
   exact param_fn (y:=parNode p) hs (hsp j _ (by rw [List.getElem?_map,hp2];rfl)) rfl rfl hp hl') h1 (by simp only [List.flatMap_cons,List.flatMap_nil,List.append_nil,List.length_append];omega)
  refine Wp.call hcom (fun v σ2 hv=>?_) fun v σ' hv=>by cases hv.1
  refine hv.2.put [[41]] rfl rfl rfl (by simp) (by simp only [List.flatMap_cons,List.flatMap_nil,List.append_nil,List.length_append];omega) fun σ3 h3=>?_
  simp only [idxK_ok (show (0:Int) ≤ (ps.length:Int) ∧ (ps.length:Int) < (((List.range' b ps.length) ++ [b + ps.length + Sm.sizes ls]).length:Int) from ⟨by omega,by omega⟩),ldKid (h3.up.cells hbl) hkm,xInt_i]
  have hsb:Seg t (b + ps.length) ((Sm.block bat ls).flat (b + ps.length)):=by have:=hseg.app.1.app.2;rwa [List.length_map] at this
  have hB:=stmt_fn (w:=w) (c2:=c2) hs htl len (Sm.block bat ls).size (.block bat ls) (b + ps.length) (Nat.le_refl _) ⟨g5,g6⟩ hsb hq
  rw [show b + ps.length + (Sm.block bat ls).size - 1 = b + ps.length + Sm.sizes ls from by simp only [Sm.size];omega] at hB
  refine Wp.call (hB _ _ _ h3 (by simp only [Sm.pr,List.flatMap_cons,List.flatMap_nil,List.append_nil,List.length_append];omega)) (fun v σ4 hv=>?_) fun v σ' hv=>by cases hv.1
  exact Wp.ret ⟨rfl,by have:=hv.2;simpa [Dc.pr,Sm.pr] using this⟩
noncomputable abbrev L8 (n:Nat):Leaf:=pt Tryz.prog Lb 8 n
theorem decls_loop {ls:List Dc} {ks:List Nat} (hlen:ls.length = ks.length) (hkl:ks.length ≤ 1000000) (hkv:KAt σ0 kv ks) {a:Option (Nat × Nat)} {n z:Nat} {c:Option Nat} (he:kv = .slice a n c z) {N:Nat}
  (hone:∀ (j k:Nat) (x:Dc),ks[j]? = some k → ls[j]? = some x → DcS σ0 w tv x k)
  (hK:∀ σ',Pw σ0 fr σ' w tv (allPr ls) → Wp Q fun u=>f8_j2 (L8 u.n) (some (tb,0)) N c2 6 [] 0 w 0 σ') (htot:(allPr ls).length ≤ 1000000000) :
  ∀ (k i:Nat) {σ:St},i + k = ks.length → Pw σ0 fr σ w tv (allPr (ls.take i)) →
  Wp Q fun u=>f8_l1 (L8 u.n) u.m1 (some (tb,0)) N c2 6 [] 0 w 0 a n c z n i σ:=by
 intro k
 induction k with
 | zero=>
  intro i σ hi h
  obtain ⟨_,_,_,he2⟩:=hkv.slice
  rw [he2] at he
  cases he
  refine Wp.round1 (F:=fun n m=>f8_l1 (L8 n) m (some (tb,0)) N c2 6 [] 0 w 0 a ks.length c z ks.length i σ) (fun n m=>f8_l1_e) ?_
  simp only [f8_l1_t]
  refine Wp.neg (by rw [decide_eq_false_iff_not];omega) ?_
  rw [List.take_of_length_le (by omega)] at h
  exact hK σ h
 | succ k ih=>
  intro i σ hi h
  obtain ⟨x,hx⟩:∃ x,ks[i]? = some x:=⟨ks[i],List.getElem?_eq_getElem (by omega)⟩
  obtain ⟨o,ho⟩:∃ o,ls[i]? = some o:=⟨ls[i],List.getElem?_eq_getElem (by omega)⟩
  obtain ⟨b,c',hkv2,hbl⟩:=hkv.kid hx
  rw [hkv2] at he
  cases he
  have hw:IntKind.wrap .i64 ((i:Int) + 1) = ((i + 1:Nat):Int):=by rw [wrap64 (by omega) (by omega)];omega
  have htk:allPr (ls.take (i + 1)) = allPr (ls.take i) ++ o.pr:=by unfold allPr;rw [List.take_add_one,ho,List.flatMap_append];simp
  have hle:(allPr (ls.take (i + 1))).length ≤ (allPr ls).length:=by
   have:allPr ls = allPr (ls.take (i + 1)) ++ allPr (ls.drop (i + 1)):=by unfold allPr;rw [← List.flatMap_append,List.take_append_drop]
   rw [this,List.length_append];omega
  refine Wp.round1 (F:=fun n m=>f8_l1 (L8 n) m (some (tb,0)) N c2 6 [] 0 w 0 (some (b,0)) ks.length c 1 ks.length i σ) (fun n m=>f8_l1_e) ?_
  simp only [f8_l1_t,derefK_s,szK_s,ldKid (h.up.cells hbl) hx,xInt_i,hw,idxK_ok (show (0:Int) ≤ (i:Int) ∧ (i:Int) < (ks.length:Int) from ⟨by omega,by omega⟩)]
  refine Wp.pos (by rw [decide_eq_true_eq];omega) ?_
  refine Wp.call (hone i x o hx ho _ _ _ h (by rw [← htk];omega)) (fun v σ' hv=>?_) fun v σ' hv=>by cases hv.1
  refine ih (i + 1) (by omega) ?_
  rw [htk];exact hv.2
theorem string_w (h:Pw σ0 (frB σ0) σ w tv l) (hl:l.length ≤ 1000000000):Fw Tryz.prog Lb 17 [.ptr (some (w,1))] σ fun r σ'=>r = .ret (.str l) ∧ Up σ0 σ':=by
 rcases h.bu with ⟨rfl,a,z,_,h2⟩ | ⟨g,h1,h2,h3,h4,h5⟩
 ·refine Fw.lib (r:=.ret (.str [])) (σ':=σ) ?_ ⟨rfl,h.up⟩
  have hc:cellsAt σ w = some [tv,.ptr a,.slice none 0 (some 0) z]:=by unfold cellsAt;rw [h2]
  simp only [Lb,lbString,hc,List.getElem?_cons_succ,List.getElem?_cons_zero]
 ·refine Fw.lib (r:=.ret (.str l)) (σ':=σ.set g (.cells (bytesAV l) .ro)) ?_ ⟨rfl,?_⟩
  ·have hc:cellsAt σ w = some [tv,.ptr (some (w,1)),.slice (some (g,0)) l.length none 1]:=by unfold cellsAt;rw [h2]
   have h0:0 < l.length:=List.length_pos_iff.2 h1
   simp only [Lb,lbString,hc,List.getElem?_cons_succ,List.getElem?_cons_zero]
   rw [if_pos ⟨trivial,h0,by omega⟩,h3]
   simp only
   rw [if_pos ⟨trivial,by rw [bytesAV_len];omega⟩,List.drop_zero,List.take_of_length_le (by rw [bytesAV_len];omega),bytesX_bytes]
  ·have hg:σ0.length ≤ g:=by
    unfold frB at h5
    rcases Nat.lt_or_ge g σ0.length with hl | hl
    ·rw [List.getElem?_eq_getElem hl] at h5;cases h5
    ·exact hl
   exact ⟨by simpa using h.up.len,fun x hx=>by rw [List.getElem?_set_ne (by omega)];exact h.up.same x hx⟩
def printQ (σ0:St) (s:List UInt8):Post:=fun r σ'=>Up σ0 σ' ∧ r = .ret (if s.length > 8192 then .tuple [.str [],.int .i64 15] else .tuple [.str s,.int .i64 0])
theorem print_fn (hkn:Kn σ0) {ls:List Dc} {len:Nat} (hs:Src σ0 tb (allNodes ls)) (htl:(allNodes ls).length ≤ 4096) (hg:∀ x ∈ ls,x.good len) (hq:∀ x ∈ ls,x.hasText = true → QuoteS) (hpl:(allPr ls).length ≤ 1000000000)
  {n:Nat} (hn:n ≤ 1000000000) {nd2:List Node} (hread:readP (strm (allPr ls)) (0:Nat) n = some (.ok nd2)) (hsame:(allNodes ls).map Node.strip = nd2.map Node.strip) :
  Fw Tryz.prog Lb 8 [.slice (some (tb,0)) (allNodes ls).length c2 6] σ0 (printQ σ0 (allPr ls)):=by
 obtain ⟨hfine,hF0,h23⟩:=all_fine ls hg
 have hpos:0 < (allNodes ls).length:=by simp [allNodes]
 have hroot:(allNodes ls)[(allNodes ls).length - 1]? = some ⟨23,0,[],0,0,Dc.roots 0 ls⟩:=by
  have hl:(allNodes ls).length - 1 = Dc.sizes ls:=by simp [allNodes,Dc.flats_len]
  rw [hl]
  have:=rootAt (t:=allNodes ls) (b:=0) (Seg.refl _) (Dc.flats_len ls 0)
  rwa [Nat.zero_add] at this
 refine Fw.enter (fun n=>f8_e) ?_
 have hw:IntKind.wrap .i64 (((allNodes ls).length:Int) - 1) = (((allNodes ls).length - 1:Nat):Int):=by rw [wrap64 (by omega) (by omega)];omega
 simp only [f8_t,hw]
 refine Wp.call (shaped_fn hkn hs htl hpos hfine hF0 h23) (fun v σ1 hv=>?_) fun v σ' hv=>by cases hv.1
 obtain ⟨hv,hu1⟩:=hv
 cases hv
 simp only [xBool_b]
 refine Wp.neg rfl ?_
 have hs1:=hs.up hu1
 have hk1:=hkn.up hu1
 obtain ⟨kv,hkv,hload⟩:=hs1.kidsU hroot
 obtain ⟨h32,_⟩:=hload _ (Up.app [AObj.cells [.slice (some (tb,0)) (allNodes ls).length c2 6,.ptr none,.slice none 0 (some 0) 0] (.rw (.box 57))])
 obtain ⟨ka,kc,kz,hke⟩:=hkv.slice
 simp only [derefK_s,szK_s,idxK_ok (show (0:Int) ≤ (((allNodes ls).length - 1:Nat):Int) ∧ (((allNodes ls).length - 1:Nat):Int) < ((allNodes ls).length:Int) from ⟨by omega,by omega⟩),h32,hke,xSl_s]
 have hP:Pw σ1 (frB σ1) (σ1 ++ [AObj.cells [.slice (some (tb,0)) (allNodes ls).length c2 6,.ptr none,.slice none 0 (some 0) 0] (.rw (.box 57))]) σ1.length (.slice (some (tb,0)) (allNodes ls).length c2 6) (allPr (ls.take 0)):=by
  refine ⟨hk1,fun b o h=>h,fun b o hb=>?_,List.getElem?_eq_none (Nat.le_refl _),.inl ⟨rfl,none,0,.inl rfl,by rw [List.getElem?_append_right (Nat.le_refl _)];simp⟩⟩
  rw [List.getElem?_append_left (lt_of hb)];exact hb
 have hll:ls.length ≤ 1000000:=by
  have:=Dc.sizes_len ls
  have hl:(allNodes ls).length = Dc.sizes ls + 1:=by simp [allNodes,Dc.flats_len]
  omega
 have h0:=decls_loop (Q:=printQ σ0 (allPr ls)) (ls:=ls) (ks:=Dc.roots 0 ls) (fr:=frB σ1) (σ0:=σ1) (w:=σ1.length) (tb:=tb) (c2:=c2) (N:=(allNodes ls).length) (Dc.roots_len ls 0).symm (by rw [Dc.roots_len];exact hll) hkv hke (fun j k x hk hx=>by
  obtain ⟨bj,hseg',hr⟩:=Dc.flats_sub (t:=allNodes ls) ls 0 (Seg.refl (allNodes ls):Seg (allNodes ls) 0 (Dc.flats 0 ls ++ [⟨23,0,[],0,0,Dc.roots 0 ls⟩])).app.1 j x hx
  rw [hr] at hk
  cases hk
  have hxm:=List.mem_of_getElem? hx
  exact decl_fn hs1 htl len x bj (hg x hxm) hseg' (hq x hxm)) (fun σ2 h2=>?_) hpl (Dc.roots 0 ls).length 0 (by omega) hP
 ·rw [show ((0:Nat):Int) = 0 from rfl] at h0
  exact Wp.fresh1 (F:=fun n m=>f8_l1 (L8 n) m (some (tb,0)) (allNodes ls).length c2 6 [] 0 σ1.length 0 ka (Dc.roots 0 ls).length kc kz (Dc.roots 0 ls).length 0 _) h0
 ·refine Wp.le (F:=fun u=>f8_j2_t (L8 u.n) u.n (some (tb,0)) (allNodes ls).length c2 6 [] 0 σ1.length 0 σ2) ?_ fun u=>f8_j2_e
  simp only [f8_j2_t]
  refine Wp.call (string_w h2 hpl) (fun v σ3 hv=>?_) fun v σ' hv=>by cases hv.1
  obtain ⟨hv,hu3⟩:=hv
  cases hv
  simp only [xStr_s]
  refine Wp.call (whole_fn (hk1.up hu3) hpl hn hread) (fun v σ4 hv=>?_) fun v σ' hv=>by obtain ⟨_,_,hv,_⟩:=hv;cases hv
  obtain ⟨hu4,v4,hv,hsrc⟩:=hv
  cases hv
  have hne:nd2 ≠ []:=by
   intro e;subst e
   have:=congrArg List.length hsame
   simp at this
   rw [this] at hpos;simp at hpos
  obtain ⟨tb2,c4,rfl,hsrc2⟩:=hsrc.src hne
  simp only [xTup_t,unC_c,xSl_s,xBool_b,nlC_n]
  refine Wp.neg rfl ?_
  have hkids:∀ x ∈ allNodes ls,x.kids.length ≤ 1000000000:=by
   intro x hx
   obtain ⟨i,hi⟩:=List.getElem?_of_mem hx
   have hil:=(List.getElem?_eq_some_iff.1 hi).1
   obtain ⟨nd,hf⟩:=hfine i (Nat.zero_le _) (by omega)
   have e:nd = x:=by have:=hf.at_;rw [hi] at this;cases this;rfl
   subst e
   have hle:∀ y ∈ nd.kids.reverse,Fof (allFirsts ls) y ≤ y:=fun y hy=>by
    obtain ⟨h1,kd,h2,_⟩:=hf.kids y (List.mem_reverse.1 hy)
    obtain ⟨nd',hf'⟩:=hfine y (Nat.zero_le _) (by omega)
    exact hf'.le
   have:=chain_len _ _ _ hf.ch hle
   rw [List.length_reverse] at this
   omega
  refine Wp.call (same_fn (ca:=c2) (cb:=c4) (hs1.up (hu3.trans hu4)) hsrc2 hsame (by omega) hkids) (fun v σ5 hv=>?_) fun v σ' hv=>by cases hv.1
  obtain ⟨hv,rfl⟩:=hv
  cases hv
  simp only [xBool_b]
  refine Wp.neg rfl ?_
  have hup:Up σ0 σ5:=hu1.trans (hu3.trans hu4)
  refine Wp.ite (fun hb=>?_) fun hb=>?_
  ·have hb:(allPr ls).length > 8192:=by simp at hb;omega
   exact Wp.ret ⟨hup,by rw [if_pos hb]⟩
  ·have hb:¬ (allPr ls).length > 8192:=by simp at hb;omega
   exact Wp.ret ⟨hup,by rw [if_neg hb]⟩
end
end Go.Front

/- What is known of the library's functions beforehand is so: out of the shelf's contracts. -/
import Derived.Test.YtlbieeajocjpeaaGreatDoorBuilder
import Derived.Test.YtlbieeajocjpeaaGreatDoorChecked
import Derived.Conc.MuLone
import Derived.Lib.Bytealg
namespace Go.Proofs
open Go.AM Go.RowKit Go.Sort
section
variable {μ:Emb} {σ:St} {w:World} {args:List AV} {args':Array Value} {out:Res × St}
theorem arr_of {l:List Value} (h:args'.toList = l):args' = l.toArray:=by subst h;simp
theorem args1 {x:AV} (h:VRels μ [x] args'.toList):∃ v,args' = #[v] ∧ VRel μ x v:=by
 generalize hl:args'.toList = l at h
 cases h with
 | cons _ v _ _ h r=>cases r;exact ⟨v,arr_of hl,h⟩
theorem args2 {x y:AV} (h:VRels μ [x,y] args'.toList):∃ v u,args' = #[v,u] ∧ VRel μ x v ∧ VRel μ y u:=by
 generalize hl:args'.toList = l at h
 cases h with
 | cons _ v _ _ h r=>cases r with | cons _ u _ _ h' r=>cases r;exact ⟨v,u,arr_of hl,h,h'⟩
theorem args3 {x y z:AV} (h:VRels μ [x,y,z] args'.toList):∃ v u t,args' = #[v,u,t] ∧ VRel μ x v ∧ VRel μ y u ∧ VRel μ z t:=by
 generalize hl:args'.toList = l at h
 cases h with
 | cons _ v _ _ h r=>cases r with | cons _ u _ _ h' r=>cases r with | cons _ t _ _ h'' r=>cases r;exact ⟨v,u,t,arr_of hl,h,h',h''⟩
theorem str_val {s:List UInt8} {v:Value} (h:VRel μ (.str s) v):v = .string ⟨s.toArray⟩:=by cases h;rfl
theorem int_val {k:IntKind} {n:Int} {v:Value} (h:VRel μ (.int k n) v):v = .int k n:=by cases h;rfl
theorem vs2 {x y:AV} {v u:Value} (h:VRel μ x v) (h':VRel μ y u):VRel μ (.tuple [x,y]) (.tuple #[v,u]):=.tuple _ _ (.cons _ _ _ _ h (.cons _ _ _ _ h' .nil))
theorem lb_drewN (w:World):∀ n,Below w.heap.size w (w.drewN n)
 | 0=>Below.refl _ _
 | n + 1=>(lb_drewN w n).drew
theorem lb_grow (w:World) (k:Nat) (os:Array Obj):Below w.heap.size w (grow (w.drewN k) os):=by
 have h:=lb_drewN w k
 refine ⟨h.os,h.tape,h.output,?_,fun j hj=>?_⟩
 ·have:=h.size
  simp only [grow,Array.size_append];omega
 ·rw [← h.block j hj]
  have:=h.size
  simp only [grow]
  rw [Array.getElem?_append_left (by omega)]
theorem tab_of {g:Nat} {nm:String} {k:IntKind} {zs:List Int} {ob:Obj} (hg:Tryz.prog.globalNamed nm = some g) (hob:w.heap[g]? = some ob) (hp:∃ ty fr,ob = .cells (zs.map fun z=>Value.int k z).toArray ty fr) :
  Lib.TabIs Tryz.prog w nm k zs:=by
 obtain ⟨ty,fr,rfl⟩:=hp
 unfold Lib.TabIs World.var?
 rw [hg]
 simp [hob]
theorem pow_name:Tryz.prog.globalNamed "internal/strconv.uint64pow10" = some 4:=by kernel_rfl
theorem asc_name:Tryz.prog.globalNamed "strings.asciiSpace" = some 0:=by kernel_rfl
theorem lbItoa_ok (h:lbItoa args σ = some out) (hR:R μ σ w) (ha:VRels μ args args'.toList):Calls Tryz.prog 61 args' w (EndR μ w out):=by
 unfold lbItoa at h
 split at h
 ·rename_i n
  split at h
  ·rename_i hc
   cases h
   obtain ⟨v,rfl,hv⟩:=args1 ha
   cases int_val hv
   obtain ⟨ob,hob,hp⟩:=hR.knows hc.1
   refine (Tryz.strconv_Itoa n hc.2.1 hc.2.2 w (tab_of pow_name hob hp)).mono fun e w' ⟨he,k,os,hw⟩=>?_
   subst he;subst hw
   exact end_pure hR (lb_grow _ _ _) (.str _)
  ·cases h
 ·cases h
theorem lbFormatInt_ok (h:lbFormatInt args σ = some out) (hR:R μ σ w) (ha:VRels μ args args'.toList):Calls Tryz.prog 39 args' w (EndR μ w out):=by
 unfold lbFormatInt at h
 split at h
 ·rename_i n b
  split at h
  ·rename_i hc
   cases h
   obtain ⟨v,u,rfl,hv,hu⟩:=args2 ha
   cases int_val hv;cases int_val hu
   obtain ⟨ob,hob,hp⟩:=hR.knows hc.1
   obtain ⟨_,rfl,h0,h1⟩:=hc
   refine (Tryz.strconv_FormatInt_10 n h0 h1 w (tab_of pow_name hob hp)).mono fun e w' ⟨he,k,os,hw⟩=>?_
   subst he;subst hw
   exact end_pure hR (lb_grow _ _ _) (.str _)
  ·cases h
 ·cases h
theorem lb_alloc (w:World) (o:Obj):Below w.heap.size w (w.alloc o):=(Below.refl _ w).alloc (Nat.le_refl _) o
theorem strs_rels {μ:Emb} (l:List (List UInt8)):VRels μ (l.map .str) (l.map fun s=>Value.string ⟨s.toArray⟩):=by
 induction l with
 | nil=>exact .nil
 | cons x l ih=>exact .cons _ _ _ _ (.str _) ih
theorem lbFields_ok (h:lbFields args σ = some out) (hR:R μ σ w) (ha:VRels μ args args'.toList):Calls Tryz.prog 51 args' w (EndR μ w out):=by
 unfold lbFields at h
 split at h
 ·rename_i s
  split at h
  ·rename_i hc
   cases h
   obtain ⟨v,rfl,hv⟩:=args1 ha
   cases str_val hv
   obtain ⟨ob,hob,hp⟩:=hR.knows hc.1.asc
   refine (Tryz.strings_Fields ⟨s.toArray⟩ w hc.2.1 (fun j b hj=>hc.2.2 b (List.mem_of_getElem? hj)) (tab_of asc_name hob hp)).mono fun e w' ⟨he,hw⟩=>?_
   subst he;subst hw
   refine end_more hR (lb_alloc _ _) (e:=⟨w.heap.size,0,(Lib.fields s).length,false⟩) (Nat.le_refl _) (by rw [(Grew.alloc w _).size];exact Nat.lt_succ_self _) ?_ ?_
   ·refine ⟨_,_,_,(Grew.alloc w _).new,?_,by simp,by simp,fun t h=>by cases h⟩
    refine CRel.of_rels ?_ (by simp [AV.one])
    simpa using strs_rels _
   ·exact .slice σ.length 0 ⟨w.heap.size,0,(Lib.fields s).length,false⟩ _ (some _) 1 _ _ (push_self _ _ _) ⟨rfl,rfl⟩ (fun _=>rfl) (by simp) (fun c' h=>by cases h;rfl) (Nat.le_refl _)
  ·cases h
 ·cases h
theorem lbParseInt_ok (h:lbParseInt args σ = some out) (hR:R μ σ w) (ha:VRels μ args args'.toList):Calls Tryz.prog 28 args' w (EndR μ w out):=by
 unfold lbParseInt at h
 split at h
 ·rename_i s b wd
  split at h
  ·rename_i hc
   obtain ⟨v,u,t,rfl,hv,hu,ht⟩:=args3 ha
   cases str_val hv;cases int_val hu;cases int_val ht
   obtain ⟨hk,rfl,rfl,hl⟩:=hc
   have hl':(⟨s.toArray⟩:ByteArray).size ≤ 281474976710656:=hl
   split at h
   ·rename_i v hp
    cases h
    refine (Tryz.strconv_ParseInt_10_at64_ok ⟨s.toArray⟩ (by omega) v hp w).mono fun e w' ⟨he,hw⟩=>?_
    subst he
    refine end_pure hR ?_ (vs2 (.int _ _) .niface)
    rcases hw with rfl | ⟨t,rfl⟩
    ·exact Below.refl _ _
    ·exact ⟨rfl,rfl,rfl,by rw [Lib.bytesWorld_size];omega,fun k hk=>Lib.bytesWorld_at_old _ _ _ _ hk⟩
   ·rename_i hp
    cases h
    obtain ⟨ob,hob,te,pe,ty,fr,rfl⟩:=hR.knows hk.syn
    refine (Tryz.strconv_ParseInt_10_at64_syntax ⟨s.toArray⟩ hl' hp _ w (by simp [World.cell?,hob]) (.inr ⟨te,pe,rfl⟩)).mono fun e w' ⟨N,he,hN,hh,hb⟩=>?_
    subst he
    have hlt:N < w'.heap.size:=(Array.getElem?_eq_some_iff.1 hh).1
    exact end_more hR hb (o:=.dead) (e:=⟨N,0,0,false⟩) hN hlt trivial (vs2 (.int _ _) (.iface _ _ _ (.ptr _ _ _ (push_self _ _ _))))
   ·rename_i hp
    cases h
    obtain ⟨ob,hob,te,pe,ty,fr,rfl⟩:=hR.knows hk.rng
    refine (Tryz.strconv_ParseInt_10_at64_range ⟨s.toArray⟩ hl' hp _ w (by simp [World.cell?,hob]) (.inr ⟨te,pe,rfl⟩)).mono fun e w' ⟨N,he,hN,hh,hb⟩=>?_
    subst he
    have hlt:N < w'.heap.size:=(Array.getElem?_eq_some_iff.1 hh).1
    exact end_more hR hb (o:=.dead) (e:=⟨N,0,0,false⟩) hN hlt trivial (vs2 (.int _ _) (.iface _ _ _ (.ptr _ _ _ (push_self _ _ _))))
  ·cases h
 ·cases h
theorem Tryz.pok:POk Tryz.prog:=pok_of (by kernel_rfl) (by kernel_rfl) (by kernel_rfl)
theorem lbTrim_ok (h:lbTrim args σ = some out) (hR:R μ σ w) (ha:VRels μ args args'.toList):Calls Tryz.prog 63 args' w (EndR μ w out):=by
 unfold lbTrim at h
 split at h
 ·rename_i s c
  split at h
  ·rename_i hc
   cases h
   obtain ⟨v,u,rfl,hv,hu⟩:=args2 ha
   cases str_val hv;cases str_val hu
   refine (Tryz.strings_Trim_one ⟨s.toArray⟩ c hc.1 w (by have:(⟨s.toArray⟩:ByteArray).size = s.length:=rfl;omega)).mono fun e w' ⟨he,hw⟩=>?_
   subst he
   refine end_pure hR ?_ (.str _)
   rcases hw with rfl | rfl
   ·exact Below.refl _ _
   ·exact (Below.refl _ _).drew
  ·cases h
 ·cases h
theorem lbIndexByte_ok (h:lbIndexByte args σ = some out) (hR:R μ σ w) (ha:VRels μ args args'.toList):Calls Tryz.prog 75 args' w (EndR μ w out):=by
 unfold lbIndexByte at h
 split at h
 ·rename_i s c
  cases h
  obtain ⟨v,u,rfl,hv,hu⟩:=args2 ha
  cases str_val hv;cases int_val hu
  refine (Tryz.strings_IndexByte ⟨s.toArray⟩ c w).mono fun e w' ⟨he,hw⟩=>?_
  subst he;subst hw
  exact end_pure hR (Below.refl _ _) (.int _ _)
 ·cases h
theorem lbCheck_ok (h:lbCheck args σ = some out) (hR:R μ σ w) (ha:VRels μ args args'.toList):Calls Tryz.prog 76 args' w (EndR μ w out):=by
 unfold lbCheck at h
 split at h
 ·rename_i b o
  obtain ⟨v,rfl,hv⟩:=args1 ha
  cases hv with
  | ptr _ _ e he=>
   split at h
   ·rename_i cs t hcs
    obtain ⟨e',he',hob⟩:=hR.obj b _ hcs
    rw [he] at he';cases he'
    obtain ⟨cs',ty,fr,h1,h2,h3,h4,h5⟩:=hob
    obtain ⟨hw,hfz,hty,h0,hn⟩:=h5 _ rfl
    subst hty
    rw [h0,Nat.zero_add]
    split at h
    ·rename_i ho
     split at h
     ·rename_i hlies
      cases h
      obtain ⟨⟨u,hu,hur⟩,_⟩:=h2 o _ ho
      have hlt:o < cs.length:=(List.getElem?_eq_some_iff.1 ho).1
      rw [h0,Nat.zero_add] at hu
      cases hur
      refine (check_fresh e.blk o ty cs'.size w (by rw [cell_of_heap h1];exact hu) (by simp [World.shape?,h1]) (by omega) (by rw [← hn];exact hlies)
       (by rw [frozen_of_heap h1];have:=hfz o (by omega) (by omega);simpa using this)).mono fun e2 w' ⟨he2,hw2⟩=>?_
      subst he2;subst hw2
      have hup:=setCell_upd h1 o (.pointer (some ⟨e.blk,o,none⟩))
      have hc2:=h2.set (off:=o) (VRel.ptr (μ:=μ) b o e he) (by rfl) (by omega)
      rw [h0,Nat.zero_add] at hc2
      have hR2:=hR.upd hcs he hw rfl hup (o':=.cells (cs.set o (.ptr (some (b,o)))) (.rw (.box ty))) ⟨_,ty,fr,hup.at_,by rw [h0];exact hc2,by simpa using h3,by simpa using h4,
       fun t1 ht1=>by cases ht1;exact ⟨hw,hfz,rfl,h0,by simpa using hn⟩⟩
      exact ⟨μ,hR2,Ext.refl _ _,hup.fr he hw,_,rfl,.tuple [] #[] .nil⟩
     ·cases h
    ·rename_i p ho
     split at h
     ·rename_i hp
      subst hp
      cases h
      obtain ⟨⟨u,hu,hur⟩,_⟩:=h2 o _ ho
      rw [h0,Nat.zero_add] at hu
      cases hur with
      | ptr _ _ e2 he2=>
       rw [he] at he2;cases he2
       rw [h0,Nat.zero_add] at hu
       refine (check_used e.blk o w (by rw [cell_of_heap h1];exact hu)).mono fun e2 w' ⟨he2,hw2⟩=>?_
       subst he2;subst hw2
       exact end_pure hR (Below.refl _ _) (.tuple [] #[] .nil)
     ·cases h
    ·cases h
   ·cases h
 ·cases h
theorem bytesX_cells:∀ {cs:List AV} {l:List UInt8},bytesX cs = some l → ∀ {vs:List Value},VRels μ cs vs → l.length = cs.length ∧ ∀ (j:Nat) x,l[j]? = some x → vs[j]? = some (.int .u8 x.toNat)
 | [],l,h,vs,_=>by simp [bytesX] at h;subst h;exact ⟨rfl,fun j x hj=>by simp at hj⟩
 | y :: r,l,h,vs,hv=>by
  cases y with
  | int kx n=>
   cases kx with
   | u8=>
    simp only [bytesX] at h
    split at h
    ·rename_i hn
     split at h
     ·rename_i l' hl
      cases h
      cases hv with
      | cons _ v _ vs' hx hr=>
       cases hx
       obtain ⟨h1,h2⟩:=bytesX_cells hl hr
       refine ⟨by simp [h1],fun j x hj=>?_⟩
       cases j with
       | zero=>simp at hj;subst hj;simp only [List.getElem?_cons_zero];rw [← hn]
       | succ j=>simpa using h2 j x (by simpa using hj)
     ·cases h
    ·cases h
   | _=>simp [bytesX] at h
  | _=>simp [bytesX] at h
theorem freeze_upd {w:World} {b q n:Nat} {cs':Array Value} {ty:TypeId} {fr:Nat × Nat} (hb:w.heap[b]? = some (.cells cs' ty fr)) (hn:n ≠ 0) :
  Upd w (w.freeze ⟨b,q,none⟩ n) b (.cells cs' ty (if fr.1 == fr.2 then (q,q + n) else (min fr.1 q,max fr.2 (q + n)))) where
 os:=by simp [World.freeze,hn]
 tape:=by simp [World.freeze,hn]
 output:=by simp [World.freeze,hn]
 size:=by simp [World.freeze,hn]
 at_:=by simp [World.freeze,hn,Array.getElem?_modify,hb]
 other:=fun k hk=>by simp only [World.freeze,hn,if_false,Array.getElem?_modify];rw [if_neg (fun h=>hk h.symm)]
theorem lbString_ok (h:lbString args σ = some out) (hR:R μ σ w) (ha:VRels μ args args'.toList):Calls Tryz.prog 17 args' w (EndR μ w out):=by
 unfold lbString at h
 split at h
 ·rename_i b o
  obtain ⟨v,rfl,hv⟩:=args1 ha
  cases hv with
  | ptr _ _ e he=>
   split at h
   ·rename_i cs hcs
    obtain ⟨wr,hs⟩:=cellsAt_some hcs
    obtain ⟨e',he',hob⟩:=hR.obj b _ hs
    rw [he] at he';cases he'
    obtain ⟨cs',ty,fr,h1,h2,h3,h4,h5⟩:=hob
    split at h
    ·rename_i z ho
     cases h
     obtain ⟨⟨u,hu,hur⟩,_⟩:=h2 _ _ ho
     cases hur
     refine (string_none Tryz.lays169 Tryz.Builder_Extra_169 e.blk (e.off + o) w (by rw [cell_of_heap h1];exact hu)).mono fun e2 w' ⟨he2,hw2⟩=>?_
     subst he2;subst hw2
     exact end_pure hR (Below.refl _ _).drew (.str [])
    ·rename_i g q n cap z ho
     split at h
     ·rename_i hz
      obtain ⟨rfl,hn0,hn⟩:=hz
      split at h
      ·rename_i bs t hg
       split at h
       ·rename_i ht
        obtain ⟨rfl,hl⟩:=ht
        split at h
        ·rename_i l hl2
         cases h
         obtain ⟨⟨u,hu,hur⟩,_⟩:=h2 _ _ ho
         have hur0:=hur
         cases hur with
         | slice _ _ e2 _ _ _ ad c he2 hha ha' hcc hcap hlen=>
          have had:=ha' (by omega)
          subst had
          obtain ⟨e3,he3,hob2⟩:=hR.obj g _ hg
          rw [he2] at he3;cases he3
          obtain ⟨cs2,ty2,fr2,k1,k2,k3,k4,k5⟩:=hob2
          obtain ⟨hw,hfz,hty⟩:=k5 _ rfl
          have hty':ty2 = 5:=hty
          subst hty'
          have hcsg:cellsAt σ g = some bs:=by unfold cellsAt;rw [hg]
          obtain ⟨vs,g1,g2,g3,g4⟩:=slice_cells hR hur0 hcsg (m:=n) (by omega) hl
          obtain ⟨hll,hcells⟩:=bytesX_cells hl2 g2
          have hln:l.length = n:=by rw [hll];simp;omega
          have hne:l ≠ []:=by intro h0;rw [h0] at hln;simp at hln;omega
          refine (string_some Tryz.lays169 Tryz.Builder_Extra_169 e.blk (e.off + o) e2.blk (e2.off + q) c cs2.size l w hne (by omega) (by rw [cell_of_heap h1,hln];exact hu) (by simp [World.shape?,k1];rfl) (by omega) (by omega)
           (fun j x hj=>g3 j _ (hcells j x hj))).mono fun e4 w' ⟨he4,hw4⟩=>?_
          subst he4;subst hw4
          have hd:w.drew.heap[e2.blk]? = some (.cells cs2 5 fr2):=k1
          have hup0:=freeze_upd (q:=e2.off + q) (n:=l.length) hd (by omega)
          have hup:Upd w (w.drew.freeze ⟨e2.blk,e2.off + q,none⟩ l.length) e2.blk _:=⟨hup0.os,hup0.tape,hup0.output,hup0.size,hup0.at_,hup0.other⟩
          have hR2:=hR.upd hg he2 hw rfl hup (o':=.cells bs .ro) ⟨_,_,_,hup.at_,k2,k3,k4,fun t1 ht1=>by cases ht1⟩
          exact ⟨μ,hR2,Ext.refl _ _,hup.fr he2 hw,_,rfl,.str _⟩
        ·cases h
       ·cases h
      ·cases h
     ·cases h
    ·cases h
   ·cases h
 ·cases h
theorem set_cell {b o:Nat} {cs:List AV} {m:Mk} {e:Ent} {x y:AV} {v:Value} (hR:R μ σ w) (hcs:σ[b]? = some (.cells cs (.rw m))) (he:μ b = some e) (ho:cs[o]? = some x) (hy:VRel μ y v) (h1y:y.one = true) :
  (∃ u,w.cell? ⟨e.blk,e.off + o,none⟩ = some u ∧ VRel μ x u) ∧ w.frozen? ⟨e.blk,e.off + o,none⟩ = false ∧ R μ (σ.set b (.cells (cs.set o y) (.rw m))) (w.setCell ⟨e.blk,e.off + o,none⟩ v) ∧ Fr μ w (w.setCell ⟨e.blk,e.off + o,none⟩ v):=by
 obtain ⟨e',he',hob⟩:=hR.obj b _ hcs
 rw [he] at he';cases he'
 obtain ⟨cs',ty,fr,h1,h2,h3,h4,h5⟩:=hob
 obtain ⟨hw,hfz,hty⟩:=h5 _ rfl
 obtain ⟨⟨u,hu,hur⟩,_⟩:=h2 o _ ho
 have hlt:o < cs.length:=(List.getElem?_eq_some_iff.1 ho).1
 have hup:=setCell_upd h1 (e.off + o) v
 have hc2:=h2.set (off:=o) hy h1y (by omega)
 have hR2:=hR.upd hcs he hw rfl hup (o':=.cells (cs.set o y) (.rw m)) ⟨_,ty,fr,hup.at_,hc2,by simpa using h3,by simpa using h4,
  fun t1 ht1=>by cases ht1;exact ⟨hw,hfz,by simpa using hty⟩⟩
 refine ⟨⟨u,by rw [cell_of_heap h1];exact hu,hur⟩,?_,hR2,hup.fr he hw⟩
 rw [frozen_of_heap h1]
 have:=hfz (e.off + o) (by omega) (by omega)
 simpa using this
def Does (f:Nat) (args':Array Value) (w:World) (R:Ending → World → Prop):Prop:=∃ v w',(callFunc f args').run Tryz.prog w = .ok (.value v) w' ∧ R (.returned v) w'
theorem lbLoad32_ok (h:lbLoad32 args σ = some out) (hR:R μ σ w) (ha:VRels μ args args'.toList):Does 139 args' w (EndR μ w out):=by
 unfold lbLoad32 at h
 split at h
 ·rename_i b o
  obtain ⟨v,rfl,hv⟩:=args1 ha
  cases hv with
  | ptr _ _ e he=>
   split at h
   ·rename_i cs wr hcs
    split at h
    ·rename_i n ho
     cases h
     obtain ⟨e',he',hob⟩:=hR.obj b _ hcs
     rw [he] at he';cases he'
     obtain ⟨cs',ty,fr,h1,h2,h3,h4,h5⟩:=hob
     obtain ⟨⟨u,hu,hur⟩,_⟩:=h2 o _ ho
     cases int_val hur
     have hc:w.cell? ⟨e.blk,e.off + o,none⟩ = some (.int .u32 n):=by rw [cell_of_heap h1];exact hu
     exact ⟨_,_,run_call_load Tryz.func139 (by kernel_rfl) (by kernel_rfl) (by kernel_rfl) .u32 (by kernel_rfl) hc,end_pure hR (Below.refl _ _) (.int _ _)⟩
    ·cases h
   ·cases h
 ·cases h
theorem lbStore32_ok (h:lbStore32 args σ = some out) (hR:R μ σ w) (ha:VRels μ args args'.toList):Does 147 args' w (EndR μ w out):=by
 unfold lbStore32 at h
 split at h
 ·rename_i b o y
  obtain ⟨v,u,rfl,hv,hu⟩:=args2 ha
  cases int_val hu
  cases hv with
  | ptr _ _ e he=>
   split at h
   ·rename_i cs m hcs
    split at h
    ·rename_i ho
     cases h
     obtain ⟨⟨u,hc,_⟩,hz,hR2,hF⟩:=set_cell hR hcs he (List.getElem?_eq_getElem ho) (VRel.int (μ:=μ) .u32 y) rfl
     exact ⟨_,_,run_call_store Tryz.func147 (by kernel_rfl) (by kernel_rfl) (by kernel_rfl) (by kernel_rfl) hc hz,μ,hR2,Ext.refl _ _,hF,_,rfl,.tuple [] #[] .nil⟩
    ·cases h
   ·cases h
 ·cases h
theorem lbCount_ok (h:lbCount args σ = some out) (hR:R μ σ w) (ha:VRels μ args args'.toList):Does 202 args' w (EndR μ w out):=by
 unfold lbCount at h
 split at h
 ·rename_i s c
  cases h
  obtain ⟨v,u,rfl,hv,hu⟩:=args2 ha
  cases str_val hv;cases int_val hu
  refine ⟨_,_,?_,end_pure hR (Below.refl _ _) (.int _ _)⟩
  rw [run_callFunc_extern Tryz.func202 (by kernel_rfl) (by kernel_rfl) (by kernel_rfl) (e:=Extern.BytealgCount.count) (by kernel_rfl)]
  rw [Lib.run_countString]
  rfl
 ·cases h
abbrev muLinkZ:Go.Conc.Locks.MuLink:={ lock:=140,unlock:=141,ilock:=145,iunlock:=146,lockSlow:=155,unlockSlow:=158,disable:=151,enable:=153,acquire:=154,relMerge:=156,cas32:=152,add32:=157,tMutex:=177,tIMutex:=175,tPMutex:=211,tPIMutex:=225,tPI32:=227,tUP:=139,tNoCopy:=170,tU32:=132 }
theorem muLibZ:Go.Conc.Locks.MuLib Tryz.prog muLinkZ:=by
 constructor
 all_goals first | kernel_rfl | (intro w;kernel_rfl)
theorem lbLock_ok (h:lbWord 0 1 args σ = some out) (hR:R μ σ w) (ha:VRels μ args args'.toList):Calls Tryz.prog 140 args' w (EndR μ w out):=by
 unfold lbWord at h
 split at h
 ·rename_i b o
  obtain ⟨v,rfl,hv⟩:=args1 ha
  cases hv with
  | ptr _ _ e he=>
   split at h
   ·rename_i cs m hcs
    split at h
    ·rename_i ho
     cases h
     obtain ⟨⟨u,hc,hur⟩,hz,hR2,hF⟩:=set_cell hR hcs he ho (VRel.int (μ:=μ) .i32 1) rfl
     cases int_val hur
     refine (Go.MuLone.lock_free muLibZ _ w hc hz).mono fun e2 w' ⟨he2,hw2⟩=>?_
     subst he2;subst hw2
     exact ⟨μ,hR2,Ext.refl _ _,hF,_,rfl,.tuple [] #[] .nil⟩
    ·cases h
   ·cases h
 ·cases h
theorem lbUnlock_ok (h:lbWord 1 0 args σ = some out) (hR:R μ σ w) (ha:VRels μ args args'.toList):Calls Tryz.prog 146 args' w (EndR μ w out):=by
 unfold lbWord at h
 split at h
 ·rename_i b o
  obtain ⟨v,rfl,hv⟩:=args1 ha
  cases hv with
  | ptr _ _ e he=>
   split at h
   ·rename_i cs m hcs
    split at h
    ·rename_i ho
     cases h
     obtain ⟨⟨u,hc,hur⟩,hz,hR2,hF⟩:=set_cell hR hcs he ho (VRel.int (μ:=μ) .i32 0) rfl
     cases int_val hur
     refine (Go.MuLone.iunlock_held muLibZ _ w hc hz).mono fun e2 w' ⟨he2,hw2⟩=>?_
     subst he2;subst hw2
     exact ⟨μ,hR2,Ext.refl _ _,hF,_,rfl,.tuple [] #[] .nil⟩
    ·cases h
   ·cases h
 ·cases h
theorem hasBody (f:Nat) {fn:Func} (h:Tryz.prog.funcs[f]? = some fn) (hb:fn.body.isSome = true):∃ fn,Tryz.prog.funcs[f]? = some fn ∧ fn.body.isSome = true:=⟨fn,h,hb⟩
end
theorem Lb_ok:CallOk Tryz.prog Lb:=by
 intro f args σ out h
 unfold Lb at h
 split at h
 ·exact .inl ⟨hasBody 17 Tryz.func17 (by kernel_rfl),fun μ w args' hR ha=>lbString_ok h hR ha⟩
 ·exact .inl ⟨hasBody 28 Tryz.func28 (by kernel_rfl),fun μ w args' hR ha=>lbParseInt_ok h hR ha⟩
 ·exact .inl ⟨hasBody 39 Tryz.func39 (by kernel_rfl),fun μ w args' hR ha=>lbFormatInt_ok h hR ha⟩
 ·exact .inl ⟨hasBody 51 Tryz.func51 (by kernel_rfl),fun μ w args' hR ha=>lbFields_ok h hR ha⟩
 ·exact .inl ⟨hasBody 61 Tryz.func61 (by kernel_rfl),fun μ w args' hR ha=>lbItoa_ok h hR ha⟩
 ·exact .inl ⟨hasBody 63 Tryz.func63 (by kernel_rfl),fun μ w args' hR ha=>lbTrim_ok h hR ha⟩
 ·exact .inl ⟨hasBody 75 Tryz.func75 (by kernel_rfl),fun μ w args' hR ha=>lbIndexByte_ok h hR ha⟩
 ·exact .inl ⟨hasBody 76 Tryz.func76 (by kernel_rfl),fun μ w args' hR ha=>lbCheck_ok h hR ha⟩
 ·exact .inr ⟨⟨_,Tryz.func139,by kernel_rfl⟩,fun μ w args' hR ha=>lbLoad32_ok h hR ha⟩
 ·exact .inl ⟨hasBody 140 Tryz.func140 (by kernel_rfl),fun μ w args' hR ha=>lbLock_ok h hR ha⟩
 ·exact .inl ⟨hasBody 146 Tryz.func146 (by kernel_rfl),fun μ w args' hR ha=>lbUnlock_ok h hR ha⟩
 ·exact .inr ⟨⟨_,Tryz.func147,by kernel_rfl⟩,fun μ w args' hR ha=>lbStore32_ok h hR ha⟩
 ·exact .inr ⟨⟨_,Tryz.func202,by kernel_rfl⟩,fun μ w args' hR ha=>lbCount_ok h hR ha⟩
 ·cases h
end Go.Proofs

/- Statements are written. -/
import Derived.Test.YtlbieeajocjpeaaGreatDoorWk13
set_option linter.unusedSimpArgs false
set_option linter.unusedVariables false
namespace Go.Front
open Go.AM Go.Proofs
theorem mapB {Q:Post} {σ:St} {c:Bool} {k:Fu → St → AV → Bool → Out} (h:∀ σ',Up σ σ' → Wp Q fun u=>k u σ' (.str (if c then [105,102] else [119,104,105,108,101])) true) :
  Wp Q fun u=>updK Tryz.prog 4 (σ ++ [AObj.map []]) (.v (.map (some σ.length))) (.bool true) (.str [105,102]) fun σ13=>
   updK Tryz.prog 4 σ13 (.v (.map (some σ.length))) (.bool false) (.str [119,104,105,108,101]) fun σ14=>
   lkK Tryz.prog 4 9 σ14 (some σ.length) (.bool c) fun x15 b=>k u σ14 x15 b:=by
 refine (h (σ ++ [AObj.map [(.bool false,.str [119,104,105,108,101]),(.bool true,.str [105,102])]]) (Up.app _)).eq fun u=>?_
 have u1 (f:St → Out):updK Tryz.prog 4 (σ ++ [AObj.map []]) (.v (.map (some σ.length))) (.bool true) (.str [105,102]) f = f (σ ++ [AObj.map [(.bool true,.str [105,102])]]):=by
  unfold updK
  rw [scal4]
  simp only [if_true]
  rw [List.getElem?_append_right (Nat.le_refl _)]
  simp only [Nat.sub_self,List.getElem?_cons_zero,mapFind]
  rw [List.set_append_right _ _ (Nat.le_refl _)]
  simp [insB]
 have u2 (f:St → Out):updK Tryz.prog 4 (σ ++ [AObj.map [(.bool true,.str [105,102])]]) (.v (.map (some σ.length))) (.bool false) (.str [119,104,105,108,101]) f = f (σ ++ [AObj.map [(.bool false,.str [119,104,105,108,101]),(.bool true,.str [105,102])]]):=by
  unfold updK
  rw [scal4]
  simp only [if_true]
  rw [List.getElem?_append_right (Nat.le_refl _)]
  simp only [Nat.sub_self,List.getElem?_cons_zero,mapFind,eqB4]
  rw [List.set_append_right _ _ (Nat.le_refl _)]
  simp [insB]
 simp only [u1,u2]
 unfold lkK lookK
 rw [scal4]
 simp only [if_true]
 rw [List.getElem?_append_right (Nat.le_refl _)]
 simp only [Nat.sub_self,List.getElem?_cons_zero,mapFind,eqB4]
 cases c <;> rfl
theorem mapD {Q:Post} {σ:St} {c:Bool} {s1 s2:List UInt8} {k:Fu → St → AV → Bool → Out} (h:Wp Q fun u=>k u (σ ++ [AObj.map [(.bool false,.str s2),(.bool true,.str s1)]]) (.str (if c then s1 else s2)) true) :
  Wp Q fun u=>insK true (σ ++ [AObj.map []]) σ.length (.str s1) fun σ13=>insK false σ13 σ.length (.str s2) fun σ14=>lkK Tryz.prog 4 9 σ14 (some σ.length) (.bool c) fun x15 b=>k u σ14 x15 b:=by
 refine h.eq fun u=>?_
 have g (es:List (AV × AV)):(σ ++ [AObj.map es])[σ.length]? = some (AObj.map es):=by rw [List.getElem?_append_right (Nat.le_refl _)];simp
 have st (es es2:List (AV × AV)):(σ ++ [AObj.map es]).set σ.length (AObj.map es2) = σ ++ [AObj.map es2]:=by rw [List.set_append_right _ _ (Nat.le_refl _)];simp
 have u1 (f:St → Out):insK true (σ ++ [AObj.map []]) σ.length (.str s1) f = f (σ ++ [AObj.map [(.bool true,.str s1)]]):=by
  unfold insK modB
  rw [g,show freshB true (some (AObj.map [])) = true from rfl]
  simp only [st,insB,List.nil_append];rfl
 have u2 (f:St → Out):insK false (σ ++ [AObj.map [(.bool true,.str s1)]]) σ.length (.str s2) f = f (σ ++ [AObj.map [(.bool false,.str s2),(.bool true,.str s1)]]):=by
  unfold insK modB
  rw [g,show freshB false (some (AObj.map [(.bool true,.str s1)])) = true from rfl]
  simp only [st,insB];rfl
 simp only [u1,u2]
 unfold lkK lookK
 rw [scal4]
 simp only [if_true]
 rw [g]
 simp only [mapFind,eqB4]
 cases c <;> rfl
theorem Sm.flats_sub {t:List Node}:∀ (l:List Sm) (b:Nat),Seg t b (Sm.flats b l) → ∀ (j:Nat) (x:Sm),l[j]? = some x → ∃ bj,Seg t bj (x.flat bj) ∧ (Sm.roots b l)[j]? = some (bj + x.size - 1)
 | [],b,h,j,x,hj=>by simp at hj
 | y :: l,b,h,0,x,hj=>by
  simp only [List.getElem?_cons_zero,Option.some.injEq] at hj;subst hj
  exact ⟨b,h.app.1,rfl⟩
 | y :: l,b,h,j + 1,x,hj=>by
  rw [List.getElem?_cons_succ] at hj
  have h2:=h.app.2
  rw [Sm.flat_len] at h2
  obtain ⟨bj,h3,h4⟩:=Sm.flats_sub l (b + y.size) h2 j x hj
  exact ⟨bj,h3,by simp only [Sm.roots,List.getElem?_cons_succ];exact h4⟩
theorem Sm.sizes_mem:∀ {l:List Sm} {x:Sm},x ∈ l → x.size ≤ Sm.sizes l
 | y :: l,x,h=>by
  cases h with
  | head=>simp [Sm.sizes]
  | tail _ h=>have:=Sm.sizes_mem h;simp [Sm.sizes];omega
theorem Sm.roots_len:∀ (l:List Sm) (b:Nat),(Sm.roots b l).length = l.length
 | [],b=>rfl
 | x :: l,b=>by simp [Sm.roots,Sm.roots_len l]
theorem Sm.sizes_len:∀ (l:List Sm),l.length ≤ Sm.sizes l
 | []=>by simp [Sm.sizes]
 | x :: l=>by have:=Sm.sizes_len l;have:=Sm.size_pos x;simp [Sm.sizes];omega
theorem Sm.goods_all {len a:Nat}:∀ {l:List Sm},Sm.goods len a l → ∀ x ∈ l,x.good len
 | y :: l,h,x,hx=>by
  cases hx with
  | head=>exact h.1
  | tail _ hx=>exact Sm.goods_all h.2.2 x hx
theorem Sm.haveText_mem:∀ {l:List Sm} {x:Sm},x ∈ l → x.hasText = true → Sm.haveText l = true
 | y :: l,x,h,hx=>by
  cases h with
  | head=>simp [Sm.haveText,hx]
  | tail _ h=>simp [Sm.haveText,Sm.haveText_mem h hx]
def Sm.root (b:Nat):Sm → Node
 | .expr a x=>⟨10,a,[],0,0,[b + x.size - 1]⟩
 | .set x y=>⟨11,x.at_,[],0,0,[b + x.size - 1,b + x.size + y.size - 1]⟩
 | .if1 t c a=>⟨12,t,[],0,0,[b + c.size - 1,b + c.size + a.size - 1]⟩
 | .if2 t c a e=>⟨12,t,[],0,0,[b + c.size - 1,b + c.size + a.size - 1,b + c.size + a.size + e.size - 1]⟩
 | .while t c a=>⟨13,t,[],0,0,[b + c.size - 1,b + c.size + a.size - 1]⟩
 | .ret t x=>⟨14,t,[],0,0,[b + x.size - 1]⟩
 | .brk t=>⟨15,t,[],0,0,[]⟩
 | .next t=>⟨16,t,[],0,0,[]⟩
 | .block t l=>⟨17,t,[],0,0,Sm.roots b l⟩
 | .var t s ty=>⟨18,t,s,0,ty,[]⟩
 | .vari t s ty x=>⟨18,t,s,0,ty,[b + x.size - 1]⟩
theorem Sm.rootGet {t:List Node} {e:Sm} {b:Nat} (h:Seg t b (e.flat b)):t[b + e.size - 1]? = some (e.root b):=by
 have key {s:List Node} {nd:Node} {n:Nat} (h:Seg t b (s ++ [nd])) (hs:s.length = n) (hn:e.size = n + 1):t[b + e.size - 1]? = some nd:=by
  rw [hn,show b + (n + 1) - 1 = b + n from by omega];exact rootAt h hs
 cases e
 case brk=>exact h.one
 case next=>exact h.one
 case var=>exact h.one
 all_goals exact key h rfl (by simp [Sm.size,Ex.flat_len,Sm.flat_len,Sm.flats_len];try omega)
section
variable {σ0 σ τ:St} {fr:Fr} {w tb n0 i k:Nat} {tv kv:AV} {l:List UInt8} {Q:Post} {t:List Node} {c2:Option Nat} {y z:Node}
def SmS (σ0:St) (w:Nat) (tv:AV) (e:Sm) (x:Nat):Prop:=∀ fr σ l,Pw σ0 fr σ w tv l → (l ++ e.pr).length ≤ 1000000000 → Fw Tryz.prog Lb 42 [.ptr (some (w,0)),.int .i64 (x:Int)] σ (PwQ σ0 fr w tv (l ++ e.pr))
theorem param_fn {x:Nat} {s:List UInt8} {ty:Int} (hs:Src σ0 tb t) (hx:t[x]? = some y) (hty:y.m = ty) (htx:y.text = s) (h:Pw σ0 fr σ w (.slice (some (tb,0)) t.length c2 6) l) (hl:(l ++ parS ty s).length ≤ 1000000000) :
  Fw Tryz.prog Lb 41 [.ptr (some (w,0)),.int .i64 (x:Int)] σ (PwQ σ0 fr w (.slice (some (tb,0)) t.length c2 6) (l ++ parS ty s)):=by
 subst hty;subst htx
 have hxl:=(List.getElem?_eq_some_iff.1 hx).1
 obtain ⟨kv,hkv,hload⟩:=hs.kidsU hx
 obtain ⟨_,hnode⟩:=hload _ h.up
 obtain ⟨ka,kc,kz,rfl⟩:=hkv.slice
 refine Fw.enter (fun n=>f41_e) ?_
 simp only [f41_t,derefK_s,h.tree,xSl_s,szK_s,idxK_ok (show (0:Int) ≤ (x:Int) ∧ (x:Int) < (t.length:Int) from ⟨by omega,by omega⟩),hnode,xAgg_a,unC_c,xInt_i,xStr_s,nlC_n]
 unfold parS at hl ⊢
 refine Wp.ite (fun h1=>?_) fun h1=>Wp.ite (fun h3=>?_) fun h3=>?_
 ·rw [if_pos (by simpa using h1)] at hl ⊢
  exact h.put [[105,110,116],y.text] rfl rfl rfl (by simp) (by simpa using hl) fun σ' h3=>Wp.ret ⟨rfl,by simpa using h3⟩
 ·rw [if_neg (by simpa using h1),if_pos (by simpa using h3)] at hl ⊢
  exact h.put [[105,110,116],[42],y.text] rfl rfl rfl (by simp) (by simpa using hl) fun σ' h3=>Wp.ret ⟨rfl,by simpa using h3⟩
 ·rw [if_neg (by simpa using h1),if_neg (by simpa using h3)] at hl ⊢
  exact h.put [[99,104,97,114],[42],y.text] rfl rfl rfl (by simp) (by simpa using hl) fun σ' h3=>Wp.ret ⟨rfl,by simpa using h3⟩
noncomputable abbrev L42 (n:Nat):Leaf:=pt Tryz.prog Lb 42 n
theorem stmts_loop {ls:List Sm} {ks:List Nat} (hlen:ls.length = ks.length) (hkl:ks.length ≤ 1000000) (hkv:KAt σ0 kv ks) {a:Option (Nat × Nat)} {n z:Nat} {c:Option Nat} (he:kv = .slice a n c z)
  (hone:∀ (j k:Nat) (x:Sm),ks[j]? = some k → ls[j]? = some x → SmS σ0 w tv x k) :
  ∀ (k i:Nat) {l:List UInt8} {σ:St},i + k = ks.length → Pw σ0 fr σ w tv l → (l ++ Sm.prs (ls.drop i) ++ putS [125]).length ≤ 1000000000 →
  Wp (PwQ σ0 fr w tv (l ++ Sm.prs (ls.drop i) ++ putS [125])) fun u=>f42_l1 (L42 u.n) u.m1 (some (w,0)) a n c z n i σ:=by
 intro k
 induction k with
 | zero=>
  intro i l σ hi h hl
  obtain ⟨_,_,_,he2⟩:=hkv.slice
  rw [he2] at he
  cases he
  refine Wp.round1 (F:=fun n m=>f42_l1 (L42 n) m (some (w,0)) a ks.length c z ks.length i σ) (fun n m=>f42_l1_e) ?_
  simp only [f42_l1_t]
  refine Wp.neg (by rw [decide_eq_false_iff_not];omega) ?_
  refine Wp.le (F:=fun u=>f42_j4_t (L42 u.n) u.n (some (w,0)) σ) ?_ fun u=>f42_j4_e
  simp only [f42_j4_t]
  rw [List.drop_eq_nil_of_le (by omega)] at hl ⊢
  simp only [Sm.prs,List.append_nil] at hl ⊢
  exact h.put [[125]] rfl rfl rfl (by simp) (by simpa using hl) fun σ' h3=>Wp.ret ⟨rfl,by simpa using h3⟩
 | succ k ih=>
  intro i l σ hi h hl
  obtain ⟨x,hx⟩:∃ x,ks[i]? = some x:=⟨ks[i],List.getElem?_eq_getElem (by omega)⟩
  obtain ⟨o,ho⟩:∃ o,ls[i]? = some o:=⟨ls[i],List.getElem?_eq_getElem (by omega)⟩
  obtain ⟨b,c',hkv2,hbl⟩:=hkv.kid hx
  rw [hkv2] at he
  cases he
  have hw:IntKind.wrap .i64 ((i:Int) + 1) = ((i + 1:Nat):Int):=by rw [wrap64 (by omega) (by omega)];omega
  rw [drop_cons ho] at hl ⊢
  simp only [Sm.prs] at hl ⊢
  rw [← List.append_assoc] at hl ⊢
  refine Wp.round1 (F:=fun n m=>f42_l1 (L42 n) m (some (w,0)) (some (b,0)) ks.length c 1 ks.length i σ) (fun n m=>f42_l1_e) ?_
  simp only [f42_l1_t,derefK_s,szK_s,ldKid (h.up.cells hbl) hx,xInt_i,hw,idxK_ok (show (0:Int) ≤ (i:Int) ∧ (i:Int) < (ks.length:Int) from ⟨by omega,by omega⟩)]
  refine Wp.pos (by rw [decide_eq_true_eq];omega) ?_
  refine Wp.call (hone i x o hx ho _ _ _ h (by simp only [List.length_append] at hl ⊢;omega)) (fun v σ' hv=>?_) fun v σ' hv=>by cases hv.1
  exact ih (i + 1) (by omega) hv.2 hl
theorem cond_wp {c:Ex} {a:Sm} {kc ka:Nat} {y:Node} {word:List UInt8} {tail:List UInt8} {n:Nat} {K:Fu → St → Out} (hlen:y.kids.length = n) (hn:2 ≤ n) (hk0:y.kids[0]? = some kc) (hk1:y.kids[1]? = some ka)
  {kb:Nat} (hbl:cellsAt σ0 kb = some (kidsL y.kids)) (hC:ExS σ0 w tv c kc) (hA:SmS σ0 w tv a ka)
  (h:Pw σ0 fr σ w tv l) (hl:(l ++ (putS word ++ putS [40] ++ c.pr ++ putS [41] ++ a.pr ++ tail)).length ≤ 1000000000)
  (hK:∀ σ',Pw σ0 fr σ' w tv (l ++ (putS word ++ putS [40] ++ c.pr ++ putS [41] ++ a.pr)) → Wp Q fun u=>K u σ') :
  Wp Q fun u=>callT Tryz.prog Lb u.n 38 [.ptr (some (w,0)),.slice (some (σ.length,0)) 2 (some 2) 1] (σ ++ [AObj.cells [.str word,.str [40]] (.rw (.row 9))]) fun _ σ18=>
   idxK (0:Int) n <| szK 1 1 <| ldK Tryz.prog 3 σ18 kb (0 + 0) fun x22=>xInt .i64 x22 fun i23=>
   callT Tryz.prog Lb u.n 66 [.ptr (some (w,0)),.int .i64 i23] σ18 fun _ σ24=>
   callT Tryz.prog Lb u.n 38 [.ptr (some (w,0)),.slice (some (σ24.length,0)) 1 (some 1) 1] (σ24 ++ [AObj.cells [.str [41]] (.rw (.row 9))]) fun _ σ26=>
   idxK (1:Int) n <| szK 1 1 <| ldK Tryz.prog 3 σ26 kb (0 + 1) fun x30=>xInt .i64 x30 fun i31=>
   callT Tryz.prog Lb u.n 42 [.ptr (some (w,0)),.int .i64 i31] σ26 fun _ σ32=>K u σ32:=by
 simp only [List.length_append] at hl
 refine h.put [word,[40]] rfl rfl rfl (by simp) (by simp only [List.flatMap_cons,List.flatMap_nil,List.append_nil,List.length_append];omega) fun σ1 h1=>?_
 simp only [idxK_ok (show (0:Int) ≤ 0 ∧ (0:Int) < (n:Int) from ⟨by omega,by omega⟩),szK_s,ldKid0 (h1.up.cells hbl) hk0,xInt_i]
 refine Wp.call (hC _ _ _ h1 (by simp only [List.flatMap_cons,List.flatMap_nil,List.append_nil,List.length_append];omega)) (fun v σ2 hv=>?_) fun v σ' hv=>by cases hv.1
 refine hv.2.put [[41]] rfl rfl rfl (by simp) (by simp only [List.flatMap_cons,List.flatMap_nil,List.append_nil,List.length_append];omega) fun σ3 h3=>?_
 simp only [idxK_ok (show (0:Int) ≤ 1 ∧ (1:Int) < (n:Int) from ⟨by omega,by omega⟩),szK_s,ldKid1 (h3.up.cells hbl) hk1,xInt_i]
 refine Wp.call (hA _ _ _ h3 (by simp only [List.flatMap_cons,List.flatMap_nil,List.append_nil,List.length_append];omega)) (fun v σ4 hv=>?_) fun v σ' hv=>by cases hv.1
 refine hK σ4 ?_
 have:=hv.2
 simpa [List.append_assoc] using this
theorem stmt_fn (hs:Src σ0 tb t) (htl:t.length ≤ 4096) (len:Nat):∀ (N:Nat) (e:Sm) (b:Nat),e.size ≤ N → e.good len → Seg t b (e.flat b) → (e.hasText = true → QuoteS) → SmS σ0 w (.slice (some (tb,0)) t.length c2 6) e (b + e.size - 1):=by
 intro N
 induction N with
 | zero=>intro e b hN;have:=Sm.size_pos e;omega
 | succ N ih=>
  intro e b hN hg hseg hq fr σ l h hl
  refine Fw.enter (fun n=>f42_e) ?_
  have hroot:=Sm.rootGet hseg
  have hxl:=(List.getElem?_eq_some_iff.1 hroot).1
  have hsize:=Sm.size_pos e
  obtain ⟨kv,hkv,hload⟩:=hs.kidsU hroot
  obtain ⟨_,hnode⟩:=hload _ h.up
  obtain ⟨ka,kc,kz,hke⟩:=hkv.slice
  simp only [f42_t,derefK_s,h.tree,xSl_s,szK_s,idxK_ok (show (0:Int) ≤ ((b + e.size - 1:Nat):Int) ∧ ((b + e.size - 1:Nat):Int) < (t.length:Int) from ⟨by omega,by omega⟩),hnode,xAgg_a,unC_c,xInt_i,xStr_s,nlC_n,hke]
  have EX {x:Ex} {bx:Nat} (hgx:x.good len) (hsx:Seg t bx (x.flat bx)) (hqx:x.hasText = true → QuoteS):ExS σ0 w (.slice (some (tb,0)) t.length c2 6) x (bx + x.size - 1):=expr_fn hs htl len x.size x bx (Nat.le_refl _) hgx hsx hqx
  cases e with
  | block a ls=>
   refine Wp.pos rfl ?_
   have hpr:(Sm.block a ls).pr = putS [123] ++ (Sm.prs ls ++ putS [125]):=by simp [Sm.pr]
   rw [hpr,← List.append_assoc,← List.append_assoc] at hl ⊢
   refine h.put [[123]] rfl rfl rfl (by simp) (by simp only [List.flatMap_cons,List.flatMap_nil,List.append_nil,List.length_append] at hl ⊢;omega) fun σ1 h1=>?_
   simp only [List.flatMap_cons,List.flatMap_nil,List.append_nil] at h1
   have hsl:ls.length ≤ 1000000:=by have:=Sm.sizes_len ls;simp only [Sm.size] at hxl;omega
   have h0:=stmts_loop (ls:=ls) (fr:=fr) (ks:=Sm.roots b ls) (Sm.roots_len ls b).symm (by rw [Sm.roots_len];exact hsl) hkv hke (fun j k x hk hx=>by
    obtain ⟨bj,hseg',hr⟩:=Sm.flats_sub ls b hseg.app.1 j x hx
    rw [hr] at hk
    cases hk
    have hxm:=List.mem_of_getElem? hx
    exact ih x bj (by have:=Sm.sizes_mem hxm;simp only [Sm.size] at hN;omega) (Sm.goods_all hg.2 x hxm) hseg' fun ht=>hq (by simpa [Sm.hasText] using Sm.haveText_mem hxm ht)) (Sm.roots b ls).length 0 (by omega) h1 hl
   rw [show ((0:Nat):Int) = 0 from rfl] at h0
   exact Wp.fresh1 (F:=fun n m=>f42_l1 (L42 n) m (some (w,0)) ka (Sm.roots b ls).length kc kz (Sm.roots b ls).length 0 σ1) h0
  | if1 a c x=>
   obtain ⟨g1,g2,g3,g4,g5⟩:=hg
   have hk0:((Sm.if1 a c x).root b).kids[0]? = some (b + c.size - 1):=rfl
   have hk1:((Sm.if1 a c x).root b).kids[1]? = some (b + c.size + x.size - 1):=rfl
   obtain ⟨kb,c',hkv2,hbl⟩:=hkv.kid hk0
   rw [hkv2] at hke
   cases hke
   have hC:=EX g2 hseg.app.1.app.1 fun ht=>hq (by simp [Sm.hasText,ht])
   have hX:=ih x (b + c.size) (by simp only [Sm.size] at hN;omega) g4 (by have:=hseg.app.1.app.2;rwa [Ex.flat_len] at this) fun ht=>hq (by simp [Sm.hasText,ht])
   refine Wp.neg rfl (Wp.pos rfl ?_)
   refine Wp.le (F:=fun u=>f42_j2_t (L42 u.n) u.n (some (w,0)) _ 12 12 a [] 0 0 (some (kb,0)) 2 _ 1 σ) ?_ fun u=>f42_j2_e
   simp only [f42_j2_t]
   refine mapB fun σ1 hu=>?_
   simp only [xStr_s,derefK_s]
   have h1:=h.grow hu
   refine cond_wp (word:=[105,102]) (tail:=[]) (y:=(Sm.if1 a c x).root b) (n:=2) rfl (by decide) hk0 hk1 hbl hC hX h1 (by simpa [Sm.pr] using hl) fun σ2 h2=>?_
   exact Wp.neg (by decide) (Wp.ret ⟨rfl,by simpa [Sm.pr] using h2⟩)
  | if2 a c x e=>
   obtain ⟨g1,g2,g3,g4,g5,g6,g7,g8⟩:=hg
   have hk0:((Sm.if2 a c x e).root b).kids[0]? = some (b + c.size - 1):=rfl
   have hk1:((Sm.if2 a c x e).root b).kids[1]? = some (b + c.size + x.size - 1):=rfl
   have hk2:((Sm.if2 a c x e).root b).kids[2]? = some (b + c.size + x.size + e.size - 1):=rfl
   obtain ⟨kb,c',hkv2,hbl⟩:=hkv.kid hk0
   rw [hkv2] at hke
   cases hke
   have hC:=EX g2 hseg.app.1.app.1.app.1 fun ht=>hq (by simp [Sm.hasText,ht])
   have hX:=ih x (b + c.size) (by simp only [Sm.size] at hN;omega) g4 (by have:=hseg.app.1.app.1.app.2;rwa [Ex.flat_len] at this) fun ht=>hq (by simp [Sm.hasText,ht])
   have hE:=ih e (b + c.size + x.size) (by simp only [Sm.size] at hN;omega) g6 (by have:=hseg.app.1.app.2;rwa [List.length_append,Ex.flat_len,Sm.flat_len,← Nat.add_assoc] at this) fun ht=>hq (by simp [Sm.hasText,ht])
   refine Wp.neg rfl (Wp.pos rfl ?_)
   refine Wp.le (F:=fun u=>f42_j2_t (L42 u.n) u.n (some (w,0)) _ 12 12 a [] 0 0 (some (kb,0)) 3 _ 1 σ) ?_ fun u=>f42_j2_e
   simp only [f42_j2_t]
   refine mapB fun σ1 hu=>?_
   simp only [xStr_s,derefK_s]
   have h1:=h.grow hu
   have hl':=hl
   simp only [Sm.pr,List.length_append] at hl'
   refine cond_wp (word:=[105,102]) (tail:=putS [101,108,115,101] ++ e.pr) (y:=(Sm.if2 a c x e).root b) (n:=3) rfl (by decide) hk0 hk1 hbl hC hX h1 (by simpa [Sm.pr] using hl) fun σ2 h2=>?_
   refine Wp.pos (by decide) ?_
   refine h2.put [[101,108,115,101]] rfl rfl rfl (by simp) (by simp only [List.flatMap_cons,List.flatMap_nil,List.append_nil,List.length_append];omega) fun σ3 h3=>?_
   have ld2 (f:AV → Out):ldK Tryz.prog 3 σ3 kb (0 + 2) f = f (.int .i64 ((b + c.size + x.size + e.size - 1:Nat):Int)):=ldc (h3.up.cells hbl) agg3 (by simp [kidsL,Sm.root])
   simp only [idxK_ok (show (0:Int) ≤ 2 ∧ (2:Int) < ((3:Nat):Int) from by decide),szK_s,ld2,xInt_i]
   refine Wp.call (hE _ _ _ h3 (by simp only [List.flatMap_cons,List.flatMap_nil,List.append_nil,List.length_append];omega)) (fun v σ4 hv=>?_) fun v σ' hv=>by cases hv.1
   exact Wp.ret ⟨rfl,by have:=hv.2;simpa [Sm.pr] using this⟩
  | «while» a c x=>
   obtain ⟨g1,g2,g3,g4,g5⟩:=hg
   have hk0:((Sm.while a c x).root b).kids[0]? = some (b + c.size - 1):=rfl
   have hk1:((Sm.while a c x).root b).kids[1]? = some (b + c.size + x.size - 1):=rfl
   obtain ⟨kb,c',hkv2,hbl⟩:=hkv.kid hk0
   rw [hkv2] at hke
   cases hke
   have hC:=EX g2 hseg.app.1.app.1 fun ht=>hq (by simp [Sm.hasText,ht])
   have hX:=ih x (b + c.size) (by simp only [Sm.size] at hN;omega) g4 (by have:=hseg.app.1.app.2;rwa [Ex.flat_len] at this) fun ht=>hq (by simp [Sm.hasText,ht])
   refine Wp.neg rfl (Wp.neg rfl ?_)
   refine Wp.le (F:=fun u=>f42_j3_t (L42 u.n) u.n (some (w,0)) _ 13 true 13 a [] 0 0 (some (kb,0)) 2 _ 1 σ) ?_ fun u=>f42_j3_e
   simp only [f42_j3_t]
   refine Wp.pos rfl ?_
   refine mapB fun σ1 hu=>?_
   simp only [xStr_s,derefK_s]
   have h1:=h.grow hu
   refine cond_wp (word:=[119,104,105,108,101]) (tail:=[]) (y:=(Sm.while a c x).root b) (n:=2) rfl (by decide) hk0 hk1 hbl hC hX h1 (by simpa [Sm.pr] using hl) fun σ2 h2=>?_
   exact Wp.neg (by decide) (Wp.ret ⟨rfl,by simpa [Sm.pr] using h2⟩)
  | ret a x=>
   have hk0:((Sm.ret a x).root b).kids[0]? = some (b + x.size - 1):=rfl
   obtain ⟨kb,c',hkv2,hbl⟩:=hkv.kid hk0
   rw [hkv2] at hke
   cases hke
   have hX:=EX hg.2.1 hseg.app.1 fun ht=>hq (by simp [Sm.hasText,ht])
   have hl':=hl
   simp only [Sm.pr,List.length_append] at hl'
   refine Wp.neg rfl (Wp.neg rfl ?_)
   refine Wp.le (F:=fun u=>f42_j3_t (L42 u.n) u.n (some (w,0)) _ 14 false 14 a [] 0 0 (some (kb,0)) 1 _ 1 σ) ?_ fun u=>f42_j3_e
   simp only [f42_j3_t,derefK_s]
   refine Wp.neg rfl (Wp.pos rfl ?_)
   refine h.put [[114,101,116,117,114,110]] rfl rfl rfl (by simp) (by simp only [List.flatMap_cons,List.flatMap_nil,List.append_nil,List.length_append];omega) fun σ1 h1=>?_
   simp only [idxK_ok (show (0:Int) ≤ 0 ∧ (0:Int) < ((1:Nat):Int) from by decide),szK_s,ldKid0 (h1.up.cells hbl) hk0,xInt_i]
   refine Wp.call (hX _ _ _ h1 (by simp only [List.flatMap_cons,List.flatMap_nil,List.append_nil,List.length_append];omega)) (fun v σ2 hv=>?_) fun v σ' hv=>by cases hv.1
   exact hv.2.put [[59]] rfl rfl rfl (by simp) (by simp only [List.flatMap_cons,List.flatMap_nil,List.append_nil,List.length_append];omega) fun σ3 h3=>Wp.ret ⟨rfl,by simpa [Sm.pr] using h3⟩
  | brk a=>
   refine Wp.neg rfl (Wp.neg rfl ?_)
   refine Wp.le (F:=fun u=>f42_j3_t (L42 u.n) u.n (some (w,0)) _ 15 false 15 a [] 0 0 ka 0 kc kz σ) ?_ fun u=>f42_j3_e
   simp only [f42_j3_t]
   refine Wp.neg rfl (Wp.neg rfl (Wp.pos rfl ?_))
   exact h.put [[98,114,101,97,107],[59]] rfl rfl rfl (by simp) (by simpa [Sm.pr] using hl) fun σ3 h3=>Wp.ret ⟨rfl,by simpa [Sm.pr] using h3⟩
  | next a=>
   refine Wp.neg rfl (Wp.neg rfl ?_)
   refine Wp.le (F:=fun u=>f42_j3_t (L42 u.n) u.n (some (w,0)) _ 16 false 16 a [] 0 0 ka 0 kc kz σ) ?_ fun u=>f42_j3_e
   simp only [f42_j3_t]
   refine Wp.neg rfl (Wp.neg rfl (Wp.neg rfl (Wp.pos rfl ?_)))
   exact h.put [[99,111,110,116,105,110,117,101],[59]] rfl rfl rfl (by simp) (by simpa [Sm.pr] using hl) fun σ3 h3=>Wp.ret ⟨rfl,by simpa [Sm.pr] using h3⟩
  | var a s ty=>
   have hl':=hl
   simp only [Sm.pr,List.length_append] at hl'
   refine Wp.neg rfl (Wp.neg rfl ?_)
   refine Wp.le (F:=fun u=>f42_j3_t (L42 u.n) u.n (some (w,0)) (b + (Sm.var a s ty).size - 1:Nat) 18 false 18 a s 0 ty ka 0 kc kz σ) ?_ fun u=>f42_j3_e
   simp only [f42_j3_t]
   refine Wp.neg rfl (Wp.neg rfl (Wp.neg rfl (Wp.neg rfl (Wp.pos rfl ?_))))
   refine Wp.call (param_fn (s:=s) (ty:=ty) hs hroot rfl rfl h (by simp only [List.length_append];omega)) (fun v σ1 hv=>?_) fun v σ' hv=>by cases hv.1
   refine Wp.neg (by decide) ?_
   exact hv.2.put [[59]] rfl rfl rfl (by simp) (by simpa [Sm.pr] using hl) fun σ3 h3=>Wp.ret ⟨rfl,by simpa [Sm.pr] using h3⟩
  | vari a s ty x=>
   have hk0:((Sm.vari a s ty x).root b).kids[0]? = some (b + x.size - 1):=rfl
   obtain ⟨kb,c',hkv2,hbl⟩:=hkv.kid hk0
   rw [hkv2] at hke
   cases hke
   have hX:=EX hg.2.2.2.1 hseg.app.1 fun ht=>hq (by simp [Sm.hasText,ht])
   have hl':=hl
   simp only [Sm.pr,List.length_append] at hl'
   refine Wp.neg rfl (Wp.neg rfl ?_)
   refine Wp.le (F:=fun u=>f42_j3_t (L42 u.n) u.n (some (w,0)) (b + (Sm.vari a s ty x).size - 1:Nat) 18 false 18 a s 0 ty (some (kb,0)) 1 _ 1 σ) ?_ fun u=>f42_j3_e
   simp only [f42_j3_t,derefK_s]
   refine Wp.neg rfl (Wp.neg rfl (Wp.neg rfl (Wp.neg rfl (Wp.pos rfl ?_))))
   refine Wp.call (param_fn (s:=s) (ty:=ty) hs hroot rfl rfl h (by simp only [List.length_append];omega)) (fun v σ1 hv=>?_) fun v σ' hv=>by cases hv.1
   refine Wp.pos (by decide) ?_
   refine hv.2.put [[61]] rfl rfl rfl (by simp) (by simp only [List.flatMap_cons,List.flatMap_nil,List.append_nil,List.length_append];omega) fun σ2 h2=>?_
   simp only [idxK_ok (show (0:Int) ≤ 0 ∧ (0:Int) < ((1:Nat):Int) from by decide),szK_s,ldKid0 (h2.up.cells hbl) hk0,xInt_i]
   refine Wp.call (hX _ _ _ h2 (by simp only [List.flatMap_cons,List.flatMap_nil,List.append_nil,List.length_append];omega)) (fun v σ3 hv=>?_) fun v σ' hv=>by cases hv.1
   exact hv.2.put [[59]] rfl rfl rfl (by simp) (by simp only [List.flatMap_cons,List.flatMap_nil,List.append_nil,List.length_append];omega) fun σ3 h3=>Wp.ret ⟨rfl,by simpa [Sm.pr] using h3⟩
  | set x y=>
   have hk0:((Sm.set x y).root b).kids[0]? = some (b + x.size - 1):=rfl
   have hk1:((Sm.set x y).root b).kids[1]? = some (b + x.size + y.size - 1):=rfl
   obtain ⟨kb,c',hkv2,hbl⟩:=hkv.kid hk0
   rw [hkv2] at hke
   cases hke
   have hX:=EX hg.1 hseg.app.1.app.1 fun ht=>hq (by simp [Sm.hasText,ht])
   have hY:=EX (bx:=b + x.size) hg.2.1 (by have:=hseg.app.1.app.2;rwa [Ex.flat_len] at this) fun ht=>hq (by simp [Sm.hasText,ht])
   have hl':=hl
   simp only [Sm.pr,List.length_append] at hl'
   refine Wp.neg rfl (Wp.neg rfl ?_)
   refine Wp.le (F:=fun u=>f42_j3_t (L42 u.n) u.n (some (w,0)) _ 11 false 11 x.at_ [] 0 0 (some (kb,0)) 2 _ 1 σ) ?_ fun u=>f42_j3_e
   simp only [f42_j3_t,derefK_s]
   refine Wp.neg rfl (Wp.neg rfl (Wp.neg rfl (Wp.neg rfl (Wp.neg rfl (Wp.pos rfl ?_)))))
   simp only [idxK_ok (show (0:Int) ≤ 0 ∧ (0:Int) < ((2:Nat):Int) from by decide),szK_s,ldKid0 (h.up.cells hbl) hk0,xInt_i]
   refine Wp.call (hX _ _ _ h (by simp only [List.length_append];omega)) (fun v σ1 hv=>?_) fun v σ' hv=>by cases hv.1
   refine hv.2.put [[61]] rfl rfl rfl (by simp) (by simp only [List.flatMap_cons,List.flatMap_nil,List.append_nil,List.length_append];omega) fun σ2 h2=>?_
   simp only [idxK_ok (show (0:Int) ≤ 1 ∧ (1:Int) < ((2:Nat):Int) from by decide),szK_s,ldKid1 (h2.up.cells hbl) hk1,xInt_i]
   refine Wp.call (hY _ _ _ h2 (by simp only [List.flatMap_cons,List.flatMap_nil,List.append_nil,List.length_append];omega)) (fun v σ3 hv=>?_) fun v σ' hv=>by cases hv.1
   exact hv.2.put [[59]] rfl rfl rfl (by simp) (by simp only [List.flatMap_cons,List.flatMap_nil,List.append_nil,List.length_append];omega) fun σ3 h3=>Wp.ret ⟨rfl,by simpa [Sm.pr] using h3⟩
  | expr a x=>
   have hk0:((Sm.expr a x).root b).kids[0]? = some (b + x.size - 1):=rfl
   obtain ⟨kb,c',hkv2,hbl⟩:=hkv.kid hk0
   rw [hkv2] at hke
   cases hke
   have hX:=EX hg.2.1 hseg.app.1 fun ht=>hq (by simp [Sm.hasText,ht])
   have hl':=hl
   simp only [Sm.pr,List.length_append] at hl'
   refine Wp.neg rfl (Wp.neg rfl ?_)
   refine Wp.le (F:=fun u=>f42_j3_t (L42 u.n) u.n (some (w,0)) _ 10 false 10 a [] 0 0 (some (kb,0)) 1 _ 1 σ) ?_ fun u=>f42_j3_e
   simp only [f42_j3_t,derefK_s]
   refine Wp.neg rfl (Wp.neg rfl (Wp.neg rfl (Wp.neg rfl (Wp.neg rfl (Wp.neg rfl (Wp.pos rfl ?_))))))
   simp only [idxK_ok (show (0:Int) ≤ 0 ∧ (0:Int) < ((1:Nat):Int) from by decide),szK_s,ldKid0 (h.up.cells hbl) hk0,xInt_i]
   refine Wp.call (hX _ _ _ h (by simp only [List.length_append];omega)) (fun v σ1 hv=>?_) fun v σ' hv=>by cases hv.1
   exact hv.2.put [[59]] rfl rfl rfl (by simp) (by simpa [Sm.pr] using hl) fun σ3 h3=>Wp.ret ⟨rfl,by simpa [Sm.pr] using h3⟩
end
end Go.Front

/- quoted: a string, or a byte. -/
import Derived.Test.YtlbieeajocjpeaaGreatDoorRd5
set_option linter.unusedSimpArgs false
set_option linter.unusedVariables false
namespace Go.Front
open Go.AM Go.Proofs
structure Kp (n0 p:Nat) (σ σ':St):Prop where
 len:σ.length ≤ σ'.length
 same:∀ x,x < n0 → x ≠ p → σ'[x]? = σ[x]?
theorem Kp.trans {n0 p:Nat} {σ σ1 σ2:St} (h:Kp n0 p σ σ1) (g:Kp n0 p σ1 σ2):Kp n0 p σ σ2:=⟨Nat.le_trans h.len g.len,fun x hx hp=>(g.same x hx hp).trans (h.same x hx hp)⟩
theorem Kp.set {n0 p:Nat} {σ:St} {o:AObj}:Kp n0 p σ (σ.set p o):=⟨by simp,fun x hx hp=>List.getElem?_set_ne (Ne.symm hp)⟩
theorem Low.kp {n0 p:Nat} {σ σ':St} (h:Low n0 σ σ'):Kp n0 p σ σ':=⟨h.len,fun x hx _=>h.same x hx⟩
theorem strBody_step {c:UInt8} {r:List UInt8} {n:Nat} (hc:c.toNat ≠ 34):strBody (c :: r) n = (match escape 34 (c :: r) with
  | none=>none
  | some (b,k)=>if b = 0 ∨ n = 100 then none else (strBody ((c :: r).drop k) (n + 1)).map fun p=>(b :: p.1,p.2 + k)):=by
 cases r with
 | nil=>
  simp only [strBody,escape]
  rw [if_neg hc]
  by_cases h1:c.toNat = 92
  ·rw [if_pos h1]
  ·rw [if_neg h1]
   by_cases h2:32 ≤ c.toNat ∧ c.toNat ≤ 126
   ·rw [if_pos ⟨h2.1,h2.2,hc⟩]
    simp [strBody]
   ·rw [if_neg (fun h=>h2 ⟨h.1,h.2.1⟩)]
 | cons d r=>
  simp only [strBody,escape]
  rw [if_neg hc]
  by_cases h1:c.toNat = 92
  ·rw [if_pos h1,if_pos h1]
   cases esc d with
   | none=>rfl
   | some b=>simp
  ·rw [if_neg h1,if_neg h1]
   by_cases h2:32 ≤ c.toNat ∧ c.toNat ≤ 126
   ·have e3:(if 32 ≤ c.toNat ∧ c.toNat ≤ 126 ∧ c.toNat ≠ 34 then some (c,1) else none) = some (c,1):=if_pos ⟨h2.1,h2.2,hc⟩
    have h0:¬ c = 0:=by intro e;subst e;simp at h2
    rw [e3,if_pos h2]
    simp [h0]
   ·have e3:(if 32 ≤ c.toNat ∧ c.toNat ≤ 126 ∧ c.toNat ≠ 34 then some (c,1) else none) = none:=if_neg (fun h=>h2 ⟨h.1,h.2.1⟩)
    rw [e3,if_neg h2]
section
variable {σ:St} {p n0 q from_:Nat} {s:List UInt8} {at_:Nat} {t:Tok} {tv:AV} {deep:Int}
def strQ (n0 p from_:Nat) (s:List UInt8) (at_:Nat) (l:List UInt8) (t:Tok) (tv:AV) (deep:Int) (σ:St):Post:=fun r σ'=>
 match strBody (s.drop at_) l.length with
 | some (l',k)=>r = .ret (Tok.av ⟨4,from_,l ++ l',0⟩) ∧ RdC σ' p s (at_ + k + 1) t tv deep ∧ Kp n0 p σ σ'
 | none=>r = .pan (faultAV 13 from_) ∧ Kp n0 p σ σ' ∧ ∃ n,RdC σ' p s n t tv deep
noncomputable abbrev L29 (n:Nat):Leaf:=pt Tryz.prog Lb 29 n
theorem quote_end (hs:s.length ≤ 4611686018427387904) {l:List UInt8} (hl:l.length ≤ 1000000000) (hp:p < n0) (h:RdC σ p s at_ t tv deep) (hb:Bu n0 σ q l) (hc:s[at_]? = some 34) :
  Wp (fun r σ'=>r = .ret (Tok.av ⟨4,from_,l,0⟩) ∧ RdC σ' p s (at_ + 1) t tv deep ∧ Kp n0 p σ σ')
   fun u=>f29_j3 (L29 u.n) (some (p,0)) from_ 34 q 0 0 0 [] 0 σ:=by
 have hlt:at_ < s.length:=(List.getElem?_eq_some_iff.1 hc).1
 have hby (f:UInt8 → Out):byteK s (at_:Int) f = f 34:=byteK_ok (by omega) (by simpa using hc)
 have hw:=wrapS (at_:=at_) hs hlt
 refine Wp.le (F:=fun u=>f29_j3_t (L29 u.n) u.n (some (p,0)) from_ 34 q 0 0 0 [] 0 σ) ?_ fun u=>f29_j3_e
 simp only [f29_j3_t,derefK_s,h.at__,h.s_,xInt_i,xStr_s,hby]
 refine Wp.neg (by simp;omega) (Wp.neg (by decide) ?_)
 refine Wp.le (F:=fun u=>f29_j7_t (L29 u.n) u.n (some (p,0)) from_ 34 q 0 0 0 [] 0 σ) ?_ fun u=>f29_j7_e
 simp only [f29_j7_t,derefK_s,h.at__,xInt_i,hw,h.stAt]
 refine Wp.pos (by decide) ?_
 have hput:RdC (σ.set p (.cells (rc s (at_ + 1) t tv deep) (.rw (.box 46)))) p s (at_ + 1) t tv deep:=h.put
 have hb2:Bu n0 (σ.set p (.cells (rc s (at_ + 1) t tv deep) (.rw (.box 46)))) q l:=by
  rcases hb with ⟨rfl,a,z,hb⟩ | ⟨g,hb⟩
  ·have:=hb.hq
   exact .inl ⟨rfl,a,z,by rw [List.getElem?_set_ne (by omega)];exact hb.h,hb.ha,hb.hq⟩
  ·have:=hb.hq;have:=hb.hn
   exact .inr ⟨g,by rw [List.getElem?_set_ne (by omega)];exact hb.h,by rw [List.getElem?_set_ne (by omega)];exact hb.hg,hb.hq,hb.hn,hb.ne,hb.l0⟩
 refine Wp.call (string_fn hl hb2) (fun v σ' hv=>?_) (fun v σ' hv=>by cases hv.1)
 obtain ⟨hv,hlow⟩:=hv
 cases hv
 simp only [xStr_s]
 exact Wp.ret ⟨rfl,⟨by rw [hlow.same p hp];exact hput.h⟩,Kp.set.trans hlow.kp⟩
theorem Bu.low {l:List UInt8} {σ':St} (h:Bu n0 σ q l) (hg:∀ x,n0 ≤ x → σ'[x]? = σ[x]?):Bu n0 σ' q l:=by
 rcases h with ⟨rfl,a,z,h⟩ | ⟨g,h⟩
 ·exact .inl ⟨rfl,a,z,by rw [hg _ h.hq];exact h.h,h.ha,h.hq⟩
 ·exact .inr ⟨g,by rw [hg _ h.hq];exact h.h,by rw [hg _ h.hn];exact h.hg,h.hq,h.hn,h.ne,h.l0⟩
theorem escape_len {q:Nat} {l:List UInt8} {b:UInt8} {k:Nat} (h:escape q l = some (b,k)):1 ≤ k ∧ k ≤ l.length:=by
 cases l with
 | nil=>cases h
 | cons c r=>
  simp only [escape] at h
  split at h
  ·cases r with
   | nil=>cases h
   | cons d r=>
    simp only at h
    cases he:esc d with
    | none=>rw [he] at h;cases h
    | some x=>rw [he] at h;simp at h;obtain ⟨_,rfl⟩:=h;simp
  ·split at h
   ·simp at h;obtain ⟨_,rfl⟩:=h;simp
   ·cases h
theorem str_loop (hs:s.length ≤ 1000000000) (hp:p < n0):∀ (k:Nat) {σ:St} {at_:Nat} {l:List UInt8},s.length - at_ ≤ k → at_ ≤ s.length → l.length ≤ at_ → n0 ≤ σ.length → RdC σ p s at_ t tv deep → Bu n0 σ q l →
  Wp (strQ n0 p from_ s at_ l t tv deep σ) fun u=>f29_l1 (L29 u.n) u.m1 (some (p,0)) from_ 34 q 0 0 0 [] 0 σ:=by
 intro k
 induction k with
 | zero=>
  intro σ at_ l hk ha hla hn h hb
  have he:at_ = s.length:=by omega
  have hd:s.drop at_ = []:=List.drop_eq_nil_of_le (by omega)
  refine Wp.round1 (F:=fun n m=>f29_l1 (L29 n) m (some (p,0)) from_ 34 q 0 0 0 [] 0 σ) (fun n m=>f29_l1_e) ?_
  simp only [f29_l1_t,derefK_s,h.at__,h.s_,xInt_i,xStr_s]
  refine Wp.neg (by decide) (Wp.pos (by simp;omega) ?_)
  refine Wp.le (F:=fun u=>f29_j2_t (L29 u.n) u.n u.m1 (some (p,0)) from_ 34 q 0 0 0 [] 0 σ) ?_ fun u=>f29_j2_e
  simp only [f29_j2_t]
  refine Wp.call (escape_fn (q:=34) (by omega) ha h) (fun v σ' hv=>?_) (fun v σ' hv=>?_)
  ·unfold escQ at hv
   rw [hd] at hv
   simp only [escape] at hv
   obtain ⟨x,n,hv,rfl⟩:=hv
   cases hv
   simp only [xTup_t,unC_c,xInt_i,xBool_b,nlC_n]
   refine Wp.pos rfl ?_
   refine Wp.le (F:=fun u=>f29_j4_t (L29 u.n) u.n u.m1 (some (p,0)) from_ 34 q 0 x 0 0 [] 0 _) ?_ fun u=>f29_j4_e
   simp only [f29_j4_t]
   refine Wp.call (wrong_fn 13 from_) (fun v σ' hv=>by cases hv.1) (fun v σ' hv=>?_)
   obtain ⟨hv,rfl⟩:=hv
   cases hv
   unfold strQ
   rw [hd]
   exact ⟨rfl,Kp.set,_,h.put⟩
  ·unfold escQ at hv
   rw [hd] at hv
   simp only [escape] at hv
   obtain ⟨x,n,hv,_⟩:=hv
   cases hv
 | succ k ih=>
  intro σ at_ l hk ha hla hn h hb
  by_cases he:at_ = s.length
  ·exact ih (by omega) ha hla hn h hb
  have hlt:at_ < s.length:=by omega
  obtain ⟨c,hc⟩:∃ c,s[at_]? = some c:=⟨s[at_],List.getElem?_eq_getElem hlt⟩
  have hd:=drop_at hc
  have hby (f:UInt8 → Out):byteK s (at_:Int) f = f c:=byteK_ok (by omega) (by simpa using hc)
  have n34:((c.toNat:Int) == (34:Int)) = (c.toNat == 34):=natInt (b:=34)
  refine Wp.round1 (F:=fun n m=>f29_l1 (L29 n) m (some (p,0)) from_ 34 q 0 0 0 [] 0 σ) (fun n m=>f29_l1_e) ?_
  simp only [f29_l1_t,derefK_s,h.at__,h.s_,xInt_i,xStr_s,hby]
  refine Wp.neg (by decide) (Wp.neg (by simp;omega) ?_)
  rw [bne,n34]
  refine Wp.ite (fun h1=>?_) fun h1=>?_
  ·have h34:c.toNat ≠ 34:=by simpa using h1
   have hstep:=strBody_step (c:=c) (r:=s.drop (at_ + 1)) (n:=l.length) h34
   rw [← hd] at hstep
   refine Wp.le (F:=fun u=>f29_j2_t (L29 u.n) u.n u.m1 (some (p,0)) from_ 34 q 0 0 0 [] 0 σ) ?_ fun u=>f29_j2_e
   simp only [f29_j2_t]
   refine Wp.call (escape_fn (q:=34) (by omega) ha h) (fun v σ' hv=>?_) (fun v σ' hv=>?_)
   ·unfold escQ at hv
    -- it gives up
    have bad {x:Int} {σ':St} (hk:Kp n0 p σ σ') (hr:∃ n,RdC σ' p s n t tv deep) (hn:strBody (s.drop at_) l.length = none):Wp (strQ n0 p from_ s at_ l t tv deep σ) fun u=>f29_j4 (L29 u.n) u.m1 (some (p,0)) from_ 34 q 0 x 0 0 [] 0 σ':=by
     refine Wp.le (F:=fun u=>f29_j4_t (L29 u.n) u.n u.m1 (some (p,0)) from_ 34 q 0 x 0 0 [] 0 _) ?_ fun u=>f29_j4_e
     simp only [f29_j4_t]
     refine Wp.call (wrong_fn 13 from_) (fun v σ' hv=>by cases hv.1) (fun v σ' hv=>?_)
     obtain ⟨hv,rfl⟩:=hv
     cases hv
     unfold strQ
     rw [hn]
     exact ⟨rfl,hk,hr⟩
    split at hv
    ·rename_i b k2 hesc
     rw [hesc] at hstep
     obtain ⟨hv,rfl⟩:=hv
     cases hv
     simp only [xTup_t,unC_c,xInt_i,xBool_b,nlC_n]
     refine Wp.neg rfl (Wp.pos (by decide) ?_)
     have n0':((b.toNat:Int) == (0:Int)) = (b.toNat == 0):=natInt (b:=0)
     rw [n0']
     have hput:RdC (σ.set p (.cells (rc s (at_ + k2) t tv deep) (.rw (.box 46)))) p s (at_ + k2) t tv deep:=h.put
     have hb2:Bu n0 (σ.set p (.cells (rc s (at_ + k2) t tv deep) (.rw (.box 46)))) q l:=hb.low fun x hx=>List.getElem?_set_ne (by omega)
     refine Wp.ite (fun h2=>?_) fun h2=>?_
     ·have hb0:b = 0:=UInt8.toNat_inj.1 (by simpa using h2)
      exact bad Kp.set ⟨_,hput⟩ (by rw [hstep];simp [hb0])
     ·have hb0:¬ b = 0:=by intro e;subst e;simp at h2
      have hk2:=escape_len hesc
      have hl2:at_ + k2 ≤ s.length:=by have:=hk2.2;simp at this;omega
      refine Wp.call (len_fn hb2) (fun v σ' hv=>?_) (fun v σ' hv=>by cases hv.1)
      obtain ⟨hv,rfl⟩:=hv
      cases hv
      simp only [xInt_i]
      have n100:((l.length:Int) == (100:Int)) = (l.length == 100):=natInt (b:=100)
      rw [n100]
      refine Wp.le (F:=fun u=>f29_j5_t (L29 u.n) u.n u.m1 (some (p,0)) from_ 34 q 0 b.toNat (l.length == 100) 0 0 [] 0 _) ?_ fun u=>f29_j5_e
      simp only [f29_j5_t]
      refine Wp.ite (fun h3=>?_) fun h3=>?_
      ·refine Wp.call (wrong_fn 13 from_) (fun v σ' hv=>by cases hv.1) (fun v σ' hv=>?_)
       obtain ⟨hv,rfl⟩:=hv
       cases hv
       have h100:l.length = 100:=by simpa using h3
       unfold strQ
       rw [hstep]
       simp only [h100,or_true,if_true]
       exact ⟨trivial,Kp.set,_,hput⟩
      ·have h100:¬ l.length = 100:=by simpa using h3
       refine Wp.call (writeByte_fn (by simpa using hn) (by omega) hb2 b) (fun v σ' hv=>?_) (fun v σ' hv=>by cases hv.1)
       obtain ⟨_,hb3,hlow⟩:=hv
       refine Wp.neg (by decide) ?_
       have hput3:RdC σ' p s (at_ + k2) t tv deep:=⟨by rw [hlow.same p hp];exact hput.h⟩
       refine (ih (σ:=σ') (at_:=at_ + k2) (l:=l ++ [b]) (by omega) hl2 (by simp;omega) (by have:=hlow.len;simp at this;omega) hput3 hb3).mono fun r σ2 hq=>?_
       unfold strQ at hq ⊢
       rw [hstep]
       simp only [hb0,h100,or_self,if_false,List.drop_drop]
       rw [List.length_append,List.length_singleton] at hq
       cases hbody:strBody (s.drop (at_ + k2)) (l.length + 1) with
       | none=>
        rw [hbody] at hq
        exact ⟨hq.1,(Kp.set.trans hlow.kp).trans hq.2.1,hq.2.2⟩
       | some pr=>
        obtain ⟨l',k'⟩:=pr
        rw [hbody] at hq
        simp only [Option.map_some] at hq ⊢
        obtain ⟨q1,q2,q3⟩:=hq
        refine ⟨by rw [q1];simp,?_,(Kp.set.trans hlow.kp).trans q3⟩
        have e:at_ + (k' + k2) + 1 = at_ + k2 + k' + 1:=by omega
        rw [e];exact q2
    ·rename_i hesc
     rw [hesc] at hstep
     obtain ⟨x,n,hv,rfl⟩:=hv
     cases hv
     simp only [xTup_t,unC_c,xInt_i,xBool_b,nlC_n]
     exact Wp.pos rfl (bad Kp.set ⟨_,h.put⟩ hstep)
   ·unfold escQ at hv
    split at hv
    ·cases hv.1
    ·obtain ⟨x,n,hv,_⟩:=hv
     cases hv
  ·have h34:c = 34:=UInt8.toNat_inj.1 (by simpa using h1)
   subst h34
   refine (quote_end (by omega) (by omega) hp h hb hc).mono fun r σ' hq=>?_
   unfold strQ
   rw [hd]
   have:strBody (34 :: s.drop (at_ + 1)) l.length = some ([],0):=by cases s.drop (at_ + 1) <;> simp [strBody]
   rw [this]
   simpa using hq
def tokQ (n0 p:Nat) (s:List UInt8) (from_:Nat) (o:Option (Tok × Nat)) (t:Tok) (tv:AV) (deep:Int) (σ:St):Post:=fun r σ'=>
 match o with
 | some (x,at2)=>r = .ret x.av ∧ RdC σ' p s at2 t tv deep ∧ Kp n0 p σ σ'
 | none=>r = .pan (faultAV 13 from_) ∧ Kp n0 p σ σ' ∧ ∃ n,RdC σ' p s n t tv deep
def strTok (s:List UInt8) (from_:Nat):Option (Tok × Nat):=(strBody (s.drop (from_ + 1)) 0).map fun x=>(⟨4,from_,x.1,0⟩,from_ + x.2 + 2)
def chrTok (s:List UInt8) (from_:Nat):Option (Tok × Nat):=
 match escape 39 (s.drop (from_ + 1)) with
 | some (b,k)=>if s[from_ + 1 + k]? = some 39 then some (⟨3,from_,[],(b.toNat:Int)⟩,from_ + k + 2) else none
 | none=>none
theorem quoted_str (hs:s.length ≤ 1000000000) (h:RdC σ p s at_ t tv deep) (hc:s[from_]? = some 34) :
  Fw Tryz.prog Lb 29 [.ptr (some (p,0)),.int .i64 from_] σ (tokQ σ.length p s from_ (strTok s from_) t tv deep σ):=by
 have hlt:from_ < s.length:=(List.getElem?_eq_some_iff.1 hc).1
 have hby (f:UInt8 → Out):byteK s (from_:Int) f = f 34:=byteK_ok (by omega) (by simpa using hc)
 have hw:=wrapS (at_:=from_) (s:=s) (by omega) hlt
 refine Fw.enter (fun _=>f29_e) ?_
 simp only [f29_t,derefK_s,h.s_,xStr_s,hby,hw,h.stAt,List.length_set]
 have hput:RdC (σ.set p (.cells (rc s (from_ + 1) t tv deep) (.rw (.box 46)))) p s (from_ + 1) t tv deep:=h.put
 have hput2:RdC (σ.set p (.cells (rc s (from_ + 1) t tv deep) (.rw (.box 46))) ++ [AObj.cells [.ptr none,.slice none 0 (some 0) 0] (.rw (.box 55))]) p s (from_ + 1) t tv deep:=
  ⟨by rw [List.getElem?_append_left (by simpa using h.lt)];exact hput.h⟩
 have hb:Bu σ.length (σ.set p (.cells (rc s (from_ + 1) t tv deep) (.rw (.box 46))) ++ [AObj.cells [.ptr none,.slice none 0 (some 0) 0] (.rw (.box 55))]) σ.length []:=
  .inl ⟨rfl,none,0,by rw [List.getElem?_append_right (by simp)];simp,.inl rfl,Nat.le_refl _⟩
 refine (Wp.fresh1 (F:=fun n m=>f29_l1 (L29 n) m (some (p,0)) from_ 34 σ.length 0 0 0 [] 0 _) (str_loop (from_:=from_) hs h.lt _ (Nat.le_refl _) (by omega) (by simp) (by simp) hput2 hb)).mono fun r σ' hq=>?_
 have hk:Kp σ.length p σ (σ.set p (.cells (rc s (from_ + 1) t tv deep) (.rw (.box 46))) ++ [AObj.cells [.ptr none,.slice none 0 (some 0) 0] (.rw (.box 55))]):=
  Kp.set.trans (Low.app (by simp)).kp
 unfold strQ at hq
 unfold tokQ strTok
 simp only [List.length_nil] at hq
 cases hbody:strBody (s.drop (from_ + 1)) 0 with
 | none=>rw [hbody] at hq;exact ⟨hq.1,hk.trans hq.2.1,hq.2.2⟩
 | some pr=>
  obtain ⟨l',k'⟩:=pr
  rw [hbody] at hq
  simp only [Option.map_some,List.nil_append] at hq ⊢
  refine ⟨hq.1,?_,hk.trans hq.2.2⟩
  rw [show from_ + k' + 2 = from_ + 1 + k' + 1 from by omega];exact hq.2.1
theorem quoted_chr (hs:s.length ≤ 1000000000) (h:RdC σ p s at_ t tv deep) (hc:s[from_]? = some 39) :
  Fw Tryz.prog Lb 29 [.ptr (some (p,0)),.int .i64 from_] σ (tokQ σ.length p s from_ (chrTok s from_) t tv deep σ):=by
 have hlt:from_ < s.length:=(List.getElem?_eq_some_iff.1 hc).1
 have hby (f:UInt8 → Out):byteK s (from_:Int) f = f 39:=byteK_ok (by omega) (by simpa using hc)
 have hw:=wrapS (at_:=from_) (s:=s) (by omega) hlt
 refine Fw.enter (fun _=>f29_e) ?_
 simp only [f29_t,derefK_s,h.s_,xStr_s,hby,hw,h.stAt,List.length_set]
 have hput:RdC (σ.set p (.cells (rc s (from_ + 1) t tv deep) (.rw (.box 46)))) p s (from_ + 1) t tv deep:=h.put
 have hput2:RdC (σ.set p (.cells (rc s (from_ + 1) t tv deep) (.rw (.box 46))) ++ [AObj.cells [.ptr none,.slice none 0 (some 0) 0] (.rw (.box 55))]) p s (from_ + 1) t tv deep:=
  ⟨by rw [List.getElem?_append_left (by simpa using h.lt)];exact hput.h⟩
 have hb:Bu σ.length (σ.set p (.cells (rc s (from_ + 1) t tv deep) (.rw (.box 46))) ++ [AObj.cells [.ptr none,.slice none 0 (some 0) 0] (.rw (.box 55))]) σ.length []:=
  .inl ⟨rfl,none,0,by rw [List.getElem?_append_right (by simp)];simp,.inl rfl,Nat.le_refl _⟩
 have hk:Kp σ.length p σ (σ.set p (.cells (rc s (from_ + 1) t tv deep) (.rw (.box 46))) ++ [AObj.cells [.ptr none,.slice none 0 (some 0) 0] (.rw (.box 55))]):=
  Kp.set.trans (Low.app (by simp)).kp
 have hn:σ.length ≤ (σ.set p (.cells (rc s (from_ + 1) t tv deep) (.rw (.box 46))) ++ [AObj.cells [.ptr none,.slice none 0 (some 0) 0] (.rw (.box 55))]).length:=by simp
 have hp:=h.lt
 refine Wp.fresh1 (F:=fun n m=>f29_l1 (L29 n) m (some (p,0)) from_ 39 σ.length 0 0 0 [] 0 _) ?_
 generalize hq0:σ.length = n0 at *
 generalize hσ1:σ.set p (.cells (rc s (from_ + 1) t tv deep) (.rw (.box 46))) ++ [AObj.cells [.ptr none,.slice none 0 (some 0) 0] (.rw (.box 55))] = σ1 at *
 refine Wp.round1 (F:=fun n m=>f29_l1 (L29 n) m (some (p,0)) from_ 39 n0 0 0 0 [] 0 σ1) (fun n m=>f29_l1_e) ?_
 simp only [f29_l1_t]
 refine Wp.pos (by decide) ?_
 refine Wp.le (F:=fun u=>f29_j2_t (L29 u.n) u.n u.m1 (some (p,0)) from_ 39 n0 0 0 0 [] 0 σ1) ?_ fun u=>f29_j2_e
 simp only [f29_j2_t]
 have bad {σ':St} {F:Fu → AV → St → Out} (hk':Kp n0 p σ σ') (hr:∃ n,RdC σ' p s n t tv deep) (hn:chrTok s from_ = none):Wp (tokQ n0 p s from_ (chrTok s from_) t tv deep σ) fun u=>callT Tryz.prog Lb u.n 27 [.int .i64 (13:Int),.int .i64 from_] σ' (F u):=by
  refine Wp.call (wrong_fn 13 from_) (fun v σ' hv=>by cases hv.1) (fun v σ' hv=>?_)
  obtain ⟨hv,rfl⟩:=hv
  cases hv
  rw [hn]
  exact ⟨rfl,hk',hr⟩
 refine Wp.call (escape_fn (q:=39) (by omega) (by omega) hput2) (fun v σ' hv=>?_) (fun v σ' hv=>?_)
 ·unfold escQ at hv
  split at hv
  ·rename_i b k2 hesc
   obtain ⟨hv,rfl⟩:=hv
   cases hv
   simp only [xTup_t,unC_c,xInt_i,xBool_b,nlC_n]
   have hk2:=escape_len hesc
   have hl2:from_ + 1 + k2 ≤ s.length:=by have:=hk2.2;simp at this;omega
   refine Wp.neg rfl (Wp.neg (by decide) ?_)
   have hput3:RdC (σ1.set p (.cells (rc s (from_ + 1 + k2) t tv deep) (.rw (.box 46)))) p s (from_ + 1 + k2) t tv deep:=hput2.put
   have hb3:Bu n0 (σ1.set p (.cells (rc s (from_ + 1 + k2) t tv deep) (.rw (.box 46)))) n0 []:=hb.low fun x hx=>List.getElem?_set_ne (by omega)
   refine Wp.le (F:=fun u=>f29_j6_t (L29 u.n) u.n u.m1 (some (p,0)) from_ 39 n0 0 b.toNat 0 0 [] 0 _) ?_ fun u=>f29_j6_e
   simp only [f29_j6_t]
   refine Wp.call (writeByte_fn (by simpa using hn) (by simp) hb3 b) (fun v σ' hv=>?_) (fun v σ' hv=>by cases hv.1)
   obtain ⟨_,hb4,hlow⟩:=hv
   refine Wp.pos (by decide) ?_
   have hput4:RdC σ' p s (from_ + 1 + k2) t tv deep:=⟨by rw [hlow.same p hp];exact hput3.h⟩
   have hk4:Kp n0 p σ σ':=(hk.trans Kp.set).trans hlow.kp
   have hchr:chrTok s from_ = if s[from_ + 1 + k2]? = some 39 then some (⟨3,from_,[],(b.toNat:Int)⟩,from_ + k2 + 2) else none:=by unfold chrTok;rw [hesc]
   refine Wp.le (F:=fun u=>f29_j3_t (L29 u.n) u.n (some (p,0)) from_ 39 n0 0 0 0 [] 0 σ') ?_ fun u=>f29_j3_e
   simp only [f29_j3_t,derefK_s,hput4.at__,hput4.s_,xInt_i,xStr_s]
   refine Wp.ite (fun h0=>?_) fun h0=>?_
   ·refine bad hk4 ⟨_,hput4⟩ ?_
    rw [hchr,List.getElem?_eq_none (by simp at h0;omega)]
    simp
   ·have hlt3:from_ + 1 + k2 < s.length:=by simp at h0;omega
    obtain ⟨c,hc3⟩:∃ c,s[from_ + 1 + k2]? = some c:=⟨s[from_ + 1 + k2],List.getElem?_eq_getElem hlt3⟩
    have hby3 (f:UInt8 → Out):byteK s ((from_ + 1 + k2:Nat):Int) f = f c:=byteK_ok (by omega) (by rw [Int.toNat_natCast];exact hc3)
    have hw3:=wrapS (at_:=from_ + 1 + k2) (s:=s) (by omega) hlt3
    simp only [hby3]
    have n39:((c.toNat:Int) == (39:Int)) = (c.toNat == 39):=natInt (b:=39)
    rw [bne,n39]
    refine Wp.ite (fun h1=>?_) fun h1=>?_
    ·refine bad hk4 ⟨_,hput4⟩ ?_
     rw [hchr,hc3]
     rw [if_neg]
     intro e
     cases e
     simp at h1
    ·have hc39:c = 39:=UInt8.toNat_inj.1 (by simpa using h1)
     subst hc39
     rw [hchr,hc3,if_pos rfl]
     refine Wp.le (F:=fun u=>f29_j7_t (L29 u.n) u.n (some (p,0)) from_ 39 n0 0 0 0 [] 0 σ') ?_ fun u=>f29_j7_e
     simp only [f29_j7_t,derefK_s,hput4.at__,xInt_i,hw3,hput4.stAt]
     refine Wp.neg (by decide) ?_
     have hb5:Bu n0 (σ'.set p (.cells (rc s (from_ + 1 + k2 + 1) t tv deep) (.rw (.box 46)))) n0 ([] ++ [b]):=hb4.low fun x hx=>List.getElem?_set_ne (by omega)
     refine Wp.call (string_fn (by simp) hb5) (fun v σ2 hv=>?_) (fun v σ2 hv=>by cases hv.1)
     obtain ⟨hv,hlow2⟩:=hv
     cases hv
     simp only [xStr_s,List.nil_append]
     simp only [byteK_ok (s:=[b]) (i:=0) (b:=b) (by omega) rfl]
     have hwb:IntKind.wrap .i64 (b.toNat:Int) = (b.toNat:Int):=wrap64 (by omega) (by have:=UInt8.toNat_lt b;omega)
     rw [hwb]
     refine Wp.ret ⟨rfl,?_,(hk4.trans Kp.set).trans hlow2.kp⟩
     rw [show from_ + k2 + 2 = from_ + 1 + k2 + 1 from by omega]
     exact ⟨by rw [hlow2.same p hp];exact (hput4.put (at2:=from_ + 1 + k2 + 1)).h⟩
  ·rename_i hesc
   obtain ⟨x,n,hv,rfl⟩:=hv
   cases hv
   simp only [xTup_t,unC_c,xInt_i,xBool_b,nlC_n]
   refine Wp.pos rfl ?_
   refine Wp.le (F:=fun u=>f29_j4_t (L29 u.n) u.n u.m1 (some (p,0)) from_ 39 n0 0 x 0 0 [] 0 _) ?_ fun u=>f29_j4_e
   simp only [f29_j4_t]
   exact bad (hk.trans Kp.set) ⟨_,hput2.put⟩ (by unfold chrTok;rw [hesc])
 ·unfold escQ at hv
  split at hv
  ·cases hv.1
  ·obtain ⟨x,n,hv,_⟩:=hv
   cases hv
end
end Go.Front

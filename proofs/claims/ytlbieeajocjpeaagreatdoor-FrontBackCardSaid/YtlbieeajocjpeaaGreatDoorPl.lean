/- How nodes lie: each node's Kids stand right ahead of it, one behind the other; what kinds they are. -/
import Derived.Test.YtlbieeajocjpeaaGreatDoorAst
set_option linter.unusedSimpArgs false
set_option linter.unusedVariables false
namespace Go.Front
def Seg {α:Type} (l:List α) (b:Nat) (s:List α):Prop:=∀ j x,s[j]? = some x → l[b + j]? = some x
theorem Seg.app {α:Type} {l s1 s2:List α} {b:Nat} (h:Seg l b (s1 ++ s2)):Seg l b s1 ∧ Seg l (b + s1.length) s2:=by
 refine ⟨fun j x hx=>h j x ?_,fun j x hx=>?_⟩
 ·rw [List.getElem?_append_left (List.getElem?_eq_some_iff.1 hx).1];exact hx
 ·rw [Nat.add_assoc];refine h _ x ?_
  rw [List.getElem?_append_right (by omega),Nat.add_sub_cancel_left];exact hx
theorem Seg.one {α:Type} {l:List α} {b:Nat} {x:α} (h:Seg l b [x]):l[b]? = some x:=h 0 x rfl
theorem Seg.refl {α:Type} (l:List α):Seg l 0 l:=fun j x hx=>by rw [Nat.zero_add];exact hx
def chain (F:Nat → Nat):Nat → List Nat → Option Nat
 | f,[]=>some f
 | f,k :: r=>if k + 1 = f then chain F (F k) r else none
theorem chain_app (F:Nat → Nat):∀ (l1 l2:List Nat) (f:Nat),chain F f (l1 ++ l2) = (chain F f l1).bind fun f'=>chain F f' l2
 | [],l2,f=>rfl
 | k :: l1,l2,f=>by
  simp only [List.cons_append,chain]
  split
  ·exact chain_app F l1 l2 _
  ·rfl
theorem chain_len {F:Nat → Nat}:∀ (l:List Nat) (f r:Nat),chain F f l = some r → (∀ k ∈ l,F k ≤ k) → l.length + r ≤ f
 | [],f,r,h,_=>by simp only [chain,Option.some.injEq] at h;simp;omega
 | k :: l,f,r,h,hk=>by
  simp only [chain] at h
  split at h
  ·have:=chain_len l _ _ h fun x hx=>hk x (by simp [hx])
   have:=hk k (by simp)
   simp only [List.length_cons];omega
  ·cases h
def sortB (k:Int):UInt8:=if 1 ≤ k ∧ k ≤ 7 then 49 else if 10 ≤ k ∧ k ≤ 18 then 50 else if 20 ≤ k ∧ k ≤ 22 then 51 else if k = 23 then 52 else 48
def kindAt (t:List Node) (k:Nat):Int:=match t[k]? with | some x=>x.kind | none=>0
def got (t:List Node) (nd:Node):List UInt8:=nd.kids.map fun k=>sortB (kindAt t k)
inductive KOk (t:List Node) (nd:Node):Prop
 | leaf (h:nd.kind = 1 ∨ nd.kind = 2 ∨ nd.kind = 3 ∨ nd.kind = 15 ∨ nd.kind = 16 ∨ nd.kind = 20 ∨ nd.kind = 21) (hg:got t nd = [])
 | index (h:nd.kind = 5) (hg:got t nd = [49,49])
 | un (h:nd.kind = 6) (hg:got t nd = [49]) (hn:1 ≤ nd.n ∧ nd.n ≤ 3)
 | bin (h:nd.kind = 7) (hg:got t nd = [49,49]) (hn:4 ≤ nd.n ∧ nd.n ≤ 21)
 | one (h:nd.kind = 10 ∨ nd.kind = 14) (hg:got t nd = [49])
 | set (h:nd.kind = 11) (hg:got t nd = [49,49])
 | while (h:nd.kind = 13) (hg:got t nd = [49,50])
 | call (h:nd.kind = 4) (hg:∀ x ∈ got t nd,x = 49)
 | cond (h:nd.kind = 12) (hg:got t nd = [49,50] ∨ got t nd = [49,50,50])
 | block (h:nd.kind = 17) (hg:∀ x ∈ got t nd,x = 50)
 | var (h:nd.kind = 18) (hg:got t nd = [] ∨ got t nd = [49])
 | fn (h:nd.kind = 22) (hg:∀ x ∈ got t nd,x = 50) (m k:Nat) (hm:nd.m = m) (hl:nd.kids.length = m + 1) (hk:nd.kids[m]? = some k) (hb:kindAt t k = 17)
 | all (h:nd.kind = 23) (hg:∀ x ∈ got t nd,x = 51)
structure Fine (len:Nat) (t:List Node) (F:Nat → Nat) (i:Nat) (nd:Node):Prop where
 at_:t[i]? = some nd
 le:F i ≤ i
 ch:chain F i nd.kids.reverse = some (F i)
 kids:∀ k ∈ nd.kids,k < i ∧ ∃ kd,t[k]? = some kd ∧ (nd.at_ ≤ kd.at_ ∨ nd.kind = 23)
 at0:0 ≤ nd.at_
 lt:nd.at_ < len ∨ nd.kind = 23
 ok:KOk t nd
def FineSeg (len:Nat) (t:List Node) (F:Nat → Nat) (b n:Nat):Prop:=∀ i,b ≤ i → i < b + n → ∃ nd,Fine len t F i nd
theorem FineSeg.join {len:Nat} {t:List Node} {F:Nat → Nat} {b n m:Nat} (h:FineSeg len t F b n) (g:FineSeg len t F (b + n) m):FineSeg len t F b (n + m):=fun i h1 h2=>by
 by_cases hi:i < b + n
 ·exact h i h1 hi
 ·exact g i (by omega) (by omega)
theorem FineSeg.one {len:Nat} {t:List Node} {F:Nat → Nat} {b:Nat} {nd:Node} (h:Fine len t F b nd):FineSeg len t F b 1:=fun i h1 h2=>by
 have:i = b:=by omega
 subst this;exact ⟨nd,h⟩
theorem FineSeg.nil {len:Nat} {t:List Node} {F:Nat → Nat} {b:Nat}:FineSeg len t F b 0:=fun i h1 h2=>by omega
mutual
def Ex.firsts (b:Nat):Ex → List Nat
 | .num _ _=>[b]
 | .text _ _=>[b]
 | .name _ _=>[b]
 | .call _ _ l=>Ex.firstss b l ++ [b]
 | .index x i=>Ex.firsts b x ++ Ex.firsts (b + x.size) i ++ [b]
 | .un _ _ x=>Ex.firsts b x ++ [b]
 | .bin _ x y=>Ex.firsts b x ++ Ex.firsts (b + x.size) y ++ [b]
def Ex.firstss (b:Nat):List Ex → List Nat
 | []=>[]
 | x :: l=>Ex.firsts b x ++ Ex.firstss (b + x.size) l
end
mutual
theorem Ex.firsts_len:∀ (e:Ex) (b:Nat),(e.firsts b).length = e.size
 | .num _ _,b=>rfl
 | .text _ _,b=>rfl
 | .name _ _,b=>rfl
 | .call _ _ l,b=>by simp [Ex.firsts,Ex.size,Ex.firstss_len l b]
 | .index x i,b=>by simp [Ex.firsts,Ex.size,Ex.firsts_len x b,Ex.firsts_len i (b + x.size)];omega
 | .un _ _ x,b=>by simp [Ex.firsts,Ex.size,Ex.firsts_len x b]
 | .bin _ x y,b=>by simp [Ex.firsts,Ex.size,Ex.firsts_len x b,Ex.firsts_len y (b + x.size)];omega
theorem Ex.firstss_len:∀ (l:List Ex) (b:Nat),(Ex.firstss b l).length = Ex.sizes l
 | [],b=>rfl
 | x :: l,b=>by simp [Ex.firstss,Ex.sizes,Ex.firsts_len x b,Ex.firstss_len l (b + x.size)]
end
mutual
def Sm.firsts (b:Nat):Sm → List Nat
 | .expr _ x=>x.firsts b ++ [b]
 | .set x y=>x.firsts b ++ y.firsts (b + x.size) ++ [b]
 | .if1 _ c a=>c.firsts b ++ Sm.firsts (b + c.size) a ++ [b]
 | .if2 _ c a e=>c.firsts b ++ Sm.firsts (b + c.size) a ++ Sm.firsts (b + c.size + a.size) e ++ [b]
 | .while _ c a=>c.firsts b ++ Sm.firsts (b + c.size) a ++ [b]
 | .ret _ x=>x.firsts b ++ [b]
 | .brk _=>[b]
 | .next _=>[b]
 | .block _ l=>Sm.firstss b l ++ [b]
 | .var _ _ _=>[b]
 | .vari _ _ _ x=>x.firsts b ++ [b]
def Sm.firstss (b:Nat):List Sm → List Nat
 | []=>[]
 | x :: l=>Sm.firsts b x ++ Sm.firstss (b + x.size) l
end
mutual
theorem Sm.firsts_len:∀ (e:Sm) (b:Nat),(e.firsts b).length = e.size
 | .expr _ x,b=>by simp [Sm.firsts,Sm.size,Ex.firsts_len]
 | .set x y,b=>by simp [Sm.firsts,Sm.size,Ex.firsts_len];omega
 | .if1 _ c a,b=>by simp [Sm.firsts,Sm.size,Ex.firsts_len,Sm.firsts_len a];omega
 | .if2 _ c a e,b=>by simp [Sm.firsts,Sm.size,Ex.firsts_len,Sm.firsts_len a,Sm.firsts_len e];omega
 | .while _ c a,b=>by simp [Sm.firsts,Sm.size,Ex.firsts_len,Sm.firsts_len a];omega
 | .ret _ x,b=>by simp [Sm.firsts,Sm.size,Ex.firsts_len]
 | .brk _,b=>rfl
 | .next _,b=>rfl
 | .block _ l,b=>by simp [Sm.firsts,Sm.size,Sm.firstss_len l]
 | .var _ _ _,b=>rfl
 | .vari _ _ _ x,b=>by simp [Sm.firsts,Sm.size,Ex.firsts_len]
theorem Sm.firstss_len:∀ (l:List Sm) (b:Nat),(Sm.firstss b l).length = Sm.sizes l
 | [],b=>rfl
 | x :: l,b=>by simp [Sm.firstss,Sm.sizes,Sm.firsts_len x b,Sm.firstss_len l (b + x.size)]
end
def Dc.firsts (b:Nat):Dc → List Nat
 | .var _ _=>[b]
 | .array _ _ _ _=>[b]
 | .fn _ _ ps _ l=>List.range' b ps.length ++ (Sm.firstss (b + ps.length) l ++ [b + ps.length]) ++ [b]
theorem Dc.firsts_len (e:Dc) (b:Nat):(e.firsts b).length = e.size:=by
 cases e <;> simp [Dc.firsts,Dc.size,Sm.firstss_len];omega
def Dc.firstss (b:Nat):List Dc → List Nat
 | []=>[]
 | x :: l=>Dc.firsts b x ++ Dc.firstss (b + x.size) l
theorem Dc.firstss_len:∀ (l:List Dc) (b:Nat),(Dc.firstss b l).length = Dc.sizes l
 | [],b=>rfl
 | x :: l,b=>by simp [Dc.firstss,Dc.sizes,Dc.firsts_len x b,Dc.firstss_len l (b + x.size)]
def allFirsts (l:List Dc):List Nat:=Dc.firstss 0 l ++ [0]
section
variable {len:Nat} {t:List Node} {fs:List Nat}
def Fof (fs:List Nat) (i:Nat):Nat:=fs[i]?.getD 0
theorem Fof_seg {b x:Nat} (h:fs[b]? = some x):Fof fs b = x:=by unfold Fof;rw [h];rfl
structure Sub (t:List Node) (fs:List Nat) (b n a:Nat) (k:UInt8):Prop where
 pos:0 < n
 first:fs[b + n - 1]? = some b
 node:∃ kd,t[b + n - 1]? = some kd ∧ kd.at_ = a ∧ sortB kd.kind = k
theorem Sub.got {b n a:Nat} {k:UInt8} (h:Sub t fs b n a k):sortB (kindAt t (b + n - 1)) = k:=by
 obtain ⟨kd,h1,_,h2⟩:=h.node
 unfold kindAt;rw [h1];exact h2
theorem Sub.kid {b n a a0 c:Nat} {k:UInt8} (h:Sub t fs b n a k) (ha:a0 ≤ a) (hc:b + n ≤ c):b + n - 1 < c ∧ ∃ kd,t[b + n - 1]? = some kd ∧ ((a0:Int) ≤ kd.at_ ∨ (False:Prop)):=by
 obtain ⟨kd,h1,h2,_⟩:=h.node
 exact ⟨by have:=h.pos;omega,kd,h1,.inl (by omega)⟩
theorem Sub.ch {b n a:Nat} {k:UInt8} {r:List Nat} (h:Sub t fs b n a k):chain (Fof fs) (b + n) ((b + n - 1) :: r) = chain (Fof fs) b r:=by
 simp only [chain]
 rw [if_pos (by have:=h.pos;omega),Fof_seg h.first]
theorem mkFine {i b a:Nat} {nd:Node} (ht:t[i]? = some nd) (hf:fs[i]? = some b) (hc:chain (Fof fs) i nd.kids.reverse = some b) (hk:∀ k ∈ nd.kids,k < i ∧ ∃ kd,t[k]? = some kd ∧ (a:Int) ≤ kd.at_) (ha:nd.at_ = (a:Int)) (hl:a < len) (ok:KOk t nd) (hbi:b ≤ i:=by omega) :
  Fine len t (Fof fs) i nd:=
 ⟨ht,by rw [Fof_seg hf];exact hbi,by rw [hc,Fof_seg hf],fun k hk'=>by obtain ⟨h1,kd,h2,h3⟩:=hk k hk';exact ⟨h1,kd,h2,.inl (by omega)⟩,by omega,.inl (by omega),ok⟩
theorem Sub.kid' {b n a a0 c:Nat} {k:UInt8} (h:Sub t fs b n a k) (ha:a0 ≤ a) (hc:b + n ≤ c):b + n - 1 < c ∧ ∃ kd,t[b + n - 1]? = some kd ∧ (a0:Int) ≤ kd.at_:=by
 obtain ⟨h1,kd,h2,h3⟩:=h.kid (a0:=a0) ha hc
 exact ⟨h1,kd,h2,by rcases h3 with h | h;exact h;exact h.elim⟩
structure Subs (t:List Node) (fs:List Nat) (b n a:Nat) (k:UInt8) (roots:List Nat):Prop where
 ch:chain (Fof fs) (b + n) roots.reverse = some b
 kids:∀ x ∈ roots,x < b + n ∧ ∃ kd,t[x]? = some kd ∧ (a:Int) ≤ kd.at_
 got:∀ x ∈ roots,sortB (kindAt t x) = k
theorem Subs.nil {b a:Nat} {k:UInt8}:Subs t fs b 0 a k []:=⟨rfl,by simp,by simp⟩
theorem Subs.cons {b n m a a':Nat} {k:UInt8} {r:List Nat} (h:Sub t fs b n a' k) (ha:a ≤ a') (g:Subs t fs (b + n) m a k r):Subs t fs b (n + m) a k ((b + n - 1) :: r):=by
 refine ⟨?_,fun x hx=>?_,fun x hx=>?_⟩
 ·rw [List.reverse_cons,chain_app,← Nat.add_assoc,g.ch]
  exact h.ch
 ·cases hx with
  | head=>exact h.kid' ha (by omega)
  | tail _ hx=>obtain ⟨h1,h2⟩:=g.kids x hx;exact ⟨by omega,h2⟩
 ·cases hx with
  | head=>exact h.got
  | tail _ hx=>exact g.got x hx
theorem rootAt {b n:Nat} {s:List Node} {nd:Node} (h:Seg t b (s ++ [nd])) (hs:s.length = n):t[b + n]? = some nd:=by
 subst hs;exact h.app.2.one
theorem rootFirst {b n:Nat} {s:List Nat} {x:Nat} (h:Seg fs b (s ++ [x])) (hs:s.length = n):fs[b + n]? = some x:=by
 subst hs;exact h.app.2.one
mutual
theorem Ex.fine:∀ (e:Ex) (b:Nat),e.good len → Seg t b (e.flat b) → Seg fs b (e.firsts b) → FineSeg len t (Fof fs) b e.size ∧ Sub t fs b e.size e.at_ 49
 | .num a n,b,hg,ht,hf=>by
  have h1:=ht.one;have h2:=hf.one
  exact ⟨.one (mkFine h1 h2 rfl (by simp) rfl hg.1 (.leaf (by simp) rfl)),⟨Nat.one_pos,h2,_,h1,rfl,rfl⟩⟩
 | .text a n,b,hg,ht,hf=>by
  have h1:=ht.one;have h2:=hf.one
  exact ⟨.one (mkFine h1 h2 rfl (by simp) rfl hg.1 (.leaf (by simp) rfl)),⟨Nat.one_pos,h2,_,h1,rfl,rfl⟩⟩
 | .name a n,b,hg,ht,hf=>by
  have h1:=ht.one;have h2:=hf.one
  exact ⟨.one (mkFine h1 h2 rfl (by simp) rfl hg.1 (.leaf (by simp) rfl)),⟨Nat.one_pos,h2,_,h1,rfl,rfl⟩⟩
 | .call a s l,b,hg,ht,hf=>by
  obtain ⟨f1,s1⟩:=Ex.fines l b a hg.2.2 ht.app.1 hf.app.1
  have h1:=rootAt ht (Ex.flats_len l b)
  have h2:=rootFirst hf (Ex.firstss_len l b)
  refine ⟨f1.join (.one (mkFine h1 h2 s1.ch s1.kids rfl hg.1 (.call rfl fun x hx=>?_))),⟨Nat.succ_pos _,h2,_,h1,rfl,rfl⟩⟩
  obtain ⟨k,hk,rfl⟩:=List.mem_map.1 hx
  exact s1.got k hk
 | .index x i,b,hg,ht,hf=>by
  obtain ⟨f1,s1⟩:=Ex.fine x b hg.1 ht.app.1.app.1 hf.app.1.app.1
  obtain ⟨f2,s2⟩:=Ex.fine i (b + x.size) hg.2.1 (by have:=ht.app.1.app.2;rwa [Ex.flat_len] at this) (by have:=hf.app.1.app.2;rwa [Ex.firsts_len] at this)
  have h1:=rootAt ht (n:=x.size + i.size) (by simp [Ex.flat_len])
  have h2:=rootFirst hf (n:=x.size + i.size) (by simp [Ex.firsts_len])
  have ss:=(Subs.nil (k:=49) (a:=x.at_)).cons s2 hg.2.2 |>.cons s1 (Nat.le_refl _)
  exact ⟨(f1.join f2).join (.one (mkFine h1 h2 ss.ch ss.kids rfl (Ex.good_at hg.1) (.index rfl (by simp only [got,List.map_cons,List.map_nil];rw [ss.got _ (by simp),ss.got _ (by simp)])))),⟨Nat.succ_pos _,h2,_,h1,rfl,rfl⟩⟩
 | .un a op x,b,hg,ht,hf=>by
  obtain ⟨f1,s1⟩:=Ex.fine x b hg.2.1 ht.app.1 hf.app.1
  have h1:=rootAt ht (Ex.flat_len x b)
  have h2:=rootFirst hf (Ex.firsts_len x b)
  have ss:=(Subs.nil (k:=49) (a:=a)).cons s1 hg.2.2.1
  exact ⟨f1.join (.one (mkFine h1 h2 ss.ch ss.kids rfl hg.1 (.un rfl (by simp only [got,List.map_cons,List.map_nil];rw [ss.got _ (by simp)]) (by have:=hg.2.2.2;simp only;omega)))),⟨Nat.succ_pos _,h2,_,h1,rfl,rfl⟩⟩
 | .bin op x i,b,hg,ht,hf=>by
  obtain ⟨f1,s1⟩:=Ex.fine x b hg.1 ht.app.1.app.1 hf.app.1.app.1
  obtain ⟨f2,s2⟩:=Ex.fine i (b + x.size) hg.2.1 (by have:=ht.app.1.app.2;rwa [Ex.flat_len] at this) (by have:=hf.app.1.app.2;rwa [Ex.firsts_len] at this)
  have h1:=rootAt ht (n:=x.size + i.size) (by simp [Ex.flat_len])
  have h2:=rootFirst hf (n:=x.size + i.size) (by simp [Ex.firsts_len])
  have ss:=(Subs.nil (k:=49) (a:=x.at_)).cons s2 hg.2.2.1 |>.cons s1 (Nat.le_refl _)
  exact ⟨(f1.join f2).join (.one (mkFine h1 h2 ss.ch ss.kids rfl (Ex.good_at hg.1) (.bin rfl (by simp only [got,List.map_cons,List.map_nil];rw [ss.got _ (by simp),ss.got _ (by simp)]) (by have:=hg.2.2.2;simp only;omega)))),⟨Nat.succ_pos _,h2,_,h1,rfl,rfl⟩⟩
theorem Ex.fines:∀ (l:List Ex) (b a:Nat),Ex.goods len a l → Seg t b (Ex.flats b l) → Seg fs b (Ex.firstss b l) → FineSeg len t (Fof fs) b (Ex.sizes l) ∧ Subs t fs b (Ex.sizes l) a 49 (Ex.roots b l)
 | [],b,a,_,_,_=>⟨.nil,.nil⟩
 | x :: l,b,a,hg,ht,hf=>by
  obtain ⟨f1,s1⟩:=Ex.fine x b hg.1 ht.app.1 hf.app.1
  obtain ⟨f2,s2⟩:=Ex.fines l (b + x.size) a hg.2.2 (by have:=ht.app.2;rwa [Ex.flat_len] at this) (by have:=hf.app.2;rwa [Ex.firsts_len] at this)
  exact ⟨f1.join f2,s2.cons s1 hg.2.1⟩
end
mutual
theorem Sm.fine:∀ (e:Sm) (b:Nat),e.good len → Seg t b (e.flat b) → Seg fs b (e.firsts b) → FineSeg len t (Fof fs) b e.size ∧ Sub t fs b e.size e.at_ 50
 | .expr a x,b,hg,ht,hf=>by
  obtain ⟨f1,s1⟩:=Ex.fine x b hg.2.1 ht.app.1 hf.app.1
  have h1:=rootAt ht (Ex.flat_len x b)
  have h2:=rootFirst hf (Ex.firsts_len x b)
  have ss:=(Subs.nil (k:=49) (a:=a)).cons s1 hg.2.2
  exact ⟨f1.join (.one (mkFine h1 h2 ss.ch ss.kids rfl hg.1 (.one (.inl rfl) (by simp only [got,List.map_cons,List.map_nil];rw [ss.got _ (by simp)])))),⟨Nat.succ_pos _,h2,_,h1,rfl,rfl⟩⟩
 | .set x i,b,hg,ht,hf=>by
  obtain ⟨f1,s1⟩:=Ex.fine x b hg.1 ht.app.1.app.1 hf.app.1.app.1
  obtain ⟨f2,s2⟩:=Ex.fine i (b + x.size) hg.2.1 (by have:=ht.app.1.app.2;rwa [Ex.flat_len] at this) (by have:=hf.app.1.app.2;rwa [Ex.firsts_len] at this)
  have h1:=rootAt ht (n:=x.size + i.size) (by simp [Ex.flat_len])
  have h2:=rootFirst hf (n:=x.size + i.size) (by simp [Ex.firsts_len])
  have ss:=(Subs.nil (k:=49) (a:=x.at_)).cons s2 hg.2.2.1 |>.cons s1 (Nat.le_refl _)
  exact ⟨(f1.join f2).join (.one (mkFine h1 h2 ss.ch ss.kids rfl (Ex.good_at hg.1) (.set rfl (by simp only [got,List.map_cons,List.map_nil];rw [ss.got _ (by simp),ss.got _ (by simp)])))),⟨Nat.succ_pos _,h2,_,h1,rfl,rfl⟩⟩
 | .if1 tt c a,b,hg,ht,hf=>by
  obtain ⟨g1,g2,g3,g4,g5⟩:=hg
  obtain ⟨f1,s1⟩:=Ex.fine c b g2 ht.app.1.app.1 hf.app.1.app.1
  obtain ⟨f2,s2⟩:=Sm.fine a (b + c.size) g4 (by have:=ht.app.1.app.2;rwa [Ex.flat_len] at this) (by have:=hf.app.1.app.2;rwa [Ex.firsts_len] at this)
  have h1:=rootAt ht (n:=c.size + a.size) (by simp [Ex.flat_len,Sm.flat_len])
  have h2:=rootFirst hf (n:=c.size + a.size) (by simp [Ex.firsts_len,Sm.firsts_len])
  have sa:=(Subs.nil (k:=50) (a:=tt)).cons s2 g5
  have hch:chain (Fof fs) (b + (c.size + a.size)) [b + c.size + a.size - 1,b + c.size - 1] = some b:=by
   rw [← Nat.add_assoc,s2.ch,s1.ch];rfl
  have hk:∀ k ∈ [b + c.size - 1,b + c.size + a.size - 1],k < b + (c.size + a.size) ∧ ∃ kd,t[k]? = some kd ∧ (tt:Int) ≤ kd.at_:=by
   intro k hk
   simp only [List.mem_cons,List.not_mem_nil,or_false] at hk
   rcases hk with rfl | rfl
   ·exact s1.kid' g3 (by omega)
   ·exact s2.kid' g5 (by omega)
  exact ⟨(f1.join f2).join (.one (mkFine h1 h2 hch hk rfl g1 (.cond rfl (.inl (by simp only [got,List.map_cons,List.map_nil];rw [s1.got,s2.got]))))),⟨Nat.succ_pos _,h2,_,h1,rfl,rfl⟩⟩
 | .if2 tt c a e,b,hg,ht,hf=>by
  obtain ⟨g1,g2,g3,g4,g5,g6,g7,g8⟩:=hg
  obtain ⟨f1,s1⟩:=Ex.fine c b g2 ht.app.1.app.1.app.1 hf.app.1.app.1.app.1
  obtain ⟨f2,s2⟩:=Sm.fine a (b + c.size) g4 (by have:=ht.app.1.app.1.app.2;rwa [Ex.flat_len] at this) (by have:=hf.app.1.app.1.app.2;rwa [Ex.firsts_len] at this)
  obtain ⟨f3,s3⟩:=Sm.fine e (b + c.size + a.size) g6 (by have:=ht.app.1.app.2;rwa [List.length_append,Ex.flat_len,Sm.flat_len,← Nat.add_assoc] at this) (by have:=hf.app.1.app.2;rwa [List.length_append,Ex.firsts_len,Sm.firsts_len,← Nat.add_assoc] at this)
  have h1:=rootAt ht (n:=c.size + a.size + e.size) (by simp [Ex.flat_len,Sm.flat_len];omega)
  have h2:=rootFirst hf (n:=c.size + a.size + e.size) (by simp [Ex.firsts_len,Sm.firsts_len];omega)
  have hch:chain (Fof fs) (b + (c.size + a.size + e.size)) [b + c.size + a.size + e.size - 1,b + c.size + a.size - 1,b + c.size - 1] = some b:=by
   rw [← Nat.add_assoc,← Nat.add_assoc,s3.ch,s2.ch,s1.ch];rfl
  have hk:∀ k ∈ [b + c.size - 1,b + c.size + a.size - 1,b + c.size + a.size + e.size - 1],k < b + (c.size + a.size + e.size) ∧ ∃ kd,t[k]? = some kd ∧ (tt:Int) ≤ kd.at_:=by
   intro k hk
   simp only [List.mem_cons,List.not_mem_nil,or_false] at hk
   rcases hk with rfl | rfl | rfl
   ·exact s1.kid' g3 (by omega)
   ·exact s2.kid' g5 (by omega)
   ·exact s3.kid' g7 (by omega)
  have f3':FineSeg len t (Fof fs) (b + (c.size + a.size)) e.size:=by rw [← Nat.add_assoc];exact f3
  exact ⟨((f1.join f2).join f3').join (.one (mkFine h1 h2 hch hk rfl g1 (.cond rfl (.inr (by simp only [got,List.map_cons,List.map_nil];rw [s1.got,s2.got,s3.got]))))),⟨Nat.succ_pos _,h2,_,h1,rfl,rfl⟩⟩
 | .while tt c a,b,hg,ht,hf=>by
  obtain ⟨g1,g2,g3,g4,g5⟩:=hg
  obtain ⟨f1,s1⟩:=Ex.fine c b g2 ht.app.1.app.1 hf.app.1.app.1
  obtain ⟨f2,s2⟩:=Sm.fine a (b + c.size) g4 (by have:=ht.app.1.app.2;rwa [Ex.flat_len] at this) (by have:=hf.app.1.app.2;rwa [Ex.firsts_len] at this)
  have h1:=rootAt ht (n:=c.size + a.size) (by simp [Ex.flat_len,Sm.flat_len])
  have h2:=rootFirst hf (n:=c.size + a.size) (by simp [Ex.firsts_len,Sm.firsts_len])
  have hch:chain (Fof fs) (b + (c.size + a.size)) [b + c.size + a.size - 1,b + c.size - 1] = some b:=by
   rw [← Nat.add_assoc,s2.ch,s1.ch];rfl
  have hk:∀ k ∈ [b + c.size - 1,b + c.size + a.size - 1],k < b + (c.size + a.size) ∧ ∃ kd,t[k]? = some kd ∧ (tt:Int) ≤ kd.at_:=by
   intro k hk
   simp only [List.mem_cons,List.not_mem_nil,or_false] at hk
   rcases hk with rfl | rfl
   ·exact s1.kid' g3 (by omega)
   ·exact s2.kid' g5 (by omega)
  exact ⟨(f1.join f2).join (.one (mkFine h1 h2 hch hk rfl g1 (.while rfl (by simp only [got,List.map_cons,List.map_nil];rw [s1.got,s2.got])))),⟨Nat.succ_pos _,h2,_,h1,rfl,rfl⟩⟩
 | .ret a x,b,hg,ht,hf=>by
  obtain ⟨f1,s1⟩:=Ex.fine x b hg.2.1 ht.app.1 hf.app.1
  have h1:=rootAt ht (Ex.flat_len x b)
  have h2:=rootFirst hf (Ex.firsts_len x b)
  have ss:=(Subs.nil (k:=49) (a:=a)).cons s1 hg.2.2
  exact ⟨f1.join (.one (mkFine h1 h2 ss.ch ss.kids rfl hg.1 (.one (.inr rfl) (by simp only [got,List.map_cons,List.map_nil];rw [ss.got _ (by simp)])))),⟨Nat.succ_pos _,h2,_,h1,rfl,rfl⟩⟩
 | .brk a,b,hg,ht,hf=>by
  have h1:=ht.one;have h2:=hf.one
  exact ⟨.one (mkFine h1 h2 rfl (by simp) rfl hg (.leaf (by simp) rfl)),⟨Nat.one_pos,h2,_,h1,rfl,rfl⟩⟩
 | .next a,b,hg,ht,hf=>by
  have h1:=ht.one;have h2:=hf.one
  exact ⟨.one (mkFine h1 h2 rfl (by simp) rfl hg (.leaf (by simp) rfl)),⟨Nat.one_pos,h2,_,h1,rfl,rfl⟩⟩
 | .block a l,b,hg,ht,hf=>by
  obtain ⟨f1,s1⟩:=Sm.fines l b a hg.2 ht.app.1 hf.app.1
  have h1:=rootAt ht (Sm.flats_len l b)
  have h2:=rootFirst hf (Sm.firstss_len l b)
  refine ⟨f1.join (.one (mkFine h1 h2 s1.ch s1.kids rfl hg.1 (.block rfl fun x hx=>?_))),⟨Nat.succ_pos _,h2,_,h1,rfl,rfl⟩⟩
  obtain ⟨k,hk,rfl⟩:=List.mem_map.1 hx
  exact s1.got k hk
 | .var a s ty,b,hg,ht,hf=>by
  have h1:=ht.one;have h2:=hf.one
  exact ⟨.one (mkFine h1 h2 rfl (by simp) rfl hg.1 (.var rfl (.inl rfl))),⟨Nat.one_pos,h2,_,h1,rfl,rfl⟩⟩
 | .vari a s ty x,b,hg,ht,hf=>by
  obtain ⟨f1,s1⟩:=Ex.fine x b hg.2.2.2.1 ht.app.1 hf.app.1
  have h1:=rootAt ht (Ex.flat_len x b)
  have h2:=rootFirst hf (Ex.firsts_len x b)
  have ss:=(Subs.nil (k:=49) (a:=a)).cons s1 hg.2.2.2.2
  exact ⟨f1.join (.one (mkFine h1 h2 ss.ch ss.kids rfl hg.1 (.var rfl (.inr (by simp only [got,List.map_cons,List.map_nil];rw [ss.got _ (by simp)]))))),⟨Nat.succ_pos _,h2,_,h1,rfl,rfl⟩⟩
theorem Sm.fines:∀ (l:List Sm) (b a:Nat),Sm.goods len a l → Seg t b (Sm.flats b l) → Seg fs b (Sm.firstss b l) → FineSeg len t (Fof fs) b (Sm.sizes l) ∧ Subs t fs b (Sm.sizes l) a 50 (Sm.roots b l)
 | [],b,a,_,_,_=>⟨.nil,.nil⟩
 | x :: l,b,a,hg,ht,hf=>by
  obtain ⟨f1,s1⟩:=Sm.fine x b hg.1 ht.app.1 hf.app.1
  obtain ⟨f2,s2⟩:=Sm.fines l (b + x.size) a hg.2.2 (by have:=ht.app.2;rwa [Sm.flat_len] at this) (by have:=hf.app.2;rwa [Sm.firsts_len] at this)
  exact ⟨f1.join f2,s2.cons s1 hg.2.1⟩
end
theorem pars_fine {a:Nat}:∀ (ps:List Par) (b:Nat),(∀ x ∈ ps,a ≤ x.1 ∧ x.1 < len ∧ nameOk x.2.1 ∧ tyOk x.2.2) → Seg t b (ps.map parNode) → Seg fs b (List.range' b ps.length) → FineSeg len t (Fof fs) b ps.length ∧ Subs t fs b ps.length a 50 (List.range' b ps.length)
 | [],b,_,_,_=>⟨.nil,.nil⟩
 | x :: ps,b,hg,ht,hf=>by
  have e:List.range' b (x :: ps).length = [b] ++ List.range' (b + 1) ps.length:=by rw [List.length_cons,List.range'_succ];rfl
  rw [e] at hf
  have ht2:Seg t b ([parNode x] ++ ps.map parNode):=ht
  obtain ⟨ha,hl,_⟩:=hg x (by simp)
  have h1:=ht2.app.1.one
  have h2:=hf.app.1.one
  have s1:Sub t fs b 1 x.1 50:=⟨Nat.one_pos,h2,_,h1,rfl,rfl⟩
  obtain ⟨f2,s2⟩:=pars_fine ps (b + 1) (fun y hy=>hg y (by simp [hy])) ht2.app.2 hf.app.2
  have:=s2.cons s1 ha
  rw [Nat.add_comm 1] at this
  refine ⟨?_,by rw [e];exact this⟩
  have hj:=(FineSeg.one (mkFine h1 h2 rfl (by simp [parNode]) rfl hl (.var rfl (.inl rfl)))).join f2
  rw [Nat.add_comm 1] at hj
  exact hj
theorem Dc.fine (e:Dc) (b:Nat) (hg:e.good len) (ht:Seg t b (e.flat b)) (hf:Seg fs b (e.firsts b)):FineSeg len t (Fof fs) b e.size ∧ Sub t fs b e.size e.at_ 51:=by
 cases e with
 | var a s=>
  have h1:=ht.one;have h2:=hf.one
  exact ⟨.one (mkFine h1 h2 rfl (by simp) rfl hg.1 (.leaf (by simp) rfl)),⟨Nat.one_pos,h2,_,h1,rfl,rfl⟩⟩
 | array a s ty n=>
  have h1:=ht.one;have h2:=hf.one
  exact ⟨.one (mkFine h1 h2 rfl (by simp) rfl hg.1 (.leaf (by simp) rfl)),⟨Nat.one_pos,h2,_,h1,rfl,rfl⟩⟩
 | fn a s ps bat l=>
  obtain ⟨g1,g2,g3,g4,g5,g6,g7⟩:=hg
  obtain ⟨f1,s1⟩:=pars_fine (a:=a) ps b g3 ht.app.1.app.1 hf.app.1.app.1
  have htb:Seg t (b + ps.length) (Sm.flats (b + ps.length) l ++ [⟨17,bat,[],0,0,Sm.roots (b + ps.length) l⟩]):=by have:=ht.app.1.app.2;rwa [List.length_map] at this
  have hfb:Seg fs (b + ps.length) (Sm.firstss (b + ps.length) l ++ [b + ps.length]):=by have:=hf.app.1.app.2;rwa [List.length_range'] at this
  obtain ⟨f2,s2⟩:=Sm.fines l (b + ps.length) bat g6 htb.app.1 hfb.app.1
  have hb1:=rootAt htb (Sm.flats_len l _)
  have hb2:=rootFirst hfb (Sm.firstss_len l _)
  have fb:=f2.join (.one (mkFine hb1 hb2 s2.ch s2.kids rfl g5 (.block rfl fun x hx=>by obtain ⟨k,hk,rfl⟩:=List.mem_map.1 hx;exact s2.got k hk)))
  have sb:Sub t fs (b + ps.length) (Sm.sizes l + 1) bat 50:=⟨Nat.succ_pos _,hb2,_,hb1,rfl,rfl⟩
  have h1:=rootAt ht (n:=ps.length + (Sm.sizes l + 1)) (by simp [Sm.flats_len])
  have h2:=rootFirst hf (n:=ps.length + (Sm.sizes l + 1)) (by simp [Sm.firstss_len])
  have hch:chain (Fof fs) (b + (ps.length + (Sm.sizes l + 1))) (List.range' b ps.length ++ [b + ps.length + Sm.sizes l]).reverse = some b:=by
   rw [List.reverse_append,List.reverse_singleton,List.singleton_append]
   have:=sb.ch (r:=(List.range' b ps.length).reverse)
   rw [show b + ps.length + (Sm.sizes l + 1) - 1 = b + ps.length + Sm.sizes l from by omega] at this
   rw [← Nat.add_assoc,this]
   exact s1.ch
  have hkb:=sb.kid' (a0:=a) g4 (Nat.le_refl _)
  rw [show b + ps.length + (Sm.sizes l + 1) - 1 = b + ps.length + Sm.sizes l from by omega] at hkb
  have hk:∀ k ∈ List.range' b ps.length ++ [b + ps.length + Sm.sizes l],k < b + (ps.length + (Sm.sizes l + 1)) ∧ ∃ kd,t[k]? = some kd ∧ (a:Int) ≤ kd.at_:=by
   intro k hk
   rcases List.mem_append.1 hk with hk | hk
   ·obtain ⟨q1,q2⟩:=s1.kids k hk;exact ⟨by omega,q2⟩
   ·simp only [List.mem_singleton] at hk;subst hk;exact ⟨by omega,hkb.2⟩
  have hgot:=sb.got
  rw [show b + ps.length + (Sm.sizes l + 1) - 1 = b + ps.length + Sm.sizes l from by omega] at hgot
  have hfine:=mkFine h1 h2 hch hk rfl g1 (.fn rfl (fun x hx=>by
    obtain ⟨k,hk,rfl⟩:=List.mem_map.1 hx
    rcases List.mem_append.1 hk with hk | hk
    ·exact s1.got k hk
    ·simp only [List.mem_singleton] at hk;subst hk;exact hgot) ps.length (b + ps.length + Sm.sizes l) rfl (by simp) (by simp) (by unfold kindAt;rw [show b + ps.length + Sm.sizes l = b + ps.length + Sm.sizes l from rfl,hb1]))
  have e:b + Dc.size (.fn a s ps bat l) - 1 = b + (ps.length + (Sm.sizes l + 1)):=by simp only [Dc.size];omega
  have e2:Dc.size (.fn a s ps bat l) = ps.length + (Sm.sizes l + 1) + 1:=by simp only [Dc.size];omega
  have hj:=(f1.join fb).join (.one hfine)
  rw [← e2] at hj
  rw [← e] at h1 h2
  exact ⟨hj,⟨Nat.succ_pos _,h2,_,h1,rfl,rfl⟩⟩
theorem Dc.fines:∀ (l:List Dc) (b:Nat),(∀ x ∈ l,x.good len) → Seg t b (Dc.flats b l) → Seg fs b (Dc.firstss b l) → FineSeg len t (Fof fs) b (Dc.sizes l) ∧ Subs t fs b (Dc.sizes l) 0 51 (Dc.roots b l)
 | [],b,_,_,_=>⟨.nil,.nil⟩
 | x :: l,b,hg,ht,hf=>by
  obtain ⟨f1,s1⟩:=Dc.fine x b (hg x (by simp)) ht.app.1 hf.app.1
  obtain ⟨f2,s2⟩:=Dc.fines l (b + x.size) (fun y hy=>hg y (by simp [hy])) (by have:=ht.app.2;rwa [Dc.flat_len] at this) (by have:=hf.app.2;rwa [Dc.firsts_len] at this)
  exact ⟨f1.join f2,s2.cons s1 (Nat.zero_le _)⟩
end
theorem all_fine {len:Nat} (l:List Dc) (hg:∀ x ∈ l,x.good len):FineSeg len (allNodes l) (Fof (allFirsts l)) 0 (allNodes l).length ∧ Fof (allFirsts l) ((allNodes l).length - 1) = 0 ∧ (∃ nd,(allNodes l)[(allNodes l).length - 1]? = some nd ∧ nd.kind = 23):=by
 have ht:Seg (allNodes l) 0 (Dc.flats 0 l ++ [⟨23,0,[],0,0,Dc.roots 0 l⟩]):=Seg.refl _
 have hf:Seg (allFirsts l) 0 (Dc.firstss 0 l ++ [0]):=Seg.refl _
 obtain ⟨f1,s1⟩:=Dc.fines l 0 hg ht.app.1 hf.app.1
 have h1:=rootAt ht (Dc.flats_len l 0)
 have h2:=rootFirst hf (Dc.firstss_len l 0)
 have hl:(allNodes l).length = Dc.sizes l + 1:=by simp [allNodes,Dc.flats_len]
 rw [hl]
 refine ⟨f1.join (.one ⟨h1,by rw [Fof_seg h2];exact Nat.zero_le _,by rw [Fof_seg h2];exact s1.ch,fun k hk=>?_,by simp,.inr rfl,.all rfl fun x hx=>?_⟩),?_,?_⟩
 ·obtain ⟨q1,kd,q2,_⟩:=s1.kids k hk
  exact ⟨q1,kd,q2,.inr rfl⟩
 ·obtain ⟨k,hk,rfl⟩:=List.mem_map.1 hx
  exact s1.got k hk
 ·rw [Nat.add_sub_cancel];rw [Nat.zero_add] at h2;exact Fof_seg h2
 ·rw [Nat.add_sub_cancel];rw [Nat.zero_add] at h1;exact ⟨_,h1,rfl⟩
end Go.Front

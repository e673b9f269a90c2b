/- What a tree comes to: one answer and one heap, whatever fuel there is above some. -/
import Derived.Test.YtlbieeajocjpeaaGreatDoorAmLib
import Derived.Lib.ParseIntB
import Derived.Lib.Bytealg
set_option linter.unusedSimpArgs false
namespace Go.AM
structure Fu where
 n:Nat
 m1:Nat
 m2:Nat
 m3:Nat
def Fu.ge (u:Fu) (N:Nat):Prop:=N ≤ u.n ∧ N ≤ u.m1 ∧ N ≤ u.m2 ∧ N ≤ u.m3
theorem Fu.ge.mono {u:Fu} {N M:Nat} (h:u.ge N) (g:M ≤ N):u.ge M:=⟨Nat.le_trans g h.1,Nat.le_trans g h.2.1,Nat.le_trans g h.2.2.1,Nat.le_trans g h.2.2.2⟩
abbrev Post:=Res → St → Prop
def Wp (Q:Post) (F:Fu → Out):Prop:=∃ N r σ,Q r σ ∧ ∀ u:Fu,u.ge N → F u = some (r,σ)
def Fw (P:Program) (B:Caller) (f:FuncId) (args:List AV) (σ:St) (Q:Post):Prop:=Wp Q fun u=>callP P B u.n f args σ
section
variable {P:Program} {B:Caller} {Q Q':Post} {σ:St} {F G:Fu → Out}
theorem Wp.mono (h:Wp Q F) (hq:∀ r σ,Q r σ → Q' r σ):Wp Q' F:=let ⟨N,r,σ,h1,h2⟩:=h;⟨N,r,σ,hq _ _ h1,h2⟩
theorem Fw.mono {f:FuncId} {args:List AV} (h:Fw P B f args σ Q) (hq:∀ r σ,Q r σ → Q' r σ):Fw P B f args σ Q':=Wp.mono h hq
theorem Wp.le (h:Wp Q F) (hl:∀ u,Le (F u) (G u)):Wp Q G:=let ⟨N,r,σ,h1,h2⟩:=h;⟨N,r,σ,h1,fun u hu=>hl u _ (h2 u hu)⟩
theorem Wp.eq (h:Wp Q F) (hl:∀ u,G u = F u):Wp Q G:=h.le fun u=>Le.of_eq (hl u).symm
theorem Wp.ret {r:Res} (h:Q r σ):Wp Q fun _=>some (r,σ):=⟨0,r,σ,h,fun _ _=>rfl⟩
theorem Fw.enter {f:FuncId} {args:List AV} {t:Nat → Out} (he:∀ n,Le (t n) (callP P B (n + 1) f args σ)) (h:Wp Q fun u=>t u.n):Fw P B f args σ Q:=by
 obtain ⟨N,r,σ',h1,h2⟩:=h
 refine ⟨N + 1,r,σ',h1,fun u hu=>?_⟩
 obtain ⟨n,hn⟩:∃ n,u.n = n + 1:=⟨u.n - 1,by have:=hu.1;omega⟩
 show callP P B u.n f args σ = _
 rw [hn]
 exact he n _ (h2 ⟨n,n,n,n⟩ (by have:=hu.1;exact ⟨by simp only;omega,by simp only;omega,by simp only;omega,by simp only;omega⟩))
theorem Fw.lib {f:FuncId} {args:List AV} {r:Res} {σ':St} (h:B f args σ = some (r,σ')) (hq:Q r σ'):Fw P B f args σ Q:=by
 refine ⟨1,r,σ',hq,fun u hu=>?_⟩
 obtain ⟨n,hn⟩:∃ n,u.n = n + 1:=⟨u.n - 1,by have:=hu.1;omega⟩
 show callP P B u.n f args σ = _
 rw [hn]
 exact callP_lib h
theorem Wp.fresh1 {F:Nat → Nat → Out} (h:Wp Q fun u=>F u.n u.m1):Wp Q fun u=>F u.n u.n:=by
 obtain ⟨N,r,σ,h1,h2⟩:=h
 exact ⟨N,r,σ,h1,fun u hu=>h2 ⟨u.n,u.n,u.m2,u.m3⟩ ⟨hu.1,hu.1,hu.2.2.1,hu.2.2.2⟩⟩
theorem Wp.fresh2 {F:Nat → Nat → Nat → Out} (h:Wp Q fun u=>F u.n u.m1 u.m2):Wp Q fun u=>F u.n u.m1 u.n:=by
 obtain ⟨N,r,σ,h1,h2⟩:=h
 exact ⟨N,r,σ,h1,fun u hu=>h2 ⟨u.n,u.m1,u.n,u.m3⟩ ⟨hu.1,hu.2.1,hu.1,hu.2.2.2⟩⟩
theorem Wp.round1 {t F:Nat → Nat → Out} (he:∀ n m,Le (t n m) (F n (m + 1))) (h:Wp Q fun u=>t u.n u.m1):Wp Q fun u=>F u.n u.m1:=by
 obtain ⟨N,r,σ,h1,h2⟩:=h
 refine ⟨N + 1,r,σ,h1,fun u hu=>?_⟩
 obtain ⟨m,hm⟩:∃ m,u.m1 = m + 1:=⟨u.m1 - 1,by have:=hu.2.1;omega⟩
 show F u.n u.m1 = _
 rw [hm]
 exact he u.n m _ (h2 ⟨u.n,m,u.m2,u.m3⟩ ⟨by have:=hu.1;simp only;omega,by have:=hu.2.1;simp only;omega,by have:=hu.2.2.1;simp only;omega,by have:=hu.2.2.2;simp only;omega⟩)
theorem Wp.round2 {t F:Nat → Nat → Nat → Out} (he:∀ n m1 m,Le (t n m1 m) (F n m1 (m + 1))) (h:Wp Q fun u=>t u.n u.m1 u.m2):Wp Q fun u=>F u.n u.m1 u.m2:=by
 obtain ⟨N,r,σ,h1,h2⟩:=h
 refine ⟨N + 1,r,σ,h1,fun u hu=>?_⟩
 obtain ⟨m,hm⟩:∃ m,u.m2 = m + 1:=⟨u.m2 - 1,by have:=hu.2.2.1;omega⟩
 show F u.n u.m1 u.m2 = _
 rw [hm]
 exact he u.n u.m1 m _ (h2 ⟨u.n,u.m1,m,u.m3⟩ ⟨by have:=hu.1;simp only;omega,by have:=hu.2.1;simp only;omega,by have:=hu.2.2.1;simp only;omega,by have:=hu.2.2.2;simp only;omega⟩)
theorem Wp.call {f:FuncId} {args:List AV} {Qf:Post} {k:Fu → AV → St → Out} (hf:Fw P B f args σ Qf) (hk:∀ v σ',Qf (.ret v) σ' → Wp Q fun u=>k u v σ') (hp:∀ v σ',Qf (.pan v) σ' → Q (.pan v) σ') :
  Wp Q fun u=>callT P B u.n f args σ (k u):=by
 obtain ⟨N,r,σ',h1,h2⟩:=hf
 cases r with
 | ret v=>
  obtain ⟨M,r2,σ2,g1,g2⟩:=hk v σ' h1
  refine ⟨max N M,r2,σ2,g1,fun u hu=>?_⟩
  show callT P B u.n f args σ (k u) = _
  rw [callT_ok (h2 u (hu.mono (Nat.le_max_left _ _)))]
  exact g2 u (hu.mono (Nat.le_max_right _ _))
 | pan v=>
  refine ⟨N,.pan v,σ',hp v σ' h1,fun u hu=>?_⟩
  show callK (callP P B u.n) f args σ (k u) panK = _
  unfold callK
  rw [show callP P B u.n f args σ = some (.pan v,σ') from h2 u hu]
  rfl
theorem Wp.calle {f:FuncId} {args:List AV} {Qf:Post} {k kp:Fu → AV → St → Out} (hf:Fw P B f args σ Qf) (hk:∀ v σ',Qf (.ret v) σ' → Wp Q fun u=>k u v σ') (hp:∀ v σ',Qf (.pan v) σ' → Wp Q fun u=>kp u v σ') :
  Wp Q fun u=>callE P B u.n f args σ (k u) (kp u):=by
 obtain ⟨N,r,σ',h1,h2⟩:=hf
 cases r with
 | ret v=>
  obtain ⟨M,r2,σ2,g1,g2⟩:=hk v σ' h1
  refine ⟨max N M,r2,σ2,g1,fun u hu=>?_⟩
  show callK (callP P B u.n) f args σ (k u) (kp u) = _
  unfold callK
  rw [show callP P B u.n f args σ = some (.ret v,σ') from h2 u (hu.mono (Nat.le_max_left _ _))]
  exact g2 u (hu.mono (Nat.le_max_right _ _))
 | pan v=>
  obtain ⟨M,r2,σ2,g1,g2⟩:=hp v σ' h1
  refine ⟨max N M,r2,σ2,g1,fun u hu=>?_⟩
  show callK (callP P B u.n) f args σ (k u) (kp u) = _
  unfold callK
  rw [show callP P B u.n f args σ = some (.pan v,σ') from h2 u (hu.mono (Nat.le_max_left _ _))]
  exact g2 u (hu.mono (Nat.le_max_right _ _))
theorem Wp.calld {f:FuncId} {args:List AV} {Qf:Post} {k:Fu → AV → St → Out} (hf:Fw P B f args σ Qf) (hk:∀ v σ',Qf (.ret v) σ' → Wp Q fun u=>k u v σ') (hp:∀ v σ',¬ Qf (.pan v) σ') :
  Wp Q fun u=>callTD P B u.n f args σ (k u):=by
 obtain ⟨N,r,σ',h1,h2⟩:=hf
 cases r with
 | ret v=>
  obtain ⟨M,r2,σ2,g1,g2⟩:=hk v σ' h1
  refine ⟨max N M,r2,σ2,g1,fun u hu=>?_⟩
  show callTD P B u.n f args σ (k u) = _
  rw [callTD_ok (h2 u (hu.mono (Nat.le_max_left _ _)))]
  exact g2 u (hu.mono (Nat.le_max_right _ _))
 | pan v=>exact absurd h1 (hp v σ')
theorem Wp.callf {f:FuncId} {fs cs args:List AV} {k:Fu → AV → St → Out} (h:Wp Q fun u=>callT P B u.n f (fs ++ args ++ cs) σ (k u)):Wp Q fun u=>callF P B u.n (.func (.func f) fs cs) args σ (k u):=h
theorem Wp.callfd {f:FuncId} {fs cs args:List AV} {k:Fu → AV → St → Out} (h:Wp Q fun u=>Go.AM.callTD P B u.n f (fs ++ args ++ cs) σ (k u)):Wp Q fun u=>callFD P B u.n (.func (.func f) fs cs) args σ (k u):=h
theorem Wp.df {f:FuncId} {args:List AV} {x x':Option AV} {σ':St} {k:Fu → Option AV → St → Out} (hf:∃ N,∀ n,N ≤ n → runD P (callP P B n) n f args x σ = some (x',σ')) (hk:Wp Q fun u=>k u x' σ') :
  Wp Q fun u=>dfT P B u.n f args x σ (k u):=by
 obtain ⟨N,h⟩:=hf
 obtain ⟨M,r2,σ2,g1,g2⟩:=hk
 refine ⟨max N M,r2,σ2,g1,fun u hu=>?_⟩
 show dfK (runD P (callP P B u.n) u.n) f args x σ (k u) = _
 unfold dfK
 rw [h u.n (Nat.le_trans (Nat.le_max_left _ _) hu.1)]
 exact g2 u (hu.mono (Nat.le_max_right _ _))
theorem Wp.st {b off:Nat} {cs ys:List AV} {m:Mk} {k:Fu → St → Out} (hc:σ[b]? = some (.cells cs (.rw m))) (hl:off + ys.length ≤ cs.length) (h:Wp Q fun u=>k u (σ.set b (.cells (setMany cs off ys) (.rw m)))) :
  Wp Q fun u=>stK σ b off ys (k u):=
 h.eq fun u=>by unfold stK;rw [hc];simp only;rw [if_pos hl]
theorem Wp.app0 {e:TypeId} {size bytes len sz n:Nat} {new:List AV} {k:Fu → Option (Nat × Nat) → Nat → Option Nat → St → Out} (hn:n ≠ 0) (hb:n * bytes ≤ 140737488355328 ∧ n < 9223372036854775807)
  (h:Wp Q fun u=>k u (some (σ.length,0)) n none (σ ++ [.cells new (.rw (.row e))])):Wp Q fun u=>appK σ e size bytes none len sz n new (k u):=
 h.eq fun u=>by unfold appK;simp only;rw [if_neg hn,if_pos hb]
theorem Wp.appN {e:TypeId} {size bytes len sz:Nat} {new:List AV} {k:Fu → Option (Nat × Nat) → Nat → Option Nat → St → Out} (h:Wp Q fun u=>k u none 0 (some 0) σ):Wp Q fun u=>appK σ e size bytes none len sz 0 new (k u):=
 h.eq fun u=>by unfold appK;simp
theorem Wp.app1 {e:TypeId} {size bytes b o len n:Nat} {cs new:List AV} {m:Mk} {k:Fu → Option (Nat × Nat) → Nat → Option Nat → St → Out} (hc:σ[b]? = some (.cells cs (.rw m))) (hl:o + len * size ≤ cs.length)
  (hb:(len + n) * bytes ≤ 140737488355328 ∧ len + n < 9223372036854775807)
  (h:Wp Q fun u=>k u (some (σ.length,0)) (len + n) none (σ.set b .dead ++ [.cells ((cs.drop o).take (len * size) ++ new) (.rw (joinW m e))])):Wp Q fun u=>appK σ e size bytes (some (b,o)) len size n new (k u):=
 h.eq fun u=>by unfold appK;simp only;rw [if_pos trivial,hc];simp only;rw [if_pos hl,if_pos hb]
theorem Wp.span1 {b o n size:Nat} {cs:List AV} {k:Fu → Nat → List AV → Out} (hc:cellsAt σ b = some cs) (hl:o + n * size ≤ cs.length) (h:Wp Q fun u=>k u n ((cs.drop o).take (n * size))):Wp Q fun u=>spanK σ (some (b,o)) n size size (k u):=
 h.eq fun u=>by unfold spanK;simp only;rw [if_pos trivial,hc];simp only;rw [if_pos hl]
theorem Wp.keeps {l:List (St × St × Nat)} (hl:∀ p ∈ l,p.2.1[p.2.2]? = p.1[p.2.2]?) (h:Wp Q F):Wp Q fun u=>keepsK l (F u):=by
 refine h.eq fun u=>?_
 induction l with
 | nil=>rfl
 | cons p l ih=>
  obtain ⟨s,s',b⟩:=p
  unfold keepsK keepK
  rw [if_pos (hl (s,s',b) (by simp))]
  exact ih fun p hp=>hl p (by simp [hp])
theorem Wp.ap {l:List (Nat × Nat)} (hl:∀ p ∈ l,p.1 ≠ p.2) (h:Wp Q F):Wp Q fun u=>apK l (F u):=by
 refine h.eq fun u=>?_
 induction l with
 | nil=>rfl
 | cons p l ih=>
  obtain ⟨a,b⟩:=p
  unfold apK
  rw [if_neg (hl (a,b) (by simp))]
  exact ih fun p hp=>hl p (by simp [hp])
theorem Wp.ite {b:Bool} (h1:b = true → Wp Q F) (h0:b = false → Wp Q G):Wp Q fun u=>cond b (F u) (G u):=by
 cases b
 ·exact (h0 rfl).eq fun u=>cF
 ·exact (h1 rfl).eq fun u=>cT
theorem Wp.pos {b:Bool} (hb:b = true) (h:Wp Q F):Wp Q fun u=>cond b (F u) (G u):=h.eq fun u=>by rw [hb];exact cT
theorem Wp.neg {b:Bool} (hb:b = false) (h:Wp Q G):Wp Q fun u=>cond b (F u) (G u):=h.eq fun u=>by rw [hb];exact cF
theorem Wp.lv0 {f:Fu → AV → Out} (h:Wp Q F):Wp Q fun u=>lvK none (f u) (F u):=h.eq fun u=>by simp only [lvK]
theorem Wp.lv1 {v:AV} {f:Fu → AV → Out} (h:Wp Q fun u=>f u v):Wp Q fun u=>lvK (some v) (f u) (F u):=h.eq fun u=>by simp only [lvK]
end
end Go.AM
namespace Go.Front
structure Tok where
 kind:Nat
 at_:Nat
 text:List UInt8
 n:Int
 deriving DecidableEq,Inhabited
def isLetter (c:UInt8):Bool:=(97 ≤ c.toNat && c.toNat ≤ 122) || (65 ≤ c.toNat && c.toNat ≤ 90) || c.toNat == 95
def isDigit (c:UInt8):Bool:=48 ≤ c.toNat && c.toNat ≤ 57
def skip:Bool → List UInt8 → Nat
 | _,[]=>0
 | true,c :: r=>if c.toNat = 10 then skip false r + 1 else skip true r + 1
 | false,c :: r=>
  if c.toNat = 32 ∨ c.toNat = 9 ∨ c.toNat = 10 then skip false r + 1
  else if c.toNat = 47 ∧ r.head? = some 47 then skip true r + 1 else 0
def esc (d:UInt8):Option UInt8:=
 if d.toNat = 110 then some 10 else if d.toNat = 116 then some 9 else if d.toNat = 48 then some 0 else if d.toNat = 92 then some 92 else if d.toNat = 39 then some 39 else if d.toNat = 34 then some 34 else none
def escape (q:Nat):List UInt8 → Option (UInt8 × Nat)
 | []=>none
 | c :: r=>
  if c.toNat = 92 then (match r with
   | []=>none
   | d :: _=>(esc d).map fun b=>(b,2))
  else if 32 ≤ c.toNat ∧ c.toNat ≤ 126 ∧ c.toNat ≠ q then some (c,1) else none
def strBody:List UInt8 → Nat → Option (List UInt8 × Nat)
 | [],_=>none
 | [c],_=>if c.toNat = 34 then some ([],0) else none
 | c :: d :: r,n=>
  if c.toNat = 34 then some ([],0)
  else if c.toNat = 92 then (match esc d with
   | some b=>if b = 0 ∨ n = 100 then none else (strBody r (n + 1)).map fun p=>(b :: p.1,p.2 + 2)
   | none=>none)
  else if 32 ≤ c.toNat ∧ c.toNat ≤ 126 then (if n = 100 then none else (strBody (d :: r) (n + 1)).map fun p=>(c :: p.1,p.2 + 1))
  else none
def marks:List (List UInt8):=[[60,60],[62,62],[60,61],[62,61],[61,61],[33,61],[38,38],[124,124],[40],[41],[123],[125],[91],[93],[59],[44],[42],[47],[37],[43],[45],[60],[62],[38],[94],[124],[61],[33],[126]]
def words:List (List UInt8):=[[105,110,116],[99,104,97,114],[105,102],[101,108,115,101],[119,104,105,108,101],[114,101,116,117,114,110],[98,114,101,97,107],[99,111,110,116,105,110,117,101]]
def numOf (c:UInt8) (t:List UInt8):Lib.NumEnd Int → Option (Nat × List UInt8 × Int × Nat)
 | .ok v=>if c.toNat = 48 ∧ t.length ≠ 1 then none else some (3,[],v,t.length)
 | _=>none
def one:List UInt8 → Option (Nat × List UInt8 × Int × Nat)
 | []=>some (0,[],0,0)
 | c :: r=>
  let l:=c :: r
  if isLetter c then
   let t:=l.takeWhile fun c=>isLetter c || isDigit c
   if words.contains t then some (2,t,0,t.length) else if t.length ≤ 14 then some (1,t,0,t.length) else none
  else if isDigit c then
   let t:=l.takeWhile isDigit
   numOf c t (Lib.parseIntB 64 t)
  else if c.toNat = 34 then (strBody r 0).map fun p=>(4,p.1,0,p.2 + 2)
  else if c.toNat = 39 then (match escape 39 r with
   | some (b,k)=>if (r.drop k).head? = some 39 then some (3,[],(b.toNat:Int),k + 2) else none
   | none=>none)
  else (marks.find? fun m=>m.isPrefixOf l).map fun m=>(5,m,0,m.length)
def cut (s:List UInt8) (at_:Nat):Nat × Option (Tok × Nat):=
 let from_:=at_ + skip false (s.drop at_)
 (from_,(one (s.drop from_)).map fun p=>(⟨p.1,from_,p.2.1,p.2.2.1⟩,from_ + p.2.2.2))
end Go.Front
namespace Go.Front
def isB (t:Tok) (m:List UInt8):Bool:=(t.kind == 2 || t.kind == 5) && t.text == m
structure Node where
 kind:Int
 at_:Int
 text:List UInt8
 n:Int
 m:Int
 kids:List Nat
 deriving DecidableEq,Inhabited
structure Strm where
 Pos:Type
 nxt:Pos → Sum Nat (Tok × Pos)
structure PS (S:Strm) where
 tok:Tok
 pos:S.Pos
 nodes:List Node
 deep:Nat
abbrev Flt:=Int × Nat
def PM (S:Strm) (α:Type):=PS S → Option (Except Flt (α × PS S))
section
variable {S:Strm} {α β γ:Type}
def PM.pure (a:α):PM S α:=fun st=>some (.ok (a,st))
def PM.bind (m:PM S α) (f:α → PM S β):PM S β:=fun st=>
 match m st with
 | none=>none
 | some (.error e)=>some (.error e)
 | some (.ok (a,st'))=>f a st'
instance:Monad (PM S) where
 pure:=PM.pure
 bind:=PM.bind
theorem PM.pure_ap (a:α) (st:PS S):(Pure.pure a:PM S α) st = some (.ok (a,st)):=rfl
theorem PM.bind_ap (m:PM S α) (f:α → PM S β) (st:PS S):(m >>= f) st = PM.bind m f st:=rfl
theorem PM.bind_none {m:PM S α} {f:α → PM S β} {st:PS S} (h:m st = none):(m >>= f) st = none:=by rw [PM.bind_ap];unfold PM.bind;rw [h]
theorem PM.bind_err {m:PM S α} {f:α → PM S β} {st:PS S} {e:Flt} (h:m st = some (.error e)):(m >>= f) st = some (.error e):=by rw [PM.bind_ap];unfold PM.bind;rw [h]
theorem PM.bind_ok {m:PM S α} {f:α → PM S β} {st st':PS S} {a:α} (h:m st = some (.ok (a,st'))):(m >>= f) st = f a st':=by rw [PM.bind_ap];unfold PM.bind;rw [h]
theorem PM.bind_some {m:PM S α} {f:α → PM S β} {st:PS S} {o:Except Flt (β × PS S)} (h:(m >>= f) st = some o) :
  (∃ e,m st = some (.error e) ∧ o = .error e) ∨ ∃ a st',m st = some (.ok (a,st')) ∧ f a st' = some o:=by
 cases hm:m st with
 | none=>rw [PM.bind_none hm] at h;cases h
 | some r=>
  cases r with
  | error e=>rw [PM.bind_err hm] at h;cases h;exact .inl ⟨e,rfl,rfl⟩
  | ok p=>obtain ⟨a,st'⟩:=p;rw [PM.bind_ok hm] at h;exact .inr ⟨a,st',rfl,h⟩
theorem PM.pure_bind (a:α) (f:α → PM S β):(Pure.pure a >>= f:PM S β) = f a:=rfl
theorem PM.bind_assoc (m:PM S α) (f:α → PM S β) (g:β → PM S γ):(m >>= f) >>= g = m >>= fun a=>f a >>= g:=by
 funext st
 cases hm:m st with
 | none=>rw [PM.bind_none hm,PM.bind_none (PM.bind_none hm)]
 | some r=>
  cases r with
  | error e=>rw [PM.bind_err hm,PM.bind_err (PM.bind_err hm)]
  | ok p=>
   obtain ⟨a,st'⟩:=p
   rw [PM.bind_ok hm]
   rw [PM.bind_ap];unfold PM.bind;rw [PM.bind_ok hm];rfl
theorem PM.ite_bind {c:Prop} [Decidable c] (x y:PM S α) (f:α → PM S β):(if c then x else y) >>= f = if c then x >>= f else y >>= f:=by
 by_cases h:c
 ·rw [if_pos h,if_pos h]
 ·rw [if_neg h,if_neg h]
def wrongP (e:Int):PM S α:=fun st=>some (.error (e,st.tok.at_))
def tokP:PM S Tok:=fun st=>some (.ok (st.tok,st))
def nextP:PM S Tok:=fun st=>
 match S.nxt st.pos with
 | .inl f=>some (.error (13,f))
 | .inr (t,q)=>some (.ok (st.tok,{ st with tok:=t,pos:=q }))
def isP (m:List UInt8):PM S Bool:=fun st=>some (.ok (isB st.tok m,st))
def takeP (m:List UInt8):PM S Bool:=do
 if ← isP m then
  let _ ← nextP
  pure true
 else pure false
def mustP (m:List UInt8):PM S Unit:=do
 if ← isP m then
  let _ ← nextP
  pure ()
 else wrongP 13
def kindP (k:Nat):PM S Tok:=do
 let t ← tokP
 if t.kind = k then nextP else wrongP 13
def nodeP (x:Node):PM S Nat:=fun st=>if st.nodes.length = 4096 then some (.error (15,st.tok.at_)) else some (.ok (st.nodes.length,{ st with nodes:=st.nodes ++ [x] }))
def downP:PM S Unit:=fun st=>if st.deep = 40 then some (.error (15,st.tok.at_)) else some (.ok ((),{ st with deep:=st.deep + 1 }))
def upP:PM S Unit:=fun st=>if st.deep = 0 then none else some (.ok ((),{ st with deep:=st.deep - 1 }))
def nodeAtP (x:Nat):PM S Node:=fun st=>match st.nodes[x]? with | some d=>some (.ok (d,st)) | none=>none
def loopP (body:α → PM S (Sum α β)):Nat → α → PM S β
 | 0,_=>fun _=>none
 | n + 1,a=>do
  match ← body a with
  | .inl a'=>loopP body n a'
  | .inr b=>pure b
def ops:List (List UInt8):=[[42],[47],[37],[43],[45],[60,60],[62,62],[60],[60,61],[62],[62,61],[61,61],[33,61],[38],[94],[124],[38,38],[124,124]]
def opOf:List (List UInt8) → Nat → List UInt8 → Nat
 | [],_,_=>0
 | x :: r,k,s=>if x = s then k else opOf r (k + 1) s
def binOp (s:List UInt8):Nat:=opOf ops 4 s
def level (op:Nat):Nat:=[0,0,0,0,10,10,10,9,9,8,8,7,7,7,7,6,6,5,4,3,2,1].getD op 0
def listB (ex:Nat → PM S Nat) (acc:List Nat):PM S (Sum (List Nat) (List Nat)):=do
 let x ← ex 1
 if ← takeP [41] then pure (.inr (acc ++ [x])) else do
  mustP [44]
  pure (.inl (acc ++ [x]))
def listP (ex:Nat → PM S Nat) (n:Nat):PM S (List Nat):=do
 if ← takeP [41] then pure [] else loopP (listB ex) n []
def primaryP (ex:Nat → PM S Nat) (n:Nat):PM S Nat:=do
 let t ← tokP
 if t.kind = 3 then do
  let _ ← nextP
  nodeP ⟨1,t.at_,[],t.n,0,[]⟩
 else if t.kind = 4 then do
  let _ ← nextP
  nodeP ⟨2,t.at_,t.text,0,0,[]⟩
 else if t.kind = 1 then do
  let _ ← nextP
  if ← isP [40] then do
   let _ ← nextP
   let l ← listP ex n
   nodeP ⟨4,t.at_,t.text,0,0,l⟩
  else nodeP ⟨3,t.at_,t.text,0,0,[]⟩
 else do
  mustP [40]
  let x ← ex 1
  mustP [41]
  pure x
def indexB (ex:Nat → PM S Nat) (x:Nat):PM S (Sum Nat Nat):=do
 if ← takeP [91] then do
  let i ← ex 1
  mustP [93]
  let a ← nodeAtP x
  let y ← nodeP ⟨5,a.at_,[],0,0,[x,i]⟩
  pure (.inl y)
 else pure (.inr x)
def unaryP (op:PM S Nat) (at_:Nat) (k:Int):PM S Nat:=do
 let x ← op
 nodeP ⟨6,at_,[],k,0,[x]⟩
def innerP (op:PM S Nat) (ex:Nat → PM S Nat) (n at_:Nat):PM S Nat:=do
 if ← takeP [45] then unaryP op at_ 1
 else if ← takeP [33] then unaryP op at_ 2
 else if ← takeP [126] then unaryP op at_ 3
 else do
  let x ← primaryP ex n
  loopP (indexB ex) n x
def operandP (op:PM S Nat) (ex:Nat → PM S Nat) (n:Nat):PM S Nat:=do
 downP
 let t ← tokP
 let x ← innerP op ex n t.at_
 upP
 pure x
def exprB (ex:Nat → PM S Nat) (lvl:Nat) (x:Nat):PM S (Sum Nat Nat):=do
 let t ← tokP
 let o:=if t.kind = 5 then binOp t.text else 0
 if o = 0 then pure (.inr x)
 else if level o < lvl then pure (.inr x)
 else do
  let _ ← nextP
  let y ← ex (level o + 1)
  let a ← nodeAtP x
  let z ← nodeP ⟨7,a.at_,[],o,0,[x,y]⟩
  pure (.inl z)
def exprP (op:PM S Nat) (ex:Nat → PM S Nat) (n lvl:Nat):PM S Nat:=do
 let x ← op
 loopP (exprB ex lvl) n x
def exP:Nat → Option Nat → PM S Nat
 | 0,_=>fun _=>none
 | n + 1,none=>operandP (exP n none) (fun l=>exP n (some l)) n
 | n + 1,some l=>exprP (exP n none) (fun l=>exP n (some l)) n l
def paramP:PM S (Nat × List UInt8 × Int):=do
 let t ← tokP
 if ← takeP [99,104,97,114] then do
  mustP [42]
  let nm ← kindP 1
  pure (t.at_,nm.text,2)
 else do
  mustP [105,110,116]
  if ← takeP [42] then do
   let nm ← kindP 1
   pure (t.at_,nm.text,3)
  else do
   let nm ← kindP 1
   pure (t.at_,nm.text,1)
def blockB (sm:PM S Nat) (acc:List Nat):PM S (Sum (List Nat) (List Nat)):=do
 if ← isP [125] then pure (.inr acc) else do
  let x ← sm
  pure (.inl (acc ++ [x]))
def blockP (sm:PM S Nat) (n:Nat):PM S Nat:=do
 let t ← tokP
 mustP [123]
 let kids ← loopP (blockB sm) n []
 let _ ← nextP
 nodeP ⟨17,t.at_,[],0,0,kids⟩
def conditionP (ex:Nat → PM S Nat):PM S Nat:=do
 mustP [40]
 let x ← ex 1
 mustP [41]
 pure x
def plainP (ex:Nat → PM S Nat) (at_:Nat):PM S Nat:=do
 let x ← ex 1
 if ← isP [61] then do
  let a ← nodeAtP x
  if a.kind = 3 ∨ a.kind = 5 then do
   let _ ← nextP
   let y ← ex 1
   mustP [59]
   let a ← nodeAtP x
   nodeP ⟨11,a.at_,[],0,0,[x,y]⟩
  else wrongP 13
 else do
  mustP [59]
  nodeP ⟨10,at_,[],0,0,[x]⟩
def varP (ex:Nat → PM S Nat):PM S Nat:=do
 let x ← paramP
 if ← takeP [61] then do
  let v ← ex 1
  mustP [59]
  nodeP ⟨18,x.1,x.2.1,0,x.2.2,[v]⟩
 else do
  mustP [59]
  nodeP ⟨18,x.1,x.2.1,0,x.2.2,[]⟩
def ifP (sm:PM S Nat) (ex:Nat → PM S Nat) (at_:Nat):PM S Nat:=do
 let c ← conditionP ex
 let a ← sm
 if ← takeP [101,108,115,101] then do
  let b ← sm
  nodeP ⟨12,at_,[],0,0,[c,a,b]⟩
 else nodeP ⟨12,at_,[],0,0,[c,a]⟩
def stepP (sm:PM S Nat) (ex:Nat → PM S Nat) (n at_:Nat):PM S Nat:=do
 if ← isP [123] then blockP sm n
 else if ← takeP [105,102] then ifP sm ex at_
 else if ← takeP [119,104,105,108,101] then do
  let c ← conditionP ex
  let b ← sm
  nodeP ⟨13,at_,[],0,0,[c,b]⟩
 else if ← takeP [114,101,116,117,114,110] then do
  let x ← ex 1
  mustP [59]
  nodeP ⟨14,at_,[],0,0,[x]⟩
 else if ← takeP [98,114,101,97,107] then do
  mustP [59]
  nodeP ⟨15,at_,[],0,0,[]⟩
 else if ← takeP [99,111,110,116,105,110,117,101] then do
  mustP [59]
  nodeP ⟨16,at_,[],0,0,[]⟩
 else if ← isP [105,110,116] then varP ex
 else if ← isP [99,104,97,114] then varP ex
 else plainP ex at_
def stmtP (sm:PM S Nat) (ex:Nat → PM S Nat) (n:Nat):PM S Nat:=do
 downP
 let t ← tokP
 let x ← stepP sm ex n t.at_
 upP
 pure x
def smP:Nat → PM S Nat
 | 0=>fun _=>none
 | n + 1=>stmtP (smP n) (fun l=>exP n (some l)) n
def paramsB (acc:List Nat):PM S (Sum (List Nat) (List Nat)):=do
 let p ← paramP
 let x ← nodeP ⟨18,p.1,p.2.1,0,p.2.2,[]⟩
 if ← takeP [41] then pure (.inr (acc ++ [x])) else do
  mustP [44]
  pure (.inl (acc ++ [x]))
def bodyP (n at_:Nat) (nm:List UInt8) (kids:List Nat):PM S Nat:=do
 let b ← blockP (smP n) n
 nodeP ⟨22,at_,nm,0,kids.length,kids ++ [b]⟩
def functionP (n at_:Nat) (nm:List UInt8):PM S Nat:=do
 let _ ← nextP
 if ← takeP [41] then bodyP n at_ nm [] else do
  let kids ← loopP paramsB n []
  bodyP n at_ nm kids
def arrayP (at_:Nat) (nm:List UInt8) (ty:Int):PM S Nat:=do
 mustP [91]
 let k ← kindP 3
 mustP [93]
 mustP [59]
 nodeP ⟨21,at_,nm,k.n,ty,[]⟩
def declP (n:Nat):PM S Nat:=do
 let t ← tokP
 if ← takeP [99,104,97,114] then do
  let nm ← kindP 1
  arrayP t.at_ nm.text 2
 else do
  mustP [105,110,116]
  let nm ← kindP 1
  if ← takeP [59] then nodeP ⟨20,t.at_,nm.text,0,1,[]⟩
  else if ← isP [40] then functionP n t.at_ nm.text
  else arrayP t.at_ nm.text 3
def declB (n:Nat) (acc:List Nat):PM S (Sum (List Nat) (List Nat)):=do
 let t ← tokP
 if t.kind = 0 then pure (.inr acc) else do
  let x ← declP n
  pure (.inl (acc ++ [x]))
def wholeP (n:Nat):PM S Nat:=do
 let kids ← loopP (declB n) n []
 nodeP ⟨23,0,[],0,0,kids⟩
end
def strm (s:List UInt8):Strm where
 Pos:=Nat
 nxt:=fun a=>match cut s a with
  | (f,none)=>.inl f
  | (_,some (t,q))=>.inr (t,q)
def readP (S:Strm) (q:S.Pos) (n:Nat):Option (Except Flt (List Node)):=
 match S.nxt q with
 | .inl f=>some (.error (13,f))
 | .inr (t,q)=>match wholeP (S:=S) n ⟨t,q,[],0⟩ with
  | none=>none
  | some (.error e)=>some (.error e)
  | some (.ok (_,st))=>some (.ok st.nodes)
end Go.Front

/- The abstract heap against the model's: what is related to what, and small lemmas. -/
import Derived.Test.YtlbieeajocjpeaaGreatDoorAmDef
import Derived.Below
import Derived.Laws.Append
import Derived.Deep.AppendSrc
import Derived.Deep.Upon
namespace Go.AM
open Go.RowKit
structure Ent where
 blk:Nat
 off:Nat
 room:Nat
 wr:Bool
abbrev Emb:=Nat → Option Ent
mutual
inductive VRel (μ:Emb):AV → Value → Prop
 | bool (b:Bool):VRel μ (.bool b) (.bool b)
 | int (k:IntKind) (n:Int):VRel μ (.int k n) (.int k n)
 | str (s:List UInt8):VRel μ (.str s) (.string ⟨s.toArray⟩)
 | nptr:VRel μ (.ptr none) (.pointer none)
 | ptr (b o:Nat) (e:Ent) (h:μ b = some e):VRel μ (.ptr (some (b,o))) (.pointer (some ⟨e.blk,e.off + o,none⟩))
 | nslice (sz:Nat):VRel μ (.slice none 0 (some 0) sz) (.slice none 0 0)
 | slice (b o:Nat) (e:Ent) (len:Nat) (cap:Option Nat) (sz:Nat) (a:Addr) (c:Nat) (h:μ b = some e) (ha:a.block = e.blk ∧ a.spot = none) (ha':0 < c → a = ⟨e.blk,e.off + o,none⟩)
   (hc:o + c * sz ≤ e.room) (hcap:∀ c',cap = some c' → c' = c) (hl:len ≤ c):VRel μ (.slice (some (b,o)) len cap sz) (.slice (some a) len c)
 | nmap:VRel μ (.map none) (.map none)
 | map (r:Nat) (e:Ent) (h:μ r = some e):VRel μ (.map (some r)) (.map (some e.blk))
 | func (fn:Fn) (l c:List AV) (l' c':Array Value) (hl:VRels μ l l'.toList) (hc:VRels μ c c'.toList):VRel μ (.func fn l c) (.func fn l' c')
 | nfunc:VRel μ .nilFunc .nilFunc
 | iface (t:TypeId) (x:AV) (v:Value) (h:VRel μ x v):VRel μ (.iface t x) (.iface t v)
 | niface:VRel μ .nilIface .nilIface
 | agg (cs:List AV) (cs':Array Value) (h:VRels μ cs cs'.toList):VRel μ (.agg cs) (.agg cs')
 | tuple (cs:List AV) (cs':Array Value) (h:VRels μ cs cs'.toList):VRel μ (.tuple cs) (.tuple cs')
inductive VRels (μ:Emb):List AV → List Value → Prop
 | nil:VRels μ [] []
 | cons (x:AV) (v:Value) (xs:List AV) (vs:List Value) (h:VRel μ x v) (r:VRels μ xs vs):VRels μ (x :: xs) (v :: vs)
end
def Emb.le (μ μ':Emb):Prop:=∀ b e,μ b = some e → μ' b = some e
theorem Emb.le_refl (μ:Emb):μ.le μ:=fun _ _ h=>h
theorem Emb.le_trans {a b c:Emb} (h:a.le b) (k:b.le c):a.le c:=fun x e hx=>k x e (h x e hx)
mutual
theorem VRel.mono {μ μ':Emb} (hm:μ.le μ'):∀ {x:AV} {v:Value},VRel μ x v → VRel μ' x v
 | _,_,.bool b=>.bool b
 | _,_,.int k n=>.int k n
 | _,_,.str s=>.str s
 | _,_,.nptr=>.nptr
 | _,_,.ptr b o e h=>.ptr b o e (hm _ _ h)
 | _,_,.nslice sz=>.nslice sz
 | _,_,.slice b o e len cap sz a c h ha ha' hc hcap hl=>.slice b o e len cap sz a c (hm _ _ h) ha ha' hc hcap hl
 | _,_,.nmap=>.nmap
 | _,_,.map r e h=>.map r e (hm _ _ h)
 | _,_,.func fn l c l' c' hl hc=>.func fn l c l' c' (VRels.mono hm hl) (VRels.mono hm hc)
 | _,_,.nfunc=>.nfunc
 | _,_,.iface t x v h=>.iface t x v (VRel.mono hm h)
 | _,_,.niface=>.niface
 | _,_,.agg cs cs' h=>.agg cs cs' (VRels.mono hm h)
 | _,_,.tuple cs cs' h=>.tuple cs cs' (VRels.mono hm h)
theorem VRels.mono {μ μ':Emb} (hm:μ.le μ'):∀ {xs:List AV} {vs:List Value},VRels μ xs vs → VRels μ' xs vs
 | _,_,.nil=>.nil
 | _,_,.cons x v xs vs h r=>.cons x v xs vs (VRel.mono hm h) (VRels.mono hm r)
end
section
variable {μ:Emb}
theorem VRels.length {xs:List AV} {vs:List Value} (h:VRels μ xs vs):xs.length = vs.length:=by
 induction xs generalizing vs with
 | nil=>cases h;rfl
 | cons x xs ih=>cases h with | cons _ v _ vs h r=>simp [ih r]
theorem VRels.get {xs:List AV} {vs:List Value} (h:VRels μ xs vs):∀ {i:Nat} {x:AV},xs[i]? = some x → ∃ v,vs[i]? = some v ∧ VRel μ x v:=by
 induction xs generalizing vs with
 | nil=>intro i x hi;simp at hi
 | cons y ys ih=>
  cases h with
  | cons _ v _ vs h r=>
   intro i x hi
   cases i with
   | zero=>simp at hi;subst hi;exact ⟨v,by simp,h⟩
   | succ i=>simp at hi;simpa using ih r hi
theorem VRels.of_get:∀ {xs:List AV} {vs:List Value},xs.length = vs.length → (∀ (i:Nat) x,xs[i]? = some x → ∃ v,vs[i]? = some v ∧ VRel μ x v) → VRels μ xs vs
 | [],[],_,_=>.nil
 | x :: xs,v :: vs,hl,h=>.cons _ _ _ _ (by obtain ⟨v',e,r⟩:=h 0 x (by simp);simp at e;subst e;exact r)
   (VRels.of_get (by simpa using hl) fun i y hi=>by obtain ⟨v',e,r⟩:=h (i + 1) y (by simpa using hi);exact ⟨v',by simpa using e,r⟩)
 | [],_ :: _,hl,_=>by simp at hl
 | _ :: _,[],hl,_=>by simp at hl
theorem VRels.append {xs ys:List AV} {vs us:List Value} (h:VRels μ xs vs) (k:VRels μ ys us):VRels μ (xs ++ ys) (vs ++ us):=by
 induction xs generalizing vs with
 | nil=>cases h;exact k
 | cons x xs ih=>cases h with | cons _ v _ vs h r=>exact .cons _ _ _ _ h (ih r)
theorem VRels.drop {xs:List AV} {vs:List Value} (h:VRels μ xs vs) (n:Nat):VRels μ (xs.drop n) (vs.drop n):=by
 induction n generalizing xs vs with
 | zero=>simpa using h
 | succ n ih=>cases h with | nil=>simpa using VRels.nil | cons _ _ _ _ _ r=>simpa using ih r
theorem VRels.take {xs:List AV} {vs:List Value} (h:VRels μ xs vs) (n:Nat):VRels μ (xs.take n) (vs.take n):=by
 induction n generalizing xs vs with
 | zero=>simpa using VRels.nil
 | succ n ih=>cases h with | nil=>simpa using VRels.nil | cons _ _ _ _ h r=>simpa using VRels.cons _ _ _ _ h (ih r)
theorem VRels.set {xs:List AV} {vs:List Value} (h:VRels μ xs vs) {x:AV} {v:Value} (hx:VRel μ x v) (n:Nat):VRels μ (xs.set n x) (vs.set n v):=by
 induction n generalizing xs vs with
 | zero=>cases h with | nil=>simpa using VRels.nil | cons _ _ _ _ h r=>simpa using VRels.cons _ _ _ _ hx r
 | succ n ih=>cases h with | nil=>simpa using VRels.nil | cons _ _ _ _ h r=>simpa using VRels.cons _ _ _ _ h (ih r)
theorem VRel.one {x:AV} {v:Value} (h:VRel μ x v):v.oneCell' = x.one:=by cases h <;> rfl
theorem VRel.cells {x:AV} {v:Value} (h:VRel μ x v):VRels μ x.cells v.cells.toList:=by
 cases h <;> first | exact ‹VRels μ _ _› | exact .cons _ _ _ _ (by constructor <;> assumption) .nil
theorem ofV1_rel {v:Value} {x:AV} (h:ofV1 v = some x):VRel μ x v:=by
 unfold ofV1 at h
 split at h <;> simp at h <;> subst h
 ·exact .bool _
 ·exact .int _ _
 ·rename_i s;exact .str _
 ·exact .nptr
 ·exact .nslice 0
 ·exact .nmap
 ·exact .nfunc
 ·exact .niface
theorem ofVs_rel:∀ {vs:List Value} {xs:List AV},ofVs vs = some xs → VRels μ xs vs
 | [],xs,h=>by simp [ofVs] at h;subst h;exact .nil
 | v :: vs,xs,h=>by
  unfold ofVs at h
  split at h
  ·rename_i x hx
   split at h
   ·rename_i ys hy
    simp at h;subst h
    exact .cons _ _ _ _ (ofV1_rel hx) (ofVs_rel hy)
   ·simp at h
  ·simp at h
theorem ofV_rel {v:Value} {x:AV} (h:ofV v = some x):VRel μ x v:=by
 unfold ofV at h
 split at h
 ·split at h
  ·rename_i hx;simp at h;subst h;exact .agg _ _ (ofVs_rel hx)
  ·simp at h
 ·split at h
  ·rename_i hx;simp at h;subst h;exact .tuple _ _ (ofVs_rel hx)
  ·simp at h
 ·exact ofV1_rel h
end
def CRel (μ:Emb) (cs:List AV) (cs':Array Value) (off:Nat):Prop:=∀ (i:Nat) x,cs[i]? = some x → (∃ v,cs'[off + i]? = some v ∧ VRel μ x v) ∧ x.one = true
theorem CRel.mono {μ μ':Emb} (hm:μ.le μ') {cs:List AV} {cs':Array Value} {off:Nat} (h:CRel μ cs cs' off):CRel μ' cs cs' off:=
 fun i x hi=>let ⟨⟨v,hv,hr⟩,ho⟩:=h i x hi;⟨⟨v,hv,hr.mono hm⟩,ho⟩
def MRel (μ:Emb):List (AV × AV) → List MapEntry → Prop
 | [],[]=>True
 | (k,v) :: r,e :: r'=>VRel μ k e.key ∧ VRel μ v e.val ∧ MRel μ r r'
 | _,_=>False
theorem MRel.mono {μ μ':Emb} (hm:μ.le μ'):∀ {es:List (AV × AV)} {es':List MapEntry},MRel μ es es' → MRel μ' es es'
 | [],[],_=>trivial
 | (_,_) :: _,_ :: _,h=>⟨h.1.mono hm,h.2.1.mono hm,MRel.mono hm h.2.2⟩
 | [],_ :: _,h=>h.elim
 | _ :: _,[],h=>h.elim
def Mk.ok (m:Mk) (ty:TypeId) (off n n':Nat):Prop:=
 match m with
 | .any=>True
 | .row t=>ty = t
 | .box t=>ty = t ∧ off = 0 ∧ n = n'
def sameTag:AV → AV → Prop
 | .bool _,.bool _=>True
 | .int k _,.int k' _=>k = k'
 | .str _,.str _=>True
 | _,_=>False
def KeysOk (es:List (AV × AV)):Prop:=es.Pairwise fun x y=>sameTag x.1 y.1 ∧ x.1 ≠ y.1
def ORel (μ:Emb) (w:World) (o:AObj) (e:Ent):Prop:=
 match o with
 | .cells cs wr=>∃ cs' ty fr,w.heap[e.blk]? = some (.cells cs' ty fr) ∧ CRel μ cs cs' e.off ∧ cs.length ≤ e.room ∧ e.off + e.room ≤ cs'.size ∧
   (∀ t,wr = .rw t → e.wr = true ∧ (∀ j,e.off ≤ j → j < e.off + e.room → ¬ (fr.1 ≤ j ∧ j < fr.2)) ∧ t.ok ty e.off cs.length cs'.size)
 | .know g p=>∃ ob,w.heap[e.blk]? = some ob ∧ p ob ∧ e.blk = g
 | .glob g cs=>∃ cs' ty fr,w.heap[e.blk]? = some (.cells cs' ty fr) ∧ CRel μ cs cs' e.off ∧ e.blk = g ∧ e.off = 0
 | .map es=>∃ es' clock,w.heap[e.blk]? = some (.map es' clock) ∧ (∃ l,l.Perm es ∧ MRel μ l es'.toList) ∧ KeysOk es ∧ e.wr = true
 | .iter s pos=>w.heap[e.blk]? = some (.stringIter ⟨s.toArray⟩ pos) ∧ e.wr = true ∧ e.off = 0
 | .dead=>True
def AObj.live:AObj → Bool
 | .dead=>false
 | _=>true
structure R (μ:Emb) (σ:St) (w:World):Prop where
 dom:∀ b,(μ b).isSome = true → b < σ.length
 lt:∀ b e,μ b = some e → e.blk < w.heap.size
 obj:∀ (b:Nat) o,σ[b]? = some o → ∃ e,μ b = some e ∧ ORel μ w o e
 inj:∀ (b b':Nat) o o' e e',σ[b]? = some o → σ[b']? = some o' → μ b = some e → μ b' = some e' → o.live = true → o'.live = true → e.wr = true → e'.blk = e.blk → b' = b
structure Fr (μ:Emb) (w w':World):Prop where
 os:w'.os = w.os
 tape:w'.tape = w.tape
 output:w'.output = w.output
 size:w.heap.size ≤ w'.heap.size
 keep:∀ k,k < w.heap.size → (∀ b e,μ b = some e → e.wr = true → e.blk ≠ k) → w'.heap[k]? = w.heap[k]?
structure Ext (μ μ':Emb) (w:World):Prop where
 le:μ.le μ'
 new:∀ b e,μ' b = some e → μ b = none → w.heap.size ≤ e.blk ∨ ∃ b0 e0,μ b0 = some e0 ∧ e0.blk = e.blk ∧ e0.wr = true
theorem Fr.refl (μ:Emb) (w:World):Fr μ w w:=⟨rfl,rfl,rfl,Nat.le_refl _,fun _ _ _=>rfl⟩
theorem Ext.refl (μ:Emb) (w:World):Ext μ μ w:=⟨μ.le_refl,fun b e h h'=>by rw [h'] at h;cases h⟩
theorem Fr.trans {μ μ1:Emb} {w w1 w2:World} (h:Fr μ w w1) (x:Ext μ μ1 w) (h1:Fr μ1 w1 w2):Fr μ w w2:=by
 refine ⟨h1.os.trans h.os,h1.tape.trans h.tape,h1.output.trans h.output,Nat.le_trans h.size h1.size,fun k hk hn=>?_⟩
 rw [h1.keep k (Nat.lt_of_lt_of_le hk h.size) fun b e hb hw hek=>?_,h.keep k hk hn]
 cases hm:μ b with
 | some e'=>have:=x.le _ _ hm;rw [hb] at this;cases this;exact hn _ _ hm hw hek
 | none=>
  rcases x.new b e hb hm with h' | ⟨b0,e0,hb0,he0,hw0⟩
  ·omega
  ·exact hn _ _ hb0 hw0 (he0.trans hek)
theorem Ext.trans {μ μ1 μ2:Emb} {w w1:World} (h:Ext μ μ1 w) (hs:w.heap.size ≤ w1.heap.size) (h1:Ext μ1 μ2 w1):Ext μ μ2 w:=by
 refine ⟨Emb.le_trans h.le h1.le,fun b e hb hn=>?_⟩
 cases hm:μ1 b with
 | some e'=>have:=h1.le _ _ hm;rw [hb] at this;cases this;exact h.new _ _ hm hn
 | none=>
  rcases h1.new b e hb hm with h' | ⟨b0,e0,hb0,he0,hw0⟩
  ·exact .inl (Nat.le_trans hs h')
  ·cases hm0:μ b0 with
   | some e'=>have:=h.le _ _ hm0;rw [hb0] at this;cases this;exact .inr ⟨b0,e0,hm0,he0,hw0⟩
   | none=>
    rcases h.new b0 e0 hb0 hm0 with h' | ⟨b1,e1,hb1,he1,hw1⟩
    ·exact .inl (by omega)
    ·exact .inr ⟨b1,e1,hb1,he1.trans he0,hw1⟩
abbrev Lam:=Nat → Option Nat
inductive TRel (μ:Emb) (lam:Lam):TV → Value → Prop
 | v (x:AV) (v:Value) (h:VRel μ x v):TRel μ lam (.v x) v
 | lp (k off blk:Nat) (h:lam k = some blk):TRel μ lam (.lp k off) (.pointer (some ⟨blk,off,none⟩))
 | ls (k n blk:Nat) (h:lam k = some blk):TRel μ lam (.ls k n) (.slice (some ⟨blk,0,none⟩) n n)
 | gl (g off:Nat):TRel μ lam (.gl g off) (.pointer (some ⟨g,off,none⟩))
 | no (v:Value):TRel μ lam .no v
theorem TRel.mono {μ μ':Emb} {lam:Lam} (hm:μ.le μ') {t:TV} {v:Value} (h:TRel μ lam t v):TRel μ' lam t v:=by
 cases h with
 | v x v h=>exact .v _ _ (h.mono hm)
 | lp k off blk h=>exact .lp _ _ _ h
 | ls k n blk h=>exact .ls _ _ _ h
 | gl g off=>exact .gl _ _
 | no v=>exact .no v
def LRel (μ:Emb) (w:World) (cs:List AV) (blk:Nat):Prop:=
 ∃ cs' ty fr,w.heap[blk]? = some (.cells cs' ty fr) ∧ CRel μ cs cs' 0 ∧ cs.length = cs'.size ∧ (∀ j,j < cs'.size → ¬ (fr.1 ≤ j ∧ j < fr.2)) ∧ ∀ b e,μ b = some e → e.blk ≠ blk
inductive DRel (μ:Emb):Defs → List Deferred → Prop
 | nil:DRel μ [] []
 | cons (f:FuncId) (args:List AV) (cap as:Array Value) (ds:Defs) (ds':List Deferred) (h:VRels μ args (as ++ cap).toList) (r:DRel μ ds ds') :
   DRel μ ((f,args) :: ds) ({ target:=.fn (.func f) cap,args:=as } :: ds')
theorem DRel.mono {μ μ':Emb} (hm:μ.le μ'):∀ {ds:Defs} {ds':List Deferred},DRel μ ds ds' → DRel μ' ds ds'
 | _,_,.nil=>.nil
 | _,_,.cons f args cap as ds ds' h r=>.cons f args cap as ds ds' (h.mono hm) (r.mono hm)
structure Sit (μ0:Emb) (w0:World) (μ:Emb) (lam:Lam) (env:Env) (σ:St) (a:Act) (w:World):Prop where
 r:R μ σ w
 ext:Ext μ0 μ w0
 fr:Fr μ0 w0 w
 size:env.tmps.length = a.tmps.size
 tmps:∀ (i:Nat) t,env.tmps[i]? = some t → TRel μ lam t (a.tmps.getD i undef)
 locs:∀ (k:Nat) cs,lookL env.locs k = some cs → ∃ blk,lam k = some blk ∧ LRel μ w cs blk
 inj:∀ k k' blk,lam k = some blk → lam k' = some blk → k' = k
 ge:∀ k blk,lam k = some blk → w0.heap.size ≤ blk
 lamlt:∀ k blk,lam k = some blk → blk < w.heap.size
 defers:DRel μ env.defs a.defers
section
variable {μ0 μ:Emb} {w0 w:World} {lam:Lam} {env:Env} {σ:St} {a:Act}
theorem Sit.get (h:Sit μ0 w0 μ lam env σ a w) (x:Operand):TRel μ lam (env.get x) (a.eval x):=by
 cases x with
 | tmp t=>
  simp only [Env.get,Act.eval]
  cases ht:env.tmps[t]? with
  | none=>simp [List.getD,ht];exact .no _
  | some y=>simp [List.getD,ht];simpa using h.tmps t y ht
 | const c=>
  simp only [Env.get,Act.eval]
  split
  ·rename_i y hy;exact .v _ _ (ofV_rel hy)
  ·exact .no _
 | global g=>exact .gl _ _
 | func f=>exact .v _ _ (.func _ _ _ _ _ .nil .nil)
theorem Sit.put (h:Sit μ0 w0 μ lam env σ a w) {t:TV} {v:Value} (ht:TRel μ lam t v) (dst:Option Tmp):Sit μ0 w0 μ lam (env.put dst t) σ (a.put dst v) w:=by
 cases dst with
 | none=>exact h
 | some d=>
  refine { h with size:=by simp [Env.put,Act.put,h.size],tmps:=fun i y hi=>?_,defers:=h.defers,locs:=h.locs }
  simp only [Env.put,Act.put] at hi ⊢
  by_cases hd:d = i
  ·subst hd
   have hlt:d < env.tmps.length:=by
    rcases Nat.lt_or_ge d env.tmps.length with hlt | hge
    ·exact hlt
    ·rw [List.getElem?_eq_none (by simpa using hge)] at hi;cases hi
   rw [List.getElem?_set_self hlt] at hi
   cases hi
   have hlt':d < a.tmps.size:=h.size ▸ hlt
   simpa [hlt'] using ht
  ·rw [List.getElem?_set_ne hd] at hi
   simpa [Array.getElem?_setIfInBounds_ne hd] using h.tmps i y hi
theorem LRel.frame {μ':Emb} {w':World} {cs:List AV} {blk:Nat} (h:LRel μ w cs blk) (hlt:blk < w.heap.size) (x:Ext μ μ' w) (f:Fr μ w w'):LRel μ' w' cs blk:=by
 obtain ⟨cs',ty,fr,hb,hc,hl,hfr,hn⟩:=h
 refine ⟨cs',ty,fr,?_,hc.mono x.le,hl,hfr,fun b e he hek=>?_⟩
 ·rw [f.keep blk hlt fun b e hb' _=>hn b e hb'];exact hb
 ·cases hm:μ b with
  | some e'=>have:=x.le _ _ hm;rw [he] at this;cases this;exact hn _ _ hm hek
  | none=>
   rcases x.new b e he hm with h' | ⟨b0,e0,hb0,he0,_⟩
   ·omega
   ·exact hn _ _ hb0 (he0.trans hek)
theorem Sit.step {μ':Emb} {σ':St} {w':World} (h:Sit μ0 w0 μ lam env σ a w) (r:R μ' σ' w') (x:Ext μ μ' w) (f:Fr μ w w'):Sit μ0 w0 μ' lam env σ' a w' where
 r:=r
 ext:=h.ext.trans h.fr.size x
 fr:=h.fr.trans h.ext f
 size:=h.size
 tmps:=fun i t hi=>(h.tmps i t hi).mono x.le
 locs:=fun k cs hk=>let ⟨blk,hb,hl⟩:=h.locs k cs hk;⟨blk,hb,hl.frame (h.lamlt _ _ hb) x f⟩
 inj:=h.inj
 ge:=h.ge
 lamlt:=fun k blk hk=>Nat.lt_of_lt_of_le (h.lamlt k blk hk) f.size
 defers:=h.defers.mono x.le
end
end Go.AM

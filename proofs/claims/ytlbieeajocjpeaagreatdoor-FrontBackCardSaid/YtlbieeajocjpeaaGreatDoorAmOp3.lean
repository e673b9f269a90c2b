/- Each operation of the interpreter, held against the model's: the operations one by one. -/
import Derived.Test.YtlbieeajocjpeaaGreatDoorAmOp2
set_option linter.unusedSimpArgs false
namespace Go.AM
open Go.RowKit
structure POk (P:Program):Prop where
 fields:∀ t fs,P.underlying t = some (.struct fs) → ∀ f ∈ fs.toList,(P.info? f.type).isSome = true
 arr:∀ t n e,P.underlying t = some (.array n e) → (P.info? e).isSome = true
 sl:∀ t e,P.underlying t = some (.slice e) → (P.info? e).isSome = true
 mixed:P.follows .mixedOrders = true
 call:∀ (f:Nat) (fn:Func),P.funcs[f]? = some fn → fn.body.isSome = true → fn.name ≠ "runtime.NumGoroutine"
section
variable {P:Program} {μ0 μ:Emb} {w0 w:World} {lam:Lam} {env:Env} {σ:St} {a:Act} {o:Oper} {next:Act → World → Prop} {Q:Exit → Act → World → Prop} {out:Res × St} {k:TV → Env → St → Out} {kp:AV → Env → St → Out}
theorem exec_v {s:Sem Value} {u:Value} {w':World} (h:s.run P w = .ok u w'):(do pure (Next.value (← s)):Sem Next).run P w = .ok (.value u) w':=by
 simp only [Sem.run_bind,h,Result.andThen_ok,Sem.run_pure]
theorem op_build {t:TypeId} {parts:Array (Nat × Operand)} (hP:POk P) (H:Sit μ0 w0 μ lam env σ a w) (hk:KOk μ0 w0 a o.dst next out k) (ho:o.op = .build t parts)
  (hx:(match buildO P t (parts.toList.map fun p=>(p.1,env.get p.2)) with | some x=>k (.v x) env σ | none=>none) = some out):o.wp P a w next Q:=by
 split at hx
 ·rename_i x hb
  have hp:=H.parts parts.toList
  obtain ⟨v,hv,hr⟩:=build_sound (P:=P) (ps':=parts.map fun (i,x)=>(i,a.eval x)) (by simpa using hp) (hP.fields t) (hP.arr t) hb w
  exact op_val H hk (by simp [execOp,ho,hv]) (.v _ _ hr) hx
 ·cases hx
theorem nil_guard {op:BinOp} {t:TypeId} {px py:Operand} {w:World} (hop:op = .eql ∨ op = .neq) (h:(Operand.const? px || Operand.const? py) = true) :
  (eqGuard op t px py .nilIface .nilIface).run P w = .ok () w:=by
 rcases hop with rfl | rfl <;> cases px <;> cases py <;> simp_all [eqGuard,Operand.const?]
theorem binOp_sound {op:BinOp} {t:TypeId} {x y:AV} {v u:Value} {px py:Operand} {kv:AV → Out} (hP:POk P) (hx:VRel μ x v) (hy:VRel μ y u) (w:World) (hnil:nilOk px py x y = true) (h:binK P op t x y kv = some out) :
  ∃ r q,((do eqGuard op t px py v u;binOp op t v u:Sem Value)).run P w = .ok q w ∧ VRel μ r q ∧ kv r = some out:=by
 have guardInt:∀ k n,v = .int k n → (eqGuard op t px py v u).run P w = .ok () w:=by
  intro k n hv;subst hv;cases op <;> simp [eqGuard]
 have guardStr:∀ s,v = .string s → (eqGuard op t px py v u).run P w = .ok () w:=by
  intro s hv;subst hv;cases op <;> simp [eqGuard]
 unfold binK at h
 split at h
 ·rename_i kx ax ky ay
  cases hx;cases hy
  split at h
  ·rename_i hc
   split at h
   ·rename_i r hr
    obtain ⟨q,hq,h1,h2⟩:=ibin_sound (μ:=μ) hr w
    refine ⟨r,q,?_,hq,h⟩
    simp only [Sem.run_bind,guardInt _ _ rfl,Result.andThen_ok]
    by_cases hs:op = .shl ∨ op = .shr
    ·exact h2 hs P ky t
    ·have hk:kx = ky:=by rcases hc with hc | hc | hc <;> first | exact hc | exact absurd hc (fun e=>hs (by simp [e]))
     subst hk
     exact h1 (fun e=>hs (.inl e)) (fun e=>hs (.inr e)) P t
   ·cases h
  ·cases h
 ·rename_i ax ay
  cases hx;cases hy
  split at h
  ·rename_i r hr
   obtain ⟨q,hq,h1⟩:=sbin_sound (P:=P) (μ:=μ) hr w t
   exact ⟨r,q,by simp only [Sem.run_bind,guardStr _ rfl,Result.andThen_ok,h1],hq,h⟩
  ·cases h
 ·rename_i hn1 hn2
  have main (b:Bool) (hf:eqFree P t = true) (he:eqIn P 100 t x y = some b) (hop:op = .eql ∨ op = .neq) :
    ((do eqGuard op t px py v u;binOp op t v u:Sem Value)).run P w = .ok (.bool (if op = .eql then b else !b)) w:=by
   have hrun:=eqIn_run (P:=P) (m:=9900) hP.arr 100 t x y b v u he hx hy w
   have hg:(eqGuard op t px py v u).run P w = .ok () w:=by
    have hagg:∀ cs cs',x = .agg cs → y = .agg cs' → P.eqGuardType P.depth t = false:=by
     intro cs cs' h1 h2
     subst h1 h2
     unfold eqIn at he
     unfold eqFree at hf
     cases hu:P.underlying t with
     | none=>rw [hu] at he;cases he
     | some d=>rw [hu] at he hf;cases d <;> first | (cases he;done) | simpa using hf
    have hnn:x = .nilIface → y = .nilIface → (Operand.const? px || Operand.const? py) = true:=by
     intro h1 h2
     subst h1 h2
     simpa [nilOk] using hnil
    cases hx <;> cases hy <;> rcases hop with rfl | rfl <;> first
     | (simp [eqGuard];done)
     | (simp [eqGuard,run_program,hagg _ _ rfl rfl];done)
     | exact nil_guard (by first | exact .inl rfl | exact .inr rfl) (hnn rfl rfl)
     | skip
    all_goals (unfold eqIn at he;cases hu:P.underlying t with | none=>rw [hu] at he;cases he | some d=>rw [hu] at he;cases d <;> first | (cases he;done) | (simp at he;done))
   have hb:(binOp op t v u).run P w = .ok (.bool (if op = .eql then b else !b)) w:=by
    have hq:(Op.equal t v u).run P w = .ok b w:=hrun
    cases hx with
    | int kx n=>cases hy <;> first | exact absurd rfl (hn1 _ _ _ _ rfl) | (unfold eqIn at he;cases hu:P.underlying t with | none=>rw [hu] at he;cases he | some d=>rw [hu] at he;cases d <;> first | (cases he;done) | (simp at he;done))
    | str s=>cases hy <;> first | exact absurd rfl (hn2 _ _ rfl) | (unfold eqIn at he;cases hu:P.underlying t with | none=>rw [hu] at he;cases he | some d=>rw [hu] at he;cases d <;> first | (cases he;done) | (simp at he;done))
    | _=>cases hy <;> rcases hop with rfl | rfl <;> first | (simp [binOp,hq];done) | (unfold eqIn at he;cases hu:P.underlying t with | none=>rw [hu] at he;cases he | some d=>rw [hu] at he;cases d <;> first | (cases he;done) | (simp at he;done))
   simp only [Sem.run_bind,hg,Result.andThen_ok,hb]
  split at h
  ·split at h
   ·rename_i hf
    split at h
    ·rename_i b hb;exact ⟨_,_,by rw [main b hf hb (.inl rfl)],.bool _,by simpa using h⟩
    ·cases h
   ·cases h
  ·split at h
   ·rename_i hf
    split at h
    ·rename_i b hb;exact ⟨_,_,by rw [main b hf hb (.inr rfl)],.bool _,by simpa using h⟩
    ·cases h
   ·cases h
  ·cases h
theorem op_binOp {op:BinOp} {t t2:TypeId} {x y:Operand} (hP:POk P) (H:Sit μ0 w0 μ lam env σ a w) (hk:KOk μ0 w0 a o.dst next out k) (ho:o.op = .binOp op t x y t2)
  (hx:(match env.get x with | .v p=>(match env.get y with | .v q=>cond (nilOk x y p q) (binK P op t p q (fun r=>k (.v r) env σ)) none | _=>none) | _=>none) = some out):o.wp P a w next Q:=by
 have h1:=H.get x
 have h2:=H.get y
 split at hx
 ·rename_i p hp
  rw [hp] at h1
  split at hx
  ·rename_i q hq
   rw [hq] at h2
   have hn:nilOk x y p q = true:=by
    cases hn:nilOk x y p q with
    | true=>rfl
    | false=>rw [hn] at hx;cases hx
   rw [hn] at hx
   obtain ⟨r,u,hu,hr,hkk⟩:=binOp_sound (px:=x) (py:=y) hP h1.val h2.val w hn hx
   exact op_val H hk (by simp only [execOp,ho];exact exec_v hu) (.v _ _ hr) hkk
  ·cases hx
 ·cases hx
theorem op_unOp {op:UnOp} {t:TypeId} {x:Operand} (H:Sit μ0 w0 μ lam env σ a w) (hk:KOk μ0 w0 a o.dst next out k) (ho:o.op = .unOp op t x)
  (hx:(match env.get x with | .v p=>unK op p (fun r=>k (.v r) env σ) | _=>none) = some out):o.wp P a w next Q:=by
 have h1:=H.get x
 split at hx
 ·rename_i p hp
  rw [hp] at h1
  have hv:=h1.val
  generalize hxv:a.eval x = xv at hv
  unfold unK at hx
  split at hx
  ·cases hv;exact op_val H hk (by simp [execOp,ho,hxv,Op.unary,Op.intArith]) (.v _ _ (.int _ _)) hx
  ·cases hv;exact op_val H hk (by simp [execOp,ho,hxv,Op.unary,Op.intBits]) (.v _ _ (.int _ _)) hx
  ·cases hv;exact op_val H hk (by simp [execOp,ho,hxv,Op.unary]) (.v _ _ (.bool _)) hx
  ·cases hx
 ·cases hx
theorem natK_some {x:TV} {f:Int → Out} (h:natK x f = some out):∃ kx n,x = .v (.int kx n) ∧ f n = some out:=by
 unfold natK at h
 split at h
 ·exact ⟨_,_,rfl,h⟩
 ·cases h
theorem fieldOf_some {s:TypeId} {f:Nat} {fl:Field} (h:fieldOf P s f = some fl):∃ fs,P.underlying s = some (.struct fs) ∧ fs[f]? = some fl:=by
 unfold fieldOf at h
 split at h
 ·exact ⟨_,‹_›,h⟩
 ·cases h
theorem run_fieldPlace {fl:Field} {i:TypeInfo} (hi:P.info? fl.type = some i) (hs:szOf P fl.type ≠ 0) (b o:Nat) (w:World):(fieldPlace ⟨b,o,none⟩ fl).run P w = .ok ⟨b,o + fl.offset,none⟩ w:=by
 simp only [fieldPlace,Sem.run_bind,run_sizeOf hi,Result.andThen_ok,if_neg hs,Sem.run_pure,addr_add]
theorem op_fieldAddr {s:TypeId} {x:Operand} {f:Nat} (hP:POk P) (H:Sit μ0 w0 μ lam env σ a w) (hk:KOk μ0 w0 a o.dst next out k) (ho:o.op = .fieldAddr s x f)
  (hx:(match fieldOf P s f with
   | some fl=>if szOf P fl.type = 0 then none else match env.get x with
    | .lp key off=>k (.lp key (off + fl.offset)) env σ
    | .gl g off=>k (.gl g (off + fl.offset)) env σ
    | .v (.ptr (some (b,off)))=>k (.v (.ptr (some (b,off + fl.offset)))) env σ
    | _=>none
   | none=>none) = some out):o.wp P a w next Q:=by
 have h1:=H.get x
 split at hx
 ·rename_i fl hfl
  obtain ⟨fs,hu,hf⟩:=fieldOf_some hfl
  have hmem:fl ∈ fs.toList:=by rw [← Array.getElem?_toList] at hf;exact List.mem_of_getElem? hf
  obtain ⟨i,hi⟩:=Option.isSome_iff_exists.1 (hP.fields s fs hu fl hmem)
  split at hx
  ·cases hx
  ·rename_i hs
   have hrun (b off:Nat):(Instr.fieldAt s (.pointer (some ⟨b,off,none⟩)) f).run P w = .ok (.pointer (some ⟨b,off + fl.offset,none⟩)) w:=by
    simp only [Instr.fieldAt,Instr.sureAddr,Sem.run_bind,run_underlying hu,Result.andThen_ok,hf,Sem.run_pure,run_fieldPlace hi hs]
   generalize hxv:a.eval x = xv at h1
   split at hx
   ·rename_i key off hp
    rw [hp] at h1
    cases h1 with
    | lp _ _ blk hl=>exact op_val H hk (by simp [execOp,ho,hxv,hrun]) (.lp _ _ _ hl) hx
   ·rename_i g off hp
    rw [hp] at h1
    cases h1 with
    | gl _ _=>exact op_val H hk (by simp [execOp,ho,hxv,hrun]) (.gl _ _) hx
   ·rename_i b off hp
    rw [hp] at h1
    have hv:=h1.val
    cases hv with
    | ptr _ _ e he=>
     refine op_val H hk (v:=.pointer (some ⟨e.blk,e.off + off + fl.offset,none⟩)) (by simp [execOp,ho,hxv,hrun]) (.v _ _ ?_) hx
     rw [Nat.add_assoc]
     exact .ptr _ _ _ he
   ·cases hx
 ·cases hx
theorem op_field {s:TypeId} {x:Operand} {f:Nat} (H:Sit μ0 w0 μ lam env σ a w) (hk:KOk μ0 w0 a o.dst next out k) (ho:o.op = .field s x f)
  (hx:(match fieldOf P s f with
   | some fl=>(match env.get x with | .v (.agg cs)=>partK P fl.type cs fl.offset (fun y=>k (.v y) env σ) | _=>none)
   | none=>none) = some out):o.wp P a w next Q:=by
 have h1:=H.get x
 split at hx
 ·rename_i fl hfl
  obtain ⟨fs,hu,hf⟩:=fieldOf_some hfl
  split at hx
  ·rename_i cs hp
   rw [hp] at h1
   have hv:=h1.val
   generalize hxv:a.eval x = xv at hv
   cases hv with
   | agg _ cs' hc=>
    obtain ⟨y,hy,hky⟩:=partK_some hx
    obtain ⟨u,hu2,hr⟩:=run_part_rel (P:=P) hy hc w
    exact op_val H hk (by simp [execOp,ho,hxv,Instr.field,run_underlying hu,hf,asAgg,hu2]) (.v _ _ hr) hky
  ·cases hx
 ·cases hx
theorem op_indexAddr {t:TypeId} {x ix:Operand} (hP:POk P) (H:Sit μ0 w0 μ lam env σ a w) (hk:KOk μ0 w0 a o.dst next out k) (ho:o.op = .indexAddr t x ix)
  (hx:natK (env.get ix) (fun i=>
   match P.underlying t with
   | some (.array n e)=>if 0 ≤ i ∧ i < n then match env.get x with
     | .lp key off=>k (.lp key (off + i.toNat * szOf P e)) env σ
     | .gl g off=>k (.gl g (off + i.toNat * szOf P e)) env σ
     | .v (.ptr (some (b,off)))=>k (.v (.ptr (some (b,off + i.toNat * szOf P e)))) env σ
     | _=>none
    else none
   | some (.slice e)=>match env.get x with
    | .ls key n=>if 0 ≤ i ∧ i < n then k (.lp key (i.toNat * szOf P e)) env σ else none
    | .v (.slice (some (b,off)) n _ sz)=>if 0 ≤ i ∧ i < n then (if sz = szOf P e then k (.v (.ptr (some (b,off + i.toNat * szOf P e)))) env σ else none) else none
    | _=>none
   | _=>none) = some out):o.wp P a w next Q:=by
 obtain ⟨kx,i,hix,hx⟩:=natK_some hx
 have hi0:=H.get ix
 rw [hix] at hi0
 have hiv:=hi0.val
 generalize hixv:a.eval ix = ixv at hiv
 cases hiv with
 | int _ _=>
  have h1:=H.get x
  split at hx
  ·rename_i n e hu
   obtain ⟨inf,hinf⟩:=Option.isSome_iff_exists.1 (hP.arr t n e hu)
   split at hx
   ·rename_i hb
    have hrun (b off:Nat):(Instr.indexAt t (.pointer (some ⟨b,off,none⟩)) (.int kx i)).run P w = .ok (.pointer (some ⟨b,off + i.toNat * szOf P e,none⟩)) w:=by
     simp [Instr.indexAt,asIntOf,Instr.sureAddr,run_underlying hu,hb,run_sizeOf hinf,addr_add]
    generalize hxv:a.eval x = xv at h1
    split at hx
    ·rename_i key off hp
     rw [hp] at h1
     cases h1 with
     | lp _ _ blk hl=>exact op_val H hk (by simp [execOp,ho,hxv,hixv,hrun]) (.lp _ _ _ hl) hx
    ·rename_i g off hp
     rw [hp] at h1
     cases h1 with
     | gl _ _=>exact op_val H hk (by simp [execOp,ho,hxv,hixv,hrun]) (.gl _ _) hx
    ·rename_i b off hp
     rw [hp] at h1
     have hv:=h1.val
     cases hv with
     | ptr _ _ en he=>
      refine op_val H hk (v:=.pointer (some ⟨en.blk,en.off + off + i.toNat * szOf P e,none⟩)) (by simp [execOp,ho,hxv,hixv,hrun]) (.v _ _ ?_) hx
      rw [Nat.add_assoc]
      exact .ptr _ _ _ he
    ·cases hx
   ·cases hx
  ·rename_i e hu
   obtain ⟨inf,hinf⟩:=Option.isSome_iff_exists.1 (hP.sl t e hu)
   have hrun (ad:Addr) (n c:Nat) (hb:0 ≤ i ∧ i < n):(Instr.indexAt t (.slice (some ad) n c) (.int kx i)).run P w = .ok (.pointer (some (ad.add (i.toNat * szOf P e)))) w:=by
    simp [Instr.indexAt,asIntOf,run_underlying hu,hb,run_sizeOf hinf]
   generalize hxv:a.eval x = xv at h1
   split at hx
   ·rename_i key n hp
    rw [hp] at h1
    split at hx
    ·rename_i hb
     cases h1 with
     | ls _ _ blk hl=>
      refine op_val H hk (v:=.pointer (some ((⟨blk,0,none⟩:Addr).add (i.toNat * szOf P e)))) (by simp [execOp,ho,hxv,hixv,hrun _ _ _ hb]) ?_ hx
      rw [addr_add,Nat.zero_add]
      exact .lp _ _ _ hl
    ·cases hx
   ·rename_i b off n cap sz hp
    rw [hp] at h1
    split at hx
    ·rename_i hb
     split at hx
     ·rename_i hsz
      have hv:=h1.val
      cases hv with
      | slice _ _ en _ _ _ ad c he ha ha' hc hcap hl=>
       have had:=ha' (by omega)
       subst had
       refine op_val H hk (v:=.pointer (some ((⟨en.blk,en.off + off,none⟩:Addr).add (i.toNat * szOf P e)))) (by simp [execOp,ho,hxv,hixv,hrun _ _ _ hb]) (.v _ _ ?_) hx
       rw [addr_add,Nat.add_assoc]
       exact .ptr _ _ _ he
     ·cases hx
    ·cases hx
   ·cases hx
  ·cases hx
theorem op_index {t:TypeId} {x ix:Operand} (hP:POk P) (H:Sit μ0 w0 μ lam env σ a w) (hk:KOk μ0 w0 a o.dst next out k) (ho:o.op = .index t x ix)
  (hx:natK (env.get ix) (fun i=>
   match P.underlying t with
   | some (.array n e)=>(match env.get x with
    | .v (.agg cs)=>if 0 ≤ i ∧ i < n then partK P e cs (i.toNat * szOf P e) (fun y=>k (.v y) env σ) else none
    | _=>none)
   | some .string=>(match env.get x with
    | .v (.str s)=>if 0 ≤ i then match s[i.toNat]? with | some b=>k (.v (.int .u8 b.toNat)) env σ | none=>none else none
    | _=>none)
   | _=>none) = some out):o.wp P a w next Q:=by
 obtain ⟨kx,i,hix,hx⟩:=natK_some hx
 have hi0:=H.get ix
 rw [hix] at hi0
 have hiv:=hi0.val
 generalize hixv:a.eval ix = ixv at hiv
 cases hiv with
 | int _ _=>
  have h1:=H.get x
  split at hx
  ·rename_i n e hu
   obtain ⟨inf,hinf⟩:=Option.isSome_iff_exists.1 (hP.arr t n e hu)
   split at hx
   ·rename_i cs hp
    rw [hp] at h1
    have hv:=h1.val
    generalize hxv:a.eval x = xv at hv
    split at hx
    ·rename_i hb
     cases hv with
     | agg _ cs' hc=>
      obtain ⟨y,hy,hky⟩:=partK_some hx
      obtain ⟨u,hu2,hr⟩:=run_part_rel (P:=P) hy hc w
      exact op_val H hk (by simp [execOp,ho,hxv,hixv,Instr.index,asIntOf,run_underlying hu,hb,run_sizeOf hinf,hu2]) (.v _ _ hr) hky
    ·cases hx
   ·cases hx
  ·rename_i hu
   split at hx
   ·rename_i s hp
    rw [hp] at h1
    have hv:=h1.val
    generalize hxv:a.eval x = xv at hv
    split at hx
    ·rename_i hb
     split at hx
     ·rename_i c hc
      cases hv with
      | str _=>
       have hg:(⟨s.toArray⟩:ByteArray)[i.toNat]? = some c:=by
        have hlt:i.toNat < s.length:=(List.getElem?_eq_some_iff.1 hc).1
        have he:s[i.toNat] = c:=(List.getElem?_eq_some_iff.1 hc).2
        rw [getElem?_pos (⟨s.toArray⟩:ByteArray) i.toNat hlt]
        exact congrArg some he
       exact op_val H hk (by simp [execOp,ho,hxv,hixv,Instr.index,asIntOf,run_underlying hu,hb,hg]) (.v _ _ (.int _ _)) hx
     ·cases hx
    ·cases hx
   ·cases hx
  ·cases hx
theorem op_extract {x:Operand} {i:Nat} (H:Sit μ0 w0 μ lam env σ a w) (hk:KOk μ0 w0 a o.dst next out k) (ho:o.op = .extract x i)
  (hx:(match env.get x with
   | .v (.tuple vs)=>(match vs[i]? with | some y=>k (.v y) env σ | none=>none)
   | _=>none) = some out):o.wp P a w next Q:=by
 have h1:=H.get x
 split at hx
 ·rename_i vs hp
  rw [hp] at h1
  have hv:=h1.val
  generalize hxv:a.eval x = xv at hv
  split at hx
  ·rename_i y hy
   cases hv with
   | tuple _ cs' hc=>
    obtain ⟨u,hu,hr⟩:=hc.get hy
    rw [Array.getElem?_toList] at hu
    exact op_val H hk (by simp [execOp,ho,hxv,Instr.extract,hu]) (.v _ _ hr) hx
  ·cases hx
 ·cases hx
theorem op_makeInterface {t:TypeId} {x:Operand} (H:Sit μ0 w0 μ lam env σ a w) (hk:KOk μ0 w0 a o.dst next out k) (ho:o.op = .makeInterface t x)
  (hx:(match env.get x with
   | .v p=>(match P.underlying t with | some (.interface _)=>none | some _=>k (.v (.iface t p)) env σ | none=>none)
   | _=>none) = some out):o.wp P a w next Q:=by
 have h1:=H.get x
 split at hx
 ·rename_i p hp
  rw [hp] at h1
  split at hx
  ·cases hx
  ·rename_i d hn hu
   refine op_val H hk ?_ (.v _ _ (.iface t _ _ h1.val)) hx
   simp only [execOp,ho]
   refine exec_v ?_
   simp only [Instr.makeInterface,Sem.run_bind,run_underlying hu,Result.andThen_ok]
   rfl
  ·cases hx
 ·cases hx
theorem op_nilCheck {x:Operand} (H:Sit μ0 w0 μ lam env σ a w) (hk:KOk μ0 w0 a o.dst next out k) (ho:o.op = .nilCheck x)
  (hx:(match env.get x with
   | .lp key off=>k (.lp key off) env σ
   | .gl g off=>k (.gl g off) env σ
   | .v (.ptr (some ad))=>k (.v (.ptr (some ad))) env σ
   | .v (.func (.func f) l c)=>k (.v (.func (.func f) l c)) env σ
   | _=>none) = some out):o.wp P a w next Q:=by
 have h1:=H.get x
 generalize hxv:a.eval x = xv at h1
 split at hx
 ·rename_i key off hp
  rw [hp] at h1
  cases h1 with
  | lp _ _ blk hl=>exact op_val H hk (by simp [execOp,ho,hxv]) (.lp _ _ _ hl) hx
 ·rename_i g off hp
  rw [hp] at h1
  cases h1 with
  | gl _ _=>exact op_val H hk (by simp [execOp,ho,hxv]) (.gl _ _) hx
 ·rename_i ad hp
  rw [hp] at h1
  have hv:=h1.val
  cases hv with
  | ptr _ _ e he=>exact op_val H hk (by simp [execOp,ho,hxv]) (.v _ _ (.ptr _ _ _ he)) hx
 ·rename_i f l c hp
  rw [hp] at h1
  have hv:=h1.val
  cases hv with
  | func _ _ _ l' c' hl hc=>exact op_val H hk (by simp [execOp,ho,hxv]) (.v _ _ (.func _ _ _ _ _ hl hc)) hx
 ·cases hx
end
end Go.AM

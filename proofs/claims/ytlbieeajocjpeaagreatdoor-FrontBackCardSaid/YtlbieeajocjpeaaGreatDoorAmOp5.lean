/- Each operation of the interpreter, held against the model's: calls; all of them together; regions, code, functions. -/
import Derived.Test.YtlbieeajocjpeaaGreatDoorAmOp4
set_option linter.unusedSimpArgs false
namespace Go.AM
open Go.RowKit
section
variable {P:Program} {μ0 μ:Emb} {w0 w:World} {lam:Lam} {env:Env} {σ:St} {a:Act} {o:Oper} {next:Act → World → Prop} {Q:Exit → Act → World → Prop} {out:Res × St} {k:TV → Env → St → Out} {kp:AV → Env → St → Out}
theorem arr_of_toList {α:Type} {x:Array α} {l:List α} (h:x.toList = l):x = l.toArray:=by subst h;simp
theorem op_append {c:Call} {t t2 e:TypeId} {s x:Operand} {isStr:Bool} (H:Sit μ0 w0 μ lam env σ a w) (hk:KOk μ0 w0 a o.dst next out k) (ho:o.op = .call c) (hc:c.callee = .builtin .append)
  (ht:c.argTypes.toList = [t,t2]) (ha:c.args.toList = [s,x]) (hu:P.underlying t = some (.slice e)) (hz:zeroFits P e = true)
  (hkk:(isStr = false ∧ ∃ e',P.underlying t2 = some (.slice e')) ∨ (isStr = true ∧ P.underlying t2 = some .string))
  (hx:appendK isStr e (szOf P e) (bytesOfT P e) env σ (env.get s) (env.get x) (fun v σ'=>k (.v v) env σ') = some out):o.wp P a w next Q:=by
 obtain ⟨μ',y,v,σ',w',hrun,hS,hr,hkx⟩:=append_sound (ty:=o.type) H hu hz hkk (H.get s) (H.get x) hx
 refine wp_value (v:=v) (w':=w') ?_ (hk _ _ _ _ _ _ _ hS (.v _ _ hr) hkx)
 have h1:=arr_of_toList ht
 have h2:=arr_of_toList ha
 simp only [execOp,ho,resolve,hc,Sem.run_bind,Sem.run_pure,Result.andThen_ok,invoke,builtin,h1,h2,List.map_toArray,List.map_cons,List.map_nil,hrun]
theorem lenO_sound {t:TypeId} {x:TV} {v:Value} {n:Int} {ts:Array TypeId} {vs:Array Value} {ty:TypeId} (hr:TRel μ lam x v) (h:lenO P t x = some n) (ht:ts[0]? = some t) (hv:vs[0]? = some v) (w:World) :
  (Builtin.len_ ts ty vs).run P w = .ok (.int .i64 n) w:=by
 unfold lenO at h
 split at h
 ·rename_i hu
  split at h
  ·cases h
   have hv2:=hr.val
   cases hv2
   simp only [Builtin.len_,ht,hv,Sem.run_bind,run_underlying hu,Result.andThen_ok]
   rfl
  ·cases h
 ·rename_i e hu
  split at h
  ·cases h
   have hv2:=hr.val
   cases hv2 <;> (simp only [Builtin.len_,ht,hv,Sem.run_bind,run_underlying hu,Result.andThen_ok];rfl)
  ·cases h
   cases hr
   simp only [Builtin.len_,ht,hv,Sem.run_bind,run_underlying hu,Result.andThen_ok];rfl
  ·cases h
 ·rename_i m e hu
  cases h
  simp only [Builtin.len_,ht,hv,Sem.run_bind,run_underlying hu,Result.andThen_ok];rfl
 ·rename_i e1 e2 hu
  split at h
  ·cases h
   have hv2:=hr.val
   cases hv2
   simp only [Builtin.len_,ht,hv,Sem.run_bind,run_underlying hu,Result.andThen_ok];rfl
  ·cases h
 ·cases h
theorem op_len {c:Call} {t:TypeId} {ts:List TypeId} {x:Operand} {xs:List Operand} (H:Sit μ0 w0 μ lam env σ a w) (hk:KOk μ0 w0 a o.dst next out k) (ho:o.op = .call c) (hc:c.callee = .builtin .len)
  (ht:c.argTypes.toList = t :: ts) (ha:c.args.toList = x :: xs) (hx:(match lenO P t (env.get x) with | some n=>k (.v (.int .i64 n)) env σ | none=>none) = some out):o.wp P a w next Q:=by
 split at hx
 ·rename_i n hn
  refine op_val H hk (v:=.int .i64 n) ?_ (.v _ _ (.int _ _)) hx
  have h1:=arr_of_toList ht
  have h2:=arr_of_toList ha
  have:=lenO_sound (P:=P) (ts:=c.argTypes) (vs:=c.args.map a.eval) (ty:=o.type) (H.get x) hn (by rw [h1];simp) (by rw [h2];simp) w
  simp only [execOp,ho,resolve,hc,Sem.run_bind,Sem.run_pure,Result.andThen_ok,invoke,builtin,this]
 ·cases hx
theorem ints_sound:∀ {l:List TV} {ns:List Int},intsOf l = some ns → ∀ {vs:List Value},(∃ ps:List Operand,l = ps.map env.get ∧ vs = ps.map a.eval) → Sit μ0 w0 μ lam env σ a w → ∃ ks:List (IntKind × Int),vs = ks.map (fun p=>.int p.1 p.2) ∧ ks.map (·.2) = ns
 | [],ns,h,vs,⟨ps,hl,hv⟩,_=>by
  simp [intsOf] at h;subst h
  have:ps = []:=by cases ps <;> simp at hl ⊢
  subst this;subst hv
  exact ⟨[],rfl,rfl⟩
 | t :: r,ns,h,vs,⟨ps,hl,hv⟩,H=>by
  cases ps with
  | nil=>simp at hl
  | cons p ps=>
   simp only [List.map_cons,List.cons.injEq] at hl
   obtain ⟨hp,hr⟩:=hl
   have hx:=H.get p
   rw [← hp] at hx
   unfold intsOf at h
   split at h
   ·rename_i heq;cases heq
   ·rename_i kx n r' heq
    cases heq
    split at h
    ·rename_i l hl
     cases h
     have hv2:=hx.val
     generalize hpv:a.eval p = pv at hv2
     cases hv2
     obtain ⟨ks,h1,h2⟩:=ints_sound hl ⟨ps,hr,rfl⟩ H
     exact ⟨(kx,n) :: ks,by rw [hv,List.map_cons,hpv,h1];rfl,by simp [h2]⟩
    ·cases h
   ·cases h
theorem min_fold {kx:IntKind}:∀ (ks:List (IntKind × Int)) (m:Int) (w:World),((ks.map fun p=>Value.int p.1 p.2).foldlM Builtin.min2 (.int kx m)).run P w = .ok (.int kx (minI m (ks.map (·.2)))) w
 | [],m,w=>rfl
 | (k2,y) :: r,m,w=>by
  simp only [List.map_cons,List.foldlM_cons,Builtin.min2,Sem.run_bind,Sem.run_pure,Result.andThen_ok,minI]
  exact min_fold r _ w
theorem max_fold {kx:IntKind}:∀ (ks:List (IntKind × Int)) (m:Int) (w:World),((ks.map fun p=>Value.int p.1 p.2).foldlM Builtin.max2 (.int kx m)).run P w = .ok (.int kx (maxI m (ks.map (·.2)))) w
 | [],m,w=>rfl
 | (k2,y) :: r,m,w=>by
  simp only [List.map_cons,List.foldlM_cons,Builtin.max2,Sem.run_bind,Sem.run_pure,Result.andThen_ok,maxI]
  exact max_fold r _ w
theorem op_minmax {c:Call} {mn:Bool} (H:Sit μ0 w0 μ lam env σ a w) (hk:KOk μ0 w0 a o.dst next out k) (ho:o.op = .call c) (hc:c.callee = .builtin (cond mn .min .max))
  (hx:(match c.args.toList.map env.get with
   | .v (.int kx m) :: r=>(match intsOf r with | some l=>k (.v (.int kx (cond mn (minI m l) (maxI m l)))) env σ | none=>none)
   | _=>none) = some out):o.wp P a w next Q:=by
 split at hx
 ·rename_i kx m r heq
  split at hx
  ·rename_i l hl
   cases hps:c.args.toList with
   | nil=>rw [hps] at heq;cases heq
   | cons p ps=>
    rw [hps] at heq
    simp only [List.map_cons,List.cons.injEq] at heq
    obtain ⟨hp,hr⟩:=heq
    have hpr:=H.get p
    rw [hp] at hpr
    have hv:=hpr.val
    generalize hpv:a.eval p = pv at hv
    cases hv
    obtain ⟨ks,h1,h2⟩:=ints_sound hl ⟨ps,hr.symm,rfl⟩ H
    refine op_val H hk (v:=.int kx (cond mn (minI m l) (maxI m l))) ?_ (.v _ _ (.int _ _)) hx
    have hargs:(c.args.map a.eval).toList = .int kx m :: ks.map (fun p=>.int p.1 p.2):=by
     rw [Array.toList_map,hps,List.map_cons,hpv,h1]
    cases mn
    ·simp only [execOp,ho,resolve,hc,cond,Sem.run_bind,Sem.run_pure,Result.andThen_ok,invoke,builtin,Builtin.max_,hargs,max_fold,h2]
    ·simp only [execOp,ho,resolve,hc,cond,Sem.run_bind,Sem.run_pure,Result.andThen_ok,invoke,builtin,Builtin.min_,hargs,min_fold,h2]
  ·cases hx
 ·cases hx
theorem vals_sound:∀ {ps:List Operand} {l:List AV},valsOf (ps.map env.get) = some l → Sit μ0 w0 μ lam env σ a w → VRels μ l (ps.map a.eval)
 | [],l,h,_=>by simp [valsOf] at h;subst h;exact .nil
 | p :: ps,l,h,H=>by
  have hx:=H.get p
  simp only [List.map_cons] at h
  unfold valsOf at h
  split at h
  ·rename_i heq;cases heq
  ·rename_i x r heq
   simp only [List.cons.injEq] at heq
   obtain ⟨h1,h2⟩:=heq
   split at h
   ·rename_i l' hl
    cases h
    rw [← h2] at hl
    rw [h1] at hx
    exact .cons _ _ _ _ hx.val (vals_sound hl H)
   ·cases h
  ·cases h
theorem run_enter {f:FuncId} {fn:Func} (hP:POk P) (hfn:P.funcs[f]? = some fn) (hb:fn.body.isSome = true) (as:Array Value) (w:World):(callFunc f as).run P w = .ok (.enter f as) w:=by
 have hn:=hP.call f fn hfn hb
 have hb2:fn.body.isNone = false:=by cases hbb:fn.body <;> simp_all
 simp [callFunc,hfn,hn,hb2]
 intro h0;rw [h0] at hb;cases hb
theorem call_main {fid:FuncId} {args:List AV} {as:Array Value} {call:Caller} (hP:POk P) (hcall:CallOk P call) (H:Sit μ0 w0 μ lam env σ a w) (hk:KOk μ0 w0 a o.dst next out k) (hkp:KpOk μ0 w0 Q out kp) (hall:VRels μ args as.toList)
  (hrun:(execOp a.eval o).run P w = (callFunc fid as).run P w) (hx:callK call fid args σ (fun v σ'=>k (.v v) env σ') (fun v σ'=>kp v env σ') = some out):o.wp P a w next Q:=by
 unfold callK at hx
 have main (r:Res × St) (hr:call fid args σ = some r) (hnext:∀ e w',EndR μ w r e w' → (match e with
   | .returned v=>next (a.put o.dst v) w'
   | .panicked chain=>Q (.panic chain) a w'
   | .outgrown=>LetsOut Q)):o.wp P a w next Q:=by
  rcases hcall _ _ _ _ hr with ⟨⟨fn,hfn,hb⟩,hcl⟩ | ⟨_,hcl⟩
  ·unfold Oper.wp
   rw [hrun,run_enter hP hfn hb]
   rw [Oper.upon_enter]
   exact (hcl μ w _ H.r hall).mono fun e w' he=>by
    have:=hnext e w' he
    cases e <;> exact this
  ·obtain ⟨v,w',h1,h2⟩:=hcl μ w _ H.r hall
   exact wp_value (hrun.trans h1) (hnext _ _ h2)
 split at hx
 ·rename_i v σ' hr
  refine main _ hr fun e w' ⟨μ',hR,hE,hF,v',he,hrel⟩=>?_
  subst he
  exact hk _ _ _ _ _ _ _ (H.step hR hE hF) (.v _ _ hrel) hx
 ·rename_i v σ' hr
  refine main _ hr fun e w' ⟨μ',hR,hE,hF,v',he,hrel⟩=>?_
  subst he
  exact hkp _ _ _ _ _ _ _ _ (H.step hR hE hF) hrel hx
 ·cases hx
theorem op_call {c:Call} {f:Operand} {call:Caller} (hP:POk P) (hcall:CallOk P call) (H:Sit μ0 w0 μ lam env σ a w) (hk:KOk μ0 w0 a o.dst next out k) (hkp:KpOk μ0 w0 Q out kp) (ho:o.op = .call c) (hc:c.callee = .value f)
  (hx:(match env.get f with
   | .v (.func (.func fid) first captured)=>(match valsOf (c.args.toList.map env.get) with
    | some args=>callK call fid (first ++ args ++ captured) σ (fun v σ'=>k (.v v) env σ') (fun v σ'=>kp v env σ')
    | none=>none)
   | _=>none) = some out):o.wp P a w next Q:=by
 have hf:=H.get f
 split at hx
 ·rename_i fid first captured heq
  rw [heq] at hf
  have hv:=hf.val
  generalize hfv:a.eval f = fv at hv
  split at hx
  ·rename_i args hargs
   have hav:=vals_sound hargs H
   cases hv with
   | func _ _ _ l' c' hl hcc=>
    have hall:VRels μ (first ++ args ++ captured) (l' ++ c.args.map a.eval ++ c').toList:=by
     simp only [Array.toList_append,Array.toList_map]
     exact (hl.append hav).append hcc
    exact call_main hP hcall H hk hkp hall (by simp [execOp,ho,resolve,hc,hfv,Deferred.ofValue,invoke]) hx
  ·cases hx
 ·cases hx
theorem op_invoke {c:Call} {x:Operand} {name:String} {call:Caller} (hP:POk P) (hcall:CallOk P call) (H:Sit μ0 w0 μ lam env σ a w) (hk:KOk μ0 w0 a o.dst next out k) (hkp:KpOk μ0 w0 Q out kp) (ho:o.op = .call c) (hc:c.callee = .invoke x name)
  (hx:(match env.get x with
   | .v xv=>(match valsOf (c.args.toList.map env.get) with
    | some args=>callI P call xv name args σ (fun v σ'=>k (.v v) env σ') (fun v σ'=>kp v env σ')
    | none=>none)
   | _=>none) = some out):o.wp P a w next Q:=by
 have hf:=H.get x
 split at hx
 ·rename_i xv heq
  rw [heq] at hf
  have hv:=hf.val
  generalize hfv:a.eval x = fv at hv
  split at hx
  ·rename_i args hargs
   have hav:=vals_sound hargs H
   unfold callI at hx
   split at hx
   ·rename_i t y
    cases hv with
    | iface _ _ v' hy=>
     split at hx
     ·rename_i f hm
      unfold methF at hm
      split at hm
      ·rename_i he
       cases hm
       have hme:=he.choose_spec
       have hall:VRels μ (y :: args) (#[v'] ++ c.args.map a.eval).toList:=by
        simp only [Array.toList_append,Array.toList_map]
        exact .cons _ _ _ _ hy hav
       refine call_main hP hcall H hk hkp hall ?_ hx
       have hex:(#[Value.iface t v'] ++ c.args.map a.eval).extract 1 (#[Value.iface t v'] ++ c.args.map a.eval).size = c.args.map a.eval:=by
        apply Array.toList_inj.1
        simp
        rw [List.take_of_length_le (by simp)]
       have h0:(#[Value.iface t v'] ++ c.args.map a.eval)[0]? = some (Value.iface t v'):=by
        rw [Array.getElem?_append_left (by simp)];rfl
       have hres:(resolve a.eval c o.type).run P w = .ok { target:=.fn (.method name) #[],args:=#[Value.iface t v'] ++ c.args.map a.eval } w:=by
        unfold resolve
        rw [hc]
        simp only [hfv]
        rfl
       have hinv (as:Array Value) (r:Value) (h:as[0]? = some r):(invoke (.fn (.method name) #[]) as).run P w = (callMethod r name (as.extract 1 as.size)).run P w:=by
        show (match as[0]? with | some recv=>callMethod recv name (as.extract 1 as.size) | _=>stuck "call: a method without a receiver").run P w = _
        rw [h]
       have hcm:(callMethod (.iface t v') name (c.args.map a.eval)).run P w = (callFunc he.choose (#[v'] ++ c.args.map a.eval)).run P w:=by
        show (do let (f,receiver) ← method ((← program).types.size + Made.depth) t v' name;callFunc f (#[receiver] ++ c.args.map a.eval):Sem Next).run P w = _
        rw [Sem.run_bind,run_program,Result.andThen_ok,Sem.run_bind,hme,Result.andThen_ok]
       have hx2:(execOp a.eval o).run P w = (do let d ← resolve a.eval c o.type;invoke d.target d.args).run P w:=by
        unfold execOp
        rw [ho]
       rw [hx2,Sem.run_bind,hres,Result.andThen_ok,hinv _ _ h0,hex,hcm]
      ·cases hm
     ·cases hx
   ·cases hx
  ·cases hx
 ·cases hx
end
end Go.AM

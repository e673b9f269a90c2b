/- The interpreter is sound: what it answers, the model's call comes to. -/
import Derived.Test.YtlbieeajocjpeaaGreatDoorAmAny
import Derived.Test.YtlbieeajocjpeaaGreatDoorAmOp7
import Derived.Tactics
import Derived.Recover
import Derived.LoopN
set_option linter.unusedSimpArgs false
namespace Go.AM
open Go.RowKit
section
variable {P:Program} {μ0 μ:Emb} {w0 w:World} {lam:Lam} {env:Env} {σ:St} {a:Act} {Q:Exit → Act → World → Prop} {out:Res × St} {kp:AV → Env → St → Out} {call:Caller} {lm:Nat}
theorem xop_sound {o:Oper} {next:Act → World → Prop} {k:TV → Env → St → Out} (hP:POk P) (hcall:CallOk P call) (H:Sit μ0 w0 μ lam env σ a w) (hk:KOk μ0 w0 a o.dst next out k) (hkp:KpOk μ0 w0 Q out kp)
  (hx:xop P lm call env σ o k kp = some out):o.wp P a w next Q:=by
 cases ho:o.op with
 | move x=>simp only [xop,ho] at hx;exact op_move H hk (.inl ho) hx
 | assign x=>simp only [xop,ho] at hx;exact op_move H hk (.inr ho) hx
 | pick c x y=>simp only [xop,ho] at hx;exact op_pick H hk ho hx
 | alloc t=>simp only [xop,ho] at hx;exact op_alloc H hk ho hx
 | box t x=>simp only [xop,ho] at hx;exact op_box H hk ho hx
 | build t parts=>simp only [xop,ho] at hx;exact op_build hP H hk ho hx
 | buildSlice t n parts=>simp only [xop,ho] at hx;exact op_buildSlice H hk ho hx
 | load t x=>simp only [xop,ho] at hx;exact op_load H hk ho hx
 | store t x y=>simp only [xop,ho] at hx;exact op_store H hk ho hx
 | nilCheck x=>simp only [xop,ho] at hx;exact op_nilCheck H hk ho hx
 | binOp op t x y t2=>simp only [xop,ho] at hx;exact op_binOp hP H hk ho hx
 | unOp op t x=>simp only [xop,ho] at hx;exact op_unOp H hk ho hx
 | convert s d x=>
  simp only [xop,ho] at hx
  split at hx
  ·rename_i e hs;exact op_s2b H hk ho hs hx
  ·exact op_convert H hk ho hx
 | makeFunc fn first captured=>simp only [xop,ho] at hx;exact op_makeFunc H hk ho hx
 | makeSlice t l c=>simp only [xop,ho] at hx;exact op_makeSlice H hk ho hx
 | range t x=>simp only [xop,ho] at hx;exact op_range H hk ho hx
 | next it s=>
  cases s with
  | true=>simp only [xop,ho] at hx;exact op_next H hk ho hx
  | false=>simp only [xop,ho] at hx;cases hx
 | slice t x lo hi mx=>
  cases mx with
  | none=>
   simp only [xop,ho] at hx
   split at hx
   ·rename_i n e hs;exact op_arrSl hP H hk ho hs hx
   ·exact op_slice hP H hk ho hx
  | some m=>simp only [xop,ho] at hx;cases hx
 | fieldAddr s x f=>simp only [xop,ho] at hx;exact op_fieldAddr hP H hk ho hx
 | field s x f=>simp only [xop,ho] at hx;exact op_field H hk ho hx
 | indexAddr t x ix=>simp only [xop,ho] at hx;exact op_indexAddr hP H hk ho hx
 | index t x ix=>simp only [xop,ho] at hx;exact op_index hP H hk ho hx
 | extract x i=>simp only [xop,ho] at hx;exact op_extract H hk ho hx
 | makeInterface t x=>simp only [xop,ho] at hx;exact op_makeInterface H hk ho hx
 | call c=>
  simp only [xop,ho] at hx
  split at hx
  ·rename_i f hc;exact op_call hP hcall H hk hkp ho hc hx
  ·rename_i x name hc;exact op_invoke hP hcall H hk hkp ho hc hx
  ·rename_i hc
   split at hx
   ·rename_i t ts x xs ht ha;exact op_len H hk ho hc ht ha hx
   ·cases hx
  ·rename_i hc
   split at hx
   ·rename_i t t2 s x ht ha
    split at hx
    ·rename_i e hu
     split at hx
     ·rename_i e' hu2
      split at hx
      ·rename_i hz;exact op_append H hk ho hc ht ha hu hz (.inl ⟨rfl,e',hu2⟩) hx
      ·cases hx
     ·rename_i hu2
      split at hx
      ·rename_i hz;exact op_append H hk ho hc ht ha hu hz (.inr ⟨rfl,hu2⟩) hx
      ·cases hx
     ·cases hx
    ·cases hx
   ·cases hx
  ·rename_i hc
   split at hx
   ·rename_i t ts x xs ht ha;exact op_cap H hk ho hc ht ha hx
   ·cases hx
  ·rename_i hc
   split at hx
   ·rename_i t t2 ts d x xs ht ha
    split at hx
    ·rename_i e hu
     split at hx
     ·rename_i e' hu2
      split at hx
      ·rename_i hz;exact op_copy H hk ho hc ht ha hu hz (.inl ⟨rfl,e',hu2⟩) hx
      ·cases hx
     ·rename_i hu2
      split at hx
      ·rename_i hz;exact op_copy H hk ho hc ht ha hu hz (.inr ⟨rfl,hu2⟩) hx
      ·cases hx
     ·cases hx
    ·cases hx
   ·cases hx
  ·rename_i hc;exact op_minmax (mn:=true) H hk ho hc hx
  ·rename_i hc;exact op_minmax (mn:=false) H hk ho hc hx
  ·cases hx
 | panic x=>simp only [xop,ho] at hx;exact op_panic H hkp ho hx
 | makeMap t r=>simp only [xop,ho] at hx;exact op_makeMap H hk ho hx
 | lookup t x ix b=>simp only [xop,ho] at hx;exact op_lookup H hk ho hx
 | mapUpdate t m ix x=>simp only [xop,ho] at hx;exact op_update H hk (.inl ho) hx
 | insert t m ix x=>simp only [xop,ho] at hx;exact op_update H hk (.inr ho) hx
 | typeAssert x t ty b=>simp only [xop,ho] at hx;exact op_typeAssert H hk ho hx
 | _=>simp only [xop,ho] at hx;cases hx
theorem Sit.learn (H:Sit μ0 w0 μ lam env σ a w) {d:Nat} {b:Bool} (hd:a.tmps.getD d undef = .bool b):Sit μ0 w0 μ lam { env with tmps:=env.tmps.set d (.v (.bool b)) } σ a w:=by
 refine { H with size:=by simp [H.size],tmps:=fun i t hi=>?_,locs:=H.locs }
 by_cases he:d = i
 ·subst he
  have hlt:d < env.tmps.length:=by
   rcases Nat.lt_or_ge d env.tmps.length with h | h
   ·exact h
   ·rw [List.getElem?_eq_none (by simpa using h)] at hi;cases hi
  rw [List.getElem?_set_self hlt] at hi
  cases hi
  rw [hd];exact .v _ _ (.bool b)
 ·rw [List.getElem?_set_ne he] at hi;exact H.tmps i t hi
theorem Sit.slot (H:Sit μ0 w0 μ lam env σ a w) (d:Nat):TRel μ lam (env.tmps.getD d .no) (a.tmps.getD d undef):=H.get (.tmp d)
theorem yielded_bool {ops:Array Oper} {j d:Nat} {b:Bool} (hj:(ops[j]?).bind (·.dst) = some d) (h:a.tmps.getD d undef = .bool b):yielded ops a.tmps j = some b:=by
 unfold yielded
 rw [hj]
 simp only [Option.bind_some]
 rw [Array.getD_eq_getD_getElem?] at h
 cases ht:a.tmps[d]? with
 | none=>rw [ht] at h;simp [undef] at h
 | some v=>rw [ht] at h;simp at h;subst h;rfl
theorem yielded_tuple {ops:Array Oper} {j d:Nat} (hj:(ops[j]?).bind (·.dst) = some d) (h:a.tmps.getD d undef = .tuple #[]):yielded ops a.tmps j = none:=by
 unfold yielded
 rw [hj]
 simp only [Option.bind_some]
 rw [Array.getD_eq_getD_getElem?] at h
 cases ht:a.tmps[d]? with
 | none=>rfl
 | some v=>rw [ht] at h;simp at h;subst h;rfl
theorem xopD_sound {o:Oper} {next:Act → World → Prop} {k:TV → Env → St → Out} (hP:POk P) (hcall:CallOk P call) (H:Sit μ0 w0 μ lam env σ a w) (hk:∀ a,KOk μ0 w0 a o.dst next out k) (hkp:KpOk μ0 w0 Q out kp)
  (hx:xopD P lm call env σ o k kp = some out):o.wp P a w next Q:=by
 unfold xopD at hx
 split at hx
 ·rename_i c ho
  split at hx
  ·rename_i f hc
   have hf:=H.get f
   split at hx
   ·rename_i fid first captured heq
    rw [heq] at hf
    have hv:=hf.val
    generalize hfv:a.eval f = fv at hv
    split at hx
    ·rename_i args hargs
     have hav:=vals_sound hargs H
     cases hv with
     | func _ _ _ l' c' hl hcc=>
      have hall:VRels μ (first ++ args ++ captured) (l' ++ c.args.map a.eval ++ c').toList:=by
       simp only [Array.toList_append,Array.toList_map]
       exact (hl.append hav).append hcc
      have hrun:(execOp a.eval o).run P w = .ok (.defer { target:=.fn (.func fid) c',args:=l' ++ c.args.map a.eval }) w:=by
       simp [execOp,ho,resolve,hc,hfv,Deferred.ofValue]
      unfold Oper.wp
      rw [hrun]
      exact hk { a with defers:={ target:=.fn (.func fid) c',args:=l' ++ c.args.map a.eval } :: a.defers } .no { env with defs:=(fid,first ++ args ++ captured) :: env.defs } σ μ lam undef w
       ⟨H.r,H.ext,H.fr,H.size,H.tmps,H.locs,H.inj,H.ge,H.lamlt,.cons _ _ _ _ _ _ hall H.defers⟩ (.no _) hx
    ·cases hx
   ·cases hx
  ·cases hx
 ·exact xop_sound hP hcall H (hk a) hkp hx
theorem runOps_sound {ops:Array Oper} {k:Env → St → Out} (hP:POk P) (hcall:CallOk P call)
  (hk:∀ env σ μ lam a w,Sit μ0 w0 μ lam env σ a w → k env σ = some out → Q .normal a w) (hkp:KpOk μ0 w0 Q out kp) :
  ∀ (l:List Oper) (env:Env) (σ:St) (μ:Emb) (lam:Lam) (a:Act) (w:World),Sit μ0 w0 μ lam env σ a w → runOps P lm call ops k kp l env σ = some out → wpList P ops Q l a w:=by
 intro l
 induction l with
 | nil=>intro env σ μ lam a w H h;exact hk _ _ _ _ _ _ H h
 | cons o r ih=>
  intro env σ μ lam a w H h
  have exec (e:Env) (H:Sit μ0 w0 μ lam e σ a w) (h:xopD P lm call e σ o (fun t env' σ'=>runOps P lm call ops k kp r (env'.put o.dst t) σ') kp = some out):o.wp P a w (wpList P ops Q r) Q:=
   xopD_sound hP hcall H (fun a t env' σ' μ' lam' v w' H' ht hx=>ih _ _ _ _ _ _ (H'.put ht o.dst) hx) hkp h
  have skip (e:Env) (H:Sit μ0 w0 μ lam e σ a w) (h:runOps P lm call ops k kp r (e.put o.dst (.v (.tuple []))) σ = some out):wpList P ops Q r (a.put o.dst undef) w:=
   ih _ _ _ _ _ _ (H.put (.v _ _ (.tuple [] #[] .nil)) o.dst) h
  unfold runOps at h
  unfold wpList
  split at h
  ·rename_i hg
   rw [if_pos (by simp [Region.wanted,hg])]
   exact .inl (exec env H h)
  ·rename_i j want hg
   split at h
   ·rename_i d hd
    have hs:=H.slot d
    split at h
    ·rename_i b hb
     rw [hb] at hs
     have hv:=hs.val
     generalize hvv:a.tmps.getD d undef = v at hv
     cases hv
     have hy:=yielded_bool (ops:=ops) hd hvv
     have hwant:Region.wanted o (yielded ops a.tmps) = (b == want):=by
      simp only [Region.wanted,hg,hy]
      cases b <;> cases want <;> rfl
     rw [hwant]
     have HL:=H.learn hvv
     cases b <;> cases want <;> simp only [cond] at h
     ·exact .inl (exec _ HL h)
     ·exact skip _ HL h
     ·exact skip _ HL h
     ·exact .inl (exec _ HL h)
    ·rename_i hb
     rw [hb] at hs
     have hv:=hs.val
     generalize hvv:a.tmps.getD d undef = v at hv
     cases hv with
     | tuple _ cs' hcs=>
      have he:cs' = #[]:=by have:=hcs.length;simp at this;exact Array.eq_empty_of_size_eq_zero this.symm
      subst he
      have hy:=yielded_tuple (ops:=ops) hd hvv
      have hwant:Region.wanted o (yielded ops a.tmps) = false:=by simp only [Region.wanted,hg,hy];rfl
      rw [hwant]
      exact skip _ H h
    ·cases h
   ·cases h
mutual
theorem VRel.flat1 {μ μ':Emb}:∀ {x:AV} {v:Value},x.flat1 = true → VRel μ x v → VRel μ' x v
 | _,_,_,.bool b=>.bool b
 | _,_,_,.int k n=>.int k n
 | _,_,_,.str s=>.str s
 | _,_,_,.nptr=>.nptr
 | _,_,_,.nslice sz=>.nslice sz
 | _,_,_,.nmap=>.nmap
 | _,_,_,.nfunc=>.nfunc
 | _,_,_,.niface=>.niface
 | _,_,h,.ptr _ _ _ _=>by simp [AV.flat1] at h
 | _,_,h,.slice _ _ _ _ _ _ _ _ _ _ _ _ _ _=>by simp [AV.flat1] at h
 | _,_,h,.map _ _ _=>by simp [AV.flat1] at h
 | _,_,h,.func _ _ _ _ _ _ _=>by simp [AV.flat1] at h
 | _,_,h,.iface _ _ _ _=>by simp [AV.flat1] at h
 | _,_,h,.agg _ _ _=>by simp [AV.flat1] at h
 | _,_,h,.tuple _ _ _=>by simp [AV.flat1] at h
end
theorem VRels.flat {μ μ':Emb} {f:AV → Bool} (hf:∀ {x:AV} {v:Value},f x = true → VRel μ x v → VRel μ' x v):∀ {xs:List AV} {vs:List Value},xs.all f = true → VRels μ xs vs → VRels μ' xs vs
 | [],_,_,.nil=>.nil
 | x :: xs,_,h,.cons _ v _ vs hx hr=>by
  simp only [List.all_cons,Bool.and_eq_true] at h
  exact .cons _ _ _ _ (hf h.1 hx) (VRels.flat hf h.2 hr)
theorem VRel.flat2 {μ μ':Emb} {x:AV} {v:Value} (h:x.flat2 = true) (hr:VRel μ x v):VRel μ' x v:=by
 cases x with
 | agg cs=>cases hr with | agg _ cs' hc=>exact .agg _ _ (VRels.flat VRel.flat1 h hc)
 | _=>exact VRel.flat1 h hr
theorem VRel.flat {μ μ':Emb} {x:AV} {v:Value} (h:x.flat = true) (hr:VRel μ x v):VRel μ' x v:=by
 cases x with
 | tuple cs=>cases hr with | tuple _ cs' hc=>exact .tuple _ _ (VRels.flat VRel.flat2 h hc)
 | _=>exact VRel.flat2 h hr
theorem pure_sound {o:Oper} {next:Act → World → Prop} {k:TV → Env → St → Out} {c:Call} {f:FuncId} (hP:POk P) (hcall:CallOk P call) (H:Sit μ0 w0 μ lam env σ a w) (hk:KOk μ0 w0 a o.dst next out k) (ho:o.op = .call c) (hc:c.callee = .value (.func f))
  (hx:(match valsOf (c.args.toList.map env.get) with | some args=>pureK call f args σ fun v=>k (.v v) env σ | none=>none) = some out):o.wp P a w next Q:=by
 split at hx
 ·rename_i args hargs
  obtain ⟨g,p,v,σ',hs,hcl,hv,hal,hx⟩:=pureK_some hx
  have hav:=vals_sound hargs H
  obtain ⟨e,he,ob,hob1,hob2,hblk⟩:=H.r.obj 1 _ hs
  subst hblk
  let μk:Emb:=fun b=>if b < 2 then some ⟨e.blk,0,0,false⟩ else none
  have hR:R μk [.dead,.know e.blk p] w:=by
   refine ⟨fun b hb=>?_,fun b e' hb=>?_,fun b o' hb=>?_,fun b1 b2 o1 o2 e1 e2 _ _ he1 _ _ _ hw1 _=>?_⟩
   ·simp only [μk] at hb
    split at hb
    ·simpa using ‹b < 2›
    ·cases hb
   ·simp only [μk] at hb
    split at hb
    ·cases hb;exact H.r.lt 1 e he
    ·cases hb
   ·match b,hb with
    | 0,hb=>simp at hb;subst hb;exact ⟨_,rfl,trivial⟩
    | 1,hb=>simp at hb;subst hb;exact ⟨_,rfl,ob,hob1,hob2,rfl⟩
   ·simp only [μk] at he1
    split at he1
    ·cases he1;cases hw1
    ·cases he1
  have hrun:(execOp a.eval o).run P w = (callFunc f (c.args.map a.eval)).run P w:=by simp [execOp,ho,resolve,hc,Act.eval,Deferred.ofValue,invoke]
  have hargs':VRels μk args (c.args.map a.eval).toList:=VRels.flat VRel.flat hal (by rw [Array.toList_map];exact hav)
  have fin (w':World) (μ':Emb) (hF':Fr μk w w') (v':Value) (hrel:VRel μ' v v'):next (a.put o.dst v') w':=by
   have hno:∀ b e',μk b = some e' → e'.wr = true → False:=by
    intro b e' hb hw
    simp only [μk] at hb
    split at hb
    ·cases hb;cases hw
    ·cases hb
   have keep (q:Nat) (hq:q < w.heap.size):w'.heap[q]? = w.heap[q]?:=hF'.keep q hq fun b e' hb hw _=>hno b e' hb hw
   have hR2:R μ σ w':=⟨H.r.dom,fun b e' hm=>Nat.lt_of_lt_of_le (H.r.lt b e' hm) hF'.size,fun b o' hs'=>let ⟨e',he',ho'⟩:=H.r.obj b o' hs';⟨e',he',ho'.carry (keep _ (H.r.lt b e' he'))⟩,H.r.inj⟩
   exact hk _ _ _ _ _ _ _ (H.step hR2 (Ext.refl _ _) ⟨hF'.os,hF'.tape,hF'.output,hF'.size,fun q hq _=>keep q hq⟩) (.v _ _ (hrel.flat hv)) hx
  rcases hcall _ _ _ _ hcl with ⟨⟨fn,hfn,hb⟩,hcalls⟩ | ⟨_,hcalls⟩
  ·unfold Oper.wp
   rw [hrun,run_enter hP hfn hb]
   rw [Oper.upon_enter]
   refine (hcalls μk w (c.args.map a.eval) hR hargs').mono fun e2 w' ⟨μ',hR',hE',hF',v',he2,hrel⟩=>?_
   subst he2
   exact fin w' μ' hF' v' hrel
  ·obtain ⟨u,w',h1,μ',hR',hE',hF',v',he2,hrel⟩:=hcalls μk w (c.args.map a.eval) hR hargs'
   cases he2
   exact wp_value (hrun.trans h1) (fin w' μ' hF' _ hrel)
 ·cases hx
theorem xopQ_sound {o:Oper} {next:Act → World → Prop} {k:TV → Env → St → Out} {kp:AV → Env → St → Out} (hP:POk P) (hcall:CallOk P call) (H:Sit μ0 w0 μ lam env σ a w) (hk:KOk μ0 w0 a o.dst next out k) (hkp:KpOk μ0 w0 Q out kp)
  (hx:xopQ P lm call env σ o k kp = some out):o.wp P a w next Q:=by
 cases hp:pureOf P o with
 | none=>
  cases hin:insQ P o with
  | none=>rw [xopQ_none hin hp] at hx;exact xop_sound hP hcall H hk hkp hx
  | some b=>
   obtain ⟨t,m,x,kt,et,ho,hu,hkt⟩:=insQ_some hin
   refine xop_sound hP hcall H hk hkp (?_:xop P lm call env σ o k kp = some out)
   simp only [xopQ,hp,hin,ho] at hx
   split at hx
   ·rename_i r v hr hv
    simp only [insM,ho] at hr
    split at hr
    ·rename_i r' hm
     cases hr
     unfold insK at hx
     cases hf:freshB b σ[r]? with
     | false=>rw [hf] at hx;cases hx
     | true=>
      rw [hf] at hx
      simp only [cond_true] at hx
      unfold freshB at hf
      split at hf
      ·rename_i es hes
       have hs:scalarT P kt = true:=by unfold scalarT;rw [hkt]
       have hfind:∀ (l:List (AV × AV)) (i:Nat),(l.all fun e=>match e.1 with | .bool c=>c != b | _=>false) = true → mapFind P kt (.bool b) l i = some none:=by
        intro l
        induction l with
        | nil=>intro i _;rfl
        | cons e l ih=>
         intro i hl
         obtain ⟨y,u⟩:=e
         simp only [List.all_cons,Bool.and_eq_true] at hl
         obtain ⟨h1,h2⟩:=hl
         cases y <;> first | (cases h1;done) | skip
         rename_i c
         have he:eqIn P 100 kt (.bool b) (.bool c) = some false:=by
          unfold eqIn
          rw [hkt]
          have:(b == c) = false:=by simp at h1 ⊢;exact Ne.symm h1
          simp only [this]
         rw [mapFind,he]
         exact ih _ h2
       have hc:(Operand.const (.bool b):Operand) = .const (.bool b):=rfl
       have hgb:env.get (.const (.bool b)) = .v (.bool b):=rfl
       simp only [xop,ho,hu,hgb,hv,hm,updK,if_pos hs,hes,hfind es 0 hf]
       rw [modB_map hes] at hx
       exact hx
      ·cases hf
    ·cases hr
   ·cases hx
 | some f=>
  obtain ⟨c,ho,hc,_⟩:=pureOf_some hp
  simp only [xopQ,hp,ho] at hx
  exact pure_sound hP hcall H hk ho hc hx
theorem gop_sound {ops:Array Oper} {o:Oper} {i:Nat} {next:Act → World → Prop} {k:TV → Env → St → Out} (hP:POk P) (hcall:CallOk P call) (H:Sit μ0 w0 μ lam env σ a w) (ho:ops[i]? = some o) (hk:KOk μ0 w0 a o.dst next out k)
  (h:gop P lm call ops o env σ k = some out):wpOp P ops Q i next a w:=by
 have hkp:KpOk μ0 w0 Q out (fun _ _ _=>none):=fun x env σ μ lam a v w _ _ h=>by cases h
 unfold wpOp
 simp only [ho]
 unfold gop at h
 split at h
 ·rename_i hg
  rw [if_pos (by simp [Region.wanted,hg])]
  exact .inl (xopQ_sound hP hcall H hk hkp h)
 ·rename_i j want hg
  split at h
  ·rename_i d hd
   have hs:=H.slot d
   split at h
   ·rename_i b hb
    rw [hb] at hs
    have hv:=hs.val
    generalize hvv:a.tmps.getD d undef = v at hv
    cases hv
    have hy:=yielded_bool (ops:=ops) hd hvv
    split at h
    ·rename_i hw
     subst hw
     rw [if_pos (by simp [Region.wanted,hg,hy])]
     exact .inl (xopQ_sound hP hcall H hk hkp h)
    ·rename_i hw
     rw [if_neg (by simp [Region.wanted,hg,hy];exact hw)]
     exact hk _ _ _ _ _ _ _ H (.v _ _ (.tuple [] #[] .nil)) h
   ·rename_i hb
    rw [hb] at hs
    have hv:=hs.val
    generalize hvv:a.tmps.getD d undef = v at hv
    cases hv with
    | tuple _ cs' hcs=>
     have he:cs' = #[]:=by have:=hcs.length;simp at this;exact Array.eq_empty_of_size_eq_zero this.symm
     subst he
     have hy:=yielded_tuple (ops:=ops) hd hvv
     rw [if_neg (by simp [Region.wanted,hg,hy])]
     exact hk _ _ _ _ _ _ _ H (.v _ _ (.tuple [] #[] .nil)) h
   ·cases h
  ·cases h
theorem anc_listed {ops:Array Oper} (hb:edgesBack ops = true) {S:Nat → Prop} (hS:∀ (i:Nat) o,ops[i]? = some o → S i → ∀ e ∈ o.after.toList,Region.binds .any e = true → S e.on) :
  ∀ (i:Nat) (o:Oper),ops[i]? = some o → (∀ e ∈ o.after.toList,Region.binds .any e = true → S e.on) → ∀ j,((ancs ops).getD i 0).testBit j = true → S j:=by
 have hback:∀ (i:Nat) o,ops[i]? = some o → ∀ e ∈ o.after.toList,Region.binds .any e = true → e.on < i:=by
  intro i o ho e he hbe
  unfold edgesBack at hb
  rw [List.all_eq_true] at hb
  have hm:(o,i) ∈ ops.toList.zipIdx:=by
   rw [List.mk_mem_zipIdx_iff_getElem?,Array.getElem?_toList];exact ho
  have:=hb _ hm
  simp only [Array.all_eq_true'] at this
  have:=this e (by simpa using he)
  simp [hbe] at this
  exact this
 have fold_bit (acc:List Nat) (j:Nat):∀ (es:List Edge) (s:Nat),(es.foldl (fun s e=>if Region.binds .any e then s ||| (2 ^ e.on ||| acc.getD e.on 0) else s) s).testBit j = true →
   s.testBit j = true ∨ ∃ e ∈ es,Region.binds .any e = true ∧ (e.on = j ∨ (acc.getD e.on 0).testBit j = true):=by
  intro es
  induction es with
  | nil=>intro s h;exact .inl h
  | cons e es ih=>
   intro s h
   simp only [List.foldl_cons] at h
   rcases ih _ h with h | ⟨e',he',h1,h2⟩
   ·split at h
    ·rename_i hbe
     simp only [Nat.testBit_or,Bool.or_eq_true,Nat.testBit_two_pow,decide_eq_true_eq] at h
     rcases h with h | h | h
     ·exact .inl h
     ·exact .inr ⟨e,by simp,hbe,.inl h⟩
     ·exact .inr ⟨e,by simp,hbe,.inr h⟩
    ·exact .inl h
   ·exact .inr ⟨e',by simp [he'],h1,h2⟩
 -- the list of numbers,as it grows
 have go:∀ (r:List Oper) (acc:List Nat),(∀ (m:Nat) o,r[m]? = some o → ops[acc.length + m]? = some o) → (∀ (i:Nat) o,i < acc.length → ops[i]? = some o → (∀ e ∈ o.after.toList,Region.binds .any e = true → S e.on) → ∀ j,(acc.getD i 0).testBit j = true → S j) →
   ∀ (i:Nat) o,ops[i]? = some o → i < acc.length + r.length → (∀ e ∈ o.after.toList,Region.binds .any e = true → S e.on) → ∀ j,((ancGo r acc).getD i 0).testBit j = true → S j:=by
  intro r
  induction r with
  | nil=>intro acc _ hacc i o ho hi he j hj;exact hacc i o (by simpa using hi) ho he j hj
  | cons o0 r ih=>
   intro acc hr hacc i o ho hi he j hj
   refine ih (acc ++ [ancOf acc o0]) (fun m o' hm=>?_) (fun i' o' hi' ho' he' j' hj'=>?_) i o ho (by simp at hi ⊢;omega) he j hj
   ·have:=hr (m + 1) o' (by simpa using hm)
    simpa [Nat.add_assoc,Nat.add_comm 1 m] using this
   ·by_cases hlt:i' < acc.length
    ·rw [List.getD_eq_getElem?_getD,List.getElem?_append_left hlt,← List.getD_eq_getElem?_getD] at hj'
     exact hacc i' o' hlt ho' he' j' hj'
    ·have hie:i' = acc.length:=by simp at hi';omega
     subst hie
     have h0:=hr 0 o0 (by simp)
     rw [Nat.add_zero] at h0
     rw [h0] at ho';cases ho'
     rw [List.getD_eq_getElem?_getD,List.getElem?_append_right (Nat.le_refl _)] at hj'
     simp at hj'
     unfold ancOf at hj'
     rcases fold_bit acc j' _ _ hj' with h | ⟨e,hem,hbe,h⟩
     ·simp at h
     ·rcases h with h | h
      ·rw [← h];exact he' e hem hbe
      ·have hlt2:=hback _ _ h0 e hem hbe
       have hSe:=he' e hem hbe
       have hex:∃ oe,ops[e.on]? = some oe:=by
        have hl:acc.length < ops.size:=(Array.getElem?_eq_some_iff.1 h0).1
        exact ⟨ops[e.on]'(by omega),by simp [show e.on < ops.size by omega]⟩
       obtain ⟨oe,hoe⟩:=hex
       exact hacc e.on oe hlt2 hoe (hS e.on oe hoe hSe) j' h
 intro i o ho he j hj
 have hlt:i < ops.size:=(Array.getElem?_eq_some_iff.1 ho).1
 exact go ops.toList [] (fun m o hm=>by simpa using hm) (fun i o hi=>by simp at hi) i o ho (by simpa using hlt) he j hj
theorem DR.news {ops:Array Oper} {k:Env → St → Out}:∀ {L:List (Nat × Oper × Cls)} {e:Env} {σ:St},DR P lm call ops k out L e σ → ∀ x ∈ L,∀ d ∈ newKey lm x.2.1,d ∈ x.2.2.keys ∧ x.2.2.w = true
 | _,_,_,.nil _ _ _,x,hx=>by simp at hx
 | _,_,_,.cons i o c r e σ t δ h hr,x,hx=>by
  rcases List.mem_cons.1 hx with rfl | hx
  ·exact h.2.2.1
  ·exact DR.news hr x hx
theorem Sit.drawn (H:Sit μ0 w0 μ lam env σ a w):Sit μ0 w0 μ lam env σ a { w with drawn:=w.drawn + 1 }:=
 H.step ⟨H.r.dom,H.r.lt,H.r.obj,H.r.inj⟩ (Ext.refl _ _) ⟨rfl,rfl,rfl,Nat.le_refl _,fun _ _ _=>rfl⟩
open Classical in
theorem any_sound {ops:Array Oper} {k:Env → St → Out} (hP:POk P) (hcall:CallOk P call) (hb:edgesBack ops = true)
  (hk:∀ env σ μ lam a w,Sit μ0 w0 μ lam env σ a w → k env σ = some out → Q .normal a w) :
  ∀ (fuel:Nat) (listed:Array Bool) (L:List (Nat × Oper × Cls)) (env:Env) (σ:St) (μ:Emb) (lam:Lam) (a:Act) (w:World),listed.size = ops.size → L.length = fuel → Sit μ0 w0 μ lam env σ a w → DR P lm call ops k out L env σ →
   List.Pairwise (Good ops (ancs ops) lm) L → NewFree lm L env → (∀ x ∈ L,ops[x.1]? = some x.2.1) → (∀ i,i < ops.size → (listed.getD i false = false ↔ i ∈ L.map (·.1))) → (L.map (·.1)).Pairwise (· < ·) →
   (∀ (i:Nat) o,ops[i]? = some o → listed.getD i false = true → ∀ e ∈ o.after.toList,Region.binds .any e = true → listed.getD e.on false = true) → wpAny P .any ops Q fuel listed a w:=by
 have hback:∀ (i:Nat) o,ops[i]? = some o → ∀ e ∈ o.after.toList,Region.binds .any e = true → e.on < i:=by
  intro i o ho e he hbe
  unfold edgesBack at hb
  rw [List.all_eq_true] at hb
  have hm:(o,i) ∈ ops.toList.zipIdx:=by
   rw [List.mk_mem_zipIdx_iff_getElem?,Array.getElem?_toList];exact ho
  have:=hb _ hm
  simp only [Array.all_eq_true'] at this
  have:=this e (by simpa using he)
  simp [hbe] at this
  exact this
 have ready_iff (listed:Array Bool) (hsz:listed.size = ops.size) (i:Nat):i ∈ Region.ready .any ops listed → i < ops.size ∧ listed.getD i false = false ∧ ∀ o,ops[i]? = some o → ∀ e ∈ o.after.toList,Region.binds .any e = true → listed.getD e.on false = true:=by
  intro hi
  unfold Region.ready at hi
  simp only [List.mem_filter,List.mem_range,Bool.and_eq_true,Bool.not_eq_true'] at hi
  obtain ⟨h1,h2,h3⟩:=hi
  refine ⟨h1,?_,fun o ho e he hbe=>?_⟩
  ·have hl:i < listed.size:=by omega
   simp [Array.getD,hl] at h2 ⊢;exact h2
  ·rw [ho] at h3
   simp only [Option.map_some,Option.getD_some,Array.all_eq_true'] at h3
   have:=h3 e (by simpa using he)
   simpa [hbe] using this
 have first_ready (listed:Array Bool) (hsz:listed.size = ops.size) (x:Nat × Oper × Cls) (L:List (Nat × Oper × Cls)) (hops:ops[x.1]? = some x.2.1) (hl:∀ i,i < ops.size → (listed.getD i false = false ↔ i ∈ (x :: L).map (·.1))) (hs:((x :: L).map (·.1)).Pairwise (· < ·)):x.1 ∈ Region.ready .any ops listed:=by
  have hlt:x.1 < ops.size:=(Array.getElem?_eq_some_iff.1 hops).1
  unfold Region.ready
  simp only [List.mem_filter,List.mem_range,Bool.and_eq_true,Bool.not_eq_true']
  have h0:=(hl x.1 hlt).2 (by simp)
  refine ⟨hlt,?_,?_⟩
  ·have hl':x.1 < listed.size:=by omega
   simp [Array.getD,hl'] at h0 ⊢;exact h0
  ·rw [hops]
   simp only [Option.map_some,Option.getD_some,Array.all_eq_true']
   intro e he
   cases hbe:Region.binds .any e with
   | false=>rfl
   | true=>
    have hlt2:=hback _ _ hops e (by simpa using he) hbe
    simp only [Bool.not_true,Bool.false_or]
    cases hle:listed.getD e.on false with
    | true=>rfl
    | false=>
     have:=(hl e.on (by omega)).1 hle
     simp only [List.map_cons,List.mem_cons] at this
     simp only [List.map_cons,List.pairwise_cons] at hs
     rcases this with h | h
     ·omega
     ·have:=hs.1 _ h;omega
 intro fuel
 induction fuel with
 | zero=>
  intro listed L env σ μ lam a w hsz hlen H hD _ _ _ hl _ _
  have hL:L = []:=List.eq_nil_of_length_eq_zero hlen
  subst hL
  cases hD with
  | nil _ _ hke=>
   refine ⟨?_,hk _ _ _ _ _ _ H hke⟩
   rw [List.eq_nil_iff_forall_not_mem]
   intro i hi
   obtain ⟨h1,h2,_⟩:=ready_iff listed hsz i hi
   have:=(hl i h1).1 h2
   simp at this
 | succ fuel ih=>
  intro listed L env σ μ lam a w hsz hlen H hD hpw hnf hops hl hs hdown
  refine ⟨fun hr=>?_,fun i hi=>?_⟩
  ·exfalso
   cases L with
   | nil=>cases hlen
   | cons x L=>
    have:=first_ready listed hsz x L (hops x (by simp)) hl hs
    rw [hr] at this;simp at this
  ·obtain ⟨h1,h2,h3⟩:=ready_iff listed hsz i hi
   obtain ⟨z,hz,hzi⟩:=List.mem_map.1 ((hl i h1).1 h2)
   obtain ⟨p,q,hpq⟩:=List.append_of_mem hz
   subst hpq
   have hzo:=hops z hz
   rw [hzi] at hzo
   have hlisted_of:∀ x ∈ p,((ancs ops).getD z.1 0).testBit x.1 = false:=by
    intro x hx
    cases hbit:((ancs ops).getD z.1 0).testBit x.1 with
    | false=>rfl
    | true=>
     exfalso
     have:=anc_listed hb (S:=fun j=>listed.getD j false = true) hdown i z.2.1 hzo (h3 z.2.1 hzo) x.1 (by rw [← hzi];exact hbit)
     have hxl:x.1 < ops.size:=(Array.getElem?_eq_some_iff.1 (hops x (by simp [hx]))).1
     have:=(hl x.1 hxl).2 (List.mem_map.2 ⟨x,by simp [hx],rfl⟩)
     simp_all
   obtain ⟨t,δ,hu,hrest⟩:=DR.front p q env σ hD hpw hnf hlisted_of
   have hsub:(p ++ q).Sublist (p ++ z :: q):=List.Sublist.append (List.Sublist.refl p) (List.sublist_cons_self z q)
   refine gop_sound (out:=out) (lm:=lm) (call:=call) (o:=z.2.1) (k:=fun t' e' σ'=>if t' = t ∧ e' = δ.env env ∧ σ' = δ.st σ then some out else none) hP hcall H hzo ?_ ?_
   ·intro t' e' σ' μ' lam' v w' H' ht' hx'
    dsimp only at hx'
    split at hx'
    ·rename_i heq
     obtain ⟨rfl,rfl,rfl⟩:=heq
     have hfz:∀ d ∈ newKey lm z.2.1,∀ t ∈ env.tmps,d ∉ keyOf t:=fun d hd t ht=>hnf z (by simp) d hd t ht
     have hNF:NewFree lm (p ++ q) ((δ.env env).put z.2.1.dst t'):=by
      intro y hy d hd u hu2
      rw [put_tmps,Delta.tmps_id hu.2.1 hfz] at hu2
      have hold:∀ u ∈ env.tmps,d ∉ keyOf u:=fun u hu=>hnf y (hsub.subset hy) d hd u hu
      split at hu2
      ·rcases List.mem_or_eq_of_mem_set hu2 with hu3 | hu3
       ·exact hold u hu3
       ·subst hu3
        intro hkk
        have hkz:=hu.1 d hkk
        rcases List.mem_append.1 hy with hy | hy
        ·-- ahead of it in the text: they leave each other alone
         have hg:=(List.pairwise_append.1 hpw).2.2 y hy z (by simp)
         rcases hg.1 with h | ⟨_,hcf⟩
         ·rw [hlisted_of y hy] at h;cases h
         ·have hny:=DR.news hD y (by simp [hy]) d hd
          have:=(hcf.key _ hny.1 hkz).1
          rw [hny.2] at this;cases this
        ·have hg:=(List.pairwise_cons.1 (List.pairwise_append.1 hpw).2.1).1 y hy
         exact hg.2 d hd hkz
      ·exact hold u hu2
     refine ih (listed.setIfInBounds i true) (p ++ q) _ _ μ' lam' _ w' (by simpa using hsz) (by simp at hlen ⊢;omega) (H'.put ht' z.2.1.dst) hrest (hpw.sublist hsub) hNF (fun x hx=>hops x (hsub.subset hx)) ?_ ?_ ?_
     ·intro j hj
      have hnd:i ∉ (p ++ q).map (·.1):=by
       intro hm
       rw [List.map_append,List.map_cons] at hs
       obtain ⟨h4,h5,h6⟩:=List.pairwise_append.1 hs
       rw [List.map_append] at hm
       rcases List.mem_append.1 hm with hm | hm
       ·have:=h6 i hm z.1 (by simp);omega
       ·have:=(List.pairwise_cons.1 h5).1 i hm;omega
      by_cases hji:j = i
      ·subst hji
       refine ⟨fun h=>?_,fun h=>absurd h hnd⟩
       have hlt:j < listed.size:=by omega
       simp [Array.getD,hlt] at h
      ·have hsame:(listed.setIfInBounds i true).getD j false = listed.getD j false:=by
        simp [Array.getD_eq_getD_getElem?,Array.getElem?_setIfInBounds_ne (Ne.symm hji)]
       rw [hsame,hl j hj]
       simp only [List.map_append,List.map_cons,List.mem_append,List.mem_cons,hzi,hji,false_or]
     ·exact hs.sublist (hsub.map _)
     ·intro j o hjo hjl e he hbe
      have up (m:Nat) (hm:listed.getD m false = true):(listed.setIfInBounds i true).getD m false = true:=by
       by_cases hmi:m = i
       ·subst hmi;rw [h2] at hm;cases hm
       ·rw [Array.getD_eq_getD_getElem?,Array.getElem?_setIfInBounds_ne (Ne.symm hmi),← Array.getD_eq_getD_getElem?];exact hm
      by_cases hji:j = i
      ·subst hji;exact up _ (h3 o hjo e he hbe)
      ·rw [Array.getD_eq_getD_getElem?,Array.getElem?_setIfInBounds_ne (Ne.symm hji),← Array.getD_eq_getD_getElem?] at hjl
       exact up _ (hdown j o hjo hjl e he hbe)
    ·cases hx'
   ·have:=hu.2.2.2.1 env σ (Agree.refl _ _ _ _) (fun t' e' σ'=>if t' = t ∧ e' = δ.env env ∧ σ' = δ.st σ then some out else none)
    rw [this]
    simp
def X.to:X → Exit
 | .normal=>.normal
 | .exit id=>.exit id
 | .ret=>.ret
theorem cleanT_get (live:Nat):∀ (l:List TV) (i j:Nat) (t:TV),(cleanT live i l)[j]? = some t → t = .no ∨ l[j]? = some t
 | [],_,_,_,h=>by simp [cleanT] at h
 | x :: r,i,0,t,h=>by
  simp [cleanT] at h
  split at h
  ·subst h;right;simp
  ·subst h;exact .inl rfl
 | x :: r,i,j + 1,t,h=>by
  simp [cleanT] at h
  simpa using cleanT_get live r (i + 1) j t h
theorem cleanT_length (live:Nat):∀ (l:List TV) (i:Nat),(cleanT live i l).length = l.length
 | [],_=>rfl
 | _ :: r,i=>by simp [cleanT,cleanT_length live r]
theorem cleanL_look (live:Nat → Bool):∀ (l:Locs) (j:Nat) (cs:List AV),lookL (cleanL live l) j = some cs → lookL l j = some cs
 | [],_,_,h=>by simp [cleanL,lookL] at h
 | (k,c) :: r,j,cs,h=>by
  unfold cleanL at h
  unfold lookL
  split at h
  ·unfold lookL at h
   split at h
   ·rename_i hk;rw [if_pos hk];exact h
   ·rename_i hk;rw [if_neg hk];exact cleanL_look live r j cs h
  ·rename_i hb
   split
   ·rename_i hk
    subst hk
    exfalso
    have:∀ (l:Locs),lookL (cleanL live l) k = none:=by
     intro l
     induction l with
     | nil=>rfl
     | cons p r ih=>
      obtain ⟨k',c'⟩:=p
      unfold cleanL
      split
      ·rename_i hb'
       unfold lookL
       rw [if_neg (fun e=>hb (by rw [← e];exact hb'))];exact ih
      ·exact ih
    rw [this] at h;cases h
   ·exact cleanL_look live r j cs h
theorem Sit.clean (H:Sit μ0 w0 μ lam env σ a w) (live:Nat):Sit μ0 w0 μ lam (env.clean live) σ a w:=by
 refine { H with size:=by simp [Env.clean,cleanT_length,H.size],tmps:=fun i t hi=>?_,locs:=fun k cs hk=>H.locs k cs (cleanL_look _ _ _ _ hk) }
 rcases cleanT_get live _ _ _ _ hi with rfl | h
 ·exact .no _
 ·exact H.tmps i t h
theorem Sit.know (H:Sit μ0 w0 μ lam env σ a w) {c:Operand} {b:Bool} (h:a.eval c = .bool b):Sit μ0 w0 μ lam (env.know c b) σ a w:=by
 cases c with
 | tmp t=>exact H.learn h
 | _=>exact H
theorem run_sound {n:Nat} (hP:POk P) (hcall:CallOk P call) :
  ∀ (c:Code) (live:Nat) (k:X → Env → St → Out) (Q:Exit → Act → World → Prop) (env:Env) (σ:St) (μ:Emb) (lam:Lam) (a:Act) (w:World),Sit μ0 w0 μ lam env σ a w →
   (∀ x env σ μ lam a w,Sit μ0 w0 μ lam env σ a w → k x env σ = some out → Q x.to a w) → KpOk μ0 w0 Q out kp →
   run P lm call n kp c live k env σ = some out → c.wp P Q a w:=by
 intro c
 induction c with
 | skip=>intro live k Q env σ μ lam a w H hk _ h;exact wp_skip (hk .normal _ _ _ _ _ _ H h)
 | region id ops draw=>
  intro live k Q env σ μ lam a w H hk hkp h
  unfold run at h
  cases draw with
  | true=>
   simp only [cond] at h
   split at h
   ·rename_i hc
    simp only [Bool.and_eq_true] at hc
    obtain ⟨L,hD,hm,hpw,_⟩:=runDr_DR ops.toList 0 [] env σ h (fun x hx=>by simp at hx) (fun x hx=>by simp at hx)
    have hmem:∀ x ∈ L,ops[x.1]? = some x.2.1:=by
     intro x hx
     have h1:(x.1,x.2.1) ∈ (ops.toList.zipIdx 0).map (fun x=>(x.2,x.1)):=by rw [← hm];exact List.mem_map.2 ⟨x,hx,rfl⟩
     obtain ⟨z,hz,he⟩:=List.mem_map.1 h1
     have hz2:ops.toList[z.2]? = some z.1:=by have:=List.mk_mem_zipIdx_iff_getElem?.1 hz;simpa using this
     have e1:z.2 = x.1:=by simpa using congrArg Prod.fst he
     have e2:z.1 = x.2.1:=by simpa using congrArg Prod.snd he
     rw [e1,e2,Array.getElem?_toList] at hz2
     exact hz2
    have hidx:L.map (·.1) = List.range ops.size:=by
     have h1:(L.map (fun x=>(x.1,x.2.1))).map (·.1) = ((ops.toList.zipIdx 0).map (fun x=>(x.2,x.1))).map (·.1):=by rw [hm]
     simp only [List.map_map] at h1
     have h2:(ops.toList.zipIdx 0).map (fun x=>x.2) = List.range' 0 ops.toList.length:=by simp
     have h3:L.map (·.1) = (ops.toList.zipIdx 0).map (fun x=>x.2):=h1
     rw [h3,h2,List.range_eq_range'];simp
    refine wp_region_any hP.mixed (any_sound hP hcall hc.2 (fun env σ μ lam a w H hx=>hk .normal _ _ _ _ _ _ H hx) ops.size _ L env σ μ lam a _ (by simp) ?_ H.drawn hD hpw ?_ hmem ?_ ?_ ?_)
    ·have:=congrArg List.length hidx;simpa using this
    ·intro x hx d hd t ht
     have hxo:=hmem x hx
     have hf:=hc.1
     unfold newFree at hf
     rw [List.all_eq_true] at hf
     have h1:=hf x.2.1 (by rw [← Array.getElem?_toList] at hxo;exact List.mem_of_getElem? hxo)
     rw [List.all_eq_true] at h1
     have h2:=h1 d hd
     rw [List.all_eq_true] at h2
     have h3:=h2 t ht
     simp at h3
     exact h3
    ·intro i hi
     rw [hidx]
     simp [Array.getD,hi]
    ·rw [hidx];exact List.pairwise_lt_range
    ·intro i o hio hl
     exfalso
     rw [Array.getD_eq_getD_getElem?] at hl
     cases hg:(Array.replicate ops.size false)[i]? with
     | none=>rw [hg] at hl;cases hl
     | some b=>
      rw [hg] at hl
      have:=Array.mem_of_getElem? hg
      simp at this
      simp [this.2] at hl
   ·cases h
  | false=>
   simp only [cond] at h
   exact wp_region_list (runOps_sound hP hcall (fun env σ μ lam a w H hx=>hk .normal _ _ _ _ _ _ H hx) hkp _ _ _ _ _ _ _ H h)
 | seq x y ihx ihy=>
  intro live k Q env σ μ lam a w H hk hkp h
  unfold run at h
  refine wp_seq (ihx _ _ (Exit.then (y.wp P Q) Q) env σ μ lam a w H ?_ ?_ h)
  ·intro x' env' σ' μ' lam' a' w' H' hx
   cases x' with
   | normal=>exact ihy _ _ Q _ σ' μ' lam' a' w' (by cases joins x;exact H';exact H'.clean _) hk hkp hx
   | exit id=>exact hk (.exit id) _ _ _ _ _ _ H' hx
   | ret=>exact hk .ret _ _ _ _ _ _ H' hx
  ·intro x' env' σ' μ' lam' a' v w' h1 h2 h3
   exact hkp x' env' σ' μ' lam' a' v w' h1 h2 h3
 | cond c x y ihx ihy=>
  intro live k Q env σ μ lam a w H hk hkp h
  unfold run at h
  have hc:=H.get c
  split at h
  ·rename_i t ht
   rw [ht] at hc
   have hv:=hc.val
   generalize hvv:a.eval c = v at hv
   cases hv
   cases t
   ·exact wp_cond_false hvv (ihy _ _ Q _ _ _ _ _ _ (H.know hvv) hk hkp h)
   ·exact wp_cond_true hvv (ihx _ _ Q _ _ _ _ _ _ (H.know hvv) hk hkp h)
  ·cases h
 | block id b ih=>
  intro live k Q env σ μ lam a w H hk hkp h
  unfold run at h
  refine wp_block (ih _ _ (Exit.inBlock id Q) env σ μ lam a w H ?_ ?_ h)
  ·intro x' env' σ' μ' lam' a' w' H' hx
   cases x' with
   | normal=>exact hk .normal _ _ _ _ _ _ H' hx
   | ret=>exact hk .ret _ _ _ _ _ _ H' hx
   | exit j=>
    show Exit.inBlock id Q (.exit j) a' w'
    simp only [Exit.inBlock]
    dsimp only at hx
    split at hx
    ·rename_i hj;rw [if_pos hj];exact hk .normal _ _ _ _ _ _ (H'.clean _) hx
    ·rename_i hj;rw [if_neg hj];exact hk (.exit j) _ _ _ _ _ _ H' hx
  ·intro x' env' σ' μ' lam' a' v w' h1 h2 h3
   exact hkp x' env' σ' μ' lam' a' v w' h1 h2 h3
 | loop b ih=>
  intro live k Q env σ μ lam a w H hk hkp h
  unfold run at h
  refine wp_loop_rounds n ?_
  clear hP
  generalize hn:n = m at h
  have key:∀ m env σ μ lam a w,Sit μ0 w0 μ lam env σ a w → loopK (live ||| liveIn b) (fun k env σ=>run P lm call n kp b (live ||| liveIn b) k env σ) k m env σ = some out → Code.rounds P b Q m a w:=by
   intro m
   induction m with
   | zero=>intro env σ μ lam a w H h;cases h
   | succ m ihm=>
    intro env σ μ lam a w H h
    unfold loopK at h
    refine ih _ _ (Exit.then (Code.rounds P b Q m) Q) _ _ _ _ _ _ H ?_ ?_ h
    ·intro x' env' σ' μ' lam' a' w' H' hx
     cases x' with
     | normal=>exact ihm _ _ _ _ _ _ (H'.clean _) hx
     | exit id=>exact hk (.exit id) _ _ _ _ _ _ H' hx
     | ret=>exact hk .ret _ _ _ _ _ _ H' hx
    ·intro x' env' σ' μ' lam' a' v w' h1 h2 h3
     exact hkp x' env' σ' μ' lam' a' v w' h1 h2 h3
  subst hn
  exact key n _ σ μ lam a w (H.clean _) h
 | exit id=>intro live k Q env σ μ lam a w H hk _ h;exact wp_exit (hk (.exit id) _ _ _ _ _ _ H h)
 | ret=>intro live k Q env σ μ lam a w H hk _ h;exact wp_ret (hk .ret _ _ _ _ _ _ H h)
 | _=>intros;rename_i h;simp [run] at h
theorem resK_sound:∀ (l:List ResultVar) (kr:List AV → Out),Sit μ0 w0 μ lam env σ a w → resK P env σ l kr = some out →
  ∃ xs vs,(l.mapM (m:=Sem) fun
   | .tmp t=>pure (a.tmps.getD t undef)
   | .cell ad t=>do loadVar t (← asAddr (a.tmps.getD ad undef))).run P w = .ok vs w ∧ VRels μ xs vs ∧ kr xs = some out
 | [],kr,_,h=>⟨[],[],rfl,.nil,h⟩
 | .tmp t :: r,kr,H,h=>by
  unfold resK at h
  split at h
  ·rename_i x hx
   obtain ⟨xs,vs,h1,h2,h3⟩:=resK_sound r _ H h
   have hs:=H.slot t
   rw [hx] at hs
   exact ⟨x :: xs,_ :: vs,by simp only [List.mapM_cons,Sem.run_bind,Sem.run_pure,Result.andThen_ok,h1],.cons _ _ _ _ hs.val h2,h3⟩
  ·cases h
 | .cell t ty :: r,kr,H,h=>by
  unfold resK at h
  have hs:=H.slot t
  obtain ⟨y,u,hu,hr,hky⟩:=load_sound H hs h
  obtain ⟨xs,vs,h1,h2,h3⟩:=resK_sound r _ H hky
  refine ⟨y :: xs,u :: vs,?_,.cons _ _ _ _ hr h2,h3⟩
  have hu2:(do loadVar ty (← asAddr (a.tmps.getD t undef)):Sem Value).run P w = .ok u w:=by
   generalize hg:a.tmps.getD t undef = v at hu hs
   cases v with
   | pointer ad=>
    cases ad with
    | some ad=>simpa [Instr.loadAt,Instr.sureAddr,asAddr] using hu
    | none=>simp [Instr.loadAt,Instr.sureAddr] at hu
   | _=>simp [Instr.loadAt,Instr.sureAddr] at hu
  simp only [List.mapM_cons,Sem.run_bind,Sem.run_pure,Result.andThen_ok,h1]
  simp only [Sem.run_bind] at hu2
  rw [hu2]
  simp only [Result.andThen_ok,h1]
theorem ret_sound {fn:Func} (H:Sit μ0 w0 μ lam env σ a w) (hx:retK P fn.results.toList env σ = some out) :
  ∃ v,(results fn a.tmps).run P w = .ok v w ∧ EndR μ0 w0 out (.returned v) w:=by
 unfold retK at hx
 obtain ⟨xs,vs,h1,h2,h3⟩:=resK_sound fn.results.toList _ H hx
 have hm:(fn.results.mapM (m:=Sem) fun
   | .tmp t=>pure (a.tmps.getD t undef)
   | .cell ad t=>do loadVar t (← asAddr (a.tmps.getD ad undef))).run P w = .ok vs.toArray w:=by
  rw [← Array.toArray_toList (xs:=fn.results),List.mapM_toArray]
  simp only [Sem.run_map]
  rw [h1];rfl
 refine ⟨if h:vs.toArray.size = 1 then vs.toArray[0] else .tuple vs.toArray,?_,μ,?_⟩
 ·unfold results
  simp only [Sem.run_bind]
  refine (congrArg (fun q:Result (Array Value)=>q.andThen fun vs w'=>Sem.run P (pure (if h:vs.size = 1 then vs[0] else .tuple vs)) w') hm).trans ?_
  rfl
 ·have hlen:=h2.length
  split at h3
  ·cases h3
   cases h2 with
   | cons _ v _ vs' hv hr=>
    cases hr
    exact ⟨H.r,H.ext,H.fr,_,rfl,by simpa using hv⟩
  ·rename_i l hne
   cases h3
   have h1':¬ vs.toArray.size = 1:=by
    intro hs
    simp at hs
    rw [hs] at hlen
    cases xs with
    | nil=>cases hlen
    | cons y r=>
     cases r with
     | nil=>exact hne y rfl
     | cons _ _=>simp at hlen
   rw [dif_neg h1']
   exact ⟨H.r,H.ext,H.fr,_,rfl,.tuple _ _ (by simpa using h2)⟩
def URel (μ:Emb):Option AV → FrameMode → Prop
 | none,m=>m = .returning
 | some x,m=>∃ v,m = .panicking [{ v,recovered:=false }] ∧ VRel μ x v
theorem URel.mono {μ μ':Emb} (hm:μ.le μ'):∀ {u:Option AV} {m:FrameMode},URel μ u m → URel μ' u m
 | none,_,h=>h
 | some _,_,⟨v,h,k⟩=>⟨v,h,k.mono hm⟩
theorem URel.settle {μ:Emb}:∀ {u:Option AV} {m:FrameMode},URel μ u m → Go.settle m = m
 | none,_,h=>by cases h;rfl
 | some _,_,⟨v,h,_⟩=>by subst h;rfl
theorem URel.run {μ:Emb}:∀ {u:Option AV} {m:FrameMode},URel μ u m → m ≠ .run
 | none,_,h=>by cases h;simp
 | some _,_,⟨v,h,_⟩=>by subst h;simp
def DOk (P:Program) (D:DCaller):Prop:=
 ∀ f args u σ u' σ',D f args u σ = some (u',σ') → (∃ fn,P.funcs[f]? = some fn ∧ fn.body.isSome = true) ∧ ∀ μ w (args':Array Value) m,R μ σ w → VRels μ args args'.toList → URel μ u m →
  CallsD P f args' m w fun e m' w'=>(∃ v,e = .returned v) ∧ ∃ μ',R μ' σ' w' ∧ Ext μ μ' w ∧ Fr μ w w' ∧ URel μ' u' (Go.settle m')
theorem leave_sound {D:DCaller} (hP:POk P) (hD:DOk P D) {fn:Func}:∀ (ds:Defs) (ds':List Deferred) (u:Option AV) (m:FrameMode) (σ:St) (μ:Emb) (w:World),Sit μ0 w0 μ lam env σ a w → DRel μ ds ds' → URel μ u m →
  leaveK P D fn.results.toList ds u env σ = some out → Leaves P fn a.tmps (EndR μ0 w0 out) ds' m w
 | [],_,none,_,σ,μ,w,H,.nil,hu,h=>by
  cases hu
  simp only [leaveK,lvK] at h
  exact ret_sound H h
 | [],_,some x,_,σ,μ,w,H,.nil,⟨v,hm,hv⟩,h=>by
  subst hm
  simp only [leaveK,lvK] at h
  cases h
  exact ⟨μ,H.r,H.ext,H.fr,v,rfl,hv⟩
 | (f,args) :: ds,_,u,m,σ,μ,w,H,.cons _ _ cap as _ ds' ha hr,hu,h=>by
  unfold leaveK dfK at h
  split at h
  ·rename_i u' σ' hd
   obtain ⟨⟨fn',hfn,hb⟩,hcl⟩:=hD _ _ _ _ _ _ hd
   refine leaves_cons hu.run (f:=f) (args:=as ++ cap) ?_ ((hcl μ w _ m H.r ha hu).mono fun e m' w' ⟨⟨v,he⟩,μ',hR,hE,hF,hu'⟩=>?_)
   ·have hn:=hP.call f fn' hfn hb
    have hb2:fn'.body.isNone = false:=by cases hbb:fn'.body <;> simp_all
    simp [invoke,callFunc,hfn,hn,hb2]
    intro h0;rw [h0] at hb;cases hb
   ·subst he
    exact leave_sound hP hD ds ds' u' _ σ' μ' w' (H.step hR hE hF) (hr.mono hE.le) hu' h
  ·cases h
theorem entry_sit {μ:Emb} {σ:St} {w:World} {fn:Func} {args:List AV} {args':Array Value} (hR:R μ σ w) (ha:VRels μ args args'.toList) :
  Sit μ w μ (fun _=>none) (entryE fn args) σ { tmps:=args' ++ Array.replicate (fn.ntmps - args'.size) undef,defers:=[] } w:=by
 have hl:=ha.length
 refine ⟨hR,Ext.refl _ _,Fr.refl _ _,(by simp [entryE] at hl ⊢;omega),fun i t hi=>?_,fun k cs hk=>(by simp [entryE,lookL] at hk),fun k k' blk hk=>(by cases hk),fun k blk hk=>(by cases hk),fun k blk hk=>(by cases hk),.nil⟩
 simp only [entryE] at hi
 by_cases hlt:i < args.length
 ·rw [List.getElem?_append_left (by simpa using hlt),List.getElem?_map] at hi
  cases hx:args[i]? with
  | none=>rw [hx] at hi;cases hi
  | some x=>
   rw [hx] at hi;cases hi
   obtain ⟨v,hv,hr⟩:=ha.get hx
   have hlt2:i < args'.size:=by simp at hl;omega
   rw [Array.getElem?_toList] at hv
   have:(args' ++ Array.replicate (fn.ntmps - args'.size) undef).getD i undef = v:=by
    rw [Array.getD_eq_getD_getElem?,Array.getElem?_append_left hlt2,hv];rfl
   simp only [this]
   exact .v _ _ hr
 ·rw [List.getElem?_append_right (by simpa using hlt)] at hi
  have:=List.mem_of_getElem? hi
  simp at this
  rw [this.2];exact .no _
end
theorem recOf_some {c:Code} {ops:Array Oper} {o:Oper} {r:List Oper} {b:Code} (h:recOf c = some (ops,o,r,b)) :
  ∃ id cl,c = .seq (.region id ops false) b ∧ ops.toList = o :: r ∧ o.op = .call cl ∧ cl.callee = .builtin .recover ∧ o.guard = none:=by
 unfold recOf at h
 split at h
 ·split at h
  ·rename_i hl
   split at h
   ·rename_i hop
    split at h
    ·rename_i hcl
     split at h
     ·rename_i hg
      cases h
      exact ⟨_,_,rfl,hl,hop,hcl,by simpa using hg⟩
     ·cases h
    ·cases h
   ·cases h
  ·cases h
 ·cases h
theorem wpOpsS_of_list {P:Program} {ops:Array Oper} {Q:Exit → Act → World → Prop} {QS:Exit → Act → List Frame → World → Prop} {cs:List Frame} (hno:¬ LetsOut Q) (hq:∀ e a w,Q e a w → QS e a cs w) :
  ∀ (l:List Oper) (i:Nat) (a:Act) (w:World),(∀ j,l[j]? = ops[i + j]?) → wpList P ops Q l a w → wpOpsS P ops QS (List.range' i l.length) a cs w:=by
 intro l
 induction l with
 | nil=>intro i a w _ h;exact hq _ _ _ h
 | cons o l ih=>
  intro i a w hl h
  have h0:ops[i]? = some o:=by simpa using (hl 0).symm
  have ih':=ih (i + 1)
  have hl':∀ j,l[j]? = ops[i + 1 + j]?:=fun j=>by have:=hl (j + 1);simpa [Nat.add_assoc,Nat.add_comm 1 j] using this
  simp only [List.length_cons,List.range'_succ,wpOpsS,h0]
  unfold wpList at h
  split
  ·rename_i hw
   rw [if_pos hw] at h
   rcases h with h | ⟨_,h⟩
   ·unfold Oper.wp at h
    generalize hr:(execOp a.eval o).run P w = r at h
    have conv:o.upon P a (fun a' w'=>wpOpsS P ops QS (List.range' (i + 1) l.length) a' cs w') (fun e a' w'=>QS e a' cs w') r ∧ ∀ w',r ≠ .ok .recover w':=by
     unfold Oper.upon at h
     split at h
     ·exact ⟨ih' _ _ hl' h,fun w' h=>by cases h⟩
     ·exact ⟨ih' _ _ hl' h,fun w' h=>by cases h⟩
     ·exact ⟨ih' _ _ hl' h,fun w' h=>by cases h⟩
     ·refine ⟨h.mono fun e w' he=>?_,fun w' h=>by cases h⟩
      cases e with
      | returned v=>exact ih' _ _ hl' he
      | panicked ch=>exact hq _ _ _ he
      | outgrown=>exact absurd he hno
     ·refine ⟨h.mono fun v w' he=>ih' _ _ hl' he,fun w' h=>by cases h⟩
     ·exact ⟨hq _ _ _ h,fun w' h=>by cases h⟩
     ·exact h.elim
    split
    ·exact absurd rfl (conv.2 _)
    ·exact conv.1
   ·exact absurd h hno
  ·rename_i hw
   rw [if_neg hw] at h
   exact ih' _ _ hl' h
theorem runD_sound {P:Program} {call:Caller} {n:Nat} (hP:POk P) (hcall:CallOk P call):DOk P (runD P call n):=by
 intro f args u σ u' σ' h
 unfold runD at h
 split at h
 ·rename_i fn hfn
  split at h
  ·rename_i c hc
   refine ⟨⟨fn,hfn,by simp [hc]⟩,fun μ w args' m hR ha hu=>?_⟩
   have hE0:=entry_sit (fn:=fn) hR ha
   have fin (out:Res × St) (x:X) (env':Env) (σ1:St) (μ1:Emb) (lam:Lam) (a1:Act) (w1:World) (H1:Sit μ w μ1 lam env' σ1 a1 w1)
     (hx:endD P fn.results.toList x env' σ1 = some out) (hout:∃ y,out = (.ret y,σ')) :
     bodyPost P fn (fun e w'=>(∃ v,e = .returned v) ∧ ∃ μ',R μ' σ' w' ∧ Ext μ μ' w ∧ Fr μ w w') x.to a1 w1:=by
    obtain ⟨y,rfl⟩:=hout
    have hd:=H1.defers
    unfold endD at hx
    have main (hx:(match env'.defs with | []=>retK P fn.results.toList env' σ1 | _=>none) = some (.ret y,σ')) :
      a1.defers = [] ∧ ∃ v,(results fn a1.tmps).run P w1 = .ok v w1 ∧ (∃ v',Ending.returned v = .returned v') ∧ ∃ μ',R μ' σ' w1 ∧ Ext μ μ' w ∧ Fr μ w w1:=by
     split at hx
     ·rename_i hds
      rw [hds] at hd
      cases hdd:a1.defers with
      | nil=>
       obtain ⟨v,hv,μ',h1,h2,h3,_⟩:=ret_sound H1 hx
       exact ⟨rfl,v,hv,⟨v,rfl⟩,μ',h1,h2,h3⟩
      | cons d ds=>rw [hdd] at hd;cases hd
     ·cases hx
    cases x with
    | normal=>exact main hx
    | ret=>exact main hx
    | exit id=>cases hx
   split at h
   ·rename_i ops o r b hrec
    obtain ⟨id,cl,rfl,hl,hop,hcl,hg⟩:=recOf_some hrec
    split at h
    ·rename_i y σ'' hrun
     cases h
     have hsz:ops.size = r.length + 1:=by rw [← Array.length_toList,hl];rfl
     have h0:ops[0]? = some o:=by rw [← Array.getElem?_toList,hl];rfl
     refine callsD_of_wpS hfn hc fun c₀ cs hm=>wpS_seq (wpS_region ?_)
     rw [List.range_eq_range',hsz,List.range'_succ]
     have hex:(execOp (Act.eval { tmps:=args' ++ Array.replicate (fn.ntmps - args'.size) undef,defers:=[] }) o).run P w = .ok .recover w:=by
      simp [execOp,hop,resolve,hcl,invoke,builtin]
     have go (v:Value) (m1:FrameMode) (hv:VRel μ (u.getD .nilIface) v) (hs:Go.settle m1 = .returning) :
       wpOpsS P ops (Exit.thenS (b.wpS P (bodyPostS P fn c₀ cs (fun e m' w'=>(∃ v,e = .returned v) ∧ ∃ μ',R μ' σ' w' ∧ Ext μ μ' w ∧ Fr μ w w' ∧ URel μ' none (Go.settle m')))) (bodyPostS P fn c₀ cs (fun e m' w'=>(∃ v,e = .returned v) ∧ ∃ μ',R μ' σ' w' ∧ Ext μ μ' w ∧ Fr μ w w' ∧ URel μ' none (Go.settle m'))))
        (List.range' 1 r.length) (Act.put { tmps:=args' ++ Array.replicate (fn.ntmps - args'.size) undef,defers:=[] } o.dst v) ({ c₀ with mode:=m1 } :: cs) w:=by
      have up (e:Exit) (a1:Act) (w1:World) (hb:bodyPost P fn (fun e w'=>(∃ v,e = .returned v) ∧ ∃ μ',R μ' σ' w' ∧ Ext μ μ' w ∧ Fr μ w w') e a1 w1) :
        bodyPostS P fn c₀ cs (fun e m' w'=>(∃ v,e = .returned v) ∧ ∃ μ',R μ' σ' w' ∧ Ext μ μ' w ∧ Fr μ w w' ∧ URel μ' none (Go.settle m')) e a1 ({ c₀ with mode:=m1 } :: cs) w1:=by
       cases e with
       | normal=>obtain ⟨hd,v,hr,hv,μ',h1,h2,h3⟩:=hb;exact ⟨hd,m1,rfl,v,hr,hv,μ',h1,h2,h3,hs⟩
       | ret=>obtain ⟨hd,v,hr,hv,μ',h1,h2,h3⟩:=hb;exact ⟨hd,m1,rfl,v,hr,hv,μ',h1,h2,h3,hs⟩
       | panic ch=>obtain ⟨hd,⟨v,hv⟩,_⟩:=hb;cases hv
       | outgrown=>obtain ⟨⟨v,hv⟩,_⟩:=hb;cases hv
       | _=>exact hb.elim
      refine wpOpsS_of_list (Q:=Exit.then (b.wp P (bodyPost P fn (fun e w'=>(∃ v,e = .returned v) ∧ ∃ μ',R μ' σ' w' ∧ Ext μ μ' w ∧ Fr μ w w'))) (bodyPost P fn (fun e w'=>(∃ v,e = .returned v) ∧ ∃ μ',R μ' σ' w' ∧ Ext μ μ' w ∧ Fr μ w w'))) ?_ ?_ r 1 _ w (fun j=>by rw [← Array.getElem?_toList,hl,Nat.add_comm 1 j];rfl) ?_
      ·rintro ⟨a1,w1,⟨v,hv⟩,_⟩;cases hv
      ·intro e a1 w1 hq
       cases e with
       | normal=>
        intro fr k hk hro
        obtain ⟨e,a',w',q,arr⟩:=hq fr k ({ c₀ with mode:=m1 } :: cs)
        exact ⟨e,a',_,w',up _ _ _ q,arr⟩
       | exit id=>exact up (.exit id) a1 w1 hq
       | goto l=>exact up (.goto l) a1 w1 hq
       | ret=>exact up .ret a1 w1 hq
       | panic ch=>exact up (.panic ch) a1 w1 hq
       | outgrown=>exact up .outgrown a1 w1 hq
      ·refine runOps_sound hP hcall (fun env1 σ1 μ1 lam1 a1 w1 H1 hx=>?_) (fun x env σ μ lam a v w _ _ h=>by cases h) r _ σ μ (fun _=>none) _ w (hE0.put (.v _ _ hv) o.dst) hrun
       exact run_sound hP hcall b _ _ _ _ _ _ _ _ _ H1 (fun x env σ μ lam a w H hx=>fin _ x env σ μ lam a w H hx ⟨y,rfl⟩) (fun x env σ μ lam a v w _ _ h=>by cases h) hx
     simp only [wpOpsS,h0]
     rw [if_pos (by simp [Region.wanted,hg])]
     simp only [hex]
     cases u with
     | none=>
      cases hu
      have hrd:recoverD (c₀ :: cs) = none:=by simp [recoverD,hm]
      simp only [hrd]
      have:=go .nilIface .returning .niface rfl
      rw [← hm] at this
      exact this
     | some x=>
      obtain ⟨v,rfl,hv⟩:=hu
      have hrd:recoverD (c₀ :: cs) = some (v,{ c₀ with mode:=.panicking [{ v,recovered:=true }] } :: cs):=by simp [recoverD,hm]
      simp only [hrd]
      exact go v _ hv rfl
    ·cases h
   ·split at h
    ·rename_i y σ'' hrun
     cases h
     refine (callsD_of_wp hfn hc (u:=m) (R:=fun e w'=>(∃ v,e = .returned v) ∧ ∃ μ',R μ' σ' w' ∧ Ext μ μ' w ∧ Fr μ w w') ?_).mono fun e m' w' ⟨hm,hv,μ',h1,h2,h3⟩=>⟨hv,μ',h1,h2,h3,?_⟩
     ·exact run_sound hP hcall c _ _ _ _ _ _ _ _ _ hE0 (fun x env σ μ lam a w H hx=>fin _ x env σ μ lam a w H hx ⟨y,rfl⟩) (fun x env σ μ lam a v w _ _ h=>by cases h) hrun
     ·subst hm;rw [hu.settle];exact hu.mono h2.le
    ·cases h
  ·cases h
 ·cases h
theorem callP_sound {P:Program} {B:Caller} (hP:POk P) (hB:CallOk P B):∀ n,CallOk P (callP P B n):=by
 intro n
 induction n with
 | zero=>intro f args σ out h;simp [callP] at h
 | succ n ih=>
  intro f args σ out h
  unfold callP at h
  cases hb:B f args σ with
  | some r=>rw [hb] at h;cases h;exact hB f args σ _ hb
  | none=>
  rw [hb] at h
  dsimp only at h
  split at h
  ·rename_i fn hfn
   split at h
   ·rename_i c hc
    refine .inl ⟨⟨fn,hfn,by simp [hc]⟩,fun μ w args' hR ha=>?_⟩
    refine calls_of_wp_defers hfn hc ?_
    refine run_sound (μ0:=μ) (w0:=w) hP ih c _ _ _ _ σ μ (fun _=>none) _ w (entry_sit hR ha) ?_ ?_ h
    ·intro x env σ' μ' lam a w' H hx
     cases x with
     | normal=>exact leave_sound hP (runD_sound hP ih) _ _ none _ _ _ _ H H.defers rfl hx
     | ret=>exact leave_sound hP (runD_sound hP ih) _ _ none _ _ _ _ H H.defers rfl hx
     | exit id=>cases hx
    ·intro x env σ' μ' lam a v w' H hv hx
     exact leave_sound hP (runD_sound hP ih) _ _ (some x) _ _ _ _ H H.defers ⟨v,rfl,hv⟩ hx
   ·cases h
  ·cases h
end Go.AM

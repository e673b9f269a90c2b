/- Each operation of the interpreter, held against the model's: building, reckoning, places, parts. -/
import Derived.Test.YtlbieeajocjpeaaGreatDoorAmOp1
import Derived.Laws.StructEq
set_option linter.unusedSimpArgs false
namespace Go.AM
open Go.RowKit
section
variable {P:Program} {μ0 μ:Emb} {w0 w:World} {lam:Lam} {env:Env} {σ:St} {a:Act} {o:Oper} {next:Act → World → Prop} {Q:Exit → Act → World → Prop} {out:Res × St} {k:TV → Env → St → Out} {kp:AV → Env → St → Out}
theorem VRels.setManyFold (μ:Emb):∀ (xs:List AV) (vs:List Value),VRels μ xs vs → ∀ (cs:List AV) (cs':Array Value) (off i:Nat),VRels μ cs cs'.toList →
  VRels μ (setMany cs (off + i) xs) ((vs.zipIdx i).foldl (fun (c:Array Value) (p:Value × Nat)=>c.setIfInBounds (off + p.2) p.1) cs').toList:=by
 intro xs
 induction xs with
 | nil=>intro vs h cs cs' off i hc;cases h;simpa [setMany] using hc
 | cons x xs ih=>
  intro vs h cs cs' off i hc
  cases h with
  | cons _ v _ vs hx hr=>
   simp only [setMany,List.zipIdx_cons,List.foldl_cons]
   have:=ih vs hr (cs.set (off + i) x) (cs'.setIfInBounds (off + i) v) off (i + 1) (by simpa using hc.set hx (off + i))
   simpa [Nat.add_assoc] using this
inductive PRel (μ:Emb) (lam:Lam):List (Nat × TV) → List (Nat × Value) → Prop
 | nil:PRel μ lam [] []
 | cons (i:Nat) (t:TV) (v:Value) (r:List (Nat × TV)) (r':List (Nat × Value)) (h:TRel μ lam t v) (hr:PRel μ lam r r'):PRel μ lam ((i,t) :: r) ((i,v) :: r')
theorem Sit.parts (H:Sit μ0 w0 μ lam env σ a w):∀ (l:List (Nat × Operand)),PRel μ lam (l.map fun p=>(p.1,env.get p.2)) (l.map fun p=>(p.1,a.eval p.2))
 | []=>.nil
 | (i,x) :: r=>.cons i _ _ _ _ (H.get x) (H.parts r)
theorem fill_rel {place:Nat → Option (Nat × Nat)}:∀ {ps:List (Nat × TV)} {ps':List (Nat × Value)},PRel μ lam ps ps' → ∀ {cs:List AV} {cs':Array Value} {r:List AV},VRels μ cs cs'.toList → fillP place cs ps = some r →
  ∃ r',Instr.fill place cs' ps' = some r' ∧ VRels μ r r'.toList
 | _,_,.nil,cs,cs',r,hc,h=>by simp [fillP] at h;subst h;exact ⟨cs',rfl,hc⟩
 | _,_,.cons i t v ps ps' ht hr,cs,cs',r,hc,h=>by
  cases ht with
  | lp _ _ _ _=>simp [fillP] at h
  | ls _ _ _ _=>simp [fillP] at h
  | gl _ _=>simp [fillP] at h
  | no _=>simp [fillP] at h
  | v x0 v hv=>
   simp only [fillP] at h
   split at h
   ·cases h
   ·rename_i off size hp
    split at h
    ·rename_i hsz
     have hvl:v.cells.size = x0.cells.length:=by have:=hv.cells.length;simpa using this.symm
     have hcl:cs'.size = cs.length:=by have:=hc.length;simpa using this.symm
     unfold Instr.fill
     simp only [hp]
     rw [if_neg (by simp;omega)]
     have hstep:=VRels.setManyFold μ x0.cells v.cells.toList hv.cells cs cs' off 0 hc
     rw [Nat.add_zero] at hstep
     refine fill_rel hr ?_ h
     have he:(v.cells.zipIdx.foldl (fun cs (x:Value × Nat)=>match x with | (c,j)=>cs.setIfInBounds (off + j) c) cs') = ((v.cells.toList.zipIdx 0).foldl (fun (c:Array Value) (p:Value × Nat)=>c.setIfInBounds (off + p.2) p.1) cs'):=by
      rw [← Array.foldl_toList,Array.toList_zipIdx]
     rw [he]
     exact hstep
    ·cases h
theorem mapM_places {fs:List Field} (h:∀ f ∈ fs,(P.info? f.type).isSome = true) (w:World):(fs.mapM (m:=Sem) fun (f:Field)=>do pure (f.offset,← sizeOf f.type)).run P w = .ok (fs.map fun f=>(f.offset,szOf P f.type)) w:=by
 induction fs with
 | nil=>rfl
 | cons f r ih=>
  obtain ⟨i,hi⟩:=Option.isSome_iff_exists.1 (h f (by simp))
  simp only [List.mapM_cons,Sem.run_bind,run_sizeOf hi,Result.andThen_ok,Sem.run_pure,ih fun g hg=>h g (by simp [hg]),List.map_cons]
theorem build_sound {t:TypeId} {ps:List (Nat × TV)} {ps':Array (Nat × Value)} {x:AV} (hp:PRel μ lam ps ps'.toList) (hok:∀ fs,P.underlying t = some (.struct fs) → ∀ f ∈ fs.toList,(P.info? f.type).isSome = true)
  (hoke:∀ n e,P.underlying t = some (.array n e) → (P.info? e).isSome = true) (hx:buildO P t ps = some x) (w:World):∃ v,(Instr.build t ps').run P w = .ok v w ∧ VRel μ x v:=by
 unfold buildO at hx
 split at hx
 ·rename_i z hz
  obtain ⟨zv,hzv,hzr⟩:=run_zeroValue (P:=P) hz μ w
  split at hx
  ·rename_i fs hu
   split at hx
   ·rename_i cs hf
    cases hx
    have hm:(fs.mapM (m:=Sem) fun (f:Field)=>do pure (f.offset,← sizeOf f.type)).run P w = .ok (fs.map fun f=>(f.offset,szOf P f.type)) w:=by
     have:=mapM_places (P:=P) (hok fs hu) w
     rw [← Array.toArray_toList (xs:=fs)]
     rw [List.mapM_toArray]
     simp only [Sem.run_map,this,Result.andThen_ok]
     congr 1
     apply Array.ext'
     simp
    have hplace:placeS P fs = fun i=>(fs.map fun f=>(f.offset,szOf P f.type))[i]?:=by
     funext i
     unfold placeS
     cases hi:fs[i]? <;> simp [hi]
    rw [hplace] at hf
    obtain ⟨r',hr',hrr⟩:=fill_rel hp hzr.cells hf
    exact ⟨.agg r',by simp only [Instr.build,Sem.run_bind,hzv,Result.andThen_ok,run_underlying hu,hm,hr'];rfl,.agg _ _ hrr⟩
   ·cases hx
  ·rename_i n e hu
   split at hx
   ·rename_i cs hf
    cases hx
    obtain ⟨i,hi⟩:=Option.isSome_iff_exists.1 (hoke n e hu)
    obtain ⟨r',hr',hrr⟩:=fill_rel hp hzr.cells hf
    exact ⟨.agg r',by simp [Instr.build,hzv,run_underlying hu,run_sizeOf hi,hr'],.agg _ _ hrr⟩
   ·cases hx
  ·cases hx
 ·cases hx
theorem ibin_sound {op:BinOp} {kx:IntKind} {x y:Int} {r:AV} (h:ibin op kx x y = some r) (w:World):∃ v,VRel μ r v ∧
  (op ≠ .shl → op ≠ .shr → ∀ P',∀ t,(binOp op t (.int kx x) (.int kx y)).run P' w = .ok v w) ∧ (op = .shl ∨ op = .shr → ∀ P' ky t,(binOp op t (.int kx x) (.int ky y)).run P' w = .ok v w):=by
 cases op <;> simp only [ibin] at h
 case quo=>
  split at h
  ·cases h
  ·rename_i hy;cases h;exact ⟨_,.int _ _,fun _ _ P' t=>by simp [binOp,Op.intDiv,hy],fun h=>by simp at h⟩
 case rem=>
  split at h
  ·cases h
  ·rename_i hy;cases h;exact ⟨_,.int _ _,fun _ _ P' t=>by simp [binOp,Op.intDiv,hy],fun h=>by simp at h⟩
 case shl=>
  split at h
  ·cases h
  ·rename_i hy;cases h;exact ⟨_,.int _ _,fun h=>absurd rfl h,fun _ P' ky t=>by simp [binOp,Op.shift,hy]⟩
 case shr=>
  split at h
  ·cases h
  ·rename_i hy;cases h;exact ⟨_,.int _ _,fun _ h=>absurd rfl h,fun _ P' ky t=>by simp [binOp,Op.shift,hy]⟩
 all_goals cases h
 all_goals first
  | exact ⟨_,.int _ _,fun _ _ P' t=>by simp [binOp,Op.intArith,Op.intBits],fun h=>by simp at h⟩
  | exact ⟨_,.bool _,fun _ _ P' t=>by simp [binOp,Op.intCmp],fun h=>by simp at h⟩
theorem toList_mk (s:List UInt8):(⟨s.toArray⟩:ByteArray).toList = s:=by
 rw [ByteArray.toList_eq]
theorem sbin_sound {op:BinOp} {x y:List UInt8} {r:AV} (h:sbin op x y = some r) (w:World) (t:TypeId):∃ v,VRel μ r v ∧ (binOp op t (.string ⟨x.toArray⟩) (.string ⟨y.toArray⟩)).run P w = .ok v w:=by
 have hsz (s:List UInt8):(⟨s.toArray⟩:ByteArray).size = s.length:=rfl
 cases op <;> simp only [sbin] at h
 case add=>
  split at h
  ·rename_i hl
   cases h
   have hn:¬ (((x.length + y.length:Nat):Int) > IntKind.i64.max):=by
    have:IntKind.i64.max = 9223372036854775807:=by decide
    rw [this];omega
   have he:(⟨x.toArray⟩:ByteArray) ++ ⟨y.toArray⟩ = ⟨(x ++ y).toArray⟩:=by
    apply ByteArray.ext
    simp
   refine ⟨_,.str _,?_⟩
   simp only [binOp,Op.stringOp,hsz,if_neg hn,he,Sem.run_pure]
  ·cases h
 all_goals first | cases h | skip
 all_goals exact ⟨_,.bool _,by simp only [binOp,Op.stringOp,toList_mk,Sem.run_pure]⟩
theorem run_part_rel {t:TypeId} {cs:List AV} {cs':Array Value} {off:Nat} {x:AV} (hp:partO P t cs off = some x) (hc:VRels μ cs cs'.toList) (w:World) :
  ∃ v,(part t cs' off).run P w = .ok v w ∧ VRel μ x v:=by
 unfold partO at hp
 split at hp
 ·rename_i ha
  split at hp
  ·rename_i hl
   cases hp
   obtain ⟨d,hd⟩:=aggO_underlying ha
   refine ⟨.agg (cs'.extract off (off + szOf P t)),by simp only [part,Sem.run_bind,run_isAgg ha,Result.andThen_ok,if_true,run_sizeOf_u hd,Sem.run_pure],.agg _ _ ?_⟩
   have:=(hc.drop off).take (szOf P t)
   rw [Array.toList_extract]
   rwa [show cs'.toList.extract off (off + szOf P t) = (cs'.toList.drop off).take (szOf P t) from by simp [List.extract_eq_take_drop]]
  ·cases hp
 ·rename_i ha
  obtain ⟨v,hv,hr⟩:=hc.get hp
  rw [Array.getElem?_toList] at hv
  exact ⟨v,by simp only [part,Sem.run_bind,run_isAgg ha,Result.andThen_ok,Bool.false_eq_true,if_false,hv,Sem.run_pure],hr⟩
 ·cases hp
theorem eqFields_run {d m:Nat} (ih:∀ t x y b v u,eqIn P d t x y = some b → VRel μ x v → VRel μ y u → ∀ w,(Op.equalIn (d + m) t v u).run P w = .ok b w) :
  ∀ (fs:List Field) (xs ys:List AV) (xs' ys':Array Value) (b:Bool),eqList (eqIn P d) P xs ys ((fs.filter fun f=>decide (f.name ≠ "_")).map fun f=>(f.type,f.offset)) = some b → VRels μ xs xs'.toList → VRels μ ys ys'.toList →
   ∀ w,(Op.eqFields (d + m) xs' ys' fs).run P w = .ok b w:=by
 intro fs
 induction fs with
 | nil=>intro xs ys xs' ys' b h _ _ w;simp [eqList] at h;subst h;rfl
 | cons f fs ihf=>
  intro xs ys xs' ys' b h hx hy w
  by_cases hn:f.name ≠ "_"
  ·rw [List.filter_cons_of_pos (by simpa using hn)] at h
   simp only [List.map_cons,eqList] at h
   split at h
   ·rename_i x1 h1
    split at h
    ·rename_i y1 h2
     split at h
     ·rename_i b1 h3
      split at h
      ·rename_i c1 h4
       cases h
       obtain ⟨v1,hv1,hr1⟩:=run_part_rel (P:=P) h1 hx w
       obtain ⟨u1,hu1,hs1⟩:=run_part_rel (P:=P) h2 hy w
       have h5:=ih _ _ _ _ _ _ h3 hr1 hs1 w
       have h6:=ihf xs ys xs' ys' c1 h4 hx hy w
       simp only [Op.eqFields,if_pos hn,Sem.run_bind,hv1,hu1,Result.andThen_ok,h5,Sem.run_ite,h6,Sem.run_pure]
       cases b1 <;> simp
      ·cases h
     ·cases h
    ·cases h
   ·cases h
  ·rw [List.filter_cons_of_neg (by simpa using hn)] at h
   simp only [Op.eqFields,if_neg hn]
   exact ihf xs ys xs' ys' b h hx hy w
theorem eqArr_run {d m:Nat} {e:TypeId} {sz:Nat} (ih:∀ t x y b v u,eqIn P d t x y = some b → VRel μ x v → VRel μ y u → ∀ w,(Op.equalIn (d + m) t v u).run P w = .ok b w)
  (xs ys:List AV) (xs' ys':Array Value) (hx:VRels μ xs xs'.toList) (hy:VRels μ ys ys'.toList) :
  ∀ (l:List Nat) (b:Bool),eqList (eqIn P d) P xs ys (l.map fun i=>(e,i * sz)) = some b → ∀ w,
   (forIn (m:=Sem) l ((none,()):Option Bool × Unit) fun i _=>do
    let x ← part e xs' (i * sz)
    let y ← part e ys' (i * sz)
    let q ← Op.equalIn (d + m) e x y
    if (!q) = true then pure (ForInStep.done (some false,())) else pure (ForInStep.yield (none,()))).run P w
   = .ok (if b then (none,()) else (some false,())) w:=by
 intro l
 induction l with
 | nil=>intro b h w;simp [eqList] at h;subst h;rfl
 | cons i l ihl=>
  intro b h w
  simp only [List.map_cons,eqList] at h
  split at h
  ·rename_i x1 h1
   split at h
   ·rename_i y1 h2
    split at h
    ·rename_i b1 h3
     split at h
     ·rename_i c1 h4
      cases h
      obtain ⟨v1,hv1,hr1⟩:=run_part_rel (P:=P) h1 hx w
      obtain ⟨u1,hu1,hs1⟩:=run_part_rel (P:=P) h2 hy w
      have h5:=ih _ _ _ _ _ _ h3 hr1 hs1 w
      have h6:=ihl c1 h4 w
      cases b1
      ·simp only [List.forIn_cons,Sem.run_bind,hv1,hu1,Result.andThen_ok,h5,Bool.not_false,if_true,Sem.run_pure,Bool.false_and,Bool.false_eq_true,if_false]
      ·simp only [List.forIn_cons,Sem.run_bind,hv1,hu1,Result.andThen_ok,h5,Bool.not_true,if_false,Sem.run_pure,Bool.true_and,Bool.false_eq_true]
       exact h6
     ·cases h
    ·cases h
   ·cases h
  ·cases h
theorem eqIn_run {m:Nat} (hoke:∀ t n e,P.underlying t = some (.array n e) → (P.info? e).isSome = true):∀ (d:Nat) (t:TypeId) (x y:AV) (b:Bool) (v u:Value),eqIn P d t x y = some b → VRel μ x v → VRel μ y u → ∀ w,(Op.equalIn (d + m) t v u).run P w = .ok b w:=by
 intro d
 induction d with
 | zero=>intro t x y b v u h;simp [eqIn] at h
 | succ d ih=>
  intro t x y b v u h hx hy w
  rw [show d + 1 + m = (d + m) + 1 from by omega]
  simp only [eqIn] at h
  split at h
  ·rename_i hu
   split at h
   ·cases h;cases hx;cases hy;simp [Op.equalIn,run_underlying hu]
   ·cases h
  ·rename_i ki hu
   split at h
   ·rename_i kx ax ky ay
    split at h
    ·rename_i hk;subst hk;cases h;cases hx;cases hy;exact run_equalIn_int w _ t _ _ _ _ hu
    ·cases h
   ·cases h
  ·rename_i hu
   split at h
   ·cases h;cases hx;cases hy
    rw [run_equalIn_string w _ t _ _ hu,toList_mk,toList_mk]
   ·cases h
  ·rename_i e hu
   split at h
   ·cases h;cases hx;cases hy <;> simp [Op.equalIn,run_underlying hu]
   ·cases h;cases hx;cases hy;simp [Op.equalIn,run_underlying hu]
   ·rename_i p q
    split at h
    ·rename_i hpq
     cases h
     obtain ⟨b1,o1⟩:=p
     obtain ⟨b2,o2⟩:=q
     simp only at hpq
     obtain ⟨rfl,hsz⟩:=hpq
     cases hx with
     | ptr _ _ e1 he1=>
      cases hy with
      | ptr _ _ e2 he2=>
       rw [he1] at he2;cases he2
       obtain ⟨i,hi⟩:∃ i,P.info? e = some i:=by
        unfold szOf at hsz
        split at hsz
        ·exact ⟨_,‹_›⟩
        ·exact absurd rfl hsz
       simp only [Op.equalIn,Sem.run_bind,run_underlying hu,Result.andThen_ok,run_sizeOf hi,ne_eq,hsz,not_false_eq_true,if_true,sameAddr,beq_self_eq_true,Sem.run_pure]
       congr 1
       simp only [beq_iff_eq,Bool.beq_eq_decide_eq] <;> (apply Bool.eq_iff_iff.2;simp)
    ·cases h
   ·cases h
  ·rename_i e hu
   split at h
   ·cases h;cases hx;cases hy <;> simp [Op.equalIn,run_underlying hu]
   ·cases h;cases hx;cases hy;simp [Op.equalIn,run_underlying hu]
   ·cases h
  ·rename_i e1 e2 hu
   split at h
   ·cases h;cases hx;cases hy <;> simp [Op.equalIn,run_underlying hu]
   ·cases h;cases hx;cases hy;simp [Op.equalIn,run_underlying hu]
   ·cases h
  ·rename_i e1 e2 e3 hu
   split at h
   ·cases h;cases hx;cases hy;simp [Op.equalIn,run_underlying hu]
   ·cases h;cases hx;cases hy;simp [Op.equalIn,run_underlying hu]
   ·cases h;cases hx;cases hy;simp [Op.equalIn,run_underlying hu]
   ·cases h
  ·rename_i ms hu
   split at h
   ·cases h;cases hx;cases hy;simp [Op.equalIn,run_underlying hu]
   ·cases h;cases hx;cases hy;simp [Op.equalIn,run_underlying hu]
   ·cases h;cases hx;cases hy;simp [Op.equalIn,run_underlying hu]
   ·rename_i tx vx ty vy
    cases hx with
    | iface _ _ v1 h1=>
     cases hy with
     | iface _ _ v2 h2=>
      split at h
      ·rename_i ht
       subst ht
       split at h
       ·rename_i i hi
        split at h
        ·rename_i hcmp
         have:=ih tx vx vy b v1 v2 h h1 h2 w
         simp only [Op.equalIn,Sem.run_bind,run_underlying hu,Result.andThen_ok,ne_eq,not_true_eq_false,if_false,typeInfo,hi]
         simp [hi,hcmp,this]
        ·cases h
       ·cases h
      ·rename_i ht
       cases h
       simp [Op.equalIn,run_underlying hu,ht]
   ·cases h
  ·rename_i fs hu
   split at h
   ·cases h
   ·rename_i hst
    split at h
    ·rename_i xs ys
     cases hx with
     | agg _ xs' hxs=>
      cases hy with
      | agg _ ys' hys=>
       have hf:P.fieldsOf t = fs:=by simp [Program.fieldsOf,hu]
       rw [run_equalIn_struct w (d + m) t xs' ys' (by rw [hf];exact hu) (by simpa using hst),hf]
       exact eqFields_run ih fs.toList xs ys xs' ys' b h hxs hys w
    ·cases h
  ·rename_i n e hu
   split at h
   ·rename_i xs ys
    cases hx with
    | agg _ xs' hxs=>
     cases hy with
     | agg _ ys' hys=>
      obtain ⟨i,hi⟩:=Option.isSome_iff_exists.1 (hoke t n e hu)
      simp only [Op.equalIn,Sem.run_bind,run_underlying hu,Result.andThen_ok,run_sizeOf hi]
      rw [Std.Legacy.Range.forIn_eq_forIn_range']
      simp only [Std.Legacy.Range.size,Nat.sub_zero,Nat.add_sub_cancel,Nat.div_one,← List.range_eq_range']
      rw [eqArr_run ih xs ys xs' ys' hxs hys (List.range n) b h w]
      cases b <;> rfl
   ·cases h
  ·cases h
end
end Go.AM

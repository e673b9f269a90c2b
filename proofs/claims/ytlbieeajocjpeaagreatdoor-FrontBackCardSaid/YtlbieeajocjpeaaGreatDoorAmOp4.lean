/- Each operation of the interpreter, held against the model's: slices, conversions, appends, calls. -/
import Derived.Test.YtlbieeajocjpeaaGreatDoorAmOp3
set_option linter.unusedSimpArgs false
namespace Go.AM
open Go.RowKit
section
variable {P:Program} {μ0 μ:Emb} {w0 w:World} {lam:Lam} {env:Env} {σ:St} {a:Act} {o:Oper} {next:Act → World → Prop} {Q:Exit → Act → World → Prop} {out:Res × St} {k:TV → Env → St → Out} {kp:AV → Env → St → Out}
theorem extract_take (s:List UInt8) (l h:Nat):(⟨s.toArray⟩:ByteArray).extract l h = ⟨((s.take h).drop l).toArray⟩:=by
 apply ByteArray.ext
 simp [List.extract_eq_take_drop,List.drop_take]
theorem run_sliceBound {kx:IntKind} {n:Int} {y:Nat} (c:BoundsCode) (h:0 ≤ n ∧ n ≤ y) (w:World):(Instr.sliceBound (.int kx n) y c).run P w = .ok n.toNat w:=by
 simp [Instr.sliceBound,asIntOf,h]
inductive BRel (a:Act) (d:Int):Option Operand → Int → Prop
 | none:BRel a d none d
 | some (x:Operand) (kx:IntKind) (n:Int) (h:a.eval x = .int kx n):BRel a d (some x) n
theorem bound_some {x:Option Operand} {d:Int} {f:Int → Out} (H:Sit μ0 w0 μ lam env σ a w) (h:boundK (x.map env.get) d f = some out) :
  ∃ n,BRel a d x n ∧ f n = some out:=by
 cases x with
 | none=>exact ⟨d,.none,h⟩
 | some x=>
  obtain ⟨kx,n,hv,hf⟩:=natK_some h
  have hx:=H.get x
  rw [hv] at hx
  have hr:=hx.val
  generalize hxv:a.eval x = xv at hr
  cases hr with
  | int _ _=>exact ⟨n,.some x kx n hxv,hf⟩
theorem run_bounds {lo hi:Option Operand} {l h:Int} {len cap:Nat} (isSlice:Bool) (hl:BRel a 0 lo l) (hh:BRel a len hi h) (h1:0 ≤ l) (h2:l ≤ h) (h3:h ≤ (cap:Nat)) (_hlen:len ≤ cap) (w:World) :
  (Instr.sliceBounds isSlice len cap (lo.map a.eval) (hi.map a.eval) none).run P w = .ok (l.toNat,h.toNat,cap) w:=by
 cases hl with
 | none=>
  cases hh with
  | none=>simp [Instr.sliceBounds]
  | some x kx n he=>
   have h4:(0 ≤ h ∧ h ≤ (cap:Int)):=⟨by omega,h3⟩
   simp [Instr.sliceBounds,he,run_sliceBound _ h4]
 | some y ky m hy=>
  cases hh with
  | none=>
   have h5:(0 ≤ l ∧ l ≤ (len:Int)):=⟨h1,h2⟩
   simp [Instr.sliceBounds,hy,run_sliceBound _ h5]
  | some x kx n he=>
   have h4:(0 ≤ h ∧ h ≤ (cap:Int)):=⟨by omega,h3⟩
   have h5:(0 ≤ l ∧ l ≤ (h.toNat:Int)):=⟨h1,by omega⟩
   simp [Instr.sliceBounds,he,hy,run_sliceBound _ h4,run_sliceBound _ h5]
theorem op_slice {t:TypeId} {x:Operand} {lo hi:Option Operand} (hP:POk P) (H:Sit μ0 w0 μ lam env σ a w) (hk:KOk μ0 w0 a o.dst next out k) (ho:o.op = .slice t x lo hi none)
  (hx:sliceK P t (env.get x) (lo.map env.get) (hi.map env.get) (fun y=>k (.v y) env σ) = some out):o.wp P a w next Q:=by
 unfold sliceK at hx
 have h1:=H.get x
 split at hx
 ·rename_i hu
  split at hx
  ·rename_i s hp
   rw [hp] at h1
   have hv:=h1.val
   generalize hxv:a.eval x = xv at hv
   obtain ⟨h,hh,hx2⟩:=bound_some H hx
   obtain ⟨l,hl,hx3⟩:=bound_some H hx2
   split at hx3
   ·rename_i hb
    cases hv with
    | str _=>
     refine op_val H hk (v:=.string ⟨((s.take h.toNat).drop l.toNat).toArray⟩) ?_ (.v _ _ (.str _)) hx3
     have hsz:(⟨s.toArray⟩:ByteArray).size = s.length:=rfl
     have hbd:=run_bounds (P:=P) (len:=s.length) (cap:=s.length) false hl hh hb.1 hb.2.1 hb.2.2 (Nat.le_refl _) w
     simp [execOp,ho,hxv,Instr.sliceAt,Instr.slice,run_underlying hu,hsz,hbd,extract_take]
   ·cases hx3
  ·cases hx
 ·rename_i e hu
  obtain ⟨inf,hinf⟩:=Option.isSome_iff_exists.1 (hP.sl t e hu)
  split at hx
  ·rename_i n cap sz hp
   rw [hp] at h1
   have hv:=h1.val
   generalize hxv:a.eval x = xv at hv
   cases hv with
   | nslice _=>
    obtain ⟨h,hh,hx2⟩:=bound_some H hx
    obtain ⟨l,hl,hx3⟩:=bound_some H hx2
    split at hx3
    ·rename_i hb
     have hbd:=run_bounds (P:=P) (len:=0) (cap:=0) true hl hh hb.1 hb.2.1 hb.2.2 (Nat.le_refl _) w
     have hz:l.toNat = 0 ∧ h.toNat = 0:=by have:=hb.2.2;simp at this;omega
     refine op_val H hk (v:=.slice none 0 0) ?_ (.v _ _ (.nslice _)) hx3
     simp [execOp,ho,hxv,Instr.sliceAt,Instr.slice,run_underlying hu,hbd,run_sizeOf hinf,hz.1,hz.2]
    ·cases hx3
  ·rename_i b off n cap sz hp
   rw [hp] at h1
   have hv:=h1.val
   generalize hxv:a.eval x = xv at hv
   split at hx
   ·rename_i hsz
    obtain ⟨h,hh,hx2⟩:=bound_some H hx
    obtain ⟨l,hl,hx3⟩:=bound_some H hx2
    split at hx3
    ·rename_i hb
     cases hv with
     | slice _ _ en _ _ _ ad c he ha ha' hc hcap hlen=>
      have hcap2:n ≤ cap.getD n ∧ cap.getD n ≤ c:=by
       cases cap with
       | none=>exact ⟨Nat.le_refl _,hlen⟩
       | some c'=>have:=hcap c' rfl;simp;omega
      have h3:h ≤ (c:Nat):=by have:=hb.2.2;omega
      have hbd:=run_bounds (P:=P) (len:=n) (cap:=c) true hl hh hb.1 hb.2.1 h3 hlen w
      refine op_val H hk (v:=.slice (some (if c = l.toNat then ad else ad.add (l.toNat * szOf P e))) (h.toNat - l.toNat) (c - l.toNat)) ?_ (.v _ _ ?_) hx3
      ·simp only [execOp,ho]
       refine exec_v ?_
       simp only [Instr.sliceAt,Instr.slice,Sem.run_bind,run_underlying hu,Result.andThen_ok,hxv,Option.map_none,hbd,run_sizeOf hinf,Sem.run_pure]
       split <;> rfl
      ·have hblk:∀ q,(ad.add q).block = ad.block:=fun q=>by unfold Addr.add;split <;> rfl
       refine .slice b _ en _ _ sz _ _ he ?_ ?_ ?_ ?_ ?_
       ·split
        ·exact ha
        ·exact ⟨by rw [hblk];exact ha.1,by unfold Addr.add;split <;> first | exact ha.2 | rfl⟩
       ·intro hpos
        have had:=ha' (by omega)
        rw [if_neg (by omega),had,addr_add,hsz,Nat.add_assoc]
       ·have:(c - l.toNat) * sz + l.toNat * sz = c * sz:=by rw [← Nat.add_mul];congr 1;omega
        omega
       ·intro c' hc'
        cases cap with
        | none=>cases hc'
        | some c2=>cases hc';have:=hcap c2 rfl;omega
       ·omega
    ·cases hx3
   ·cases hx
  ·cases hx
 ·cases hx
theorem bytesOf_rel:∀ {cs:List AV} {s:List UInt8},bytesOf cs = some s → ∀ {vs:List Value},VRels μ cs vs → ∀ (acc:ByteArray) (w:World),
  (forIn (m:=Sem) vs acc fun c (r:ByteArray)=>match c with
   | .int .u8 n=>pure (ForInStep.yield (r.push (UInt8.ofNat n.toNat)))
   | _=>do stuck "bytesToString: byte expected";pure (ForInStep.yield r)).run P w = .ok (acc ++ ⟨s.toArray⟩) w
 | [],s,h,vs,hv,acc,w=>by
  simp [bytesOf] at h;subst h;cases hv
  simp only [List.forIn_nil,Sem.run_pure]
  congr 1
  apply ByteArray.ext
  simp
 | x :: r,s,h,vs,hv,acc,w=>by
  cases x with
  | int kx n=>
   cases kx with
   | u8=>
    simp only [bytesOf] at h
    split at h
    ·rename_i l hl
     cases h
     cases hv with
     | cons _ v _ vs' hx hr=>
      cases hx
      simp only [List.forIn_cons,Sem.run_bind,Sem.run_pure,Result.andThen_ok]
      rw [bytesOf_rel hl hr]
      congr 1
      apply ByteArray.ext
      simp
    ·cases h
   | _=>simp [bytesOf] at h
  | _=>simp [bytesOf] at h
theorem row_cells {b off n:Nat} {cs:List AV} {cs':Array Value} {base:Nat} {ty:TypeId} {fr:Nat × Nat} (h1:w.heap[b]? = some (.cells cs' ty fr)) (h2:CRel μ cs cs' base) (hl:off + n ≤ cs.length) :
  ∃ vs:List Value,vs.length = n ∧ VRels μ ((cs.drop off).take n) vs ∧ (∀ (j:Nat) v,vs[j]? = some v → w.cell? ⟨b,base + off + j,none⟩ = some v) ∧ (∀ v ∈ vs,v.oneCell' = true):=by
 have hget (j:Nat) (hj:j < n):∃ x v,cs[off + j]? = some x ∧ cs'[base + off + j]? = some v ∧ VRel μ x v ∧ x.one = true:=by
  have hlt:off + j < cs.length:=by omega
  obtain ⟨⟨v,hv,hr⟩,ho⟩:=h2 (off + j) cs[off + j] (by simp [hlt])
  exact ⟨_,v,by simp [hlt],by rw [Nat.add_assoc];exact hv,hr,ho⟩
 refine ⟨(List.range n).map fun j=>cs'.getD (base + off + j) undef,by simp,VRels.of_get (by simp;omega) ?_,?_,?_⟩
 ·intro i y hi
  rw [List.getElem?_take] at hi
  split at hi
  ·rename_i hlt
   obtain ⟨x,v,h3,h4,h5,_⟩:=hget i hlt
   rw [List.getElem?_drop] at hi
   rw [h3] at hi;cases hi
   exact ⟨v,by simp [hlt,h4],h5⟩
  ·cases hi
 ·intro j v hj
  have hlt:j < n:=by
   rcases Nat.lt_or_ge j n with h | h
   ·exact h
   ·rw [List.getElem?_eq_none (by simpa using h)] at hj;cases hj
  obtain ⟨x,u,h3,h4,h5,_⟩:=hget j hlt
  simp [hlt,h4] at hj
  subst hj
  rw [cell_of_heap h1];exact h4
 ·intro v hv
  obtain ⟨j,hj,rfl⟩:=List.mem_map.1 hv
  obtain ⟨x,u,h3,h4,h5,h6⟩:=hget j (by simpa using hj)
  simp only [Array.getD_eq_getD_getElem?,h4,Option.getD_some]
  rw [h5.one];exact h6
theorem slice_cells {b off n sz m:Nat} {cap:Option Nat} {cs:List AV} {ad:Addr} {c:Nat} (H:R μ σ w) (hv:VRel μ (.slice (some (b,off)) n cap sz) (.slice (some ad) n c)) (hcs:cellsAt σ b = some cs) (hm:m ≤ n * sz) (hl:off + m ≤ cs.length) :
  ∃ vs:List Value,vs.length = m ∧ VRels μ ((cs.drop off).take m) vs ∧ (∀ (j:Nat) v,vs[j]? = some v → w.cell? (ad.add j) = some v) ∧ (∀ v ∈ vs,v.oneCell' = true):=by
 cases hv with
 | slice _ _ en _ _ _ _ _ he ha ha' hc hcap hlen=>
  obtain ⟨wr,hs⟩:=cellsAt_some hcs
  obtain ⟨e',he',cs',ty,fr,h1,h2,_⟩:=H.obj b _ hs
  rw [he] at he';cases he'
  obtain ⟨vs,g1,g2,g3,g4⟩:=row_cells (μ:=μ) (w:=w) (off:=off) (n:=m) h1 h2 hl
  refine ⟨vs,g1,g2,fun j v hj=>?_,g4⟩
  have hpos:0 < c:=by
   have hlt:j < vs.length:=(List.getElem?_eq_some_iff.1 hj).1
   rcases Nat.eq_zero_or_pos c with h0 | h0
   ·have:n = 0:=by omega
    subst this;simp at hm;omega
   ·exact h0
  rw [ha' hpos,addr_add]
  exact g3 j v hj
theorem convert_sound {s d:TypeId} {x:AV} {v:Value} {kv:AV → St → Out} (H:Sit μ0 w0 μ lam env σ a w) (hv:VRel μ x v) (h:convK P s d σ x kv = some out) :
  ∃ r u,(convert s d v).run P w = .ok u w ∧ VRel μ r u ∧ kv r σ = some out:=by
 unfold convK at h
 split at h
 ·rename_i ds kd hus hud
  split at h
  ·cases hv
   exact ⟨_,_,by simp [convert,run_underlying hus,run_underlying hud,Conv.intToInt],.int _ _,h⟩
  ·cases h
 ·rename_i e hus hud
  split at h
  ·rename_i hue
   split at h
   ·cases hv
    refine ⟨_,_,?_,.str [],h⟩
    simp [convert,run_underlying hus,run_underlying hud,run_underlying hue,Conv.bytesToString]
    rfl
   ·rename_i b off n cap
    split at h
    ·rename_i cs hcs
     split at h
     ·rename_i hl
      split at h
      ·rename_i bs hbs
       refine ⟨_,_,?_,.str bs,h⟩
       have hv0:=hv
       cases hv with
       | slice _ _ en _ _ _ ad c he ha ha' hc hcap hlen=>
        obtain ⟨vs,g1,g2,g3,g4⟩:=slice_cells H.r hv0 hcs (m:=n) (by omega) hl
        have hload:=run_loadCells_list (P:=P) w ad vs g3
        rw [g1] at hload
        have hf:=bytesOf_rel hbs g2 .empty w (P:=P)
        simp only [convert,Sem.run_bind,run_underlying hus,run_underlying hud,run_underlying hue,Result.andThen_ok,Conv.bytesToString,hload]
        rw [List.forIn_toArray]
        refine Eq.trans (congrArg (fun q:Result ByteArray=>q.andThen fun a w'=>Sem.run P (pure (Value.string a)) w') hf) ?_
        simp only [Result.andThen_ok,Sem.run_pure]
        congr 2
      ·cases h
     ·cases h
    ·cases h
   ·cases h
  ·cases h
 ·rename_i ds hne hus hud
  split at h
  ·cases hv
   refine ⟨_,_,?_,.str _,h⟩
   simp only [convert,Sem.run_bind,run_underlying hus,run_underlying hud,Result.andThen_ok]
   rfl
  ·cases h
 ·cases h
theorem op_convert {s d:TypeId} {x:Operand} (H:Sit μ0 w0 μ lam env σ a w) (hk:KOk μ0 w0 a o.dst next out k) (ho:o.op = .convert s d x)
  (hx:(match env.get x with | .v p=>convK P s d σ p (fun r σ'=>k (.v r) env σ') | _=>none) = some out):o.wp P a w next Q:=by
 have h1:=H.get x
 split at hx
 ·rename_i p hp
  rw [hp] at h1
  obtain ⟨r,u,hu,hr,hkk⟩:=convert_sound H h1.val hx
  exact op_val H hk (by simp only [execOp,ho];exact exec_v hu) (.v _ _ hr) hkk
 ·cases hx
theorem zeros_rel {z:List AV} {z':Array Value} (hz:VRels μ z z'.toList):∀ n,VRels μ (zeros z n) ((Array.range (n * z'.size)).map (fun i=>z'[i % z'.size]!)).toList:=by
 intro n
 have hsz:z.length = z'.size:=by simpa using hz.length
 have hlen:∀ n,(zeros z n).length = n * z.length:=by
  intro n
  induction n with
  | zero=>simp [zeros]
  | succ n ih=>simp [zeros,ih,Nat.add_mul];omega
 have hget:∀ n i,i < n * z.length → (zeros z n)[i]? = z[i % z.length]?:=by
  intro n
  induction n with
  | zero=>intro i hi;omega
  | succ n ih=>
   intro i hi
   rw [Nat.add_mul,Nat.one_mul] at hi
   by_cases hlt:i < z.length
   ·rw [zeros,List.getElem?_append_left hlt,Nat.mod_eq_of_lt hlt]
   ·rw [zeros,List.getElem?_append_right (by omega),ih (i - z.length) (by omega)]
    congr 1
    rw [← Nat.mod_eq_sub_mod (by omega)]
 refine VRels.of_get (by simp [hlen,hsz]) fun i x hi=>?_
 have hlt:i < n * z.length:=by
  rw [← hlen]
  rcases Nat.lt_or_ge i (zeros z n).length with h | h
  ·exact h
  ·rw [List.getElem?_eq_none h] at hi;cases hi
 rw [hget n i hlt] at hi
 obtain ⟨v,hv,hr⟩:=hz.get hi
 refine ⟨v,?_,hr⟩
 have hmod:i % z.length < z.length:=Nat.mod_lt _ (by rcases Nat.eq_zero_or_pos z.length with h | h <;> first | exact h | (rw [h] at hlt;omega))
 rw [Array.getElem?_toList] at hv
 rw [hsz] at hv hmod hlt
 simp only [Array.toList_map,List.getElem?_map,Array.toList_range]
 rw [List.getElem?_range hlt]
 simp only [Option.map_some]
 rw [getElem!_pos z' (i % z'.size) hmod]
 rw [Array.getElem?_eq_getElem hmod] at hv
 exact hv
theorem zeros_length (z:List AV) (n:Nat):(zeros z n).length = n * z.length:=by
 induction n with
 | zero=>simp [zeros]
 | succ n ih=>simp [zeros,ih,Nat.add_mul];omega
theorem fillP_length {place:Nat → Option (Nat × Nat)}:∀ {ps:List (Nat × TV)} {cs r:List AV},fillP place cs ps = some r → r.length = cs.length
 | [],cs,r,h=>by simp [fillP] at h;subst h;rfl
 | (i,t) :: ps,cs,r,h=>by
  cases t with
  | v x=>
   simp only [fillP] at h
   split at h
   ·cases h
   ·split at h
    ·rw [fillP_length h,setMany_length]
    ·cases h
  | _=>simp [fillP] at h
theorem op_buildSlice {t:TypeId} {n:Nat} {parts:Array (Nat × Operand)} {loc:Bool} (H:Sit μ0 w0 μ lam env σ a w) (hk:KOk μ0 w0 a o.dst next out k) (ho:o.op = .buildSlice t n parts)
  (hx:(match P.underlying t with
  | some (.slice e)=>
   match zeroOf P e with
   | some z=>
    if z.cells.length = szOf P e ∧ n * szOf P e ≤ 16777216 then
     match fillP (fun i=>some (i * szOf P e,szOf P e)) (zeros z.cells n) (parts.toList.map fun p=>(p.1,env.get p.2)) with
     | some cs=>
      if cs.all AV.one then
       match loc,o.dst with
       | true,some d=>k (.ls d n) (env.newL d cs) σ
       | _,_=>k (.v (.slice (some (σ.length,0)) n (some n) (szOf P e))) env (σ ++ [.cells cs (.rw (.row e))])
      else none
     | none=>none
    else none
   | none=>none
  | _=>none) = some out):o.wp P a w next Q:=by
 split at hx
 ·rename_i e hu
  split at hx
  ·rename_i z hz
   split at hx
   ·rename_i hc
    split at hx
    ·rename_i cs hf
     split at hx
     ·rename_i hone
      obtain ⟨zv,hzv,hzr⟩:=run_zeroValue (P:=P) hz μ w
      have hzs:zv.cells.size = szOf P e:=by have:=hzr.cells.length;simp at this;omega
      obtain ⟨inf,hinf⟩:∃ i,P.info? e = some i:=by
       unfold zeroOf at hz;split at hz
       ·exact ⟨_,‹_›⟩
       ·cases hz
      have hzeros:=zeros_rel hzr.cells n
      rw [hzs] at hzeros
      obtain ⟨r',hr',hrr⟩:=fill_rel (H.parts parts.toList) hzeros hf
      have hlen:cs.length = n * szOf P e:=by rw [fillP_length hf,zeros_length,hc.1]
      have hps:(parts.map fun (i,x)=>(i,a.eval x)).toList = parts.toList.map fun p=>(p.1,a.eval p.2):=by simp
      have hrun:(execOp a.eval o).run P w = .ok (.value (.slice (some ⟨w.heap.size,0,none⟩) n n)) (w.alloc (.cells r' e)):=by
       simp only [execOp,ho]
       refine exec_v ?_
       have h24:¬ (n * szOf P e > 2 ^ 24):=by omega
       simp only [Instr.buildSlice,Sem.run_bind,run_underlying hu,Result.andThen_ok,run_sizeOf hinf,if_neg h24,Sem.run_pure]
       by_cases h0:n * szOf P e = 0
       ·have hz0:(Array.range (n * szOf P e)).map (fun i=>zv.cells[i % szOf P e]!) = (Array.range (n * szOf P e)).map (fun i=>(#[]:Array Value)[i % (#[]:Array Value).size]!):=by
         rw [h0];simp
        rw [hz0] at hr'
        rw [← hps] at hr'
        simp only [if_pos h0,Sem.run_pure,Result.andThen_ok,hr',newRow,Sem.run_bind,run_newObj]
        rfl
       ·rw [← hps] at hr'
        rw [← hzs] at hr'
        simp only [if_neg h0,Sem.run_bind,hzv,Result.andThen_ok,Sem.run_pure]
        rw [← hzs]
        simp only [hr',newRow,Sem.run_bind,run_newObj,Result.andThen_ok,Sem.run_pure]
        rfl
      have hg:Grew w (w.alloc (.cells r' e)) (.cells r' e):=Grew.alloc _ _
      have hrsz:r'.size = n * szOf P e:=by have:=hrr.length;simp at this;omega
      split at hx
      ·rename_i d _
       exact wp_value hrun (hk _ _ _ _ _ _ _ (H.newL hg hrr hone d) (.ls _ _ _ (if_pos rfl)) hx)
      ·have hS:=H.newH hg (CRel.of_rels hrr hone) (by omega) (t:=.row e) rfl
       refine wp_value hrun (hk _ _ _ _ _ _ _ hS (.v _ _ ?_) hx)
       exact .slice σ.length 0 ⟨w.heap.size,0,r'.size,true⟩ n (some n) (szOf P e) _ n (push_self _ _ _) ⟨rfl,rfl⟩ (fun _=>rfl) (by simp [hrsz]) (fun c' h=>by cases h;rfl) (Nat.le_refl _)
     ·cases hx
    ·cases hx
   ·cases hx
  ·cases hx
 ·cases hx
theorem src_sound {isStr:Bool} {size:Nat} {x:TV} {v:Value} {t2:TypeId} {f:Nat → List AV → Out} (H:Sit μ0 w0 μ lam env σ a w) (hr:TRel μ lam x v)
  (hk:(isStr = false ∧ ∃ e',P.underlying t2 = some (.slice e')) ∨ (isStr = true ∧ P.underlying t2 = some .string)) (h:srcK isStr env σ size x f = some out) :
  ∃ n new news,f n new = some out ∧ VRels μ new news ∧ Src P size t2 v n news w:=by
 unfold srcK at h
 split at h
 ·rename_i key n
  obtain ⟨e',hu⟩:∃ e',P.underlying t2 = some (.slice e'):=by rcases hk with ⟨_,h⟩ | ⟨h,_⟩ <;> first | exact h | cases h
  split at h
  ·rename_i cs hcs
   split at h
   ·rename_i hn
    cases hr with
    | ls _ _ blk hl=>
     obtain ⟨blk',hb',cs',ty,fr,h1,h2,h3,_,_⟩:=H.locs key cs hcs
     rw [hl] at hb';cases hb'
     obtain ⟨vs,g1,g2,g3,g4⟩:=row_cells (μ:=μ) (w:=w) (off:=0) (n:=cs.length) h1 h2 (by omega)
     rw [List.drop_zero,List.take_length] at g2
     refine ⟨n,cs,vs,h,g2,Src.ofSlice w hu _ n n vs (by omega) (fun j u hj=>?_) g4⟩
     rw [addr_add]
     simpa using g3 j u hj
   ·cases h
  ·cases h
 ·rename_i s
  obtain hu:P.underlying t2 = some .string:=by rcases hk with ⟨h,_⟩ | ⟨_,h⟩ <;> first | exact h | cases h
  split at h
  ·rename_i hs
   subst hs
   have hv:=hr.val
   cases hv with
   | str _=>
    have hs:=Src.ofString (P:=P) w hu ⟨s.toArray⟩
    refine ⟨s.length,_,byteCells ⟨s.toArray⟩,h,VRels.of_get (by rw [byteCells_length];simp;rfl) fun i x hi=>?_,hs⟩
    rw [List.getElem?_map] at hi
    cases hb:s[i]? with
    | none=>rw [hb] at hi;cases hi
    | some b=>rw [hb] at hi;cases hi;exact ⟨_,by simp [byteCells,hb],.int _ _⟩
  ·cases h
 ·obtain ⟨e',hu⟩:∃ e',P.underlying t2 = some (.slice e'):=by rcases hk with ⟨_,h⟩ | ⟨h,_⟩ <;> first | exact h | cases h
  have hv:=hr.val
  cases hv with
  | nslice _=>exact ⟨0,[],[],h,.nil,Src.ofNil w hu 0⟩
 ·rename_i b off n cap sz
  obtain ⟨e',hu⟩:∃ e',P.underlying t2 = some (.slice e'):=by rcases hk with ⟨_,h⟩ | ⟨h,_⟩ <;> first | exact h | cases h
  split at h
  ·rename_i hsz
   split at h
   ·rename_i cs hcs
    split at h
    ·rename_i hl
     have hv:=hr.val
     have hv0:=hv
     cases hv with
     | slice _ _ en _ _ _ ad c he ha ha' hc hcap hlen=>
      obtain ⟨vs,g1,g2,g3,g4⟩:=slice_cells H.r hv0 hcs (m:=n * size) (by rw [hsz];exact Nat.le_refl _) hl
      exact ⟨n,_,vs,h,g2,Src.ofSlice w hu ad n c vs g1 g3 g4⟩
    ·cases h
   ·cases h
  ·cases h
 ·cases h
theorem R.kill (h:R μ σ w) (b:Nat):R μ (σ.set b .dead) w:=by
 have side (b':Nat) (o':AObj) (hb:(σ.set b .dead)[b']? = some o'):o' = .dead ∧ b' < σ.length ∨ σ[b']? = some o':=by
  by_cases hbb:b = b'
  ·subst hbb
   have hlt:b < σ.length:=by
    rcases Nat.lt_or_ge b σ.length with h' | h'
    ·exact h'
    ·rw [List.getElem?_eq_none (by simpa using h')] at hb;cases hb
   rw [List.getElem?_set_self hlt] at hb
   cases hb;exact .inl ⟨rfl,hlt⟩
  ·rw [List.getElem?_set_ne hbb] at hb;exact .inr hb
 refine ⟨fun b' h'=>by simpa using h.dom b' h',h.lt,fun b' o' hb=>?_,fun b1 b2 o1 o2 e1 e2 h1 h2 he1 he2 hl1 hl2=>?_⟩
 ·rcases side b' o' hb with ⟨rfl,hlt⟩ | hb'
  ·obtain ⟨e,he,_⟩:=h.obj b' σ[b'] (by simp [hlt])
   exact ⟨e,he,trivial⟩
  ·exact h.obj b' o' hb'
 ·rcases side b1 o1 h1 with ⟨rfl,_⟩ | h1'
  ·cases hl1
  ·rcases side b2 o2 h2 with ⟨rfl,_⟩ | h2'
   ·cases hl2
   ·exact h.inj b1 b2 o1 o2 e1 e2 h1' h2' he1 he2 hl1 hl2
theorem R.adopt (h:R μ σ w) {o':AObj} {e e':Ent} {b:Nat} (he:μ b = some e) (hw:e.wr = true) (heb:e'.blk = e.blk) (ho:ORel (μ.push σ.length e') w o' e')
  (hno:∀ b2 o2 e2,σ[b2]? = some o2 → o2.live = true → μ b2 = some e2 → e2.blk ≠ e.blk):R (μ.push σ.length e') (σ ++ [o']) w ∧ Ext μ (μ.push σ.length e') w:=by
 have hf:=h.fresh
 have hle:=Emb.push_le (e:=e') hf
 have old (b:Nat) (hb:b ≠ σ.length):μ.push σ.length e' b = μ b:=by unfold Emb.push;rw [if_neg hb]
 have new:μ.push σ.length e' σ.length = some e':=push_self _ _ _
 have split_ (b1:Nat) (o1:AObj) (h1:(σ ++ [o'])[b1]? = some o1):b1 = σ.length ∧ o1 = o' ∨ b1 ≠ σ.length ∧ σ[b1]? = some o1:=by
  by_cases hbn:b1 = σ.length
  ·left
   subst hbn
   rw [List.getElem?_append_right (Nat.le_refl _)] at h1
   simp at h1
   exact ⟨rfl,h1.symm⟩
  ·right
   have hlt:b1 < σ.length:=by
    rcases Nat.lt_or_ge b1 σ.length with h' | h'
    ·exact h'
    ·rw [List.getElem?_eq_none (by simp;omega)] at h1;cases h1
   rw [List.getElem?_append_left hlt] at h1
   exact ⟨hbn,h1⟩
 refine ⟨⟨fun b hb=>?_,fun b e2 hb=>?_,fun b o2 hb=>?_,fun b1 b2 o1 o2 e1 e2 h1 h2 he1 he2 hl1 hl2 hw1 hbk=>?_⟩,⟨hle,fun b2 e2 hb hn=>?_⟩⟩
 ·by_cases hbn:b = σ.length
  ·subst hbn;simp
  ·rw [old b hbn] at hb;have:=h.dom b hb;simp;omega
 ·by_cases hbn:b = σ.length
  ·subst hbn;rw [new] at hb;cases hb;rw [heb];exact h.lt _ _ he
  ·rw [old b hbn] at hb;exact h.lt b e2 hb
 ·rcases split_ b o2 hb with ⟨rfl,rfl⟩ | ⟨hbn,hb'⟩
  ·exact ⟨e',new,ho⟩
  ·obtain ⟨e2,he2,ho2⟩:=h.obj b o2 hb'
   exact ⟨e2,hle _ _ he2,ho2.mono hle⟩
 ·rcases split_ b1 o1 h1 with ⟨rfl,rfl⟩ | ⟨hbn1,h1'⟩ <;> rcases split_ b2 o2 h2 with ⟨rfl,rfl⟩ | ⟨hbn2,h2'⟩
  ·rfl
  ·rw [new] at he1;cases he1
   rw [old b2 hbn2] at he2
   exact absurd (hbk.trans heb) (hno b2 o2 e2 h2' hl2 he2)
  ·rw [new] at he2;cases he2
   rw [old b1 hbn1] at he1
   exact absurd (hbk.symm.trans heb) (hno b1 o1 e1 h1' hl1 he1)
  ·rw [old b1 hbn1] at he1
   rw [old b2 hbn2] at he2
   exact h.inj b1 b2 o1 o2 e1 e2 h1' h2' he1 he2 hl1 hl2 hw1 hbk
 ·right
  by_cases hbn:b2 = σ.length
  ·subst hbn;rw [new] at hb;cases hb;exact ⟨b,e,he,heb.symm,hw⟩
  ·rw [old b2 hbn,hn] at hb;cases hb
theorem setCells_upd {b:Nat} {ty:TypeId} {fr:Nat × Nat}:∀ (vs:List Value) (off:Nat) (cs':Array Value) (w:World),w.heap[b]? = some (.cells cs' ty fr) →
  ∃ cs2,Upd w (w.setCells b off vs) b (.cells cs2 ty fr) ∧ cs2.size = cs'.size ∧ (∀ j,j < vs.length → off + j < cs'.size → cs2[off + j]? = vs[j]?) ∧ (∀ j,(j < off ∨ off + vs.length ≤ j) → cs2[j]? = cs'[j]?)
 | [],off,cs',w,h=>⟨cs',⟨rfl,rfl,rfl,rfl,h,fun _ _=>rfl⟩,rfl,fun j hj=>by simp at hj,fun _ _=>rfl⟩
 | v :: r,off,cs',w,h=>by
  have hu:=setCell_upd h off v
  obtain ⟨cs2,h1,h2,h3,h4⟩:=setCells_upd r (off + 1) (cs'.setIfInBounds off v) (w.setCell ⟨b,off,none⟩ v) hu.at_
  refine ⟨cs2,⟨h1.os,h1.tape,h1.output,h1.size.trans hu.size,h1.at_,fun k hk=>(h1.other k hk).trans (hu.other k hk)⟩,by simpa using h2,fun j hj hlt=>?_,fun j hj=>?_⟩
  ·cases j with
   | zero=>
    rw [h4 (off + 0) (.inl (by omega))]
    simp only [Nat.add_zero] at hlt ⊢
    rw [Array.getElem?_setIfInBounds_self_of_lt hlt];simp
   | succ j=>
    have:=h3 j (by simpa using hj) (by simp;omega)
    rw [show off + (j + 1) = off + 1 + j from by omega,this];simp
  ·have hj':j < off + 1 ∨ off + 1 + r.length ≤ j:=by simp at hj;omega
   rw [h4 j hj']
   rw [Array.getElem?_setIfInBounds_ne (by simp at hj;omega)]
theorem joinW_ok {t:Mk} {e ty:TypeId} {off n n':Nat} (h:t.ok ty off n n') (off2 m m':Nat):(joinW t e).ok ty off2 m m':=by
 unfold joinW
 split
 ·rename_i he;subst he;exact h
 ·trivial
theorem joinW_new (t:Mk) (e:TypeId) (off n n':Nat):(joinW t e).ok e off n n':=by
 unfold joinW
 split
 ·rename_i he;subst he;rfl
 ·trivial
theorem append_sound {isStr:Bool} {t t2 ty e:TypeId} {ts tx:TV} {vs vx:Value} {kv:AV → St → Out} (H:Sit μ0 w0 μ lam env σ a w) (hu:P.underlying t = some (.slice e)) (hz:zeroFits P e = true)
  (hk:(isStr = false ∧ ∃ e',P.underlying t2 = some (.slice e')) ∨ (isStr = true ∧ P.underlying t2 = some .string)) (hs:TRel μ lam ts vs) (hx:TRel μ lam tx vx)
  (h0:appendK isStr e (szOf P e) (bytesOfT P e) env σ ts tx kv = some out) :
  ∃ μ' x v σ' w',(Builtin.append_ #[t,t2] ty #[vs,vx]).run P w = .ok v w' ∧ Sit μ0 w0 μ' lam env σ' a w' ∧ VRel μ' x v ∧ kv x σ' = some out:=by
 unfold appendK at h0
 obtain ⟨n,new,news,h,hnew,hsrc⟩:=src_sound H hx hk h0
 clear h0
 obtain ⟨inf,z,hinf,hzero,hzs⟩:∃ inf z,P.info? e = some inf ∧ inf.zero = some z ∧ z.cells.size = inf.size:=by
  unfold zeroFits at hz
  split at hz
  ·rename_i z hz0
   obtain ⟨v,hv,hr⟩:=run_zeroValue (P:=P) hz0 μ w
   unfold zeroOf at hz0
   split at hz0
   ·rename_i inf hinf
    split at hz0
    ·rename_i zv hzv
     refine ⟨inf,zv,hinf,hzv,?_⟩
     have hr2:=ofV_rel (μ:=μ) hz0
     have:=hr2.cells.length
     simp [szOf,hinf] at hz this
     omega
    ·cases hz0
   ·cases hz0
  ·cases hz
 have hsz:szOf P e = inf.size:=by simp [szOf,hinf]
 have hby:bytesOfT P e = inf.bytes:=by simp [bytesOfT,hinf]
 rw [hsz,hby] at h
 rw [hsz] at hsrc
 have hzl:∀ k,(Builtin.zeroCells z.cells k).size = k * inf.size:=fun k=>by simp [Builtin.zeroCells,hzs]
 split at h
 ·have hv:=hs.val
  cases hv with
  | nslice _=>
   split at h
   ·rename_i hn
    subst hn
    have hnil:news = []:=by have:=hsrc.newsLen;simpa using this
    subst hnil
    exact ⟨μ,_,_,σ,w,run_append_nothing w t t2 ty e inf hu hinf none 0 0 (Nat.le_refl _) vx hsrc,H,.nslice _,h⟩
   ·rename_i hn
    split at h
    ·rename_i hfit
     have hrun:=run_append_grow_src (P:=P) w t t2 ty e inf z hu hinf hzero none 0 0 [] (run_firstCells_none _ _ _ _ _) vx n news hsrc (by omega) (by omega)
      (growslice_fits (by omega) (by simpa using hfit.1))
     simp only [Nat.zero_add,List.nil_append] at hrun
     have hg:Grew w (w.drew.alloc (.cells (news.toArray ++ Builtin.zeroCells z.cells (grownCap w n 0 e - n)) e)) (.cells (news.toArray ++ Builtin.zeroCells z.cells (grownCap w n 0 e - n)) e):=Grew.drewAlloc _ _
     have hnl:=hnew.length
     have hcr:CRel μ new (news.toArray ++ Builtin.zeroCells z.cells (grownCap w n 0 e - n)) 0:=by
      intro i x hi
      obtain ⟨v,hv,hr⟩:=hnew.get hi
      have hlt:i < news.length:=(List.getElem?_eq_some_iff.1 hv).1
      refine ⟨⟨v,by rw [Nat.zero_add,Array.getElem?_append_left (by simpa using hlt)];simpa using hv,hr⟩,?_⟩
      rw [← hr.one];exact hsrc.one v (List.mem_of_getElem? hv)
     have hroom:n * inf.size + (grownCap w n 0 e - n) * inf.size = grownCap w n 0 e * inf.size:=by
      rw [← Nat.add_mul];congr 1;have:=grownCap_ge w n 0 e;omega
     have hS:=H.newH hg hcr (by simp;omega) (t:=.row e) rfl
     refine ⟨_,_,_,_,_,hrun,hS,?_,h⟩
     exact .slice σ.length 0 ⟨w.heap.size,0,_,true⟩ n none inf.size _ (grownCap w n 0 e) (push_self _ _ _) ⟨rfl,rfl⟩ (fun _=>rfl) (by have:=hsrc.newsLen;simp [hzl];omega) (fun c' h=>by cases h) (grownCap_ge w n 0 e)
    ·cases h
 ·rename_i b off len cap sz
  have hv:=hs.val
  split at h
  ·rename_i hsz2
   split at h
   ·rename_i cs wt hcs
    split at h
    ·rename_i hl
     split at h
     ·rename_i hfit
      have hv0:=hv
      cases hv with
      | slice _ _ en _ _ _ ad c he ha ha' hc hcap hlen=>
       subst hsz2
       obtain ⟨e',he',hob⟩:=H.r.obj b _ hcs
       rw [he] at he';cases he'
       obtain ⟨cs',ety,fr,h1,h2,h3,h4,h5⟩:=hob
       obtain ⟨hw,hfz,hty⟩:=h5 _ rfl
       obtain ⟨olds,g1,g2,g3,g4⟩:=slice_cells H.r hv0 (cs:=cs) (by simp [cellsAt,hcs]) (m:=len * inf.size) (Nat.le_refl _) hl
       have hoth:∀ b2 o2 e2,(σ.set b .dead)[b2]? = some o2 → o2.live = true → μ b2 = some e2 → e2.blk ≠ en.blk:=by
        intro b2 o2 e2 hb2 hl2 he2 hek
        by_cases hbb:b = b2
        ·subst hbb
         have hlt:b < σ.length:=(List.getElem?_eq_some_iff.1 hcs).1
         rw [List.getElem?_set_self hlt] at hb2;cases hb2;cases hl2
        ·rw [List.getElem?_set_ne hbb] at hb2
         exact hbb (H.r.inj b b2 _ o2 en e2 hcs hb2 he he2 rfl hl2 hw hek).symm
       by_cases hroom:len + n ≤ c
       ·-- there is room
        have hadr:ad = ⟨en.blk,ad.off,none⟩:=by cases ad;simp at ha;simp [ha.1,ha.2]
        rcases Nat.eq_zero_or_pos c with hc0 | hcpos
        ·have hn0:n = 0:=by omega
         have hl0:len = 0:=by omega
         subst hn0
         have hnil:news = []:=by have:=hsrc.newsLen;simpa using this
         subst hnil
         have hrun:=run_append_nothing (P:=P) w t t2 ty e inf hu hinf (some ad) len c hlen vx hsrc
         have hn':new = []:=by have:=hnew.length;simpa using this
         subst hn'
         obtain ⟨hR,hE⟩:=(H.r.kill b).adopt (o':=.cells ((cs.drop off).take (len * inf.size) ++ []) (.rw (joinW wt e))) (e':=⟨en.blk,en.off + off,0,true⟩) he hw rfl
          ⟨cs',ety,fr,h1,by intro i x hi;subst hl0;simp at hi,by subst hl0;simp,by simp;omega,fun t1 h1=>by cases h1;exact ⟨rfl,fun j hj hj'=>by simp at hj hj';omega,joinW_ok hty _ _ _⟩⟩ hoth
         simp only [List.length_set] at hR hE
         refine ⟨_,_,_,_,_,hrun,H.step hR hE (Fr.refl _ _),?_,h⟩
         exact .slice σ.length 0 ⟨en.blk,en.off + off,0,true⟩ _ none inf.size ad c (push_self _ _ _) ha (fun h=>by omega) (by simp [hc0]) (fun c' h=>by cases h) (by omega)
        ·have had:=ha' hcpos
         subst had
         have hmul:(len + n) * inf.size ≤ c * inf.size:=Nat.mul_le_mul_right _ hroom
         rw [Nat.add_mul] at hmul
         have hnl:news.length = n * inf.size:=hsrc.newsLen
         have hrun:=run_append_room_src (P:=P) w t t2 ty e inf hu hinf en.blk (en.off + off) len c vx n news hsrc hroom
          (fun j hj=>by rw [cell_of_heap h1];simp;omega)
          (fun j hj=>by
           rw [frozen_of_heap h1]
           have:=hfz (en.off + off + len * inf.size + j) (by omega) (by omega)
           simp only [Bool.and_eq_false_iff,decide_eq_false_iff_not];omega)
         obtain ⟨cs2,hup,hs2,hin,hout⟩:=setCells_upd (b:=en.blk) news (en.off + off + len * inf.size) cs' w h1
         have hR1:=H.r.upd (o':=.dead) hcs he hw rfl hup trivial
         have hcr:CRel μ ((cs.drop off).take (len * inf.size) ++ new) cs2 (en.off + off):=by
          intro i x hi
          have htl:((cs.drop off).take (len * inf.size)).length = len * inf.size:=by simp;omega
          by_cases hlt:i < len * inf.size
          ·rw [List.getElem?_append_left (by omega),List.getElem?_take,if_pos hlt,List.getElem?_drop] at hi
           obtain ⟨⟨v,hv,hr⟩,ho⟩:=h2 (off + i) x hi
           refine ⟨⟨v,?_,hr⟩,ho⟩
           rw [hout _ (.inl (by omega)),Nat.add_assoc];exact hv
          ·rw [List.getElem?_append_right (by omega),htl] at hi
           obtain ⟨v,hv,hr⟩:=hnew.get hi
           have hlt2:i - len * inf.size < news.length:=(List.getElem?_eq_some_iff.1 hv).1
           refine ⟨⟨v,?_,hr⟩,?_⟩
           ·have:=hin (i - len * inf.size) hlt2 (by omega)
            rw [show en.off + off + i = en.off + off + len * inf.size + (i - len * inf.size) from by omega,this];exact hv
           ·rw [← hr.one];exact hsrc.one v (List.mem_of_getElem? hv)
         have hnewl:=hnew.length
         obtain ⟨hR,hE⟩:=hR1.adopt (o':=.cells ((cs.drop off).take (len * inf.size) ++ new) (.rw (joinW wt e))) (e':=⟨en.blk,en.off + off,en.room - off,true⟩) he hw rfl
          ⟨cs2,ety,fr,hup.at_,by simp only [List.length_set];exact hcr.mono (Emb.push_le H.r.fresh),by simp;omega,by simp;omega,fun t1 h1=>by cases h1;exact ⟨rfl,fun j hj hj'=>by simp at hj hj';exact hfz j (by omega) (by omega),joinW_ok hty _ _ _⟩⟩ hoth
         simp only [List.length_set] at hR hE
         have hfr:=hup.fr he hw
         refine ⟨_,_,_,_,_,hrun,H.step hR ⟨hE.le,fun b e hb hn=>?_⟩ hfr,?_,h⟩
         ·rcases hE.new b e hb hn with h' | h'
          ·exact .inl (by rw [hup.size] at h';exact h')
          ·exact .inr h'
         ·refine .slice σ.length 0 ⟨en.blk,en.off + off,en.room - off,true⟩ _ none inf.size _ c (push_self _ _ _) ⟨rfl,rfl⟩ (fun _=>by simp) ?_ (fun c' h=>by cases h) hroom
          simp;omega
       ·-- there is none
        have hold:(Builtin.firstCells inf.size len (.slice (some ad) len c)).run P w.drew = .ok olds.toArray w.drew:=by
         exact run_firstCells_some w.drew inf.size len ad len c olds g1 (by simpa using g3)
        have hrun:=run_append_grow_src (P:=P) w t t2 ty e inf z hu hinf hzero (some ad) len c olds hold vx n news hsrc (by omega) (by omega) (growslice_fits (by omega) hfit.1)
        have hg:=Grew.drewAlloc w (.cells ((olds ++ news).toArray ++ Builtin.zeroCells z.cells (grownCap w (len + n) c e - (len + n))) e)
        have hnl:news.length = n * inf.size:=hsrc.newsLen
        have hnewl:=hnew.length
        have hall:VRels μ ((cs.drop off).take (len * inf.size) ++ new) (olds ++ news):=g2.append hnew
        have hcr:CRel μ ((cs.drop off).take (len * inf.size) ++ new) ((olds ++ news).toArray ++ Builtin.zeroCells z.cells (grownCap w (len + n) c e - (len + n))) 0:=by
         intro i x hi
         obtain ⟨v,hv,hr⟩:=hall.get hi
         have hlt:i < (olds ++ news).length:=(List.getElem?_eq_some_iff.1 hv).1
         refine ⟨⟨v,by rw [Nat.zero_add,Array.getElem?_append_left (by simpa using hlt)];simpa using hv,hr⟩,?_⟩
         rw [← hr.one]
         rcases List.mem_append.1 (List.mem_of_getElem? hv) with hm | hm
         ·exact g4 v hm
         ·exact hsrc.one v hm
        have hroom2:(len + n) * inf.size + (grownCap w (len + n) c e - (len + n)) * inf.size = grownCap w (len + n) c e * inf.size:=by
         rw [← Nat.add_mul];congr 1;have:=grownCap_ge w (len + n) c e;omega
        have hall_l:=hall.length
        have hle:=Emb.push_le (e:=(⟨w.heap.size,0,grownCap w (len + n) c e * inf.size,true⟩:Ent)) H.r.fresh
        rw [Nat.add_mul] at hroom2
        obtain ⟨hR,hE⟩:=(H.r.kill b).grow hg (o:=.cells ((cs.drop off).take (len * inf.size) ++ new) (.rw (joinW wt e))) (e:=⟨w.heap.size,0,grownCap w (len + n) c e * inf.size,true⟩) rfl
         ⟨_,e,(0,0),hg.new,by simp only [List.length_set];exact hcr.mono hle,by rw [hall_l];simp;omega,by simp [hzl];omega,fun t1 h1=>by cases h1;exact ⟨rfl,fun j _ _ h=>by simp at h,joinW_new _ _ _ _ _⟩⟩
        simp only [List.length_set] at hR hE
        refine ⟨_,_,_,_,_,hrun,H.step hR hE (hg.fr μ),?_,h⟩
        exact .slice σ.length 0 ⟨w.heap.size,0,_,true⟩ _ none inf.size _ (grownCap w (len + n) c e) (push_self _ _ _) ⟨rfl,rfl⟩ (fun _=>rfl) (by simp) (fun c' h=>by cases h) (grownCap_ge _ _ _ _)
     ·cases h
    ·cases h
   ·cases h
  ·cases h
 ·cases h
end
end Go.AM

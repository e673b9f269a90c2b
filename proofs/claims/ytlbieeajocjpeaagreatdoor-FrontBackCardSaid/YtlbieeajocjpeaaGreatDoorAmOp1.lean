/- Each operation of the interpreter, held against the model's: plain values, memory, calls. -/
import Derived.Test.YtlbieeajocjpeaaGreatDoorAmMem
set_option linter.unusedSimpArgs false
namespace Go.AM
open Go.RowKit
def EndR (μ:Emb) (w:World) (out:Res × St) (e:Ending) (w':World):Prop:=
 ∃ μ',R μ' out.2 w' ∧ Ext μ μ' w ∧ Fr μ w w' ∧
  match out.1 with
  | .ret x=>∃ v,e = .returned v ∧ VRel μ' x v
  | .pan x=>∃ v,e = .panicked [{ v,recovered:=false }] ∧ VRel μ' x v
def CallOk (P:Program) (call:Caller):Prop:=
 ∀ f args σ out,call f args σ = some out →
  ((∃ fn,P.funcs[f]? = some fn ∧ fn.body.isSome = true) ∧ ∀ μ w (args':Array Value),R μ σ w → VRels μ args args'.toList → Calls P f args' w (EndR μ w out)) ∨
  ((∃ fn,P.funcs[f]? = some fn ∧ fn.body.isSome = false) ∧ ∀ μ w (args':Array Value),R μ σ w → VRels μ args args'.toList → ∃ v w',(callFunc f args').run P w = .ok (.value v) w' ∧ EndR μ w out (.returned v) w')
def KOk (μ0:Emb) (w0:World) (a:Act) (dst:Option Tmp) (next:Act → World → Prop) (out:Res × St) (k:TV → Env → St → Out):Prop:=
 ∀ t env σ μ lam v w,Sit μ0 w0 μ lam env σ a w → TRel μ lam t v → k t env σ = some out → next (a.put dst v) w
def KpOk (μ0:Emb) (w0:World) (Q:Exit → Act → World → Prop) (out:Res × St) (kp:AV → Env → St → Out):Prop:=
 ∀ x env σ μ lam a v w,Sit μ0 w0 μ lam env σ a w → VRel μ x v → kp x env σ = some out → Q (.panic [{ v,recovered:=false }]) a w
section
variable {P:Program} {μ0 μ:Emb} {w0 w:World} {lam:Lam} {env:Env} {σ:St} {a:Act} {o:Oper} {next:Act → World → Prop} {Q:Exit → Act → World → Prop} {out:Res × St} {k:TV → Env → St → Out} {kp:AV → Env → St → Out}
theorem wp_value {v:Value} {w':World} (h:(execOp a.eval o).run P w = .ok (.value v) w') (hn:next (a.put o.dst v) w'):o.wp P a w next Q:=by
 unfold Oper.wp;rw [h];exact hn
theorem wp_skipped {w':World} (h:(execOp a.eval o).run P w = .ok .skip w') (hn:next (a.put o.dst undef) w'):o.wp P a w next Q:=by
 unfold Oper.wp;rw [h];exact hn
theorem op_val (H:Sit μ0 w0 μ lam env σ a w) (hk:KOk μ0 w0 a o.dst next out k) {t:TV} {v:Value} (h:(execOp a.eval o).run P w = .ok (.value v) w) (ht:TRel μ lam t v) (hx:k t env σ = some out):o.wp P a w next Q:=
 wp_value h (hk _ _ _ _ _ _ _ H ht hx)
theorem TRel.val {x:AV} {v:Value} (h:TRel μ lam (.v x) v):VRel μ x v:=by cases h;assumption
theorem op_move {x:Operand} (H:Sit μ0 w0 μ lam env σ a w) (hk:KOk μ0 w0 a o.dst next out k) (ho:o.op = .move x ∨ o.op = .assign x) (hx:k (env.get x) env σ = some out):o.wp P a w next Q:=
 op_val H hk (by rcases ho with ho | ho <;> simp [execOp,ho]) (H.get x) hx
theorem op_pick {c x y:Operand} (H:Sit μ0 w0 μ lam env σ a w) (hk:KOk μ0 w0 a o.dst next out k) (ho:o.op = .pick c x y)
  (hx:(match env.get c with | .v (.bool t)=>cond t (k (env.get x) env σ) (k (env.get y) env σ) | _=>none) = some out):o.wp P a w next Q:=by
 have hc:=H.get c
 split at hx
 ·rename_i t ht
  rw [ht] at hc
  have hb:=hc.val
  generalize hv:a.eval c = v at hb
  cases hb
  cases t
  ·exact op_val H hk (v:=a.eval y) (by simp [execOp,ho,hv,asBool]) (H.get y) hx
  ·exact op_val H hk (v:=a.eval x) (by simp [execOp,ho,hv,asBool]) (H.get x) hx
 ·cases hx
theorem killT_rel {lam':Lam} {t:TV} {v:Value} {d:Nat} (h:TRel μ lam t v) (hl:∀ j,j ≠ d → lam' j = lam j):TRel μ lam' (killT d t) v:=by
 cases h with
 | v x v h=>exact .v _ _ h
 | lp k off blk h=>
  show TRel μ lam' (if k = d then .no else .lp k off) _
  by_cases hk:k = d
  ·rw [if_pos hk];exact .no _
  ·rw [if_neg hk];exact .lp _ _ _ (by rw [hl _ hk];exact h)
 | ls k n blk h=>
  show TRel μ lam' (if k = d then .no else .ls k n) _
  by_cases hk:k = d
  ·rw [if_pos hk];exact .no _
  ·rw [if_neg hk];exact .ls _ _ _ (by rw [hl _ hk];exact h)
 | gl g off=>exact .gl _ _
 | no v=>exact .no _
theorem lookL_setL (l:Locs) (d:Nat) (cs:List AV):lookL (setL l d cs) d = some cs:=by
 induction l with
 | nil=>simp [setL,lookL]
 | cons p r ih=>
  obtain ⟨k,c⟩:=p
  unfold setL
  split
  ·rename_i hk;subst hk;simp [lookL]
  ·rename_i hk
   split
   ·simp [lookL]
   ·simp [lookL,hk,ih]
theorem lookL_setL_ne (l:Locs) (d:Nat) (cs:List AV) {j:Nat} (h:j ≠ d):lookL (setL l d cs) j = lookL l j:=by
 induction l with
 | nil=>simp [setL,lookL];omega
 | cons p r ih=>
  obtain ⟨k,c⟩:=p
  unfold setL
  split
  ·rename_i hk;subst hk;simp [lookL];rw [if_neg (fun e=>h e.symm),if_neg (fun e=>h e.symm)]
  ·split
   ·rw [lookL,if_neg (fun e=>h e.symm)]
   ·simp [lookL,ih]
theorem setL_comm (l:Locs) {a b:Nat} (h:a ≠ b) (x y:List AV):setL (setL l a x) b y = setL (setL l b y) a x:=by
 induction l with
 | nil=>
  rcases Nat.lt_or_gt_of_ne h with hlt | hgt
  ·simp only [setL,if_neg h,if_neg h.symm,if_pos hlt,if_neg (Nat.lt_asymm hlt)]
  ·simp only [setL,if_neg h,if_neg h.symm,if_pos hgt,if_neg (Nat.lt_asymm hgt)]
 | cons p r ih=>
  obtain ⟨k,c⟩:=p
  by_cases ha:k = a
  ·subst ha
   rcases Nat.lt_or_gt_of_ne h with hlt | hgt
   ·simp [setL,h,Nat.lt_asymm hlt]
   ·simp [setL,h,h.symm,hgt,Nat.lt_asymm hgt]
  ·by_cases hb:k = b
   ·subst hb
    rcases Nat.lt_or_gt_of_ne h with hlt | hgt
    ·simp [setL,h,h.symm,hlt,Nat.lt_asymm hlt]
    ·simp [setL,h.symm,Nat.lt_asymm hgt]
   ·by_cases ha':a < k
    ·by_cases hb':b < k
     ·rcases Nat.lt_or_gt_of_ne h with hlt | hgt
      ·simp [setL,ha,hb,ha',hb',h,h.symm,hlt,Nat.lt_asymm hlt]
      ·simp [setL,ha,hb,ha',hb',h,h.symm,hgt,Nat.lt_asymm hgt]
     ·have hab:a < b:=by omega
      simp [setL,ha,hb,ha',hb',h,hab,Nat.lt_asymm hab]
    ·by_cases hb':b < k
     ·have hba:b < a:=by omega
      simp [setL,ha,hb,ha',hb',h.symm,hba,Nat.lt_asymm hba]
     ·simp [setL,ha,hb,ha',hb',ih]
theorem Sit.newL {w':World} {cs:List AV} {cs':Array Value} {ty:TypeId} (H:Sit μ0 w0 μ lam env σ a w) (g:Grew w w' (.cells cs' ty)) (hc:VRels μ cs cs'.toList) (ho:cs.all AV.one = true) (d:Nat) :
  Sit μ0 w0 μ (fun j=>if j = d then some w.heap.size else lam j) (env.newL d cs) σ a w' where
 r:=by
  refine ⟨H.r.dom,fun b e h=>?_,fun b o h=>?_,H.r.inj⟩
  ·rw [g.size];have:=H.r.lt b e h;omega
  ·obtain ⟨e,he,hr⟩:=H.r.obj b o h
   exact ⟨e,he,hr.carry (g.old (H.r.lt b e he))⟩
 ext:=H.ext
 fr:=H.fr.trans H.ext (g.fr μ)
 size:=by simp [Env.newL,H.size]
 tmps:=fun i t hi=>by
  simp only [Env.newL,List.getElem?_map] at hi
  cases ht:env.tmps[i]? with
  | none=>rw [ht] at hi;cases hi
  | some t0=>rw [ht] at hi;cases hi;exact killT_rel (H.tmps i t0 ht) fun j hj=>if_neg hj
 locs:=fun j c hj=>by
  simp only [Env.newL] at hj
  by_cases hd:j = d
  ·subst hd
   rw [lookL_setL] at hj
   cases hj
   refine ⟨w.heap.size,if_pos rfl,cs',ty,(0,0),g.new,CRel.of_rels hc ho,by simpa using hc.length,fun j _ h=>by simp at h,fun b e hb=>?_⟩
   have:=H.r.lt b e hb;omega
  ·rw [lookL_setL_ne _ _ _ hd] at hj
   obtain ⟨blk,hb,cs2,ty2,fr2,h1,h2,h3,h4,h5⟩:=H.locs j c hj
   exact ⟨blk,by rw [if_neg hd];exact hb,cs2,ty2,fr2,by rw [g.old (H.lamlt _ _ hb)];exact h1,h2,h3,h4,h5⟩
 inj:=fun j j' blk h h'=>by
  by_cases hd:j = d <;> by_cases hd':j' = d
  ·omega
  ·rw [if_pos hd] at h;rw [if_neg hd'] at h';cases h;have:=H.lamlt _ _ h';omega
  ·rw [if_neg hd] at h;rw [if_pos hd'] at h';cases h';have:=H.lamlt _ _ h;omega
  ·rw [if_neg hd] at h;rw [if_neg hd'] at h';exact H.inj _ _ _ h h'
 ge:=fun j blk h=>by
  by_cases hd:j = d
  ·rw [if_pos hd] at h;cases h;exact H.fr.size
  ·rw [if_neg hd] at h;exact H.ge _ _ h
 lamlt:=fun j blk h=>by
  rw [g.size]
  by_cases hd:j = d
  ·rw [if_pos hd] at h;cases h;omega
  ·rw [if_neg hd] at h;have:=H.lamlt _ _ h;omega
 defers:=H.defers
theorem Sit.newH {w':World} {cs:List AV} {cs':Array Value} {ty:TypeId} (H:Sit μ0 w0 μ lam env σ a w) (g:Grew w w' (.cells cs' ty)) (hc:CRel μ cs cs' 0) (hl:cs.length ≤ cs'.size) {t:Mk} (ht:t.ok ty 0 cs.length cs'.size) :
  Sit μ0 w0 (μ.push σ.length ⟨w.heap.size,0,cs'.size,true⟩) lam env (σ ++ [.cells cs (.rw t)]) a w':=by
 obtain ⟨r,x⟩:=H.r.grow g (o:=.cells cs (.rw t)) (e:=⟨w.heap.size,0,cs'.size,true⟩) rfl
  ⟨cs',ty,(0,0),g.new,hc.mono (Emb.push_le H.r.fresh),hl,by simp,fun t1 h1=>by cases h1;exact ⟨rfl,fun j _ _ h=>by simp at h,ht⟩⟩
 exact H.step r x (g.fr μ)
theorem push_self (μ:Emb) (n:Nat) (e:Ent):μ.push n e n = some e:=by unfold Emb.push;rw [if_pos rfl]
theorem box_sound {loc:Bool} {dst:Option Tmp} {cs:List AV} {cs':Array Value} {ty:TypeId} {w':World} (H:Sit μ0 w0 μ lam env σ a w) (hk:KOk μ0 w0 a o.dst next out k) (g:Grew w w' (.cells cs' ty)) (hc:VRels μ cs cs'.toList)
  (h:(execOp a.eval o).run P w = .ok (.value (.pointer (some ⟨w.heap.size,0,none⟩))) w') (hx:boxK ty loc dst env σ cs k = some out):o.wp P a w next Q:=by
 unfold boxK at hx
 split at hx
 ·rename_i hone
  split at hx
  ·rename_i d
   exact wp_value h (hk _ _ _ _ _ _ _ (H.newL g hc hone d) (.lp _ _ _ (if_pos rfl)) hx)
  ·have:=H.newH g (CRel.of_rels hc hone) (by simpa using Nat.le_of_eq hc.length) (t:=.box ty) ⟨rfl,rfl,by simpa using hc.length⟩
   refine wp_value h (hk _ _ _ _ _ _ _ this (.v _ _ ?_) hx)
   have hp:=VRel.ptr (μ:=μ.push σ.length ⟨w.heap.size,0,cs'.size,true⟩) σ.length 0 _ (push_self _ _ _)
   simpa using hp
 ·cases hx
theorem run_zeroValue {t:TypeId} {z:AV} (h:zeroOf P t = some z) (μ:Emb) (w:World):∃ v,(zeroValue t).run P w = .ok v w ∧ VRel μ z v:=by
 unfold zeroOf at h
 split at h
 ·rename_i i hi
  split at h
  ·rename_i v hv
   exact ⟨v,by simp [zeroValue,typeInfo,hi,hv],ofV_rel h⟩
  ·cases h
 ·cases h
theorem op_alloc {t:TypeId} {loc:Bool} (H:Sit μ0 w0 μ lam env σ a w) (hk:KOk μ0 w0 a o.dst next out k) (ho:o.op = .alloc t)
  (hx:(match zeroOf P t with | some z=>boxK t loc o.dst env σ z.cells k | none=>none) = some out):o.wp P a w next Q:=by
 split at hx
 ·rename_i z hz
  obtain ⟨v,hv,hr⟩:=run_zeroValue (P:=P) hz μ w
  exact box_sound H hk (Grew.alloc w (.cells v.cells t)) hr.cells (by simp [execOp,ho,Instr.alloc,hv,newVar,newRow]) hx
 ·cases hx
theorem op_box {t:TypeId} {x:Operand} {loc:Bool} (H:Sit μ0 w0 μ lam env σ a w) (hk:KOk μ0 w0 a o.dst next out k) (ho:o.op = .box t x)
  (hx:(match env.get x with | .v y=>boxK t loc o.dst env σ y.cells k | _=>none) = some out):o.wp P a w next Q:=by
 have hr:=H.get x
 split at hx
 ·rename_i y hy
  rw [hy] at hr
  exact box_sound H hk (Grew.alloc w (.cells (a.eval x).cells t)) hr.val.cells (by simp [execOp,ho,Instr.box,newVar,newRow]) hx
 ·cases hx
theorem cellsAt_some {b:Nat} {cs:List AV} (h:cellsAt σ b = some cs):∃ wr,σ[b]? = some (.cells cs wr):=by
 unfold cellsAt at h
 split at h
 ·rename_i c wr hc;cases h;exact ⟨wr,hc⟩
 ·cases h
theorem load_sound {t:TypeId} {x:TV} {v:Value} {kv:AV → Out} (H:Sit μ0 w0 μ lam env σ a w) (hr:TRel μ lam x v) (hx:loadK P t env σ x kv = some out) :
  ∃ y u,(Instr.loadAt t v).run P w = .ok u w ∧ VRel μ y u ∧ kv y = some out:=by
 unfold loadK at hx
 split at hx
 ·rename_i key off
  split at hx
  ·rename_i cs hcs
   cases hr with
   | lp _ _ blk hl=>
    obtain ⟨blk',hb',cs',ty,fr,h1,h2,_,_,_⟩:=H.locs key cs hcs
    rw [hl] at hb';cases hb'
    obtain ⟨y,hy,hky⟩:=partK_some hx
    obtain ⟨u,hu,hru⟩:=run_loadVar_part hy h1 h2
    rw [Nat.zero_add] at hu
    exact ⟨y,u,by simp [Instr.loadAt,Instr.sureAddr,hu],hru,hky⟩
  ·cases hx
 ·rename_i b off
  split at hx
  ·rename_i cs hcs
   obtain ⟨wr,hs⟩:=cellsAt_some hcs
   have hv:=hr.val
   cases hv with
   | ptr _ _ e he=>
    obtain ⟨e',he',cs',ty,fr,h1,h2,_⟩:=H.r.obj b _ hs
    rw [he] at he';cases he'
    obtain ⟨y,hy,hky⟩:=partK_some hx
    obtain ⟨u,hu,hru⟩:=run_loadVar_part hy h1 h2
    exact ⟨y,u,by simp [Instr.loadAt,Instr.sureAddr,hu],hru,hky⟩
  ·cases hx
 ·rename_i g off
  unfold globK at hx
  split at hx
  ·rename_i g' cs hs
   split at hx
   ·rename_i hg
    subst hg
    cases hr with
    | gl _ _=>
     obtain ⟨e',he',cs',ty,fr,h1,h2,h3,h4⟩:=H.r.obj g' _ hs
     obtain ⟨y,hy,hky⟩:=partK_some hx
     obtain ⟨u,hu,hru⟩:=run_loadVar_part hy h1 h2
     rw [h3,h4,Nat.zero_add] at hu
     exact ⟨y,u,by simp [Instr.loadAt,Instr.sureAddr,hu],hru,hky⟩
   ·cases hx
  ·cases hx
 ·cases hx
theorem op_load {t:TypeId} {x:Operand} (H:Sit μ0 w0 μ lam env σ a w) (hk:KOk μ0 w0 a o.dst next out k) (ho:o.op = .load t x)
  (hx:loadK P t env σ (env.get x) (fun y=>k (.v y) env σ) = some out):o.wp P a w next Q:=by
 obtain ⟨y,u,hu,hr,hky⟩:=load_sound H (H.get x) hx
 exact op_val H hk (by simp [execOp,ho,hu]) (.v _ _ hr) hky
theorem Sit.updL {w':World} {key blk:Nat} {cs cs1:List AV} {cs' cs2:Array Value} {ty:TypeId} {fr:Nat × Nat} (H:Sit μ0 w0 μ lam env σ a w) (hcs:lookL env.locs key = some cs) (hl:lam key = some blk)
  (h1:w.heap[blk]? = some (.cells cs' ty fr)) (u:Upd w w' blk (.cells cs2 ty fr)) (hc:CRel μ cs1 cs2 0) (hsz:cs2.size = cs'.size) (hlen:cs1.length = cs.length) :
  Sit μ0 w0 μ lam { env with locs:=setL env.locs key cs1 } σ a w':=by
 obtain ⟨blk',hb',cs3,ty3,fr3,g1,g2,g3,g4,g5⟩:=H.locs key cs hcs
 rw [hl] at hb';cases hb'
 rw [h1] at g1;cases g1
 refine { H with r:=?_,fr:=?_,locs:=?_,lamlt:=?_ }
 ·refine ⟨H.r.dom,fun b e h=>by rw [u.size];exact H.r.lt b e h,fun b o h=>?_,H.r.inj⟩
  obtain ⟨e,he,hr⟩:=H.r.obj b o h
  exact ⟨e,he,hr.carry (u.other _ (g5 b e he))⟩
 ·refine ⟨u.os.trans H.fr.os,u.tape.trans H.fr.tape,u.output.trans H.fr.output,by rw [u.size];exact H.fr.size,fun k hk hn=>?_⟩
  rw [u.other k (fun e=>by have:=H.ge _ _ hl;omega)]
  exact H.fr.keep k hk hn
 ·intro j c hj
  by_cases hd:j = key
  ·subst hd
   rw [lookL_setL] at hj
   cases hj
   exact ⟨blk,hl,cs2,ty,fr,u.at_,hc,by rw [hlen,g3,hsz],by rw [hsz];exact g4,g5⟩
  ·rw [lookL_setL_ne _ _ _ hd] at hj
   obtain ⟨blk2,hb2,cs4,ty4,fr4,k1,k2,k3,k4,k5⟩:=H.locs j c hj
   refine ⟨blk2,hb2,cs4,ty4,fr4,?_,k2,k3,k4,k5⟩
   rw [u.other blk2 (fun e=>hd (by subst e;exact H.inj _ _ _ hl hb2))]
   exact k1
 ·intro j b hj;rw [u.size];exact H.lamlt j b hj
theorem op_store {t:TypeId} {x y:Operand} (H:Sit μ0 w0 μ lam env σ a w) (hk:KOk μ0 w0 a o.dst next out k) (ho:o.op = .store t x y)
  (hx:storeK P t env σ (env.get x) (env.get y) (fun ls σ'=>k .no { env with locs:=ls } σ') = some out):o.wp P a w next Q:=by
 unfold storeK at hx
 have hx0:=H.get x
 have hy0:=H.get y
 split at hx
 ·rename_i z hz
  rw [hz] at hy0
  have hv:=hy0.val
  generalize hyv:a.eval y = v at hv
  split at hx
  ·rename_i hsz0
   obtain ⟨hsz,hi⟩:=hsz0
   obtain ⟨i,hi⟩:=Option.isSome_iff_exists.1 hi
   split at hx
   ·rename_i hone
    have hvc:=hv.cells
    have hrun (ad:Addr):(Instr.storeAt t (.pointer (some ad)) v).run P w = (storeCells ad v.cells.toList 0).run P w:=by
     have hs:v.cells.size = szOf P t:=by rw [← hsz,hvc.length];simp
     simp only [Instr.storeAt,Instr.sureAddr,Sem.run_bind,Sem.run_pure,Result.andThen_ok,storeVar,run_sizeOf hi,hs,ne_eq,not_true_eq_false,if_false]
    split at hx
    ·rename_i key off hp
     rw [hp] at hx0
     generalize hxv:a.eval x = xv at hx0
     split at hx
     ·rename_i cs hcs
      split at hx
      ·rename_i hlen
       cases hx0 with
       | lp _ _ blk hl=>
        obtain ⟨blk',hb',cs',ty,fr,h1,h2,h3,h4,h5⟩:=H.locs key cs hcs
        rw [hl] at hb';cases hb'
        obtain ⟨w',cs2,hst,hu,hc2,hs2⟩:=run_storeCells_rel (P:=P) (b:=blk) (base:=0) (ty:=ty) (fr:=fr) z.cells v.cells.toList hvc hone off 0 cs cs' w h1 h2 (by omega) (by omega)
         (fun j _ hj=>h4 j (by omega))
        rw [Nat.zero_add] at hst
        rw [Nat.add_zero] at hc2
        have hS:=H.updL hcs hl h1 hu hc2 hs2 (setMany_length _ _ _)
        refine wp_skipped (w':=w') ?_ (hk _ _ _ _ _ _ _ hS (.no _) hx)
        simp [execOp,ho,hxv,hyv,hrun,hst]
      ·cases hx
     ·cases hx
    ·rename_i b off hp
     rw [hp] at hx0
     have hxv0:=hx0.val
     generalize hxv:a.eval x = xv at hxv0
     split at hx
     ·rename_i cs wty hcs
      split at hx
      ·rename_i hlen
       cases hxv0 with
       | ptr _ _ e he=>
        obtain ⟨e',he',hob⟩:=H.r.obj b _ hcs
        rw [he] at he';cases he'
        obtain ⟨cs',ty,fr,h1,h2,h3,h4,h5⟩:=hob
        obtain ⟨hw,hfz,hty⟩:=h5 _ rfl
        obtain ⟨w',cs2,hst,hu,hc2,hs2⟩:=run_storeCells_rel (P:=P) (b:=e.blk) (base:=e.off) (ty:=ty) (fr:=fr) z.cells v.cells.toList hvc hone off 0 cs cs' w h1 h2 (by omega) (by omega)
         (fun j hj hj'=>hfz j hj (by omega))
        rw [Nat.add_zero] at hc2
        have hR:=H.r.upd (o':=.cells (setMany cs off z.cells) (.rw _)) hcs he hw rfl hu ⟨cs2,ty,fr,hu.at_,hc2,by rw [setMany_length];exact h3,by omega,fun t1 h1=>by cases h1;exact ⟨hw,hfz,by rw [setMany_length];rw [hs2] at *;exact hty⟩⟩
        have hS:=H.step hR (Ext.refl μ w) (hu.fr he hw)
        refine wp_skipped (w':=w') ?_ (hk _ _ _ _ _ _ _ hS (.no _) hx)
        simp [execOp,ho,hxv,hyv,hrun,hst]
      ·cases hx
     ·cases hx
    ·cases hx
   ·cases hx
  ·cases hx
 ·cases hx
end
end Go.AM

/- Each operation of the interpreter, held against the model's: closures, rows made, bounds, slices of arrays, texts' bytes and runes, copies. -/
import Derived.Test.YtlbieeajocjpeaaGreatDoorAmOp5
import Derived.Laws.MakeOwn
import Derived.Laws.OwnMore
import Derived.Laws.RangeString
import Derived.Laws.IdiomStrings
import Derived.Lib.OthersKept
set_option linter.unusedSimpArgs false
namespace Go.AM
open Go.RowKit
section
variable {P:Program} {μ0 μ:Emb} {w0 w:World} {lam:Lam} {env:Env} {σ:St} {a:Act} {o:Oper} {next:Act → World → Prop} {Q:Exit → Act → World → Prop} {out:Res × St} {k:TV → Env → St → Out} {kp:AV → Env → St → Out}
theorem op_makeFunc {fn:Fn} {first captured:Array Operand} (H:Sit μ0 w0 μ lam env σ a w) (hk:KOk μ0 w0 a o.dst next out k) (ho:o.op = .makeFunc fn first captured)
  (hx:(match (generalizing:=false) fn with
   | .func f=>match valsOf (first.toList.map env.get) with
    | some l=>match valsOf (captured.toList.map env.get) with
     | some c=>k (.v (.func (.func f) l c)) env σ
     | none=>none
    | none=>none
   | _=>none) = some out):o.wp P a w next Q:=by
 cases fn with
 | func f=>
  dsimp only at hx
  split at hx
  ·rename_i l hl
   split at hx
   ·rename_i c hc
    refine op_val H hk (v:=.func (.func f) (first.map a.eval) (captured.map a.eval)) ?_ (.v _ _ (.func _ _ _ _ _ ?_ ?_)) hx
    ·simp only [execOp,ho,Instr.makeFunc];rfl
    ·simpa using vals_sound hl H
    ·simpa using vals_sound hc H
   ·cases hx
  ·cases hx
 | _=>cases hx
theorem op_cap {c:Call} {t:TypeId} {ts:List TypeId} {x:Operand} {xs:List Operand} (H:Sit μ0 w0 μ lam env σ a w) (hk:KOk μ0 w0 a o.dst next out k) (ho:o.op = .call c) (hc:c.callee = .builtin .cap)
  (ht:c.argTypes.toList = t :: ts) (ha:c.args.toList = x :: xs) (hx:(match capO P t (env.get x) with | some n=>k (.v (.int .i64 n)) env σ | none=>none) = some out):o.wp P a w next Q:=by
 split at hx
 ·rename_i n hn
  refine op_val H hk (v:=.int .i64 n) ?_ (.v _ _ (.int _ _)) hx
  have h1:=arr_of_toList ht
  have h2:=arr_of_toList ha
  have hxr:=H.get x
  have hcap:(Builtin.cap_ c.argTypes o.type (c.args.map a.eval)).run P w = .ok (.int .i64 n) w:=by
   have e1:c.argTypes[0]? = some t:=by rw [h1];simp
   have e2:(c.args.map a.eval)[0]? = some (a.eval x):=by rw [h2];simp
   unfold capO at hn
   split at hn
   ·rename_i e hu
    split at hn
    ·rename_i l cp sz hp
     cases hn
     rw [hp] at hxr
     have hv:=hxr.val
     generalize hxv:a.eval x = xv at hv e2
     cases hv with
     | nslice _=>simp only [Builtin.cap_,e1,e2,Sem.run_bind,run_underlying hu,Result.andThen_ok];rfl
    ·rename_i ad l cp sz hp
     cases hn
     rw [hp] at hxr
     have hv:=hxr.val
     generalize hxv:a.eval x = xv at hv e2
     cases hv with
     | slice _ _ en _ _ _ ad c he hha ha' hc hcap hlen=>
      have:=hcap _ rfl
      subst this
      simp only [Builtin.cap_,e1,e2,Sem.run_bind,run_underlying hu,Result.andThen_ok];rfl
    ·cases hn
   ·rename_i m e hu
    cases hn
    simp only [Builtin.cap_,e1,e2,Sem.run_bind,run_underlying hu,Result.andThen_ok];rfl
   ·cases hn
  simp only [execOp,ho,resolve,hc,Sem.run_bind,Sem.run_pure,Result.andThen_ok,invoke,builtin,hcap]
 ·cases hx
theorem op_arrSl {t:TypeId} {x:Operand} {lo hi:Option Operand} {n:Nat} {e:TypeId} (hP:POk P) (H:Sit μ0 w0 μ lam env σ a w) (hk:KOk μ0 w0 a o.dst next out k) (ho:o.op = .slice t x lo hi none)
  (hs:isArrSl P t = some (n,e))
  (hx:arrSlK (szOf P e) n σ (env.get x) (lo.map env.get) (hi.map env.get) (fun y=>k (.v y) env σ) = some out):o.wp P a w next Q:=by
 unfold arrSlK at hx
 have h1:=H.get x
 split at hx
 ·rename_i b off hp
  rw [hp] at h1
  have hv:=h1.val
  generalize hxv:a.eval x = xv at hv
  split at hx
  ·rename_i cs hcs
   split at hx
   ·rename_i hfit
    obtain ⟨h,hh,hx2⟩:=bound_some H hx
    obtain ⟨l,hl,hx3⟩:=bound_some H hx2
    split at hx3
    ·rename_i hb
     cases hv with
     | ptr _ _ en he=>
      obtain ⟨wr,hsb⟩:=cellsAt_some hcs
      obtain ⟨e',he',cs',ty,fr,g1,g2,g3,_⟩:=H.r.obj b _ hsb
      rw [he] at he';cases he'
      have hbd:=run_bounds (P:=P) (len:=n) (cap:=n) false hl hh hb.1 hb.2.1 hb.2.2 (Nat.le_refl _) w
      have hrun:(Instr.sliceAt t (.pointer (some ⟨en.blk,en.off + off,none⟩)) (lo.map a.eval) (hi.map a.eval) none).run P w =
        .ok (.slice (some (if n = l.toNat then ⟨en.blk,en.off + off,none⟩ else (⟨en.blk,en.off + off,none⟩:Addr).add (l.toNat * szOf P e))) (h.toNat - l.toNat) (n - l.toNat)) w:=by
       unfold isArrSl at hs
       split at hs
       ·rename_i arr hu
        split at hs
        ·rename_i n' e' hu2
         cases hs
         obtain ⟨inf,hinf⟩:=Option.isSome_iff_exists.1 (hP.arr arr n e hu2)
         simp only [Instr.sliceAt,Instr.slice,Sem.run_bind,run_underlying hu,Result.andThen_ok,asAddr,Sem.run_pure,run_underlying hu2,hbd,run_sizeOf hinf]
        ·cases hs
       ·rename_i n' e' hu2
        cases hs
        obtain ⟨inf,hinf⟩:=Option.isSome_iff_exists.1 (hP.arr t n e hu2)
        simp only [Instr.sliceAt,Instr.sureAddr,Sem.run_bind,run_underlying hu2,Result.andThen_ok,Sem.run_pure,hbd,run_sizeOf hinf]
       ·cases hs
      refine op_val H hk (v:=.slice (some (if n = l.toNat then ⟨en.blk,en.off + off,none⟩ else (⟨en.blk,en.off + off,none⟩:Addr).add (l.toNat * szOf P e))) (h.toNat - l.toNat) (n - l.toNat)) ?_ (.v _ _ ?_) hx3
      ·simp only [execOp,ho]
       refine exec_v ?_
       simp only [Option.map_none,hxv,hrun]
      ·refine .slice b _ en _ _ _ _ _ he ?_ ?_ ?_ ?_ ?_
       ·split
        ·exact ⟨rfl,rfl⟩
        ·rw [addr_add];exact ⟨rfl,rfl⟩
       ·intro hpos
        rw [if_neg (by omega),addr_add,Nat.add_assoc]
       ·have h1:(n - l.toNat) * szOf P e + l.toNat * szOf P e = n * szOf P e:=by rw [← Nat.add_mul];congr 1;omega
        omega
       ·intro c' hc';cases hc';rfl
       ·omega
    ·cases hx3
   ·cases hx
  ·cases hx
 ·cases hx
theorem op_range {t:TypeId} {x:Operand} (H:Sit μ0 w0 μ lam env σ a w) (hk:KOk μ0 w0 a o.dst next out k) (ho:o.op = .range t x)
  (hx:(match P.underlying t with
   | some .string=>match env.get x with | .v (.str s)=>k (.v (.ptr (some (σ.length,0)))) env (σ ++ [.iter s 0]) | _=>none
   | _=>none) = some out):o.wp P a w next Q:=by
 have h1:=H.get x
 split at hx
 ·rename_i hu
  split at hx
  ·rename_i s hp
   rw [hp] at h1
   have hv:=h1.val
   generalize hxv:a.eval x = xv at hv
   cases hv with
   | str _=>
    have hg:=Grew.alloc w (.stringIter ⟨s.toArray⟩ 0)
    obtain ⟨hR,hE⟩:=H.r.grow hg (o:=.iter s 0) (e:=⟨w.heap.size,0,0,true⟩) rfl ⟨hg.new,rfl,rfl⟩
    refine wp_value (v:=.pointer (some ⟨w.heap.size,0,none⟩)) (w':=w.iter ⟨s.toArray⟩ 0) ?_ (hk _ _ _ _ _ _ _ (H.step hR hE (hg.fr μ)) (.v _ _ ?_) hx)
    ·simp only [execOp,ho]
     exact exec_v (by rw [hxv];exact run_range_string w t _ hu)
    ·exact .ptr σ.length 0 ⟨w.heap.size,0,0,true⟩ (push_self _ _ _)
  ·cases hx
 ·cases hx
theorem iterAt_upd {b pos pos':Nat} {s:ByteArray} (h:w.heap[b]? = some (.stringIter s pos)):Upd w (w.iterAt b s pos') b (.stringIter s pos') where
 os:=rfl
 tape:=rfl
 output:=rfl
 size:=by simp [World.iterAt]
 at_:=by
  have hlt:b < w.heap.size:=(Array.getElem?_eq_some_iff.1 h).1
  simp [World.iterAt,hlt]
 other:=fun k hk=>by simp only [World.iterAt];rw [Array.getElem?_setIfInBounds_ne (Ne.symm hk)]
theorem op_next {it:Operand} (H:Sit μ0 w0 μ lam env σ a w) (hk:KOk μ0 w0 a o.dst next out k) (ho:o.op = .next it true)
  (hx:(match env.get it with | .v (.ptr (some (b,0)))=>nextK σ b (fun v σ'=>k (.v v) env σ') | _=>none) = some out):o.wp P a w next Q:=by
 have h1:=H.get it
 split at hx
 ·rename_i b hp
  rw [hp] at h1
  have hv:=h1.val
  generalize hxv:a.eval it = xv at hv
  cases hv with
  | ptr _ _ en he=>
   unfold nextK at hx
   split at hx
   ·rename_i s pos hs
    obtain ⟨e',he',hob⟩:=H.r.obj b _ hs
    rw [he] at he';cases he'
    obtain ⟨g1,g2,g3⟩:=hob
    split at hx
    ·rename_i hlt
     have hrun:=Lib.run_next_any_at (P:=P) w en.blk ⟨s.toArray⟩ pos o.type g1 hlt
     have hup:=iterAt_upd (pos':=pos + (Utf8.decode ⟨s.toArray⟩ pos).2) g1
     have hR:=H.r.upd hs he g2 rfl hup (o':=.iter s (pos + (Utf8.decode ⟨s.toArray⟩ pos).2)) ⟨hup.at_,g2,g3⟩
     refine wp_value (v:=.tuple #[.bool true,.int .i64 pos,.int .i32 (Utf8.decode ⟨s.toArray⟩ pos).1]) ?_ (hk _ _ _ _ _ _ _ (H.step hR (Ext.refl _ _) (hup.fr he g2)) (.v _ _ ?_) hx)
     ·simp only [execOp,ho,hxv,Nat.add_zero,g3]
      refine exec_v ?_
      exact hrun
     ·exact .tuple _ _ (.cons _ _ _ _ (.bool _) (.cons _ _ _ _ (.int _ _) (.cons _ _ _ _ (.int _ _) .nil)))
    ·rename_i hlt
     have hrun:=Lib.run_next_end_at (P:=P) w en.blk ⟨s.toArray⟩ pos o.type g1 hlt
     refine op_val H hk (v:=.tuple #[.bool false]) ?_ (.v _ _ (.tuple _ _ (.cons _ _ _ _ (.bool _) .nil))) hx
     simp only [execOp,ho,hxv,Nat.add_zero,g3]
     refine exec_v ?_
     exact hrun
   ·cases hx
 ·cases hx
theorem op_makeSlice {t:TypeId} {l c:Operand} (H:Sit μ0 w0 μ lam env σ a w) (hk:KOk μ0 w0 a o.dst next out k) (ho:o.op = .makeSlice t l c)
  (hx:natK (env.get l) (fun l=>natK (env.get c) fun c=>mkSlK P t l c σ fun v σ'=>k (.v v) env σ') = some out):o.wp P a w next Q:=by
 obtain ⟨kl,nl,hl,hx⟩:=natK_some hx
 obtain ⟨kc,nc,hc,hx⟩:=natK_some hx
 have h1:=H.get l
 rw [hl] at h1
 have hv1:=h1.val
 generalize hlv:a.eval l = lv at hv1
 have h2:=H.get c
 rw [hc] at h2
 have hv2:=h2.val
 generalize hcv:a.eval c = cv at hv2
 cases hv1
 cases hv2
 unfold mkSlK at hx
 split at hx
 ·rename_i e hu
  split at hx
  ·rename_i z hz
   split at hx
   ·rename_i hcond
    obtain ⟨hzl,⟨h0,hlc,hcm,hby⟩,hone⟩:=hcond
    obtain ⟨inf,zv,hinf,hzero,hzr⟩:∃ inf zv,P.info? e = some inf ∧ inf.zero = some zv ∧ VRel μ z zv:=by
     unfold zeroOf at hz
     split at hz
     ·rename_i inf hinf
      split at hz
      ·rename_i zv hzv;exact ⟨inf,zv,hinf,hzv,ofV_rel hz⟩
      ·cases hz
     ·cases hz
    have hsz:szOf P e = inf.size:=by simp [szOf,hinf]
    have hbe:bytesOfT P e = inf.bytes:=by simp [bytesOfT,hinf]
    rw [hbe] at hby
    have hzc:=hzr.cells
    have hzs:zv.cells.size = inf.size:=by have:=hzc.length;simp at this;omega
    have hrun:=run_make (P:=P) w t e inf zv hu hinf hzero kl kc nl nc h0 hlc (by
     have:((inf.bytes * nc.toNat:Nat):Int) ≤ 140737488355328:=by
      rw [Nat.mul_comm]
      generalize nc.toNat * inf.bytes = q at hby
      omega
     rw [Int.natCast_mul,Int.toNat_of_nonneg (by omega)] at this
     omega) (by omega)
    have hrr:=zeros_rel hzc nc.toNat
    rw [hzs] at hrr
    have hmade:madeCells zv.cells (nc.toNat * inf.size) = (Array.range (nc.toNat * inf.size)).map (fun i=>zv.cells[i % inf.size]!):=by unfold madeCells;rw [hzs]
    rw [← hmade] at hrr
    have hall:(zeros z.cells nc.toNat).all AV.one = true:=by
     generalize nc.toNat = m
     induction m with
     | zero=>rfl
     | succ m ih=>simp only [zeros,List.all_append,hone,ih,Bool.and_self]
    have hg:=Grew.alloc w (.cells (madeCells zv.cells (nc.toNat * inf.size)) e)
    have hS:=H.newH hg (CRel.of_rels hrr hall) (Nat.le_of_eq (hrr.length.trans Array.length_toList)) (t:=.row e) rfl
    refine wp_value (v:=.slice (some ⟨w.heap.size,0,none⟩) nl.toNat nc.toNat) ?_ (hk _ _ _ _ _ _ _ hS (.v _ _ ?_) hx)
    ·simp only [execOp,ho]
     exact exec_v (by rw [hlv,hcv];exact hrun)
    ·exact .slice σ.length 0 ⟨w.heap.size,0,_,true⟩ nl.toNat (some nc.toNat) (szOf P e) _ nc.toNat (push_self _ _ _) ⟨rfl,rfl⟩ (fun _=>rfl) (by rw [size_madeCells,hsz];dsimp only;omega) (fun c' h=>by cases h;rfl) (by omega)
   ·cases hx
  ·cases hx
 ·cases hx
theorem op_s2b {s d e:TypeId} {x:Operand} (H:Sit μ0 w0 μ lam env σ a w) (hk:KOk μ0 w0 a o.dst next out k) (ho:o.op = .convert s d x) (hs:isS2b P s d = some e)
  (hx:(match env.get x with | .v (.str bs)=>k (.v (.slice (some (σ.length,0)) bs.length none 1)) env (σ ++ [.cells (bytesAV bs) (.rw (.row e))]) | _=>none) = some out):o.wp P a w next Q:=by
 have h1:=H.get x
 split at hx
 ·rename_i bs hp
  rw [hp] at h1
  have hv:=h1.val
  generalize hxv:a.eval x = xv at hv
  cases hv with
  | str _=>
   unfold isS2b at hs
   split at hs
   ·rename_i e' hus hud
    split at hs
    ·rename_i hue
     cases hs
     have hrun:=run_bytes_of_string (P:=P) w s d e ⟨bs.toArray⟩ hus hud hue
     have hsz:(⟨bs.toArray⟩:ByteArray).size = bs.length:=rfl
     rw [hsz] at hrun
     generalize hcap:grownCap w bs.length 0 e = cap at hrun
     have hge:bs.length ≤ cap:=by rw [← hcap];exact grownCap_ge w bs.length 0 e
     have hrow:(bytesRow ⟨bs.toArray⟩ cap).size = cap:=by simp [bytesRow];omega
     have hg:=Grew.drewAlloc w (.cells (bytesRow ⟨bs.toArray⟩ cap) e ((bytesRow ⟨bs.toArray⟩ cap).size,(bytesRow ⟨bs.toArray⟩ cap).size + 1))
     have hcr:∀ μ,CRel μ (bytesAV bs) (bytesRow ⟨bs.toArray⟩ cap) 0:=by
      intro μ i y hi
      unfold bytesAV at hi
      rw [List.getElem?_map] at hi
      cases hb:bs[i]? with
      | none=>rw [hb] at hi;cases hi
      | some b=>
       rw [hb] at hi;cases hi
       have hlt:i < bs.length:=(List.getElem?_eq_some_iff.1 hb).1
       refine ⟨⟨.int .u8 b.toNat,?_,.int _ _⟩,rfl⟩
       rw [Nat.zero_add]
       unfold bytesRow
       rw [Array.getElem?_append_left (by simpa using hlt)]
       simp [hb]
     obtain ⟨hR,hE⟩:=H.r.grow hg (o:=.cells (bytesAV bs) (.rw (.row e))) (e:=⟨w.heap.size,0,cap,true⟩) rfl
      ⟨_,e,_,hg.new,hcr _,by simp [bytesAV];omega,by rw [hrow];dsimp only;omega,fun t1 h1=>by cases h1;exact ⟨rfl,fun j _ hj h=>by rw [hrow] at h;dsimp only at hj h;omega,rfl⟩⟩
     refine wp_value (v:=.slice (some ⟨w.heap.size,0,none⟩) bs.length cap) ?_ (hk _ _ _ _ _ _ _ (H.step hR hE (hg.fr μ)) (.v _ _ ?_) hx)
     ·simp only [execOp,ho,hxv]
      exact exec_v hrun
     ·exact .slice σ.length 0 ⟨w.heap.size,0,cap,true⟩ bs.length none 1 _ cap (push_self _ _ _) ⟨rfl,rfl⟩ (fun _=>rfl) (by dsimp only;omega) (fun c' h=>by cases h) hge
    ·cases hs
   ·cases hs
 ·cases hx
theorem string_take (s:List UInt8) (m:Nat):(Builtin.firstCells 1 m (.string ⟨s.toArray⟩)).run P w = .ok ((byteCells ⟨s.toArray⟩).take (m * 1)).toArray w:=by
 simp only [Builtin.firstCells,Sem.run_pure,Nat.mul_one]
 congr 1
 rw [extract_take]
 apply Array.ext'
 simp [byteCells,List.map_take]
theorem src_first {isStr:Bool} {size:Nat} {x:TV} {v:Value} {t2:TypeId} {f:Nat → List AV → Out} (H:Sit μ0 w0 μ lam env σ a w) (hr:TRel μ lam x v)
  (hk:(isStr = false ∧ ∃ e',P.underlying t2 = some (.slice e')) ∨ (isStr = true ∧ P.underlying t2 = some .string)) (h:srcK isStr env σ size x f = some out) :
  ∃ n new news,f n new = some out ∧ VRels μ new news ∧ Src P size t2 v n news w ∧ ∀ m,m ≤ n → (Builtin.firstCells size m v).run P w = .ok (news.take (m * size)).toArray w:=by
 have key:∀ (ad:Addr) (n n' c:Nat) (vs:List Value),vs.length = n * size → (∀ (j:Nat) u,vs[j]? = some u → w.cell? (ad.add j) = some u) → ∀ m,m ≤ n → (Builtin.firstCells size m (.slice (some ad) n' c)).run P w = .ok (vs.take (m * size)).toArray w:=by
  intro ad n n' c vs hl hc m hm
  have hms:m * size ≤ n * size:=Nat.mul_le_mul_right _ hm
  refine run_firstCells_some w size m ad n' c (vs.take (m * size)) (by rw [List.length_take];omega) fun j u hj=>hc j u ?_
  rw [List.getElem?_take] at hj
  split at hj
  ·exact hj
  ·cases hj
 unfold srcK at h
 split at h
 ·rename_i key' n
  obtain ⟨e',hu⟩:∃ e',P.underlying t2 = some (.slice e'):=by rcases hk with ⟨_,h⟩ | ⟨h,_⟩ <;> first | exact h | cases h
  split at h
  ·rename_i cs hcs
   split at h
   ·rename_i hn
    cases hr with
    | ls _ _ blk hl=>
     obtain ⟨blk',hb',cs',ty,fr,h1,h2,h3,_,_⟩:=H.locs key' cs hcs
     rw [hl] at hb';cases hb'
     obtain ⟨vs,g1,g2,g3,g4⟩:=row_cells (μ:=μ) (w:=w) (off:=0) (n:=cs.length) h1 h2 (by omega)
     rw [List.drop_zero,List.take_length] at g2
     have hc:∀ (j:Nat) u,vs[j]? = some u → w.cell? ((⟨blk,0,none⟩:Addr).add j) = some u:=fun j u hj=>by rw [addr_add];simpa using g3 j u hj
     exact ⟨n,cs,vs,h,g2,Src.ofSlice w hu _ n n vs (by omega) hc g4,key _ n n n vs (by omega) hc⟩
   ·cases h
  ·cases h
 ·rename_i s
  obtain hu:P.underlying t2 = some .string:=by rcases hk with ⟨h,_⟩ | ⟨_,h⟩ <;> first | exact h | cases h
  split at h
  ·rename_i hs
   subst hs
   have hv:=hr.val
   cases hv with
   | str _=>
    have hs:=Src.ofString (P:=P) w hu ⟨s.toArray⟩
    refine ⟨s.length,_,byteCells ⟨s.toArray⟩,h,VRels.of_get (by rw [byteCells_length];simp;rfl) fun i x hi=>?_,hs,fun m _=>string_take s m⟩
    rw [List.getElem?_map] at hi
    cases hb:s[i]? with
    | none=>rw [hb] at hi;cases hi
    | some b=>rw [hb] at hi;cases hi;exact ⟨_,by simp [byteCells,hb],.int _ _⟩
  ·cases h
 ·obtain ⟨e',hu⟩:∃ e',P.underlying t2 = some (.slice e'):=by rcases hk with ⟨_,h⟩ | ⟨h,_⟩ <;> first | exact h | cases h
  have hv:=hr.val
  cases hv with
  | nslice _=>exact ⟨0,[],[],h,.nil,Src.ofNil w hu 0,fun m hm=>by rw [List.take_nil];exact run_firstCells_none w size m 0 0⟩
 ·rename_i b off n cap sz
  obtain ⟨e',hu⟩:∃ e',P.underlying t2 = some (.slice e'):=by rcases hk with ⟨_,h⟩ | ⟨h,_⟩ <;> first | exact h | cases h
  split at h
  ·rename_i hsz
   split at h
   ·rename_i cs hcs
    split at h
    ·rename_i hl
     have hv:=hr.val
     have hv0:=hv
     cases hv with
     | slice _ _ en _ _ _ ad c he ha ha' hc hcap hlen=>
      obtain ⟨vs,g1,g2,g3,g4⟩:=slice_cells H.r hv0 hcs (m:=n * size) (by rw [hsz];exact Nat.le_refl _) hl
      exact ⟨n,_,vs,h,g2,Src.ofSlice w hu ad n c vs g1 g3 g4,key ad n n c vs g1 g3⟩
    ·cases h
   ·cases h
  ·cases h
 ·cases h
theorem op_copy {c:Call} {t t2 e:TypeId} {ts:List TypeId} {d x:Operand} {xs:List Operand} {isStr:Bool} (H:Sit μ0 w0 μ lam env σ a w) (hk:KOk μ0 w0 a o.dst next out k) (ho:o.op = .call c) (hc:c.callee = .builtin .copy)
  (ht:c.argTypes.toList = t :: t2 :: ts) (ha:c.args.toList = d :: x :: xs) (hu:P.underlying t = some (.slice e)) (hz:zeroFits P e = true)
  (hkk:(isStr = false ∧ ∃ e',P.underlying t2 = some (.slice e')) ∨ (isStr = true ∧ P.underlying t2 = some .string))
  (hx:copyK isStr env σ (szOf P e) (env.get d) (env.get x) (fun n σ'=>k (.v (.int .i64 n)) env σ') = some out):o.wp P a w next Q:=by
 unfold copyK at hx
 obtain ⟨n,new,news,hx,hnew,hsrc,hfst⟩:=src_first H (H.get x) hkk hx
 have hdr:=H.get d
 generalize hdv:a.eval d = dv at hdr
 generalize hxv:a.eval x = xv at hsrc hfst
 obtain ⟨inf,hinf⟩:∃ inf,P.info? e = some inf:=by
  unfold zeroFits zeroOf at hz
  cases hi:P.info? e with
  | none=>rw [hi] at hz;cases hz
  | some inf=>exact ⟨inf,rfl⟩
 have e1:c.argTypes[0]? = some t:=by rw [arr_of_toList ht];simp
 have e2:(c.args.map a.eval)[0]? = some dv:=by rw [arr_of_toList ha];simp [hdv]
 have e3:(c.args.map a.eval)[1]? = some xv:=by rw [arr_of_toList ha];simp [hxv]
 have hexec {m:Int} {w':World} (h:(Builtin.copy_ c.argTypes o.type (c.args.map a.eval)).run P w = .ok (.int .i64 m) w'):(execOp a.eval o).run P w = .ok (.value (.int .i64 m)) w':=by
  simp only [execOp,ho,resolve,hc,Sem.run_bind,Sem.run_pure,Result.andThen_ok,invoke,builtin,h]
 split at hx
 ·rename_i l cp sz hp
  rw [hp] at hdr
  have hv:=hdr.val
  cases hv with
  | nslice _=>
   refine wp_value (w':=w) (hexec (m:=0) ?_) (hk _ _ _ _ _ _ _ H (.v _ _ (.int _ _)) hx)
   have hm:Nat.min n 0 = 0:=Nat.min_zero n
   simp only [Builtin.copy_,e1,e2,e3,Sem.run_bind,run_underlying hu,Result.andThen_ok,hsrc.len,hm,run_sizeOf hinf,hfst 0 (Nat.zero_le _),Sem.run_pure]
   rfl
 ·rename_i b off m cp sz hp
  rw [hp] at hdr
  have hv:=hdr.val
  split at hx
  ·rename_i hsz
   split at hx
   ·rename_i cs wt hcs
    split at hx
    ·rename_i hl
     cases hv with
     | slice _ _ en _ _ _ ad c' he hha ha' hcc hcap hlen=>
      subst hsz
      obtain ⟨e',he',hob⟩:=H.r.obj b _ hcs
      rw [he] at he';cases he'
      obtain ⟨cs',ety,fr,h1,h2,h3,h4,h5⟩:=hob
      obtain ⟨hw,hfz,hty⟩:=h5 _ rfl
      have hmin:Nat.min n m = min n m:=rfl
      have hnl:news.length = n * szOf P e:=hsrc.newsLen
      have hnewl:=hnew.length
      have hmul:min n m * szOf P e ≤ n * szOf P e:=Nat.mul_le_mul_right _ (Nat.min_le_left _ _)
      have hall:(new.take (min n m * szOf P e)).all AV.one = true:=by
       rw [List.all_eq_true]
       intro y hy
       obtain ⟨i,hi,rfl⟩:=List.getElem_of_mem hy
       have hi':i < new.length:=by simp at hi;omega
       rw [List.getElem_take]
       obtain ⟨v,hv,hr⟩:=hnew.get (i:=i) (x:=new[i]) (by simp [hi'])
       rw [← hr.one];exact hsrc.one v (List.mem_of_getElem? hv)
      have hrels:VRels μ (new.take (min n m * szOf P e)) (news.take (min n m * szOf P e)):=hnew.take _
      have hlen2:(new.take (min n m * szOf P e)).length = min n m * szOf P e:=by rw [List.length_take];omega
      obtain ⟨w',cs2,hst,hup,hcr,hsz2⟩:=run_storeCells_rel (P:=P) (b:=en.blk) (base:=en.off) _ _ hrels hall off 0 cs cs' w h1 h2 (by rw [hlen2];omega) (by omega) (fun j hj hj'=>hfz j hj (by omega))
      have hst':(storeCells ad (news.take (min n m * szOf P e)) 0).run P w = .ok () w':=by
       rcases Nat.eq_zero_or_pos c' with h0 | hpos
       ·have hm0:min n m = 0:=by rw [show m = 0 by omega];exact Nat.min_zero _
        rw [hm0,Nat.zero_mul,List.take_zero] at hst ⊢
        exact hst
       ·rw [ha' hpos];exact hst
      have hR:=H.r.upd hcs he hw rfl hup (o':=.cells (setMany cs off (new.take (min n m * szOf P e))) (.rw wt))
       ⟨cs2,ety,fr,hup.at_,by simpa using hcr,by rw [setMany_length];exact h3,by omega,fun t1 ht1=>by cases ht1;exact ⟨hw,hfz,by rw [setMany_length];rw [hsz2] at *;exact hty⟩⟩
      refine wp_value (w':=w') (hexec (m:=(min n m:Nat)) ?_) (hk _ _ _ _ _ _ _ (H.step hR (Ext.refl _ _) (hup.fr he hw)) (.v _ _ (.int _ _)) hx)
      simp only [Builtin.copy_,e1,e2,e3,Sem.run_bind,run_underlying hu,Result.andThen_ok,hsrc.len,hmin,run_sizeOf hinf,hfst _ (Nat.min_le_left n m),Sem.run_pure,hst']
      rfl
    ·cases hx
   ·cases hx
  ·cases hx
 ·cases hx
end
end Go.AM

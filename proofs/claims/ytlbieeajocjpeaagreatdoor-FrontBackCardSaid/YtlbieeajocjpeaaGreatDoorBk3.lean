/- A stream that gives a source's tokens is parsed to that source: what is printed is read back. -/
import Derived.Test.YtlbieeajocjpeaaGreatDoorBk2
set_option linter.unusedSimpArgs false
set_option linter.unusedVariables false
namespace Go.Front
def kInt:List UInt8:=[105,110,116]
def kChar:List UInt8:=[99,104,97,114]
def kElse:List UInt8:=[101,108,115,101]
def parT1 (ty:Int) (s:List UInt8):List Tok:=if ty = 1 then [kwT kInt,nmT s] else if ty = 3 then [kwT kInt,mkT [42],nmT s] else [kwT kChar,mkT [42],nmT s]
mutual
def Sm.tk:Sm → List Tok
 | .expr _ x=>x.tk ++ [mkT [59]]
 | .set x y=>x.tk ++ mkT [61] :: (y.tk ++ [mkT [59]])
 | .if1 _ c a=>kwT [105,102] :: mkT [40] :: (c.tk ++ mkT [41] :: a.tk)
 | .if2 _ c a b=>kwT [105,102] :: mkT [40] :: (c.tk ++ mkT [41] :: (a.tk ++ kwT kElse :: b.tk))
 | .while _ c a=>kwT [119,104,105,108,101] :: mkT [40] :: (c.tk ++ mkT [41] :: a.tk)
 | .ret _ x=>kwT [114,101,116,117,114,110] :: (x.tk ++ [mkT [59]])
 | .brk _=>[kwT [98,114,101,97,107],mkT [59]]
 | .next _=>[kwT [99,111,110,116,105,110,117,101],mkT [59]]
 | .block _ l=>mkT [123] :: (Sm.tks l ++ [mkT [125]])
 | .var _ s ty=>parT1 ty s ++ [mkT [59]]
 | .vari _ s ty x=>parT1 ty s ++ mkT [61] :: (x.tk ++ [mkT [59]])
def Sm.tks:List Sm → List Tok
 | []=>[]
 | x :: l=>x.tk ++ Sm.tks l
end
def parTk:List Par → List Tok
 | []=>[]
 | p :: r=>mkT [44] :: (parT1 p.2.2 p.2.1 ++ parTk r)
def Dc.tk:Dc → List Tok
 | .var _ s=>[kwT kInt,nmT s,mkT [59]]
 | .array _ s ty n=>[kwT (if ty = 2 then kChar else kInt),nmT s,mkT [91],numT n,mkT [93],mkT [59]]
 | .fn _ s ps _ l=>kwT kInt :: nmT s :: mkT [40] :: ((parTk ps).tail ++ mkT [41] :: mkT [123] :: (Sm.tks l ++ [mkT [125]]))
def allT (l:List Dc):List Tok:=l.flatMap Dc.tk
theorem spell_nil:spell [] = []:=rfl
theorem spell_par (ty:Int) (s:List UInt8):spell (parT1 ty s) = parS ty s:=by
 unfold parT1 parS
 split
 ·simp [spell,kInt]
 ·split <;> simp [spell,kInt,kChar]
mutual
theorem Sm.spell_tk:∀ e:Sm,spell e.tk = e.pr
 | .expr _ x=>by simp only [Sm.tk,Sm.pr,spell_app,spell_cons,spell_nil,Ex.spell_tk,sp_mk,List.append_nil]
 | .set x y=>by simp only [Sm.tk,Sm.pr,spell_app,spell_cons,spell_nil,Ex.spell_tk,sp_mk,List.append_nil,List.append_assoc]
 | .if1 _ c a=>by simp only [Sm.tk,Sm.pr,spell_app,spell_cons,spell_nil,Ex.spell_tk,Sm.spell_tk a,sp_mk,sp_kw,List.append_nil,List.append_assoc]
 | .if2 _ c a b=>by simp only [Sm.tk,Sm.pr,spell_app,spell_cons,spell_nil,Ex.spell_tk,Sm.spell_tk a,Sm.spell_tk b,sp_mk,sp_kw,kElse,List.append_nil,List.append_assoc]
 | .while _ c a=>by simp only [Sm.tk,Sm.pr,spell_app,spell_cons,spell_nil,Ex.spell_tk,Sm.spell_tk a,sp_mk,sp_kw,List.append_nil,List.append_assoc]
 | .ret _ x=>by simp only [Sm.tk,Sm.pr,spell_app,spell_cons,spell_nil,Ex.spell_tk,sp_mk,sp_kw,List.append_nil,List.append_assoc]
 | .brk _=>by simp only [Sm.tk,Sm.pr,spell_cons,spell_nil,sp_mk,sp_kw,List.append_nil]
 | .next _=>by simp only [Sm.tk,Sm.pr,spell_cons,spell_nil,sp_mk,sp_kw,List.append_nil]
 | .block _ l=>by simp only [Sm.tk,Sm.pr,spell_app,spell_cons,spell_nil,Sm.spell_tks l,sp_mk,List.append_nil,List.append_assoc]
 | .var _ s ty=>by simp only [Sm.tk,Sm.pr,spell_app,spell_cons,spell_nil,spell_par,sp_mk,List.append_nil,List.append_assoc]
 | .vari _ s ty x=>by simp only [Sm.tk,Sm.pr,spell_app,spell_cons,spell_nil,spell_par,Ex.spell_tk,sp_mk,List.append_nil,List.append_assoc]
theorem Sm.spell_tks:∀ l:List Sm,spell (Sm.tks l) = Sm.prs l
 | []=>rfl
 | x :: l=>by simp only [Sm.tks,Sm.prs,spell_app,Sm.spell_tk x,Sm.spell_tks l]
end
theorem spell_parR:∀ ps:List Par,spell (parTk ps) = ps.flatMap fun p=>putS [44] ++ parS p.2.2 p.2.1
 | []=>rfl
 | p :: r=>by simp only [parTk,spell_cons,spell_app,spell_par,spell_parR r,List.flatMap_cons,sp_mk,List.append_assoc]
theorem spell_parR' (ps:List Par):spell (parTk ps).tail = joinC (ps.map fun p=>parS p.2.2 p.2.1):=by
 cases ps with
 | nil=>rfl
 | cons p r=>
  simp only [parTk,List.tail_cons,List.map_cons,joinC,spell_app,spell_par,spell_parR r,List.flatMap_map]
theorem Dc.spell_tk (e:Dc):spell e.tk = e.pr:=by
 cases e with
 | var _ s=>simp only [Dc.tk,Dc.pr,spell_cons,spell_nil,sp_kw,sp_nm,sp_mk,kInt,List.append_nil,List.append_assoc]
 | array _ s ty n=>simp only [Dc.tk,Dc.pr,spell_cons,spell_nil,sp_kw,sp_nm,sp_mk,sp_num,kInt,kChar,List.append_nil,List.append_assoc]
 | fn _ s ps _ l=>simp only [Dc.tk,Dc.pr,spell_cons,spell_app,spell_nil,sp_kw,sp_nm,sp_mk,kInt,spell_parR',Sm.spell_tks,List.append_nil,List.append_assoc]
theorem spell_all:∀ l:List Dc,spell (allT l) = allPr l
 | []=>rfl
 | x :: l=>by
  have:=spell_all l
  simp only [allT,allPr,List.flatMap_cons,spell_app,Dc.spell_tk] at this ⊢
  rw [this]
theorem parT_ok {ty:Int} {s:List UInt8} (h:nameOk s):∀ t ∈ parT1 ty s,TkOk t:=by
 intro t ht
 unfold parT1 at ht
 split at ht
 ·simp only [List.mem_cons,List.not_mem_nil,or_false] at ht
  rcases ht with rfl | rfl
  ·exact .kw (by decide)
  ·exact .nm h
 ·split at ht
  all_goals
   simp only [List.mem_cons,List.not_mem_nil,or_false] at ht
   rcases ht with rfl | rfl | rfl
   ·exact .kw (by decide)
   ·exact .mk (by decide)
   ·exact .nm h
mutual
theorem Sm.tk_ok {len:Nat}:∀ e:Sm,e.good len → ∀ t ∈ e.tk,TkOk t
 | .expr _ x,h,t,ht=>by
  simp only [Sm.tk,List.mem_cons,List.mem_append,List.not_mem_nil,or_false] at ht
  rcases ht with ht | rfl
  ·exact Ex.tk_ok x h.2.1 t ht
  ·exact .mk (by decide)
 | .set x y,h,t,ht=>by
  simp only [Sm.tk,List.mem_cons,List.mem_append,List.not_mem_nil,or_false] at ht
  rcases ht with ht | rfl | ht | rfl
  ·exact Ex.tk_ok x h.1 t ht
  ·exact .mk (by decide)
  ·exact Ex.tk_ok y h.2.1 t ht
  ·exact .mk (by decide)
 | .if1 _ c a,h,t,ht=>by
  simp only [Sm.tk,List.mem_cons,List.mem_append,List.not_mem_nil,or_false] at ht
  rcases ht with rfl | rfl | ht | rfl | ht
  ·exact .kw (by decide)
  ·exact .mk (by decide)
  ·exact Ex.tk_ok c h.2.1 t ht
  ·exact .mk (by decide)
  ·exact Sm.tk_ok a h.2.2.2.1 t ht
 | .if2 _ c a b,h,t,ht=>by
  simp only [Sm.tk,List.mem_cons,List.mem_append,List.not_mem_nil,or_false] at ht
  rcases ht with rfl | rfl | ht | rfl | ht | rfl | ht
  ·exact .kw (by decide)
  ·exact .mk (by decide)
  ·exact Ex.tk_ok c h.2.1 t ht
  ·exact .mk (by decide)
  ·exact Sm.tk_ok a h.2.2.2.1 t ht
  ·exact .kw (by decide)
  ·exact Sm.tk_ok b h.2.2.2.2.2.1 t ht
 | .while _ c a,h,t,ht=>by
  simp only [Sm.tk,List.mem_cons,List.mem_append,List.not_mem_nil,or_false] at ht
  rcases ht with rfl | rfl | ht | rfl | ht
  ·exact .kw (by decide)
  ·exact .mk (by decide)
  ·exact Ex.tk_ok c h.2.1 t ht
  ·exact .mk (by decide)
  ·exact Sm.tk_ok a h.2.2.2.1 t ht
 | .ret _ x,h,t,ht=>by
  simp only [Sm.tk,List.mem_cons,List.mem_append,List.not_mem_nil,or_false] at ht
  rcases ht with rfl | ht | rfl
  ·exact .kw (by decide)
  ·exact Ex.tk_ok x h.2.1 t ht
  ·exact .mk (by decide)
 | .brk _,h,t,ht=>by
  simp only [Sm.tk,List.mem_cons,List.not_mem_nil,or_false] at ht
  rcases ht with rfl | rfl
  ·exact .kw (by decide)
  ·exact .mk (by decide)
 | .next _,h,t,ht=>by
  simp only [Sm.tk,List.mem_cons,List.not_mem_nil,or_false] at ht
  rcases ht with rfl | rfl
  ·exact .kw (by decide)
  ·exact .mk (by decide)
 | .block _ l,h,t,ht=>by
  simp only [Sm.tk,List.mem_cons,List.mem_append,List.not_mem_nil,or_false] at ht
  rcases ht with rfl | ht | rfl
  ·exact .mk (by decide)
  ·exact Sm.tks_ok l h.2 t ht
  ·exact .mk (by decide)
 | .var _ s ty,h,t,ht=>by
  simp only [Sm.tk,List.mem_cons,List.mem_append,List.not_mem_nil,or_false] at ht
  rcases ht with ht | rfl
  ·exact parT_ok h.2.1 t ht
  ·exact .mk (by decide)
 | .vari _ s ty x,h,t,ht=>by
  simp only [Sm.tk,List.mem_cons,List.mem_append,List.not_mem_nil,or_false] at ht
  rcases ht with ht | rfl | ht | rfl
  ·exact parT_ok h.2.1 t ht
  ·exact .mk (by decide)
  ·exact Ex.tk_ok x h.2.2.2.1 t ht
  ·exact .mk (by decide)
theorem Sm.tks_ok {len a:Nat}:∀ l:List Sm,Sm.goods len a l → ∀ t ∈ Sm.tks l,TkOk t
 | [],_,t,ht=>by cases ht
 | x :: l,h,t,ht=>by
  simp only [Sm.tks,List.mem_append] at ht
  rcases ht with ht | ht
  ·exact Sm.tk_ok x h.1 t ht
  ·exact Sm.tks_ok l h.2.2 t ht
end
theorem parR_ok:∀ {ps:List Par},(∀ x ∈ ps,nameOk x.2.1) → ∀ t ∈ parTk ps,TkOk t
 | [],_,t,ht=>by cases ht
 | p :: r,h,t,ht=>by
  simp only [parTk,List.mem_cons,List.mem_append] at ht
  rcases ht with rfl | ht | ht
  ·exact .mk (by decide)
  ·exact parT_ok (h p (by simp)) t ht
  ·exact parR_ok (fun x hx=>h x (List.mem_cons_of_mem _ hx)) t ht
theorem Dc.tk_ok {len:Nat} (e:Dc) (h:e.good len):∀ t ∈ e.tk,TkOk t:=by
 intro t ht
 cases e with
 | var _ s=>
  simp only [Dc.tk,List.mem_cons,List.not_mem_nil,or_false] at ht
  rcases ht with rfl | rfl | rfl
  ·exact .kw (by decide)
  ·exact .nm h.2
  ·exact .mk (by decide)
 | array _ s ty n=>
  simp only [Dc.tk,List.mem_cons,List.not_mem_nil,or_false] at ht
  rcases ht with rfl | rfl | rfl | rfl | rfl | rfl
  ·exact .kw (by split <;> decide)
  ·exact .nm h.2.1
  ·exact .mk (by decide)
  ·exact .num h.2.2.2.1 h.2.2.2.2
  ·exact .mk (by decide)
  ·exact .mk (by decide)
 | fn _ s ps _ l=>
  simp only [Dc.tk,List.mem_cons,List.mem_append,List.not_mem_nil,or_false] at ht
  rcases ht with rfl | rfl | rfl | ht | rfl | rfl | ht | rfl
  ·exact .kw (by decide)
  ·exact .nm h.2.1
  ·exact .mk (by decide)
  ·exact parR_ok (fun x hx=>(h.2.2.1 x hx).2.2.1) t (List.mem_of_mem_tail ht)
  ·exact .mk (by decide)
  ·exact .mk (by decide)
  ·exact Sm.tks_ok l h.2.2.2.2.2.1 t ht
  ·exact .mk (by decide)
theorem allT_ok {len:Nat} {l:List Dc} (h:∀ x ∈ l,x.good len):∀ t ∈ allT l,TkOk t:=by
 intro t ht
 unfold allT at ht
 obtain ⟨x,hx,ht⟩:=List.mem_flatMap.1 ht
 exact x.tk_ok (h x hx) t ht
section
variable {S:Strm} {α β:Type} {A B C:Cf} {P:β → Prop} {ts:List Tok} {nd:List Node} {d:Nat} {t:Tok}
theorem Rb.takeN {w:List UInt8} {X Y:PM S β} (hb:isB (hdT A.ts) w = false) (h:Rb Y A P C):Rb (takeP w >>= fun b=>if b = true then X else Y) A P C:=.take0 hb (by simpa using h)
theorem Rb.takeY {w:List UInt8} {X Y:PM S β} (hb:isB t w = true) (h:Rb X ⟨ts,nd,d⟩ P C):Rb (takeP w >>= fun b=>if b = true then X else Y) ⟨t :: ts,nd,d⟩ P C:=.take1 hb (by simpa using h)
theorem Rb.isN {w:List UInt8} {X Y:PM S β} (hb:isB (hdT A.ts) w = false) (h:Rb Y A P C):Rb (isP w >>= fun b=>if b = true then X else Y) A P C:=.is (by simpa [hb] using h)
theorem Rb.isY {w:List UInt8} {X Y:PM S β} (hb:isB (hdT A.ts) w = true) (h:Rb X A P C):Rb (isP w >>= fun b=>if b = true then X else Y) A P C:=.is (by simpa [hb] using h)
theorem param_rd {s:List UInt8} {ty:Int} (hty:tyOk ty):Rb (paramP:PM S _) ⟨parT1 ty s ++ ts,nd,d⟩ (fun x=>x.2 = (s,ty)) ⟨ts,nd,d⟩:=by
 unfold paramP
 refine .tokP fun t ht=>?_
 rcases hty with rfl | rfl | rfl
 ·refine .takeN rfl (.must rfl (.takeN rfl (.kind rfl fun t' ht'=>.pure ?_)))
  have:t'.text = s:=ht'.2.1
  rw [this]
 ·refine .takeY rfl (.must rfl (.kind rfl fun t' ht'=>.pure ?_))
  have:t'.text = s:=ht'.2.1
  rw [this]
 ·refine .takeN rfl (.must rfl (.takeY rfl (.kind rfl fun t' ht'=>.pure ?_)))
  have:t'.text = s:=ht'.2.1
  rw [this]
def fs (b:Nat) (e:Sm):List Node:=(e.flat b).map Node.strip
def fss (b:Nat) (l:List Sm):List Node:=(Sm.flats b l).map Node.strip
theorem fs_len (b:Nat) (e:Sm):(fs b e).length = e.size:=by unfold fs;rw [List.length_map,Sm.flat_len]
theorem fss_len (b:Nat) (l:List Sm):(fss b l).length = Sm.sizes l:=by unfold fss;rw [List.length_map,Sm.flats_len]
theorem fss_cons (b:Nat) (x:Sm) (l:List Sm):fss b (x :: l) = fs b x ++ fss (b + x.size) l:=by unfold fss fs;rw [Sm.flats,List.map_append]
theorem Sm.first {len:Nat} (e:Sm) (h:e.good len) (ts:List Tok):isB (hdT (e.tk ++ ts)) [125] = false ∧ isB (hdT (e.tk ++ ts)) kElse = false:=by
 have par (ty:Int) (s:List UInt8) (r:List Tok):isB (hdT (parT1 ty s ++ r)) [125] = false ∧ isB (hdT (parT1 ty s ++ r)) kElse = false:=by
  unfold parT1
  split
  ·exact ⟨rfl,rfl⟩
  ·split <;> exact ⟨rfl,rfl⟩
 cases e with
 | expr _ x=>rw [Sm.tk,List.append_assoc];exact ⟨(Ex.fst x _ h.2.1).not (by decide),(Ex.fst x _ h.2.1).not (by decide)⟩
 | set x y=>rw [Sm.tk,List.append_assoc];exact ⟨(Ex.fst x _ h.1).not (by decide),(Ex.fst x _ h.1).not (by decide)⟩
 | var _ s ty=>rw [Sm.tk,List.append_assoc];exact par ..
 | vari _ s ty x=>rw [Sm.tk,List.append_assoc];exact par ..
 | _=>exact ⟨rfl,rfl⟩
def RbS (n len:Nat) (sm:PM S Nat):Prop:=∀ (e:Sm) (ts:List Tok) (nd:List Node) (d:Nat),4 * e.size + 2 ≤ n → e.good len → e.dep + d ≤ 40 → nd.length + e.size ≤ 4096 → (e.open = true → isB (hdT ts) kElse = false) →
 Rb sm ⟨e.tk ++ ts,nd,d⟩ (· = nd.length + e.size - 1) ⟨ts,nd ++ fs nd.length e,d⟩
variable {n len:Nat} {sm:PM S Nat} {op:PM S Nat} {ex:Nat → PM S Nat}
theorem stmts_rd (hs:RbS n len sm):∀ (l:List Sm) (acc:List Nat) (k:Nat) (ts:List Tok) (nd:List Node) (d a:Nat),l.length < k → 4 * Sm.sizes l + 2 ≤ n → Sm.goods len a l → Sm.deps l + d ≤ 40 → nd.length + Sm.sizes l ≤ 4096 →
  Rb (loopP (blockB sm) k acc) ⟨Sm.tks l ++ mkT [125] :: ts,nd,d⟩ (· = acc ++ Sm.roots nd.length l) ⟨mkT [125] :: ts,nd ++ fss nd.length l,d⟩
 | _,_,0,_,_,_,_,hk,_,_,_,_=>by omega
 | [],acc,k + 1,ts,nd,d,a,hk,hn,hg,hd,hl=>by
  refine Rb.to (Rb.loopR (P:=(· = acc ++ Sm.roots nd.length [])) (B:=⟨mkT [125] :: ts,nd,d⟩) (b:=acc) ?_ (by simp [Sm.roots])) ?_
  ·unfold blockB
   exact .isY rfl (.pure rfl)
  ·rw [show fss nd.length [] = [] from rfl,List.append_nil]
 | x :: l,acc,k + 1,ts,nd,d,a,hk,hn,hg,hd,hl=>by
  simp only [Sm.deps,Sm.sizes] at hd hl hn
  have hxp:=Sm.size_pos x
  have ih:=stmts_rd hs l (acc ++ [nd.length + x.size - 1]) k ts (nd ++ fs nd.length x) d a (by simpa using hk) (by omega) hg.2.2 (by omega) (by rw [List.length_append,fs_len];omega)
  have hnext:isB (hdT (Sm.tks l ++ mkT [125] :: ts)) kElse = false:=by
   cases l with
   | nil=>rfl
   | cons z l=>rw [Sm.tks,List.append_assoc];exact (z.first hg.2.2.1 _).2
  refine Rb.loopI (a':=acc ++ [nd.length + x.size - 1]) (B:=⟨Sm.tks l ++ mkT [125] :: ts,nd ++ fs nd.length x,d⟩) ?_ (Rb.mono (ih.to ?_) ?_)
  ·unfold blockB
   refine Rb.from (A:=⟨x.tk ++ (Sm.tks l ++ mkT [125] :: ts),nd,d⟩) (.isN (x.first hg.1 _).1 (Rb.bind (hs x _ nd d (by omega) hg.1 (by omega) (by omega) fun _=>hnext) fun r hr=>?_)) ?_
   ·subst hr;exact .pure rfl
   ·rw [Sm.tks,List.append_assoc]
  ·rw [fss_cons nd.length x,List.length_append,fs_len,List.append_assoc]
  ·intro r hr
   rw [hr,List.length_append,fs_len]
   simp [Sm.roots]
theorem Sm.sizes_len3:∀ l:List Sm,l.length ≤ Sm.sizes l
 | []=>Nat.le_refl _
 | x :: l=>by have:=Sm.size_pos x;have:=Sm.sizes_len3 l;rw [Sm.sizes,List.length_cons];omega
theorem block_rd (hs:RbS n len sm) {l:List Sm} {k a:Nat} (hk:Sm.sizes l < k) (hn:4 * Sm.sizes l + 2 ≤ n) (hg:Sm.goods len a l) (hd:Sm.deps l + d ≤ 40) (hl:nd.length + Sm.sizes l + 1 ≤ 4096) :
  Rb (blockP sm k) ⟨mkT [123] :: (Sm.tks l ++ mkT [125] :: ts),nd,d⟩ (· = nd.length + Sm.sizes l) ⟨ts,nd ++ (fss nd.length l ++ [⟨17,0,[],0,0,Sm.roots nd.length l⟩]),d⟩:=by
 unfold blockP
 refine .tokP fun t ht=>.must rfl (Rb.bind (stmts_rd hs l [] k ts nd d a (by have:=Sm.sizes_len3 l;omega) hn hg hd (by omega)) fun r hr=>?_)
 subst hr
 refine .nextP fun _ _=>Rb.to (Rb.node (by rw [List.length_append,fss_len];omega) (by rw [List.length_append,fss_len])) ?_
 rw [List.append_assoc];rfl
theorem cond_rd (he:RdE n len op ex) (c:Ex) (hn:4 * c.size + 2 ≤ n) (hg:c.good len) (hd:c.dep + d ≤ 40) (hl:nd.length + c.size ≤ 4096) :
  Rb (conditionP ex) ⟨mkT [40] :: (c.tk ++ mkT [41] :: ts),nd,d⟩ (· = nd.length + c.size - 1) ⟨ts,nd ++ fl nd.length c,d⟩:=by
 unfold conditionP
 refine .must rfl (Rb.bind (he.x c 1 _ nd d (Ex.lv1 hg) hn hg hd hl calm_close (noOp_mk (by decide))) fun r hr=>?_)
 subst hr
 exact .must rfl (.pure rfl)
theorem ex_mk (he:RdE n len op ex) (x:Ex) {m:List UInt8} (hm:m = [59] ∨ m = [61] ∨ m = [93] ∨ m = [41]) (hn:4 * x.size + 2 ≤ n) (hg:x.good len) (hd:x.dep + d ≤ 40) (hl:nd.length + x.size ≤ 4096) :
  Rb (ex 1) ⟨x.tk ++ mkT m :: ts,nd,d⟩ (· = nd.length + x.size - 1) ⟨mkT m :: ts,nd ++ fl nd.length x,d⟩:=by
 have h:calm (mkT m) ∧ noOp 1 (mkT m):=by
  rcases hm with rfl | rfl | rfl | rfl <;> exact ⟨⟨rfl,rfl⟩,noOp_mk (by decide)⟩
 exact he.x x 1 _ nd d (Ex.lv1 hg) hn hg hd hl h.1 h.2
theorem place_kind {x:Ex} {b:Nat} (h:x.isPlace = true):(x.root b).kind = 3 ∨ (x.root b).kind = 5:=by
 cases x <;> first | exact .inl rfl | exact .inr rfl | cases h
theorem root_kind {x:Ex} {y:Node} (hp:x.isPlace = true) (h:(nd ++ fl nd.length x)[nd.length + x.size - 1]? = some y.strip):y.kind = 3 ∨ y.kind = 5:=by
 have hx:=Ex.size_pos x
 rw [List.getElem?_append_right (by omega)] at h
 unfold fl at h
 rw [show nd.length + x.size - 1 - nd.length = x.size - 1 by omega,List.getElem?_map,Ex.flat_root] at h
 have h2:(x.root nd.length).strip = y.strip:=by simpa using h
 have:=(strip_eq h2).1
 rw [← this]
 exact place_kind hp
theorem stmt_rd (he:RdE n len op ex) (hs:RbS n len sm) (e:Sm) (ts:List Tok) (nd:List Node) (d:Nat) (hn:4 * e.size + 2 ≤ n + 1) (hg:e.good len) (hd:e.dep + d ≤ 40) (hl:nd.length + e.size ≤ 4096) (ho:e.open = true → isB (hdT ts) kElse = false) :
  Rb (stmtP sm ex n) ⟨e.tk ++ ts,nd,d⟩ (· = nd.length + e.size - 1) ⟨ts,nd ++ fs nd.length e,d⟩:=by
 have hd1:1 ≤ e.dep:=by cases e <;> simp only [Sm.dep] <;> omega
 unfold stmtP
 refine .down (by omega) (.tokP fun t ht=>Rb.bind (Q:=(· = nd.length + e.size - 1)) (B:=⟨ts,nd ++ fs nd.length e,d + 1⟩) ?_ fun r hr=>.up (.pure hr))
 have hsz:=Sm.size_pos e
 have fin {k:Int} {at_:Int} {tx:List UInt8} {m:Int} {ks:List Nat} {nd':List Node} {nd2:List Node} (h1:nd' = nd ++ nd2) (h2:nd2.length + 1 = e.size) (h3:fs nd.length e = nd2 ++ [⟨k,0,tx,0,m,ks⟩]) :
   Rb (nodeP ⟨k,at_,tx,0,m,ks⟩:PM S Nat) ⟨ts,nd',d + 1⟩ (· = nd.length + e.size - 1) ⟨ts,nd ++ fs nd.length e,d + 1⟩:=by
  subst h1
  refine Rb.to (Rb.node (by rw [List.length_append];omega) (by rw [List.length_append];omega)) ?_
  rw [h3,List.append_assoc];rfl
 unfold stepP
 cases e with
 | expr a x=>
  simp only [Sm.size,Sm.dep] at hn hd hl
  have hf:=Ex.fst x ([mkT [59]] ++ ts) hg.2.1
  rw [Sm.tk,List.append_assoc]
  refine .isN (hf.not (by decide)) (.takeN (hf.not (by decide)) (.takeN (hf.not (by decide)) (.takeN (hf.not (by decide)) (.takeN (hf.not (by decide)) (.takeN (hf.not (by decide)) (.isN (hf.not (by decide)) (.isN (hf.not (by decide)) ?_)))))))
  unfold plainP
  refine Rb.bind (ex_mk he x (.inl rfl) (by omega) hg.2.1 (by omega) (by omega)) fun r hr=>?_
  subst hr
  refine .isN rfl (.must rfl (fin rfl (by rw [fl_len,Sm.size]) ?_))
  unfold fs fl
  rw [Sm.flat,List.map_append];rfl
 | set x y=>
  simp only [Sm.size,Sm.dep] at hn hd hl
  have hf:=Ex.fst x (mkT [61] :: (y.tk ++ mkT [59] :: ts)) hg.1
  have htk:(Sm.set x y).tk ++ ts = x.tk ++ mkT [61] :: (y.tk ++ mkT [59] :: ts):=by simp only [Sm.tk,List.append_assoc,List.cons_append,List.nil_append]
  rw [htk]
  refine .isN (hf.not (by decide)) (.takeN (hf.not (by decide)) (.takeN (hf.not (by decide)) (.takeN (hf.not (by decide)) (.takeN (hf.not (by decide)) (.takeN (hf.not (by decide)) (.isN (hf.not (by decide)) (.isN (hf.not (by decide)) ?_)))))))
  have hxp:=Ex.size_pos x
  have hyp:=Ex.size_pos y
  unfold plainP
  refine Rb.bind (ex_mk he x (.inr (.inl rfl)) (by omega) hg.1 (by omega) (by omega)) fun r hr=>?_
  subst hr
  refine .isY rfl (.nodeAt (by rw [List.length_append,fl_len];omega) fun nodeX hX=>?_)
  rw [if_pos (root_kind hg.2.2.2 hX)]
  refine .nextP fun _ _=>Rb.bind (ex_mk he y (.inl rfl) (by omega) hg.2.1 (by omega) (by rw [List.length_append,fl_len];omega)) fun r hr=>?_
  subst hr
  refine .must rfl (.nodeAt (by rw [List.length_append,List.length_append,fl_len];omega) fun a2 _=>fin (nd2:=fl nd.length x ++ fl (nd.length + x.size) y) (by rw [List.length_append,fl_len,List.append_assoc]) (by rw [List.length_append,fl_len,fl_len,Sm.size]) ?_)
  rw [List.length_append,fl_len]
  unfold fs fl
  rw [Sm.flat,List.map_append,List.map_append];rfl
 | if1 a c b=>
  simp only [Sm.size,Sm.dep] at hn hd hl
  have htk:(Sm.if1 a c b).tk ++ ts = kwT [105,102] :: mkT [40] :: (c.tk ++ mkT [41] :: (b.tk ++ ts)):=by simp only [Sm.tk,List.append_assoc,List.cons_append,List.nil_append]
  rw [htk]
  have hbp:=Sm.size_pos b
  refine .isN rfl (.takeY rfl ?_)
  unfold ifP
  refine Rb.bind (cond_rd he c (by omega) hg.2.1 (by omega) (by omega)) fun r hr=>?_
  subst hr
  refine Rb.bind (hs b ts _ (d + 1) (by omega) hg.2.2.2.1 (by omega) (by rw [List.length_append,fl_len];omega) fun _=>ho rfl) fun r hr=>?_
  subst hr
  refine .takeN (ho rfl) (fin (nd2:=fl nd.length c ++ fs (nd.length + c.size) b) (by rw [List.length_append,fl_len,List.append_assoc]) (by rw [List.length_append,fl_len,fs_len,Sm.size]) ?_)
  rw [List.length_append,fl_len]
  unfold fs fl
  rw [Sm.flat,List.map_append,List.map_append];rfl
 | if2 a c b z=>
  simp only [Sm.size,Sm.dep] at hn hd hl
  have htk:(Sm.if2 a c b z).tk ++ ts = kwT [105,102] :: mkT [40] :: (c.tk ++ mkT [41] :: (b.tk ++ kwT kElse :: (z.tk ++ ts))):=by simp only [Sm.tk,List.append_assoc,List.cons_append,List.nil_append]
  rw [htk]
  have hbp:=Sm.size_pos b
  have hzp:=Sm.size_pos z
  obtain ⟨_,hgc,_,hgb,_,hgz,_,hopen⟩:=hg
  refine .isN rfl (.takeY rfl ?_)
  unfold ifP
  refine Rb.bind (cond_rd he c (by omega) hgc (by omega) (by omega)) fun r hr=>?_
  subst hr
  refine Rb.bind (hs b _ _ (d + 1) (by omega) hgb (by omega) (by rw [List.length_append,fl_len];omega) fun h=>by rw [hopen] at h;cases h) fun r hr=>?_
  subst hr
  refine .takeY rfl (Rb.bind (hs z ts _ (d + 1) (by omega) hgz (by omega) (by rw [List.length_append,List.length_append,fl_len,fs_len];omega) ho) fun r hr=>?_)
  subst hr
  refine fin (nd2:=fl nd.length c ++ (fs (nd.length + c.size) b ++ fs (nd.length + c.size + b.size) z)) (by simp only [List.length_append,fl_len,fs_len,List.append_assoc,Nat.add_assoc]) (by simp only [List.length_append,fl_len,fs_len,Sm.size];omega) ?_
  simp only [List.length_append,fl_len,fs_len]
  unfold fs fl
  rw [Sm.flat,List.map_append,List.map_append,List.map_append]
  simp only [List.append_assoc,Nat.add_assoc];rfl
 | «while» a c b=>
  simp only [Sm.size,Sm.dep] at hn hd hl
  have htk:(Sm.while a c b).tk ++ ts = kwT [119,104,105,108,101] :: mkT [40] :: (c.tk ++ mkT [41] :: (b.tk ++ ts)):=by simp only [Sm.tk,List.append_assoc,List.cons_append,List.nil_append]
  rw [htk]
  have hbp:=Sm.size_pos b
  refine .isN rfl (.takeN rfl (.takeY rfl ?_))
  refine Rb.bind (cond_rd he c (by omega) hg.2.1 (by omega) (by omega)) fun r hr=>?_
  subst hr
  refine Rb.bind (hs b ts _ (d + 1) (by omega) hg.2.2.2.1 (by omega) (by rw [List.length_append,fl_len];omega) ho) fun r hr=>?_
  subst hr
  refine fin (nd2:=fl nd.length c ++ fs (nd.length + c.size) b) (by rw [List.length_append,fl_len,List.append_assoc]) (by rw [List.length_append,fl_len,fs_len,Sm.size]) ?_
  rw [List.length_append,fl_len]
  unfold fs fl
  rw [Sm.flat,List.map_append,List.map_append];rfl
 | ret a x=>
  simp only [Sm.size,Sm.dep] at hn hd hl
  have htk:(Sm.ret a x).tk ++ ts = kwT [114,101,116,117,114,110] :: (x.tk ++ mkT [59] :: ts):=by simp only [Sm.tk,List.append_assoc,List.cons_append,List.nil_append]
  rw [htk]
  refine .isN rfl (.takeN rfl (.takeN rfl (.takeY rfl ?_)))
  refine Rb.bind (ex_mk he x (.inl rfl) (by omega) hg.2.1 (by omega) (by omega)) fun r hr=>?_
  subst hr
  refine .must rfl (fin rfl (by rw [fl_len,Sm.size]) ?_)
  unfold fs fl
  rw [Sm.flat,List.map_append];rfl
 | brk a=>
  refine Rb.from (A:=⟨kwT [98,114,101,97,107] :: mkT [59] :: ts,nd,d + 1⟩) (.isN rfl (.takeN rfl (.takeN rfl (.takeN rfl (.takeY rfl (.must rfl (fin (nd2:=[]) (by simp) rfl rfl))))))) rfl
 | next a=>
  refine Rb.from (A:=⟨kwT [99,111,110,116,105,110,117,101] :: mkT [59] :: ts,nd,d + 1⟩) (.isN rfl (.takeN rfl (.takeN rfl (.takeN rfl (.takeN rfl (.takeY rfl (.must rfl (fin (nd2:=[]) (by simp) rfl rfl)))))))) rfl
 | block a l=>
  simp only [Sm.size,Sm.dep] at hn hd hl
  have htk:(Sm.block a l).tk ++ ts = mkT [123] :: (Sm.tks l ++ mkT [125] :: ts):=by simp only [Sm.tk,List.append_assoc,List.cons_append,List.nil_append]
  rw [htk]
  refine .isY rfl (Rb.mono (Rb.to (block_rd hs (a:=a) (by omega) (by omega) hg.2 (by omega) (by omega)) ?_) fun r hr=>by rw [hr,Sm.size];omega)
  congr 2
  unfold fs fss
  rw [Sm.flat,List.map_append];rfl
 | var a s ty=>
  obtain ⟨_,hnm,hty⟩:=hg
  have hl':nd.length + 1 ≤ 4096:=hl
  have htk:(Sm.var a s ty).tk ++ ts = parT1 ty s ++ mkT [59] :: ts:=by simp only [Sm.tk,List.append_assoc,List.cons_append,List.nil_append]
  rw [htk]
  have body:Rb (varP ex) ⟨parT1 ty s ++ mkT [59] :: ts,nd,d + 1⟩ (· = nd.length + (Sm.var a s ty).size - 1) ⟨ts,nd ++ fs nd.length (.var a s ty),d + 1⟩:=by
   unfold varP
   refine Rb.bind (param_rd hty) fun x hx=>.takeN rfl (.must rfl (fin (nd2:=[]) (by simp) rfl ?_))
   rw [hx];rfl
  rcases hty with rfl | rfl | rfl
  ·exact .isN rfl (.takeN rfl (.takeN rfl (.takeN rfl (.takeN rfl (.takeN rfl (.isY rfl body))))))
  ·exact .isN rfl (.takeN rfl (.takeN rfl (.takeN rfl (.takeN rfl (.takeN rfl (.isN rfl (.isY rfl body)))))))
  ·exact .isN rfl (.takeN rfl (.takeN rfl (.takeN rfl (.takeN rfl (.takeN rfl (.isY rfl body))))))
 | vari a s ty x=>
  simp only [Sm.size,Sm.dep] at hn hd hl
  obtain ⟨_,hnm,hty,hgx,_⟩:=hg
  have htk:(Sm.vari a s ty x).tk ++ ts = parT1 ty s ++ mkT [61] :: (x.tk ++ mkT [59] :: ts):=by simp only [Sm.tk,List.append_assoc,List.cons_append,List.nil_append]
  rw [htk]
  have body:Rb (varP ex) ⟨parT1 ty s ++ mkT [61] :: (x.tk ++ mkT [59] :: ts),nd,d + 1⟩ (· = nd.length + (Sm.vari a s ty x).size - 1) ⟨ts,nd ++ fs nd.length (.vari a s ty x),d + 1⟩:=by
   unfold varP
   refine Rb.bind (param_rd hty) fun y hy=>.takeY rfl (Rb.bind (ex_mk he x (.inl rfl) (by omega) hgx (by omega) (by omega)) fun r hr=>?_)
   subst hr
   refine .must rfl (fin rfl (by rw [fl_len,Sm.size]) ?_)
   rw [hy]
   unfold fs fl
   rw [Sm.flat,List.map_append];rfl
  rcases hty with rfl | rfl | rfl
  ·exact .isN rfl (.takeN rfl (.takeN rfl (.takeN rfl (.takeN rfl (.takeN rfl (.isY rfl body))))))
  ·exact .isN rfl (.takeN rfl (.takeN rfl (.takeN rfl (.takeN rfl (.takeN rfl (.isN rfl (.isY rfl body)))))))
  ·exact .isN rfl (.takeN rfl (.takeN rfl (.takeN rfl (.takeN rfl (.takeN rfl (.isY rfl body))))))
theorem sm_rd (len:Nat):∀ n:Nat,RbS (S:=S) n len (smP n)
 | 0=>fun _ _ _ _ h=>by omega
 | n + 1=>fun e ts nd d=>stmt_rd (ex_rd len n) (sm_rd len n) e ts nd d
theorem params_rd:∀ (r:List Par) (p:Par) (acc:List Nat) (k:Nat) (ts:List Tok) (nd:List Node),r.length < k → (∀ x ∈ p :: r,tyOk x.2.2) → nd.length + r.length + 1 ≤ 4096 →
  Rb (loopP (paramsB (S:=S)) k acc) ⟨parT1 p.2.2 p.2.1 ++ (parTk r ++ mkT [41] :: ts),nd,d⟩ (· = acc ++ List.range' nd.length (r.length + 1)) ⟨ts,nd ++ (p :: r).map fun x=>(parNode x).strip,d⟩
 | _,_,_,0,_,_,hk,_,_=>by omega
 | [],p,acc,k + 1,ts,nd,hk,ht,hl=>by
  refine Rb.loopR (P:=(· = acc ++ List.range' nd.length (0 + 1))) (b:=acc ++ [nd.length]) ?_ rfl
  unfold paramsB
  refine Rb.bind (param_rd (ht p (by simp))) fun x hx=>Rb.bind (Rb.node (by simp at hl;omega) rfl) fun i hi=>?_
  subst hi
  refine Rb.takeY rfl (Rb.to (.pure rfl) ?_)
  rw [hx];rfl
 | q :: r,p,acc,k + 1,ts,nd,hk,ht,hl=>by
  simp only [List.length_cons] at hk hl
  have ih:=params_rd r q (acc ++ [nd.length]) k ts (nd ++ [(parNode p).strip]) (by omega) (fun x hx=>ht x (List.mem_cons_of_mem _ hx)) (by simp;omega)
  refine Rb.loopI (a':=acc ++ [nd.length]) (B:=⟨parT1 q.2.2 q.2.1 ++ (parTk r ++ mkT [41] :: ts),nd ++ [(parNode p).strip],d⟩) ?_ (Rb.mono (ih.to ?_) ?_)
  ·unfold paramsB
   refine Rb.from (A:=⟨parT1 p.2.2 p.2.1 ++ mkT [44] :: (parT1 q.2.2 q.2.1 ++ (parTk r ++ mkT [41] :: ts)),nd,d⟩) (Rb.bind (param_rd (ht p (by simp))) fun x hx=>Rb.bind (Rb.node (by omega) rfl) fun i hi=>?_) ?_
   ·subst hi
    refine Rb.takeN rfl (.must rfl (Rb.to (.pure rfl) ?_))
    rw [hx];rfl
   ·simp only [parTk,List.cons_append,List.append_assoc]
  ·simp
  ·intro y hy
   rw [hy,List.append_assoc,List.length_append,List.length_cons]
   congr 1
def fd (b:Nat) (e:Dc):List Node:=(e.flat b).map Node.strip
def fds (b:Nat) (l:List Dc):List Node:=(Dc.flats b l).map Node.strip
theorem fd_len (b:Nat) (e:Dc):(fd b e).length = e.size:=by unfold fd;rw [List.length_map,Dc.flat_len]
theorem fds_cons (b:Nat) (x:Dc) (l:List Dc):fds b (x :: l) = fd b x ++ fds (b + x.size) l:=by unfold fds fd;rw [Dc.flats,List.map_append]
theorem body_rd {at_:Nat} {s:List UInt8} {ps:List Par} {l:List Sm} {a bat:Nat} (hn:4 * Sm.sizes l + 3 ≤ n) (hg:Sm.goods len bat l) (hd:Sm.deps l ≤ 40) (hl:nd.length + ps.length + Sm.sizes l + 2 ≤ 4096) :
  Rb (bodyP (S:=S) n at_ s (List.range' nd.length ps.length)) ⟨mkT [123] :: (Sm.tks l ++ mkT [125] :: ts),nd ++ ps.map (fun x=>(parNode x).strip),0⟩ (· = nd.length + (Dc.fn a s ps bat l).size - 1) ⟨ts,nd ++ fd nd.length (.fn a s ps bat l),0⟩:=by
 unfold bodyP
 refine Rb.bind (block_rd (sm_rd len n) (a:=bat) (by omega) (by omega) hg (by omega) (by rw [List.length_append,List.length_map];omega)) fun r hr=>?_
 subst hr
 refine Rb.to (Rb.node (by simp only [List.length_append,List.length_map,fss_len,List.length_cons,List.length_nil];omega) (by simp only [List.length_append,List.length_map,fss_len,List.length_cons,List.length_nil,Dc.size];omega)) ?_
 simp only [List.length_append,List.length_map,List.length_range',List.append_assoc]
 congr 2
 unfold fd fss
 rw [Dc.flat]
 simp only [List.map_append,List.map_map,List.append_assoc]
 rfl
theorem decl_rd (e:Dc) (ts:List Tok) (nd:List Node) (hn:4 * e.size + 4 ≤ n) (hg:e.good len) (hl:nd.length + e.size ≤ 4096) :
  Rb (declP (S:=S) n) ⟨e.tk ++ ts,nd,0⟩ (· = nd.length + e.size - 1) ⟨ts,nd ++ fd nd.length e,0⟩:=by
 unfold declP
 cases e with
 | var a s=>
  simp only [Dc.size] at hl hn
  refine .tokP fun t ht=>Rb.from (A:=⟨kwT kInt :: nmT s :: mkT [59] :: ts,nd,0⟩) (.takeN rfl (.must rfl (.kind rfl fun t' ht'=>.takeY rfl (Rb.to (Rb.node (by omega) rfl) ?_)))) rfl
  have:t'.text = s:=ht'.2.1
  rw [this];rfl
 | array a s ty v=>
  simp only [Dc.size] at hl hn
  have arr (at_:Nat):Rb (arrayP (S:=S) at_ s ty) ⟨mkT [91] :: numT v :: mkT [93] :: mkT [59] :: ts,nd,0⟩ (· = nd.length + (Dc.array a s ty v).size - 1) ⟨ts,nd ++ fd nd.length (.array a s ty v),0⟩:=by
   unfold arrayP
   refine .must rfl (.kind rfl fun t' ht'=>.must rfl (.must rfl (Rb.to (Rb.node (by omega) rfl) ?_)))
   have:t'.n = v:=ht'.2.2
   rw [this];rfl
  rcases hg.2.2.1 with rfl | rfl
  ·refine .tokP fun t ht=>Rb.from (A:=⟨kwT kChar :: nmT s :: mkT [91] :: numT v :: mkT [93] :: mkT [59] :: ts,nd,0⟩) (.takeY rfl (.kind rfl fun t' ht'=>?_)) rfl
   have:t'.text = s:=ht'.2.1
   rw [this]
   exact arr _
  ·refine .tokP fun t ht=>Rb.from (A:=⟨kwT kInt :: nmT s :: mkT [91] :: numT v :: mkT [93] :: mkT [59] :: ts,nd,0⟩) (.takeN rfl (.must rfl (.kind rfl fun t' ht'=>.takeN rfl (.isN rfl ?_)))) rfl
   have:t'.text = s:=ht'.2.1
   rw [this]
   exact arr _
 | fn a s ps bat l=>
  simp only [Dc.size] at hl hn
  obtain ⟨_,hnm,hps,_,_,hgl,hdl⟩:=hg
  refine .tokP fun t ht=>Rb.from (A:=⟨kwT kInt :: nmT s :: mkT [40] :: ((parTk ps).tail ++ mkT [41] :: mkT [123] :: (Sm.tks l ++ mkT [125] :: ts)),nd,0⟩) (.takeN rfl (.must rfl (.kind rfl fun t' ht'=>.takeN rfl (.isY rfl ?_)))) ?_
  ·have:t'.text = s:=ht'.2.1
   rw [this]
   unfold functionP
   refine .nextP fun _ _=>?_
   cases ps with
   | nil=>
    refine .takeY rfl ?_
    have:=body_rd (S:=S) (at_:=t.at_) (s:=s) (ps:=[]) (l:=l) (a:=a) (bat:=bat) (ts:=ts) (nd:=nd) (n:=n) (len:=len) (by omega) hgl hdl (by simp at hl ⊢;omega)
    rw [List.map_nil,List.append_nil] at this
    exact this
   | cons p r=>
    simp only [List.length_cons] at hl hn
    have hp:=hps p (by simp)
    have hcl:isB (hdT (parT1 p.2.2 p.2.1 ++ (parTk r ++ mkT [41] :: mkT [123] :: (Sm.tks l ++ mkT [125] :: ts)))) [41] = false:=by
     rcases hp.2.2.2 with h | h | h <;> rw [h] <;> rfl
    refine Rb.from (A:=⟨parT1 p.2.2 p.2.1 ++ (parTk r ++ mkT [41] :: mkT [123] :: (Sm.tks l ++ mkT [125] :: ts)),nd,0⟩) (.takeN hcl (Rb.bind (params_rd r p [] n _ nd (by omega) (fun x hx=>(hps x hx).2.2.2) (by omega)) fun y hy=>?_)) ?_
    ·subst hy
     rw [List.nil_append]
     exact body_rd (S:=S) (ps:=p :: r) (l:=l) (nd:=nd) (ts:=ts) (a:=a) (bat:=bat) (len:=len) (by omega) hgl hdl (by simp only [List.length_cons];omega)
    ·simp only [parTk,List.tail_cons,List.append_assoc]
  ·simp only [Dc.tk,List.cons_append,List.append_assoc,List.nil_append]
theorem decls_rd:∀ (l:List Dc) (acc:List Nat) (k:Nat) (nd:List Node),l.length < k → (∀ x ∈ l,x.good len ∧ 4 * x.size + 4 ≤ n) → nd.length + Dc.sizes l ≤ 4096 →
  Rb (loopP (declB (S:=S) n) k acc) ⟨allT l,nd,0⟩ (· = acc ++ Dc.roots nd.length l) ⟨[],nd ++ fds nd.length l,0⟩
 | _,_,0,_,hk,_,_=>by omega
 | [],acc,k + 1,nd,hk,hg,hl=>by
  refine Rb.to (Rb.loopR (P:=(· = acc ++ Dc.roots nd.length [])) (B:=⟨[],nd,0⟩) (b:=acc) ?_ (by simp [Dc.roots])) ?_
  ·unfold declB
   refine .tokP fun t ht=>?_
   have hk:t.kind = 0:=ht.1
   rw [if_pos hk]
   exact .pure rfl
  ·rw [show fds nd.length [] = [] from rfl,List.append_nil]
 | x :: l,acc,k + 1,nd,hk,hg,hl=>by
  rw [Dc.sizes] at hl
  obtain ⟨hx,hxn⟩:=hg x (by simp)
  have hxp:=Dc.size_pos x
  have ih:=decls_rd l (acc ++ [nd.length + x.size - 1]) k (nd ++ fd nd.length x) (by simpa using hk) (fun y hy=>hg y (List.mem_cons_of_mem _ hy)) (by rw [List.length_append,fd_len];omega)
  refine Rb.loopI (a':=acc ++ [nd.length + x.size - 1]) (B:=⟨allT l,nd ++ fd nd.length x,0⟩) ?_ (Rb.mono (ih.to ?_) ?_)
  ·unfold declB
   refine Rb.from (A:=⟨x.tk ++ allT l,nd,0⟩) (.tokP fun t ht=>?_) rfl
   have hk0:t.kind ≠ 0:=by
    have h1:t.kind = (hdT (x.tk ++ allT l)).kind:=ht.1
    rw [h1]
    cases x <;> (show (2:Nat) ≠ 0;decide)
   rw [if_neg hk0]
   refine Rb.bind (decl_rd x (allT l) nd hxn hx (by omega)) fun r hr=>?_
   subst hr
   exact .pure rfl
  ·rw [fds_cons nd.length x,List.length_append,fd_len,List.append_assoc]
  ·intro r hr
   rw [hr,List.length_append,fd_len]
   simp [Dc.roots]
theorem Dc.size_le:∀ (l:List Dc),∀ y ∈ l,y.size ≤ Dc.sizes l
 | x :: l,y,hy=>by
  rcases List.mem_cons.1 hy with rfl | hy
  ·rw [Dc.sizes];omega
  ·have:=Dc.size_le l y hy
   rw [Dc.sizes];omega
theorem Dc.len_sizes:∀ l:List Dc,l.length ≤ Dc.sizes l
 | []=>Nat.le_refl _
 | x :: l=>by have:=Dc.size_pos x;have:=Dc.len_sizes l;rw [Dc.sizes,List.length_cons];omega
theorem back {l:List Dc} (hg:∀ x ∈ l,x.good len) (hl:(allNodes l).length ≤ 4096) {n:Nat} (hn:16400 ≤ n):∃ nd,readP (strm (allPr l)) (0:Nat) n = some (.ok nd) ∧ (allNodes l).map Node.strip = nd.map Node.strip:=by
 have hlen:Dc.sizes l + 1 ≤ 4096:=by simpa [allNodes,Dc.flats_len] using hl
 have hf:Feeds (strm (allPr l)) (0:Nat) (allT l):=feeds_text (allT l) 0 (allT_ok hg) (.inl (by rw [spell_all];rfl))
 obtain ⟨t,q,h1,h2,h3⟩:=hf.nxt
 have his:Is (strm (allPr l)) ⟨t,q,[],0⟩ ⟨allT l,[],0⟩:=⟨h2,h3,rfl,rfl⟩
 have hln:=Dc.len_sizes l
 have hw:Rb (wholeP (S:=strm (allPr l)) n) ⟨allT l,[],0⟩ (fun _=>True) ⟨[],(allNodes l).map Node.strip,0⟩:=by
  unfold wholeP
  refine Rb.bind (decls_rd (S:=strm (allPr l)) (n:=n) l [] n [] (by omega) (fun x hx=>⟨hg x hx,by have:=Dc.size_le l x hx;omega⟩) (by simp;omega)) fun r hr=>?_
  subst hr
  refine Rb.to (Rb.node (by simp only [List.nil_append];unfold fds;rw [List.length_map,Dc.flats_len];omega) trivial) ?_
  unfold allNodes fds
  rw [List.map_append];rfl
 obtain ⟨a,st',h4,_,h5⟩:=hw _ his
 refine ⟨st'.nodes,?_,h5.nodes.symm⟩
 unfold readP
 rw [h1]
 simp only
 rw [h4]
end
end Go.Front

/- The first heap; from what the machine answers to a row that lists variables; the witness; the arguments. -/
import Derived.Test.YtlbieeajocjpeaaGreatDoorLbOk
import Derived.Test.YtlbieeajocjpeaaGreatDoorShown
import Derived.Test.YtlbieeajocjpeaaGreatDoorAmLaw
import Derived.Test.YtlbieeajocjpeaaGreatDoorRows
import Derived.Lib.LaidTab
import Derived.LaidLaws
import Derived.LaidHandle
import Derived.MakeChecks
import Derived.Shelf.Vars
import Derived.Lay
import Derived.Deep.DeepHandedRow
import Derived.Test.YtlbieeajocjpeaaGreatDoorAst
import Derived.Test.YtlbieeajocjpeaaGreatDoorWk11
import Derived.KernelRfl
namespace Go.Proofs.YtlbieeajocjpeaaGreatDoor
open Go.ChangeShapes Go.WideShapes Go.ChangeAt Go.AM Go.RowKit Go.Front
set_option maxRecDepth 100000
theorem laidVars_at {P:Program} {w:World} {n:String} {d:DataW Unit}:∀ {l:List (String × DataW Unit)} {ps:List MemPlace},DataW.LaidVars P w l ps → (n,d) ∈ l →
  ∃ g t cs fuel p,P.globalNamed n = some g ∧ (P.globals[g]?).map (·.type) = some t ∧ w.var? P n = some cs ∧ DataW.trod (fun _=>()) P w 0 (fun _=>true) false fuel t cs.toList = some (d,p)
 | [],_,_,hm=>by cases hm
 | (n',d') :: r,ps,h,hm=>by
  obtain ⟨g,t,cs,fuel,p,q,h1,h2,h3,h4,h5,_⟩:=h
  rcases List.mem_cons.1 hm with he | hm
  ·cases he;exact ⟨g,t,cs,fuel,p,h1,h2,h3,h4⟩
  ·exact laidVars_at h5 hm
theorem heap_of_var {P:Program} {w:World} {n:String} {g:Nat} {cs:Array Value} (hg:P.globalNamed n = some g) (h:w.var? P n = some cs):∃ ty fr,w.heap[g]? = some (.cells cs ty fr):=by
 unfold World.var? at h
 rw [hg] at h
 simp only [Option.bind_some] at h
 split at h
 ·rename_i c ty fr hh;cases h;exact ⟨ty,fr,hh⟩
 ·cases h
theorem tab_at {P:Program} {w:World} {n:String} {k:IntKind} {zs:List Int} {l:List (String × DataW Unit)} {g:Nat} {t e:TypeId} {m:Nat} (hl:laidMet P l w) (hm:(n,Lib.tabData k zs) ∈ l)
  (hg:P.globalNamed n = some g) (hty:(P.globals[g]?).map (·.type) = some t) (ht:P.underlying t = some (.array m e)) (he:P.underlying e = some (.int k)) (hce:P.cellsOf e = 1) (hct:P.cellsOf t = m) :
  ∃ ty fr,w.heap[g]? = some (.cells (zs.map fun z=>Value.int k z).toArray ty fr):=by
 obtain ⟨ps,hv,_⟩:=hl
 obtain ⟨g',t',cs,fuel,p,h1,h2,h3,h4⟩:=laidVars_at hv hm
 obtain rfl:=Option.some.inj (hg.symm.trans h1)
 obtain rfl:=Option.some.inj (hty.symm.trans h2)
 have:=Lib.cells_of_tab ht he hce hct h4
 have hcs:cs = (zs.map fun z=>Value.int k z).toArray:=by rw [← this]
 subst hcs
 exact heap_of_var hg h3
theorem err_at {P:Program} {w:World} {n nm:String} {d:DataW Unit} {l:List (String × DataW Unit)} {g:Nat} {t:TypeId} {ms:Array (String × TypeId)} (hl:laidMet P l w) (hm:(n,DataW.iface nm d) ∈ l)
  (hg:P.globalNamed n = some g) (hty:(P.globals[g]?).map (·.type) = some t) (ht:P.underlying t = some (.interface ms)) :
  ∃ te pe ty fr,w.heap[g]? = some (.cells #[.iface te pe] ty fr):=by
 obtain ⟨ps,hv,_⟩:=hl
 obtain ⟨g',t',cs,fuel,p,h1,h2,h3,h4⟩:=laidVars_at hv hm
 obtain rfl:=Option.some.inj (hg.symm.trans h1)
 obtain rfl:=Option.some.inj (hty.symm.trans h2)
 obtain ⟨_,u,v,hc,_,_⟩:=iface_of_trod ht h4
 have hcs:cs = #[.iface u v]:=arr_of hc
 subst hcs
 obtain ⟨ty,fr,h⟩:=heap_of_var hg h3
 exact ⟨u,v,ty,fr,h⟩
theorem heap0_of {w:World} (hl:laidMetH Tryz.prog Rows.frontPlacesRow.laid w):∃ μ0:Emb,R μ0 heap0 w ∧ μ0.ro:=by
 rw [MakeChecks.laidMetH_plain _ _ _ (by kernel_rfl)] at hl
 have hasc:Rows.laid_strings_asciiSpace (H:=Unit) = Lib.tabData .u8 Lib.asciiSpaceTab:=by kernel_rfl
 have hpow:Rows.laid_internal_strconv_uint64pow10 (H:=Unit) = Lib.tabData .u64 Lib.pow10Tab:=by kernel_rfl
 obtain ⟨ty0,fr0,h0⟩:=tab_at (n:= "strings.asciiSpace") (g:=0) (t:=103) (e:=5) (m:=256) hl (by rw [← hasc];simp [Rows.frontPlacesRow]) (by kernel_rfl) (by kernel_rfl) (by kernel_rfl) (by kernel_rfl) (by kernel_rfl) (by kernel_rfl)
 obtain ⟨ty1,fr1,h1⟩:=tab_at (n:= "internal/strconv.uint64pow10") (g:=4) (t:=145) (e:=100) (m:=20) hl (by rw [← hpow];simp [Rows.frontPlacesRow]) (by kernel_rfl) (by kernel_rfl) (by kernel_rfl) (by kernel_rfl) (by kernel_rfl) (by kernel_rfl)
 obtain ⟨te2,pe2,ty2,fr2,h2⟩:=err_at (n:= "strconv.ErrSyntax") (g:=2) (t:=72) hl (.tail _ (.tail _ (.tail _ (.tail _ (.tail _ (.head _)))))) (by kernel_rfl) (by kernel_rfl) Tryz.underlying72
 obtain ⟨te3,pe3,ty3,fr3,h3⟩:=err_at (n:= "strconv.ErrRange") (g:=3) (t:=72) hl (.tail _ (.tail _ (.tail _ (.tail _ (.head _))))) (by kernel_rfl) (by kernel_rfl) Tryz.underlying72
 have r0:=(R.none w).know (p:=KAsc) (fun b e h=>by cases h) h0 ⟨ty0,fr0,rfl⟩
 have r1:=r0.1.know (p:=KPow) r0.2 h1 ⟨ty1,fr1,rfl⟩
 have r2:=r1.1.know (p:=KErr) r1.2 h2 ⟨te2,pe2,ty2,fr2,rfl⟩
 have r3:=r2.1.know (p:=KErr) r2.2 h3 ⟨te3,pe3,ty3,fr3,rfl⟩
 exact ⟨_,r3.1,r3.2⟩
section
variable {H:Type} {enc:TypeId × Value → H}
theorem contract_laid {B:Caller} {C:Checked} {f k tb:Nat} {fn:Func} {s:ChangeSpec} {apart:Bool} {σ0:St} {μ0:Emb} {W:World} {base:Nat} {args:Array Value} {ds gs:List (DataW H)} {before:List MemPlace}
  (hvars:s.vars = []) (hfn:C.prog.funcs[f]? = some fn) (hbd:fn.body.isSome = true) (hres:fn.resultTypes = #[tb]) (hb:C.prog.underlying tb = some .bool) (hl:laidOutB C.prog = true) (hP:POk C.prog) (hB:CallOk C.prog B)
  (hts:∀ t ∈ fn.params.toList,okT C.prog k t = true ∧ C.prog.readableRec t = true ∧ t < C.prog.types.size)
  (hs:∀ ds:List (DataW H),ds.length = fn.params.toList.length → s.fn H ds = { results:=[.lit (.bool true)],args:=ds })
  (hR0:R μ0 σ0 W) (hr0:μ0.ro) (hval:∀ (j:Nat) t v,fn.params[j]? = some t → args[j]? = some v → Value.okWide C.prog W .any base t v)
  (hW:DataW.Whole enc C.prog fn.params.toList s.vars apart W args.toList ds gs before)
  (hc:All2 (ArgD C.prog k) fn.params.toList ds → gs = [] → ∃ n σ',callP C.prog B n f (absArgs C.prog fn.params.toList ds σ0).1 (absArgs C.prog fn.params.toList ds σ0).2 = some (.ret (.bool true),σ')) :
  Calls C.prog f args W fun e W'=>∃ v,e = .returned v ∧ s.post enc C.prog fn apart true false false W args v W':=by
 have hW':=hW
 obtain ⟨p,q,hA,hV,rfl,hfz,hnd⟩:=hW
 rw [hvars] at hV
 obtain ⟨rfl,rfl⟩:gs = [] ∧ q = []:=by
  cases gs with
  | nil=>exact ⟨rfl,hV⟩
  | cons g gs=>simp [DataW.TrodVars] at hV
 simp only [List.append_nil] at *
 refine (calls_true hfn hbd hP hB hR0 hr0 (fun t ht=>(hts t ht).1) (fun j t v h h'=>hval j t v (by simpa using h) h') hA (fun hd=>hc hd trivial)).mono fun e W' ⟨he,hbelow⟩=>?_
 subst he
 have hfn2:=hs ds (trod_len hA)
 rw [← List.append_nil ds] at hfn2
 refine ⟨_,rfl,ds,[],p,[],p,[],hW',?_,?_,?_,hbelow.frame _,fun h=>by cases h⟩
 ·rw [hfn2,hres]
  exact trodAll_mk1 (shut_bool hb true)
 ·rw [hfn2]
  simp only [List.append_nil]
  refine trodAll_below hl hbelow (fun t ht=>(hts t ht).2) hA ?_
  intro x hx
  exact hW'.lt x hx
 ·rw [hfn2,hvars]
  rfl
theorem witness_laid {C:Checked} {os:Os} {f:FuncId} {fn:Func} {s:OpenSpec} {conds:List PathCond} {apart:Bool} {laid:List (String × DataW Unit)} (args:Array Value)
  (hv:((World.laidAll C.prog os laid).forCall (fun _ _=>0) ⟨#[],args,[]⟩).variablesZipB C.prog = true)
  (hr:(((World.laidAll C.prog os laid).forCall (fun _ _=>0) ⟨#[],args,[]⟩).heap.toList.drop C.prog.globals.size).take ((begin C.prog (fun _ _=>0) default).world.heap.size - C.prog.globals.size) =
   (begin C.prog (fun _ _=>0) default).world.heap.toList.drop C.prog.globals.size)
  (hok:Input.okWideB C.prog ((World.laidAll C.prog os laid).forCall (fun _ _=>0) ⟨#[],args,[]⟩) f ⟨#[],args,[]⟩ = true)
  (hrow:s.preRow enc C.prog fn conds apart laid ((World.laidAll C.prog os laid).forCall (fun _ _=>0) ⟨#[],args,[]⟩).memory args) :
  ∃ (w:World) (tape:Tape) (i:Input),w.os = os ∧ (w.forCall tape i).Shaped C.prog ∧ i.vars = [] ∧ Input.okWide C.prog (w.forCall tape i) .any w.heap.size f i ∧
   s.preRow enc C.prog fn conds apart laid (w.forCall tape i).memory i.args ∧ ({}:Assume).holds C.prog (lone (Frame.enter C.prog f i.args .normal) [] (w.forCall tape i)):=
 ⟨World.laidAll C.prog os laid,fun _ _=>0,⟨#[],args,[]⟩,World.laidAll_os _ _ _,World.shaped_of_ZipB hv hr,(Input.okWide_of_okWideB (base:=0) hok).1,(Input.okWide_of_okWideB hok).2,hrow,by
  simp only [Assume.holds]
  exact ⟨by simp,by simp,by simp,by simp,by simp⟩⟩
theorem own:ownKnob Tryz.prog.godebug = none:=by kernel_rfl
theorem laidOut1:laidOutB Tryz.prog = true:=by kernel_rfl
theorem laid_at (os:Os) (args:Array Value):laidMetH Tryz.prog Rows.frontPlacesRow.laid ((World.laidAll Tryz.prog os Rows.frontPlacesRow.laid).forCall (fun _ _=>0) ⟨#[],args,[]⟩).memory:=by
 rw [MakeChecks.laidMetH_plain _ _ _ (by kernel_rfl)]
 exact laidMet_laidAll _ (by kernel_rfl) (by kernel_rfl)
theorem arg_str {d:DataW H} (h:ArgD Tryz.prog 5 9 d):∃ s:List UInt8,d = .lit (.string s):=by
 have h2:FlatD Tryz.prog 5 9 d:=by simpa only [ArgD,Tryz.underlying9] using h
 obtain ⟨s,rfl,_⟩:=(flatD_str Tryz.underlying9).1 h2
 exact ⟨s,rfl⟩
theorem fw_run {f:Nat} {args:List AV} {Q:Post} (h:Fw Tryz.prog Lb f args heap0 Q) (hq:∀ r σ',Q r σ' → r = .ret (.bool true)):∃ n σ',callP Tryz.prog Lb n f args heap0 = some (.ret (.bool true),σ'):=by
 obtain ⟨N,r,σ',h1,h2⟩:=h
 have hr:=hq _ _ h1
 subst hr
 exact ⟨N,σ',h2 ⟨N,N,N,N⟩ ⟨Nat.le_refl _,Nat.le_refl _,Nat.le_refl _,Nat.le_refl _⟩⟩
end
end Go.Proofs.YtlbieeajocjpeaaGreatDoor
set_option linter.unusedSimpArgs false
set_option linter.unusedVariables false
namespace Go.Front
def tokEq (t1 t2:Tok):Prop:=t1.kind = t2.kind ∧ t1.text = t2.text ∧ t1.n = t2.n
theorem tokEq.isB {t1 t2:Tok} (h:tokEq t1 t2) (m:List UInt8):isB t1 m = isB t2 m:=by unfold Front.isB;rw [h.1,h.2.1]
structure SimS (S1 S2:Strm) where
 rel:S1.Pos → S2.Pos → Prop
 fin:S1.Pos → S2.Pos → Prop
 ok:∀ q1 q2 t1 q1',rel q1 q2 → S1.nxt q1 = .inr (t1,q1') → ∃ t2 q2',S2.nxt q2 = .inr (t2,q2') ∧ ((tokEq t1 t2 ∧ rel q1' q2') ∨ (t1.kind = 5 ∧ t1.text = [59] ∧ t2.kind = 5 ∧ t2.text = [41] ∧ fin q1' q2'))
section
variable {S1 S2:Strm} {K:SimS S1 S2} {c:Nat} {α α1 α2 β β1 β2 γ:Type} {st1:PS S1} {st2:PS S2}
section
variable {op1:PM S1 Nat} {op2:PM S2 Nat} {ex1:Nat → PM S1 Nat} {ex2:Nat → PM S2 Nat} {n1 n2:Nat}
end
end
end Go.Front
namespace Go.Front
theorem cut_drop {s r:List UInt8} {a:Nat} (h:s.drop a = r):cut s a = (a + skip false r,(one (r.drop (skip false r))).map fun p=>(⟨p.1,a + skip false r,p.2.1,p.2.2.1⟩,a + skip false r + p.2.2.2)):=by
 unfold cut
 dsimp only
 rw [h,← h,List.drop_drop]
theorem nxt_of {s:List UInt8} {a f q:Nat} {t:Tok} (h:cut s a = (f,some (t,q))):(strm s).nxt a = .inr (t,q):=by
 show (match cut s a with | (f,none)=>Sum.inl f | (_,some (t,q))=>Sum.inr (t,q)) = _
 rw [h]
 rfl
section
variable {S:Strm} {α:Type} {t0 t:Tok} {q0 q:S.Pos} {nd:List Node} {d:Nat} {m:List UInt8} {st:PS S} {r:α × PS S}
theorem tok_st {k:Tok → PM S α}:(tokP >>= k) st = k st.tok st:=rfl
theorem is_st {k:Bool → PM S α}:(isP m >>= k) st = k (isB st.tok m) st:=rfl
theorem next_st {k:Tok → PM S α} (h:S.nxt q0 = .inr (t,q)):(nextP >>= k) ⟨t0,q0,nd,d⟩ = k t0 ⟨t,q,nd,d⟩:=PM.bind_ok (by unfold nextP;simp only [h])
theorem take_yes {k:Bool → PM S α} (hb:isB t0 m = true) (h:S.nxt q0 = .inr (t,q)):(takeP m >>= k) ⟨t0,q0,nd,d⟩ = k true ⟨t,q,nd,d⟩:=by
 refine PM.bind_ok ?_
 unfold takeP
 rw [is_st]
 simp only [hb,if_true]
 rw [next_st h]
 rfl
theorem must_yes {k:Unit → PM S α} (hb:isB t0 m = true) (h:S.nxt q0 = .inr (t,q)):(mustP m >>= k) ⟨t0,q0,nd,d⟩ = k () ⟨t,q,nd,d⟩:=by
 refine PM.bind_ok ?_
 unfold mustP
 rw [is_st]
 simp only [hb,if_true]
 rw [next_st h]
 rfl
theorem kind_yes {n:Nat} {k:Tok → PM S α} (hb:t0.kind = n) (h:S.nxt q0 = .inr (t,q)):(kindP n >>= k) ⟨t0,q0,nd,d⟩ = k t0 ⟨t,q,nd,d⟩:=by
 refine PM.bind_ok ?_
 unfold kindP
 rw [tok_st]
 simp only [hb,if_true]
 unfold nextP
 simp only [h]
end
end Go.Front
set_option linter.unusedSimpArgs false
set_option linter.unusedVariables false
namespace Go.Front
def kwT (m:List UInt8):Tok:=⟨2,0,m,0⟩
def mkT (m:List UInt8):Tok:=⟨5,0,m,0⟩
def nmT (s:List UInt8):Tok:=⟨1,0,s,0⟩
def numT (n:Int):Tok:=⟨3,0,[],n⟩
def txtT (s:List UInt8):Tok:=⟨4,0,s,0⟩
inductive TkOk:Tok → Prop
 | kw {m:List UInt8} (h:m ∈ words):TkOk (kwT m)
 | mk {m:List UInt8} (h:m ∈ marks):TkOk (mkT m)
 | nm {s:List UInt8} (h:nameOk s):TkOk (nmT s)
 | num {n:Int} (h1:0 ≤ n) (h2:n < 9223372036854775808):TkOk (numT n)
 | txt {s:List UInt8} (h:textOk s):TkOk (txtT s)
def Tok.sp (t:Tok):List UInt8:=if t.kind = 3 then Lib.itoa t.n else if t.kind = 4 then quoteS t.text else t.text
def spell (l:List Tok):List UInt8:=l.flatMap fun t=>putS t.sp
theorem spell_cons (t:Tok) (l:List Tok):spell (t :: l) = putS t.sp ++ spell l:=rfl
theorem spell_app (l r:List Tok):spell (l ++ r) = spell l ++ spell r:=by unfold spell;exact List.flatMap_append
@[simp] theorem sp_kw (m:List UInt8):(kwT m).sp = m:=rfl
@[simp] theorem sp_mk (m:List UInt8):(mkT m).sp = m:=rfl
@[simp] theorem sp_nm (m:List UInt8):(nmT m).sp = m:=rfl
@[simp] theorem sp_num (n:Int):(numT n).sp = Lib.itoa n:=rfl
@[simp] theorem sp_txt (m:List UInt8):(txtT m).sp = quoteS m:=rfl
theorem dig_of {d:Nat} (h:d < 10):(UInt8.ofNat (48 + d)).toNat = 48 + d:=by
 rw [UInt8.toNat_ofNat'];omega
theorem dec_digits (u:Nat):∀ b ∈ Lib.decDigits u,48 ≤ b.toNat ∧ b.toNat ≤ 57:=by
 induction u using Nat.strongRecOn with
 | _ u ih=>
  intro b hb
  rw [Lib.decDigits] at hb
  split at hb
  ·next h=>
   rw [List.mem_singleton] at hb
   subst hb
   rw [dig_of h];omega
  ·next h=>
   rcases List.mem_append.1 hb with hb | hb
   ·exact ih _ (by omega) b hb
   ·rw [List.mem_singleton] at hb
    subst hb
    rw [dig_of (Nat.mod_lt _ (by decide))];omega
theorem dec_head (u:Nat):∃ c r,Lib.decDigits u = c :: r ∧ (c.toNat = 48 → r = []):=by
 have key:∀ u,u ≠ 0 → ∃ c r,Lib.decDigits u = c :: r ∧ c.toNat ≠ 48:=by
  intro u
  induction u using Nat.strongRecOn with
  | _ u ih=>
   intro h0
   rw [Lib.decDigits]
   by_cases h:u < 10
   ·rw [dif_pos h];exact ⟨_,_,rfl,by rw [dig_of h];omega⟩
   ·rw [dif_neg h]
    obtain ⟨c,r,he,hc⟩:=ih (u / 10) (by omega) (by omega)
    exact ⟨c,_,by rw [he,List.cons_append],hc⟩
 by_cases h0:u = 0
 ·subst h0;rw [Lib.decDigits,dif_pos (by decide)];exact ⟨_,_,rfl,fun _=>rfl⟩
 ·obtain ⟨c,r,he,hc⟩:=key u h0
  exact ⟨c,r,he,fun h=>absurd h hc⟩
theorem uint_dec (M:Nat) (hM:M ≤ 18446744073709551615):∀ (u acc:Nat) (r:List UInt8),acc * 10 ^ Lib.nDigits u + u ≤ M → Lib.parseUintM M acc (Lib.decDigits u ++ r) = Lib.parseUintM M (acc * 10 ^ Lib.nDigits u + u) r:=by
 intro u
 induction u using Nat.strongRecOn with
 | _ u ih=>
  intro acc r h1
  have step:∀ (a d:Nat) (r:List UInt8),d < 10 → a * 10 + d ≤ M → Lib.parseUintM M a (UInt8.ofNat (48 + d) :: r) = Lib.parseUintM M (a * 10 + d) r:=by
   intro a d r hd ha
   rw [Lib.parseUintM,dig_of hd,if_pos (by omega),if_neg (by omega),if_neg (by omega)]
   congr 1;omega
  by_cases h:u < 10
  ·rw [Lib.nDigits_small h] at h1 ⊢
   rw [Lib.decDigits,dif_pos h,Nat.pow_one] at *
   exact step acc u r h h1
  ·rw [Lib.nDigits_big h] at h1 ⊢
   rw [Lib.decDigits,dif_neg h,List.append_assoc]
   have e:acc * 10 ^ (Lib.nDigits (u / 10) + 1) = acc * 10 ^ Lib.nDigits (u / 10) * 10:=by rw [Nat.pow_succ,Nat.mul_assoc]
   rw [e] at h1 ⊢
   rw [ih (u / 10) (by omega) acc _ (by omega),List.cons_append,List.nil_append]
   rw [step _ _ _ (by omega) (by omega)]
   congr 1;omega
theorem int_nat {n:Int} (h1:0 ≤ n) (h2:n < 9223372036854775808):Lib.parseIntB 64 (Lib.itoa n) = .ok n:=by
 unfold Lib.itoa
 rw [if_neg (by omega)]
 obtain ⟨c,r,he,_⟩:=dec_head n.toNat
 have hc:=dec_digits n.toNat c (by rw [he];simp)
 have hu:Lib.parseUintB 64 (c :: r) = .ok n.toNat:=by
  unfold Lib.parseUintB
  rw [if_neg (by simp),← he]
  have:=uint_dec (2 ^ 64 - 1) (by decide) n.toNat 0 [] (by rw [Nat.zero_mul];omega)
  rw [List.append_nil,Nat.zero_mul,Nat.zero_add] at this
  rw [this];rfl
 rw [he,Lib.parseIntB]
 rw [if_neg (by omega),hu]
 have e:(2:Nat) ^ (64 - 1) = 9223372036854775808:=by decide
 simp only
 rw [if_neg (by rw [e];omega),if_neg (fun h=>by omega),if_neg (by omega)]
 congr 1;omega
theorem tw_stop {f:UInt8 → Bool} {b:UInt8} {r:List UInt8} (hb:f b = false):∀ (s:List UInt8),(∀ x ∈ s,f x = true) → (s ++ b :: r).takeWhile f = s
 | [],_=>by simp [hb]
 | c :: s,h=>by rw [List.cons_append,List.takeWhile_cons,if_pos (h c (by simp)),tw_stop hb s fun x hx=>h x (List.mem_cons_of_mem _ hx)]
theorem digit_not {c:UInt8} (h:48 ≤ c.toNat ∧ c.toNat ≤ 57):isLetter c = false ∧ isDigit c = true:=by
 constructor
 ·unfold isLetter;simp;omega
 ·unfold isDigit;simp;omega
theorem str_esc {b:UInt8} {r:List UInt8}:∀ (s:List UInt8) (n:Nat),s.length + n ≤ 100 → (∀ x ∈ s,(32 ≤ x.toNat ∧ x.toNat ≤ 126) ∨ x = 9 ∨ x = 10) → strBody (escS s ++ 34 :: b :: r) n = some (s,(escS s).length)
 | [],n,_,_=>by
  show strBody (34 :: b :: r) n = some ([],0)
  rw [strBody,if_pos (show (34:UInt8).toNat = 34 from rfl)]
 | c :: s,n,hn,hs=>by
  have ih:=str_esc (b:=b) (r:=r) s (n + 1) (by rw [List.length_cons] at hn;omega) fun x hx=>hs x (List.mem_cons_of_mem _ hx)
  rw [List.length_cons] at hn
  have hn':n ≠ 100:=by omega
  have two (d x:UInt8) (hd:esc d = some x) (hx:x ≠ 0):strBody (92 :: d :: (escS s ++ 34 :: b :: r)) n = some (x :: s,(escS s).length + 2):=by
   rw [strBody,if_neg (by decide),if_pos (show (92:UInt8).toNat = 92 from rfl),hd]
   simp only
   rw [if_neg (by intro h;rcases h with h | h;exact hx h;exact hn' h),ih];rfl
  have hc:=hs c (by simp)
  unfold escS
  by_cases h1:c = 10
  ·rw [if_pos h1,h1]
   exact two 110 10 rfl (by decide)
  by_cases h2:c = 9
  ·rw [if_neg h1,if_pos h2,h2]
   exact two 116 9 rfl (by decide)
  by_cases h3:c = 92
  ·rw [if_neg h1,if_neg h2,if_pos h3,h3]
   exact two 92 92 rfl (by decide)
  by_cases h4:c = 34
  ·rw [if_neg h1,if_neg h2,if_neg h3,if_pos h4,h4]
   exact two 34 34 rfl (by decide)
  rw [if_neg h1,if_neg h2,if_neg h3,if_neg h4]
  have hc2:32 ≤ c.toNat ∧ c.toNat ≤ 126:=by
   rcases hc with h | h | h
   ·exact h
   ·exact absurd h h2
   ·exact absurd h h1
  have n34:c.toNat ≠ 34:=fun h=>h4 (UInt8.toNat_inj.1 h)
  have n92:c.toNat ≠ 92:=fun h=>h3 (UInt8.toNat_inj.1 h)
  obtain ⟨d,q,hq⟩:∃ d q,escS s ++ 34 :: b :: r = d :: q:=by cases hl:escS s with
   | nil=>exact ⟨_,_,rfl⟩
   | cons x y=>exact ⟨_,_,rfl⟩
  rw [hq] at ih
  rw [List.append_assoc,List.singleton_append,hq,strBody,if_neg n34,if_neg n92,if_pos hc2,if_neg hn',ih]
  rfl
theorem one_sp {t:Tok} (h:TkOk t) {b:UInt8} (hb:b = 10 ∨ b = 32) (r:List UInt8):one (t.sp ++ b :: r) = some (t.kind,t.text,t.n,t.sp.length) ∧ skip false (t.sp ++ b :: r) = 0:=by
 have hbl:isLetter b = false ∧ isDigit b = false:=by rcases hb with rfl | rfl <;> exact ⟨by decide,by decide⟩
 have hb47:b ≠ 47:=by rcases hb with rfl | rfl <;> decide
 have noskip:∀ (c:UInt8) (l:List UInt8),33 ≤ c.toNat → c.toNat ≠ 47 → skip false (c :: l) = 0:=by
  intro c l h1 h2
  rw [skip,if_neg (by omega),if_neg (by omega)]
 cases h with
 | @kw m hm=>
  rcases hb with rfl | rfl
  all_goals
   simp only [words,List.mem_cons,List.not_mem_nil,or_false] at hm
   rcases hm with rfl | rfl | rfl | rfl | rfl | rfl | rfl | rfl
   all_goals exact ⟨by kernel_rfl,by kernel_rfl⟩
 | @mk m hm=>
  rcases hb with rfl | rfl
  all_goals
   simp only [marks,List.mem_cons,List.not_mem_nil,or_false] at hm
   rcases hm with rfl | rfl | rfl | rfl | rfl | rfl | rfl | rfl | rfl | rfl | rfl | rfl | rfl | rfl | rfl | rfl | rfl | rfl | rfl | rfl | rfl | rfl | rfl | rfl | rfl | rfl | rfl | rfl | rfl
   all_goals exact ⟨by kernel_rfl,by kernel_rfl⟩
 | @nm s hs=>
  obtain ⟨hlen,hw,c,q,rfl,hc,hq⟩:=hs
  have hcn:65 ≤ c.toNat:=by
   unfold isLetter at hc;simp at hc;omega
  constructor
  ·rw [sp_nm,List.cons_append]
   unfold one
   dsimp only
   rw [if_pos hc,← List.cons_append,tw_stop (f:=fun c=>isLetter c || isDigit c) (by simp [hbl]) (c :: q) (fun x hx=>by
    rcases List.mem_cons.1 hx with rfl | hx
    ·simp [hc]
    ·simpa using hq x hx)]
   rw [if_neg (by rw [hw];decide),if_pos hlen]
   rfl
  ·rw [sp_nm,List.cons_append]
   exact noskip c _ (by omega) (by omega)
 | @num n h1 h2=>
  obtain ⟨c,q,he,h48⟩:=dec_head n.toNat
  have hi:Lib.itoa n = c :: q:=by unfold Lib.itoa;rw [if_neg (by omega),he]
  have hd:=dec_digits n.toNat
  rw [he] at hd
  have hcd:=hd c (by simp)
  obtain ⟨hl,hdg⟩:=digit_not hcd
  constructor
  ·rw [sp_num,hi,List.cons_append]
   unfold one
   dsimp only
   rw [if_neg (by rw [hl];decide),if_pos hdg,← List.cons_append,tw_stop (f:=isDigit) hbl.2 (c :: q) (fun x hx=>(digit_not (hd x hx)).2),← hi,int_nat h1 h2]
   unfold numOf
   simp only
   rw [if_neg (by
    rintro ⟨h3,h4⟩
    rw [hi,h48 h3] at h4
    exact h4 rfl)]
   rfl
  ·rw [sp_num,hi,List.cons_append]
   by_cases h47:c.toNat = 47
   ·omega
   ·exact noskip c _ (by omega) h47
 | @txt s hs=>
  constructor
  ·rw [sp_txt]
   show one (34 :: (escS s ++ [34]) ++ b :: r) = _
   rw [List.cons_append,List.append_assoc,List.singleton_append]
   unfold one
   dsimp only
   rw [if_neg (by decide),if_neg (by decide),if_pos (show (34:UInt8).toNat = 34 from rfl),str_esc s 0 (by have:=hs.1;omega) hs.2]
   simp [txtT,quoteS]
  ·rw [sp_txt]
   exact noskip 34 _ (by decide) (by decide)
def Feeds (S:Strm):S.Pos → List Tok → Prop
 | q,[]=>∃ t q',S.nxt q = .inr (t,q') ∧ tokEq t ⟨0,0,[],0⟩
 | q,t :: l=>∃ t' q',S.nxt q = .inr (t',q') ∧ tokEq t' t ∧ Feeds S q' l
theorem putS_cases (s:List UInt8):∃ b:UInt8,(b = 10 ∨ b = 32) ∧ putS s = s ++ [b]:=by
 unfold putS
 split
 ·exact ⟨10,.inl rfl,rfl⟩
 ·exact ⟨32,.inr rfl,rfl⟩
theorem feeds_text {s:List UInt8}:∀ (l:List Tok) (a:Nat),(∀ t ∈ l,TkOk t) → (s.drop a = spell l ∨ ∃ b,(b = 10 ∨ b = 32) ∧ s.drop a = b :: spell l) → Feeds (strm s) a l
 | [],a,_,h=>by
  have hsk:∃ k,skip false (s.drop a) = k ∧ (s.drop a).drop k = []:=by
   rcases h with h | ⟨b,hb,h⟩
   ·exact ⟨0,by rw [h];rfl,by rw [h];rfl⟩
   ·refine ⟨1,?_,by rw [h];rfl⟩
    rw [h]
    show skip false [b] = 1
    rw [skip,if_pos (by rcases hb with rfl | rfl <;> decide)];rfl
  obtain ⟨k,h1,h2⟩:=hsk
  have hc:=cut_drop (s:=s) (a:=a) rfl
  rw [h1,h2] at hc
  exact ⟨_,_,nxt_of hc,rfl,rfl,rfl⟩
 | t :: l,a,hl,h=>by
  obtain ⟨b,hb,hp⟩:=putS_cases t.sp
  obtain ⟨ho,hs0⟩:=one_sp (hl t (by simp)) hb (spell l)
  have he:spell (t :: l) = t.sp ++ b :: spell l:=by rw [spell_cons,hp,List.append_assoc,List.singleton_append]
  rw [he] at h
  have hsk:∃ k,skip false (s.drop a) = k ∧ (s.drop a).drop k = t.sp ++ b :: spell l:=by
   rcases h with h | ⟨b',hb',h⟩
   ·exact ⟨0,by rw [h,hs0],by rw [h];rfl⟩
   ·refine ⟨1,?_,by rw [h];rfl⟩
    rw [h,skip,if_pos (by rcases hb' with rfl | rfl <;> decide),hs0]
  obtain ⟨k,h1,h2⟩:=hsk
  have hc:=cut_drop (s:=s) (a:=a) rfl
  rw [h1,h2,ho] at hc
  refine ⟨_,_,nxt_of hc,⟨rfl,rfl,rfl⟩,feeds_text l _ (fun x hx=>hl x (List.mem_cons_of_mem _ hx)) (.inr ⟨b,hb,?_⟩)⟩
  show s.drop (a + k + t.sp.length) = _
  rw [← List.drop_drop,← List.drop_drop,h2]
  exact List.drop_left
end Go.Front

/- The first heap; from what the machine answers to a row that lists variables; the witness; the arguments. -/
import Derived.Test.YtlbieeajocjpeaaGreatDoorLbOk
import Derived.Test.YtlbieeajocjpeaaGreatDoorShown
import Derived.Test.YtlbieeajocjpeaaGreatDoorAmLaw
import Derived.Test.YtlbieeajocjpeaaGreatDoorRows
import Derived.Lib.LaidTab
import Derived.LaidLaws
import Derived.LaidHandle
import Derived.MakeChecks
import Derived.Shelf.Vars
import Derived.Lay
import Derived.Deep.DeepHandedRow
namespace Go.Proofs.YtlbieeajocjpeaaGreatDoor
open Go.ChangeShapes Go.WideShapes Go.ChangeAt Go.AM Go.RowKit Go.Front
set_option maxRecDepth 100000
theorem laidVars_at {P : Program} {w : World} {n : String} {d : DataW Unit} : ∀ {l : List (String × DataW Unit)} {ps : List MemPlace}, DataW.LaidVars P w l ps → (n, d) ∈ l →
    ∃ g t cs fuel p, P.globalNamed n = some g ∧ (P.globals[g]?).map (·.type) = some t ∧ w.var? P n = some cs ∧ DataW.trod (fun _ => ()) P w 0 (fun _ => true) false fuel t cs.toList = some (d, p)
  | [], _, _, hm => by cases hm
  | (n', d') :: r, ps, h, hm => by
    obtain ⟨g, t, cs, fuel, p, q, h1, h2, h3, h4, h5, _⟩ := h
    rcases List.mem_cons.1 hm with he | hm
    · cases he; exact ⟨g, t, cs, fuel, p, h1, h2, h3, h4⟩
    · exact laidVars_at h5 hm
theorem heap_of_var {P : Program} {w : World} {n : String} {g : Nat} {cs : Array Value} (hg : P.globalNamed n = some g) (h : w.var? P n = some cs) : ∃ ty fr, w.heap[g]? = some (.cells cs ty fr) := by
  unfold World.var? at h
  rw [hg] at h
  simp only [Option.bind_some] at h
  split at h
  · rename_i c ty fr hh; cases h; exact ⟨ty, fr, hh⟩
  · cases h
theorem tab_at {P : Program} {w : World} {n : String} {k : IntKind} {zs : List Int} {l : List (String × DataW Unit)} {g : Nat} {t e : TypeId} {m : Nat} (hl : laidMet P l w) (hm : (n, Lib.tabData k zs) ∈ l)
    (hg : P.globalNamed n = some g) (hty : (P.globals[g]?).map (·.type) = some t) (ht : P.underlying t = some (.array m e)) (he : P.underlying e = some (.int k)) (hce : P.cellsOf e = 1) (hct : P.cellsOf t = m) :
    ∃ ty fr, w.heap[g]? = some (.cells (zs.map fun z => Value.int k z).toArray ty fr) := by
  obtain ⟨ps, hv, _⟩ := hl
  obtain ⟨g', t', cs, fuel, p, h1, h2, h3, h4⟩ := laidVars_at hv hm
  obtain rfl := Option.some.inj (hg.symm.trans h1)
  obtain rfl := Option.some.inj (hty.symm.trans h2)
  have := Lib.cells_of_tab ht he hce hct h4
  have hcs : cs = (zs.map fun z => Value.int k z).toArray := by rw [← this]
  subst hcs
  exact heap_of_var hg h3
theorem err_at {P : Program} {w : World} {n nm : String} {d : DataW Unit} {l : List (String × DataW Unit)} {g : Nat} {t : TypeId} {ms : Array (String × TypeId)} (hl : laidMet P l w) (hm : (n, DataW.iface nm d) ∈ l)
    (hg : P.globalNamed n = some g) (hty : (P.globals[g]?).map (·.type) = some t) (ht : P.underlying t = some (.interface ms)) :
    ∃ te pe ty fr, w.heap[g]? = some (.cells #[.iface te pe] ty fr) := by
  obtain ⟨ps, hv, _⟩ := hl
  obtain ⟨g', t', cs, fuel, p, h1, h2, h3, h4⟩ := laidVars_at hv hm
  obtain rfl := Option.some.inj (hg.symm.trans h1)
  obtain rfl := Option.some.inj (hty.symm.trans h2)
  obtain ⟨_, u, v, hc, _, _⟩ := iface_of_trod ht h4
  have hcs : cs = #[.iface u v] := arr_of hc
  subst hcs
  obtain ⟨ty, fr, h⟩ := heap_of_var hg h3
  exact ⟨u, v, ty, fr, h⟩
theorem heap0_of {w : World} (hl : laidMetH Tryz.prog Rows.frontPlacesRow.laid w) : ∃ μ0 : Emb, R μ0 heap0 w ∧ μ0.ro := by
  rw [MakeChecks.laidMetH_plain _ _ _ (by kernel_rfl)] at hl
  have hasc : Rows.laid_strings_asciiSpace (H := Unit) = Lib.tabData .u8 Lib.asciiSpaceTab := by kernel_rfl
  have hpow : Rows.laid_internal_strconv_uint64pow10 (H := Unit) = Lib.tabData .u64 Lib.pow10Tab := by kernel_rfl
  obtain ⟨ty0, fr0, h0⟩ := tab_at (n := "strings.asciiSpace") (g := 0) (t := 103) (e := 5) (m := 256) hl (by rw [← hasc]; simp [Rows.frontPlacesRow]) (by kernel_rfl) (by kernel_rfl) (by kernel_rfl) (by kernel_rfl) (by kernel_rfl) (by kernel_rfl)
  obtain ⟨ty1, fr1, h1⟩ := tab_at (n := "internal/strconv.uint64pow10") (g := 4) (t := 145) (e := 100) (m := 20) hl (by rw [← hpow]; simp [Rows.frontPlacesRow]) (by kernel_rfl) (by kernel_rfl) (by kernel_rfl) (by kernel_rfl) (by kernel_rfl) (by kernel_rfl)
  obtain ⟨te2, pe2, ty2, fr2, h2⟩ := err_at (n := "strconv.ErrSyntax") (g := 2) (t := 72) hl (.tail _ (.tail _ (.tail _ (.tail _ (.tail _ (.head _)))))) (by kernel_rfl) (by kernel_rfl) Tryz.underlying72
  obtain ⟨te3, pe3, ty3, fr3, h3⟩ := err_at (n := "strconv.ErrRange") (g := 3) (t := 72) hl (.tail _ (.tail _ (.tail _ (.tail _ (.head _))))) (by kernel_rfl) (by kernel_rfl) Tryz.underlying72
  have r0 := (R.none w).know (p := KAsc) (fun b e h => by cases h) h0 ⟨ty0, fr0, rfl⟩
  have r1 := r0.1.know (p := KPow) r0.2 h1 ⟨ty1, fr1, rfl⟩
  have r2 := r1.1.know (p := KErr) r1.2 h2 ⟨te2, pe2, ty2, fr2, rfl⟩
  have r3 := r2.1.know (p := KErr) r2.2 h3 ⟨te3, pe3, ty3, fr3, rfl⟩
  exact ⟨_, r3.1, r3.2⟩
section
variable {H : Type} {enc : TypeId × Value → H}
theorem contract_laid {B : Caller} {C : Checked} {f k tb : Nat} {fn : Func} {s : ChangeSpec} {apart : Bool} {σ0 : St} {μ0 : Emb} {W : World} {base : Nat} {args : Array Value} {ds gs : List (DataW H)} {before : List MemPlace}
    (hvars : s.vars = []) (hres : fn.resultTypes = #[tb]) (hb : C.prog.underlying tb = some .bool) (hl : laidOutB C.prog = true) (hP : POk C.prog) (hB : CallOk C.prog B)
    (hts : ∀ t ∈ fn.params.toList, okT C.prog k t = true ∧ C.prog.readableRec t = true ∧ t < C.prog.types.size)
    (hs : ∀ ds : List (DataW H), ds.length = fn.params.toList.length → s.fn H ds = { results := [.lit (.bool true)], args := ds })
    (hR0 : R μ0 σ0 W) (hr0 : μ0.ro) (hval : ∀ (j : Nat) t v, fn.params[j]? = some t → args[j]? = some v → Value.okWide C.prog W .any base t v)
    (hW : DataW.Whole enc C.prog fn.params.toList s.vars apart W args.toList ds gs before)
    (hc : All2 (ArgD C.prog k) fn.params.toList ds → gs = [] → ∃ n σ', callP C.prog B n f (absArgs C.prog fn.params.toList ds σ0).1 (absArgs C.prog fn.params.toList ds σ0).2 = some (.ret (.bool true), σ')) :
    Calls C.prog f args W fun e W' => ∃ v, e = .returned v ∧ s.post enc C.prog fn apart true false false W args v W' := by
  have hW' := hW
  obtain ⟨p, q, hA, hV, rfl, hfz, hnd⟩ := hW
  rw [hvars] at hV
  obtain ⟨rfl, rfl⟩ : gs = [] ∧ q = [] := by
    cases gs with
    | nil => exact ⟨rfl, hV⟩
    | cons g gs => simp [DataW.TrodVars] at hV
  simp only [List.append_nil] at *
  refine (calls_true hP hB hR0 hr0 (fun t ht => (hts t ht).1) (fun j t v h h' => hval j t v (by simpa using h) h') hA (fun hd => hc hd trivial)).mono fun e W' ⟨he, hbelow⟩ => ?_
  subst he
  have hfn2 := hs ds (trod_len hA)
  rw [← List.append_nil ds] at hfn2
  refine ⟨_, rfl, ds, [], p, [], p, [], hW', ?_, ?_, ?_, hbelow.frame _, fun h => by cases h⟩
  · rw [hfn2, hres]
    exact trodAll_mk1 (shut_bool hb true)
  · rw [hfn2]
    simp only [List.append_nil]
    refine trodAll_below hl hbelow (fun t ht => (hts t ht).2) hA ?_
    intro x hx
    exact hW'.lt x hx
  · rw [hfn2, hvars]
    rfl
theorem witness_laid {C : Checked} {os : Os} {f : FuncId} {fn : Func} {s : OpenSpec} {conds : List PathCond} {apart : Bool} {laid : List (String × DataW Unit)} (args : Array Value)
    (hv : ((World.laidAll C.prog os laid).forCall (fun _ _ => 0) ⟨#[], args, []⟩).variablesZipB C.prog = true)
    (hr : (((World.laidAll C.prog os laid).forCall (fun _ _ => 0) ⟨#[], args, []⟩).heap.toList.drop C.prog.globals.size).take ((begin C.prog (fun _ _ => 0) default).world.heap.size - C.prog.globals.size) =
      (begin C.prog (fun _ _ => 0) default).world.heap.toList.drop C.prog.globals.size)
    (hok : Input.okWideB C.prog ((World.laidAll C.prog os laid).forCall (fun _ _ => 0) ⟨#[], args, []⟩) f ⟨#[], args, []⟩ = true)
    (hrow : s.preRow enc C.prog fn conds apart laid ((World.laidAll C.prog os laid).forCall (fun _ _ => 0) ⟨#[], args, []⟩).memory args) :
    ∃ (w : World) (tape : Tape) (i : Input), w.os = os ∧ (w.forCall tape i).Shaped C.prog ∧ i.vars = [] ∧ Input.okWide C.prog (w.forCall tape i) .any w.heap.size f i ∧
      s.preRow enc C.prog fn conds apart laid (w.forCall tape i).memory i.args ∧ ({} : Assume).holds C.prog (lone (Frame.enter C.prog f i.args .normal) [] (w.forCall tape i)) :=
  ⟨World.laidAll C.prog os laid, fun _ _ => 0, ⟨#[], args, []⟩, World.laidAll_os _ _ _, World.shaped_of_ZipB hv hr, (Input.okWide_of_okWideB (base := 0) hok).1, (Input.okWide_of_okWideB hok).2, hrow, by
    simp only [Assume.holds]
    exact ⟨by simp, by simp, by simp, by simp, by simp⟩⟩
theorem own : ownKnob Tryz.prog.godebug = none := by kernel_rfl
theorem laidOut1 : laidOutB Tryz.prog = true := by kernel_rfl
theorem laid_at (os : Os) (args : Array Value) : laidMetH Tryz.prog Rows.frontPlacesRow.laid ((World.laidAll Tryz.prog os Rows.frontPlacesRow.laid).forCall (fun _ _ => 0) ⟨#[], args, []⟩).memory := by
  rw [MakeChecks.laidMetH_plain _ _ _ (by kernel_rfl)]
  exact laidMet_laidAll _ (by kernel_rfl) (by kernel_rfl)
theorem arg_str {d : DataW H} (h : ArgD Tryz.prog 5 9 d) : ∃ s : List UInt8, d = .lit (.string s) := by
  have h2 : FlatD Tryz.prog 5 9 d := by simpa only [ArgD, Tryz.underlying9] using h
  obtain ⟨s, rfl, _⟩ := (flatD_str Tryz.underlying9).1 h2
  exact ⟨s, rfl⟩
theorem fw_run {f : Nat} {args : List AV} {Q : Post} (h : Fw Tryz.prog Lb f args heap0 Q) (hq : ∀ r σ', Q r σ' → r = .ret (.bool true)) : ∃ n σ', callP Tryz.prog Lb n f args heap0 = some (.ret (.bool true), σ') := by
  obtain ⟨N, r, σ', h1, h2⟩ := h
  have hr := hq _ _ h1
  subst hr
  exact ⟨N, σ', h2 ⟨N, N, N, N⟩ ⟨Nat.le_refl _, Nat.le_refl _, Nat.le_refl _, Nat.le_refl _⟩⟩
end
end Go.Proofs.YtlbieeajocjpeaaGreatDoor

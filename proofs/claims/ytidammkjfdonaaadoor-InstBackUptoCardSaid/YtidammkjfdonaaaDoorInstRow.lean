/- From what the machine answers to a row that lists variables; the witness; the arguments. -/
import Derived.Test.YtidammkjfdonaaaDoorLaws
import Derived.Test.YtidammkjfdonaaaDoorInstHeap
import Derived.Test.YtidammkjfdonaaaDoorRows
import Derived.Deep.DeepHandedRow
namespace Go.Proofs.YtidammkjfdonaaaDoor
open Go.ChangeShapes Go.WideShapes Go.ChangeAt Go.AM Go.RowKit Go.Proofs.Inst
set_option maxRecDepth 100000

section
variable {H : Type} {enc : TypeId × Value → H}

/-- What the machine answers over the first heap, the function answers: true, the input as it was. -/
theorem contract_laid {B : Caller} {C : Checked} {f k tb : Nat} {fn : Func} {s : ChangeSpec} {apart : Bool} {σ0 : St} {μ0 : Emb} {W : World} {base : Nat} {args : Array Value} {ds gs : List (DataW H)} {before : List MemPlace}
    (hvars : s.vars = []) (hres : fn.resultTypes = #[tb]) (hb : C.prog.underlying tb = some .bool) (hl : laidOutB C.prog = true) (hP : POk C.prog) (hB : CallOk C.prog B)
    (hts : ∀ t ∈ fn.params.toList, okT C.prog k t = true ∧ C.prog.readableRec t = true ∧ t < C.prog.types.size)
    (hs : ∀ ds : List (DataW H), ds.length = fn.params.toList.length → s.fn H ds = { results := [.lit (.bool true)], args := ds })
    (hR0 : R μ0 σ0 W) (hr0 : μ0.ro) (hval : ∀ (j : Nat) t v, fn.params[j]? = some t → args[j]? = some v → Value.okWide C.prog W .any base t v)
    (hW : DataW.Whole enc C.prog fn.params.toList s.vars apart W args.toList ds gs before)
    (hc : All2 (ArgD C.prog k) fn.params.toList ds → gs = [] → ∃ n σ', callP C.prog B n f (absArgs C.prog fn.params.toList ds σ0).1 (absArgs C.prog fn.params.toList ds σ0).2 = some (.ret (.bool true), σ')) :
    Calls C.prog f args W fun e W' => ∃ v, e = .returned v ∧ s.post enc C.prog fn apart true false false W args v W' := by
  have hW' := hW
  obtain ⟨p, q, hA, hV, rfl, hfz, hnd⟩ := hW
  rw [hvars] at hV
  obtain ⟨rfl, rfl⟩ : gs = [] ∧ q = [] := by
    cases gs with
    | nil => exact ⟨rfl, hV⟩
    | cons g gs => simp [DataW.TrodVars] at hV
  simp only [List.append_nil] at *
  refine (calls_true hP hB hR0 hr0 (fun t ht => (hts t ht).1) (fun j t v h h' => hval j t v (by simpa using h) h') hA (fun hd => hc hd trivial)).mono fun e W' ⟨he, hbelow⟩ => ?_
  subst he
  have hfn2 := hs ds (trod_len hA)
  rw [← List.append_nil ds] at hfn2
  refine ⟨_, rfl, ds, [], p, [], p, [], hW', ?_, ?_, ?_, hbelow.frame _, fun h => by cases h⟩
  · rw [hfn2, hres]
    exact trodAll_mk1 (shut_bool hb true)
  · rw [hfn2]
    simp only [List.append_nil]
    refine trodAll_below hl hbelow (fun t ht => (hts t ht).2) hA ?_
    intro x hx
    exact hW'.lt x hx
  · rw [hfn2, hvars]
    rfl

/-- There is an input that fits: the listed variables laid. -/
theorem witness_laid {C : Checked} {os : Os} {f : FuncId} {fn : Func} {s : OpenSpec} {conds : List PathCond} {apart : Bool} {laid : List (String × DataW Unit)} (args : Array Value)
    (hv : ((World.laidAll C.prog os laid).forCall (fun _ _ => 0) ⟨#[], args, []⟩).variablesZipB C.prog = true)
    (hr : (((World.laidAll C.prog os laid).forCall (fun _ _ => 0) ⟨#[], args, []⟩).heap.toList.drop C.prog.globals.size).take ((begin C.prog (fun _ _ => 0) default).world.heap.size - C.prog.globals.size) =
      (begin C.prog (fun _ _ => 0) default).world.heap.toList.drop C.prog.globals.size)
    (hok : Input.okWideB C.prog ((World.laidAll C.prog os laid).forCall (fun _ _ => 0) ⟨#[], args, []⟩) f ⟨#[], args, []⟩ = true)
    (hrow : s.preRow enc C.prog fn conds apart laid ((World.laidAll C.prog os laid).forCall (fun _ _ => 0) ⟨#[], args, []⟩).memory args) :
    ∃ (w : World) (tape : Tape) (i : Input), w.os = os ∧ (w.forCall tape i).Shaped C.prog ∧ i.vars = [] ∧ Input.okWide C.prog (w.forCall tape i) .any w.heap.size f i ∧
      s.preRow enc C.prog fn conds apart laid (w.forCall tape i).memory i.args ∧ ({} : Assume).holds C.prog (lone (Frame.enter C.prog f i.args .normal) [] (w.forCall tape i)) :=
  ⟨World.laidAll C.prog os laid, fun _ _ => 0, ⟨#[], args, []⟩, World.laidAll_os _ _ _, World.shaped_of_ZipB hv hr, (Input.okWide_of_okWideB (base := 0) hok).1, (Input.okWide_of_okWideB hok).2, hrow, by
    simp only [Assume.holds]
    exact ⟨by simp, by simp, by simp, by simp, by simp⟩⟩

theorem own : ownKnob Tryd.prog.godebug = none := by kernel_rfl
theorem laidOut1 : laidOutB Tryd.prog = true := by kernel_rfl

/-- What a row's listing gives at the witness. -/
theorem laid_at (os : Os) (args : Array Value) : laidMetH Tryd.prog Rows.instWordsRow.laid ((World.laidAll Tryd.prog os Rows.instWordsRow.laid).forCall (fun _ _ => 0) ⟨#[], args, []⟩).memory := by
  rw [MakeChecks.laidMetH_plain _ _ _ (by kernel_rfl)]
  exact laidMet_laidAll _ (by kernel_rfl) (by kernel_rfl)

/-! ### arguments -/

theorem ins_d {k : Nat} {d : DataW H} (h : FlatD Tryd.prog (k + 2) 23 d) : ∃ x : Ins, d = .agg [.lit (.int .i64 x.op), .lit (.int .i64 x.rd), .lit (.int .i64 x.rs1), .lit (.int .i64 x.rs2), .lit (.int .i64 x.imm)] := by
  rw [flatD_struct Tryd.underlying23] at h
  obtain ⟨ds, rfl, h⟩ := h
  obtain ⟨a, b, c, d, e, rfl, h1, h2, h3, h4, h5⟩ := all2_5 h rfl
  obtain ⟨i1, rfl, _⟩ := (flatD_int Tryd.underlying3).1 h1
  obtain ⟨i2, rfl, _⟩ := (flatD_int Tryd.underlying3).1 h2
  obtain ⟨i3, rfl, _⟩ := (flatD_int Tryd.underlying3).1 h3
  obtain ⟨i4, rfl, _⟩ := (flatD_int Tryd.underlying3).1 h4
  obtain ⟨i5, rfl, _⟩ := (flatD_int Tryd.underlying2).1 h5
  exact ⟨⟨i1, i2, i3, i4, i5⟩, rfl⟩

theorem arg_ins {d : DataW H} (h : ArgD Tryd.prog 5 23 d) : ∃ x : Ins, d = .agg [.lit (.int .i64 x.op), .lit (.int .i64 x.rd), .lit (.int .i64 x.rs1), .lit (.int .i64 x.rs2), .lit (.int .i64 x.imm)] :=
  ins_d (k := 3) (by simpa only [ArgD, Tryd.underlying23] using h)
theorem arg_u32 {d : DataW H} (h : ArgD Tryd.prog 5 26 d) : ∃ w : Int, d = .lit (.int .u32 w) ∧ (0 ≤ w ∧ w < 4294967296) := by
  have h2 : FlatD Tryd.prog 5 26 d := by simpa only [ArgD, Tryd.underlying26] using h
  obtain ⟨w, rfl, hw⟩ := (flatD_int Tryd.underlying26).1 h2
  refine ⟨w, rfl, ?_⟩
  simp [Lit.wf, IntKind.min, IntKind.max, IntKind.signed, IntKind.bits] at hw
  omega
theorem arg_int {d : DataW H} (h : ArgD Tryd.prog 5 3 d) : ∃ w : Int, d = .lit (.int .i64 w) := by
  have h2 : FlatD Tryd.prog 5 3 d := by simpa only [ArgD, Tryd.underlying3] using h
  obtain ⟨w, rfl, _⟩ := (flatD_int Tryd.underlying3).1 h2
  exact ⟨w, rfl⟩
theorem arg_str {d : DataW H} (h : ArgD Tryd.prog 5 9 d) : ∃ s : List UInt8, d = .lit (.string s) := by
  have h2 : FlatD Tryd.prog 5 9 d := by simpa only [ArgD, Tryd.underlying9] using h
  obtain ⟨s, rfl, _⟩ := (flatD_str Tryd.underlying9).1 h2
  exact ⟨s, rfl⟩
theorem arg_regs {d : DataW H} (h : ArgD Tryd.prog 5 53 d) : ∃ (x : Ins) (a b c : Int), d = .agg [.agg [.lit (.int .i64 x.op), .lit (.int .i64 x.rd), .lit (.int .i64 x.rs1), .lit (.int .i64 x.rs2), .lit (.int .i64 x.imm)], .lit (.int .i64 a), .lit (.int .i64 b), .lit (.int .i64 c)] := by
  have h2 : FlatD Tryd.prog 5 53 d := by simpa only [ArgD, Tryd.underlying53] using h
  rw [flatD_struct Tryd.underlying53] at h2
  obtain ⟨ds, rfl, h2⟩ := h2
  obtain ⟨y, p, q, r, rfl, h1, h3, h4, h5⟩ := all2_4 h2 rfl
  obtain ⟨x, rfl⟩ := ins_d (k := 2) h1
  obtain ⟨i1, rfl, _⟩ := (flatD_int Tryd.underlying3).1 h3
  obtain ⟨i2, rfl, _⟩ := (flatD_int Tryd.underlying3).1 h4
  obtain ⟨i3, rfl, _⟩ := (flatD_int Tryd.underlying3).1 h5
  exact ⟨x, i1, i2, i3, rfl⟩

theorem ret_run {f N : Nat} {args : List AV} (h : Ret f args N (.bool true)) : ∃ n σ', callP Tryd.prog Lb n f args heap0 = some (.ret (.bool true), σ') :=
  let ⟨σ', h1, _⟩ := h N (Nat.le_refl _) heap0 Kn.heap0
  ⟨N, σ', h1⟩

end
end Go.Proofs.YtidammkjfdonaaaDoor

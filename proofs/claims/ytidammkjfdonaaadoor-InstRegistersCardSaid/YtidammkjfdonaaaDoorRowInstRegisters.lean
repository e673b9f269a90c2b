/- Changing the registers of an instruction changes just their bits of its word: for every instruction. The listed variables of Go's library are laid as the card ties them. -/
import Derived.Test.YtidammkjfdonaaaDoorInstRow
import Derived.Test.YtidammkjfdonaaaDoorCards
import Derived.Test.YtidammkjfdonaaaDoorTie
import Derived.WalkKit
import Derived.ProofKit
namespace Go.Proofs.YtidammkjfdonaaaDoor.instRegisters
open Go.ChangeShapes Go.WideShapes Go.ChangeAt Go.RowKit Go.AM Go.Proofs.Inst
set_option maxRecDepth 100000

theorem args {H : Type} (ds : List (DataW H)) (hd : All2 (ArgD Tryd.prog 5) [53] ds) :
    ∃ n σ', callP Tryd.prog Lb n 9 (absArgs Tryd.prog [53] ds heap0).1 (absArgs Tryd.prog [53] ds heap0).2 = some (.ret (.bool true), σ') := by
  match ds, hd with
  | [d0], hd' =>
    obtain ⟨h0, _⟩ := hd'
    obtain ⟨x, a, b, c, rfl⟩ := arg_regs h0
    have ha : absArgs Tryd.prog [53] ([DataW.agg [.agg [.lit (.int .i64 x.op), .lit (.int .i64 x.rd), .lit (.int .i64 x.rs1), .lit (.int .i64 x.rs2), .lit (.int .i64 x.imm)], .lit (.int .i64 a), .lit (.int .i64 b), .lit (.int .i64 c)]] : List (DataW H)) heap0 = ([.agg [.int .i64 x.op, .int .i64 x.rd, .int .i64 x.rs1, .int .i64 x.rs2, .int .i64 x.imm, .int .i64 a, .int .i64 b, .int .i64 c]], heap0) := by kernel_rfl
    rw [ha]
    exact ret_run (ret_registers x a b c)
  | [], h => simp [All2] at h
  | _ :: _ :: _, h => simp [All2] at h

theorem lifted (os : Os) (started : os.Started) (H : Type) (enc : TypeId × Value → H) (F : Stop.Interp) :
    ReturnsInHanded {} Tryd.checked os 9 .any ((OpenSpec.ofChange Rows.instRegistersSpec).preRow enc Tryd.prog Tryd.f9 Rows.instRegistersRow.domain false Rows.instRegistersRow.laid) (((OpenSpec.ofChange Rows.instRegistersSpec).at F).post enc Tryd.prog Tryd.f9 false true false false) := by
  have hx : ∃ places, DataW.whole enc Tryd.prog ((World.laidAll Tryd.prog os Rows.instWordsRow.laid).forCall (fun _ _ => 0) ⟨#[], #[.agg #[.int .i64 0, .int .i64 0, .int .i64 0, .int .i64 0, .int .i64 0, .int .i64 0, .int .i64 0, .int .i64 0]], []⟩).memory Tryd.f9.params.toList Rows.instRegistersSpec.vars false #[Value.agg #[.int .i64 0, .int .i64 0, .int .i64 0, .int .i64 0, .int .i64 0, .int .i64 0, .int .i64 0, .int .i64 0]].toList 8 = some ([.agg [.agg [.lit (.int .i64 0), .lit (.int .i64 0), .lit (.int .i64 0), .lit (.int .i64 0), .lit (.int .i64 0)], .lit (.int .i64 0), .lit (.int .i64 0), .lit (.int .i64 0)]], [], places) := ⟨[], by kernel_rfl⟩
  obtain ⟨places, hx⟩ := hx
  refine returnsInHanded_of_row (C := Tryd.checked) (s := (OpenSpec.ofChange Rows.instRegistersSpec)) own started (by kernel_rfl) Tryd.func9
    (witness_laid (enc := enc) (C := Tryd.checked) #[.agg #[.int .i64 0, .int .i64 0, .int .i64 0, .int .i64 0, .int .i64 0, .int .i64 0, .int .i64 0, .int .i64 0]] (by kernel_rfl) (by kernel_rfl) (by kernel_rfl)
      (OpenSpec.preRow_of_cond 8 hx (by kernel_rfl) (fun k hk => by cases hk) (by kernel_rfl) (laid_at os _))) ?_
  intro W base args' ds gs before hval hW _ hcond _ hL hsh _
  obtain ⟨μ0, hR0, hr0⟩ := heap0_of hL hsh
  refine contract_laid (C := Tryd.checked) (s := Rows.instRegistersSpec) (k := 5) (tb := 4) rfl (by kernel_rfl) (by kernel_rfl) laidOut1 Tryd.pok Lb_ok ?_ ?_ hR0 hr0 hval hW ?_
  · have h : (Tryd.f9.params.toList.all fun t => okT Tryd.prog 5 t && Tryd.prog.readableRec t && decide (t < Tryd.prog.types.size)) = true := by kernel_rfl
    intro t ht
    have := List.all_eq_true.1 h t ht
    simp only [Bool.and_eq_true, decide_eq_true_eq] at this
    exact ⟨this.1.1, this.1.2, this.2⟩
  · intro ds hd
    have h3 : ds.length = 1 := hd
    match ds, h3 with
    | [_], _ => rfl
  · intro hd hg
    exact args ds hd

theorem said : Rows.InstRegistersSaid :=
  OpenClaim.holds_of_cond 9 Tryd.f9 rfl rfl rfl rfl rfl rfl rfl ⟨rfl, rfl, rfl, rfl, rfl⟩ rfl rfl rfl rfl rfl (by kernel_rfl) Tryd.func9 (by kernel_rfl)
    (of_decide_eq_true (by kernel_rfl)) (by unfold Func.isWrapper; first | (rw [if_pos (by decide +kernel)]; kernel_rfl) | (rw [if_neg (by decide +kernel)]; exact ⟨rfl, rfl⟩))
    (fun os started H enc _ F => by rw [OpenClaim.pre_eq_preRow]; exact lifted os started H enc F)

theorem plain (f : FuncId) (fn : Func) (hf : Tryd.pinned.checked.prog.funcNamed "binnacle/binnaclelaw02.InstRegisters" = some f) (hfn : Tryd.pinned.checked.prog.funcs[f]? = some fn) :
    true = Tryd.pinned.checked.prog.looks [] ∧ ∀ (j : Nat) t, fn.params[j]? = some t → Tryd.pinned.checked.prog.wantsStandIn t = false := by
  obtain rfl : f = 9 := Option.some.inj ((show Tryd.prog.funcNamed "binnacle/binnaclelaw02.InstRegisters" = some 9 by kernel_rfl).symm.trans hf) |>.symm
  obtain rfl : fn = Tryd.f9 := (Option.some.inj (Tryd.func9.symm.trans hfn)).symm
  refine ⟨by kernel_rfl, fun j t ht => ?_⟩
  have hm : t ∈ Tryd.f9.params.toList := by simpa using Array.mem_of_getElem? ht
  have hall : (Tryd.f9.params.toList.all fun u => !Tryd.prog.wantsStandIn u) = true := by kernel_rfl
  exact (show Tryd.prog.wantsStandIn t = false by simpa using List.all_eq_true.1 hall t hm)

end Go.Proofs.YtidammkjfdonaaaDoor.instRegisters
namespace Go.Proofs.YtidammkjfdonaaaDoor

theorem instRegisters_holds : Rows.InstRegistersCardSaid :=
  Claim7.holds_tied_plain_at .later [] _ _ _ _ instRegisters.said (fun _ h => by cases h) (by kernel_rfl) (fun _ h => by cases h) instRegisters_row_tie rfl ⟨rfl, rfl⟩ (by kernel_rfl) rfl instRegisters.plain (by kernel_rfl)

end Go.Proofs.YtidammkjfdonaaaDoor

/- A word or a text is read as the instruction that was written, and what is read is written again: where the argument is of at most 1048576 letters and values. The listed variables of Go's library are laid as the card ties them. -/
import Derived.Test.YtidammkjfdonaaaDoorInstRow
import Derived.Test.YtidammkjfdonaaaDoorCards
import Derived.Test.YtidammkjfdonaaaDoorTie
import Derived.WalkKit
import Derived.ProofKit
namespace Go.Proofs.YtidammkjfdonaaaDoor.instBack
open Go.ChangeShapes Go.WideShapes Go.ChangeAt Go.RowKit Go.AM Go.Proofs.Inst
set_option maxRecDepth 100000

theorem args {H : Type} (ds : List (DataW H)) (hd : All2 (ArgD Tryd.prog 5) [23, 26, 9] ds) (hz : Rows.uptoSmall H ds = true) :
    ∃ n σ', callP Tryd.prog Lb n 6 (absArgs Tryd.prog [23, 26, 9] ds heap0).1 (absArgs Tryd.prog [23, 26, 9] ds heap0).2 = some (.ret (.bool true), σ') := by
  match ds, hd with
  | [d0, d1, d2], hd' =>
    obtain ⟨h0, h1, h2, _⟩ := hd'
    obtain ⟨x, rfl⟩ := arg_ins h0
    obtain ⟨w, rfl, hw⟩ := arg_u32 h1
    obtain ⟨s, rfl⟩ := arg_str h2
    have hs : s.length ≤ 1048576 := by
      have h := of_decide_eq_true hz
      simp only [Rows.uptoBulkAll, Rows.uptoBulk] at h
      omega
    have ha : absArgs Tryd.prog [23, 26, 9] ([DataW.agg [.lit (.int .i64 x.op), .lit (.int .i64 x.rd), .lit (.int .i64 x.rs1), .lit (.int .i64 x.rs2), .lit (.int .i64 x.imm)], .lit (.int .u32 w), .lit (.string s)] : List (DataW H)) heap0 = ([insV x, .int .u32 w, .str s], heap0) := by kernel_rfl
    rw [ha]
    exact ret_run (ret_back (x := x) hw hs)
  | [], h => simp [All2] at h
  | [_], h => simp [All2] at h
  | [_, _], h => simp [All2] at h
  | _ :: _ :: _ :: _ :: _, h => simp [All2] at h

theorem lifted (os : Os) (started : os.Started) (H : Type) (enc : TypeId × Value → H) (F : Stop.Interp) :
    ReturnsInHanded {} Tryd.checked os 6 .any ((Rows.OpenSpec.upto Rows.instBackSpec).preRow enc Tryd.prog Tryd.f6 Rows.instBackUptoRow.domain false Rows.instBackUptoRow.laid) (((Rows.OpenSpec.upto Rows.instBackSpec).at F).post enc Tryd.prog Tryd.f6 false true false false) := by
  have hx : ∃ places, DataW.whole enc Tryd.prog ((World.laidAll Tryd.prog os Rows.instWordsRow.laid).forCall (fun _ _ => 0) ⟨#[], #[.agg #[.int .i64 0, .int .i64 0, .int .i64 0, .int .i64 0, .int .i64 0], .int .u32 0, .string ⟨#[]⟩], []⟩).memory Tryd.f6.params.toList Rows.instBackSpec.vars false #[Value.agg #[.int .i64 0, .int .i64 0, .int .i64 0, .int .i64 0, .int .i64 0], Value.int .u32 0, Value.string ⟨#[]⟩].toList 8 = some ([.agg [.lit (.int .i64 0), .lit (.int .i64 0), .lit (.int .i64 0), .lit (.int .i64 0), .lit (.int .i64 0)], .lit (.int .u32 0), .lit (.string [])], [], places) := ⟨[], by kernel_rfl⟩
  obtain ⟨places, hx⟩ := hx
  refine returnsInHanded_of_row (C := Tryd.checked) (s := (Rows.OpenSpec.upto Rows.instBackSpec)) own started (by kernel_rfl) Tryd.func6
    (witness_laid (enc := enc) (C := Tryd.checked) #[.agg #[.int .i64 0, .int .i64 0, .int .i64 0, .int .i64 0, .int .i64 0], .int .u32 0, .string ⟨#[]⟩] (by kernel_rfl) (by kernel_rfl) (by kernel_rfl)
      (OpenSpec.preRow_of_cond 8 hx (by kernel_rfl) (fun k hk => by cases hk; kernel_rfl) (by kernel_rfl) (laid_at os _))) ?_
  intro W base args' ds gs before hval hW _ hcond _ hL hsh _
  obtain ⟨μ0, hR0, hr0⟩ := heap0_of hL hsh
  refine contract_laid (C := Tryd.checked) (s := Rows.instBackSpec) (k := 5) (tb := 4) rfl (by kernel_rfl) (by kernel_rfl) laidOut1 Tryd.pok Lb_ok ?_ ?_ hR0 hr0 hval hW ?_
  · have h : (Tryd.f6.params.toList.all fun t => okT Tryd.prog 5 t && Tryd.prog.readableRec t && decide (t < Tryd.prog.types.size)) = true := by kernel_rfl
    intro t ht
    have := List.all_eq_true.1 h t ht
    simp only [Bool.and_eq_true, decide_eq_true_eq] at this
    exact ⟨this.1.1, this.1.2, this.2⟩
  · intro ds hd
    have h3 : ds.length = 3 := hd
    match ds, h3 with
    | [_, _, _], _ => rfl
  · intro hd hg
    subst hg
    have hz := hcond _ rfl
    rw [List.append_nil] at hz
    exact args ds hd hz

theorem said : Rows.InstBackUptoSaid :=
  OpenClaim.holds_of_cond 6 Tryd.f6 rfl rfl rfl rfl rfl rfl rfl ⟨rfl, rfl, rfl, rfl, rfl⟩ rfl rfl rfl rfl rfl (by kernel_rfl) Tryd.func6 (by kernel_rfl)
    (of_decide_eq_true (by kernel_rfl)) (by unfold Func.isWrapper; first | (rw [if_pos (by decide +kernel)]; kernel_rfl) | (rw [if_neg (by decide +kernel)]; exact ⟨rfl, rfl⟩))
    (fun os started H enc _ F => by rw [OpenClaim.pre_eq_preRow]; exact lifted os started H enc F)

theorem plain (f : FuncId) (fn : Func) (hf : Tryd.pinned.checked.prog.funcNamed "binnacle/binnaclelaw02.InstBack" = some f) (hfn : Tryd.pinned.checked.prog.funcs[f]? = some fn) :
    true = Tryd.pinned.checked.prog.looks [] ∧ ∀ (j : Nat) t, fn.params[j]? = some t → Tryd.pinned.checked.prog.wantsStandIn t = false := by
  obtain rfl : f = 6 := Option.some.inj ((show Tryd.prog.funcNamed "binnacle/binnaclelaw02.InstBack" = some 6 by kernel_rfl).symm.trans hf) |>.symm
  obtain rfl : fn = Tryd.f6 := (Option.some.inj (Tryd.func6.symm.trans hfn)).symm
  refine ⟨by kernel_rfl, fun j t ht => ?_⟩
  have hm : t ∈ Tryd.f6.params.toList := by simpa using Array.mem_of_getElem? ht
  have hall : (Tryd.f6.params.toList.all fun u => !Tryd.prog.wantsStandIn u) = true := by kernel_rfl
  exact (show Tryd.prog.wantsStandIn t = false by simpa using List.all_eq_true.1 hall t hm)

end Go.Proofs.YtidammkjfdonaaaDoor.instBack
namespace Go.Proofs.YtidammkjfdonaaaDoor

theorem instBack_holds : Rows.InstBackUptoCardSaid :=
  Claim7.holds_tied_plain_at .later [] _ _ _ _ instBack.said (fun _ h => by cases h) (by kernel_rfl) (fun _ h => by cases h) instBackUpto_row_tie rfl ⟨rfl, rfl⟩ (by kernel_rfl) rfl instBack.plain (by kernel_rfl)

end Go.Proofs.YtidammkjfdonaaaDoor

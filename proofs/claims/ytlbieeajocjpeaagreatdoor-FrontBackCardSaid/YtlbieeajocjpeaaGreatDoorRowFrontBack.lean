/- What is printed of a source is read back as that source: for every string. The listed variables of Go's library are laid as the card ties them. -/
import Derived.Test.YtlbieeajocjpeaaGreatDoorBk1
import Derived.Test.YtlbieeajocjpeaaGreatDoorBk4
import Derived.Test.YtlbieeajocjpeaaGreatDoorCards
import Derived.Test.YtlbieeajocjpeaaGreatDoorTie
import Derived.WalkKit
import Derived.ProofKit
namespace Go.Proofs.YtlbieeajocjpeaaGreatDoor.frontBack
open Go.ChangeShapes Go.WideShapes Go.ChangeAt Go.RowKit Go.AM Go.Front
set_option maxRecDepth 100000
theorem args {H:Type} (ds:List (DataW H)) (hd:All2 (ArgD Tryz.prog 5) [9] ds) :
  ∃ n σ',callP Tryz.prog Lb n 3 (absArgs Tryz.prog [9] ds heap0).1 (absArgs Tryz.prog [9] ds heap0).2 = some (.ret (.bool true),σ'):=by
 match ds,hd with
 | [d0],hd'=>
  obtain ⟨h0,_⟩:=hd'
  obtain ⟨s,rfl⟩:=arg_str h0
  have ha:absArgs Tryz.prog [9] ([DataW.lit (.string s)]:List (DataW H)) heap0 = ([.str s],heap0):=by kernel_rfl
  rw [ha]
  exact fw_run (back_fn (s:=s) Kn.heap0) fun _ _ h=>h
 | [],h=>simp [All2] at h
 | _ :: _ :: _,h=>simp [All2] at h
theorem lifted (os:Os) (started:os.Started) (H:Type) (enc:TypeId × Value → H) (F:Stop.Interp) :
  ReturnsInHanded {} Tryz.checked os 3 .any ((OpenSpec.ofChange Rows.frontBackSpec).preRow enc Tryz.prog Tryz.f3 Rows.frontBackRow.domain false Rows.frontBackRow.laid) (((OpenSpec.ofChange Rows.frontBackSpec).at F).post enc Tryz.prog Tryz.f3 false true false false):=by
 have hx:∃ places,DataW.whole enc Tryz.prog ((World.laidAll Tryz.prog os Rows.frontBackRow.laid).forCall (fun _ _=>0) ⟨#[],#[.string ⟨#[]⟩],[]⟩).memory Tryz.f3.params.toList Rows.frontBackSpec.vars false #[Value.string ⟨#[]⟩].toList 8 = some ([.lit (.string [])],[],places):=⟨[],by kernel_rfl⟩
 obtain ⟨places,hx⟩:=hx
 refine returnsInHanded_of_row (C:=Tryz.checked) (s:=(OpenSpec.ofChange Rows.frontBackSpec)) own started (by kernel_rfl) Tryz.func3
  (witness_laid (enc:=enc) (C:=Tryz.checked) #[.string ⟨#[]⟩] (by kernel_rfl) (by kernel_rfl) (by kernel_rfl)
   (OpenSpec.preRow_of_cond 8 hx (by kernel_rfl) (fun k hk=>by cases hk) (by kernel_rfl) (laid_at os _))) ?_
 intro W base args' ds gs before hval hW _ hcond _ hL hsh _
 obtain ⟨μ0,hR0,hr0⟩:=heap0_of hL
 refine contract_laid (C:=Tryz.checked) (s:=Rows.frontBackSpec) (k:=5) (tb:=4) rfl Tryz.func3 (by kernel_rfl) (by kernel_rfl) (by kernel_rfl) laidOut1 Tryz.pok Lb_ok ?_ ?_ hR0 hr0 hval hW ?_
 ·have h:(Tryz.f3.params.toList.all fun t=>okT Tryz.prog 5 t && Tryz.prog.readableRec t && decide (t < Tryz.prog.types.size)) = true:=by kernel_rfl
  intro t ht
  have:=List.all_eq_true.1 h t ht
  simp only [Bool.and_eq_true,decide_eq_true_eq] at this
  exact ⟨this.1.1,this.1.2,this.2⟩
 ·intro ds hd
  have h3:ds.length = 1:=hd
  match ds,h3 with
  | [_],_=>rfl
 ·intro hd hg
  exact args ds hd
theorem said:Rows.FrontBackSaid:=
 OpenClaim.holds_of_cond 3 Tryz.f3 rfl rfl rfl rfl rfl rfl rfl ⟨rfl,rfl,rfl,rfl,rfl⟩ rfl rfl rfl rfl rfl (by kernel_rfl) Tryz.func3 (by kernel_rfl)
  (of_decide_eq_true (by kernel_rfl)) (by unfold Func.isWrapper;first | (rw [if_pos (by decide +kernel)];kernel_rfl) | (rw [if_neg (by decide +kernel)];exact ⟨rfl,rfl⟩))
  (fun os started H enc _ F=>by rw [OpenClaim.pre_eq_preRow];exact lifted os started H enc F)
theorem plain (f:FuncId) (fn:Func) (hf:Tryz.pinned.checked.prog.funcNamed "binnacle/binnaclelaw17.FrontBack" = some f) (hfn:Tryz.pinned.checked.prog.funcs[f]? = some fn) :
  true = Tryz.pinned.checked.prog.looks [] ∧ ∀ (j:Nat) t,fn.params[j]? = some t → Tryz.pinned.checked.prog.wantsStandIn t = false:=by
 obtain rfl:f = 3:=Option.some.inj ((show Tryz.prog.funcNamed "binnacle/binnaclelaw17.FrontBack" = some 3 by kernel_rfl).symm.trans hf) |>.symm
 obtain rfl:fn = Tryz.f3:=(Option.some.inj (Tryz.func3.symm.trans hfn)).symm
 refine ⟨by kernel_rfl,fun j t ht=>?_⟩
 have hm:t ∈ Tryz.f3.params.toList:=by simpa using Array.mem_of_getElem? ht
 have hall:(Tryz.f3.params.toList.all fun u=>!Tryz.prog.wantsStandIn u) = true:=by kernel_rfl
 exact (show Tryz.prog.wantsStandIn t = false by simpa using List.all_eq_true.1 hall t hm)
end Go.Proofs.YtlbieeajocjpeaaGreatDoor.frontBack
namespace Go.Proofs.YtlbieeajocjpeaaGreatDoor
theorem frontBack_holds:Rows.FrontBackCardSaid:=
 Claim7.holds_tied_plain_at .later [] _ _ _ _ frontBack.said (fun _ h=>by cases h) (by kernel_rfl) (fun _ h=>by cases h) frontBack_row_tie rfl ⟨rfl,rfl⟩ (by kernel_rfl) rfl frontBack.plain (by kernel_rfl)
end Go.Proofs.YtlbieeajocjpeaaGreatDoor

/- In a tree that is right each name has a symbol in sight, and no two in sight have one name: for every string. The listed variables of Go's library are laid as the card ties them. -/
import Derived.Test.YtjjhefdfjagkaaaGreatDoorFrRow
import Derived.Test.YtjjhefdfjagkaaaGreatDoorCards
import Derived.Test.YtjjhefdfjagkaaaGreatDoorTie
import Derived.WalkKit
set_option linter.all false
open Go.Proofs.Tryz renaming prog→ae
open Go.OpenSpec renaming ofChange→Kj
open List renaming all_eq_true→mq
open Option.some renaming inj→zS
section
namespace Go.Proofs.YtjjhefdfjagkaaaGreatDoor.sortNames
open Go.ChangeShapes Go.WideShapes Go.ChangeAt Go.RowKit Go.AM Go.Front
set_option maxRecDepth 100000
theorem args {H:Type} (ds:List (DataW H)) (hd:rW (ly ae 5) [9] ds):
  ∃n U',cd ae Lb n 4 (qf ae [9] ds rp).1 (qf ae [9] ds rp).2=some (.ret (.bool true),U'):=by
 match ds,hd with
 | [d0],oF=>
  obtain⟨h0,_⟩:=oF;obtain⟨s,rfl⟩:=arg_str h0;have ha:qf ae [9] ([DataW.lit (.string s)]:List (DataW H)) rp=([.str s],rp):=by kernel_rfl
  rw[ha];exact aaI (afI (s:=s) Kn.rp) λ_ _ h=>h
 | [],h=>simp[rW]at h
 |_::_::_,h=>simp[rW]at h
theorem lifted (os:Os) (started:os.Started) (H:Type) (enc:TypeId×Value->H) (F:Stop.Interp):
  ReturnsInHanded {} Tryz.checked os 4 .any ((Kj Rows.sortNamesSpec).preRow enc ae Tryz.f4 Rows.sortNamesRow.domain false Rows.sortNamesRow.laid) (((Kj Rows.sortNamesSpec).at F).post enc ae Tryz.f4 false true false false):=by
 have hx:∃places,DataW.whole enc ae ((World.laidAll ae os Rows.sortNamesRow.laid).forCall (λ_ _=>0) ⟨#[],#[.string ⟨#[]⟩],[]⟩).memory Tryz.f4.params.toList Rows.sortNamesSpec.vars false #[Value.string ⟨#[]⟩].toList 8=some ([.lit (.string [])],[],places):=⟨[],by kernel_rfl⟩
 obtain⟨places,hx⟩:=hx;refine returnsInHanded_of_row (C:=Tryz.checked) (s:=(Kj Rows.sortNamesSpec)) own started (by kernel_rfl) Tryz.func4
  (agP (enc:=enc) (C:=Tryz.checked) #[.string ⟨#[]⟩] (by kernel_rfl) (by kernel_rfl) (by kernel_rfl)
   (OpenSpec.preRow_of_cond 8 hx (by kernel_rfl) (λk hk=>by cases hk) (by kernel_rfl) (acr os _))) ?_
 intro W base bM ds gs before yU hW _ Ec _ hL qw _;obtain⟨V0,Bf,wQ⟩:=aa9 hL;refine Vm (C:=Tryz.checked) (s:=Rows.sortNamesSpec) (k:=5) (tb:=4) rfl Tryz.func4 (by kernel_rfl) (by kernel_rfl) (by kernel_rfl) acq Tryz.pok To ?_ ?_ Bf wQ yU hW ?_
 ·have h:(Tryz.f4.params.toList.all λt=>B2 ae 5 t&&ae.readableRec t&&decide (t<ae.types.size))=true:=by kernel_rfl
  intro t ht;have:=mq.1 h t ht;simp only[Bool.and_eq_true,decide_eq_true_eq]at this;exact⟨this.1.1,this.1.2,this.2⟩
 ·intro ds hd;have h3:ds.length=1:=hd
  match ds,h3 with
  | [_],_=>rfl
 ·intro hd hg;exact args ds hd
theorem said:Rows.SortNamesSaid:=
 OpenClaim.holds_of_cond 4 Tryz.f4 rfl rfl rfl rfl rfl rfl rfl ⟨rfl,rfl,rfl,rfl,rfl⟩ rfl rfl rfl rfl rfl (by kernel_rfl) Tryz.func4 (by kernel_rfl)
  (of_decide_eq_true (by kernel_rfl)) (by unfold Func.isWrapper;first|(rw[if_pos (by decide+kernel)];kernel_rfl)|(rw[if_neg (by decide+kernel)];exact⟨rfl,rfl⟩))
  (λos started H enc _ F=>by rw[OpenClaim.pre_eq_preRow];exact lifted os started H enc F)
theorem plain (f:FuncId) (fn:Func) (hf:Tryz.pinned.checked.prog.funcNamed "binnacle/binnaclelaw18.SortNames"=some f) (dU:Tryz.pinned.checked.prog.funcs[f]? =some fn):
  true=Tryz.pinned.checked.prog.looks []/\∀(j:Nat) t,fn.params[j]? =some t->Tryz.pinned.checked.prog.wantsStandIn t=false:=by
 obtain rfl:f=4:=zS ((show ae.funcNamed "binnacle/binnaclelaw18.SortNames"=some 4 by kernel_rfl).symm.trans hf)|>.symm;obtain rfl:fn=Tryz.f4:=(zS (Tryz.func4.symm.trans dU)).symm;refine⟨by kernel_rfl,λj t ht=>?_⟩;have hm:t∈Tryz.f4.params.toList:=by simpa using Array.mem_of_getElem? ht
 have iE:(Tryz.f4.params.toList.all λu=>!ae.wantsStandIn u)=true:=by kernel_rfl
 exact(show ae.wantsStandIn t=false by simpa using mq.1 iE t hm)
end Go.Proofs.YtjjhefdfjagkaaaGreatDoor.sortNames
namespace Go.Proofs.YtjjhefdfjagkaaaGreatDoor
theorem sortNames_holds:Rows.SortNamesCardSaid:=
 Claim7.holds_tied_plain_at .later [] _ _ _ _ sortNames.said (λ_ h=>by cases h) (by kernel_rfl) (λ_ h=>by cases h) sortNames_row_tie rfl ⟨rfl,rfl⟩ (by kernel_rfl) rfl sortNames.plain (by kernel_rfl)
end Go.Proofs.YtjjhefdfjagkaaaGreatDoor
end

/- The functions, as trees of named steps. -/
import Derived.Test.YtidammkjfdonaaaDoorAmT
import Derived.Test.YtidammkjfdonaaaDoorAmLib
import Derived.Test.YtidammkjfdonaaaDoorChecked
namespace Go.Proofs
open Go.AM
set_option maxHeartbeats 4000000
/-! ### binnacle/inst.Parse$1(c) -/
noncomputable def g38_t (_ : Leaf) (_ : Nat) (i1 : Int) (σ : St) : Out :=
 cond (i1 == (44 : Int)) (some (.ret (.bool true), σ)) (cond (i1 == (32 : Int)) (some (.ret (.bool true), σ)) (cond (i1 == (40 : Int)) (some (.ret (.bool true), σ)) (some (.ret (.bool (i1 == (41 : Int))), σ))))
theorem g38_g (L : Leaf) (n : Nat) (i1 : Int) (σ : St) : goT Tryd.prog noLib 38 n L [] [] [] ⟨tm 17 [(0, .v (.int .i32 i1))] 0, []⟩ σ = g38_t L n i1 σ := by kernel_rfl
theorem g38_e {n : Nat} {i1 : Int} {σ : St} : Le (g38_t (pt Tryd.prog noLib 38 n) n i1 σ) (callP Tryd.prog noLib (n + 1) 38 [.int .i32 i1] σ) :=
  goT_call (g38_g _ n i1 σ) rfl (by kernel_rfl) (by kernel_rfl)
end Go.Proofs

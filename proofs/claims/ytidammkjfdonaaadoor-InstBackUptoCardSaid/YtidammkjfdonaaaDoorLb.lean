/- What is known beforehand of the library's functions that the program calls. -/
import Derived.Test.YtidammkjfdonaaaDoorAmLib
import Derived.Test.YtidammkjfdonaaaDoorShelf
namespace Go.Proofs
open Go.AM
open Classical

/-! ### package-level variables of the library -/
def KAsc (ob : Obj) : Prop := ∃ ty fr, ob = .cells (Lib.asciiSpaceTab.map fun z => Value.int .u8 z).toArray ty fr
def KMax (ob : Obj) : Prop := ∃ m cs ty fr, ob = .cells cs ty fr ∧ cs[0]? = some (.int .i64 m)
def KPow (ob : Obj) : Prop := ∃ ty fr, ob = .cells (Lib.pow10Tab.map fun z => Value.int .u64 z).toArray ty fr
def KErr (ob : Obj) : Prop := ∃ te pe ty fr, ob = .cells #[.iface te pe] ty fr

/-- The first heap. -/
def heap0 : St := [.know 0 KAsc, .know 1 KMax, .know 3 KPow, .know 4 KErr, .know 5 KErr]

structure Kn (σ : St) : Prop where
  asc : σ[0]? = some (.know 0 KAsc)
  max : σ[1]? = some (.know 1 KMax)
  pow : σ[2]? = some (.know 3 KPow)
  syn : σ[3]? = some (.know 4 KErr)
  rng : σ[4]? = some (.know 5 KErr)

theorem Kn.heap0 : Kn heap0 := ⟨rfl, rfl, rfl, rfl, rfl⟩
theorem Kn.len {σ : St} (h : Kn σ) : 5 ≤ σ.length := (List.getElem?_eq_some_iff.1 h.rng).1
theorem Kn.app {σ : St} (h : Kn σ) (τ : St) : Kn (σ ++ τ) := by
  have hl := h.len
  refine ⟨?_, ?_, ?_, ?_, ?_⟩ <;> rw [List.getElem?_append_left (by omega)]
  · exact h.asc
  · exact h.max
  · exact h.pow
  · exact h.syn
  · exact h.rng
theorem Kn.set {σ : St} (h : Kn σ) {b : Nat} (hb : 5 ≤ b) (o : AObj) : Kn (σ.set b o) := by
  refine ⟨?_, ?_, ?_, ?_, ?_⟩ <;> rw [List.getElem?_set_ne (by omega)]
  · exact h.asc
  · exact h.max
  · exact h.pow
  · exact h.syn
  · exact h.rng

/-! ### the functions -/

noncomputable def lbJoin (args : List AV) (σ : St) : Out :=
  match args with
  | [.slice none _ _ _, .str _] => some (.ret (.str []), σ)
  | [.slice (some (b, o)) n _ sz, .str sep] =>
    if sz = 1 ∧ n ≤ 140737488355328 then
      match cellsAt σ b with
      | some cs => if o + n ≤ cs.length then
          match strsOf ((cs.drop o).take n) with
          | some xs => if (Lib.join xs sep).length ≤ 140737488355328 then some (.ret (.str (Lib.join xs sep)), σ) else none
          | none => none
        else none
      | none => none
    else none
  | _ => none

noncomputable def lbCut (args : List AV) (σ : St) : Out :=
  match args with
  | [.str s, .str sep] => if Kn σ ∧ s.length < 4294967281 then some (.ret (.tuple [.str (Lib.cut s sep).1, .str (Lib.cut s sep).2.1, .bool (Lib.cut s sep).2.2]), σ) else none
  | _ => none

noncomputable def lbCutPrefix (args : List AV) (σ : St) : Out :=
  match args with
  | [.str s, .str p] => some (.ret (.tuple [.str (Lib.trimPrefix s p), .bool (Lib.hasPrefix s p)]), σ)
  | _ => none

noncomputable def lbItoa (args : List AV) (σ : St) : Out :=
  match args with
  | [.int .i64 n] => if Kn σ ∧ -9223372036854775808 ≤ n ∧ n ≤ 9223372036854775807 then some (.ret (.str (Lib.itoa n)), σ) else none
  | _ => none

noncomputable def lbFormatInt (args : List AV) (σ : St) : Out :=
  match args with
  | [.int .i64 n, .int .i64 b] => if Kn σ ∧ b = 10 ∧ -9223372036854775808 ≤ n ∧ n ≤ 9223372036854775807 then some (.ret (.str (Lib.itoa n)), σ) else none
  | _ => none

noncomputable def lbParseInt (args : List AV) (σ : St) : Out :=
  match args with
  | [.str s, .int .i64 b, .int .i64 w] =>
    if Kn σ ∧ b = 10 ∧ w = 64 ∧ s.length ≤ 281474976710656 then
      match Lib.parseIntB 64 s with
      | .ok v => some (.ret (.tuple [.int .i64 v, .nilIface]), σ)
      | .syntax => some (.ret (.tuple [.int .i64 0, .iface 133 (.ptr (some (σ.length, 0)))]), σ ++ [.dead])
      | .range => some (.ret (.tuple [.int .i64 (Lib.intSat 64 s), .iface 133 (.ptr (some (σ.length, 0)))]), σ ++ [.dead])
    else none
  | _ => none

noncomputable def lbFields (args : List AV) (σ : St) : Out :=
  match args with
  | [.str s] =>
    if Kn σ ∧ s.length < 4294967281 ∧ ∀ b ∈ s, b.toNat < 128 then
      some (.ret (.slice (some (σ.length, 0)) (Lib.fields s).length (some (Lib.fields s).length) 1), σ ++ [.cells ((Lib.fields s).map .str) .ro])
    else none
  | _ => none

/-- What parts the words of an instruction's text. -/
def sepP (c : Nat) : Bool := c == 44 || c == 32 || c == 40 || c == 41

def wordsOf (s : List UInt8) : List (List UInt8) := (Lib.goFieldsP sepP ⟨s.toArray⟩).map fun b => b.data.toList

noncomputable def lbFieldsFunc (args : List AV) (σ : St) : Out :=
  match args with
  | [.str s, .func (.func 38) [] []] =>
    if s.length ≤ 4294967296 then
      some (.ret (.slice (some (σ.length, 0)) (wordsOf s).length (some (wordsOf s).length) 1), σ ++ [.cells ((wordsOf s).map .str) .ro])
    else none
  | _ => none

noncomputable def Lb : Caller := fun f args σ =>
  match f with
  | 32 => lbJoin args σ
  | 36 => lbCut args σ
  | 37 => lbFieldsFunc args σ
  | 40 => lbCutPrefix args σ
  | 52 => lbFormatInt args σ
  | 55 => lbParseInt args σ
  | 59 => lbFields args σ
  | 63 => lbItoa args σ
  | _ => none

end Go.Proofs

/- What is known beforehand of the library's functions that the program calls. -/
import Derived.Test.YtlbieeajocjpeaaGreatDoorAmLib
import Derived.Test.YtlbieeajocjpeaaGreatDoorShelf
namespace Go.Proofs
open Go.AM
open Classical
abbrev Ad := Option (Nat × Nat)
abbrev On := Option Nat
abbrev By := List UInt8
def KAsc (ob : Obj) : Prop := ∃ ty fr, ob = .cells (Lib.asciiSpaceTab.map fun z => Value.int .u8 z).toArray ty fr
def KPow (ob : Obj) : Prop := ∃ ty fr, ob = .cells (Lib.pow10Tab.map fun z => Value.int .u64 z).toArray ty fr
def KErr (ob : Obj) : Prop := ∃ te pe ty fr, ob = .cells #[.iface te pe] ty fr
def heap0 : St := [.know 0 KAsc, .know 4 KPow, .know 2 KErr, .know 3 KErr]
structure Kn (σ : St) : Prop where
  asc : σ[0]? = some (.know 0 KAsc)
  pow : σ[1]? = some (.know 4 KPow)
  syn : σ[2]? = some (.know 2 KErr)
  rng : σ[3]? = some (.know 3 KErr)
theorem Kn.heap0 : Kn heap0 := ⟨rfl, rfl, rfl, rfl⟩
theorem Kn.len {σ : St} (h : Kn σ) : 4 ≤ σ.length := (List.getElem?_eq_some_iff.1 h.rng).1
theorem Kn.app {σ : St} (h : Kn σ) (τ : St) : Kn (σ ++ τ) := by
  have hl := h.len
  refine ⟨?_, ?_, ?_, ?_⟩ <;> rw [List.getElem?_append_left (by omega)]
  · exact h.asc
  · exact h.pow
  · exact h.syn
  · exact h.rng
theorem Kn.set {σ : St} (h : Kn σ) {b : Nat} (hb : 4 ≤ b) (o : AObj) : Kn (σ.set b o) := by
  refine ⟨?_, ?_, ?_, ?_⟩ <;> rw [List.getElem?_set_ne (by omega)]
  · exact h.asc
  · exact h.pow
  · exact h.syn
  · exact h.rng
noncomputable def lbItoa (args : List AV) (σ : St) : Out :=
  match args with
  | [.int .i64 n] => if σ[(1 : Nat)]? = some (.know 4 KPow) ∧ -9223372036854775808 ≤ n ∧ n ≤ 9223372036854775807 then some (.ret (.str (Lib.itoa n)), σ) else none
  | _ => none
noncomputable def lbFormatInt (args : List AV) (σ : St) : Out :=
  match args with
  | [.int .i64 n, .int .i64 b] => if σ[(1 : Nat)]? = some (.know 4 KPow) ∧ b = 10 ∧ -9223372036854775808 ≤ n ∧ n ≤ 9223372036854775807 then some (.ret (.str (Lib.itoa n)), σ) else none
  | _ => none
noncomputable def lbParseInt (args : List AV) (σ : St) : Out :=
  match args with
  | [.str s, .int .i64 b, .int .i64 w] =>
    if Kn σ ∧ b = 10 ∧ w = 64 ∧ s.length ≤ 281474976710656 then
      match Lib.parseIntB 64 s with
      | .ok v => some (.ret (.tuple [.int .i64 v, .nilIface]), σ)
      | .syntax => some (.ret (.tuple [.int .i64 0, .iface 110 (.ptr (some (σ.length, 0)))]), σ ++ [.dead])
      | .range => some (.ret (.tuple [.int .i64 (Lib.intSat 64 s), .iface 110 (.ptr (some (σ.length, 0)))]), σ ++ [.dead])
    else none
  | _ => none
noncomputable def lbFields (args : List AV) (σ : St) : Out :=
  match args with
  | [.str s] =>
    if Kn σ ∧ s.length < 4294967281 ∧ ∀ b ∈ s, b.toNat < 128 then
      some (.ret (.slice (some (σ.length, 0)) (Lib.fields s).length (some (Lib.fields s).length) 1), σ ++ [.cells ((Lib.fields s).map .str) .ro])
    else none
  | _ => none
noncomputable def lbTrim (args : List AV) (σ : St) : Out :=
  match args with
  | [.str s, .str [c]] => if c.toNat < 128 ∧ s.length ≤ 4611686018427387904 then some (.ret (.str (Lib.trimB s c)), σ) else none
  | _ => none
noncomputable def lbIndexByte (args : List AV) (σ : St) : Out :=
  match args with
  | [.str s, .int .u8 c] => some (.ret (.int .i64 (Lib.indexByte s c.toNat.toUInt8)), σ)
  | _ => none
noncomputable def lbCheck (args : List AV) (σ : St) : Out :=
  match args with
  | [.ptr (some (b, o))] =>
    match σ[b]? with
    | some (.cells cs (.rw (.box t))) =>
      match cs[o]? with
      | some (.ptr none) => if liesAt Tryz.prog Tryz.prog.depth t (cs.length / Tryz.prog.cellsOf t) o 55 1 = true then some (.ret (.tuple []), σ.set b (.cells (cs.set o (.ptr (some (b, o)))) (.rw (.box t)))) else none
      | some (.ptr (some p)) => if p = (b, o) then some (.ret (.tuple []), σ) else none
      | _ => none
    | _ => none
  | _ => none
def bytesX : List AV → Option (List UInt8)
  | [] => some []
  | .int .u8 n :: r => if n = ((UInt8.ofNat n.toNat).toNat : Int) then (match bytesX r with | some l => some (UInt8.ofNat n.toNat :: l) | none => none) else none
  | _ => none
theorem bytesX_bytes (l : List UInt8) : bytesX (bytesAV l) = some l := by
  induction l with
  | nil => rfl
  | cons x l ih =>
    have : bytesAV (x :: l) = .int .u8 x.toNat :: bytesAV l := rfl
    rw [this]
    simp [bytesX, ih]
noncomputable def lbString (args : List AV) (σ : St) : Out :=
  match args with
  | [.ptr (some (b, o))] =>
    match cellsAt σ b with
    | some cs =>
      match cs[o + 1]? with
      | some (.slice none 0 (some 0) _) => some (.ret (.str []), σ)
      | some (.slice (some (g, s)) n _ z) =>
        if z = 1 ∧ 0 < n ∧ n ≤ 4611686018427387904 then
          match σ[g]? with
          | some (.cells bs (.rw (.row t))) =>
            if t = 5 ∧ s + n ≤ bs.length then
              match bytesX ((bs.drop s).take n) with
              | some l => some (.ret (.str l), σ.set g (.cells bs .ro))
              | none => none
            else none
          | _ => none
        else none
      | _ => none
    | none => none
  | _ => none
noncomputable def Lb : Caller := fun f args σ =>
  match f with
  | 17 => lbString args σ
  | 28 => lbParseInt args σ
  | 39 => lbFormatInt args σ
  | 51 => lbFields args σ
  | 61 => lbItoa args σ
  | 63 => lbTrim args σ
  | 75 => lbIndexByte args σ
  | 76 => lbCheck args σ
  | _ => none
end Go.Proofs

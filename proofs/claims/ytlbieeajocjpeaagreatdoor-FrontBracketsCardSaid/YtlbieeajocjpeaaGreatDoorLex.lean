/- The lexer of layer 17, as a plain function of bytes. -/
import Derived.Lib.ParseIntB
import Derived.Lib.Bytealg
namespace Go.Front
structure Tok where
  kind : Nat
  at_ : Nat
  text : List UInt8
  n : Int
  deriving DecidableEq, Inhabited
def isLetter (c : UInt8) : Bool := (97 ≤ c.toNat && c.toNat ≤ 122) || (65 ≤ c.toNat && c.toNat ≤ 90) || c.toNat == 95
def isDigit (c : UInt8) : Bool := 48 ≤ c.toNat && c.toNat ≤ 57
def skip : Bool → List UInt8 → Nat
  | _, [] => 0
  | true, c :: r => if c.toNat = 10 then skip false r + 1 else skip true r + 1
  | false, c :: r =>
    if c.toNat = 32 ∨ c.toNat = 9 ∨ c.toNat = 10 then skip false r + 1
    else if c.toNat = 47 ∧ r.head? = some 47 then skip true r + 1 else 0
def esc (d : UInt8) : Option UInt8 :=
  if d.toNat = 110 then some 10 else if d.toNat = 116 then some 9 else if d.toNat = 48 then some 0 else if d.toNat = 92 then some 92 else if d.toNat = 39 then some 39 else if d.toNat = 34 then some 34 else none
def escape (q : Nat) : List UInt8 → Option (UInt8 × Nat)
  | [] => none
  | c :: r =>
    if c.toNat = 92 then (match r with
      | [] => none
      | d :: _ => (esc d).map fun b => (b, 2))
    else if 32 ≤ c.toNat ∧ c.toNat ≤ 126 ∧ c.toNat ≠ q then some (c, 1) else none
def strBody : List UInt8 → Nat → Option (List UInt8 × Nat)
  | [], _ => none
  | [c], _ => if c.toNat = 34 then some ([], 0) else none
  | c :: d :: r, n =>
    if c.toNat = 34 then some ([], 0)
    else if c.toNat = 92 then (match esc d with
      | some b => if b = 0 ∨ n = 100 then none else (strBody r (n + 1)).map fun p => (b :: p.1, p.2 + 2)
      | none => none)
    else if 32 ≤ c.toNat ∧ c.toNat ≤ 126 then (if n = 100 then none else (strBody (d :: r) (n + 1)).map fun p => (c :: p.1, p.2 + 1))
    else none
def marks : List (List UInt8) := [[60, 60], [62, 62], [60, 61], [62, 61], [61, 61], [33, 61], [38, 38], [124, 124], [40], [41], [123], [125], [91], [93], [59], [44], [42], [47], [37], [43], [45], [60], [62], [38], [94], [124], [61], [33], [126]]
def words : List (List UInt8) := [[105, 110, 116], [99, 104, 97, 114], [105, 102], [101, 108, 115, 101], [119, 104, 105, 108, 101], [114, 101, 116, 117, 114, 110], [98, 114, 101, 97, 107], [99, 111, 110, 116, 105, 110, 117, 101]]
def numOf (c : UInt8) (t : List UInt8) : Lib.NumEnd Int → Option (Nat × List UInt8 × Int × Nat)
  | .ok v => if c.toNat = 48 ∧ t.length ≠ 1 then none else some (3, [], v, t.length)
  | _ => none
def one : List UInt8 → Option (Nat × List UInt8 × Int × Nat)
  | [] => some (0, [], 0, 0)
  | c :: r =>
    let l := c :: r
    if isLetter c then
      let t := l.takeWhile fun c => isLetter c || isDigit c
      if words.contains t then some (2, t, 0, t.length) else if t.length ≤ 14 then some (1, t, 0, t.length) else none
    else if isDigit c then
      let t := l.takeWhile isDigit
      numOf c t (Lib.parseIntB 64 t)
    else if c.toNat = 34 then (strBody r 0).map fun p => (4, p.1, 0, p.2 + 2)
    else if c.toNat = 39 then (match escape 39 r with
      | some (b, k) => if (r.drop k).head? = some 39 then some (3, [], (b.toNat : Int), k + 2) else none
      | none => none)
    else (marks.find? fun m => m.isPrefixOf l).map fun m => (5, m, 0, m.length)
def cut (s : List UInt8) (at_ : Nat) : Nat × Option (Tok × Nat) :=
  let from_ := at_ + skip false (s.drop at_)
  (from_, (one (s.drop from_)).map fun p => (⟨p.1, from_, p.2.1, p.2.2.1⟩, from_ + p.2.2.2))
inductive Toks where
  | bad (at_ : Nat)
  | done (t : Tok)
  | more (t : Tok) (r : Toks)
  deriving Inhabited
end Go.Front

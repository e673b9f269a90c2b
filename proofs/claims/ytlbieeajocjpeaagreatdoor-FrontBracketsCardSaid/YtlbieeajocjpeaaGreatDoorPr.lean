/- What is printed of a tree. -/
import Derived.Test.YtlbieeajocjpeaaGreatDoorAst
import Derived.Lib.ItoaNum
set_option linter.unusedSimpArgs false
set_option linter.unusedVariables false
namespace Go.Front
def putS (s : List UInt8) : List UInt8 := s ++ [if s = [59] ∨ s = [123] ∨ s = [125] then 10 else 32]
def opNames : List (List UInt8) := [45] :: [33] :: [126] :: ops
def opName (op : Nat) : List UInt8 := opNames.getD (op - 1) []
def escS : List UInt8 → List UInt8
  | [] => []
  | c :: r => (if c = 10 then [92, 110] else if c = 9 then [92, 116] else if c = 92 then [92, 92] else if c = 34 then [92, 34] else [c]) ++ escS r
def quoteS (s : List UInt8) : List UInt8 := 34 :: escS s ++ [34]
def brack (is : Bool) (s : List UInt8) : List UInt8 := if is then putS [40] ++ s ++ putS [41] else s
def joinC : List (List UInt8) → List UInt8
  | [] => []
  | x :: r => x ++ r.flatMap fun y => putS [44] ++ y
mutual
def Ex.pr : Ex → List UInt8
  | .num _ n => putS (Lib.itoa n)
  | .text _ s => putS (quoteS s)
  | .name _ s => putS s
  | .call _ s l => putS s ++ putS [40] ++ joinC (Ex.prs l) ++ putS [41]
  | .index x i => brack x.isUB x.pr ++ putS [91] ++ i.pr ++ putS [93]
  | .un _ op x => putS (opName op) ++ brack x.isBin x.pr
  | .bin op x y => brack (decide (x.lv < level op)) x.pr ++ putS (opName op) ++ brack (decide (y.lv ≤ level op)) y.pr
def Ex.prs : List Ex → List (List UInt8)
  | [] => []
  | x :: l => x.pr :: Ex.prs l
end
theorem Ex.prs_map : ∀ l : List Ex, Ex.prs l = l.map Ex.pr
  | [] => rfl
  | x :: l => by simp [Ex.prs, Ex.prs_map l]
def parS (ty : Int) (s : List UInt8) : List UInt8 :=
  if ty = 1 then putS [105, 110, 116] ++ putS s else if ty = 3 then putS [105, 110, 116] ++ putS [42] ++ putS s else putS [99, 104, 97, 114] ++ putS [42] ++ putS s
mutual
def Sm.pr : Sm → List UInt8
  | .expr _ x => x.pr ++ putS [59]
  | .set x y => x.pr ++ putS [61] ++ y.pr ++ putS [59]
  | .if1 _ c a => putS [105, 102] ++ putS [40] ++ c.pr ++ putS [41] ++ a.pr
  | .if2 _ c a b => putS [105, 102] ++ putS [40] ++ c.pr ++ putS [41] ++ a.pr ++ putS [101, 108, 115, 101] ++ b.pr
  | .while _ c a => putS [119, 104, 105, 108, 101] ++ putS [40] ++ c.pr ++ putS [41] ++ a.pr
  | .ret _ x => putS [114, 101, 116, 117, 114, 110] ++ x.pr ++ putS [59]
  | .brk _ => putS [98, 114, 101, 97, 107] ++ putS [59]
  | .next _ => putS [99, 111, 110, 116, 105, 110, 117, 101] ++ putS [59]
  | .block _ l => putS [123] ++ Sm.prs l ++ putS [125]
  | .var _ s ty => parS ty s ++ putS [59]
  | .vari _ s ty x => parS ty s ++ putS [61] ++ x.pr ++ putS [59]
def Sm.prs : List Sm → List UInt8
  | [] => []
  | x :: l => x.pr ++ Sm.prs l
end
mutual
def Ex.hasText : Ex → Bool
  | .num _ _ => false
  | .text _ _ => true
  | .name _ _ => false
  | .call _ _ l => Ex.haveText l
  | .index x i => x.hasText || i.hasText
  | .un _ _ x => x.hasText
  | .bin _ x y => x.hasText || y.hasText
def Ex.haveText : List Ex → Bool
  | [] => false
  | x :: l => x.hasText || Ex.haveText l
end
theorem Ex.haveText_mem : ∀ {l : List Ex} {x : Ex}, x ∈ l → x.hasText = true → Ex.haveText l = true
  | y :: l, x, h, hx => by
    cases h with
    | head => simp [Ex.haveText, hx]
    | tail _ h => simp [Ex.haveText, Ex.haveText_mem h hx]
mutual
def Sm.hasText : Sm → Bool
  | .expr _ x => x.hasText
  | .set x y => x.hasText || y.hasText
  | .if1 _ c a => c.hasText || a.hasText
  | .if2 _ c a b => c.hasText || a.hasText || b.hasText
  | .while _ c a => c.hasText || a.hasText
  | .ret _ x => x.hasText
  | .brk _ => false
  | .next _ => false
  | .block _ l => Sm.haveText l
  | .var _ _ _ => false
  | .vari _ _ _ x => x.hasText
def Sm.haveText : List Sm → Bool
  | [] => false
  | x :: l => x.hasText || Sm.haveText l
end
def Dc.hasText : Dc → Bool
  | .fn _ _ _ _ l => Sm.haveText l
  | _ => false
def Dc.isArray : Dc → Bool
  | .array _ _ _ _ => true
  | _ => false
def Dc.pr : Dc → List UInt8
  | .var _ s => putS [105, 110, 116] ++ putS s ++ putS [59]
  | .array _ s ty n => putS (if ty = 2 then [99, 104, 97, 114] else [105, 110, 116]) ++ putS s ++ putS [91] ++ putS (Lib.itoa n) ++ putS [93] ++ putS [59]
  | .fn _ s ps _ l => putS [105, 110, 116] ++ putS s ++ putS [40] ++ joinC (ps.map fun p => parS p.2.2 p.2.1) ++ putS [41] ++ (putS [123] ++ Sm.prs l ++ putS [125])
def allPr (l : List Dc) : List UInt8 := l.flatMap Dc.pr
end Go.Front

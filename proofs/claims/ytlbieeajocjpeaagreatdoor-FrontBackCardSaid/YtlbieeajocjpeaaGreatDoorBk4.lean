/- FrontBack: trees with the same nodes, but for places, are printed alike; how long what is printed is; what the function answers. -/
import Derived.Test.YtlbieeajocjpeaaGreatDoorBk3
import Derived.Test.YtlbieeajocjpeaaGreatDoorT7
import Derived.Lib.ItoaLen
set_option linter.unusedSimpArgs false
set_option linter.unusedVariables false
namespace Go.Front
open Go.AM Go.Proofs
structure It where
 s:List UInt8
 p:List UInt8
 lv:Nat
 ub:Bool
 bi:Bool
instance:Inhabited It:=⟨⟨[],[],0,false,false⟩⟩
def Ex.it (e:Ex):It:=⟨e.pr,[],e.lv,e.isUB,e.isBin⟩
def itS (s:List UInt8):It:=⟨s,[],99,false,false⟩
def itOf (kind:Int) (text:List UInt8) (n m:Int) (a:List It):It:=
 let g (i:Nat):It:=a.getD i default
 if kind = 1 then itS (putS (Lib.itoa n))
 else if kind = 2 then itS (putS (quoteS text))
 else if kind = 3 then itS (putS text)
 else if kind = 4 then itS (putS text ++ putS [40] ++ joinC (a.map It.s) ++ putS [41])
 else if kind = 5 then itS (brack (g 0).ub (g 0).s ++ putS [91] ++ (g 1).s ++ putS [93])
 else if kind = 6 then ⟨putS (opName n.toNat) ++ brack (g 0).bi (g 0).s,[],99,true,false⟩
 else if kind = 7 then ⟨brack (decide ((g 0).lv < level n.toNat)) (g 0).s ++ putS (opName n.toNat) ++ brack (decide ((g 1).lv ≤ level n.toNat)) (g 1).s,[],level n.toNat,true,true⟩
 else if kind = 10 then itS ((g 0).s ++ putS [59])
 else if kind = 11 then itS ((g 0).s ++ putS [61] ++ (g 1).s ++ putS [59])
 else if kind = 12 then itS (putS [105,102] ++ putS [40] ++ (g 0).s ++ putS [41] ++ (g 1).s ++ (if a.length = 3 then putS [101,108,115,101] ++ (g 2).s else []))
 else if kind = 13 then itS (putS [119,104,105,108,101] ++ putS [40] ++ (g 0).s ++ putS [41] ++ (g 1).s)
 else if kind = 14 then itS (putS [114,101,116,117,114,110] ++ (g 0).s ++ putS [59])
 else if kind = 15 then itS (putS [98,114,101,97,107] ++ putS [59])
 else if kind = 16 then itS (putS [99,111,110,116,105,110,117,101] ++ putS [59])
 else if kind = 17 then itS (putS [123] ++ a.flatMap It.s ++ putS [125])
 else if kind = 18 then ⟨if a.length = 0 then parS m text ++ putS [59] else parS m text ++ putS [61] ++ (g 0).s ++ putS [59],parS m text,99,false,false⟩
 else if kind = 20 then itS (putS [105,110,116] ++ putS text ++ putS [59])
 else if kind = 21 then itS (putS (if m = 2 then [99,104,97,114] else [105,110,116]) ++ putS text ++ putS [91] ++ putS (Lib.itoa n) ++ putS [93] ++ putS [59])
 else if kind = 22 then itS (putS [105,110,116] ++ putS text ++ putS [40] ++ joinC ((a.take m.toNat).map It.p) ++ putS [41] ++ (g m.toNat).s)
 else itS (a.flatMap It.s)
def itStep (st:List It) (x:Node):List It:=itOf x.kind x.text x.n x.m (st.take x.kids.length).reverse :: st.drop x.kids.length
theorem itStep_strip (st:List It) (x:Node):itStep st x.strip = itStep st x:=rfl
theorem itStep_map:∀ (l:List Node) (st:List It),(l.map Node.strip).foldl itStep st = l.foldl itStep st
 | [],_=>rfl
 | x :: l,st=>by rw [List.map_cons,List.foldl_cons,List.foldl_cons,itStep_strip,itStep_map l]
theorem Ex.roots_len':∀ (l:List Ex) (b:Nat),(Ex.roots b l).length = l.length
 | [],_=>rfl
 | x :: l,b=>by simp [Ex.roots,Ex.roots_len' l]
theorem Sm.roots_len':∀ (l:List Sm) (b:Nat),(Sm.roots b l).length = l.length
 | [],_=>rfl
 | x :: l,b=>by simp [Sm.roots,Sm.roots_len' l]
theorem Dc.roots_len':∀ (l:List Dc) (b:Nat),(Dc.roots b l).length = l.length
 | [],_=>rfl
 | x :: l,b=>by simp [Dc.roots,Dc.roots_len' l]
mutual
theorem Ex.ev:∀ (e:Ex) (b:Nat) (st:List It),(e.flat b).foldl itStep st = e.it :: st
 | .num _ n,b,st=>by simp [Ex.flat,itStep,itOf,Ex.it,itS,Ex.pr,Ex.lv,Ex.isUB,Ex.isBin]
 | .text _ s,b,st=>by simp [Ex.flat,itStep,itOf,Ex.it,itS,Ex.pr,Ex.lv,Ex.isUB,Ex.isBin]
 | .name _ s,b,st=>by simp [Ex.flat,itStep,itOf,Ex.it,itS,Ex.pr,Ex.lv,Ex.isUB,Ex.isBin]
 | .call _ s l,b,st=>by
  rw [Ex.flat,List.foldl_append,Ex.evs l b st]
  have h1:((List.map Ex.it l).reverse ++ st).take l.length = (List.map Ex.it l).reverse:=by rw [List.take_append_of_le_length (by simp)];exact List.take_of_length_le (by simp)
  have h2:((List.map Ex.it l).reverse ++ st).drop l.length = st:=by rw [List.drop_append_of_le_length (by simp),List.drop_of_length_le (by simp)];rfl
  have h3:(l.map Ex.it).map It.s = Ex.prs l:=by rw [List.map_map,Ex.prs_map];rfl
  simp only [List.foldl_cons,List.foldl_nil,itStep,Ex.roots_len',h1,h2,List.reverse_reverse]
  simp [itOf,Ex.it,itS,Ex.pr,Ex.lv,Ex.isUB,Ex.isBin,← h3]
 | .index x i,b,st=>by
  rw [Ex.flat,List.foldl_append,List.foldl_append,Ex.ev x b st,Ex.ev i _ _]
  simp [itStep,itOf,Ex.it,itS,Ex.pr,Ex.lv,Ex.isUB,Ex.isBin]
 | .un _ op x,b,st=>by
  rw [Ex.flat,List.foldl_append,Ex.ev x b st]
  simp [itStep,itOf,Ex.it,itS,Ex.pr,Ex.lv,Ex.isUB,Ex.isBin]
 | .bin op x y,b,st=>by
  rw [Ex.flat,List.foldl_append,List.foldl_append,Ex.ev x b st,Ex.ev y _ _]
  rfl
theorem Ex.evs:∀ (l:List Ex) (b:Nat) (st:List It),(Ex.flats b l).foldl itStep st = (l.map Ex.it).reverse ++ st
 | [],b,st=>rfl
 | x :: l,b,st=>by rw [Ex.flats,List.foldl_append,Ex.ev x b st,Ex.evs l _ _];simp
end
def Sm.it:Sm → It
 | .var _ s ty=>⟨parS ty s ++ putS [59],parS ty s,99,false,false⟩
 | .vari _ s ty x=>⟨parS ty s ++ putS [61] ++ x.pr ++ putS [59],parS ty s,99,false,false⟩
 | e=>itS e.pr
theorem Sm.it_s (e:Sm):e.it.s = e.pr:=by cases e <;> rfl
theorem Sm.its:∀ l:List Sm,(l.map Sm.it).flatMap It.s = Sm.prs l
 | []=>rfl
 | x :: l=>by rw [List.map_cons,List.flatMap_cons,Sm.its l,Sm.it_s];rfl
mutual
theorem Sm.ev:∀ (e:Sm) (b:Nat) (st:List It),(e.flat b).foldl itStep st = e.it :: st
 | .expr _ x,b,st=>by
  rw [Sm.flat,List.foldl_append,Ex.ev x b st]
  simp [itStep,itOf,Sm.it,itS,Sm.pr,Ex.it]
 | .set x y,b,st=>by
  rw [Sm.flat,List.foldl_append,List.foldl_append,Ex.ev x b st,Ex.ev y _ _]
  simp [itStep,itOf,Sm.it,itS,Sm.pr,Ex.it]
 | .if1 t c a,b,st=>by
  rw [Sm.flat,List.foldl_append,List.foldl_append,Ex.ev c b st,Sm.ev a _ _]
  rw [show Sm.it (.if1 t c a) = itS (Sm.pr (.if1 t c a)) from rfl]
  simp [itStep,itOf,itS,Sm.pr,Ex.it,Sm.it_s]
 | .if2 t c a e,b,st=>by
  rw [Sm.flat,List.foldl_append,List.foldl_append,List.foldl_append,Ex.ev c b st,Sm.ev a _ _,Sm.ev e _ _]
  rw [show Sm.it (.if2 t c a e) = itS (Sm.pr (.if2 t c a e)) from rfl]
  simp [itStep,itOf,itS,Sm.pr,Ex.it,Sm.it_s]
 | .while t c a,b,st=>by
  rw [Sm.flat,List.foldl_append,List.foldl_append,Ex.ev c b st,Sm.ev a _ _]
  rw [show Sm.it (.while t c a) = itS (Sm.pr (.while t c a)) from rfl]
  simp [itStep,itOf,itS,Sm.pr,Ex.it,Sm.it_s]
 | .ret _ x,b,st=>by
  rw [Sm.flat,List.foldl_append,Ex.ev x b st]
  simp [itStep,itOf,Sm.it,itS,Sm.pr,Ex.it]
 | .brk _,b,st=>by simp [Sm.flat,itStep,itOf,Sm.it,itS,Sm.pr]
 | .next _,b,st=>by simp [Sm.flat,itStep,itOf,Sm.it,itS,Sm.pr]
 | .block _ l,b,st=>by
  rw [Sm.flat,List.foldl_append,Sm.evs l b st]
  have h1:((List.map Sm.it l).reverse ++ st).take l.length = (List.map Sm.it l).reverse:=by rw [List.take_append_of_le_length (by simp)];exact List.take_of_length_le (by simp)
  have h2:((List.map Sm.it l).reverse ++ st).drop l.length = st:=by rw [List.drop_append_of_le_length (by simp),List.drop_of_length_le (by simp)];rfl
  simp only [List.foldl_cons,List.foldl_nil,itStep,Sm.roots_len',h1,h2,List.reverse_reverse]
  simp [itOf,Sm.it,itS,Sm.pr,← Sm.its]
 | .var _ s ty,b,st=>by simp [Sm.flat,itStep,itOf,Sm.it,itS,Sm.pr]
 | .vari _ s ty x,b,st=>by
  rw [Sm.flat,List.foldl_append,Ex.ev x b st]
  simp [itStep,itOf,Sm.it,itS,Sm.pr,Ex.it]
theorem Sm.evs:∀ (l:List Sm) (b:Nat) (st:List It),(Sm.flats b l).foldl itStep st = (l.map Sm.it).reverse ++ st
 | [],b,st=>rfl
 | x :: l,b,st=>by rw [Sm.flats,List.foldl_append,Sm.ev x b st,Sm.evs l _ _];simp
end
def parIt (p:Par):It:=⟨parS p.2.2 p.2.1 ++ putS [59],parS p.2.2 p.2.1,99,false,false⟩
theorem par_ev:∀ (ps:List Par) (st:List It),(ps.map parNode).foldl itStep st = (ps.map parIt).reverse ++ st
 | [],st=>rfl
 | p :: r,st=>by
  rw [List.map_cons,List.foldl_cons,par_ev r]
  simp [itStep,itOf,parNode,parIt]
theorem Dc.ev (e:Dc) (b:Nat) (st:List It):(e.flat b).foldl itStep st = itS e.pr :: st:=by
 cases e with
 | var _ s=>simp [Dc.flat,itStep,itOf,itS,Dc.pr]
 | array _ s ty n=>simp [Dc.flat,itStep,itOf,itS,Dc.pr]
 | fn _ s ps bat l=>
  rw [Dc.flat,List.foldl_append,List.foldl_append,List.foldl_append,par_ev,Sm.evs]
  have h1 (st:List It):((List.map Sm.it l).reverse ++ st).take l.length = (List.map Sm.it l).reverse:=by rw [List.take_append_of_le_length (by simp)];exact List.take_of_length_le (by simp)
  have h2 (st:List It):((List.map Sm.it l).reverse ++ st).drop l.length = st:=by rw [List.drop_append_of_le_length (by simp),List.drop_of_length_le (by simp)];rfl
  have h3 (st:List It):((ps.map parIt).reverse ++ st).take ps.length = (ps.map parIt).reverse:=by rw [List.take_append_of_le_length (by simp)];exact List.take_of_length_le (by simp)
  have h4 (st:List It):((ps.map parIt).reverse ++ st).drop ps.length = st:=by rw [List.drop_append_of_le_length (by simp),List.drop_of_length_le (by simp)];rfl
  have h5:(ps.map parIt).map It.p = ps.map fun p=>parS p.2.2 p.2.1:=by rw [List.map_map];rfl
  simp only [List.foldl_cons,List.foldl_nil,itStep,Sm.roots_len',h1,h2,List.reverse_reverse,List.length_append,List.length_range',List.length_cons,List.length_nil,List.take_succ_cons,List.drop_succ_cons,h3,h4,Nat.zero_add,List.reverse_cons]
  have h6:(List.map parIt ps ++ [itOf 17 [] 0 0 (List.map Sm.it l)]).take ps.length = List.map parIt ps:=by rw [List.take_append_of_le_length (by simp)];exact List.take_of_length_le (by simp)
  have h7:(List.map parIt ps ++ [itOf 17 [] 0 0 (List.map Sm.it l)]).getD ps.length default = itOf 17 [] 0 0 (List.map Sm.it l):=by
   rw [List.getD_eq_getElem?_getD,List.getElem?_append_right (by simp)];simp
  have h8:(itOf 17 [] 0 0 (List.map Sm.it l)).s = putS [123] ++ Sm.prs l ++ putS [125]:=by simp [itOf,itS,← Sm.its]
  rw [show itOf 22 s 0 (ps.length:Int) (List.map parIt ps ++ [itOf 17 [] 0 0 (List.map Sm.it l)]) = itS (putS [105,110,116] ++ putS s ++ putS [40] ++ joinC (((List.map parIt ps ++ [itOf 17 [] 0 0 (List.map Sm.it l)]).take ps.length).map It.p) ++ putS [41] ++ ((List.map parIt ps ++ [itOf 17 [] 0 0 (List.map Sm.it l)]).getD ps.length default).s) from rfl,h6,h7,h8,h5]
  rfl
theorem Dc.evs:∀ (l:List Dc) (b:Nat) (st:List It),(Dc.flats b l).foldl itStep st = (l.map fun e=>itS e.pr).reverse ++ st
 | [],b,st=>rfl
 | x :: l,b,st=>by rw [Dc.flats,List.foldl_append,Dc.ev x b st,Dc.evs l _ _];simp
theorem all_ev (l:List Dc):(allNodes l).foldl itStep [] = [itS (allPr l)]:=by
 unfold allNodes
 rw [List.foldl_append,Dc.evs]
 have h1:((List.map (fun e:Dc=>itS e.pr) l).reverse).take l.length = (List.map (fun e:Dc=>itS e.pr) l).reverse:=List.take_of_length_le (by simp)
 have h2:((List.map (fun e:Dc=>itS e.pr) l).reverse).drop l.length = []:=List.drop_of_length_le (by simp)
 simp only [List.foldl_cons,List.foldl_nil,itStep,Dc.roots_len',List.append_nil,h1,h2,List.reverse_reverse]
 have h3:(l.map fun e:Dc=>itS e.pr).flatMap It.s = allPr l:=by unfold allPr;rw [List.flatMap_map];rfl
 rw [show itOf 23 [] 0 0 (l.map fun e:Dc=>itS e.pr) = itS ((l.map fun e:Dc=>itS e.pr).flatMap It.s) from rfl,h3]
theorem same_pr {l l2:List Dc} (h:(allNodes l).map Node.strip = (allNodes l2).map Node.strip):allPr l = allPr l2:=by
 have h1:=all_ev l
 rw [← itStep_map,h,itStep_map,all_ev l2] at h1
 have:=(List.cons.inj h1).1
 exact (congrArg It.s this).symm
theorem putS_len (s:List UInt8):(putS s).length = s.length + 1:=by simp [putS]
theorem brack_len (b:Bool) (s:List UInt8):(brack b s).length ≤ s.length + 4:=by
 cases b
 ·simp [brack]
 ·simp [brack,putS]
theorem opName_len (op:Nat):(opName op).length ≤ 2:=by
 unfold opName
 by_cases h:op - 1 < 21
 ·exact (by decide:∀ q < 21,(opNames.getD q []).length ≤ 2) _ h
 ·rw [List.getD_eq_getElem?_getD,List.getElem?_eq_none (by simp [opNames,ops];omega)];decide
theorem joinC_len:∀ {l:List (List UInt8)},(joinC l).length ≤ (l.map fun x=>x.length + 2).sum
 | []=>by simp [joinC]
 | x :: r=>by
  have:∀ r:List (List UInt8),(r.flatMap fun y=>putS [44] ++ y).length = (r.map fun x=>x.length + 2).sum:=by
   intro r
   induction r with
   | nil=>rfl
   | cons y r ih=>simp only [List.flatMap_cons,List.length_append,ih,putS_len,List.map_cons,List.sum_cons,List.length_cons,List.length_nil];omega
  simp only [joinC,List.length_append,this,List.map_cons,List.sum_cons];omega
mutual
theorem Ex.pr_len {len:Nat}:∀ e:Ex,e.good len → e.pr.length + 20 ≤ 300 * e.size
 | .num _ n,h=>by
  have:=Lib.itoa_length_le n (by have:=h.2.1;omega) (by have:=h.2.2;omega)
  simp only [Ex.pr,Ex.size,putS_len];omega
 | .text _ s,h=>by
  have h1:=escS_len s
  have h2:=spc_le s
  have h3:=h.2.1
  simp only [Ex.pr,Ex.size,putS_len,quoteS,List.length_append,List.length_cons,List.length_nil];omega
 | .name _ s,h=>by
  have h3:=h.2.1
  simp only [Ex.pr,Ex.size,putS_len];omega
 | .call _ s l,h=>by
  have h3:=h.2.1.1
  have h4:=Ex.prs_len l h.2.2
  have h5:=joinC_len (l:=Ex.prs l)
  simp only [Ex.pr,Ex.size,putS_len,List.length_append,List.length_cons,List.length_nil];omega
 | .index x i,h=>by
  have h1:=Ex.pr_len x h.1
  have h2:=Ex.pr_len i h.2.1
  have h3:=brack_len x.isUB x.pr
  simp only [Ex.pr,Ex.size,putS_len,List.length_append,List.length_cons,List.length_nil];omega
 | .un _ op x,h=>by
  have h1:=Ex.pr_len x h.2.1
  have h3:=brack_len x.isBin x.pr
  have h4:=opName_len op
  simp only [Ex.pr,Ex.size,putS_len,List.length_append];omega
 | .bin op x y,h=>by
  have h1:=Ex.pr_len x h.1
  have h2:=Ex.pr_len y h.2.1
  have h3:=brack_len (decide (x.lv < level op)) x.pr
  have h4:=opName_len op
  have h5:=brack_len (decide (y.lv ≤ level op)) y.pr
  simp only [Ex.pr,Ex.size,putS_len,List.length_append];omega
theorem Ex.prs_len {len a:Nat}:∀ l:List Ex,Ex.goods len a l → ((Ex.prs l).map fun x=>x.length + 2).sum ≤ 300 * Ex.sizes l
 | [],_=>by simp [Ex.prs,Ex.sizes]
 | x :: l,h=>by
  have h1:=Ex.pr_len x h.1
  have h2:=Ex.prs_len l h.2.2
  simp only [Ex.prs,Ex.sizes,List.map_cons,List.sum_cons];omega
end
theorem parS_len {ty:Int} {s:List UInt8} (h:nameOk s):(parS ty s).length ≤ 22:=by
 have:=h.1
 unfold parS
 split
 ·simp only [putS_len,List.length_append,List.length_cons,List.length_nil];omega
 ·split <;> (simp only [putS_len,List.length_append,List.length_cons,List.length_nil];omega)
mutual
theorem Sm.pr_len {len:Nat}:∀ e:Sm,e.good len → e.pr.length ≤ 300 * e.size
 | .expr _ x,h=>by
  have h1:=Ex.pr_len x h.2.1
  simp only [Sm.pr,Sm.size,putS_len,List.length_append,List.length_cons,List.length_nil];omega
 | .set x y,h=>by
  have h1:=Ex.pr_len x h.1
  have h2:=Ex.pr_len y h.2.1
  simp only [Sm.pr,Sm.size,putS_len,List.length_append,List.length_cons,List.length_nil];omega
 | .if1 _ c a,h=>by
  have h1:=Ex.pr_len c h.2.1
  have h2:=Sm.pr_len a h.2.2.2.1
  simp only [Sm.pr,Sm.size,putS_len,List.length_append,List.length_cons,List.length_nil];omega
 | .if2 _ c a b,h=>by
  have h1:=Ex.pr_len c h.2.1
  have h2:=Sm.pr_len a h.2.2.2.1
  have h3:=Sm.pr_len b h.2.2.2.2.2.1
  simp only [Sm.pr,Sm.size,putS_len,List.length_append,List.length_cons,List.length_nil];omega
 | .while _ c a,h=>by
  have h1:=Ex.pr_len c h.2.1
  have h2:=Sm.pr_len a h.2.2.2.1
  simp only [Sm.pr,Sm.size,putS_len,List.length_append,List.length_cons,List.length_nil];omega
 | .ret _ x,h=>by
  have h1:=Ex.pr_len x h.2.1
  simp only [Sm.pr,Sm.size,putS_len,List.length_append,List.length_cons,List.length_nil];omega
 | .brk _,h=>by simp [Sm.pr,Sm.size,putS_len]
 | .next _,h=>by simp [Sm.pr,Sm.size,putS_len]
 | .block _ l,h=>by
  have h1:=Sm.prs_len l h.2
  simp only [Sm.pr,Sm.size,putS_len,List.length_append,List.length_cons,List.length_nil];omega
 | .var _ s ty,h=>by
  have h1:=parS_len (ty:=ty) h.2.1
  simp only [Sm.pr,Sm.size,putS_len,List.length_append,List.length_cons,List.length_nil];omega
 | .vari _ s ty x,h=>by
  have h1:=parS_len (ty:=ty) h.2.1
  have h2:=Ex.pr_len x h.2.2.2.1
  simp only [Sm.pr,Sm.size,putS_len,List.length_append,List.length_cons,List.length_nil];omega
theorem Sm.prs_len {len a:Nat}:∀ l:List Sm,Sm.goods len a l → (Sm.prs l).length ≤ 300 * Sm.sizes l
 | [],_=>by simp [Sm.prs,Sm.sizes]
 | x :: l,h=>by
  have h1:=Sm.pr_len x h.1
  have h2:=Sm.prs_len l h.2.2
  simp only [Sm.prs,Sm.sizes,List.length_append];omega
end
theorem par_len {len a:Nat}:∀ ps:List Par,(∀ x ∈ ps,a ≤ x.1 ∧ x.1 < len ∧ nameOk x.2.1 ∧ tyOk x.2.2) → ((ps.map fun p=>parS p.2.2 p.2.1).map fun x=>x.length + 2).sum ≤ 300 * ps.length
 | [],_=>by simp
 | p :: r,h=>by
  have h1:=parS_len (ty:=p.2.2) (h p (by simp)).2.2.1
  have h2:=par_len r fun x hx=>h x (List.mem_cons_of_mem _ hx)
  simp only [List.map_cons,List.sum_cons,List.length_cons];omega
theorem Dc.pr_len {len:Nat} (e:Dc) (h:e.good len):e.pr.length ≤ 300 * e.size:=by
 cases e with
 | var _ s=>
  have:=h.2.1
  simp only [Dc.pr,Dc.size,putS_len,List.length_append,List.length_cons,List.length_nil];omega
 | array _ s ty n=>
  have h1:=h.2.1.1
  have h2:=Lib.itoa_length_le n (by have:=h.2.2.2.1;omega) (by have:=h.2.2.2.2;omega)
  have h3:(if ty = 2 then [99,104,97,114] else [105,110,116]:List UInt8).length ≤ 4:=by split <;> simp
  simp only [Dc.pr,Dc.size,putS_len,List.length_append,List.length_cons,List.length_nil];omega
 | fn _ s ps _ l=>
  have h1:=h.2.1.1
  have h2:=joinC_len (l:=ps.map fun p=>parS p.2.2 p.2.1)
  have h3:=par_len ps h.2.2.1
  have h4:=Sm.prs_len l h.2.2.2.2.2.1
  simp only [Dc.pr,Dc.size,putS_len,List.length_append,List.length_cons,List.length_nil];omega
theorem allPr_len {len:Nat}:∀ l:List Dc,(∀ x ∈ l,x.good len) → (allPr l).length ≤ 300 * Dc.sizes l
 | [],_=>by simp [allPr,Dc.sizes]
 | x :: l,h=>by
  have h1:=x.pr_len (h x (by simp))
  have h2:=allPr_len l fun y hy=>h y (List.mem_cons_of_mem _ hy)
  have h3:allPr (x :: l) = x.pr ++ allPr l:=by simp [allPr]
  rw [h3,List.length_append,Dc.sizes];omega
section
variable {tb:Nat} {c2:Option Nat} {len:Nat} {ls:List Dc} {σ0:St}
theorem print_all (hkn:Kn σ0) (hs:Src σ0 tb (allNodes ls)) (htl:(allNodes ls).length ≤ 4096) (hg:∀ x ∈ ls,x.good len):Fw Tryz.prog Lb 8 [.slice (some (tb,0)) (allNodes ls).length c2 6] σ0 (printQ σ0 (allPr ls)):=by
 obtain ⟨nd2,h1,h2⟩:=back hg htl (Nat.le_refl 16400)
 have h3:=allPr_len ls hg
 have h4:Dc.sizes ls + 1 ≤ 4096:=by simpa [allNodes,Dc.flats_len] using htl
 exact print_fn hkn hs htl hg (fun _ _ _=>quote_holds) (by omega) (by decide) h1 h2
theorem back_fn {s:List UInt8} (hk:Kn σ0):Fw Tryz.prog Lb 3 [.str s] σ0 fun r σ'=>r = .ret (.bool true):=by
 refine Fw.enter (fun n=>f3_e) ?_
 simp only [f3_t]
 refine Wp.call (shown_fn hk) (fun v σ1 hv=>?_) fun v σ' hv=>by cases hv.1
 obtain ⟨hv,hu1⟩:=hv
 cases hv
 simp only [xBool_b]
 have hk1:=hk.up hu1
 obtain ⟨o,ho,hc⟩:=parse_tot s
 refine Wp.call (parse_fn hk1 (n:=fuel) (by decide) ho) (fun v σ2 hv=>?_) fun v σ' hv=>?_
 rotate_left
 ·obtain ⟨_,hv⟩:=hv
  split at hv
  ·obtain ⟨_,hv,_⟩:=hv;cases hv
  ·cases hv
 have hu2:=hv.1
 obtain ⟨ad,nn,c,z,e1,e2,rfl,h2⟩:=shape hc hv
 simp only [xTup_t,unC_c,xSl_s,xInt_i,nlC_n]
 rcases h2 with ⟨nd,tb,rfl,rfl,rfl,rfl,rfl,hs⟩ | hne
 rotate_left
 ·exact Wp.pos (by simpa using hne) (Wp.ret rfl)
 refine Wp.neg rfl ?_
 obtain ⟨l,rfl,hg,hl⟩:=hc
 have hk2:=hk1.up hu2
 refine Wp.call (print_all hk2 hs hl hg) (fun v σ3 hv=>?_) fun v σ' hv=>?_
 rotate_left
 ·obtain ⟨_,hv⟩:=hv
  split at hv <;> cases hv
 obtain ⟨hu3,hv⟩:=hv
 by_cases hbig:(allPr l).length > 8192
 ·rw [if_pos hbig] at hv
  cases hv
  simp only [xTup_t,unC_c,xStr_s,xInt_i,nlC_n]
  exact Wp.pos rfl (Wp.pos rfl (Wp.ret rfl))
 rw [if_neg hbig] at hv
 cases hv
 simp only [xTup_t,unC_c,xStr_s,xInt_i,nlC_n]
 refine Wp.neg rfl ?_
 have hk3:=hk2.up hu3
 obtain ⟨nd2,h1,hsame⟩:=back hg hl (n:=20000) (by decide)
 obtain ⟨o2,ho2,hc2⟩:=read_tot (allPr l) (n:=20000) (by omega)
 obtain rfl:=Option.some.inj (h1.symm.trans ho2)
 refine Wp.call (parse_fn hk3 (n:=20000) (by decide) (by unfold parseO;rw [if_neg hbig];exact h1)) (fun v σ4 hv=>?_) fun v σ' hv=>?_
 rotate_left
 ·obtain ⟨_,_,hv,_⟩:=hv;cases hv
 have hu4:=hv.1
 obtain ⟨ad2,nn2,cc2,z2,e12,e22,rfl,h3⟩:=shape hc2 hv
 obtain ⟨_,v4,hv4,hsrc4⟩:=hv
 obtain ⟨l2,rfl,hg2,hl2⟩:=hc2
 obtain ⟨tb2,c4,rfl,hs2⟩:=hsrc4.src (by simp [allNodes])
 cases hv4
 simp only [xTup_t,unC_c,xSl_s,xInt_i,nlC_n]
 refine Wp.call (same9 (ca:=c) (cb:=cc2) (hs.up (hu3.trans hu4)) hs2 hsame (by omega) (kids_le hg hl)) (fun v σ5 hv=>?_) fun v σ' hv=>by cases hv.1
 obtain ⟨hv,rfl⟩:=hv
 cases hv
 simp only [xBool_b]
 have hk5:=hk3.up hu4
 refine Wp.call (print_all (c2:=cc2) hk5 hs2 hl2 hg2) (fun v σ6 hv=>?_) fun v σ' hv=>?_
 rotate_left
 ·obtain ⟨_,hv⟩:=hv
  split at hv <;> cases hv
 obtain ⟨hu6,hv⟩:=hv
 rw [← same_pr hsame,if_neg hbig] at hv
 cases hv
 simp only [xTup_t,unC_c,xStr_s,xInt_i,nlC_n]
 refine Wp.pos rfl (Wp.pos rfl (Wp.pos rfl (Wp.pos rfl ?_)))
 rw [beq_self_eq_true]
 exact Wp.ret rfl
end
end Go.Front

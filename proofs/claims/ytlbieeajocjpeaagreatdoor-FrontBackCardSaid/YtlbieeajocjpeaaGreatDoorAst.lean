/- Trees of sources, and how they lie in a row of nodes. -/
import Derived.Test.YtlbieeajocjpeaaGreatDoorPm
set_option linter.unusedSimpArgs false
set_option linter.unusedVariables false
namespace Go.Front
def Node.strip (x:Node):Node:={ x with at_:=0 }
theorem strip_eq {x y:Node} (h:x.strip = y.strip):x.kind = y.kind ∧ x.text = y.text ∧ x.n = y.n ∧ x.m = y.m ∧ x.kids = y.kids:=by
 unfold Node.strip at h
 simp only [Node.mk.injEq] at h
 exact ⟨h.1,h.2.2.1,h.2.2.2.1,h.2.2.2.2.1,h.2.2.2.2.2⟩
inductive Ex
 | num (at_:Nat) (n:Int)
 | text (at_:Nat) (s:List UInt8)
 | name (at_:Nat) (s:List UInt8)
 | call (at_:Nat) (s:List UInt8) (args:List Ex)
 | index (x i:Ex)
 | un (at_:Nat) (op:Nat) (x:Ex)
 | bin (op:Nat) (x y:Ex)
inductive Sm
 | expr (at_:Nat) (x:Ex)
 | set (x y:Ex)
 | if1 (at_:Nat) (c:Ex) (a:Sm)
 | if2 (at_:Nat) (c:Ex) (a b:Sm)
 | while (at_:Nat) (c:Ex) (a:Sm)
 | ret (at_:Nat) (x:Ex)
 | brk (at_:Nat)
 | next (at_:Nat)
 | block (at_:Nat) (l:List Sm)
 | var (at_:Nat) (s:List UInt8) (ty:Int)
 | vari (at_:Nat) (s:List UInt8) (ty:Int) (x:Ex)
abbrev Par:=Nat × List UInt8 × Int
inductive Dc
 | var (at_:Nat) (s:List UInt8)
 | array (at_:Nat) (s:List UInt8) (ty n:Int)
 | fn (at_:Nat) (s:List UInt8) (ps:List Par) (bat:Nat) (l:List Sm)
def Ex.at_:Ex → Nat
 | .num a _=>a
 | .text a _=>a
 | .name a _=>a
 | .call a _ _=>a
 | .index x _=>x.at_
 | .un a _ _=>a
 | .bin _ x _=>x.at_
mutual
def Ex.size:Ex → Nat
 | .num _ _=>1
 | .text _ _=>1
 | .name _ _=>1
 | .call _ _ l=>Ex.sizes l + 1
 | .index x i=>x.size + i.size + 1
 | .un _ _ x=>x.size + 1
 | .bin _ x y=>x.size + y.size + 1
def Ex.sizes:List Ex → Nat
 | []=>0
 | x :: l=>x.size + Ex.sizes l
end
mutual
theorem Ex.size_pos:∀ e:Ex,0 < e.size
 | .num _ _=>by simp [Ex.size]
 | .text _ _=>by simp [Ex.size]
 | .name _ _=>by simp [Ex.size]
 | .call _ _ l=>by simp [Ex.size]
 | .index x i=>by simp [Ex.size]
 | .un _ _ x=>by simp [Ex.size]
 | .bin _ x y=>by simp [Ex.size]
end
def Ex.roots (b:Nat):List Ex → List Nat
 | []=>[]
 | x :: l=>(b + x.size - 1) :: Ex.roots (b + x.size) l
mutual
def Ex.flat (b:Nat):Ex → List Node
 | .num a n=>[⟨1,a,[],n,0,[]⟩]
 | .text a s=>[⟨2,a,s,0,0,[]⟩]
 | .name a s=>[⟨3,a,s,0,0,[]⟩]
 | .call a s l=>Ex.flats b l ++ [⟨4,a,s,0,0,Ex.roots b l⟩]
 | .index x i=>Ex.flat b x ++ Ex.flat (b + x.size) i ++ [⟨5,x.at_,[],0,0,[b + x.size - 1,b + x.size + i.size - 1]⟩]
 | .un a op x=>Ex.flat b x ++ [⟨6,a,[],op,0,[b + x.size - 1]⟩]
 | .bin op x y=>Ex.flat b x ++ Ex.flat (b + x.size) y ++ [⟨7,x.at_,[],op,0,[b + x.size - 1,b + x.size + y.size - 1]⟩]
def Ex.flats (b:Nat):List Ex → List Node
 | []=>[]
 | x :: l=>Ex.flat b x ++ Ex.flats (b + x.size) l
end
mutual
theorem Ex.flat_len:∀ (e:Ex) (b:Nat),(e.flat b).length = e.size
 | .num _ _,b=>by simp [Ex.flat,Ex.size]
 | .text _ _,b=>by simp [Ex.flat,Ex.size]
 | .name _ _,b=>by simp [Ex.flat,Ex.size]
 | .call _ _ l,b=>by simp [Ex.flat,Ex.size,Ex.flats_len l b]
 | .index x i,b=>by simp [Ex.flat,Ex.size,Ex.flat_len x b,Ex.flat_len i (b + x.size)];omega
 | .un _ _ x,b=>by simp [Ex.flat,Ex.size,Ex.flat_len x b]
 | .bin _ x y,b=>by simp [Ex.flat,Ex.size,Ex.flat_len x b,Ex.flat_len y (b + x.size)];omega
theorem Ex.flats_len:∀ (l:List Ex) (b:Nat),(Ex.flats b l).length = Ex.sizes l
 | [],b=>by simp [Ex.flats,Ex.sizes]
 | x :: l,b=>by simp [Ex.flats,Ex.sizes,Ex.flat_len x b,Ex.flats_len l (b + x.size)]
end
theorem Ex.sizes_app:∀ (l:List Ex) (x:Ex),Ex.sizes (l ++ [x]) = Ex.sizes l + x.size
 | [],x=>by simp [Ex.sizes]
 | y :: l,x=>by simp [Ex.sizes,Ex.sizes_app l x];omega
theorem Ex.flats_app:∀ (l:List Ex) (x:Ex) (b:Nat),Ex.flats b (l ++ [x]) = Ex.flats b l ++ Ex.flat (b + Ex.sizes l) x
 | [],x,b=>by simp [Ex.flats,Ex.sizes]
 | y :: l,x,b=>by simp [Ex.flats,Ex.sizes,Ex.flats_app l x,Nat.add_assoc]
theorem Ex.roots_app:∀ (l:List Ex) (x:Ex) (b:Nat),Ex.roots b (l ++ [x]) = Ex.roots b l ++ [b + Ex.sizes l + x.size - 1]
 | [],x,b=>by simp [Ex.roots,Ex.sizes]
 | y :: l,x,b=>by simp [Ex.roots,Ex.sizes,Ex.roots_app l x,Nat.add_assoc]
def Ex.root (b:Nat):Ex → Node
 | .num a n=>⟨1,a,[],n,0,[]⟩
 | .text a s=>⟨2,a,s,0,0,[]⟩
 | .name a s=>⟨3,a,s,0,0,[]⟩
 | .call a s l=>⟨4,a,s,0,0,Ex.roots b l⟩
 | .index x i=>⟨5,x.at_,[],0,0,[b + x.size - 1,b + x.size + i.size - 1]⟩
 | .un a op x=>⟨6,a,[],op,0,[b + x.size - 1]⟩
 | .bin op x y=>⟨7,x.at_,[],op,0,[b + x.size - 1,b + x.size + y.size - 1]⟩
theorem Ex.flat_root (e:Ex) (b:Nat):(e.flat b)[e.size - 1]? = some (e.root b):=by
 cases e <;> simp [Ex.flat,Ex.size,Ex.root,Ex.flats_len,Ex.flat_len]
theorem Ex.root_at (e:Ex) (b:Nat):(e.root b).at_ = e.at_:=by cases e <;> rfl
mutual
def Sm.size:Sm → Nat
 | .expr _ x=>x.size + 1
 | .set x y=>x.size + y.size + 1
 | .if1 _ c a=>c.size + a.size + 1
 | .if2 _ c a b=>c.size + a.size + b.size + 1
 | .while _ c a=>c.size + a.size + 1
 | .ret _ x=>x.size + 1
 | .brk _=>1
 | .next _=>1
 | .block _ l=>Sm.sizes l + 1
 | .var _ _ _=>1
 | .vari _ _ _ x=>x.size + 1
def Sm.sizes:List Sm → Nat
 | []=>0
 | x :: l=>x.size + Sm.sizes l
end
theorem Sm.size_pos (e:Sm):0 < e.size:=by cases e <;> simp [Sm.size]
def Sm.roots (b:Nat):List Sm → List Nat
 | []=>[]
 | x :: l=>(b + x.size - 1) :: Sm.roots (b + x.size) l
mutual
def Sm.flat (b:Nat):Sm → List Node
 | .expr a x=>x.flat b ++ [⟨10,a,[],0,0,[b + x.size - 1]⟩]
 | .set x y=>x.flat b ++ y.flat (b + x.size) ++ [⟨11,x.at_,[],0,0,[b + x.size - 1,b + x.size + y.size - 1]⟩]
 | .if1 t c a=>c.flat b ++ Sm.flat (b + c.size) a ++ [⟨12,t,[],0,0,[b + c.size - 1,b + c.size + a.size - 1]⟩]
 | .if2 t c a e=>c.flat b ++ Sm.flat (b + c.size) a ++ Sm.flat (b + c.size + a.size) e ++ [⟨12,t,[],0,0,[b + c.size - 1,b + c.size + a.size - 1,b + c.size + a.size + e.size - 1]⟩]
 | .while t c a=>c.flat b ++ Sm.flat (b + c.size) a ++ [⟨13,t,[],0,0,[b + c.size - 1,b + c.size + a.size - 1]⟩]
 | .ret t x=>x.flat b ++ [⟨14,t,[],0,0,[b + x.size - 1]⟩]
 | .brk t=>[⟨15,t,[],0,0,[]⟩]
 | .next t=>[⟨16,t,[],0,0,[]⟩]
 | .block t l=>Sm.flats b l ++ [⟨17,t,[],0,0,Sm.roots b l⟩]
 | .var t s ty=>[⟨18,t,s,0,ty,[]⟩]
 | .vari t s ty x=>x.flat b ++ [⟨18,t,s,0,ty,[b + x.size - 1]⟩]
def Sm.flats (b:Nat):List Sm → List Node
 | []=>[]
 | x :: l=>Sm.flat b x ++ Sm.flats (b + x.size) l
end
mutual
theorem Sm.flat_len:∀ (e:Sm) (b:Nat),(e.flat b).length = e.size
 | .expr _ x,b=>by simp [Sm.flat,Sm.size,Ex.flat_len]
 | .set x y,b=>by simp [Sm.flat,Sm.size,Ex.flat_len];omega
 | .if1 _ c a,b=>by simp [Sm.flat,Sm.size,Ex.flat_len,Sm.flat_len a];omega
 | .if2 _ c a e,b=>by simp [Sm.flat,Sm.size,Ex.flat_len,Sm.flat_len a,Sm.flat_len e];omega
 | .while _ c a,b=>by simp [Sm.flat,Sm.size,Ex.flat_len,Sm.flat_len a];omega
 | .ret _ x,b=>by simp [Sm.flat,Sm.size,Ex.flat_len]
 | .brk _,b=>by simp [Sm.flat,Sm.size]
 | .next _,b=>by simp [Sm.flat,Sm.size]
 | .block _ l,b=>by simp [Sm.flat,Sm.size,Sm.flats_len l]
 | .var _ _ _,b=>by simp [Sm.flat,Sm.size]
 | .vari _ _ _ x,b=>by simp [Sm.flat,Sm.size,Ex.flat_len]
theorem Sm.flats_len:∀ (l:List Sm) (b:Nat),(Sm.flats b l).length = Sm.sizes l
 | [],b=>by simp [Sm.flats,Sm.sizes]
 | x :: l,b=>by simp [Sm.flats,Sm.sizes,Sm.flat_len x b,Sm.flats_len l (b + x.size)]
end
theorem Sm.sizes_app:∀ (l:List Sm) (x:Sm),Sm.sizes (l ++ [x]) = Sm.sizes l + x.size
 | [],x=>by simp [Sm.sizes]
 | y :: l,x=>by simp [Sm.sizes,Sm.sizes_app l x];omega
theorem Sm.flats_app:∀ (l:List Sm) (x:Sm) (b:Nat),Sm.flats b (l ++ [x]) = Sm.flats b l ++ Sm.flat (b + Sm.sizes l) x
 | [],x,b=>by simp [Sm.flats,Sm.sizes]
 | y :: l,x,b=>by simp [Sm.flats,Sm.sizes,Sm.flats_app l x,Nat.add_assoc]
theorem Sm.roots_app:∀ (l:List Sm) (x:Sm) (b:Nat),Sm.roots b (l ++ [x]) = Sm.roots b l ++ [b + Sm.sizes l + x.size - 1]
 | [],x,b=>by simp [Sm.roots,Sm.sizes]
 | y :: l,x,b=>by simp [Sm.roots,Sm.sizes,Sm.roots_app l x,Nat.add_assoc]
def parNode (x:Par):Node:=⟨18,x.1,x.2.1,0,x.2.2,[]⟩
def Dc.size:Dc → Nat
 | .var _ _=>1
 | .array _ _ _ _=>1
 | .fn _ _ ps _ l=>ps.length + Sm.sizes l + 2
def Dc.flat (b:Nat):Dc → List Node
 | .var t s=>[⟨20,t,s,0,1,[]⟩]
 | .array t s ty n=>[⟨21,t,s,n,ty,[]⟩]
 | .fn t s ps bat l=>ps.map parNode ++ (Sm.flats (b + ps.length) l ++ [⟨17,bat,[],0,0,Sm.roots (b + ps.length) l⟩]) ++ [⟨22,t,s,0,ps.length,(List.range' b ps.length) ++ [b + ps.length + Sm.sizes l]⟩]
theorem Dc.size_pos (e:Dc):0 < e.size:=by cases e <;> simp [Dc.size]
theorem Dc.flat_len (e:Dc) (b:Nat):(e.flat b).length = e.size:=by
 cases e <;> simp [Dc.flat,Dc.size,Sm.flats_len];omega
def Dc.sizes:List Dc → Nat
 | []=>0
 | x :: l=>x.size + Dc.sizes l
def Dc.roots (b:Nat):List Dc → List Nat
 | []=>[]
 | x :: l=>(b + x.size - 1) :: Dc.roots (b + x.size) l
def Dc.flats (b:Nat):List Dc → List Node
 | []=>[]
 | x :: l=>Dc.flat b x ++ Dc.flats (b + x.size) l
theorem Dc.flats_len:∀ (l:List Dc) (b:Nat),(Dc.flats b l).length = Dc.sizes l
 | [],b=>by simp [Dc.flats,Dc.sizes]
 | x :: l,b=>by simp [Dc.flats,Dc.sizes,Dc.flat_len x b,Dc.flats_len l (b + x.size)]
theorem Dc.flats_app:∀ (l:List Dc) (x:Dc) (b:Nat),Dc.flats b (l ++ [x]) = Dc.flats b l ++ Dc.flat (b + Dc.sizes l) x
 | [],x,b=>by simp [Dc.flats,Dc.sizes]
 | y :: l,x,b=>by simp [Dc.flats,Dc.sizes,Dc.flats_app l x,Nat.add_assoc]
theorem Dc.roots_app:∀ (l:List Dc) (x:Dc) (b:Nat),Dc.roots b (l ++ [x]) = Dc.roots b l ++ [b + Dc.sizes l + x.size - 1]
 | [],x,b=>by simp [Dc.roots,Dc.sizes]
 | y :: l,x,b=>by simp [Dc.roots,Dc.sizes,Dc.roots_app l x,Nat.add_assoc]
def allNodes (l:List Dc):List Node:=Dc.flats 0 l ++ [⟨23,0,[],0,0,Dc.roots 0 l⟩]
def Ex.lv:Ex → Nat
 | .bin op _ _=>level op
 | _=>99
def Ex.isUB:Ex → Bool
 | .bin _ _ _=>true
 | .un _ _ _=>true
 | _=>false
def Ex.isBin:Ex → Bool
 | .bin _ _ _=>true
 | _=>false
mutual
def Ex.dep:Ex → Nat
 | .num _ _=>1
 | .text _ _=>1
 | .name _ _=>1
 | .call _ _ l=>1 + Ex.deps l
 | .index x i=>max (if x.isUB then 1 + x.dep else x.dep) (1 + i.dep)
 | .un _ _ x=>1 + (if x.isBin then 1 + x.dep else x.dep)
 | .bin op x y=>max (if x.lv < level op then 1 + x.dep else x.dep) (if y.lv < level op + 1 then 1 + y.dep else y.dep)
def Ex.deps:List Ex → Nat
 | []=>0
 | x :: l=>max x.dep (Ex.deps l)
end
def Ex.depL (l:Nat) (e:Ex):Nat:=if e.lv < l then 1 + e.dep else e.dep
def Ex.depO (e:Ex):Nat:=if e.isBin then 1 + e.dep else e.dep
def Ex.depP (e:Ex):Nat:=if e.isUB then 1 + e.dep else e.dep
theorem Ex.depP_index (x i:Ex):(Ex.index x i).depP = max x.depP (1 + i.dep):=rfl
theorem Ex.depO_un (a op:Nat) (x:Ex):(Ex.un a op x).depO = 1 + x.depO:=rfl
theorem Ex.dep_bin (op:Nat) (x y:Ex):(Ex.bin op x y).dep = max (x.depL (level op)) (y.depL (level op + 1)):=rfl
def nameOk (s:List UInt8):Prop:=s.length ≤ 14 ∧ words.contains s = false ∧ ∃ c r,s = c :: r ∧ isLetter c = true ∧ ∀ x ∈ r,isLetter x = true ∨ isDigit x = true
def textOk (s:List UInt8):Prop:=s.length ≤ 100 ∧ ∀ x ∈ s,(32 ≤ x.toNat ∧ x.toNat ≤ 126) ∨ x = 9 ∨ x = 10
mutual
def Ex.good (len:Nat):Ex → Prop
 | .num a n=>a < len ∧ 0 ≤ n ∧ n < 9223372036854775808
 | .text a s=>a < len ∧ textOk s
 | .name a s=>a < len ∧ nameOk s
 | .call a s l=>a < len ∧ nameOk s ∧ Ex.goods len a l
 | .index x i=>x.good len ∧ i.good len ∧ x.at_ ≤ i.at_
 | .un a op x=>a < len ∧ x.good len ∧ a ≤ x.at_ ∧ 1 ≤ op ∧ op ≤ 3
 | .bin op x y=>x.good len ∧ y.good len ∧ x.at_ ≤ y.at_ ∧ 4 ≤ op ∧ op ≤ 21
def Ex.goods (len a:Nat):List Ex → Prop
 | []=>True
 | x :: l=>x.good len ∧ a ≤ x.at_ ∧ Ex.goods len a l
end
theorem Ex.goods_app {len a:Nat}:∀ {l:List Ex} {x:Ex},Ex.goods len a l → x.good len → a ≤ x.at_ → Ex.goods len a (l ++ [x])
 | [],x,_,h1,h2=>⟨h1,h2,trivial⟩
 | y :: l,x,h,h1,h2=>⟨h.1,h.2.1,Ex.goods_app h.2.2 h1 h2⟩
theorem Ex.goods_le {len a a':Nat} (h:a' ≤ a):∀ {l:List Ex},Ex.goods len a l → Ex.goods len a' l
 | [],_=>trivial
 | x :: l,g=>⟨g.1,Nat.le_trans h g.2.1,Ex.goods_le h g.2.2⟩
theorem Ex.goods_all {len a:Nat}:∀ {l:List Ex},Ex.goods len a l → ∀ x ∈ l,x.good len ∧ a ≤ x.at_
 | [],_,x,hx=>by cases hx
 | y :: l,h,x,hx=>by
  cases hx with
  | head=>exact ⟨h.1,h.2.1⟩
  | tail _ hx=>exact Ex.goods_all h.2.2 x hx
theorem Ex.deps_app:∀ (l:List Ex) (x:Ex),Ex.deps (l ++ [x]) = max (Ex.deps l) x.dep
 | [],x=>by simp [Ex.deps]
 | y :: l,x=>by simp [Ex.deps,Ex.deps_app l x,Nat.max_assoc]
theorem Ex.good_at {len:Nat}:∀ {e:Ex},e.good len → e.at_ < len
 | .num _ _,h=>h.1
 | .text _ _,h=>h.1
 | .name _ _,h=>h.1
 | .call _ _ _,h=>h.1
 | .index x _,h=>Ex.good_at (e:=x) h.1
 | .un _ _ _,h=>h.1
 | .bin _ x _,h=>Ex.good_at (e:=x) h.1
def Sm.at_:Sm → Nat
 | .expr a _=>a
 | .set x _=>x.at_
 | .if1 a _ _=>a
 | .if2 a _ _ _=>a
 | .while a _ _=>a
 | .ret a _=>a
 | .brk a=>a
 | .next a=>a
 | .block a _=>a
 | .var a _ _=>a
 | .vari a _ _ _=>a
def Sm.open:Sm → Bool
 | .if1 _ _ _=>true
 | .if2 _ _ _ b=>b.open
 | .while _ _ a=>a.open
 | _=>false
def Ex.isPlace:Ex → Bool
 | .name _ _=>true
 | .index _ _=>true
 | _=>false
mutual
def Sm.dep:Sm → Nat
 | .expr _ x=>1 + x.dep
 | .set x y=>1 + max x.dep y.dep
 | .if1 _ c a=>1 + max c.dep a.dep
 | .if2 _ c a b=>1 + max c.dep (max a.dep b.dep)
 | .while _ c a=>1 + max c.dep a.dep
 | .ret _ x=>1 + x.dep
 | .brk _=>1
 | .next _=>1
 | .block _ l=>1 + Sm.deps l
 | .var _ _ _=>1
 | .vari _ _ _ x=>1 + x.dep
def Sm.deps:List Sm → Nat
 | []=>0
 | x :: l=>max x.dep (Sm.deps l)
end
theorem Sm.deps_app:∀ (l:List Sm) (x:Sm),Sm.deps (l ++ [x]) = max (Sm.deps l) x.dep
 | [],x=>by simp [Sm.deps]
 | y :: l,x=>by simp [Sm.deps,Sm.deps_app l x,Nat.max_assoc]
def tyOk (ty:Int):Prop:=ty = 1 ∨ ty = 2 ∨ ty = 3
mutual
def Sm.good (len:Nat):Sm → Prop
 | .expr a x=>a < len ∧ x.good len ∧ a ≤ x.at_
 | .set x y=>x.good len ∧ y.good len ∧ x.at_ ≤ y.at_ ∧ x.isPlace = true
 | .if1 t c a=>t < len ∧ c.good len ∧ t ≤ c.at_ ∧ a.good len ∧ t ≤ a.at_
 | .if2 t c a b=>t < len ∧ c.good len ∧ t ≤ c.at_ ∧ a.good len ∧ t ≤ a.at_ ∧ b.good len ∧ t ≤ b.at_ ∧ a.open = false
 | .while t c a=>t < len ∧ c.good len ∧ t ≤ c.at_ ∧ a.good len ∧ t ≤ a.at_
 | .ret t x=>t < len ∧ x.good len ∧ t ≤ x.at_
 | .brk t=>t < len
 | .next t=>t < len
 | .block t l=>t < len ∧ Sm.goods len t l
 | .var t s ty=>t < len ∧ nameOk s ∧ tyOk ty
 | .vari t s ty x=>t < len ∧ nameOk s ∧ tyOk ty ∧ x.good len ∧ t ≤ x.at_
def Sm.goods (len a:Nat):List Sm → Prop
 | []=>True
 | x :: l=>x.good len ∧ a ≤ x.at_ ∧ Sm.goods len a l
end
theorem Sm.goods_app {len a:Nat}:∀ {l:List Sm} {x:Sm},Sm.goods len a l → x.good len → a ≤ x.at_ → Sm.goods len a (l ++ [x])
 | [],x,_,h1,h2=>⟨h1,h2,trivial⟩
 | y :: l,x,h,h1,h2=>⟨h.1,h.2.1,Sm.goods_app h.2.2 h1 h2⟩
def Dc.at_:Dc → Nat
 | .var a _=>a
 | .array a _ _ _=>a
 | .fn a _ _ _ _=>a
def Dc.good (len:Nat):Dc → Prop
 | .var a s=>a < len ∧ nameOk s
 | .array a s ty n=>a < len ∧ nameOk s ∧ (ty = 2 ∨ ty = 3) ∧ 0 ≤ n ∧ n < 9223372036854775808
 | .fn a s ps bat l=>a < len ∧ nameOk s ∧ (∀ x ∈ ps,a ≤ x.1 ∧ x.1 < len ∧ nameOk x.2.1 ∧ tyOk x.2.2) ∧ a ≤ bat ∧ bat < len ∧ Sm.goods len bat l ∧ Sm.deps l ≤ 40
end Go.Front

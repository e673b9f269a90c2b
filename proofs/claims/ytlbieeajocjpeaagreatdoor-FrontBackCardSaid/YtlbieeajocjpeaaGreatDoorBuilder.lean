/- What is known beforehand of the library's functions that the program calls. -/
import Derived.Test.YtlbieeajocjpeaaGreatDoorAmLib
import Derived.Test.YtlbieeajocjpeaaGreatDoorShelf
import Derived.Shelf.Strings.Builder1
import Derived.Test.YtlbieeajocjpeaaGreatDoorProg
namespace Go.Proofs
open Go.AM
open Classical
abbrev Ad:=Option (Nat × Nat)
abbrev On:=Option Nat
abbrev By:=List UInt8
def KAsc (ob:Obj):Prop:=∃ ty fr,ob = .cells (Lib.asciiSpaceTab.map fun z=>Value.int .u8 z).toArray ty fr
def KPow (ob:Obj):Prop:=∃ ty fr,ob = .cells (Lib.pow10Tab.map fun z=>Value.int .u64 z).toArray ty fr
def KErr (ob:Obj):Prop:=∃ te pe ty fr,ob = .cells #[.iface te pe] ty fr
def heap0:St:=[.know 0 KAsc,.know 4 KPow,.know 2 KErr,.know 3 KErr]
structure Kn (σ:St):Prop where
 asc:σ[0]? = some (.know 0 KAsc)
 pow:σ[1]? = some (.know 4 KPow)
 syn:σ[2]? = some (.know 2 KErr)
 rng:σ[3]? = some (.know 3 KErr)
theorem Kn.heap0:Kn heap0:=⟨rfl,rfl,rfl,rfl⟩
theorem Kn.len {σ:St} (h:Kn σ):4 ≤ σ.length:=(List.getElem?_eq_some_iff.1 h.rng).1
theorem Kn.app {σ:St} (h:Kn σ) (τ:St):Kn (σ ++ τ):=by
 have hl:=h.len
 refine ⟨?_,?_,?_,?_⟩ <;> rw [List.getElem?_append_left (by omega)]
 ·exact h.asc
 ·exact h.pow
 ·exact h.syn
 ·exact h.rng
noncomputable def lbItoa (args:List AV) (σ:St):Out:=
 match args with
 | [.int .i64 n]=>if σ[(1:Nat)]? = some (.know 4 KPow) ∧ -9223372036854775808 ≤ n ∧ n ≤ 9223372036854775807 then some (.ret (.str (Lib.itoa n)),σ) else none
 | _=>none
noncomputable def lbFormatInt (args:List AV) (σ:St):Out:=
 match args with
 | [.int .i64 n,.int .i64 b]=>if σ[(1:Nat)]? = some (.know 4 KPow) ∧ b = 10 ∧ -9223372036854775808 ≤ n ∧ n ≤ 9223372036854775807 then some (.ret (.str (Lib.itoa n)),σ) else none
 | _=>none
noncomputable def lbParseInt (args:List AV) (σ:St):Out:=
 match args with
 | [.str s,.int .i64 b,.int .i64 w]=>
  if Kn σ ∧ b = 10 ∧ w = 64 ∧ s.length ≤ 281474976710656 then
   match Lib.parseIntB 64 s with
   | .ok v=>some (.ret (.tuple [.int .i64 v,.nilIface]),σ)
   | .syntax=>some (.ret (.tuple [.int .i64 0,.iface 110 (.ptr (some (σ.length,0)))]),σ ++ [.dead])
   | .range=>some (.ret (.tuple [.int .i64 (Lib.intSat 64 s),.iface 110 (.ptr (some (σ.length,0)))]),σ ++ [.dead])
  else none
 | _=>none
noncomputable def lbFields (args:List AV) (σ:St):Out:=
 match args with
 | [.str s]=>
  if Kn σ ∧ s.length < 4294967281 ∧ ∀ b ∈ s,b.toNat < 128 then
   some (.ret (.slice (some (σ.length,0)) (Lib.fields s).length (some (Lib.fields s).length) 1),σ ++ [.cells ((Lib.fields s).map .str) .ro])
  else none
 | _=>none
noncomputable def lbTrim (args:List AV) (σ:St):Out:=
 match args with
 | [.str s,.str [c]]=>if c.toNat < 128 ∧ s.length ≤ 4611686018427387904 then some (.ret (.str (Lib.trimB s c)),σ) else none
 | _=>none
noncomputable def lbIndexByte (args:List AV) (σ:St):Out:=
 match args with
 | [.str s,.int .u8 c]=>some (.ret (.int .i64 (Lib.indexByte s c.toNat.toUInt8)),σ)
 | _=>none
noncomputable def lbCheck (args:List AV) (σ:St):Out:=
 match args with
 | [.ptr (some (b,o))]=>
  match σ[b]? with
  | some (.cells cs (.rw (.box t)))=>
   match cs[o]? with
   | some (.ptr none)=>if liesAt Tryz.prog Tryz.prog.depth t (cs.length / Tryz.prog.cellsOf t) o 55 1 = true then some (.ret (.tuple []),σ.set b (.cells (cs.set o (.ptr (some (b,o)))) (.rw (.box t)))) else none
   | some (.ptr (some p))=>if p = (b,o) then some (.ret (.tuple []),σ) else none
   | _=>none
  | _=>none
 | _=>none
def bytesX:List AV → Option (List UInt8)
 | []=>some []
 | .int .u8 n :: r=>if n = ((UInt8.ofNat n.toNat).toNat:Int) then (match bytesX r with | some l=>some (UInt8.ofNat n.toNat :: l) | none=>none) else none
 | _=>none
theorem bytesX_bytes (l:List UInt8):bytesX (bytesAV l) = some l:=by
 induction l with
 | nil=>rfl
 | cons x l ih=>
  have:bytesAV (x :: l) = .int .u8 x.toNat :: bytesAV l:=rfl
  rw [this]
  simp [bytesX,ih]
noncomputable def lbString (args:List AV) (σ:St):Out:=
 match args with
 | [.ptr (some (b,o))]=>
  match cellsAt σ b with
  | some cs=>
   match cs[o + 1]? with
   | some (.slice none 0 (some 0) _)=>some (.ret (.str []),σ)
   | some (.slice (some (g,s)) n _ z)=>
    if z = 1 ∧ 0 < n ∧ n ≤ 4611686018427387904 then
     match σ[g]? with
     | some (.cells bs (.rw (.row t)))=>
      if t = 5 ∧ s + n ≤ bs.length then
       match bytesX ((bs.drop s).take n) with
       | some l=>some (.ret (.str l),σ.set g (.cells bs .ro))
       | none=>none
      else none
     | _=>none
    else none
   | _=>none
  | none=>none
 | _=>none
noncomputable def lbLoad32 (args:List AV) (σ:St):Out:=
 match args with
 | [.ptr (some (b,o))]=>
  match σ[b]? with
  | some (.cells cs _)=>
   match cs[o]? with
   | some (.int .u32 n)=>some (.ret (.int .u32 n),σ)
   | _=>none
  | _=>none
 | _=>none
noncomputable def lbStore32 (args:List AV) (σ:St):Out:=
 match args with
 | [.ptr (some (b,o)),.int .u32 y]=>
  match σ[b]? with
  | some (.cells cs (.rw m))=>if o < cs.length then some (.ret (.tuple []),σ.set b (.cells (cs.set o (.int .u32 y)) (.rw m))) else none
  | _=>none
 | _=>none
noncomputable def lbWord (x y:Int) (args:List AV) (σ:St):Out:=
 match args with
 | [.ptr (some (b,o))]=>
  match σ[b]? with
  | some (.cells cs (.rw m))=>if cs[o]? = some (.int .i32 x) then some (.ret (.tuple []),σ.set b (.cells (cs.set o (.int .i32 y)) (.rw m))) else none
  | _=>none
 | _=>none
noncomputable def lbCount (args:List AV) (σ:St):Out:=
 match args with
 | [.str s,.int .u8 c]=>some (.ret (.int .i64 (Lib.countByte s c.toNat.toUInt8)),σ)
 | _=>none
noncomputable def Lb:Caller:=fun f args σ=>
 match f with
 | 17=>lbString args σ
 | 28=>lbParseInt args σ
 | 39=>lbFormatInt args σ
 | 51=>lbFields args σ
 | 61=>lbItoa args σ
 | 63=>lbTrim args σ
 | 75=>lbIndexByte args σ
 | 76=>lbCheck args σ
 | 139=>lbLoad32 args σ
 | 140=>lbWord 0 1 args σ
 | 146=>lbWord 1 0 args σ
 | 147=>lbStore32 args σ
 | 202=>lbCount args σ
 | _=>none
end Go.Proofs
namespace Go.Proofs
open Go.Shelf Go.RowKit
variable {P:Program} {ρ:Ren}
theorem lies_bytes {e:TypeId} (hc:P.cellsOf e = 1) (count off n:Nat) (hn:off + n ≤ count):liesAt P P.depth e count off e n = true:=by
 have hd:P.depth = (2 * (P.types.size + Made.depth) + 1) + 1:=rfl
 rw [hd]
 simp only [liesAt,Bool.or_eq_true]
 left
 rw [hd]
 simp [rowAt,hc,hn,sameLayout,Nat.mod_one]
theorem run_string_row (w:World) (pt it ty e:TypeId) (hp:P.underlying pt = some (.pointer e)) (hc:P.cellsOf e = 1) (g q cells:Nat) (hsh:w.shape? g = some (e,cells)) (l:List UInt8) (h0:l ≠ []) (hn:q + l.length ≤ cells) (h63:l.length ≤ 9223372036854775807)
  (hcell:∀ j x,l[j]? = some x → w.cell? ((⟨g,q,none⟩:Addr).add j) = some (.int .u8 x.toNat)) :
  (Builtin.unsafeString_ #[pt,it] ty #[.pointer (some ⟨g,q,none⟩),.int .i64 l.length]).run P w = .ok (.string ⟨l.toArray⟩) (w.freeze ⟨g,q,none⟩ l.length):=by
 have hl:l.length ≠ 0:=by simpa using h0
 have hlb:=Lib.run_loadBytes (P:=P) w l ⟨g,q,none⟩ .empty hcell
 have hlies:=lies_bytes (P:=P) hc (cells / P.cellsOf e) q l.length (by rw [hc];simpa using hn)
 have h63':¬ (9223372036854775807:Int) < (l.length:Int):=by omega
 have hdef:Builtin.unsafeString_ #[pt,it] ty #[.pointer (some ⟨g,q,none⟩),.int .i64 l.length] =
   (do
    let n ← asInt (.int .i64 l.length)
    if n < 0 then runtimePanic (.error "unsafe.String: len out of range")
    if n > IntKind.i64.max then unsupported (.unsafePointer "String: a length above the largest int")
    if n = 0 then pure (.string .empty)
    else if ← variablesAt ⟨g,q,none⟩ (← elemOf pt) n.toNat then do
     let s ← loadBytes ⟨g,q,none⟩ .empty n.toNat
     freeze ⟨g,q,none⟩ n.toNat
     pure (.string s)
    else unsupported (.unsafePointer "String: not so many bytes at ptr")):=rfl
 rw [hdef]
 have hmax:IntKind.i64.max = 9223372036854775807:=rfl
 have hneg:¬ (l.length:Int) < 0:=by omega
 simp [asInt,asIntOf,hmax,h63',hneg,hl,variablesAt,hsh,elemOf,run_underlying hp,hlies,hlb]
theorem builder_size:(Tryz.prog.info? 55).map (·.size) = some 2:=by kernel_rfl
set_option maxHeartbeats 1000000 in
set_option maxRecDepth 100000 in
theorem check_used (b o:Nat) (w:World) (h0:w.cell? ⟨b,o,none⟩ = some (.pointer (some ⟨b,o,none⟩))) :
  Calls Tryz.prog 76 #[.pointer (some ⟨b,o,none⟩)] w fun e w'=>e = .returned (.tuple #[]) ∧ w' = w:=by
 obtain ⟨j,hj,_⟩:=Option.map_eq_some_iff.1 builder_size
 have mixed:Tryz.prog.follows .mixedOrders = true:=by kernel_rfl
 have t72:=Tryz.underlying55;have a72:=Tryz.isAgg55;have z72:=Tryz.sizeOf55;have v72:=Tryz.zeroValue55;have u72:=run_underlying Tryz.underlying55
 have t70:=Tryz.underlying52;have a70:=Tryz.isAgg52;have z70:=Tryz.sizeOf52;have v70:=Tryz.zeroValue52;have u70:=run_underlying Tryz.underlying52
 have t4:=Tryz.underlying4;have a4:=Tryz.isAgg4;have z4:=Tryz.sizeOf4;have v4:=Tryz.zeroValue4;have u4:=run_underlying Tryz.underlying4
 have t164:=Tryz.underlying139;have a164:=Tryz.isAgg139;have z164:=Tryz.sizeOf139;have v164:=Tryz.zeroValue139;have u164:=run_underlying Tryz.underlying139
 go_enter Tryz.func76,Tryz.ntmps76
 go_wp2
 rw [Lib.run_neq_ptr_same w _ Tryz.underlying52 hj]
 go_wp2
 go_end0
 exact ⟨rfl,rfl⟩
set_option maxHeartbeats 1000000 in
set_option maxRecDepth 100000 in
theorem check_fresh (b o:Nat) (t:TypeId) (cells:Nat) (w:World) (h0:w.cell? ⟨b,o,none⟩ = some (.pointer none)) (hsh:w.shape? b = some (t,cells)) (ho:o < cells)
  (hlies:liesAt Tryz.prog Tryz.prog.depth t (cells / Tryz.prog.cellsOf t) o 55 1 = true) (hfz:w.frozen? ⟨b,o,none⟩ = false) :
  Calls Tryz.prog 76 #[.pointer (some ⟨b,o,none⟩)] w fun e w'=>e = .returned (.tuple #[]) ∧ w' = w.setCell ⟨b,o,none⟩ (.pointer (some ⟨b,o,none⟩)):=by
 obtain ⟨j,hj,hjs⟩:=Option.map_eq_some_iff.1 builder_size
 have mixed:Tryz.prog.follows .mixedOrders = true:=by kernel_rfl
 have t72:=Tryz.underlying55;have a72:=Tryz.isAgg55;have z72:=Tryz.sizeOf55;have v72:=Tryz.zeroValue55;have u72:=run_underlying Tryz.underlying55
 have t70:=Tryz.underlying52;have a70:=Tryz.isAgg52;have z70:=Tryz.sizeOf52;have v70:=Tryz.zeroValue52;have u70:=run_underlying Tryz.underlying52
 have t4:=Tryz.underlying4;have a4:=Tryz.isAgg4;have z4:=Tryz.sizeOf4;have v4:=Tryz.zeroValue4;have u4:=run_underlying Tryz.underlying4
 have t164:=Tryz.underlying139;have a164:=Tryz.isAgg139;have z164:=Tryz.sizeOf139;have v164:=Tryz.zeroValue139;have u164:=run_underlying Tryz.underlying139
 go_enter Tryz.func76,Tryz.ntmps76
 go_wp2
 rw [Lib.run_to_unsafe w ⟨b,o,none⟩ Tryz.underlying52 Tryz.underlying139 hj (by rw [hjs];decide) hsh ho]
 simp only [Result.andThen]
 rw [Oper.upon_value]
 go_wp2
 rw [run_callFunc_extern Tryz.func102 (by kernel_rfl) (by kernel_rfl) (by kernel_rfl) (e:=Extern.AbiNoEscape.same) (by kernel_rfl)]
 rw [Lib.run_noEscape]
 simp only [Result.andThen]
 rw [Oper.upon_value]
 go_wp2
 rw [Lib.run_from_unsafe w ⟨b,o,none⟩ Tryz.underlying139 Tryz.underlying52 hj hsh hlies]
 simp only [Result.andThen]
 rw [Oper.upon_value]
 go_wp2
 go_end0
 exact ⟨rfl,rfl⟩
set_option maxHeartbeats 2000000 in
set_option maxRecDepth 100000 in
theorem string_some (L:Lays.n169 P ρ) (X:Builder.Extra P ρ) (b o g s cap cells:Nat) (l:List UInt8) (w:World) (h0:l ≠ []) (hcap:l.length ≤ cap)
  (hb:w.cell? ⟨b,o + 1,none⟩ = some (.slice (some ⟨g,s,none⟩) l.length cap)) (hsh:w.shape? g = some (ρ.t 5,cells)) (hn:s + l.length ≤ cells) (h63:l.length ≤ 9223372036854775807)
  (hcell:∀ j x,l[j]? = some x → w.cell? ((⟨g,s,none⟩:Addr).add j) = some (.int .u8 x.toNat)) :
  Calls P (ρ.f 169) #[.pointer (some ⟨b,o,none⟩)] w fun e w'=>e = .returned (.string ⟨l.toArray⟩) ∧ w' = w.drew.freeze ⟨g,s,none⟩ l.length:=by
 have hl0:l.length ≠ 0:=by simpa using h0
 have c1:w.drew.cell? ⟨b,o + 1,none⟩ = some (.slice (some ⟨g,s,none⟩) l.length cap):=hb
 have hSD:(Builtin.unsafeSliceData_ #[(ρ.t 37)] (ρ.t 127) #[.slice (some ⟨g,s,none⟩) l.length cap]).run P w.drew = .ok (.pointer (some ⟨g,s,none⟩)) w.drew:=
  Lib.run_unsafeSliceData_row _ _ _ _ _ _ (by omega)
 have hUS:(Builtin.unsafeString_ #[(ρ.t 127),(ρ.t 3)] (ρ.t 9) #[.pointer (some ⟨g,s,none⟩),.int .i64 l.length]).run P w.drew = .ok (.string ⟨l.toArray⟩) (w.drew.freeze ⟨g,s,none⟩ l.length):=
  run_string_row w.drew (ρ.t 127) (ρ.t 3) (ρ.t 9) (ρ.t 5) L.t127 X.cellsByte g s cells hsh l h0 hn h63 hcell
 have mixed:=L.mixed
 have t72:=L.t72;have a72:=L.a72;have z72:=L.z72;have v72:=L.v72;have u72:=run_underlying L.t72
 have t70:=L.t70;have a70:=L.a70;have z70:=L.z70;have v70:=L.v70;have u70:=run_underlying L.t70
 have t37:=L.t37;have a37:=L.a37;have z37:=L.z37;have v37:=L.v37;have u37:=run_underlying L.t37
 have t127:=L.t127;have a127:=L.a127;have z127:=L.z127;have v127:=L.v127;have u127:=run_underlying L.t127
 have t3:=L.t3;have a3:=L.a3;have z3:=L.z3;have v3:=L.v3;have u3:=run_underlying L.t3
 have t9:=L.t9;have a9:=L.a9;have z9:=L.z9;have v9:=L.v9;have u9:=run_underlying L.t9
 have t5:=X.t5;have a5:=X.a5;have z5:=X.z5;have v5:=X.v5;have u5:=run_underlying X.t5
 clear hb hcell
 go_enter L.f169,Body.n169_ntmps ρ
 go_wp2
 go_region_o
 all_goals (go_wp2;go_ret;exact ⟨rfl,rfl⟩)
set_option maxHeartbeats 2000000 in
set_option maxRecDepth 100000 in
theorem string_none (L:Lays.n169 P ρ) (X:Builder.Extra P ρ) (b o:Nat) (w:World) (hb:w.cell? ⟨b,o + 1,none⟩ = some (.slice none 0 0)) :
  Calls P (ρ.f 169) #[.pointer (some ⟨b,o,none⟩)] w fun e w'=>e = .returned (.string ⟨#[]⟩) ∧ w' = w.drew:=by
 have hUS:=Any.unsafeString_none L X
 have c1:w.drew.cell? ⟨b,o + 1,none⟩ = some (.slice none 0 0):=hb
 have hSD:(Builtin.unsafeSliceData_ #[(ρ.t 37)] (ρ.t 127) #[.slice none 0 0]).run P w.drew = .ok (.pointer none) w.drew:=rfl
 have mixed:=L.mixed
 have t72:=L.t72;have a72:=L.a72;have z72:=L.z72;have v72:=L.v72;have u72:=run_underlying L.t72
 have t70:=L.t70;have a70:=L.a70;have z70:=L.z70;have v70:=L.v70;have u70:=run_underlying L.t70
 have t37:=L.t37;have a37:=L.a37;have z37:=L.z37;have v37:=L.v37;have u37:=run_underlying L.t37
 have t127:=L.t127;have a127:=L.a127;have z127:=L.z127;have v127:=L.v127;have u127:=run_underlying L.t127
 have t3:=L.t3;have a3:=L.a3;have z3:=L.z3;have v3:=L.v3;have u3:=run_underlying L.t3
 have t9:=L.t9;have a9:=L.a9;have z9:=L.z9;have v9:=L.v9;have u9:=run_underlying L.t9
 have t5:=X.t5;have a5:=X.a5;have z5:=X.z5;have v5:=X.v5;have u5:=run_underlying X.t5
 clear hb
 go_enter L.f169,Body.n169_ntmps ρ
 go_wp2
 go_region_o
 all_goals (go_wp2;go_ret;exact ⟨rfl,rfl⟩)
end Go.Proofs

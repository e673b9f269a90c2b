/- The first heap: what the rows' listed variables and the world's shape give. -/
import Derived.Test.YtidammkjfdonaaaDoorLbOk
import Derived.Test.YtidammkjfdonaaaDoorRows
import Derived.Lib.LaidTab
import Derived.LaidLaws
import Derived.LaidHandle
import Derived.MakeChecks
import Derived.Shelf.Vars
import Derived.Lay
namespace Go.Proofs.YtidammkjfdonaaaDoor
open Go.AM Go.RowKit

theorem laidVars_at {P : Program} {w : World} {n : String} {d : DataW Unit} : ∀ {l : List (String × DataW Unit)} {ps : List MemPlace}, DataW.LaidVars P w l ps → (n, d) ∈ l →
    ∃ g t cs fuel p, P.globalNamed n = some g ∧ (P.globals[g]?).map (·.type) = some t ∧ w.var? P n = some cs ∧ DataW.trod (fun _ => ()) P w 0 (fun _ => true) false fuel t cs.toList = some (d, p)
  | [], _, _, hm => by cases hm
  | (n', d') :: r, ps, h, hm => by
    obtain ⟨g, t, cs, fuel, p, q, h1, h2, h3, h4, h5, _⟩ := h
    rcases List.mem_cons.1 hm with he | hm
    · cases he; exact ⟨g, t, cs, fuel, p, h1, h2, h3, h4⟩
    · exact laidVars_at h5 hm

theorem heap_of_var {P : Program} {w : World} {n : String} {g : Nat} {cs : Array Value} (hg : P.globalNamed n = some g) (h : w.var? P n = some cs) : ∃ ty fr, w.heap[g]? = some (.cells cs ty fr) := by
  unfold World.var? at h
  rw [hg] at h
  simp only [Option.bind_some] at h
  split at h
  · rename_i c ty fr hh; cases h; exact ⟨ty, fr, hh⟩
  · cases h

theorem tab_at {P : Program} {w : World} {n : String} {k : IntKind} {zs : List Int} {l : List (String × DataW Unit)} {g : Nat} {t e : TypeId} {m : Nat} (hl : laidMet P l w) (hm : (n, Lib.tabData k zs) ∈ l)
    (hg : P.globalNamed n = some g) (hty : (P.globals[g]?).map (·.type) = some t) (ht : P.underlying t = some (.array m e)) (he : P.underlying e = some (.int k)) (hce : P.cellsOf e = 1) (hct : P.cellsOf t = m) :
    ∃ ty fr, w.heap[g]? = some (.cells (zs.map fun z => Value.int k z).toArray ty fr) := by
  obtain ⟨ps, hv, _⟩ := hl
  obtain ⟨g', t', cs, fuel, p, h1, h2, h3, h4⟩ := laidVars_at hv hm
  obtain rfl := Option.some.inj (hg.symm.trans h1)
  obtain rfl := Option.some.inj (hty.symm.trans h2)
  have := Lib.cells_of_tab ht he hce hct h4
  have hcs : cs = (zs.map fun z => Value.int k z).toArray := by rw [← this]
  subst hcs
  exact heap_of_var hg h3

theorem err_at {P : Program} {w : World} {n nm : String} {d : DataW Unit} {l : List (String × DataW Unit)} {g : Nat} {t : TypeId} {ms : Array (String × TypeId)} (hl : laidMet P l w) (hm : (n, DataW.iface nm d) ∈ l)
    (hg : P.globalNamed n = some g) (hty : (P.globals[g]?).map (·.type) = some t) (ht : P.underlying t = some (.interface ms)) :
    ∃ te pe ty fr, w.heap[g]? = some (.cells #[.iface te pe] ty fr) := by
  obtain ⟨ps, hv, _⟩ := hl
  obtain ⟨g', t', cs, fuel, p, h1, h2, h3, h4⟩ := laidVars_at hv hm
  obtain rfl := Option.some.inj (hg.symm.trans h1)
  obtain rfl := Option.some.inj (hty.symm.trans h2)
  obtain ⟨_, u, v, hc, _, _⟩ := iface_of_trod ht h4
  have hcs : cs = #[.iface u v] := arr_of hc
  subst hcs
  obtain ⟨ty, fr, h⟩ := heap_of_var hg h3
  exact ⟨u, v, ty, fr, h⟩

theorem max_at {w : World} (h : w.ShapedOpen Tryd.prog) : ∃ m cs ty fr, w.heap[1]? = some (.cells cs ty fr) ∧ cs[0]? = some (.int .i64 m) := by
  obtain ⟨m, hm⟩ := cell_of_shapedOpen_int (P := Tryd.prog) (g := 1) (t := 3) (zero := #[.int .i64 0]) (k := .i64) h (of_decide_eq_true (by kernel_rfl)) (by kernel_rfl) rfl (by kernel_rfl) (by kernel_rfl) (by kernel_rfl)
  unfold World.cell? at hm
  split at hm
  · rename_i c ty fr hh; exact ⟨m, c, ty, fr, hh, by simpa using hm⟩
  · cases hm

theorem heap0_of {w : World} (hl : laidMetH Tryd.prog Rows.instWordsRow.laid w) (hs : w.ShapedOpen Tryd.prog) : ∃ μ0 : Emb, R μ0 heap0 w ∧ μ0.ro := by
  rw [MakeChecks.laidMetH_plain _ _ _ (by kernel_rfl)] at hl
  have hasc : Rows.laid_strings_asciiSpace (H := Unit) = Lib.tabData .u8 Lib.asciiSpaceTab := by kernel_rfl
  have hpow : Rows.laid_internal_strconv_uint64pow10 (H := Unit) = Lib.tabData .u64 Lib.pow10Tab := by kernel_rfl
  obtain ⟨ty0, fr0, h0⟩ := tab_at (n := "strings.asciiSpace") (g := 0) (t := 119) (e := 5) (m := 256) hl (by rw [← hasc]; simp [Rows.instWordsRow]) (by kernel_rfl) (by kernel_rfl) (by kernel_rfl) (by kernel_rfl) (by kernel_rfl) (by kernel_rfl)
  obtain ⟨m, cs, ty1, fr1, h1, hm⟩ := max_at hs
  obtain ⟨ty3, fr3, h3⟩ := tab_at (n := "internal/strconv.uint64pow10") (g := 3) (t := 139) (e := 90) (m := 20) hl (by rw [← hpow]; simp [Rows.instWordsRow]) (by kernel_rfl) (by kernel_rfl) (by kernel_rfl) (by kernel_rfl) (by kernel_rfl) (by kernel_rfl)
  obtain ⟨te4, pe4, ty4, fr4, h4⟩ := err_at (n := "strconv.ErrSyntax") (g := 4) (t := 101) hl (.tail _ (.tail _ (.tail _ (.tail _ (.head _))))) (by kernel_rfl) (by kernel_rfl) Tryd.underlying101
  obtain ⟨te5, pe5, ty5, fr5, h5⟩ := err_at (n := "strconv.ErrRange") (g := 5) (t := 101) hl (.tail _ (.tail _ (.tail _ (.head _)))) (by kernel_rfl) (by kernel_rfl) Tryd.underlying101
  have r0 := (R.none w).know (p := KAsc) (fun b e h => by cases h) h0 ⟨ty0, fr0, rfl⟩
  have r1 := r0.1.know (p := KMax) r0.2 h1 ⟨m, cs, ty1, fr1, rfl, hm⟩
  have r2 := r1.1.know (p := KPow) r1.2 h3 ⟨ty3, fr3, rfl⟩
  have r3 := r2.1.know (p := KErr) r2.2 h4 ⟨te4, pe4, ty4, fr4, rfl⟩
  have r4 := r3.1.know (p := KErr) r3.2 h5 ⟨te5, pe5, ty5, fr5, rfl⟩
  exact ⟨_, r4.1, r4.2⟩

end Go.Proofs.YtidammkjfdonaaaDoor

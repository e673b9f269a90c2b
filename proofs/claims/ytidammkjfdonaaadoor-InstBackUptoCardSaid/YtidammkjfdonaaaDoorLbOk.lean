/- What is known of the library's functions beforehand is so: out of the shelf's contracts. -/
import Derived.Test.YtidammkjfdonaaaDoorLb
import Derived.Test.YtidammkjfdonaaaDoorT38
import Derived.Test.YtidammkjfdonaaaDoorChecked
namespace Go.Proofs
open Go.AM Go.RowKit Go.Sort

section
variable {μ : Emb} {σ : St} {w : World} {args : List AV} {args' : Array Value} {out : Res × St}

theorem arr_of {l : List Value} (h : args'.toList = l) : args' = l.toArray := by subst h; simp

theorem args1 {x : AV} (h : VRels μ [x] args'.toList) : ∃ v, args' = #[v] ∧ VRel μ x v := by
  generalize hl : args'.toList = l at h
  cases h with
  | cons _ v _ _ h r => cases r; exact ⟨v, arr_of hl, h⟩
theorem args2 {x y : AV} (h : VRels μ [x, y] args'.toList) : ∃ v u, args' = #[v, u] ∧ VRel μ x v ∧ VRel μ y u := by
  generalize hl : args'.toList = l at h
  cases h with
  | cons _ v _ _ h r => cases r with | cons _ u _ _ h' r => cases r; exact ⟨v, u, arr_of hl, h, h'⟩
theorem args3 {x y z : AV} (h : VRels μ [x, y, z] args'.toList) : ∃ v u t, args' = #[v, u, t] ∧ VRel μ x v ∧ VRel μ y u ∧ VRel μ z t := by
  generalize hl : args'.toList = l at h
  cases h with
  | cons _ v _ _ h r => cases r with | cons _ u _ _ h' r => cases r with | cons _ t _ _ h'' r => cases r; exact ⟨v, u, t, arr_of hl, h, h', h''⟩

theorem str_val {s : List UInt8} {v : Value} (h : VRel μ (.str s) v) : v = .string ⟨s.toArray⟩ := by cases h; rfl
theorem int_val {k : IntKind} {n : Int} {v : Value} (h : VRel μ (.int k n) v) : v = .int k n := by cases h; rfl

theorem vs2 {x y : AV} {v u : Value} (h : VRel μ x v) (h' : VRel μ y u) : VRel μ (.tuple [x, y]) (.tuple #[v, u]) := .tuple _ _ (.cons _ _ _ _ h (.cons _ _ _ _ h' .nil))
theorem vs3 {x y z : AV} {v u t : Value} (h : VRel μ x v) (h' : VRel μ y u) (h'' : VRel μ z t) : VRel μ (.tuple [x, y, z]) (.tuple #[v, u, t]) := .tuple _ _ (.cons _ _ _ _ h (.cons _ _ _ _ h' (.cons _ _ _ _ h'' .nil)))

theorem lbCutPrefix_ok (h : lbCutPrefix args σ = some out) (hR : R μ σ w) (ha : VRels μ args args'.toList) : Calls Tryd.prog 40 args' w (EndR μ w out) := by
  unfold lbCutPrefix at h
  split at h
  · rename_i s p
    cases h
    obtain ⟨v, u, rfl, hv, hu⟩ := args2 ha
    cases str_val hv; cases str_val hu
    refine (Tryd.strings_CutPrefix ⟨s.toArray⟩ ⟨p.toArray⟩ w).mono fun e w' ⟨he, hw⟩ => ?_
    subst he; subst hw
    exact end_pure hR (Below.refl _ _) (vs2 (.str _) (.bool _))
  · cases h

theorem lb_drewN (w : World) : ∀ n, Below w.heap.size w (w.drewN n)
  | 0 => Below.refl _ _
  | n + 1 => (lb_drewN w n).drew
theorem lb_grow (w : World) (k : Nat) (os : Array Obj) : Below w.heap.size w (grow (w.drewN k) os) := by
  have h := lb_drewN w k
  refine ⟨h.os, h.tape, h.output, ?_, fun j hj => ?_⟩
  · have := h.size
    simp only [grow, Array.size_append]; omega
  · rw [← h.block j hj]
    have := h.size
    simp only [grow]
    rw [Array.getElem?_append_left (by omega)]

theorem lbCut_ok (h : lbCut args σ = some out) (hR : R μ σ w) (ha : VRels μ args args'.toList) : Calls Tryd.prog 36 args' w (EndR μ w out) := by
  unfold lbCut at h
  split at h
  · rename_i s sep
    split at h
    · rename_i hc
      cases h
      obtain ⟨v, u, rfl, hv, hu⟩ := args2 ha
      cases str_val hv; cases str_val hu
      obtain ⟨ob, hob, m, cs, ty, fr, rfl, hm⟩ := hR.knows hc.1.max
      refine (Tryd.strings_Cut ⟨s.toArray⟩ ⟨sep.toArray⟩ m w hc.2 (by simp [World.cell?, hob, hm])).mono fun e w' ⟨he, n, hw⟩ => ?_
      subst he; subst hw
      exact end_pure hR (lb_drewN _ _) (vs3 (.str _) (.str _) (.bool _))
    · cases h
  · cases h

theorem tab_of {g : Nat} {nm : String} {k : IntKind} {zs : List Int} {ob : Obj} (hg : Tryd.prog.globalNamed nm = some g) (hob : w.heap[g]? = some ob) (hp : ∃ ty fr, ob = .cells (zs.map fun z => Value.int k z).toArray ty fr) :
    Lib.TabIs Tryd.prog w nm k zs := by
  obtain ⟨ty, fr, rfl⟩ := hp
  unfold Lib.TabIs World.var?
  rw [hg]
  simp [hob]

theorem pow_name : Tryd.prog.globalNamed "internal/strconv.uint64pow10" = some 3 := by kernel_rfl
theorem asc_name : Tryd.prog.globalNamed "strings.asciiSpace" = some 0 := by kernel_rfl

theorem lbItoa_ok (h : lbItoa args σ = some out) (hR : R μ σ w) (ha : VRels μ args args'.toList) : Calls Tryd.prog 63 args' w (EndR μ w out) := by
  unfold lbItoa at h
  split at h
  · rename_i n
    split at h
    · rename_i hc
      cases h
      obtain ⟨v, rfl, hv⟩ := args1 ha
      cases int_val hv
      obtain ⟨ob, hob, hp⟩ := hR.knows hc.1.pow
      refine (Tryd.strconv_Itoa n hc.2.1 hc.2.2 w (tab_of pow_name hob hp)).mono fun e w' ⟨he, k, os, hw⟩ => ?_
      subst he; subst hw
      exact end_pure hR (lb_grow _ _ _) (.str _)
    · cases h
  · cases h

theorem lbFormatInt_ok (h : lbFormatInt args σ = some out) (hR : R μ σ w) (ha : VRels μ args args'.toList) : Calls Tryd.prog 52 args' w (EndR μ w out) := by
  unfold lbFormatInt at h
  split at h
  · rename_i n b
    split at h
    · rename_i hc
      cases h
      obtain ⟨v, u, rfl, hv, hu⟩ := args2 ha
      cases int_val hv; cases int_val hu
      obtain ⟨ob, hob, hp⟩ := hR.knows hc.1.pow
      obtain ⟨_, rfl, h0, h1⟩ := hc
      refine (Tryd.strconv_FormatInt_10 n h0 h1 w (tab_of pow_name hob hp)).mono fun e w' ⟨he, k, os, hw⟩ => ?_
      subst he; subst hw
      exact end_pure hR (lb_grow _ _ _) (.str _)
    · cases h
  · cases h

theorem lb_alloc (w : World) (o : Obj) : Below w.heap.size w (w.alloc o) := (Below.refl _ w).alloc (Nat.le_refl _) o

theorem strs_rels {μ : Emb} (l : List (List UInt8)) : VRels μ (l.map .str) (l.map fun s => Value.string ⟨s.toArray⟩) := by
  induction l with
  | nil => exact .nil
  | cons x l ih => exact .cons _ _ _ _ (.str _) ih

theorem lbFields_ok (h : lbFields args σ = some out) (hR : R μ σ w) (ha : VRels μ args args'.toList) : Calls Tryd.prog 59 args' w (EndR μ w out) := by
  unfold lbFields at h
  split at h
  · rename_i s
    split at h
    · rename_i hc
      cases h
      obtain ⟨v, rfl, hv⟩ := args1 ha
      cases str_val hv
      obtain ⟨ob, hob, hp⟩ := hR.knows hc.1.asc
      refine (Tryd.strings_Fields ⟨s.toArray⟩ w hc.2.1 (fun j b hj => hc.2.2 b (List.mem_of_getElem? hj)) (tab_of asc_name hob hp)).mono fun e w' ⟨he, hw⟩ => ?_
      subst he; subst hw
      refine end_more hR (lb_alloc _ _) (e := ⟨w.heap.size, 0, (Lib.fields s).length, false⟩) (Nat.le_refl _) (by rw [(Grew.alloc w _).size]; exact Nat.lt_succ_self _) ?_ ?_
      · refine ⟨_, _, _, (Grew.alloc w _).new, ?_, by simp, by simp, fun t h => by cases h⟩
        refine CRel.of_rels ?_ (by simp [AV.one])
        simpa using strs_rels _
      · exact .slice σ.length 0 ⟨w.heap.size, 0, (Lib.fields s).length, false⟩ _ (some _) 1 _ _ (push_self _ _ _) ⟨rfl, rfl⟩ (fun _ => rfl) (by simp) (fun c' h => by cases h; rfl) (Nat.le_refl _)
    · cases h
  · cases h

theorem lbParseInt_ok (h : lbParseInt args σ = some out) (hR : R μ σ w) (ha : VRels μ args args'.toList) : Calls Tryd.prog 55 args' w (EndR μ w out) := by
  unfold lbParseInt at h
  split at h
  · rename_i s b wd
    split at h
    · rename_i hc
      obtain ⟨v, u, t, rfl, hv, hu, ht⟩ := args3 ha
      cases str_val hv; cases int_val hu; cases int_val ht
      obtain ⟨hk, rfl, rfl, hl⟩ := hc
      have hl' : (⟨s.toArray⟩ : ByteArray).size ≤ 281474976710656 := hl
      split at h
      · rename_i v hp
        cases h
        refine (Tryd.strconv_ParseInt_10_at64_ok ⟨s.toArray⟩ (by omega) v hp w).mono fun e w' ⟨he, hw⟩ => ?_
        subst he
        refine end_pure hR ?_ (vs2 (.int _ _) .niface)
        rcases hw with rfl | ⟨t, rfl⟩
        · exact Below.refl _ _
        · exact ⟨rfl, rfl, rfl, by rw [Lib.bytesWorld_size]; omega, fun k hk => Lib.bytesWorld_at_old _ _ _ _ hk⟩
      · rename_i hp
        cases h
        obtain ⟨ob, hob, te, pe, ty, fr, rfl⟩ := hR.knows hk.syn
        refine (Tryd.strconv_ParseInt_10_at64_syntax ⟨s.toArray⟩ hl' hp _ w (by simp [World.cell?, hob]) (.inr ⟨te, pe, rfl⟩)).mono fun e w' ⟨N, he, hN, hh, hb⟩ => ?_
        subst he
        have hlt : N < w'.heap.size := (Array.getElem?_eq_some_iff.1 hh).1
        exact end_more hR hb (o := .dead) (e := ⟨N, 0, 0, false⟩) hN hlt trivial (vs2 (.int _ _) (.iface _ _ _ (.ptr _ _ _ (push_self _ _ _))))
      · rename_i hp
        cases h
        obtain ⟨ob, hob, te, pe, ty, fr, rfl⟩ := hR.knows hk.rng
        refine (Tryd.strconv_ParseInt_10_at64_range ⟨s.toArray⟩ hl' hp _ w (by simp [World.cell?, hob]) (.inr ⟨te, pe, rfl⟩)).mono fun e w' ⟨N, he, hN, hh, hb⟩ => ?_
        subst he
        have hlt : N < w'.heap.size := (Array.getElem?_eq_some_iff.1 hh).1
        exact end_more hR hb (o := .dead) (e := ⟨N, 0, 0, false⟩) hN hlt trivial (vs2 (.int _ _) (.iface _ _ _ (.ptr _ _ _ (push_self _ _ _))))
    · cases h
  · cases h

theorem Tryd.pok : POk Tryd.prog := pok_of (by kernel_rfl) (by kernel_rfl) (by kernel_rfl)

theorem strsOf_length : ∀ {cs : List AV} {xs : List (List UInt8)}, strsOf cs = some xs → xs.length = cs.length
  | [], xs, h => by simp [strsOf] at h; subst h; rfl
  | x :: r, xs, h => by
    cases x with
    | str s =>
      simp only [strsOf] at h
      split at h
      · rename_i l hl; cases h; simp [strsOf_length hl]
      · cases h
    | _ => simp [strsOf] at h

theorem lbJoin_ok (h : lbJoin args σ = some out) (hR : R μ σ w) (ha : VRels μ args args'.toList) : Calls Tryd.prog 32 args' w (EndR μ w out) := by
  unfold lbJoin at h
  split at h
  · rename_i n c z sep
    cases h
    obtain ⟨v, u, rfl, hv, hu⟩ := args2 ha
    cases str_val hu
    cases hv
    refine (Tryd.strings_Join_none none 0 ⟨sep.toArray⟩ w).mono fun e w' ⟨he, hw⟩ => ?_
    subst he; subst hw
    exact end_pure hR (Below.refl _ _) (.str [])
  · rename_i b o n cap sz sep
    split at h
    · rename_i hc
      obtain ⟨rfl, hn⟩ := hc
      split at h
      · rename_i cs hcs
        split at h
        · rename_i hl
          split at h
          · rename_i xs hxs
            split at h
            · rename_i hj
              cases h
              obtain ⟨v, u, rfl, hv, hu⟩ := args2 ha
              cases str_val hu
              have hv0 := hv
              have hxl := strsOf_length hxs
              cases hv with
              | slice _ _ en _ _ _ ad c he hha ha' hcc hcap hlen =>
                obtain ⟨vs, g1, g2, g3, g4⟩ := slice_cells hR hv0 hcs (m := n) (by omega) hl
                have hvs := strsOf_rel hxs g2
                have hxn : xs.length = n := by rw [hxl]; simp; omega
                rcases Nat.eq_zero_or_pos n with h0 | hpos
                · subst h0
                  have : xs = [] := by cases xs; rfl; simp at hxn
                  subst this
                  refine (Tryd.strings_Join_none (some ad) c ⟨sep.toArray⟩ w).mono fun e w' ⟨he, hw⟩ => ?_
                  subst he; subst hw
                  exact end_pure hR (Below.refl _ _) (.str [])
                · have had := ha' (by omega)
                  subst had
                  have hmap : (xs.map fun s => (⟨s.toArray⟩ : ByteArray)).map (·.data.toList) = xs := by
                    rw [List.map_map]
                    conv => rhs; rw [← List.map_id xs]
                    exact List.map_congr_left fun x _ => rfl
                  have hblk : en.blk < w.heap.size := hR.lt _ _ he
                  have hcall := Tryd.strings_Join en.blk (en.off + o) c (xs.map fun s => (⟨s.toArray⟩ : ByteArray)) ⟨sep.toArray⟩ w
                    (fun j x hj => by
                      have hj' : vs[j]? = some (.string x) := by
                        rw [hvs]
                        rw [List.getElem?_map] at hj ⊢
                        cases hq : xs[j]? with
                        | none => rw [hq] at hj; cases hj
                        | some y => rw [hq] at hj; cases hj; rfl
                      have := g3 j _ hj'
                      rwa [addr_add] at this) hblk (by simpa [hxn] using hn) (by simp [hxn]; exact hlen) (by rw [hmap]; exact hj)
                  rw [List.length_map, hxn, hmap] at hcall
                  refine hcall.mono fun e w' ⟨he, hb⟩ => ?_
                  subst he
                  exact end_pure hR hb (.str _)
            · cases h
          · cases h
        · cases h
      · cases h
    · cases h
  · cases h

theorem sep_call (x : Nat) : callP Tryd.prog noLib 1 38 [.int .i32 (x : Int)] [] = some (.ret (.bool (sepP x)), []) := by
  refine g38_e.some ?_
  unfold g38_t sepP
  have e (n : Nat) : (((x : Int) == (n : Int))) = (x == n) := by
    by_cases h : x = n
    · subst h; simp
    · have h2 : ((x : Int) == (n : Int)) = false := by rw [beq_eq_false_iff_ne]; omega
      have h3 : (x == n) = false := by rw [beq_eq_false_iff_ne]; exact h
      rw [h2, h3]
  have e1 : ((x : Int) == (44 : Int)) = (x == 44) := e 44
  have e2 : ((x : Int) == (32 : Int)) = (x == 32) := e 32
  have e3 : ((x : Int) == (40 : Int)) = (x == 40) := e 40
  have e4 : ((x : Int) == (41 : Int)) = (x == 41) := e 41
  rw [e1, e2, e3, e4]
  cases x == 44 <;> cases x == 32 <;> cases x == 40 <;> simp

theorem sep_grows (w : World) : PredGrows Tryd.prog 38 #[] sepP w := by
  intro W x _ _
  obtain ⟨_, hc⟩ := callP_sound Tryd.pok noLib_ok 1 _ _ _ _ (sep_call x)
  refine (hc (fun _ => none) W #[.int .i32 (x : Int)] (R.none W) (.cons _ _ _ _ (.int _ _) .nil)).mono fun e w' ⟨μ', _, _, hfr, v, he, hv⟩ => ?_
  cases hv
  subst he
  exact ⟨rfl, ⟨hfr.os, hfr.tape, hfr.output, hfr.size, fun k hk => hfr.keep k hk fun b e hb _ => by cases hb⟩⟩

theorem enter38 (args : Array Value) (w : World) : (callFunc 38 args).run Tryd.prog w = .ok (.enter 38 args) w := by
  have hn := Tryd.pok.call 38 Tryd.f38 Tryd.func38 (by kernel_rfl)
  have hb : Tryd.f38.body.isNone = false := by kernel_rfl
  simp [callFunc, Tryd.func38, hn]
  intro h0; rw [h0] at hb; cases hb

theorem lbFieldsFunc_ok (h : lbFieldsFunc args σ = some out) (hR : R μ σ w) (ha : VRels μ args args'.toList) : Calls Tryd.prog 37 args' w (EndR μ w out) := by
  unfold lbFieldsFunc at h
  split at h
  · rename_i s
    split at h
    · rename_i hl
      cases h
      obtain ⟨v, u, rfl, hv, hu⟩ := args2 ha
      cases str_val hv
      cases hu with
      | func _ _ _ l' c' h1 h2 =>
        have e1 : l' = #[] := by generalize hq : l'.toList = q at h1; cases h1; exact arr_of hq
        have e2 : c' = #[] := by generalize hq : c'.toList = q at h2; cases h2; exact arr_of hq
        subst e1; subst e2
        have hwl : (wordsOf s).length = (Lib.goFieldsP sepP ⟨s.toArray⟩).length := by simp [wordsOf]
        refine (Tryd.strings_FieldsFunc_grows 38 #[] enter38 sepP ⟨s.toArray⟩ w hl (sep_grows w)).mono fun e w' ⟨A, he, hA, hown, hb⟩ => ?_
        subst he
        obtain ⟨_, hcase⟩ := hown
        rcases hcase with ⟨hbad, _⟩ | ⟨g, cap, cur, hv, _, hh, hcap, _, hcs, htake⟩
        · cases hbad
        · cases hv
          have hlt : A < w'.heap.size := (Array.getElem?_eq_some_iff.1 hh).1
          have hcur : cur.toList = (Lib.goFieldsP sepP ⟨s.toArray⟩).map Value.string := by
            rw [← htake, List.take_of_length_le]
            simp [hcs]
          rw [hwl]
          refine end_more hR hb (e := ⟨A, 0, (Lib.goFieldsP sepP ⟨s.toArray⟩).length, false⟩) hA hlt ?_ ?_
          · refine ⟨cur, _, _, hh, CRel.of_rels ?_ (by simp [AV.one]), by simp [wordsOf], by simp [hcs], fun t h => by cases h⟩
            rw [hcur]
            have e3 : ((Lib.goFieldsP sepP ⟨s.toArray⟩).map Value.string) = (wordsOf s).map fun s => Value.string ⟨s.toArray⟩ := by
              simp [wordsOf]
            rw [e3]
            exact strs_rels _
          · exact .slice σ.length 0 ⟨A, 0, _, false⟩ _ (some _) 1 _ _ (push_self _ _ _) ⟨rfl, rfl⟩ (fun _ => rfl) (by simp) (fun c' h => by cases h; rfl) (Nat.le_refl _)
    · cases h
  · cases h

theorem hasBody (f : Nat) {fn : Func} (h : Tryd.prog.funcs[f]? = some fn) (hb : fn.body.isSome = true) : ∃ fn, Tryd.prog.funcs[f]? = some fn ∧ fn.body.isSome = true := ⟨fn, h, hb⟩

end

theorem Lb_ok : CallOk Tryd.prog Lb := by
  intro f args σ out h
  unfold Lb at h
  split at h
  · exact ⟨hasBody 32 Tryd.func32 (by kernel_rfl), fun μ w args' hR ha => lbJoin_ok h hR ha⟩
  · exact ⟨hasBody 36 Tryd.func36 (by kernel_rfl), fun μ w args' hR ha => lbCut_ok h hR ha⟩
  · exact ⟨hasBody 37 Tryd.func37 (by kernel_rfl), fun μ w args' hR ha => lbFieldsFunc_ok h hR ha⟩
  · exact ⟨hasBody 40 Tryd.func40 (by kernel_rfl), fun μ w args' hR ha => lbCutPrefix_ok h hR ha⟩
  · exact ⟨hasBody 52 Tryd.func52 (by kernel_rfl), fun μ w args' hR ha => lbFormatInt_ok h hR ha⟩
  · exact ⟨hasBody 55 Tryd.func55 (by kernel_rfl), fun μ w args' hR ha => lbParseInt_ok h hR ha⟩
  · exact ⟨hasBody 59 Tryd.func59 (by kernel_rfl), fun μ w args' hR ha => lbFields_ok h hR ha⟩
  · exact ⟨hasBody 63 Tryd.func63 (by kernel_rfl), fun μ w args' hR ha => lbItoa_ok h hR ha⟩
  · cases h

end Go.Proofs

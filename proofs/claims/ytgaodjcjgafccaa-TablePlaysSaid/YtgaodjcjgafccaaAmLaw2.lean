/- Arguments that are structs with slices in them. -/
import Derived.Test.YtgaodjcjgafccaaAmLaw
namespace Go.AM
open Go.ChangeShapes Go.WideShapes Go.ChangeAt Go.RowKit

def sliceF (P : Program) (n : Nat) (f : Field) : Bool :=
  match P.underlying f.type with
  | some (.slice e) => flatT P n e && decide (0 < P.cellsOf e) && (P.cellsOf f.type == 1)
  | _ => false
def okF (P : Program) (n : Nat) (f : Field) : Bool := sliceF P n f || flatT P n f.type
def okS (P : Program) (n : Nat) (t : TypeId) : Bool :=
  match P.underlying t with
  | some (.struct fs) => fs.toList.all (okF P n) && contig P fs.toList 0 (P.cellsOf t) && (match P.cellTypes P.depth t with
    | some ts => (ts.length == P.cellsOf t) && fs.toList.all (fun f => !sliceF P n f || (ts[f.offset]? == some f.type))
    | none => false)
  | _ => false

section
variable {H : Type}

def absF (P : Program) : List Field → List (DataW H) → St → List AV × St
  | f :: r, d :: ds, σ => match P.underlying f.type with
    | some (.slice _) => ((absArg P f.type d σ).1 :: (absF P r ds (absArg P f.type d σ).2).1, (absF P r ds (absArg P f.type d σ).2).2)
    | _ => (avs d ++ (absF P r ds σ).1, (absF P r ds σ).2)
  | _, _, σ => ([], σ)

def ArgD2 (P : Program) (n : Nat) (t : TypeId) (d : DataW H) : Prop :=
  if okS P n t = true then (match P.underlying t with
    | some (.struct fs) => ∃ ds, d = .agg ds ∧ All2 (fun (f : Field) d => ArgD P n f.type d) fs.toList ds
    | _ => False) else ArgD P n t d

def absArg2 (P : Program) (n : Nat) (t : TypeId) (d : DataW H) (σ : St) : AV × St :=
  if okS P n t = true then (match P.underlying t, d with
    | some (.struct fs), .agg ds => (.agg (absF P fs.toList ds σ).1, (absF P fs.toList ds σ).2)
    | _, _ => (.nilFunc, σ)) else absArg P t d σ

end

section
variable {H : Type} {enc : TypeId × Value → H} {P : Program} {w : World}

theorem arg_fields {n b0 fuel : Nat} {cs : List Value} : ∀ (fl : List Field) (off : Nat) (xs : List (DataW H × List MemPlace)) (μ : Emb) (σ : St), contig P fl off cs.length = true → fl.all (okF P n) = true →
    (∀ f ∈ fl, sliceF P n f = true → ∃ v, cs[f.offset]? = some v ∧ Cell.okWide P w .any b0 f.type v) →
    (fl.mapM fun f => DataW.trod enc P w 0 (fun _ => true) true fuel f.type ((cs.drop f.offset).take (P.cellsOf f.type))) = some xs → R μ σ w → μ.ro →
    ∃ μ', All2 (fun (f : Field) d => ArgD P n f.type d) fl (xs.map (·.1)) ∧ R μ' (absF P fl (xs.map (·.1)) σ).2 w ∧ μ.le μ' ∧ μ'.ro ∧ VRels μ' (absF P fl (xs.map (·.1)) σ).1 (cs.drop off)
  | [], off, xs, μ, σ, hc, _, _, h, hR, hro => by
    simp [contig] at hc
    simp at h; subst h
    exact ⟨μ, trivial, by simpa [absF] using hR, μ.le_refl, hro, by simp [absF, hc]; exact .nil⟩
  | f :: r, off, xs, μ, σ, hc, hf, hs, h, hR, hro => by
    obtain ⟨⟨d, p⟩, bs, h1, h2, rfl⟩ := mapM_cons_some h
    simp only [contig, Bool.and_eq_true, beq_iff_eq] at hc
    simp only [List.all_cons, Bool.and_eq_true] at hf
    have hle := contig_le _ _ _ hc.2
    have hoff := hc.1
    by_cases hsl : sliceF P n f = true
    · obtain ⟨v, hv, hok⟩ := hs f (by simp) hsl
      have hsl' := hsl
      unfold sliceF at hsl'
      split at hsl'
      · rename_i e hu
        simp only [Bool.and_eq_true, decide_eq_true_eq, beq_iff_eq] at hsl'
        have hone : (cs.drop f.offset).take (P.cellsOf f.type) = [v] := by
          rw [hsl'.2, List.take_one, List.head?_drop, hv]; rfl
        have hvw : Value.okWide P w .any b0 f.type v := by simp only [Value.okWide, hu]; exact hok
        have hvc : v.cells.toList = [v] := by
          simp only [Cell.okWide, hu, Cell.ok] at hok
          cases v <;> first | (simp at hok; done) | rfl
        have hT : DataW.Trod enc P w 0 (fun _ => true) true f.type v d p := ⟨fuel, by rw [hvc, ← hone]; exact h1⟩
        obtain ⟨μ1, a1, a2, a3, a4, a5⟩ := arg_slice hu hsl'.1.1 hsl'.1.2 hvw hT hR hro
        obtain ⟨μ2, b1, b2, b3, b4, b5⟩ := arg_fields r _ bs μ1 _ hc.2 hf.2 (fun f hf => hs f (by simp [hf])) h2 a2 a4
        refine ⟨μ2, ⟨a1, b1⟩, ?_, Emb.le_trans a3 b3, b4, ?_⟩
        · simp only [List.map_cons, absF, hu]; exact b2
        · simp only [List.map_cons, absF, hu]
          have hcs : cs.drop off = v :: cs.drop (off + P.cellsOf f.type) := by
            rw [hsl'.2, ← hoff]
            obtain ⟨hlt, he⟩ := List.getElem?_eq_some_iff.1 hv
            rw [List.drop_eq_getElem_cons hlt, he]
          rw [hcs]
          exact .cons _ _ _ _ (a5.mono b3) b5
      · cases hsl'
    · have hfl : flatT P n f.type = true := by
        have := hf.1
        simp only [okF, Bool.or_eq_true] at this
        rcases this with h | h
        · exact absurd h hsl
        · exact h
      have hu : ∀ e, P.underlying f.type ≠ some (.slice e) := by
        intro e he
        cases n with
        | zero => simp [flatT] at hfl
        | succ n => unfold flatT at hfl; rw [he] at hfl; cases hfl
      rw [hoff] at h1
      obtain ⟨a1, a2, a3, a4⟩ := flat_trod (μ := μ) n fuel f.type _ d p hfl (by simp; omega) h1
      obtain ⟨μ2, b1, b2, b3, b4, b5⟩ := arg_fields r _ bs μ σ hc.2 hf.2 (fun f hf => hs f (by simp [hf])) h2 hR hro
      have hA : ArgD P n f.type d := by
        unfold ArgD
        split
        · rename_i e he; exact absurd he (hu e)
        · exact a1
      have hF : absF P (f :: r) (d :: bs.map (·.1)) σ = (avs d ++ (absF P r (bs.map (·.1)) σ).1, (absF P r (bs.map (·.1)) σ).2) := by
        rw [absF]
        split
        · rename_i e he; exact absurd he (hu _)
        · rfl
      refine ⟨μ2, ⟨hA, b1⟩, ?_, b3, b4, ?_⟩
      · rw [List.map_cons, hF]; exact b2
      · rw [List.map_cons, hF]
        have := (a2.mono b3).append b5
        rw [← List.drop_drop, List.take_append_drop] at this
        exact this

theorem arg_struct {n : Nat} {t : TypeId} {v : Value} {d : DataW H} {ps : List MemPlace} {μ : Emb} {σ : St} (hS : okS P n t = true) {b0 : Nat} (hv : Value.okWide P w .any b0 t v)
    (h : DataW.Trod enc P w 0 (fun _ => true) true t v d ps) (hR : R μ σ w) (hro : μ.ro) :
    ∃ μ', ArgD2 P n t d ∧ R μ' (absArg2 P n t d σ).2 w ∧ μ.le μ' ∧ μ'.ro ∧ VRel μ' (absArg2 P n t d σ).1 v := by
  obtain ⟨fuel, h⟩ := h
  have hS0 := hS
  unfold okS at hS
  split at hS
  · rename_i fs hu
    simp only [Bool.and_eq_true] at hS
    obtain ⟨⟨h1, h2⟩, h3⟩ := hS
    split at h3
    · rename_i ts hts
      simp only [Bool.and_eq_true, beq_iff_eq] at h3
      simp only [Value.okWide, hu] at hv
      obtain ⟨cs, rfl, hcs, ts', hts', _, hcell⟩ := hv
      rw [hts] at hts'; cases hts'
      cases fuel with
      | zero => simp [DataW.trod] at h
      | succ fuel =>
      have h0 : DataW.trod enc P w 0 (fun _ => true) true (fuel + 1) t cs.toList = some (d, ps) := h
      clear h
      unfold DataW.trod at h0
      rw [hu] at h0
      simp only at h0
      have hlen : cs.toList.length = P.cellsOf t := by simpa using hcs
      have h' : ((fs.toList.mapM fun f => DataW.trod enc P w 0 (fun _ => true) true fuel f.type ((cs.toList.drop f.offset).take (P.cellsOf f.type))).map fun xs => (DataW.agg (xs.map (·.1)), xs.flatMap (·.2))) = some (d, ps) := by
        rw [if_pos hlen] at h0; exact h0
      simp only [Option.map_eq_some_iff] at h'
      obtain ⟨xs, hxs, he⟩ := h'
      cases he
      have hf : ∀ f ∈ fs.toList, sliceF P n f = true → ∃ v, cs.toList[f.offset]? = some v ∧ Cell.okWide P w .any b0 f.type v := by
        intro f hf hsl
        have := List.all_eq_true.1 h3.2 f hf
        rw [hsl] at this
        simp only [Bool.not_true, Bool.false_or, beq_iff_eq] at this
        obtain ⟨hlt, he⟩ := List.getElem?_eq_some_iff.1 this
        have hlt2 : f.offset < cs.size := by omega
        refine ⟨cs[f.offset], by simp [hlt2], ?_⟩
        obtain ⟨u, hu1, hu2⟩ := hcell f.offset cs[f.offset] (by simp [hlt2])
        rw [Nat.mod_eq_of_lt hlt, this] at hu1
        cases hu1
        exact hu2
      obtain ⟨μ', a1, a2, a3, a4, a5⟩ := arg_fields (n := n) (b0 := b0) fs.toList 0 xs μ σ (by rw [hlen]; exact h2) h1 hf hxs hR hro
      refine ⟨μ', ?_, ?_, a3, a4, ?_⟩
      · simp only [ArgD2, hS0, if_true, hu]; exact ⟨_, rfl, a1⟩
      · simp only [absArg2, hS0, if_true, hu]; exact a2
      · simp only [absArg2, hS0, if_true, hu]; exact .agg _ _ (by simpa using a5)
    · cases h3
  · cases hS

def absArgs2 (P : Program) (n : Nat) : List TypeId → List (DataW H) → St → List AV × St
  | t :: ts, d :: ds, σ => ((absArg2 P n t d σ).1 :: (absArgs2 P n ts ds (absArg2 P n t d σ).2).1, (absArgs2 P n ts ds (absArg2 P n t d σ).2).2)
  | _, _, σ => ([], σ)

theorem args_abs2 {n b0 : Nat} : ∀ {ts : List TypeId} {vs : List Value} {ds : List (DataW H)} {ps : List MemPlace} {μ : Emb} {σ : St}, (∀ t ∈ ts, (okS P n t || okT P n t) = true) →
    (∀ (j : Nat) t v, ts[j]? = some t → vs[j]? = some v → Value.okWide P w .any b0 t v) → DataW.TrodAll enc P w 0 (fun _ => true) true ts vs ds ps → R μ σ w → μ.ro →
    ∃ μ', All2 (ArgD2 P n) ts ds ∧ R μ' (absArgs2 P n ts ds σ).2 w ∧ μ.le μ' ∧ μ'.ro ∧ VRels μ' (absArgs2 P n ts ds σ).1 vs
  | [], [], [], _, μ, σ, _, _, _, hR, hro => ⟨μ, trivial, hR, μ.le_refl, hro, .nil⟩
  | t :: ts, v :: vs, d :: ds, _, μ, σ, ht, hv, hT, hR, hro => by
    obtain ⟨p, q, h1, h2, _⟩ := hT
    have ht0 := ht t (by simp)
    have hv0 := hv 0 t v (by simp) (by simp)
    have key : ∃ μ', ArgD2 P n t d ∧ R μ' (absArg2 P n t d σ).2 w ∧ μ.le μ' ∧ μ'.ro ∧ VRel μ' (absArg2 P n t d σ).1 v := by
      by_cases hS : okS P n t = true
      · exact arg_struct hS hv0 h1 hR hro
      · have ht1 : okT P n t = true := by
          simp only [Bool.or_eq_true] at ht0
          rcases ht0 with h | h
          · exact absurd h hS
          · exact h
        simp only [ArgD2, absArg2, if_neg hS]
        unfold okT at ht1
        split at ht1
        · rename_i e hu
          simp only [Bool.and_eq_true, decide_eq_true_eq] at ht1
          exact arg_slice hu ht1.1 ht1.2 hv0 h1 hR hro
        · rename_i hn
          obtain ⟨a1, a2, a3⟩ := arg_flat (μ := μ) (σ := σ) (fun e he => hn e he) ht1 hv0 h1
          exact ⟨μ, a1, by rw [a3]; exact hR, μ.le_refl, hro, a2⟩
    obtain ⟨μ1, a1, a2, a3, a4, a5⟩ := key
    obtain ⟨μ2, b1, b2, b3, b4, b5⟩ := args_abs2 (fun t h => ht t (by simp [h])) (fun j t v h h' => hv (j + 1) t v (by simpa using h) (by simpa using h')) h2 a2 a4
    exact ⟨μ2, ⟨a1, b1⟩, b2, Emb.le_trans a3 b3, b4, .cons _ _ _ _ (a5.mono b3) b5⟩
  | [], _ :: _, _, _, _, _, _, _, h, _, _ => by simp [DataW.TrodAll] at h
  | _ :: _, [], _, _, _, _, _, _, h, _, _ => by simp [DataW.TrodAll] at h
  | _ :: _, _ :: _, [], _, _, _, _, _, h, _, _ => by simp [DataW.TrodAll] at h
  | [], [], _ :: _, _, _, _, _, _, h, _, _ => by simp [DataW.TrodAll] at h

theorem calls_true2 {f : Nat} {args : Array Value} {ts : List TypeId} {ds : List (DataW H)} {ps : List MemPlace} {k b0 : Nat} (hP : POk P) (ht : ∀ t ∈ ts, (okS P k t || okT P k t) = true)
    (hv : ∀ (j : Nat) t v, ts[j]? = some t → args[j]? = some v → Value.okWide P w .any b0 t v) (hT : DataW.TrodAll enc P w 0 (fun _ => true) true ts args.toList ds ps)
    (hc : All2 (ArgD2 P k) ts ds → ∃ n σ', callP P n f (absArgs2 P k ts ds []).1 (absArgs2 P k ts ds []).2 = some (.ret (.bool true), σ')) :
    Calls P f args w fun e w' => e = .returned (.bool true) ∧ Below w.heap.size w w' := by
  obtain ⟨μ, h1, h2, _, h4, h5⟩ := args_abs2 ht (fun j t v h h' => hv j t v h (by simpa using h')) hT (R.none w) (fun b e h => by cases h)
  obtain ⟨n, σ', hn⟩ := hc h1
  obtain ⟨_, hcall⟩ := callP_sound hP n _ _ _ _ hn
  refine (hcall μ w args h2 h5).mono fun e w' he => ?_
  obtain ⟨μ', _, _, hfr, v, rfl, hvr⟩ := he
  cases hvr
  exact ⟨rfl, ⟨hfr.os, hfr.tape, hfr.output, hfr.size, fun k hk => hfr.keep k hk fun b e hb hw => by rw [h4 b e hb] at hw; cases hw⟩⟩

end

/-- A row that says 'true, and the input as it was', from what the machine answers; arguments: flat ones, slices, structs with slices. -/
theorem lifted_true2 {H : Type} {enc : TypeId × Value → H} {a : Assume} {C : Checked} {os : Os} {f k tb : Nat} {fn : Func} {s : ChangeSpec} {conds : List PathCond} {apart : Bool}
    (own : ownKnob C.prog.godebug = none) (started : os.Started) (noInit : C.prog.inits.idxOf? f = none) (hfn : C.prog.funcs[f]? = some fn)
    (witness : ∃ (w : World) (tape : Tape) (i : Input), w.os = os ∧ (w.forCall tape i).Shaped C.prog ∧ i.vars = [] ∧ Input.okWide C.prog (w.forCall tape i) .any w.heap.size f i ∧
      s.pre6 enc C.prog fn conds apart (w.forCall tape i).memory i.args ∧ a.holds C.prog (lone (Frame.enter C.prog f i.args .normal) [] (w.forCall tape i)))
    (hvars : s.vars = []) (hres : fn.resultTypes = #[tb]) (hb : C.prog.underlying tb = some .bool) (hl : laidOutB C.prog = true) (hP : POk C.prog)
    (hts : ∀ t ∈ fn.params.toList, (okS C.prog k t || okT C.prog k t) = true ∧ C.prog.readableRec t = true ∧ t < C.prog.types.size)
    (hs : ∀ ds : List (DataW H), ds.length = fn.params.toList.length → s.fn H ds = { results := [.lit (.bool true)], args := ds })
    (hc : ∀ ds : List (DataW H), All2 (ArgD2 C.prog k) fn.params.toList ds → (DataW.weightsEach C.prog fn.params.toList ds).all (· ≤ reachBytes) = true →
      ∃ n σ', callP C.prog n f (absArgs2 C.prog k fn.params.toList ds []).1 (absArgs2 C.prog k fn.params.toList ds []).2 = some (.ret (.bool true), σ')) :
    ReturnsInHanded a C os f .any (s.pre6 enc C.prog fn conds apart) (s.post enc C.prog fn apart true false false) := by
  refine returnsInHanded_of_change_sized own started noInit hfn witness ?_
  intro W base args ds gs before hval hW _ hz _
  have hW' := hW
  obtain ⟨p, q, hA, hV, rfl, hfz, hnd⟩ := hW
  rw [hvars] at hV
  obtain ⟨rfl, rfl⟩ : gs = [] ∧ q = [] := by
    cases gs with
    | nil => exact ⟨rfl, hV⟩
    | cons g gs => simp [DataW.TrodVars] at hV
  simp only [List.append_nil] at *
  have hvt : s.plain.varTypes C.prog = [] := by simp [ChangeSpec.plain, DataSpec.varTypes, hvars]
  rw [hvt, List.append_nil] at hz
  refine (calls_true2 hP (fun t ht => (hts t ht).1) (fun j t v h h' => hval j t v (by simpa using h) h') hA (fun hd => hc ds hd hz)).mono fun e W' ⟨he, hbelow⟩ => ?_
  have hfn2 := hs ds (trod_len hA)
  rw [← List.append_nil ds] at hfn2
  refine ⟨_, he, ds, [], p, [], p, [], hW', ?_, ?_, ?_, hbelow.frame _, fun h => by cases h⟩
  · rw [hfn2, hres]
    exact trodAll_mk1 (shut_bool hb true)
  · rw [hfn2]
    simp only [List.append_nil]
    refine trodAll_below hl hbelow (fun t ht => (hts t ht).2) hA ?_
    intro x hx
    exact hW'.lt x hx
  · rw [hfn2, hvars]
    rfl

end Go.AM

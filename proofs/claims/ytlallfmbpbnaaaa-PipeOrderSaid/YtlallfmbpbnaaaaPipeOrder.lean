/- The row of PipeOrder. -/
import Derived.Test.YtlallfmbpbnaaaaAmOrder
import Derived.Test.YtlallfmbpbnaaaaAmPipeRow
import Derived.Test.YtlallfmbpbnaaaaRows
namespace Go.Proofs.Ytlallfmbpbnaaaa
open Go.ChangeShapes Go.WideShapes Go.ChangeAt Go.RowKit Go.AM

theorem act_d {H : Type} {d : DataW H} (h : FlatD Try.prog 2 27 d) : ∃ a : PAct, d = .agg [.lit (.int .i64 a.kind), .lit (.int .i64 a.n), .lit (.int .i64 a.k), .lit (.string a.s)] := by
  simp only [Try.underlying27, FlatD] at h
  obtain ⟨ds, rfl, h⟩ := h
  match ds, h with
  | [x, y, z, u], h =>
    simp only [All2, Try.underlying9, Try.underlying3] at h
    obtain ⟨⟨i, rfl, _⟩, ⟨j, rfl, _⟩, ⟨k, rfl, _⟩, ⟨s, rfl, _⟩, _⟩ := h
    exact ⟨⟨i, j, k, s⟩, rfl⟩
  | [], h => simp [All2] at h
  | [_], h => simp [All2] at h
  | [_, _], h => simp [All2] at h
  | [_, _, _], h => simp [All2] at h
  | _ :: _ :: _ :: _ :: _ :: _, h => simp [All2] at h

def actD {H : Type} (a : PAct) : DataW H := .agg [.lit (.int .i64 a.kind), .lit (.int .i64 a.n), .lit (.int .i64 a.k), .lit (.string a.s)]

theorem acts_d {H : Type} : ∀ {ds : List (DataW H)}, (∀ x ∈ ds, FlatD Try.prog 2 27 x) → ∃ l : List PAct, ds = l.map actD
  | [], _ => ⟨[], rfl⟩
  | d :: ds, h => by
    obtain ⟨a, rfl⟩ := act_d (h d (by simp))
    obtain ⟨l, rfl⟩ := acts_d (ds := ds) (fun x hx => h x (by simp [hx]))
    exact ⟨a :: l, rfl⟩

theorem acts_avs {H : Type} : ∀ l : List PAct, avsL (l.map (actD (H := H))) = l.flatMap cellsA
  | [] => rfl
  | a :: l => by
    rw [List.map_cons, avsL, acts_avs l, List.flatMap_cons]
    rfl

theorem acts_weights {H : Type} : ∀ (l : List PAct) (a : PAct), a ∈ l → a.s.length ∈ DataW.weightsAll Try.prog 27 (l.map (actD (H := H)))
  | b :: l, a, h => by
    rw [List.map_cons, DataW.weightsAll, List.mem_append]
    rcases List.mem_cons.1 h with rfl | h
    · left
      have : DataW.weights Try.prog 27 (actD (H := H) a) = [a.s.length] := by kernel_rfl
      rw [this]; simp
    · right; exact acts_weights l a h

theorem bytes27 : Try.prog.bytesOf 27 = 40 := by kernel_rfl

theorem order_args {H : Type} (ds : List (DataW H)) (hd : All2 (ArgD Try.prog 2) [22] ds) (hz : (DataW.weightsEach Try.prog [22] ds).all (· ≤ reachBytes) = true) :
    ∃ n σ', callP Try.prog n 3 (absArgs Try.prog [22] ds []).1 (absArgs Try.prog [22] ds []).2 = some (.ret (.bool true), σ') := by
  obtain ⟨d, rfl⟩ : ∃ d, ds = [d] := by
    match ds, hd with
    | [d], _ => exact ⟨d, rfl⟩
    | [], hd => simp [All2] at hd
    | _ :: _ :: _, hd => simp [All2] at hd
  have hd := hd.1
  simp only [ArgD, Try.underlying22] at hd
  rcases hd with rfl | ⟨elems, spare, rfl, _, he⟩
  · have ha : absArgs Try.prog [22] [DataW.nil (H := H)] [] = ([.slice none 0 (some 0) 4], []) := by kernel_rfl
    rw [ha]
    exact ⟨9, [], order_nil (k := 0)⟩
  · obtain ⟨l, rfl⟩ := acts_d he
    have ha : absArgs Try.prog [22] [DataW.slice (l.map (actD (H := H))) spare] [] = ([.slice (some (0, 0)) (l.map (actD (H := H))).length none 4], [.cells (avsL (l.map (actD (H := H)))) false]) := by kernel_rfl
    rw [ha, acts_avs, List.length_map]
    simp only [DataW.weightsEach, DataW.weights, Try.underlying22, List.append_nil, List.all_cons, List.all_append, Bool.and_eq_true] at hz
    have z1 := of_decide_eq_true hz.1
    rw [bytes27, List.length_map] at z1
    simp only [reachBytes] at z1
    refine ⟨_, _, order (k := 0) (by omega) ?_⟩
    intro a ha
    have := of_decide_eq_true (List.all_eq_true.1 hz.2.1 _ (acts_weights l a ha))
    simp only [reachBytes] at this
    omega

set_option maxRecDepth 100000 in
theorem pipeOrder_lifted (os : Os) (started : os.Started) (H : Type) (enc : TypeId × Value → H) :
    ReturnsInHanded {} Try.checked os 3 .any (Rows.pipeOrderSpec.pre6 enc Try.prog Try.f3 Rows.pipeOrderRow.domain false) (Rows.pipeOrderSpec.post enc Try.prog Try.f3 false true false false) := by
  refine lifted_true (C := Try.checked) (k := 2) (tb := 4) Try.own1 started (by kernel_rfl) Try.func3
    (ChangeSpec.witness6 (enc := enc) (C := Try.checked) false ⟨#[], #[.slice none 0 0], []⟩ 8 (by kernel_rfl) (by kernel_rfl) (by kernel_rfl) (by kernel_rfl))
    rfl (by kernel_rfl) (by kernel_rfl) Try.laid1 Try.pok ?_ ?_ ?_
  · have h : (Try.f3.params.toList.all fun t => okT Try.prog 2 t && Try.prog.readableRec t && decide (t < Try.prog.types.size)) = true := by kernel_rfl
    intro t ht
    have := List.all_eq_true.1 h t ht
    simp only [Bool.and_eq_true, decide_eq_true_eq] at this
    exact ⟨this.1.1, this.1.2, this.2⟩
  · intro ds hd
    have h3 : ds.length = 1 := hd
    match ds, h3 with
    | [_], _ => rfl
  · intro ds hd hz
    exact order_args ds hd hz

theorem pipeOrder_holds : Rows.PipeOrderSaid :=
  OpenClaim.holds_of_wide 3 Try.f3 rfl rfl rfl rfl rfl rfl rfl ⟨rfl, rfl, rfl, rfl, rfl⟩ rfl rfl rfl rfl rfl (by kernel_rfl) Try.func3 (by kernel_rfl)
    (of_decide_eq_true (by kernel_rfl)) (by unfold Func.isWrapper; first | (rw [if_pos (by decide +kernel)]; kernel_rfl) | (rw [if_neg (by decide +kernel)]; exact ⟨rfl, rfl⟩))
    (fun os started H enc _ => pipeOrder_lifted os started H enc)

end Go.Proofs.Ytlallfmbpbnaaaa

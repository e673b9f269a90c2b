/- What a function answers, whatever the heap: more blocks, none turned. -/
import Derived.Test.YtidammkjfdonaaaDoorSpec
import Derived.Test.YtidammkjfdonaaaDoorLb
import Derived.Test.YtidammkjfdonaaaDoorT1
namespace Go.Proofs.Inst
open Go.AM Go.Proofs

def Up (σ σ' : St) : Prop := ∃ τ, σ' = σ ++ τ
theorem Up.refl (σ : St) : Up σ σ := ⟨[], by simp⟩
theorem Up.app (σ τ : St) : Up σ (σ ++ τ) := ⟨τ, rfl⟩
theorem Up.trans {a b c : St} (h : Up a b) (g : Up b c) : Up a c := by
  obtain ⟨x, rfl⟩ := h
  obtain ⟨y, rfl⟩ := g
  exact ⟨x ++ y, by simp⟩
theorem Up.kn {a b : St} (h : Up a b) (k : Kn a) : Kn b := by
  obtain ⟨x, rfl⟩ := h; exact k.app x
theorem Up.more {a b : St} (h : Up a b) (τ : St) : Up a (b ++ τ) := h.trans (.app b τ)
theorem Up.len {a b : St} (h : Up a b) : a.length ≤ b.length := by
  obtain ⟨x, rfl⟩ := h; simp
theorem Up.set {a b : St} (h : Up a b) {i : Nat} (hi : a.length ≤ i) (o : AObj) : Up a (b.set i o) := by
  obtain ⟨x, rfl⟩ := h; exact ⟨x.set (i - a.length) o, by rw [List.set_append_right _ _ hi]⟩
theorem Up.get {a b : St} (h : Up a b) {i : Nat} {o : AObj} (hi : a[i]? = some o) : b[i]? = some o := by
  obtain ⟨x, rfl⟩ := h
  rw [List.getElem?_append_left (List.getElem?_eq_some_iff.1 hi).1]; exact hi
theorem Up.cells {a b : St} (h : Up a b) {i : Nat} {cs : List AV} (hi : cellsAt a i = some cs) : cellsAt b i = some cs := by
  unfold cellsAt at hi ⊢
  split at hi
  · rename_i cs' w hc; cases hi; rw [h.get hc]
  · cases hi

/-- The answer v, and more blocks. -/
def Gives (σ : St) (v : AV) (o : Out) : Prop := ∃ σ', o = some (.ret v, σ') ∧ Up σ σ'
theorem Gives.ret {σ σ' : St} {v v' : AV} (h : Up σ σ') (e : v' = v := by rfl) : Gives σ v (some (.ret v', σ')) := ⟨σ', by rw [e], h⟩
theorem Gives.le {σ : St} {v : AV} {x y : Out} (h : Le x y) (g : Gives σ v x) : Gives σ v y := by
  obtain ⟨σ', h1, h2⟩ := g; exact ⟨σ', h _ h1, h2⟩
theorem Gives.up {σ σ' : St} {v : AV} {x : Out} (h : Up σ σ') (g : Gives σ' v x) : Gives σ v x := by
  obtain ⟨s, h1, h2⟩ := g; exact ⟨s, h1, h.trans h2⟩

/-- A function's answer. -/
def Ret (f : Nat) (args : List AV) (N : Nat) (v : AV) : Prop := ∀ n, N ≤ n → ∀ σ, Kn σ → Gives σ v (callP Tryd.prog Lb n f args σ)
theorem Ret.mk {f : Nat} {args : List AV} {N : Nat} {v : AV} (h : ∀ n, N ≤ n → ∀ σ, Kn σ → Gives σ v (callP Tryd.prog Lb (n + 1) f args σ)) : Ret f args (N + 1) v := by
  intro n hn σ hk
  obtain ⟨m, rfl⟩ : ∃ m, n = m + 1 := ⟨n - 1, by omega⟩
  exact h m (by omega) σ hk
theorem Ret.mono {f : Nat} {args : List AV} {N M : Nat} {v : AV} (h : Ret f args N v) (hm : N ≤ M) : Ret f args M v := fun n hn => h n (by omega)

theorem Gives.call {f : Nat} {args : List AV} {N n : Nat} {σ σ1 : St} {v v' : AV} {k : AV → St → Out} (h : Ret f args N v') (hn : N ≤ n) (hu : Up σ σ1) (hk : Kn σ1) (g : ∀ σ2, Up σ1 σ2 → Up σ σ2 → Kn σ2 → Gives σ v (k v' σ2)) :
    Gives σ v (callT Tryd.prog Lb n f args σ1 k) := by
  obtain ⟨σ2, h1, h2⟩ := h n hn σ1 hk
  rw [callT_ok h1]
  exact g σ2 h2 (hu.trans h2) (h2.kn hk)
theorem Gives.callD {f : Nat} {args : List AV} {N n : Nat} {σ σ1 : St} {v v' : AV} {k : AV → St → Out} (h : Ret f args N v') (hn : N ≤ n) (hu : Up σ σ1) (hk : Kn σ1) (g : ∀ σ2, Up σ1 σ2 → Up σ σ2 → Kn σ2 → Gives σ v (k v' σ2)) :
    Gives σ v (callTD Tryd.prog Lb n f args σ1 k) := by
  obtain ⟨σ2, h1, h2⟩ := h n hn σ1 hk
  rw [callTD_ok h1]
  exact g σ2 h2 (hu.trans h2) (h2.kn hk)

/-- A branch. -/
theorem Gives.ite {σ : St} {v : AV} {b : Bool} {x y : Out} (h1 : b = true → Gives σ v x) (h2 : b = false → Gives σ v y) : Gives σ v (cond b x y) := by
  cases b
  · rw [cF]; exact h2 rfl
  · rw [cT]; exact h1 rfl

theorem ldK_at {σ : St} {b t off : Nat} {cs : List AV} {f : AV → Out} (h : cellsAt σ b = some cs) : ldK Tryd.prog t σ b off f = partK Tryd.prog t cs off f := by
  unfold ldK; rw [h]
theorem cellsAt_new {σ : St} {cs : List AV} {w : Wr} : cellsAt (σ ++ [.cells cs w]) σ.length = some cs := by
  unfold cellsAt; simp

/-! ### the tables -/

def insV (x : Ins) : AV := .agg [.int .i64 x.op, .int .i64 x.rd, .int .i64 x.rs1, .int .i64 x.rs2, .int .i64 x.imm]
def rowV (r : Row) : List AV := [.int .u32 r.form, .int .u32 r.code, .int .u32 r.f3, .int .u32 r.f7]
def rowsV : List AV := rows.flatMap rowV
def letter (f : Int) : List UInt8 :=
  if f = 1 then [85] else if f = 2 then [74] else if f = 3 then [73] else if f = 4 then [66] else if f = 5 then [83] else if f = 6 then [72] else if f = 7 then [86] else if f = 8 then [82] else if f = 9 then [65] else if f = 10 then [78] else []
def refRow (i : Nat) : List AV := [.str (names.getD i []), .str (letter (rows.getD i ⟨0, 0, 0, 0⟩).form), .int .u32 (rows.getD i ⟨0, 0, 0, 0⟩).code, .int .u32 (rows.getD i ⟨0, 0, 0, 0⟩).f3, .int .u32 (rows.getD i ⟨0, 0, 0, 0⟩).f7]
def refV : List AV := (List.range 88).flatMap refRow
def refAt (op : Int) : List AV := [.str (nameAt op), .str (letter (rowAt op).form), .int .u32 (rowAt op).code, .int .u32 (rowAt op).f3, .int .u32 (rowAt op).f7]

theorem ret_rows : Ret 23 [] 1 (.agg rowsV) := .mk fun n _ σ _ => by
  refine .le f23_e ?_
  have h : ∀ L n σ, f23_t L n σ = some (.ret (.agg rowsV), σ) := fun _ _ _ => by kernel_rfl
  rw [h]; exact .ret (.refl _)

theorem call_ref {n : Nat} {σ : St} : callP Tryd.prog Lb (n + 1) 22 [] σ = some (.ret (.slice (some (σ.length, 0)) 88 (some 88) 5), σ ++ [.cells refV (.rw (some 47))]) := by
  refine f22_e.some ?_
  have h : ∀ L n (σ : St), f22_t L n σ = some (.ret (.slice (some (σ.length, 0)) 88 (some 88) 5), σ ++ [.cells refV (.rw (some 47))]) := fun _ _ _ => by kernel_rfl
  exact h _ _ _

theorem agg57 : aggO Tryd.prog 57 = some true := by kernel_rfl
theorem sz57 : szOf Tryd.prog 57 = 4 := by kernel_rfl
theorem agg47 : aggO Tryd.prog 47 = some true := by kernel_rfl
theorem sz47 : szOf Tryd.prog 47 = 5 := by kernel_rfl
theorem agg3 : aggO Tryd.prog 3 = some false := by kernel_rfl
theorem agg4 : aggO Tryd.prog 4 = some false := by kernel_rfl
theorem agg9 : aggO Tryd.prog 9 = some false := by kernel_rfl
theorem agg2 : aggO Tryd.prog 2 = some false := by kernel_rfl
theorem agg26 : aggO Tryd.prog 26 = some false := by kernel_rfl

theorem rows_at {op : Int} (h1 : 0 ≤ op) (h2 : op ≤ 87) {f : AV → Out} : (idxK op 88 <| partK Tryd.prog 57 rowsV (op.toNat * 4) f) = f (.agg (rowV (rowAt op))) := by
  rw [idxK_ok ⟨h1, by omega⟩]
  exact partK_part (enc := rowV) (s := 4) (fun _ => rfl) agg57 sz57 (rowAt_get h1 h2) rfl

theorem refRow_eq {op : Int} : refRow op.toNat = refAt op := rfl

/-- The reference's table, read at an opcode. -/
theorem ref_at {op : Int} (h1 : 0 ≤ op) (h2 : op ≤ 87) {σ : St} {b : Nat} (hb : cellsAt σ b = some refV) {f : AV → Out} :
    ldK Tryd.prog 47 σ b (0 + (op.toNat * 5)) f = f (.agg (refAt op)) := by
  rw [ldK_at hb, Nat.zero_add]
  rw [← refRow_eq]
  exact partK_part (enc := refRow) (s := 5) (fun _ => rfl) agg47 sz47 (by rw [List.getElem?_range (by omega)]) rfl

/-- The reference's table, called for and read. -/
theorem Gives.ref {n : Nat} {σ σ1 : St} {v : AV} {op : Int} {k : AV → St → Out} (h1 : 0 ≤ op) (h2 : op ≤ 87) (hn : 1 ≤ n) (hu : Up σ σ1) (hk : Kn σ1)
    (g : ∀ σ2 b, Up σ σ2 → Kn σ2 → (∀ f, ldK Tryd.prog 47 σ2 b (0 + (op.toNat * 5)) f = f (.agg (refAt op))) → Gives σ v (k (.slice (some (b, 0)) 88 (some 88) 5) σ2)) :
    Gives σ v (callT Tryd.prog Lb n 22 [] σ1 k) := by
  obtain ⟨m, rfl⟩ : ∃ m, n = m + 1 := ⟨n - 1, by omega⟩
  rw [callT_ok call_ref]
  exact g _ _ (hu.more _) (hk.app _) fun f => ref_at h1 h2 cellsAt_new
theorem Gives.refD {n : Nat} {σ σ1 : St} {v : AV} {op : Int} {k : AV → St → Out} (h1 : 0 ≤ op) (h2 : op ≤ 87) (hn : 1 ≤ n) (hu : Up σ σ1) (hk : Kn σ1)
    (g : ∀ σ2 b, Up σ σ2 → Kn σ2 → (∀ f, ldK Tryd.prog 47 σ2 b (0 + (op.toNat * 5)) f = f (.agg (refAt op))) → Gives σ v (k (.slice (some (b, 0)) 88 (some 88) 5) σ2)) :
    Gives σ v (callTD Tryd.prog Lb n 22 [] σ1 k) := by
  obtain ⟨m, rfl⟩ : ∃ m, n = m + 1 := ⟨n - 1, by omega⟩
  rw [callTD_ok call_ref]
  exact g _ _ (hu.more _) (hk.app _) fun f => ref_at h1 h2 cellsAt_new

end Go.Proofs.Inst

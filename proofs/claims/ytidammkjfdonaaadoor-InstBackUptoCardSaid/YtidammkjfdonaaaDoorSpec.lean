/- Instructions: which there are, their words, how a word is read: by forms, as sums of fields. -/
import Derived.Test.YtidammkjfdonaaaDoorBits
import Derived.KernelRfl
namespace Go.Proofs.Inst

structure Ins where
  op : Int
  rd : Int
  rs1 : Int
  rs2 : Int
  imm : Int
  deriving DecidableEq

structure Row where
  form : Int
  code : Int
  f3 : Int
  f7 : Int
  deriving DecidableEq

def rows : List Row := [
  ⟨0, 0, 0, 0⟩, ⟨1, 55, 0, 0⟩, ⟨1, 23, 0, 0⟩, ⟨2, 111, 0, 0⟩, ⟨3, 103, 0, 0⟩, ⟨4, 99, 0, 0⟩, ⟨4, 99, 1, 0⟩, ⟨4, 99, 4, 0⟩, ⟨4, 99, 5, 0⟩, ⟨4, 99, 6, 0⟩, ⟨4, 99, 7, 0⟩, ⟨3, 3, 0, 0⟩, ⟨3, 3, 1, 0⟩, ⟨3, 3, 2, 0⟩, ⟨3, 3, 3, 0⟩, ⟨3, 3, 4, 0⟩, ⟨3, 3, 5, 0⟩, ⟨3, 3, 6, 0⟩, ⟨5, 35, 0, 0⟩, ⟨5, 35, 1, 0⟩, ⟨5, 35, 2, 0⟩, ⟨5, 35, 3, 0⟩, ⟨3, 19, 0, 0⟩, ⟨3, 19, 2, 0⟩, ⟨3, 19, 3, 0⟩, ⟨3, 19, 4, 0⟩, ⟨3, 19, 6, 0⟩, ⟨3, 19, 7, 0⟩, ⟨6, 19, 1, 0⟩, ⟨6, 19, 5, 0⟩, ⟨6, 19, 5, 32⟩, ⟨3, 27, 0, 0⟩, ⟨7, 27, 1, 0⟩, ⟨7, 27, 5, 0⟩, ⟨7, 27, 5, 32⟩, ⟨8, 51, 0, 0⟩, ⟨8, 51, 0, 32⟩, ⟨8, 51, 1, 0⟩, ⟨8, 51, 2, 0⟩, ⟨8, 51, 3, 0⟩, ⟨8, 51, 4, 0⟩, ⟨8, 51, 5, 0⟩, ⟨8, 51, 5, 32⟩, ⟨8, 51, 6, 0⟩, ⟨8, 51, 7, 0⟩, ⟨8, 59, 0, 0⟩, ⟨8, 59, 0, 32⟩, ⟨8, 59, 1, 0⟩, ⟨8, 59, 5, 0⟩, ⟨8, 59, 5, 32⟩, ⟨8, 51, 0, 1⟩, ⟨8, 51, 1, 1⟩, ⟨8, 51, 2, 1⟩, ⟨8, 51, 3, 1⟩, ⟨8, 51, 4, 1⟩, ⟨8, 51, 5, 1⟩, ⟨8, 51, 6, 1⟩, ⟨8, 51, 7, 1⟩, ⟨8, 59, 0, 1⟩, ⟨8, 59, 4, 1⟩, ⟨8, 59, 5, 1⟩, ⟨8, 59, 6, 1⟩, ⟨8, 59, 7, 1⟩, ⟨10, 15, 0, 0⟩, ⟨10, 115, 0, 0⟩, ⟨10, 1048691, 0, 0⟩, ⟨9, 47, 2, 2⟩, ⟨9, 47, 2, 3⟩, ⟨9, 47, 2, 1⟩, ⟨9, 47, 2, 0⟩, ⟨9, 47, 2, 4⟩, ⟨9, 47, 2, 12⟩, ⟨9, 47, 2, 8⟩, ⟨9, 47, 2, 16⟩, ⟨9, 47, 2, 20⟩, ⟨9, 47, 2, 24⟩, ⟨9, 47, 2, 28⟩, ⟨9, 47, 3, 2⟩, ⟨9, 47, 3, 3⟩, ⟨9, 47, 3, 1⟩, ⟨9, 47, 3, 0⟩, ⟨9, 47, 3, 4⟩, ⟨9, 47, 3, 12⟩, ⟨9, 47, 3, 8⟩, ⟨9, 47, 3, 16⟩, ⟨9, 47, 3, 20⟩, ⟨9, 47, 3, 24⟩, ⟨9, 47, 3, 28⟩]
/-- The names, by opcode (that of 0 is empty). -/
def names : List (List UInt8) := [
  [], [108, 117, 105], [97, 117, 105, 112, 99], [106, 97, 108], [106, 97, 108, 114], [98, 101, 113], [98, 110, 101], [98, 108, 116], [98, 103, 101], [98, 108, 116, 117], [98, 103, 101, 117], [108, 98], [108, 104], [108, 119], [108, 100], [108, 98, 117], [108, 104, 117], [108, 119, 117], [115, 98], [115, 104], [115, 119], [115, 100], [97, 100, 100, 105], [115, 108, 116, 105], [115, 108, 116, 105, 117], [120, 111, 114, 105], [111, 114, 105], [97, 110, 100, 105], [115, 108, 108, 105], [115, 114, 108, 105], [115, 114, 97, 105], [97, 100, 100, 105, 119], [115, 108, 108, 105, 119], [115, 114, 108, 105, 119], [115, 114, 97, 105, 119], [97, 100, 100], [115, 117, 98], [115, 108, 108], [115, 108, 116], [115, 108, 116, 117], [120, 111, 114], [115, 114, 108], [115, 114, 97], [111, 114], [97, 110, 100], [97, 100, 100, 119], [115, 117, 98, 119], [115, 108, 108, 119], [115, 114, 108, 119], [115, 114, 97, 119], [109, 117, 108], [109, 117, 108, 104], [109, 117, 108, 104, 115, 117], [109, 117, 108, 104, 117], [100, 105, 118], [100, 105, 118, 117], [114, 101, 109], [114, 101, 109, 117], [109, 117, 108, 119], [100, 105, 118, 119], [100, 105, 118, 117, 119], [114, 101, 109, 119], [114, 101, 109, 117, 119], [102, 101, 110, 99, 101], [101, 99, 97, 108, 108], [101, 98, 114, 101, 97, 107], [108, 114, 46, 119], [115, 99, 46, 119], [97, 109, 111, 115, 119, 97, 112, 46, 119], [97, 109, 111, 97, 100, 100, 46, 119], [97, 109, 111, 120, 111, 114, 46, 119], [97, 109, 111, 97, 110, 100, 46, 119], [97, 109, 111, 111, 114, 46, 119], [97, 109, 111, 109, 105, 110, 46, 119], [97, 109, 111, 109, 97, 120, 46, 119], [97, 109, 111, 109, 105, 110, 117, 46, 119], [97, 109, 111, 109, 97, 120, 117, 46, 119], [108, 114, 46, 100], [115, 99, 46, 100], [97, 109, 111, 115, 119, 97, 112, 46, 100], [97, 109, 111, 97, 100, 100, 46, 100], [97, 109, 111, 120, 111, 114, 46, 100], [97, 109, 111, 97, 110, 100, 46, 100], [97, 109, 111, 111, 114, 46, 100], [97, 109, 111, 109, 105, 110, 46, 100], [97, 109, 111, 109, 97, 120, 46, 100], [97, 109, 111, 109, 105, 110, 117, 46, 100], [97, 109, 111, 109, 97, 120, 117, 46, 100]]


def rowAt (op : Int) : Row := rows.getD op.toNat ⟨0, 0, 0, 0⟩
def nameAt (op : Int) : List UInt8 := names.getD op.toNat []

/-- What a form asks of the fields. -/
def FormOk (f : Int) (x : Ins) : Prop :=
  (f = 1 ∧ x.rs1 = 0 ∧ x.rs2 = 0 ∧ -2147483648 ≤ x.imm ∧ x.imm < 2147483648 ∧ x.imm % 4096 = 0) ∨
  (f = 2 ∧ x.rs1 = 0 ∧ x.rs2 = 0 ∧ -1048576 ≤ x.imm ∧ x.imm < 1048576 ∧ x.imm % 2 = 0) ∨
  (f = 3 ∧ x.rs2 = 0 ∧ -2048 ≤ x.imm ∧ x.imm < 2048) ∨
  (f = 4 ∧ x.rd = 0 ∧ -4096 ≤ x.imm ∧ x.imm < 4096 ∧ x.imm % 2 = 0) ∨
  (f = 5 ∧ x.rd = 0 ∧ -2048 ≤ x.imm ∧ x.imm < 2048) ∨
  (f = 6 ∧ x.rs2 = 0 ∧ 0 ≤ x.imm ∧ x.imm < 64) ∨
  (f = 7 ∧ x.rs2 = 0 ∧ 0 ≤ x.imm ∧ x.imm < 32) ∨
  (f = 8 ∧ x.imm = 0) ∨
  (f = 9 ∧ (x.rs2 = 0 ∨ (x.op ≠ 66 ∧ x.op ≠ 77)) ∧ 0 ≤ x.imm ∧ x.imm < 4) ∨
  (f = 10 ∧ x.rd = 0 ∧ x.rs1 = 0 ∧ x.rs2 = 0 ∧ x.imm = 0)

def May (x : Ins) : Prop :=
  1 ≤ x.op ∧ x.op ≤ 87 ∧ (0 ≤ x.rd ∧ x.rd ≤ 31) ∧ (0 ≤ x.rs1 ∧ x.rs1 ≤ 31) ∧ (0 ≤ x.rs2 ∧ x.rs2 ≤ 31) ∧ FormOk (rowAt x.op).form x

instance (f : Int) (x : Ins) : Decidable (FormOk f x) := by unfold FormOk; infer_instance
instance (x : Ins) : Decidable (May x) := by unfold May; infer_instance

/-- The word. -/
def encR (r : Row) (x : Ins) : Int :=
  if r.form = 1 then r.code + x.rd * 128 + x.imm / 4096 % 1048576 * 4096
  else if r.form = 2 then r.code + x.rd * 128 + x.imm / 1048576 % 2 * 2147483648 + x.imm / 2 % 1024 * 2097152 + x.imm / 2048 % 2 * 1048576 + x.imm / 4096 % 256 * 4096
  else if r.form = 3 then r.code + x.rd * 128 + r.f3 * 4096 + x.rs1 * 32768 + x.imm % 4096 * 1048576
  else if r.form = 4 then r.code + r.f3 * 4096 + x.rs1 * 32768 + x.rs2 * 1048576 + x.imm / 4096 % 2 * 2147483648 + x.imm / 32 % 64 * 33554432 + x.imm / 2 % 16 * 256 + x.imm / 2048 % 2 * 128
  else if r.form = 5 then r.code + r.f3 * 4096 + x.rs1 * 32768 + x.rs2 * 1048576 + x.imm / 32 % 128 * 33554432 + x.imm % 32 * 128
  else if r.form = 6 ∨ r.form = 7 then r.code + x.rd * 128 + r.f3 * 4096 + x.rs1 * 32768 + x.imm * 1048576 + r.f7 * 33554432
  else if r.form = 8 then r.code + x.rd * 128 + r.f3 * 4096 + x.rs1 * 32768 + x.rs2 * 1048576 + r.f7 * 33554432
  else if r.form = 9 then r.code + x.rd * 128 + r.f3 * 4096 + x.rs1 * 32768 + x.rs2 * 1048576 + x.imm * 33554432 + r.f7 * 134217728
  else r.code
def enc (x : Ins) : Int := encR (rowAt x.op) x

/-- A number of so many values, with a sign. -/
def sg (m v : Int) : Int := if v < m / 2 then v else v - m

/-- The instruction of an opcode that a word would be. -/
def decR (r : Row) (op w : Int) : Ins :=
  if r.form = 1 then ⟨op, w / 128 % 32, 0, 0, sg 1048576 (w / 4096 % 1048576) * 4096⟩
  else if r.form = 2 then ⟨op, w / 128 % 32, 0, 0, sg 1048576 (w / 2147483648 % 2 * 524288 + w / 4096 % 256 * 2048 + w / 1048576 % 2 * 1024 + w / 2097152 % 1024) * 2⟩
  else if r.form = 3 then ⟨op, w / 128 % 32, w / 32768 % 32, 0, sg 4096 (w / 1048576 % 4096)⟩
  else if r.form = 4 then ⟨op, 0, w / 32768 % 32, w / 1048576 % 32, sg 4096 (w / 2147483648 % 2 * 2048 + w / 128 % 2 * 1024 + w / 33554432 % 64 * 16 + w / 256 % 16) * 2⟩
  else if r.form = 5 then ⟨op, 0, w / 32768 % 32, w / 1048576 % 32, sg 4096 (w / 33554432 % 128 * 32 + w / 128 % 32)⟩
  else if r.form = 6 then ⟨op, w / 128 % 32, w / 32768 % 32, 0, w / 1048576 % 64⟩
  else if r.form = 7 then ⟨op, w / 128 % 32, w / 32768 % 32, 0, w / 1048576 % 32⟩
  else if r.form = 8 then ⟨op, w / 128 % 32, w / 32768 % 32, w / 1048576 % 32, 0⟩
  else if r.form = 9 then ⟨op, w / 128 % 32, w / 32768 % 32, if op = 66 ∨ op = 77 then 0 else w / 1048576 % 32, w / 33554432 % 4⟩
  else ⟨op, 0, 0, 0, 0⟩

/-! ### the rows -/

structure RowOk (r : Row) : Prop where
  form : 1 ≤ r.form ∧ r.form ≤ 10
  code0 : 0 ≤ r.code ∧ r.code < 4294967296
  code : r.form ≠ 10 → r.code < 128
  f3 : 0 ≤ r.f3 ∧ r.f3 < 8
  f7 : 0 ≤ r.f7 ∧ r.f7 < 128
  f76 : r.form = 6 → r.f7 = 0 ∨ r.f7 = 32
  f77 : r.form = 7 → r.f7 = 0 ∨ r.f7 = 32
  f79 : r.form = 9 → r.f7 < 32

def rowOkB (r : Row) : Bool :=
  decide (1 ≤ r.form ∧ r.form ≤ 10) && decide (0 ≤ r.code ∧ r.code < 4294967296) && decide (r.form = 10 ∨ r.code < 128) && decide (0 ≤ r.f3 ∧ r.f3 < 8) && decide (0 ≤ r.f7 ∧ r.f7 < 128) &&
  decide (r.form = 6 ∨ r.form = 7 → r.f7 = 0 ∨ r.f7 = 32) && decide (r.form = 9 → r.f7 < 32)

theorem rows_length : rows.length = 88 := by kernel_rfl
theorem names_length : names.length = 88 := by kernel_rfl

theorem rowAt_get {op : Int} (h1 : 0 ≤ op) (h2 : op ≤ 87) : rows[op.toNat]? = some (rowAt op) := by
  unfold rowAt
  have : op.toNat < rows.length := by rw [rows_length]; omega
  rw [List.getD_eq_getElem?_getD, List.getElem?_eq_getElem this]; rfl
theorem nameAt_get {op : Int} (h1 : 0 ≤ op) (h2 : op ≤ 87) : names[op.toNat]? = some (nameAt op) := by
  unfold nameAt
  have : op.toNat < names.length := by rw [names_length]; omega
  rw [List.getD_eq_getElem?_getD, List.getElem?_eq_getElem this]; rfl

/-- What a check of all opcodes says of one. -/
theorem all_ops {p : Int → Bool} (h : (List.range 87).all (fun i => p ((i : Int) + 1)) = true) {op : Int} (h1 : 1 ≤ op) (h2 : op ≤ 87) : p op = true := by
  have := List.all_eq_true.1 h (op - 1).toNat (List.mem_range.2 (by omega))
  have e : (((op - 1).toNat : Int) + 1) = op := by omega
  rw [e] at this; exact this

theorem rowOk {op : Int} (h1 : 1 ≤ op) (h2 : op ≤ 87) : RowOk (rowAt op) := by
  have := all_ops (p := fun op => rowOkB (rowAt op)) (by kernel_rfl) h1 h2
  simp only [rowOkB, Bool.and_eq_true, decide_eq_true_eq] at this
  obtain ⟨⟨⟨⟨⟨⟨h1, h2⟩, h3⟩, h4⟩, h5⟩, h6⟩, h7⟩ := this
  exact ⟨h1, h2, fun h => h3.resolve_left h, h4, h5, fun h => h6 (.inl h), fun h => h6 (.inr h), h7⟩

def apart (r s : Row) : Bool :=
  decide (r.code % 128 ≠ s.code % 128) || (decide (2 < r.form ∧ r.form < 10 ∧ 2 < s.form ∧ s.form < 10) && decide (r.f3 ≠ s.f3)) || (decide (r.form = s.form ∧ 6 ≤ r.form ∧ r.form ≤ 9) && decide (r.f7 ≠ s.f7)) || (decide (r.form = 10 ∧ s.form = 10) && decide (r.code ≠ s.code))

theorem apart_ops {a b : Int} (ha : 1 ≤ a ∧ a ≤ 87) (hb : 1 ≤ b ∧ b ≤ 87) (h : a ≠ b) : apart (rowAt a) (rowAt b) = true := by
  have := all_ops (p := fun a => (List.range 87).all (fun i => decide (a = (i : Int) + 1) || apart (rowAt a) (rowAt ((i : Int) + 1)))) (by kernel_rfl) ha.1 ha.2
  have := all_ops (p := fun b => decide (a = b) || apart (rowAt a) (rowAt b)) this hb.1 hb.2
  simpa [h] using this

/-! ### the word -/

/-- A number's pieces: the jump's, the branch's, the store's. -/
theorem pieces2 (v : Int) : ∃ a b c d : Int, v / 1048576 % 2 = a ∧ v / 2 % 1024 = b ∧ v / 2048 % 2 = c ∧ v / 4096 % 256 = d ∧ (0 ≤ a ∧ a ≤ 1) ∧ (0 ≤ b ∧ b ≤ 1023) ∧ (0 ≤ c ∧ c ≤ 1) ∧ (0 ≤ d ∧ d ≤ 255) ∧
    (-1048576 ≤ v → v < 1048576 → v % 2 = 0 → sg 1048576 (a * 524288 + d * 2048 + c * 1024 + b) * 2 = v) := by
  refine ⟨_, _, _, _, rfl, rfl, rfl, rfl, by omega, by omega, by omega, by omega, fun h1 h2 h3 => ?_⟩
  have e1 : v / 2 = 1024 * (v / 2048) + v / 2 % 1024 := by omega
  have e2 : v / 2048 = 2 * (v / 4096) + v / 2048 % 2 := by omega
  have e3 : v / 4096 = 256 * (v / 1048576) + v / 4096 % 256 := by omega
  have e4 : v = 2 * (v / 2) := by omega
  have b1 : 0 ≤ v / 2 % 1024 ∧ v / 2 % 1024 ≤ 1023 := by omega
  have b2 : 0 ≤ v / 2048 % 2 ∧ v / 2048 % 2 ≤ 1 := by omega
  have b3 : 0 ≤ v / 4096 % 256 ∧ v / 4096 % 256 ≤ 255 := by omega
  generalize v / 2 % 1024 = B at *
  generalize v / 2048 % 2 = C at *
  generalize v / 4096 % 256 = D at *
  unfold sg
  rcases Int.lt_or_le v 0 with h | h
  · have e5 : v / 1048576 = -1 := by omega
    rw [e5] at e3 ⊢
    simp only [show (-1 : Int) % 2 = 1 from rfl]
    split <;> omega
  · have e5 : v / 1048576 = 0 := by omega
    rw [e5] at e3 ⊢
    simp only [show (0 : Int) % 2 = 0 from rfl]
    split <;> omega

theorem pieces4 (v : Int) : ∃ a b c d : Int, v / 4096 % 2 = a ∧ v / 32 % 64 = b ∧ v / 2 % 16 = c ∧ v / 2048 % 2 = d ∧ (0 ≤ a ∧ a ≤ 1) ∧ (0 ≤ b ∧ b ≤ 63) ∧ (0 ≤ c ∧ c ≤ 15) ∧ (0 ≤ d ∧ d ≤ 1) ∧
    (-4096 ≤ v → v < 4096 → v % 2 = 0 → sg 4096 (a * 2048 + d * 1024 + b * 16 + c) * 2 = v) := by
  refine ⟨_, _, _, _, rfl, rfl, rfl, rfl, by omega, by omega, by omega, by omega, fun h1 h2 h3 => ?_⟩
  have e1 : v / 2 = 16 * (v / 32) + v / 2 % 16 := by omega
  have e2 : v / 32 = 64 * (v / 2048) + v / 32 % 64 := by omega
  have e3 : v / 2048 = 2 * (v / 4096) + v / 2048 % 2 := by omega
  have e4 : v = 2 * (v / 2) := by omega
  have b1 : 0 ≤ v / 2 % 16 ∧ v / 2 % 16 ≤ 15 := by omega
  have b2 : 0 ≤ v / 32 % 64 ∧ v / 32 % 64 ≤ 63 := by omega
  have b3 : 0 ≤ v / 2048 % 2 ∧ v / 2048 % 2 ≤ 1 := by omega
  generalize v / 2 % 16 = B at *
  generalize v / 32 % 64 = C at *
  generalize v / 2048 % 2 = D at *
  unfold sg
  rcases Int.lt_or_le v 0 with h | h
  · have e5 : v / 4096 = -1 := by omega
    rw [e5] at e3 ⊢
    simp only [show (-1 : Int) % 2 = 1 from rfl]
    split <;> omega
  · have e5 : v / 4096 = 0 := by omega
    rw [e5] at e3 ⊢
    simp only [show (0 : Int) % 2 = 0 from rfl]
    split <;> omega

theorem pieces5 (v : Int) : ∃ a b : Int, v / 32 % 128 = a ∧ v % 32 = b ∧ (0 ≤ a ∧ a ≤ 127) ∧ (0 ≤ b ∧ b ≤ 31) ∧ (-2048 ≤ v → v < 2048 → sg 4096 (a * 32 + b) = v) := by
  refine ⟨_, _, rfl, rfl, by omega, by omega, fun h1 h2 => ?_⟩
  unfold sg
  rcases Int.lt_or_le v 0 with h | h <;> split <;> omega

theorem pieces3 (v : Int) : ∃ a : Int, v % 4096 = a ∧ (0 ≤ a ∧ a ≤ 4095) ∧ (-2048 ≤ v → v < 2048 → sg 4096 a = v) := by
  refine ⟨_, rfl, by omega, fun h1 h2 => ?_⟩
  unfold sg
  rcases Int.lt_or_le v 0 with h | h <;> split <;> omega

theorem pieces1 (v : Int) : ∃ a : Int, v / 4096 % 1048576 = a ∧ (0 ≤ a ∧ a ≤ 1048575) ∧ (-2147483648 ≤ v → v < 2147483648 → v % 4096 = 0 → sg 1048576 a * 4096 = v) := by
  refine ⟨_, rfl, by omega, fun h1 h2 h3 => ?_⟩
  unfold sg
  rcases Int.lt_or_le v 0 with h | h <;> split <;> omega

section
variable {x y : Ins}

theorem enc_range (h : May x) : 0 ≤ enc x ∧ enc x < 4294967296 := by
  obtain ⟨h1, h2, h3, h4, h5, h⟩ := h
  have hr := rowOk h1 h2
  have q1 := hr.code0; have q2 := hr.code; have q3 := hr.f3; have q4 := hr.f7; have q5 := hr.f76; have q6 := hr.f77; have q7 := hr.f79
  unfold enc
  generalize rowAt x.op = r at *
  unfold encR
  obtain ⟨A1, p1, b1, r1⟩ := pieces1 x.imm
  obtain ⟨A2, B2, C2, D2, p2, p2', p2'', p2''', b2, b2', b2'', b2''', r2⟩ := pieces2 x.imm
  obtain ⟨A3, p3, b3, r3⟩ := pieces3 x.imm
  obtain ⟨A4, B4, C4, D4, p4, p4', p4'', p4''', b4, b4', b4'', b4''', r4⟩ := pieces4 x.imm
  obtain ⟨A5, B5, p5, p5', b5, b5', r5⟩ := pieces5 x.imm
  have hd : D4 = C2 := p4'''.symm.trans p2''
  subst hd
  simp only [p1, p2, p2', p2'', p2''', p3, p4, p4', p4'', p5, p5']
  clear p1 p2 p2' p2'' p2''' p3 p4 p4' p4'' p4''' p5 p5' r1 r2 r3 r4 r5
  rcases h with h | h | h | h | h | h | h | h | h | h <;> simp [h.1] at q2 q5 q6 q7 ⊢ <;> omega

theorem enc_code (h : May x) : enc x % 128 = (rowAt x.op).code % 128 := by
  obtain ⟨h1, h2, h3, h4, h5, h⟩ := h
  have hr := rowOk h1 h2
  unfold enc
  generalize rowAt x.op = r at *
  unfold encR
  obtain ⟨A1, p1, b1, r1⟩ := pieces1 x.imm
  obtain ⟨A2, B2, C2, D2, p2, p2', p2'', p2''', b2, b2', b2'', b2''', r2⟩ := pieces2 x.imm
  obtain ⟨A3, p3, b3, r3⟩ := pieces3 x.imm
  obtain ⟨A4, B4, C4, D4, p4, p4', p4'', p4''', b4, b4', b4'', b4''', r4⟩ := pieces4 x.imm
  obtain ⟨A5, B5, p5, p5', b5, b5', r5⟩ := pieces5 x.imm
  have hd : D4 = C2 := p4'''.symm.trans p2''
  subst hd
  simp only [p1, p2, p2', p2'', p2''', p3, p4, p4', p4'', p5, p5']
  clear p1 p2 p2' p2'' p2''' p3 p4 p4' p4'' p4''' p5 p5' r1 r2 r3 r4 r5
  rcases h with h | h | h | h | h | h | h | h | h | h <;> simp [h.1] <;> omega

theorem enc_f3 (h : May x) (h' : 2 < (rowAt x.op).form ∧ (rowAt x.op).form < 10) : enc x / 4096 % 8 = (rowAt x.op).f3 := by
  obtain ⟨h1, h2, h3, h4, h5, h⟩ := h
  have hr := rowOk h1 h2
  have q1 := hr.code0; have q2 := hr.code; have q3 := hr.f3; have q4 := hr.f7; have q5 := hr.f76; have q6 := hr.f77; have q7 := hr.f79
  unfold enc
  generalize rowAt x.op = r at *
  unfold encR
  obtain ⟨A1, p1, b1, r1⟩ := pieces1 x.imm
  obtain ⟨A2, B2, C2, D2, p2, p2', p2'', p2''', b2, b2', b2'', b2''', r2⟩ := pieces2 x.imm
  obtain ⟨A3, p3, b3, r3⟩ := pieces3 x.imm
  obtain ⟨A4, B4, C4, D4, p4, p4', p4'', p4''', b4, b4', b4'', b4''', r4⟩ := pieces4 x.imm
  obtain ⟨A5, B5, p5, p5', b5, b5', r5⟩ := pieces5 x.imm
  have hd : D4 = C2 := p4'''.symm.trans p2''
  subst hd
  simp only [p1, p2, p2', p2'', p2''', p3, p4, p4', p4'', p5, p5']
  clear p1 p2 p2' p2'' p2''' p3 p4 p4' p4'' p4''' p5 p5' r1 r2 r3 r4 r5
  rcases h with h | h | h | h | h | h | h | h | h | h <;> simp [h.1] at h' q2 q5 q6 q7 ⊢ <;> omega

theorem enc_f7 (h : May x) (h' : 6 ≤ (rowAt x.op).form ∧ (rowAt x.op).form ≤ 9) :
    (rowAt x.op).f7 = if (rowAt x.op).form = 6 then enc x / 67108864 * 2 else if (rowAt x.op).form = 9 then enc x / 134217728 else enc x / 33554432 := by
  obtain ⟨h1, h2, h3, h4, h5, h⟩ := h
  have hr := rowOk h1 h2
  have q1 := hr.code0; have q2 := hr.code; have q3 := hr.f3; have q4 := hr.f7; have q5 := hr.f76; have q6 := hr.f77; have q7 := hr.f79
  unfold enc
  generalize rowAt x.op = r at *
  unfold encR
  obtain ⟨A1, p1, b1, r1⟩ := pieces1 x.imm
  obtain ⟨A2, B2, C2, D2, p2, p2', p2'', p2''', b2, b2', b2'', b2''', r2⟩ := pieces2 x.imm
  obtain ⟨A3, p3, b3, r3⟩ := pieces3 x.imm
  obtain ⟨A4, B4, C4, D4, p4, p4', p4'', p4''', b4, b4', b4'', b4''', r4⟩ := pieces4 x.imm
  obtain ⟨A5, B5, p5, p5', b5, b5', r5⟩ := pieces5 x.imm
  have hd : D4 = C2 := p4'''.symm.trans p2''
  subst hd
  simp only [p1, p2, p2', p2'', p2''', p3, p4, p4', p4'', p5, p5']
  clear p1 p2 p2' p2'' p2''' p3 p4 p4' p4'' p4''' p5 p5' r1 r2 r3 r4 r5
  rcases h with h | h | h | h | h | h | h | h | h | h <;> simp [h.1] at h' q2 q5 q6 q7 ⊢ <;> omega

theorem enc_code10 (h' : (rowAt x.op).form = 10) : enc x = (rowAt x.op).code := by
  unfold enc encR; simp [h']

theorem Ins.ext' {a b : Ins} (h1 : a.op = b.op) (h2 : a.rd = b.rd) (h3 : a.rs1 = b.rs1) (h4 : a.rs2 = b.rs2) (h5 : a.imm = b.imm) : a = b := by
  cases a; cases b; simp at *; exact ⟨h1, h2, h3, h4, h5⟩

/-- What was written is read. -/
theorem dec_enc (h : May x) : decR (rowAt x.op) x.op (enc x) = x := by
  obtain ⟨h1, h2, h3, h4, h5, h⟩ := h
  have hr := rowOk h1 h2
  have q1 := hr.code0; have q2 := hr.code; have q3 := hr.f3; have q4 := hr.f7; have q5 := hr.f76; have q6 := hr.f77; have q7 := hr.f79
  unfold enc
  generalize rowAt x.op = r at *
  unfold encR
  obtain ⟨A1, p1, b1, r1⟩ := pieces1 x.imm
  obtain ⟨A2, B2, C2, D2, p2, p2', p2'', p2''', b2, b2', b2'', b2''', r2⟩ := pieces2 x.imm
  obtain ⟨A3, p3, b3, r3⟩ := pieces3 x.imm
  obtain ⟨A4, B4, C4, D4, p4, p4', p4'', p4''', b4, b4', b4'', b4''', r4⟩ := pieces4 x.imm
  obtain ⟨A5, B5, p5, p5', b5, b5', r5⟩ := pieces5 x.imm
  have hd : D4 = C2 := p4'''.symm.trans p2''
  subst hd
  simp only [p1, p2, p2', p2'', p2''', p3, p4, p4', p4'', p5, p5']
  clear p1 p2 p2' p2'' p2''' p3 p4 p4' p4'' p4''' p5 p5'
  unfold decR
  rcases h with h | h | h | h | h | h | h | h | h | h
  · have e : (r.code + x.rd * 128 + A1 * 4096) / 4096 % 1048576 = A1 := by clear r1 r2 r3 r4 r5; omega
    simp only [h.1, if_true]
    refine Ins.ext' rfl ?_ ?_ ?_ ?_ <;> simp only [] <;> first | (clear r1 r2 r3 r4 r5; omega) | skip
    rw [e]; exact r1 h.2.2.2.1 h.2.2.2.2.1 h.2.2.2.2.2
  · have q := q2 (by omega)
    clear q2 q5 q6 q7 hr
    simp only [h.1, if_true, show ¬ ((2 : Int) = 1) by decide, if_false]
    generalize hw : r.code + x.rd * 128 + A2 * 2147483648 + B2 * 2097152 + D4 * 1048576 + D2 * 4096 = w
    have e1 : w / 2147483648 % 2 = A2 := by clear r1 r2 r3 r4 r5; omega
    have e2 : w / 4096 % 256 = D2 := by clear r1 r2 r3 r4 r5; omega
    have e3 : w / 1048576 % 2 = D4 := by clear r1 r2 r3 r4 r5; omega
    have e4 : w / 2097152 % 1024 = B2 := by clear r1 r2 r3 r4 r5; omega
    rw [e1, e2, e3, e4]
    refine Ins.ext' rfl ?_ ?_ ?_ ?_ <;> simp only [] <;> first | (clear r1 r2 r3 r4 r5; omega) | skip
    exact r2 h.2.2.2.1 h.2.2.2.2.1 h.2.2.2.2.2
  · have q := q2 (by omega)
    clear q2 q5 q6 q7 hr
    simp only [h.1, if_true, show ¬ ((3 : Int) = 1) by decide, show ¬ ((3 : Int) = 2) by decide, if_false]
    generalize hw : r.code + x.rd * 128 + r.f3 * 4096 + x.rs1 * 32768 + A3 * 1048576 = w
    have e1 : w / 1048576 % 4096 = A3 := by clear r1 r2 r3 r4 r5; omega
    rw [e1]
    refine Ins.ext' rfl ?_ ?_ ?_ ?_ <;> simp only [] <;> first | (clear r1 r2 r3 r4 r5; omega) | skip
    exact r3 h.2.2.1 h.2.2.2
  · have q := q2 (by omega)
    clear q2 q5 q6 q7 hr
    simp only [h.1, if_true, show ¬ ((4 : Int) = 1) by decide, show ¬ ((4 : Int) = 2) by decide, show ¬ ((4 : Int) = 3) by decide, if_false]
    generalize hw : r.code + r.f3 * 4096 + x.rs1 * 32768 + x.rs2 * 1048576 + A4 * 2147483648 + B4 * 33554432 + C4 * 256 + D4 * 128 = w
    have e1 : w / 2147483648 % 2 = A4 := by clear r1 r2 r3 r4 r5; omega
    have e2 : w / 128 % 2 = D4 := by clear r1 r2 r3 r4 r5; omega
    have e3 : w / 33554432 % 64 = B4 := by clear r1 r2 r3 r4 r5; omega
    have e4 : w / 256 % 16 = C4 := by clear r1 r2 r3 r4 r5; omega
    rw [e1, e2, e3, e4]
    refine Ins.ext' rfl ?_ ?_ ?_ ?_ <;> simp only [] <;> first | (clear r1 r2 r3 r4 r5; omega) | skip
    exact r4 h.2.2.1 h.2.2.2.1 h.2.2.2.2
  · have q := q2 (by omega)
    clear q2 q5 q6 q7 hr
    simp only [h.1, if_true, show ¬ ((5 : Int) = 1) by decide, show ¬ ((5 : Int) = 2) by decide, show ¬ ((5 : Int) = 3) by decide, show ¬ ((5 : Int) = 4) by decide, if_false]
    generalize hw : r.code + r.f3 * 4096 + x.rs1 * 32768 + x.rs2 * 1048576 + A5 * 33554432 + B5 * 128 = w
    have e1 : w / 33554432 % 128 = A5 := by clear r1 r2 r3 r4 r5; omega
    have e2 : w / 128 % 32 = B5 := by clear r1 r2 r3 r4 r5; omega
    rw [e1, e2]
    refine Ins.ext' rfl ?_ ?_ ?_ ?_ <;> simp only [] <;> first | (clear r1 r2 r3 r4 r5; omega) | skip
    exact r5 h.2.2.1 h.2.2.2
  all_goals (clear r1 r2 r3 r4 r5; simp [h.1] at q2 q5 q6 q7 ⊢; refine Ins.ext' rfl ?_ ?_ ?_ ?_ <;> simp only [] <;> omega)

theorem enc_inj (hx : May x) (hy : May y) (h : enc x = enc y) : x = y := by
  have hop : x.op = y.op := by
    apply Classical.byContradiction
    intro hne
    have ha := apart_ops ⟨hx.1, hx.2.1⟩ ⟨hy.1, hy.2.1⟩ hne
    have c1 := enc_code hx; have c2 := enc_code hy
    have f1 := enc_f3 hx; have f2 := enc_f3 hy
    have s1 := enc_f7 hx; have s2 := enc_f7 hy
    have t1 := @enc_code10 x; have t2 := @enc_code10 y
    rw [h] at c1 f1 s1 t1
    simp only [apart, Bool.or_eq_true, Bool.and_eq_true, decide_eq_true_eq] at ha
    rcases ha with ((ha | ha) | ha) | ha
    · exact ha (c1.symm.trans c2)
    · exact ha.2 ((f1 ⟨ha.1.1, ha.1.2.1⟩).symm.trans (f2 ⟨ha.1.2.2.1, ha.1.2.2.2⟩))
    · refine ha.2 ((s1 ha.1.2).trans (Eq.trans ?_ (s2 (ha.1.1 ▸ ha.1.2)).symm))
      rw [ha.1.1]
    · exact ha.2 ((t1 ha.1.1).symm.trans (t2 ha.1.2))
  rw [← dec_enc hx, ← dec_enc hy, hop, h]

end
end Go.Proofs.Inst

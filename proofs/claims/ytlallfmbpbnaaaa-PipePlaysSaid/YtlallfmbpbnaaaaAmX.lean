/- Steps at a point: what an operation that waits for a fact does once the fact is given. -/
import Derived.Test.YtlallfmbpbnaaaaAmAt
namespace Go.AM

/-- Temporaries, told by those that hold something. -/
def tm : Nat → List (Nat × TV) → Nat → List TV
  | 0, _, _ => []
  | n + 1, [], i => .no :: tm n [] (i + 1)
  | n + 1, (j, t) :: r, i => if j = i then t :: tm n r (i + 1) else .no :: tm n ((j, t) :: r) (i + 1)

def callHead (P : Program) (f : FuncId) (p : List Nat) (env : Env) : Option (FuncId × List AV) :=
  match (op P f p).op with
  | .call c => match c.callee with
    | .value x => match env.get x with
      | .v (.func (.func fid) first captured) => match valsOf (c.args.toList.map env.get) with
        | some args => some (fid, first ++ args ++ captured)
        | none => none
      | _ => none
    | _ => none
  | _ => none

section
variable {P : Program} {f : FuncId} {n : Nat} {p ms : List Nat} {env : Env} {σ σ' : St}

theorem x_call {fid : FuncId} {args : List AV} {v : AV} (hg : good P f p ms env = true) (hh : callHead P f p env = some (fid, args)) (h : callP P n fid args σ = some (.ret v, σ')) :
    pt P f n p ms env σ = after P f n p ms env (.v v) env σ' := by
  rw [pt_step hg]
  unfold callHead at hh
  split at hh
  · rename_i c hc
    unfold xop
    simp only [hc]
    split at hh
    · rename_i x hx
      simp only [hx]
      split at hh
      · rename_i fid' first captured hv
        simp only [hv]
        split at hh
        · rename_i args' ha
          simp only [ha]
          cases hh
          unfold callK
          simp only [h]
        · cases hh
      · cases hh
    · cases hh
  · cases hh

def catHead (P : Program) (f : FuncId) (p : List Nat) (env : Env) : Option (List UInt8 × List UInt8) :=
  match (op P f p).op with
  | .binOp .add _ x y _ => match env.get x with
    | .v (.str a) => match env.get y with | .v (.str b) => some (a, b) | _ => none
    | _ => none
  | _ => none

theorem x_cat {a b : List UInt8} (hg : good P f p ms env = true) (hh : catHead P f p env = some (a, b)) (h : a.length + b.length ≤ 4611686018427387904) :
    pt P f n p ms env σ = after P f n p ms env (.v (.str (a ++ b))) env σ := by
  rw [pt_step hg]
  unfold catHead at hh
  split at hh
  · rename_i t x y t' ho
    unfold xop
    simp only [ho]
    split at hh
    · rename_i a' hx
      simp only [hx]
      split at hh
      · rename_i b' hy
        simp only [hy]
        cases hh
        unfold binK
        simp only [sbin, if_pos h]
      · cases hh
    · cases hh
  · cases hh

def boundO (x : Option TV) (d : Int) : Option Int := match x with | some (.v (.int _ n)) => some n | none => some d | _ => none

def cutHead (P : Program) (f : FuncId) (p : List Nat) (env : Env) : Option (List UInt8 × Int × Int) :=
  match (op P f p).op with
  | .slice t x lo hi none => match P.underlying t with
    | some .string => match env.get x with
      | .v (.str s) => match boundO (lo.map env.get) 0, boundO (hi.map env.get) s.length with
        | some l, some h => some (s, l, h)
        | _, _ => none
      | _ => none
    | _ => none
  | _ => none

theorem bound_of {x : Option TV} {d n : Int} {g : Int → Out} (h : boundO x d = some n) : boundK x d g = g n := by
  unfold boundO at h
  split at h
  · cases h; rfl
  · cases h; rfl
  · cases h

theorem x_cut {s : List UInt8} {l h : Int} (hg : good P f p ms env = true) (hh : cutHead P f p env = some (s, l, h)) (hb : 0 ≤ l ∧ l ≤ h ∧ h ≤ s.length) :
    pt P f n p ms env σ = after P f n p ms env (.v (.str ((s.take h.toNat).drop l.toNat))) env σ := by
  rw [pt_step hg]
  unfold cutHead at hh
  split at hh
  · rename_i t x lo hi ho
    unfold xop
    simp only [ho]
    split at hh
    · rename_i ht
      unfold sliceK
      simp only [ht]
      split at hh
      · rename_i s' hx
        simp only [hx]
        split at hh
        · rename_i l' h' hl hh'
          cases hh
          rw [bound_of hh', bound_of hl, if_pos hb]
        · cases hh
      · cases hh
    · cases hh
  · cases hh

def byteHead (P : Program) (f : FuncId) (p : List Nat) (env : Env) : Option (List UInt8 × Int) :=
  match (op P f p).op with
  | .index t x ix => match P.underlying t with
    | some .string => match env.get x with
      | .v (.str s) => match env.get ix with
        | .v (.int _ i) => some (s, i)
        | _ => none
      | _ => none
    | _ => none
  | _ => none

theorem x_byte {s : List UInt8} {i : Int} {b : UInt8} (hg : good P f p ms env = true) (hh : byteHead P f p env = some (s, i)) (hi : 0 ≤ i) (hb : s[i.toNat]? = some b) :
    pt P f n p ms env σ = after P f n p ms env (.v (.int .u8 b.toNat)) env σ := by
  rw [pt_step hg]
  unfold byteHead at hh
  split at hh
  · rename_i t x ix ho
    unfold xop
    simp only [ho]
    split at hh
    · rename_i ht
      split at hh
      · rename_i s' hx
        split at hh
        · rename_i k i' hix
          cases hh
          simp only [natK, hix, ht, hx, if_pos hi, hb]
        · cases hh
      · cases hh
    · cases hh
  · cases hh

/-- An element's place: what leads there, how many there are, the index. -/
def adrHead (P : Program) (f : FuncId) (p : List Nat) (env : Env) : Option (TV × Int × Int) :=
  match (op P f p).op with
  | .indexAddr t x ix => match env.get ix with
    | .v (.int _ i) => match P.underlying t with
      | some (.array n e) => match env.get x with
        | .lp key off => some (.lp key (off + i.toNat * szOf P e), n, i)
        | .v (.ptr (some (b, off))) => some (.v (.ptr (some (b, off + i.toNat * szOf P e))), n, i)
        | _ => none
      | some (.slice e) => match env.get x with
        | .ls key n => some (.lp key (i.toNat * szOf P e), n, i)
        | .v (.slice (some (b, off)) n _ sz) => if sz = szOf P e then some (.v (.ptr (some (b, off + i.toNat * szOf P e))), n, i) else none
        | _ => none
      | _ => none
    | _ => none
  | _ => none

theorem x_elem {t : TV} {len i : Int} (hg : good P f p ms env = true) (hh : adrHead P f p env = some (t, len, i)) (hi : 0 ≤ i ∧ i < len) :
    pt P f n p ms env σ = after P f n p ms env t env σ := by
  rw [pt_step hg]
  unfold adrHead at hh
  split at hh
  · rename_i t x ix ho
    unfold xop
    simp only [ho]
    split at hh
    · rename_i k i' hix
      simp only [natK, hix]
      split at hh
      · rename_i m e ht
        simp only [ht]
        split at hh
        · rename_i key off hx
          cases hh
          simp only [hx, if_pos hi]
        · rename_i b off hx
          cases hh
          simp only [hx, if_pos hi]
        · cases hh
      · rename_i e ht
        simp only [ht]
        split at hh
        · rename_i key m hx
          cases hh
          simp only [hx, if_pos hi]
        · rename_i b off m c sz hx
          split at hh
          · rename_i hsz
            cases hh
            simp only [hx, if_pos hi, if_pos hsz]
          · cases hh
        · cases hh
      · cases hh
    · cases hh
  · cases hh

def loadHead (P : Program) (f : FuncId) (p : List Nat) (env : Env) : Option (TypeId × Nat × Nat) :=
  match (op P f p).op with
  | .load t a => match env.get a with
    | .v (.ptr (some (b, off))) => some (t, b, off)
    | _ => none
  | _ => none

def ldO (P : Program) (t : TypeId) (σ : St) (b off : Nat) : Option AV :=
  match cellsAt σ b with
  | some cs => partO P t cs off
  | none => none

theorem part_of {t : TypeId} {cs : List AV} {off : Nat} {x : AV} {k : AV → Out} (h : partO P t cs off = some x) : partK P t cs off k = k x := by
  unfold partO at h
  unfold partK
  split at h
  · split at h
    · rename_i hle
      simp only [if_pos hle]
      cases h; rfl
    · cases h
  · simp only [h]
  · cases h

theorem x_load {t : TypeId} {b off : Nat} {x : AV} (hg : good P f p ms env = true) (hh : loadHead P f p env = some (t, b, off)) (h : ldO P t σ b off = some x) :
    pt P f n p ms env σ = after P f n p ms env (.v x) env σ := by
  rw [pt_step hg]
  unfold loadHead at hh
  split at hh
  · rename_i t' a ho
    unfold xop
    simp only [ho]
    split at hh
    · rename_i b' off' ha
      cases hh
      unfold ldO at h
      split at h
      · rename_i cs hcs
        unfold loadK
        simp only [ha, hcs]
        exact part_of h
      · cases h
    · cases hh
  · cases hh

/-- A part of several cells: of a local box, of a value's field. -/
def partHead (P : Program) (f : FuncId) (p : List Nat) (env : Env) : Option (TypeId × List AV × Nat) :=
  match (op P f p).op with
  | .load t a => match env.get a with
    | .lp key off => match lookL env.locs key with | some cs => some (t, cs, off) | none => none
    | _ => none
  | .field s x j => match fieldOf P s j with
    | some fl => match env.get x with | .v (.agg cs) => some (fl.type, cs, fl.offset) | _ => none
    | none => none
  | _ => none

theorem x_part {t : TypeId} {cs : List AV} {off : Nat} {x : AV} (hg : good P f p ms env = true) (hh : partHead P f p env = some (t, cs, off)) (h : partO P t cs off = some x) :
    pt P f n p ms env σ = after P f n p ms env (.v x) env σ := by
  rw [pt_step hg]
  unfold partHead at hh
  split at hh
  · rename_i t' a ho
    unfold xop
    simp only [ho]
    split at hh
    · rename_i key off' ha
      split at hh
      · rename_i cs' hl
        cases hh
        simp only [loadK, ha, hl]
        exact part_of h
      · cases hh
    · cases hh
  · rename_i s x' j ho
    unfold xop
    simp only [ho]
    split at hh
    · rename_i fl hf
      simp only [hf]
      split at hh
      · rename_i cs' hx
        cases hh
        simp only [hx]
        exact part_of h
      · cases hh
    · cases hh
  · cases hh

/-- An element of an array's value. -/
def indexHead (P : Program) (f : FuncId) (p : List Nat) (env : Env) : Option (TypeId × List AV × Nat × Int) :=
  match (op P f p).op with
  | .index t x ix => match env.get ix with
    | .v (.int _ i) => match P.underlying t with
      | some (.array n e) => match env.get x with
        | .v (.agg cs) => some (e, cs, n, i)
        | _ => none
      | _ => none
    | _ => none
  | _ => none

theorem x_index {e : TypeId} {cs : List AV} {len : Nat} {i : Int} {x : AV} (hg : good P f p ms env = true) (hh : indexHead P f p env = some (e, cs, len, i)) (hi : 0 ≤ i ∧ i < (len : Int)) (h : partO P e cs (i.toNat * szOf P e) = some x) :
    pt P f n p ms env σ = after P f n p ms env (.v x) env σ := by
  rw [pt_step hg]
  unfold indexHead at hh
  split at hh
  · rename_i t x' ix ho
    unfold xop
    simp only [ho]
    split at hh
    · rename_i k i' hix
      simp only [natK, hix]
      split at hh
      · rename_i m e' ht
        simp only [ht]
        split at hh
        · rename_i cs' hx
          cases hh
          simp only [hx, if_pos hi]
          exact part_of h
        · cases hh
      · cases hh
    · cases hh
  · cases hh

def storeHead (P : Program) (f : FuncId) (p : List Nat) (env : Env) : Option (TypeId × Nat × Nat × AV) :=
  match (op P f p).op with
  | .store t a x => match env.get a with
    | .v (.ptr (some (b, off))) => match env.get x with | .v y => some (t, b, off, y) | _ => none
    | _ => none
  | _ => none

def stO (P : Program) (t : TypeId) (σ : St) (b off : Nat) (y : AV) : Option St :=
  if y.cells.length = szOf P t ∧ (P.info? t).isSome = true then
    if y.cells.all AV.one then
      match σ[b]? with
      | some (.cells cs true) => if off + y.cells.length ≤ cs.length then some (σ.set b (.cells (setMany cs off y.cells) true)) else none
      | _ => none
    else none
  else none

theorem x_store {t : TypeId} {b off : Nat} {y : AV} (hg : good P f p ms env = true) (hh : storeHead P f p env = some (t, b, off, y)) (h : stO P t σ b off y = some σ') :
    pt P f n p ms env σ = after P f n p ms env .no env σ' := by
  rw [pt_step hg]
  unfold storeHead at hh
  split at hh
  · rename_i t' a x ho
    unfold xop
    simp only [ho]
    split at hh
    · rename_i b' off' ha
      split at hh
      · rename_i y' hx
        cases hh
        unfold storeK
        simp only [ha, hx]
        unfold stO at h
        split at h
        · rename_i h1
          split at h
          · rename_i h2
            split at h
            · rename_i cs hcs
              split at h
              · rename_i h3
                cases h
                simp only [if_pos h1, if_pos h2, hcs, if_pos h3]
              · cases h
            · cases h
          · cases h
        · cases h
      · cases hh
    · cases hh
  · cases hh

def lstHead (P : Program) (f : FuncId) (p : List Nat) (env : Env) : Option (TypeId × Nat × List AV × Nat × AV) :=
  match (op P f p).op with
  | .store t a x => match env.get a with
    | .lp key off => match env.get x with
      | .v y => match lookL env.locs key with | some cs => some (t, key, cs, off, y) | none => none
      | _ => none
    | _ => none
  | _ => none

def lstO (P : Program) (t : TypeId) (cs : List AV) (off : Nat) (y : AV) : Option (List AV) :=
  if y.cells.length = szOf P t ∧ (P.info? t).isSome = true then
    if y.cells.all AV.one then
      if off + y.cells.length ≤ cs.length then some (setMany cs off y.cells) else none
    else none
  else none

theorem x_lstore {t : TypeId} {key off : Nat} {cs cs' : List AV} {y : AV} {env' : Env} (hg : good P f p ms env = true) (hh : lstHead P f p env = some (t, key, cs, off, y)) (h : lstO P t cs off y = some cs')
    (he : env' = { env with locs := setL env.locs key cs' }) : pt P f n p ms env σ = after P f n p ms env .no env' σ := by
  subst he
  rw [pt_step hg]
  unfold lstHead at hh
  split at hh
  · rename_i t' a x ho
    unfold xop
    simp only [ho]
    split at hh
    · rename_i key' off' ha
      split at hh
      · rename_i y' hx
        split at hh
        · rename_i cs1 hl
          cases hh
          unfold storeK
          simp only [ha, hx]
          unfold lstO at h
          split at h
          · rename_i h1
            split at h
            · rename_i h2
              split at h
              · rename_i h3
                cases h
                simp only [if_pos h1, if_pos h2, hl, if_pos h3]
              · cases h
            · cases h
          · cases h
        · cases hh
      · cases hh
    · cases hh
  · cases hh

/-- The cells of a new box; whether it is a local one. -/
def boxHead (P : Program) (f : FuncId) (p : List Nat) (env : Env) : Option (Option Nat × List AV) :=
  let l := match (op P f p).dst with | some d => if (lmOf P f).testBit d then some d else none | none => none
  match (op P f p).op with
  | .alloc t => match zeroOf P t with | some z => some (l, z.cells) | none => none
  | .box _ x => match env.get x with | .v y => some (l, y.cells) | _ => none
  | _ => none

theorem box_loc {k : TV → Env → St → Out} {cs : List AV} {o : Oper} {d : Nat} {lm : Nat} (h : cs.all AV.one = true) (hd : (match o.dst with | some d => if lm.testBit d then some d else none | none => none) = some d) :
    boxK (match o.dst with | some d => lm.testBit d | none => false) o.dst env σ cs k = k (.lp d 0) (env.newL d cs) σ := by
  unfold boxK
  rw [if_pos h]
  cases ho : o.dst with
  | none => rw [ho] at hd; cases hd
  | some d' =>
    rw [ho] at hd
    simp only at hd
    split at hd
    · rename_i hb
      cases hd
      simp only [hb]
    · cases hd

theorem box_heap {k : TV → Env → St → Out} {cs : List AV} {o : Oper} {lm : Nat} (h : cs.all AV.one = true) (hd : (match o.dst with | some d => if lm.testBit d then some d else none | none => none) = none) :
    boxK (match o.dst with | some d => lm.testBit d | none => false) o.dst env σ cs k = k (.v (.ptr (some (σ.length, 0)))) env (σ ++ [.cells cs true]) := by
  unfold boxK
  rw [if_pos h]
  cases ho : o.dst with
  | none => rfl
  | some d' =>
    rw [ho] at hd
    simp only at hd
    split at hd
    · cases hd
    · rename_i hb
      simp only [hb]

theorem x_boxl {d : Nat} {cs : List AV} {env' : Env} (hg : good P f p ms env = true) (hh : boxHead P f p env = some (some d, cs)) (h : cs.all AV.one = true) (he : env' = env.newL d cs) :
    pt P f n p ms env σ = after P f n p ms env (.lp d 0) env' σ := by
  subst he
  rw [pt_step hg]
  unfold boxHead at hh
  simp only at hh
  split at hh
  · rename_i t ho
    unfold xop
    simp only [ho]
    split at hh
    · rename_i z hz
      simp only [Option.some.injEq, Prod.mk.injEq] at hh
      obtain ⟨h1, rfl⟩ := hh
      simp only [hz]
      exact box_loc h h1
    · cases hh
  · rename_i t x ho
    unfold xop
    simp only [ho]
    split at hh
    · rename_i y hx
      simp only [Option.some.injEq, Prod.mk.injEq] at hh
      obtain ⟨h1, rfl⟩ := hh
      simp only [hx]
      exact box_loc h h1
    · cases hh
  · cases hh

theorem x_boxh {cs : List AV} (hg : good P f p ms env = true) (hh : boxHead P f p env = some (none, cs)) (h : cs.all AV.one = true) :
    pt P f n p ms env σ = after P f n p ms env (.v (.ptr (some (σ.length, 0)))) env (σ ++ [.cells cs true]) := by
  rw [pt_step hg]
  unfold boxHead at hh
  simp only at hh
  split at hh
  · rename_i t ho
    unfold xop
    simp only [ho]
    split at hh
    · rename_i z hz
      simp only [Option.some.injEq, Prod.mk.injEq] at hh
      obtain ⟨h1, rfl⟩ := hh
      simp only [hz]
      exact box_heap h h1
    · cases hh
  · rename_i t x ho
    unfold xop
    simp only [ho]
    split at hh
    · rename_i y hx
      simp only [Option.some.injEq, Prod.mk.injEq] at hh
      obtain ⟨h1, rfl⟩ := hh
      simp only [hx]
      exact box_heap h h1
    · cases hh
  · cases hh

def AV.plain : AV → Bool
  | .int _ _ | .str _ => false
  | _ => true

def eqHead (P : Program) (f : FuncId) (p : List Nat) (env : Env) : Option (Bool × TypeId × AV × AV) :=
  match (op P f p).op with
  | .binOp o t x y _ => match env.get x with
    | .v a => match env.get y with
      | .v b => if eqFree P t = true ∧ a.plain = true then (match o with | .eql => some (true, t, a, b) | .neq => some (false, t, a, b) | _ => none) else none
      | _ => none
    | _ => none
  | _ => none

theorem x_eq {t : TypeId} {x y : AV} {b e : Bool} (hg : good P f p ms env = true) (hh : eqHead P f p env = some (e, t, x, y)) (h : eqIn P 100 t x y = some b) :
    pt P f n p ms env σ = after P f n p ms env (.v (.bool (cond e b (!b)))) env σ := by
  rw [pt_step hg]
  unfold eqHead at hh
  split at hh
  · rename_i o t' x' y' t'' ho
    unfold xop
    simp only [ho]
    split at hh
    · rename_i a hx
      simp only [hx]
      split at hh
      · rename_i b' hy
        simp only [hy]
        split at hh
        · rename_i hc
          split at hh
          · cases hh
            cases x <;> first | (simp [AV.plain] at hc; done) | (simp only [binK, if_pos hc.1, h, cond])
          · cases hh
            cases x <;> first | (simp [AV.plain] at hc; done) | (simp only [binK, if_pos hc.1, h, cond])
          · cases hh
        · cases hh
      · cases hh
    · cases hh
  · cases hh

def intHead (P : Program) (f : FuncId) (p : List Nat) (env : Env) : Option (BinOp × IntKind × Int × Int) :=
  match (op P f p).op with
  | .binOp o _ x y _ => match env.get x with
    | .v (.int k a) => match env.get y with
      | .v (.int k' b) => if o = .shl ∨ o = .shr ∨ k = k' then some (o, k, a, b) else none
      | _ => none
    | _ => none
  | _ => none

theorem x_int {o : BinOp} {k : IntKind} {a b : Int} {r : AV} (hg : good P f p ms env = true) (hh : intHead P f p env = some (o, k, a, b)) (h : ibin o k a b = some r) :
    pt P f n p ms env σ = after P f n p ms env (.v r) env σ := by
  rw [pt_step hg]
  unfold intHead at hh
  split at hh
  · rename_i o' t' x' y' t'' ho
    unfold xop
    simp only [ho]
    split at hh
    · rename_i k1 a1 hx
      simp only [hx]
      split at hh
      · rename_i k2 b1 hy
        simp only [hy]
        split at hh
        · rename_i hc
          cases hh
          simp only [binK, if_pos hc, h]
        · cases hh
      · cases hh
    · cases hh
  · cases hh

theorem x_quo {k : IntKind} {a b : Int} (hg : good P f p ms env = true) (hh : intHead P f p env = some (.quo, k, a, b)) (h : b ≠ 0) :
    pt P f n p ms env σ = after P f n p ms env (.v (.int k (k.wrap (a.tdiv b)))) env σ := x_int hg hh (by simp [ibin, h])
theorem x_rem {k : IntKind} {a b : Int} (hg : good P f p ms env = true) (hh : intHead P f p env = some (.rem, k, a, b)) (h : b ≠ 0) :
    pt P f n p ms env σ = after P f n p ms env (.v (.int k (a.tmod b))) env σ := x_int hg hh (by simp [ibin, h])
theorem x_shl {k : IntKind} {a b : Int} (hg : good P f p ms env = true) (hh : intHead P f p env = some (.shl, k, a, b)) (h : 0 ≤ b) :
    pt P f n p ms env σ = after P f n p ms env (.v (.int k (k.wrap (a * 2 ^ (min b.toNat k.bits))))) env σ := x_int hg hh (by simp [ibin, Int.not_lt.2 h])
theorem x_shr {k : IntKind} {a b : Int} (hg : good P f p ms env = true) (hh : intHead P f p env = some (.shr, k, a, b)) (h : 0 ≤ b) :
    pt P f n p ms env σ = after P f n p ms env (.v (.int k (a.fdiv (2 ^ (min b.toNat k.bits))))) env σ := x_int hg hh (by simp [ibin, Int.not_lt.2 h])

end
end Go.AM

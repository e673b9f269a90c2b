/- The table's functions, in closed form. -/
import Derived.Test.YtgaodjcjgafccaaAmS
import Derived.Test.YtgaodjcjgafccaaT0
import Derived.Test.YtgaodjcjgafccaaT1
namespace Go.Proofs
open Go.AM

structure Rw where
  st : Int
  pa : Int
  sta : Int
  kl : Bool
  deriving DecidableEq

def rwC (r : Rw) : List AV := [.int .i64 r.st, .int .i64 r.pa, .int .i64 r.sta, .bool r.kl]
abbrev tb (T : List Rw) : List AV := T.flatMap rwC
def tg (T : List Rw) (i : Nat) : Rw := T.getD i ⟨0, 0, 0, false⟩

theorem rwC_len (r : Rw) : (rwC r).length = 4 := rfl
theorem rwC_one (r : Rw) : (rwC r).all AV.one = true := rfl
theorem tb_len {T : List Rw} (h : T.length = 8) : (tb T).length = 32 := by rw [tb, flat_length rwC_len, h]
theorem tg_get {T : List Rw} {i : Nat} (h : T.length = 8) (hi : i < 8) : T[i]? = some (tg T i) := by
  unfold tg
  rw [List.getD_eq_getElem?_getD, List.getElem?_eq_getElem (by omega)]; rfl
theorem tg_set {T : List Rw} {i j : Nat} {r : Rw} (h : T.length = 8) (hj : j < 8) : tg (T.set i r) j = if i = j then r else tg T j := by
  unfold tg
  rw [List.getD_eq_getElem?_getD, List.getD_eq_getElem?_getD, List.getElem?_set]
  by_cases e : i = j
  · subst e; rw [if_pos rfl, if_pos rfl, if_pos (by omega)]; rfl
  · rw [if_neg e, if_neg e]

theorem a3 : aggO Try.prog 3 = some false := by kernel_rfl
theorem a4 : aggO Try.prog 4 = some false := by kernel_rfl
theorem a25 : aggO Try.prog 25 = some true := by kernel_rfl
theorem a27 : aggO Try.prog 27 = some true := by kernel_rfl
theorem s25 : szOf Try.prog 25 = 4 := by kernel_rfl
theorem s27 : szOf Try.prog 27 = 32 := by kernel_rfl
theorem i27 : (Try.prog.info? 27).isSome = true := by kernel_rfl

theorem ones_tb {T : List Rw} {x : Out} : onesK (tb T) x = x := onesK_ok (all_flat rwC_one T)
theorem all_tb {T : List Rw} {f : AV → Out} (h : T.length = 8) : partK Try.prog 27 (tb T) 0 f = f (.agg (tb T)) := partK_all a27 s27 (tb_len h)
theorem well_tb {T : List Rw} {x : Out} (h : T.length = 8) : wellK Try.prog 27 (tb T) x = x := wellK_ok (by rw [tb_len h, s27]) i27 (all_flat rwC_one T)
theorem lst_tb {T : List Rw} {cs : List AV} {f : List AV → Out} (h : T.length = 8) (hc : cs.length = 32) : lstK cs 0 (tb T) f = f (tb T) := lstK_all (by rw [tb_len h, hc])

section
variable {T : List Rw} {n : Nat} {σ : St}

theorem cell_tb {i j off : Nat} {v : AV} {f : AV → Out} {t : TypeId} (h : T.length = 8) (hi : i < 8) (ha : aggO Try.prog t = some false) (hv : (rwC (tg T i))[j]? = some v) (ho : off = i * 4 + j) : partK Try.prog t (tb T) off f = f v :=
  partK_cell rwC_len ha (tg_get h hi) hv ho
theorem row_tb {i off : Nat} {f : AV → Out} (h : T.length = 8) (hi : i < 8) (ho : off = i * 4) : partK Try.prog 25 (tb T) off f = f (.agg (rwC (tg T i))) :=
  partK_part rwC_len a25 s25 (tg_get h hi) ho
theorem set_tb {i j off : Nat} {r : Rw} {ys : List AV} {f : List AV → Out} (h : T.length = 8) (hi : i < 8) (ho : off = i * 4 + j) (hj : j + ys.length ≤ 4) (he : setMany (rwC (tg T i)) j ys = rwC r) : lstK (tb T) off ys f = f (tb (T.set i r)) :=
  lstK_part rwC_len (tg_get h hi) ho hj he

theorem ix {i : Nat} (hi : i < 8) {x : Out} : idxK (i : Int) 8 x = x := idxK_ok (by omega)
theorem c0 (h : T.length = 8) {i : Nat} (hi : i < 8) {f : AV → Out} : partK Try.prog 3 (tb T) (0 + (i : Int).toNat * 4 + 0) f = f (.int .i64 (tg T i).st) := cell_tb h hi (j := 0) a3 rfl (by simp)
theorem c1 (h : T.length = 8) {i : Nat} (hi : i < 8) {f : AV → Out} : partK Try.prog 3 (tb T) (0 + (i : Int).toNat * 4 + 1) f = f (.int .i64 (tg T i).pa) := cell_tb h hi (j := 1) a3 rfl (by simp)
theorem c2 (h : T.length = 8) {i : Nat} (hi : i < 8) {f : AV → Out} : partK Try.prog 3 (tb T) (0 + (i : Int).toNat * 4 + 2) f = f (.int .i64 (tg T i).sta) := cell_tb h hi (j := 2) a3 rfl (by simp)
theorem c3 (h : T.length = 8) {i : Nat} (hi : i < 8) {f : AV → Out} : partK Try.prog 4 (tb T) (0 + (i : Int).toNat * 4 + 3) f = f (.bool (tg T i).kl) := cell_tb h hi (j := 3) a4 rfl (by simp)
theorem cr (h : T.length = 8) {i : Nat} (hi : i < 8) {f : AV → Out} : partK Try.prog 25 (tb T) (0 + (i : Int).toNat * 4) f = f (.agg (rwC (tg T i))) := row_tb h hi (by simp)
theorem w0 (h : T.length = 8) {i : Nat} (hi : i < 8) {v : Int} {f : List AV → Out} : lstK (tb T) (0 + (i : Int).toNat * 4 + 0) [.int .i64 v] f = f (tb (T.set i { tg T i with st := v })) := set_tb h hi (j := 0) (by simp) (by simp) rfl
theorem w1 (h : T.length = 8) {i : Nat} (hi : i < 8) {v : Int} {f : List AV → Out} : lstK (tb T) (0 + (i : Int).toNat * 4 + 1) [.int .i64 v] f = f (tb (T.set i { tg T i with pa := v })) := set_tb h hi (j := 1) (by simp) (by simp) rfl
theorem w2 (h : T.length = 8) {i : Nat} (hi : i < 8) {v : Int} {f : List AV → Out} : lstK (tb T) (0 + (i : Int).toNat * 4 + 2) [.int .i64 v] f = f (tb (T.set i { tg T i with sta := v })) := set_tb h hi (j := 2) (by simp) (by simp) rfl
theorem w3 (h : T.length = 8) {i : Nat} (hi : i < 8) {v : Bool} {f : List AV → Out} : lstK (tb T) (0 + (i : Int).toNat * 4 + 3) [.bool v] f = f (tb (T.set i { tg T i with kl := v })) := set_tb h hi (j := 3) (by simp) (by simp) rfl
theorem wr (h : T.length = 8) {i : Nat} (hi : i < 8) {a b c : Int} {d : Bool} {f : List AV → Out} : lstK (tb T) (0 + (i : Int).toNat * 4) [.int .i64 a, .int .i64 b, .int .i64 c, .bool d] f = f (tb (T.set i ⟨a, b, c, d⟩)) := set_tb h hi (j := 0) (r := ⟨a, b, c, d⟩) (by simp) (by simp) rfl
theorem succ64 {i : Nat} (hi : i < 8) : IntKind.wrap .i64 ((i : Int) + 1) = ((i + 1 : Nat) : Int) := by rw [wrap64 (by omega) (by omega)]; simp

/-! ### lives, free, child -/

def lives (T : List Rw) (pid : Int) : Bool := decide (0 ≤ pid) && (decide (pid < 8) && ((tg T pid.toNat).st == 1))
def fr (r : Rw) : Bool := (r.st != 1) && (r.st != 2)
def childB (T : List Rw) (i : Nat) (pid : Int) : Bool := ((i : Int) != pid) && (!fr (tg T i) && ((tg T i).pa == pid))

theorem lives_lt {pid : Int} (h : lives T pid = true) : ∃ i : Nat, pid = i ∧ i < 8 ∧ (tg T i).st = 1 := by
  unfold lives at h
  simp only [Bool.and_eq_true, decide_eq_true_eq, beq_iff_eq] at h
  obtain ⟨h0, h8, h1⟩ := h
  obtain ⟨i, rfl⟩ := Int.eq_ofNat_of_zero_le h0
  exact ⟨i, rfl, by omega, h1⟩

theorem f21_spec (h : T.length = 8) (pid : Int) : callP Try.prog (n + 1) 21 [.agg (tb T), .int .i64 pid] σ = some (.ret (.bool (lives T pid)), σ) := by
  refine f21_e.some ?_
  unfold f21_t lives
  rw [ones_tb]
  by_cases h0 : 0 ≤ pid
  · by_cases h8 : pid < 8
    · obtain ⟨i, rfl⟩ := Int.eq_ofNat_of_zero_le h0
      have hi : i < 8 := by omega
      simp only [ix hi, c0 h hi]
      simp [h8]
    · simp [h8]
  · simp [h0]

theorem f24_spec (h : T.length = 8) (pid : Int) : callP Try.prog (n + 1) 24 [.agg (tb T), .int .i64 pid] σ = some (.ret (.bool (lives T pid)), σ) := by
  refine f24_e.some ?_
  unfold f24_t lives
  rw [ones_tb]
  by_cases h0 : 0 ≤ pid
  · by_cases h8 : pid < 8
    · obtain ⟨i, rfl⟩ := Int.eq_ofNat_of_zero_le h0
      have hi : i < 8 := by omega
      have h7 : (i : Int) ≤ 7 := by omega
      simp only [ix hi, c0 h hi]
      simp [h8, h7]
    · have : ¬ pid ≤ 7 := by omega
      simp [h8, this]
  · simp [h0]

theorem f22_spec {r : Rw} : callP Try.prog (n + 1) 22 [.agg [.int .i64 r.st, .int .i64 r.pa, .int .i64 r.sta, .bool r.kl]] σ = some (.ret (.bool (fr r)), σ) := by
  refine f22_e.some ?_
  unfold f22_t fr
  cases h : (r.st != 1) <;> simp

theorem f25_spec (h : T.length = 8) {i : Nat} (hi : i < 8) : callP Try.prog (n + 1) 25 [.agg (tb T), .int .i64 i] σ = some (.ret (.bool (!fr (tg T i))), σ) := by
  refine f25_e.some ?_
  unfold f25_t fr
  simp only [ones_tb, ix hi, c0 h hi, xInt_i, bne]
  cases (tg T i).st == 1 <;> cases (tg T i).st == 2 <;> rfl

theorem f23_spec (h : T.length = 8) {i : Nat} (hi : i < 8) (pid : Int) : callP Try.prog (n + 2) 23 [.agg (tb T), .int .i64 i, .int .i64 pid] σ = some (.ret (.bool (childB T i pid)), σ) := by
  refine f23_e.some ?_
  unfold f23_t childB
  simp only [ones_tb, ix hi, cr h hi, c1 h hi, xAgg_a, rwC, unC_c, xInt_i, xBool_b, nlC_n, callT_ok f22_spec]
  cases ((i : Int) != pid) <;> cases fr (tg T i) <;> rfl

/-! ### Fork -/

/-- The least free place from i on. -/
def ff (T : List Rw) : Nat → Nat → Option Nat
  | 0, _ => none
  | d + 1, i => if 0 < i ∧ fr (tg T i) = true then some i else ff T d (i + 1)

theorem ff_lt : ∀ {d i j : Nat}, ff T d i = some j → i ≤ j ∧ j < i + d ∧ 0 < j ∧ fr (tg T j) = true ∧ ∀ k, 0 < k → i ≤ k → k < j → fr (tg T k) = false
  | d + 1, i, j, h => by
    unfold ff at h
    split at h
    · rename_i hc; cases h; exact ⟨Nat.le_refl _, by omega, hc.1, hc.2, fun k _ _ _ => by omega⟩
    · rename_i hc
      obtain ⟨a, b, c, e, g⟩ := ff_lt h
      refine ⟨by omega, by omega, c, e, fun k k0 k1 k2 => ?_⟩
      by_cases hk : k = i
      · subst hk
        cases hf : fr (tg T k) with
        | false => rfl
        | true => exact absurd ⟨k0, hf⟩ hc
      · exact g k k0 (by omega) k2

def forkT (T : List Rw) (pid : Int) : List Rw := if lives T pid then (match ff T 8 0 with | some i => T.set i ⟨1, pid, 0, false⟩ | none => T) else T
def forkN (T : List Rw) (pid : Int) : Int := if lives T pid then (match ff T 8 0 with | some i => i | none => 0) else 0
def forkE (T : List Rw) (pid : Int) : Int := if lives T pid then (match ff T 8 0 with | some _ => 0 | none => 4) else 5

theorem forkT_len (h : T.length = 8) (pid : Int) : (forkT T pid).length = 8 := by
  unfold forkT
  split
  · split
    · simpa using h
    · exact h
  · exact h

theorem f10_loop (h : T.length = 8) (pid x y : Int) {cs : List AV} (hc : cs.length = 32) : ∀ (d i m : Nat) (z : Int), z = i → i + d = 8 → d < m →
    f10_l1 (pt Try.prog 10 (n + 1)) m pid x y z (tb T) cs σ = some (.ret (match ff T d i with | some i => .tuple [.agg (tb (T.set i ⟨1, pid, 0, false⟩)), .int .i64 i, .int .i64 0] | none => .tuple [.agg (tb T), .int .i64 0, .int .i64 4]), σ) := by
  intro d
  induction d with
  | zero =>
    intro i m z hz hi hm
    subst hz
    obtain ⟨m, rfl⟩ : ∃ k, m = k + 1 := ⟨m - 1, by omega⟩
    have e : i = 8 := by omega
    subst e
    refine f10_l1_e.some ?_
    unfold f10_l1_t
    refine f10_j2_e.some ?_
    unfold f10_j2_t
    simp only [all_tb h, xAgg_a, well_tb h, lst_tb h hc]
    rfl
  | succ d ih =>
    intro i m z hz hi hm
    subst hz
    obtain ⟨m, rfl⟩ : ∃ k, m = k + 1 := ⟨m - 1, by omega⟩
    have h8 : i < 8 := by omega
    have hs : (T.set i ⟨1, pid, 0, false⟩).length = 8 := by simpa using h
    have ih' := ih (i + 1) m _ rfl (by omega) (by omega)
    refine f10_l1_e.some ?_
    unfold f10_l1_t ff
    simp only [ix h8, cr h h8, xAgg_a, rwC, unC_c, xInt_i, xBool_b, nlC_n, callT_ok f22_spec, wr h h8, all_tb hs, well_tb hs, lst_tb hs hc, succ64 h8, ih']
    rw [show decide ((i : Int) < 8) = true from by simp; omega]
    by_cases h0 : 0 < i
    · rw [show decide ((i : Int) > 0) = true from by simp; omega]
      cases hf : fr (tg T i) <;> simp [h0]
    · have e : i = 0 := by omega
      subst e
      simp

theorem f10_spec (h : T.length = 8) (pid : Int) : callP Try.prog (n + 10) 10 [.agg (tb T), .int .i64 pid] σ = some (.ret (.tuple [.agg (tb (forkT T pid)), .int .i64 (forkN T pid), .int .i64 (forkE T pid)]), σ) := by
  refine f10_e.some ?_
  unfold f10_t forkT forkN forkE
  simp only [ones_tb, all_tb h, xAgg_a, callT_ok (f21_spec h pid), xBool_b, well_tb h]
  cases hl : lives T pid
  · simp only [Bool.not_false, cT]
    rw [lst_tb h (by simp), all_tb h]
    simp
  · simp only [Bool.not_true, cF, if_true]
    rw [f10_loop h pid 0 0 (by simp) 8 0 (n + 9) 0 rfl (by omega) (by omega)]
    cases ff T 8 0 <;> simp

/-! ### Exit -/

/-- Those whose parent has ended go to 0. -/
def ol (pid : Int) : Nat → Nat → List Rw → List Rw
  | 0, _, T => T
  | d + 1, i, T => ol pid d (i + 1) (if childB T i pid then T.set i { tg T i with pa := 0 } else T)

theorem ol_len (pid : Int) : ∀ (d i : Nat) (T : List Rw), T.length = 8 → (ol pid d i T).length = 8
  | 0, _, _, h => h
  | d + 1, i, T, h => ol_len pid d (i + 1) _ (by split <;> simpa using h)

def endT (T : List Rw) (pid s : Int) : List Rw := T.set pid.toNat ⟨2, (tg T pid.toNat).pa, s, false⟩
def exitT (T : List Rw) (pid s : Int) : List Rw := if lives T pid then ol pid 8 0 (endT T pid s) else T
def exitE (T : List Rw) (pid : Int) : Int := if lives T pid then 0 else 5

theorem endT_len (h : T.length = 8) (pid s : Int) : (endT T pid s).length = 8 := by simpa [endT] using h
theorem exitT_len (h : T.length = 8) (pid s : Int) : (exitT T pid s).length = 8 := by
  unfold exitT
  split
  · exact ol_len _ _ _ _ (endT_len h _ _)
  · exact h

theorem set3 (h : T.length = 8) {i : Nat} (hi : i < 8) (s : Int) :
    ((T.set i { tg T i with st := 2 }).set i { tg (T.set i { tg T i with st := 2 }) i with sta := s }).set i { tg ((T.set i { tg T i with st := 2 }).set i { tg (T.set i { tg T i with st := 2 }) i with sta := s }) i with kl := false } = endT T i s := by
  have h1 : (T.set i { tg T i with st := 2 }).length = 8 := by simpa using h
  rw [tg_set h1 hi, if_pos rfl, tg_set h hi, if_pos rfl, List.set_set, List.set_set]
  rfl

theorem f11_loop (pid x : Int) {cs : List AV} (hc : cs.length = 32) : ∀ (d i m : Nat) (z : Int) (T : List Rw), T.length = 8 → z = i → i + d = 8 → d < m →
    f11_l1 (pt Try.prog 11 (n + 2)) m pid x z (tb T) cs σ = some (.ret (.tuple [.agg (tb (ol pid d i T)), .int .i64 0]), σ) := by
  intro d
  induction d with
  | zero =>
    intro i m z T h hz hi hm
    subst hz
    obtain ⟨m, rfl⟩ : ∃ k, m = k + 1 := ⟨m - 1, by omega⟩
    have e : i = 8 := by omega
    subst e
    refine f11_l1_e.some ?_
    unfold f11_l1_t
    refine f11_j2_e.some ?_
    unfold f11_j2_t
    simp only [all_tb h, xAgg_a, well_tb h, lst_tb h hc]
    rfl
  | succ d ih =>
    intro i m z T h hz hi hm
    subst hz
    obtain ⟨m, rfl⟩ : ∃ k, m = k + 1 := ⟨m - 1, by omega⟩
    have h8 : i < 8 := by omega
    refine f11_l1_e.some ?_
    unfold f11_l1_t ol
    have d1 : decide ((i : Int) < 8) = true := by simp; omega
    simp only [d1, cT, all_tb h, xAgg_a, callT_ok (f23_spec h h8 pid), xBool_b, ix h8, w1 h h8, succ64 h8]
    cases hb : childB T i pid
    · simp only [cF]
      exact ih (i + 1) m _ T h rfl (by omega) (by omega)
    · simp only [cT]
      exact ih (i + 1) m _ _ (by simpa using h) rfl (by omega) (by omega)

theorem f11_spec (h : T.length = 8) (pid s : Int) : callP Try.prog (n + 10) 11 [.agg (tb T), .int .i64 pid, .int .i64 s] σ = some (.ret (.tuple [.agg (tb (exitT T pid s)), .int .i64 (exitE T pid)]), σ) := by
  refine f11_e.some ?_
  unfold f11_t exitT exitE
  simp only [ones_tb, all_tb h, xAgg_a, callT_ok (f21_spec h pid), xBool_b, well_tb h]
  cases hl : lives T pid
  · simp only [Bool.not_false, cT]
    rw [lst_tb h (by simp), all_tb h]
    simp
  · simp only [Bool.not_true, cF, if_true]
    obtain ⟨i, rfl, hi, _⟩ := lives_lt hl
    have h1 : (T.set i { tg T i with st := 2 }).length = 8 := by simpa using h
    have h2 : ((T.set i { tg T i with st := 2 }).set i { tg (T.set i { tg T i with st := 2 }) i with sta := s }).length = 8 := by simpa using h
    simp only [ix hi, w0 h hi, w2 h1 hi, w3 h2 hi, set3 h hi]
    exact f11_loop i 0 (by simp) 8 0 (n + 9) 0 _ (endT_len h _ _) rfl (by omega) (by omega)

/-! ### Wait -/

structure WR where
  t : List Rw
  k : Int
  s : Int
  e : Int

def wl (T : List Rw) (pid : Int) : Nat → Nat → Int → WR
  | 0, _, e => ⟨T, 0, 0, e⟩
  | d + 1, i, e => if childB T i pid then (if (tg T i).st == 2 then ⟨T.set i ⟨0, 0, 0, false⟩, i, (tg T i).sta, 0⟩ else wl T pid d (i + 1) 12) else wl T pid d (i + 1) e

def waitR (T : List Rw) (pid : Int) : WR := if lives T pid then wl T pid 8 0 19 else ⟨T, 0, 0, 5⟩
def WR.av (r : WR) : AV := .tuple [.agg (tb r.t), .int .i64 r.k, .int .i64 r.s, .int .i64 r.e]

theorem wl_len (h : T.length = 8) (pid : Int) : ∀ (d i : Nat) (e : Int), (wl T pid d i e).t.length = 8
  | 0, _, _ => h
  | d + 1, i, e => by
    unfold wl
    split
    · split
      · simpa using h
      · exact wl_len h pid d (i + 1) 12
    · exact wl_len h pid d (i + 1) e
theorem waitR_len (h : T.length = 8) (pid : Int) : (waitR T pid).t.length = 8 := by
  unfold waitR
  split
  · exact wl_len h _ _ _ _
  · exact h

theorem f12_loop (h : T.length = 8) (pid z0 : Int) {cs : List AV} (hc : cs.length = 32) : ∀ (d i m : Nat) (z e : Int), z = i → i + d = 8 → d < m →
    f12_l1 (pt Try.prog 12 (n + 2)) m pid 0 0 z0 e z (tb T) cs σ = some (.ret (wl T pid d i e).av, σ) := by
  intro d
  induction d with
  | zero =>
    intro i m z e hz hi hm
    subst hz
    obtain ⟨m, rfl⟩ : ∃ k, m = k + 1 := ⟨m - 1, by omega⟩
    have e : i = 8 := by omega
    subst e
    refine f12_l1_e.some ?_
    unfold f12_l1_t
    refine f12_j2_e.some ?_
    unfold f12_j2_t
    simp only [all_tb h, xAgg_a, well_tb h, lst_tb h hc]
    rfl
  | succ d ih =>
    intro i m z e hz hi hm
    subst hz
    obtain ⟨m, rfl⟩ : ∃ k, m = k + 1 := ⟨m - 1, by omega⟩
    have h8 : i < 8 := by omega
    have hs : (T.set i ⟨0, 0, 0, false⟩).length = 8 := by simpa using h
    refine f12_l1_e.some ?_
    unfold f12_l1_t wl
    have d1 : decide ((i : Int) < 8) = true := by simp; omega
    simp only [d1, cT, all_tb h, xAgg_a, callT_ok (f23_spec h h8 pid), xBool_b, ix h8, c0 h h8, c2 h h8, wr h h8, xInt_i, all_tb hs, well_tb hs, lst_tb hs hc, succ64 h8]
    cases hb : childB T i pid
    · simp only [Bool.not_false, cT]
      exact ih (i + 1) m _ e rfl (by omega) (by omega)
    · simp only [Bool.not_true, cF]
      cases h2 : (tg T i).st == 2
      · simp only [cF]
        exact ih (i + 1) m _ 12 rfl (by omega) (by omega)
      · simp only [cT]
        rfl

theorem f12_spec (h : T.length = 8) (pid : Int) : callP Try.prog (n + 10) 12 [.agg (tb T), .int .i64 pid] σ = some (.ret (waitR T pid).av, σ) := by
  refine f12_e.some ?_
  unfold f12_t waitR
  simp only [ones_tb, all_tb h, xAgg_a, callT_ok (f21_spec h pid), xBool_b, well_tb h]
  cases hl : lives T pid
  · simp only [Bool.not_false, cT]
    rw [lst_tb h (by simp), all_tb h]
    simp [WR.av]
  · simp only [Bool.not_true, cF, if_true]
    exact f12_loop h pid 0 (by simp) 8 0 (n + 9) 0 19 rfl (by omega) (by omega)

/-! ### Kill -/

def killT (T : List Rw) (pid : Int) : List Rw := if lives T pid then T.set pid.toNat { tg T pid.toNat with kl := true } else T
theorem killT_len (h : T.length = 8) (pid : Int) : (killT T pid).length = 8 := by
  unfold killT
  split
  · simpa using h
  · exact h

theorem f18_spec (h : T.length = 8) (pid : Int) : callP Try.prog (n + 2) 18 [.agg (tb T), .int .i64 pid] σ = some (.ret (.tuple [.agg (tb (killT T pid)), .int .i64 (exitE T pid)]), σ) := by
  refine f18_e.some ?_
  unfold f18_t killT exitE
  simp only [ones_tb, all_tb h, xAgg_a, callT_ok (f21_spec h pid), xBool_b, well_tb h]
  cases hl : lives T pid
  · simp only [Bool.not_false, cT]
    rw [lst_tb h (by simp), all_tb h]
    simp
  · simp only [Bool.not_true, cF, if_true]
    obtain ⟨i, rfl, hi, _⟩ := lives_lt hl
    have h1 : (T.set i { tg T i with kl := true }).length = 8 := by simpa using h
    simp only [ix hi, w3 h hi, all_tb h1, xAgg_a, well_tb h1]
    rw [lst_tb h1 (by simp), all_tb h1]
    simp

/-! ### Next -/

abbrev bb (B : List Bool) : List AV := B.map AV.bool
theorem bb_one (B : List Bool) : (bb B).all AV.one = true := by simp [bb, AV.one]
def bg (B : List Bool) (i : Nat) : Bool := B.getD i false

def nl (T : List Rw) (B : List Bool) (b : Nat) : Nat → Nat → Int
  | 0, _ => -1
  | d + 1, i => if lives T ((b + 1 + i) % 8 : Nat) && !bg B ((b + 1 + i) % 8) then ((b + 1 + i) % 8 : Nat) else nl T B b d (i + 1)
def base (after : Int) : Nat := (after % 8).toNat
def nextT (T : List Rw) (B : List Bool) (after : Int) : Int := nl T B (base after) 8 0

theorem base_lt (after : Int) : base after < 8 := by
  unfold base
  have h1 := Int.emod_nonneg after (b := 8) (by omega)
  have h2 := Int.emod_lt_of_pos after (b := 8) (by omega)
  omega

theorem busyK {B : List Bool} (hB : B.length = 8) {k : Nat} (hk : k < 8) {f : AV → Out} : partK Try.prog 4 (bb B) (0 + ((k : Int)).toNat * 1) f = f (.bool (bg B k)) := by
  refine partK_s a4 ?_
  simp only [Nat.zero_add, Nat.mul_one, Int.toNat_natCast, bb, List.getElem?_map, bg, List.getD_eq_getElem?_getD]
  rw [List.getElem?_eq_getElem (by omega)]; rfl

theorem mod_step {b i : Nat} (hb : b < 8) (hi : i < 8) : Int.tmod (IntKind.wrap .i64 (IntKind.wrap .i64 ((b : Int) + 1) + (i : Int))) 8 = (((b + 1 + i) % 8 : Nat) : Int) := by
  rw [wrap64 (x := (b : Int) + 1) (by omega) (by omega), wrap64 (by omega) (by omega), Int.tmod_eq_emod_of_nonneg (by omega)]
  omega

theorem f13_loop (h : T.length = 8) {B : List Bool} (hB : B.length = 8) {b : Nat} (hb : b < 8) (y : Int) : ∀ (d i m : Nat) (z : Int), z = i → i + d = 8 → d < m →
    f13_l1 (pt Try.prog 13 (n + 1)) m b y z (tb T) (bb B) σ = some (.ret (.int .i64 (nl T B b d i)), σ) := by
  intro d
  induction d with
  | zero =>
    intro i m z hz hi hm
    subst hz
    obtain ⟨m, rfl⟩ : ∃ k, m = k + 1 := ⟨m - 1, by omega⟩
    have e : i = 8 := by omega
    subst e
    refine f13_l1_e.some ?_
    unfold f13_l1_t
    refine f13_j2_e.some ?_
    unfold f13_j2_t
    rfl
  | succ d ih =>
    intro i m z hz hi hm
    subst hz
    obtain ⟨m, rfl⟩ : ∃ k, m = k + 1 := ⟨m - 1, by omega⟩
    have h8 : i < 8 := by omega
    have hk : (b + 1 + i) % 8 < 8 := Nat.mod_lt _ (by omega)
    refine f13_l1_e.some ?_
    unfold f13_l1_t nl
    have d1 : decide ((i : Int) < 8) = true := by simp; omega
    simp only [d1, cT, mod_step hb h8, all_tb h, xAgg_a, callT_ok (f21_spec h _), xBool_b, ix hk, busyK hB hk, succ64 h8]
    cases hl : lives T ((b + 1 + i) % 8 : Nat)
    · simp only [cF, Bool.false_and, Bool.false_eq_true, if_false]
      exact ih (i + 1) m _ rfl (by omega) (by omega)
    · cases hb2 : bg B ((b + 1 + i) % 8)
      · simp only [Bool.not_false, cT, Bool.true_and, if_true]
      · simp only [Bool.not_true, cT, cF, Bool.and_false, Bool.false_eq_true, if_false]
        exact ih (i + 1) m _ rfl (by omega) (by omega)

theorem mod_base (after : Int) : Int.tmod (IntKind.wrap .i64 (Int.tmod after 8 + 8)) 8 = (base after : Int) := by
  unfold base
  have h3 : Int.tmod after 8 = after - 8 * (Int.tdiv after 8) := by have := Int.mul_tdiv_add_tmod after 8; omega
  have h1 := Int.emod_nonneg after (b := 8) (by omega)
  have h2 := Int.emod_lt_of_pos after (b := 8) (by omega)
  have h4 := Int.mul_ediv_add_emod after 8
  have h5 : -8 < Int.tmod after 8 ∧ Int.tmod after 8 < 8 := by
    have a1 := Int.tmod_lt_of_pos after (b := 8) (by omega)
    have a2 := Int.lt_tmod_of_pos after (b := 8) (by omega)
    omega
  rw [wrap64 (by omega) (by omega), Int.tmod_eq_emod_of_nonneg (by omega)]
  show (Int.tmod after 8 + 8) % 8 = ((after % 8).toNat : Int)
  have h1' : 0 ≤ after % 8 := h1
  omega

theorem f13_spec (h : T.length = 8) {B : List Bool} (hB : B.length = 8) (after : Int) : callP Try.prog (n + 10) 13 [.agg (tb T), .int .i64 after, .agg (bb B)] σ = some (.ret (.int .i64 (nextT T B after)), σ) := by
  refine f13_e.some ?_
  unfold f13_t
  rw [ones_tb, onesK_ok (bb_one B), mod_base]
  exact f13_loop h hB (base_lt after) 0 8 0 (n + 9) 0 rfl (by omega) (by omega)

/-! ### First -/

def row0 : Rw := ⟨0, 0, 0, false⟩
def firstT : List Rw := ⟨1, 0, 0, false⟩ :: List.replicate 7 row0
theorem firstT_len : firstT.length = 8 := rfl
theorem f9_spec : callP Try.prog (n + 1) 9 [] σ = some (.ret (.agg (tb firstT)), σ) := f9_e.some rfl
theorem f14_spec : callP Try.prog (n + 1) 14 [] σ = some (.ret (.agg (tb firstT)), σ) := f14_e.some rfl

end
end Go.Proofs

/- Whole numbers of 32 bits: or, and, shifts as sums, remainders and quotients. -/
import Derived.Test.YtidammkjfdonaaaDoorAmS
namespace Go.Proofs.Inst
open Go.AM

theorem or_add {a y k m : Nat} (h : a % 2 ^ (k + m) < 2 ^ k) (hy : y < 2 ^ m) : a ||| y * 2 ^ k = a + y * 2 ^ k := by
  have e : a = 2 ^ (k + m) * (a / 2 ^ (k + m)) + a % 2 ^ (k + m) := (Nat.div_add_mod _ _).symm
  have key : ∀ i, (a ||| y * 2 ^ k).testBit i = (a + y * 2 ^ k).testBit i := by
    intro i
    have hyk : y * 2 ^ k < 2 ^ (k + m) := by rw [Nat.pow_add, Nat.mul_comm]; exact Nat.mul_lt_mul_of_pos_left hy (Nat.two_pow_pos k)
    have e2 : a + y * 2 ^ k = 2 ^ (k + m) * (a / 2 ^ (k + m)) + (2 ^ k * y + a % 2 ^ (k + m)) := by rw [Nat.mul_comm (2 ^ k) y]; omega
    have hlt : 2 ^ k * y + a % 2 ^ (k + m) < 2 ^ (k + m) := by
      have : 2 ^ k * y + 2 ^ k ≤ 2 ^ (k + m) := by rw [Nat.pow_add, ← Nat.mul_succ]; exact Nat.mul_le_mul_left _ hy
      omega
    have hlt2 : a % 2 ^ (k + m) < 2 ^ (k + m) := by omega
    rw [Nat.testBit_or]
    conv => lhs; rw [e]
    rw [e2, Nat.testBit_two_pow_mul_add _ hlt2, Nat.testBit_two_pow_mul_add _ hlt, Nat.testBit_two_pow_mul_add _ h, Nat.mul_comm y, Nat.testBit_two_pow_mul]
    by_cases h1 : i < k + m
    · simp only [if_pos h1]
      by_cases h2 : i < k
      · simp [h2]; omega
      · have : (a % 2 ^ (k + m)).testBit i = false := Nat.testBit_lt_two_pow (Nat.lt_of_lt_of_le h (Nat.pow_le_pow_right (by omega) (by omega)))
        simp only [this, h2, if_false, Bool.false_or]; simp; omega
    · simp only [if_neg h1]
      have : y.testBit (i - k) = false := Nat.testBit_lt_two_pow (Nat.lt_of_lt_of_le hy (Nat.pow_le_pow_right (by omega) (by omega)))
      rw [this]; simp
  exact Nat.eq_of_testBit_eq key

theorem wrap32 {x : Int} (h1 : 0 ≤ x) (h2 : x < 4294967296) : IntKind.wrap .u32 x = x := by
  simp only [IntKind.wrap, IntKind.bits, IntKind.signed]
  have e1 : (2 : Int) ^ 32 = 4294967296 := rfl
  simp only [Bool.false_and, e1, Bool.false_eq_true, if_false]
  omega
theorem wrapu64 {x : Int} (h1 : 0 ≤ x) (h2 : x < 18446744073709551616) : IntKind.wrap .u64 x = x := by
  simp only [IntKind.wrap, IntKind.bits, IntKind.signed]
  have e1 : (2 : Int) ^ 64 = 18446744073709551616 := rfl
  simp only [Bool.false_and, e1, Bool.false_eq_true, if_false]
  omega
theorem wrapu8 {x : Int} (h1 : 0 ≤ x) (h2 : x < 256) : IntKind.wrap .u8 x = x := by
  simp only [IntKind.wrap, IntKind.bits, IntKind.signed]
  have e1 : (2 : Int) ^ 8 = 256 := rfl
  simp only [Bool.false_and, e1, Bool.false_eq_true, if_false]
  omega
theorem wrap32_mod (x : Int) : IntKind.wrap .u32 x = x % 4294967296 := by
  simp only [IntKind.wrap, IntKind.bits, IntKind.signed]
  have e1 : (2 : Int) ^ 32 = 4294967296 := rfl
  simp only [Bool.false_and, e1, Bool.false_eq_true, if_false]
theorem wrapu64_mod (x : Int) : IntKind.wrap .u64 x = x % 18446744073709551616 := by
  simp only [IntKind.wrap, IntKind.bits, IntKind.signed]
  have e1 : (2 : Int) ^ 64 = 18446744073709551616 := rfl
  simp only [Bool.false_and, e1, Bool.false_eq_true, if_false]

theorem ofInt_toNat {n : Nat} {a : Int} (h1 : 0 ≤ a) (h2 : a < 2 ^ n) : (BitVec.ofInt n a).toNat = a.toNat := by
  rw [BitVec.toNat_ofInt]
  have e : a % ((2 ^ n : Nat) : Int) = a := Int.emod_eq_of_lt h1 (by rw [Int.natCast_pow]; exact h2)
  rw [e]

/-- What the machine's 'or' of 32 bits answers. -/
def orI (a b : Int) : Int := IntKind.wrap .u32 (((BitVec.ofInt 32 a ||| BitVec.ofInt 32 b).toNat : Nat) : Int)
def andI (a b : Int) : Int := IntKind.wrap .u32 (((BitVec.ofInt 32 a &&& BitVec.ofInt 32 b).toNat : Nat) : Int)

theorem orI_nat {a b : Int} (ha : 0 ≤ a) (ha2 : a < 4294967296) (hb : 0 ≤ b) (hb2 : b < 4294967296) : orI a b = ((a.toNat ||| b.toNat : Nat) : Int) := by
  have e1 : (2 : Int) ^ 32 = 4294967296 := rfl
  have h : a.toNat ||| b.toNat < 4294967296 := by
    have := Nat.or_lt_two_pow (n := 32) (x := a.toNat) (y := b.toNat) (by omega) (by omega)
    simpa using this
  unfold orI
  rw [BitVec.toNat_or, ofInt_toNat ha (by rw [e1]; exact ha2), ofInt_toNat hb (by rw [e1]; exact hb2), wrap32 (by omega) (by omega)]

theorem orI_comm {a b : Int} : orI a b = orI b a := by unfold orI; rw [BitVec.or_comm]

/-- Bits that are apart: a sum. K = 2 ^ k, M = 2 ^ (k + m). -/
theorem orI_add {a b : Int} (k m : Nat) {K M : Int} (hK : ((2 ^ k : Nat) : Int) = K) (hM : ((2 ^ (k + m) : Nat) : Int) = M) (hs : k + m ≤ 32) (ha : 0 ≤ a) (ha2 : a < 4294967296) (hb : 0 ≤ b) (hb2 : b < M) (hk : b % K = 0) (h : a % M < K) : orI a b = a + b := by
  have hM32 : M ≤ 4294967296 := by
    rw [← hM]
    have := Nat.pow_le_pow_right (n := 2) (by omega) hs
    have e : 2 ^ 32 = 4294967296 := rfl
    omega
  have hKp : 0 < K := by rw [← hK]; have := Nat.two_pow_pos k; omega
  rw [orI_nat ha ha2 hb (by omega)]
  have hb' : b = (b / K) * K := by have := Int.emod_add_mul_ediv b K; rw [hk, Int.zero_add, Int.mul_comm] at this; exact this.symm
  have hq : 0 ≤ b / K := Int.ediv_nonneg hb (by omega)
  have e1 : b.toNat = (b / K).toNat * 2 ^ k := by
    have : (b.toNat : Int) = (((b / K).toNat * 2 ^ k : Nat) : Int) := by
      rw [Int.natCast_mul, hK, Int.toNat_of_nonneg hq, Int.toNat_of_nonneg hb]; exact hb'
    exact Int.ofNat.inj this
  have hlt : (b / K).toNat < 2 ^ m := by
    have h1 : b / K < ((2 ^ m : Nat) : Int) := by
      refine Int.ediv_lt_of_lt_mul hKp ?_
      rw [← hM, Nat.pow_add, Int.natCast_mul, hK, Int.mul_comm] at hb2
      exact hb2
    omega
  have h2 : a.toNat % 2 ^ (k + m) < 2 ^ k := by
    have : ((a.toNat % 2 ^ (k + m) : Nat) : Int) < ((2 ^ k : Nat) : Int) := by
      rw [Int.natCast_emod, hM, hK, Int.toNat_of_nonneg ha]; exact h
    omega
  rw [e1, or_add h2 hlt, ← e1]
  omega

/-- The last m bits. -/
theorem andI_mask {a : Int} (m : Nat) {M : Int} (hM : ((2 ^ m : Nat) : Int) = M) (hs : m ≤ 32) (ha : 0 ≤ a) (ha2 : a < 4294967296) : andI a (M - 1) = a % M := by
  have e1 : (2 : Int) ^ 32 = 4294967296 := rfl
  have hM32 : M ≤ 4294967296 := by
    rw [← hM]
    have := Nat.pow_le_pow_right (n := 2) (by omega) hs
    have e : 2 ^ 32 = 4294967296 := rfl
    omega
  have hp : 1 ≤ M := by rw [← hM]; have := Nat.two_pow_pos m; omega
  unfold andI
  rw [BitVec.toNat_and, ofInt_toNat ha (by rw [e1]; exact ha2), ofInt_toNat (by omega) (by rw [e1]; omega)]
  have e2 : (M - 1).toNat = 2 ^ m - 1 := by omega
  rw [e2, Nat.and_two_pow_sub_one_eq_mod]
  have e3 : ((a.toNat % 2 ^ m : Nat) : Int) = a % M := by rw [Int.natCast_emod, hM, Int.toNat_of_nonneg ha]
  rw [e3]
  have h1 := Int.emod_nonneg a (show M ≠ 0 by omega)
  have h2 := Int.emod_lt_of_pos a (show 0 < M by omega)
  exact wrap32 h1 (by omega)

theorem fdiv_pos {a b : Int} (h : 0 ≤ b) : Int.fdiv a b = a / b := Int.fdiv_eq_ediv_of_nonneg a h

/-- 64 bits. -/
def or64 (a b : Int) : Int := IntKind.wrap .i64 (((BitVec.ofInt 64 a ||| BitVec.ofInt 64 b).toNat : Nat) : Int)
theorem or64_add {a b : Int} (k : Nat) {K : Int} (hK : ((2 ^ k : Nat) : Int) = K) (ha : 0 ≤ a) (ha2 : a < 9223372036854775808) (hb : 0 ≤ b) (hb2 : b < K) (hk : a % K = 0) (hs : k ≤ 62) : or64 a b = a + b := by
  have e1 : (2 : Int) ^ 64 = 18446744073709551616 := rfl
  have hK62 : K ≤ 4611686018427387904 := by
    rw [← hK]
    have := Nat.pow_le_pow_right (n := 2) (by omega) hs
    have e : 2 ^ 62 = 4611686018427387904 := rfl
    omega
  have hKp : 0 < K := by rw [← hK]; have := Nat.two_pow_pos k; omega
  have ha' : a = (a / K) * K := by have := Int.emod_add_mul_ediv a K; rw [hk, Int.zero_add, Int.mul_comm] at this; exact this.symm
  have hq : 0 ≤ a / K := Int.ediv_nonneg ha (by omega)
  have e2 : a.toNat = (a / K).toNat * 2 ^ k := by
    have : (a.toNat : Int) = (((a / K).toNat * 2 ^ k : Nat) : Int) := by
      rw [Int.natCast_mul, hK, Int.toNat_of_nonneg hq, Int.toNat_of_nonneg ha]; exact ha'
    exact Int.ofNat.inj this
  unfold or64
  rw [BitVec.toNat_or, ofInt_toNat ha (by rw [e1]; omega), ofInt_toNat hb (by rw [e1]; omega)]
  have h3 : b.toNat ||| a.toNat = b.toNat + a.toNat := by
    rw [e2]
    have hbk : b.toNat < 2 ^ k := by omega
    refine or_add (m := (a / K).toNat + 1) ?_ (Nat.lt_of_lt_of_le (Nat.lt_two_pow_self) (Nat.pow_le_pow_right (by omega) (by omega)))
    refine Nat.lt_of_le_of_lt (Nat.mod_le _ _) hbk
  rw [Nat.or_comm, h3]
  have hsum : a + b < 9223372036854775808 := by
    have hd : a / K * K + K ≤ 9223372036854775808 := by
      have hlt : a / K < 9223372036854775808 / K := by
        refine Int.lt_of_mul_lt_mul_right (a := K) ?_ (by omega)
        have hdiv : (9223372036854775808 : Int) / K * K = 9223372036854775808 := by
          have hm : (9223372036854775808 : Int) % K = 0 := by
            rw [← hK]
            have e63 : (9223372036854775808 : Int) = ((2 ^ 63 : Nat) : Int) := rfl
            rw [e63, ← Int.natCast_emod]
            have : 2 ^ 63 % 2 ^ k = 0 := Nat.mod_eq_zero_of_dvd (Nat.pow_dvd_pow 2 (by omega))
            rw [this]; rfl
          have := Int.emod_add_mul_ediv 9223372036854775808 K
          rw [hm, Int.zero_add, Int.mul_comm] at this
          exact this
        rw [hdiv, ← ha']; exact ha2
      have h5 : (a / K + 1) * K ≤ 9223372036854775808 / K * K := Int.mul_le_mul_of_nonneg_right (by omega) (by omega)
      have h6 : (9223372036854775808 : Int) / K * K ≤ 9223372036854775808 := Int.ediv_mul_le _ (by omega)
      rw [Int.add_mul, Int.one_mul] at h5
      omega
    omega
  rw [wrap64 (by omega) (by omega)]
  omega

end Go.Proofs.Inst

/- The words that both texts write. -/
import Derived.Test.YtidammkjfdonaaaDoorWords
namespace Go.Proofs.Inst
open Go.AM Go.Proofs

theorem ret_bits {v a m A M : Int} (ha : 0 ≤ a ∧ a ≤ 63) (hm : 0 ≤ m ∧ m ≤ 31) (hA : ((2 ^ a.toNat : Nat) : Int) = A) (hM : ((2 ^ m.toNat : Nat) : Int) = M) :
    Ret 28 [.int .i64 v, .int .i64 a, .int .i64 m] 1 (.int .u32 (v / A % M)) := .mk fun n _ σ _ => by
  refine .le f28_e ?_
  unfold f28_t
  rw [shK_ok ha.1, shK_ok hm.1]
  refine .ret (.refl _) ?_
  congr 1
  have e1 : min a.toNat (IntKind.bits .i64) = a.toNat := Nat.min_eq_left (by simp only [IntKind.bits]; omega)
  have e2 : min m.toNat (IntKind.bits .u32) = m.toNat := Nat.min_eq_left (by simp only [IntKind.bits]; omega)
  have e3 : (2 : Int) ^ a.toNat = A := by rw [← hA, Int.natCast_pow]; rfl
  have e4 : (2 : Int) ^ m.toNat = M := by rw [← hM, Int.natCast_pow]; rfl
  rw [e1, e2, e3, e4, Int.one_mul]
  have hA0 : 0 < A := by rw [← hA]; have := Nat.two_pow_pos a.toNat; omega
  have hM0 : 1 ≤ M := by rw [← hM]; have := Nat.two_pow_pos m.toNat; omega
  have hM1 : M ≤ 2147483648 := by
    rw [← hM]
    have := Nat.pow_le_pow_right (n := 2) (by omega) (show m.toNat ≤ 31 by omega)
    have e : 2 ^ 31 = 2147483648 := rfl
    omega
  rw [wrap32 (x := M) (by omega) (by omega), wrap32 (x := M - 1) (by omega) (by omega), fdiv_pos (by omega)]
  show andI (IntKind.wrap .u32 (v / A)) (M - 1) = _
  rw [wrap32_mod]
  rw [andI_mask m.toNat hM (by omega) (by omega) (by omega)]
  refine Int.emod_emod_of_dvd _ ?_
  have hd : (2 ^ m.toNat : Nat) ∣ 2 ^ 32 := Nat.pow_dvd_pow 2 (by omega)
  have := Int.natCast_dvd_natCast.2 hd
  rw [hM] at this
  exact this

theorem or_form1 {c d p : Int} (hc : 0 ≤ c ∧ c < 128) (hd : 0 ≤ d ∧ d < 32) (hp : 0 ≤ p ∧ p < 1048576) : orI c (orI (IntKind.wrap .u32 ((IntKind.wrap .u32 d) * 2 ^ 7)) (IntKind.wrap .u32 (p * 2 ^ 12))) = c + (d * 128 + p * 4096) := by
  have wd : IntKind.wrap .u32 ((IntKind.wrap .u32 d) * 2 ^ 7) = d * 128 := by rw [wrap32 (x := d) (by omega) (by omega)]; exact wrap32 (by omega) (by omega)
  have wp : IntKind.wrap .u32 (p * 2 ^ 12) = p * 4096 := wrap32 (by omega) (by omega)
  rw [wd, wp]
  rw [orI_add (a := d * 128) (b := p * 4096) 12 20 (K := 4096) (M := 4294967296) rfl rfl (by decide) (by omega) (by omega) (by omega) (by omega) (by omega) (by omega)]
  rw [orI_add (a := c) (b := d * 128 + p * 4096) 7 25 (K := 128) (M := 4294967296) rfl rfl (by decide) (by omega) (by omega) (by omega) (by omega) (by omega) (by omega)]

theorem or_form2 {c d p q r s : Int} (hc : 0 ≤ c ∧ c < 128) (hd : 0 ≤ d ∧ d < 32) (hp : 0 ≤ p ∧ p < 2) (hq : 0 ≤ q ∧ q < 1024) (hr : 0 ≤ r ∧ r < 2) (hs : 0 ≤ s ∧ s < 256) : orI c (orI (orI (orI (orI (IntKind.wrap .u32 ((IntKind.wrap .u32 d) * 2 ^ 7)) (IntKind.wrap .u32 (p * 2 ^ 31))) (IntKind.wrap .u32 (q * 2 ^ 21))) (IntKind.wrap .u32 (r * 2 ^ 20))) (IntKind.wrap .u32 (s * 2 ^ 12))) = c + (d * 128 + p * 2147483648 + q * 2097152 + r * 1048576 + s * 4096) := by
  have wd : IntKind.wrap .u32 ((IntKind.wrap .u32 d) * 2 ^ 7) = d * 128 := by rw [wrap32 (x := d) (by omega) (by omega)]; exact wrap32 (by omega) (by omega)
  have wp : IntKind.wrap .u32 (p * 2 ^ 31) = p * 2147483648 := wrap32 (by omega) (by omega)
  have wq : IntKind.wrap .u32 (q * 2 ^ 21) = q * 2097152 := wrap32 (by omega) (by omega)
  have wr : IntKind.wrap .u32 (r * 2 ^ 20) = r * 1048576 := wrap32 (by omega) (by omega)
  have ws : IntKind.wrap .u32 (s * 2 ^ 12) = s * 4096 := wrap32 (by omega) (by omega)
  rw [wd, wp, wq, wr, ws]
  rw [orI_add (a := d * 128) (b := p * 2147483648) 31 1 (K := 2147483648) (M := 4294967296) rfl rfl (by decide) (by omega) (by omega) (by omega) (by omega) (by omega) (by omega)]
  rw [orI_add (a := d * 128 + p * 2147483648) (b := q * 2097152) 21 10 (K := 2097152) (M := 2147483648) rfl rfl (by decide) (by omega) (by omega) (by omega) (by omega) (by omega) (by omega)]
  rw [orI_add (a := d * 128 + p * 2147483648 + q * 2097152) (b := r * 1048576) 20 1 (K := 1048576) (M := 2097152) rfl rfl (by decide) (by omega) (by omega) (by omega) (by omega) (by omega) (by omega)]
  rw [orI_add (a := d * 128 + p * 2147483648 + q * 2097152 + r * 1048576) (b := s * 4096) 12 8 (K := 4096) (M := 1048576) rfl rfl (by decide) (by omega) (by omega) (by omega) (by omega) (by omega) (by omega)]
  rw [orI_add (a := c) (b := d * 128 + p * 2147483648 + q * 2097152 + r * 1048576 + s * 4096) 7 25 (K := 128) (M := 4294967296) rfl rfl (by decide) (by omega) (by omega) (by omega) (by omega) (by omega) (by omega)]

theorem or_form3 {c d f a p : Int} (hc : 0 ≤ c ∧ c < 128) (hd : 0 ≤ d ∧ d < 32) (hf : 0 ≤ f ∧ f < 8) (ha : 0 ≤ a ∧ a < 32) (hp : 0 ≤ p ∧ p < 4096) : orI c (orI (orI (orI (IntKind.wrap .u32 ((IntKind.wrap .u32 d) * 2 ^ 7)) (IntKind.wrap .u32 (f * 2 ^ 12))) (IntKind.wrap .u32 ((IntKind.wrap .u32 a) * 2 ^ 15))) (IntKind.wrap .u32 (p * 2 ^ 20))) = c + (d * 128 + f * 4096 + a * 32768 + p * 1048576) := by
  have wd : IntKind.wrap .u32 ((IntKind.wrap .u32 d) * 2 ^ 7) = d * 128 := by rw [wrap32 (x := d) (by omega) (by omega)]; exact wrap32 (by omega) (by omega)
  have wf : IntKind.wrap .u32 (f * 2 ^ 12) = f * 4096 := wrap32 (by omega) (by omega)
  have wa : IntKind.wrap .u32 ((IntKind.wrap .u32 a) * 2 ^ 15) = a * 32768 := by rw [wrap32 (x := a) (by omega) (by omega)]; exact wrap32 (by omega) (by omega)
  have wp : IntKind.wrap .u32 (p * 2 ^ 20) = p * 1048576 := wrap32 (by omega) (by omega)
  rw [wd, wf, wa, wp]
  rw [orI_add (a := d * 128) (b := f * 4096) 12 3 (K := 4096) (M := 32768) rfl rfl (by decide) (by omega) (by omega) (by omega) (by omega) (by omega) (by omega)]
  rw [orI_add (a := d * 128 + f * 4096) (b := a * 32768) 15 5 (K := 32768) (M := 1048576) rfl rfl (by decide) (by omega) (by omega) (by omega) (by omega) (by omega) (by omega)]
  rw [orI_add (a := d * 128 + f * 4096 + a * 32768) (b := p * 1048576) 20 12 (K := 1048576) (M := 4294967296) rfl rfl (by decide) (by omega) (by omega) (by omega) (by omega) (by omega) (by omega)]
  rw [orI_add (a := c) (b := d * 128 + f * 4096 + a * 32768 + p * 1048576) 7 25 (K := 128) (M := 4294967296) rfl rfl (by decide) (by omega) (by omega) (by omega) (by omega) (by omega) (by omega)]

theorem or_form4 {c f a b p q r s : Int} (hc : 0 ≤ c ∧ c < 128) (hf : 0 ≤ f ∧ f < 8) (ha : 0 ≤ a ∧ a < 32) (hb : 0 ≤ b ∧ b < 32) (hp : 0 ≤ p ∧ p < 2) (hq : 0 ≤ q ∧ q < 64) (hr : 0 ≤ r ∧ r < 16) (hs : 0 ≤ s ∧ s < 2) : orI c (orI (orI (orI (orI (orI (orI (IntKind.wrap .u32 (f * 2 ^ 12)) (IntKind.wrap .u32 ((IntKind.wrap .u32 a) * 2 ^ 15))) (IntKind.wrap .u32 ((IntKind.wrap .u32 b) * 2 ^ 20))) (IntKind.wrap .u32 (p * 2 ^ 31))) (IntKind.wrap .u32 (q * 2 ^ 25))) (IntKind.wrap .u32 (r * 2 ^ 8))) (IntKind.wrap .u32 (s * 2 ^ 7))) = c + (f * 4096 + a * 32768 + b * 1048576 + p * 2147483648 + q * 33554432 + r * 256 + s * 128) := by
  have wf : IntKind.wrap .u32 (f * 2 ^ 12) = f * 4096 := wrap32 (by omega) (by omega)
  have wa : IntKind.wrap .u32 ((IntKind.wrap .u32 a) * 2 ^ 15) = a * 32768 := by rw [wrap32 (x := a) (by omega) (by omega)]; exact wrap32 (by omega) (by omega)
  have wb : IntKind.wrap .u32 ((IntKind.wrap .u32 b) * 2 ^ 20) = b * 1048576 := by rw [wrap32 (x := b) (by omega) (by omega)]; exact wrap32 (by omega) (by omega)
  have wp : IntKind.wrap .u32 (p * 2 ^ 31) = p * 2147483648 := wrap32 (by omega) (by omega)
  have wq : IntKind.wrap .u32 (q * 2 ^ 25) = q * 33554432 := wrap32 (by omega) (by omega)
  have wr : IntKind.wrap .u32 (r * 2 ^ 8) = r * 256 := wrap32 (by omega) (by omega)
  have ws : IntKind.wrap .u32 (s * 2 ^ 7) = s * 128 := wrap32 (by omega) (by omega)
  rw [wf, wa, wb, wp, wq, wr, ws]
  rw [orI_add (a := f * 4096) (b := a * 32768) 15 5 (K := 32768) (M := 1048576) rfl rfl (by decide) (by omega) (by omega) (by omega) (by omega) (by omega) (by omega)]
  rw [orI_add (a := f * 4096 + a * 32768) (b := b * 1048576) 20 5 (K := 1048576) (M := 33554432) rfl rfl (by decide) (by omega) (by omega) (by omega) (by omega) (by omega) (by omega)]
  rw [orI_add (a := f * 4096 + a * 32768 + b * 1048576) (b := p * 2147483648) 31 1 (K := 2147483648) (M := 4294967296) rfl rfl (by decide) (by omega) (by omega) (by omega) (by omega) (by omega) (by omega)]
  rw [orI_add (a := f * 4096 + a * 32768 + b * 1048576 + p * 2147483648) (b := q * 33554432) 25 6 (K := 33554432) (M := 2147483648) rfl rfl (by decide) (by omega) (by omega) (by omega) (by omega) (by omega) (by omega)]
  rw [orI_add (a := f * 4096 + a * 32768 + b * 1048576 + p * 2147483648 + q * 33554432) (b := r * 256) 8 4 (K := 256) (M := 4096) rfl rfl (by decide) (by omega) (by omega) (by omega) (by omega) (by omega) (by omega)]
  rw [orI_add (a := f * 4096 + a * 32768 + b * 1048576 + p * 2147483648 + q * 33554432 + r * 256) (b := s * 128) 7 1 (K := 128) (M := 256) rfl rfl (by decide) (by omega) (by omega) (by omega) (by omega) (by omega) (by omega)]
  rw [orI_add (a := c) (b := f * 4096 + a * 32768 + b * 1048576 + p * 2147483648 + q * 33554432 + r * 256 + s * 128) 7 25 (K := 128) (M := 4294967296) rfl rfl (by decide) (by omega) (by omega) (by omega) (by omega) (by omega) (by omega)]

theorem or_form5 {c f a b p q : Int} (hc : 0 ≤ c ∧ c < 128) (hf : 0 ≤ f ∧ f < 8) (ha : 0 ≤ a ∧ a < 32) (hb : 0 ≤ b ∧ b < 32) (hp : 0 ≤ p ∧ p < 128) (hq : 0 ≤ q ∧ q < 32) : orI c (orI (orI (orI (orI (IntKind.wrap .u32 (f * 2 ^ 12)) (IntKind.wrap .u32 ((IntKind.wrap .u32 a) * 2 ^ 15))) (IntKind.wrap .u32 ((IntKind.wrap .u32 b) * 2 ^ 20))) (IntKind.wrap .u32 (p * 2 ^ 25))) (IntKind.wrap .u32 (q * 2 ^ 7))) = c + (f * 4096 + a * 32768 + b * 1048576 + p * 33554432 + q * 128) := by
  have wf : IntKind.wrap .u32 (f * 2 ^ 12) = f * 4096 := wrap32 (by omega) (by omega)
  have wa : IntKind.wrap .u32 ((IntKind.wrap .u32 a) * 2 ^ 15) = a * 32768 := by rw [wrap32 (x := a) (by omega) (by omega)]; exact wrap32 (by omega) (by omega)
  have wb : IntKind.wrap .u32 ((IntKind.wrap .u32 b) * 2 ^ 20) = b * 1048576 := by rw [wrap32 (x := b) (by omega) (by omega)]; exact wrap32 (by omega) (by omega)
  have wp : IntKind.wrap .u32 (p * 2 ^ 25) = p * 33554432 := wrap32 (by omega) (by omega)
  have wq : IntKind.wrap .u32 (q * 2 ^ 7) = q * 128 := wrap32 (by omega) (by omega)
  rw [wf, wa, wb, wp, wq]
  rw [orI_add (a := f * 4096) (b := a * 32768) 15 5 (K := 32768) (M := 1048576) rfl rfl (by decide) (by omega) (by omega) (by omega) (by omega) (by omega) (by omega)]
  rw [orI_add (a := f * 4096 + a * 32768) (b := b * 1048576) 20 5 (K := 1048576) (M := 33554432) rfl rfl (by decide) (by omega) (by omega) (by omega) (by omega) (by omega) (by omega)]
  rw [orI_add (a := f * 4096 + a * 32768 + b * 1048576) (b := p * 33554432) 25 7 (K := 33554432) (M := 4294967296) rfl rfl (by decide) (by omega) (by omega) (by omega) (by omega) (by omega) (by omega)]
  rw [orI_add (a := f * 4096 + a * 32768 + b * 1048576 + p * 33554432) (b := q * 128) 7 5 (K := 128) (M := 4096) rfl rfl (by decide) (by omega) (by omega) (by omega) (by omega) (by omega) (by omega)]
  rw [orI_add (a := c) (b := f * 4096 + a * 32768 + b * 1048576 + p * 33554432 + q * 128) 7 25 (K := 128) (M := 4294967296) rfl rfl (by decide) (by omega) (by omega) (by omega) (by omega) (by omega) (by omega)]

theorem or_form6 {c d f a p g : Int} (hc : 0 ≤ c ∧ c < 128) (hd : 0 ≤ d ∧ d < 32) (hf : 0 ≤ f ∧ f < 8) (ha : 0 ≤ a ∧ a < 32) (hp : 0 ≤ p ∧ p < 64) (hg : 0 ≤ g ∧ g < 128) (hg2 : g % 2 = 0) : orI c (orI (orI (orI (orI (IntKind.wrap .u32 ((IntKind.wrap .u32 d) * 2 ^ 7)) (IntKind.wrap .u32 (f * 2 ^ 12))) (IntKind.wrap .u32 ((IntKind.wrap .u32 a) * 2 ^ 15))) (IntKind.wrap .u32 (p * 2 ^ 20))) (IntKind.wrap .u32 (g * 2 ^ 25))) = c + (d * 128 + f * 4096 + a * 32768 + p * 1048576 + g * 33554432) := by
  have wd : IntKind.wrap .u32 ((IntKind.wrap .u32 d) * 2 ^ 7) = d * 128 := by rw [wrap32 (x := d) (by omega) (by omega)]; exact wrap32 (by omega) (by omega)
  have wf : IntKind.wrap .u32 (f * 2 ^ 12) = f * 4096 := wrap32 (by omega) (by omega)
  have wa : IntKind.wrap .u32 ((IntKind.wrap .u32 a) * 2 ^ 15) = a * 32768 := by rw [wrap32 (x := a) (by omega) (by omega)]; exact wrap32 (by omega) (by omega)
  have wp : IntKind.wrap .u32 (p * 2 ^ 20) = p * 1048576 := wrap32 (by omega) (by omega)
  have wg : IntKind.wrap .u32 (g * 2 ^ 25) = g * 33554432 := wrap32 (by omega) (by omega)
  rw [wd, wf, wa, wp, wg]
  rw [orI_add (a := d * 128) (b := f * 4096) 12 3 (K := 4096) (M := 32768) rfl rfl (by decide) (by omega) (by omega) (by omega) (by omega) (by omega) (by omega)]
  rw [orI_add (a := d * 128 + f * 4096) (b := a * 32768) 15 5 (K := 32768) (M := 1048576) rfl rfl (by decide) (by omega) (by omega) (by omega) (by omega) (by omega) (by omega)]
  rw [orI_add (a := d * 128 + f * 4096 + a * 32768) (b := p * 1048576) 20 6 (K := 1048576) (M := 67108864) rfl rfl (by decide) (by omega) (by omega) (by omega) (by omega) (by omega) (by omega)]
  rw [orI_add (a := d * 128 + f * 4096 + a * 32768 + p * 1048576) (b := g * 33554432) 26 6 (K := 67108864) (M := 4294967296) rfl rfl (by decide) (by omega) (by omega) (by omega) (by omega) (by omega) (by omega)]
  rw [orI_add (a := c) (b := d * 128 + f * 4096 + a * 32768 + p * 1048576 + g * 33554432) 7 25 (K := 128) (M := 4294967296) rfl rfl (by decide) (by omega) (by omega) (by omega) (by omega) (by omega) (by omega)]

theorem or_form8 {c d f a b g : Int} (hc : 0 ≤ c ∧ c < 128) (hd : 0 ≤ d ∧ d < 32) (hf : 0 ≤ f ∧ f < 8) (ha : 0 ≤ a ∧ a < 32) (hb : 0 ≤ b ∧ b < 32) (hg : 0 ≤ g ∧ g < 128) : orI c (orI (orI (orI (orI (IntKind.wrap .u32 ((IntKind.wrap .u32 d) * 2 ^ 7)) (IntKind.wrap .u32 (f * 2 ^ 12))) (IntKind.wrap .u32 ((IntKind.wrap .u32 a) * 2 ^ 15))) (IntKind.wrap .u32 ((IntKind.wrap .u32 b) * 2 ^ 20))) (IntKind.wrap .u32 (g * 2 ^ 25))) = c + (d * 128 + f * 4096 + a * 32768 + b * 1048576 + g * 33554432) := by
  have wd : IntKind.wrap .u32 ((IntKind.wrap .u32 d) * 2 ^ 7) = d * 128 := by rw [wrap32 (x := d) (by omega) (by omega)]; exact wrap32 (by omega) (by omega)
  have wf : IntKind.wrap .u32 (f * 2 ^ 12) = f * 4096 := wrap32 (by omega) (by omega)
  have wa : IntKind.wrap .u32 ((IntKind.wrap .u32 a) * 2 ^ 15) = a * 32768 := by rw [wrap32 (x := a) (by omega) (by omega)]; exact wrap32 (by omega) (by omega)
  have wb : IntKind.wrap .u32 ((IntKind.wrap .u32 b) * 2 ^ 20) = b * 1048576 := by rw [wrap32 (x := b) (by omega) (by omega)]; exact wrap32 (by omega) (by omega)
  have wg : IntKind.wrap .u32 (g * 2 ^ 25) = g * 33554432 := wrap32 (by omega) (by omega)
  rw [wd, wf, wa, wb, wg]
  rw [orI_add (a := d * 128) (b := f * 4096) 12 3 (K := 4096) (M := 32768) rfl rfl (by decide) (by omega) (by omega) (by omega) (by omega) (by omega) (by omega)]
  rw [orI_add (a := d * 128 + f * 4096) (b := a * 32768) 15 5 (K := 32768) (M := 1048576) rfl rfl (by decide) (by omega) (by omega) (by omega) (by omega) (by omega) (by omega)]
  rw [orI_add (a := d * 128 + f * 4096 + a * 32768) (b := b * 1048576) 20 5 (K := 1048576) (M := 33554432) rfl rfl (by decide) (by omega) (by omega) (by omega) (by omega) (by omega) (by omega)]
  rw [orI_add (a := d * 128 + f * 4096 + a * 32768 + b * 1048576) (b := g * 33554432) 25 7 (K := 33554432) (M := 4294967296) rfl rfl (by decide) (by omega) (by omega) (by omega) (by omega) (by omega) (by omega)]
  rw [orI_add (a := c) (b := d * 128 + f * 4096 + a * 32768 + b * 1048576 + g * 33554432) 7 25 (K := 128) (M := 4294967296) rfl rfl (by decide) (by omega) (by omega) (by omega) (by omega) (by omega) (by omega)]

theorem or_form9 {c d f a b p g : Int} (hc : 0 ≤ c ∧ c < 128) (hd : 0 ≤ d ∧ d < 32) (hf : 0 ≤ f ∧ f < 8) (ha : 0 ≤ a ∧ a < 32) (hb : 0 ≤ b ∧ b < 32) (hp : 0 ≤ p ∧ p < 4) (hg : 0 ≤ g ∧ g < 32) : orI c (orI (orI (orI (orI (orI (IntKind.wrap .u32 ((IntKind.wrap .u32 d) * 2 ^ 7)) (IntKind.wrap .u32 (f * 2 ^ 12))) (IntKind.wrap .u32 ((IntKind.wrap .u32 a) * 2 ^ 15))) (IntKind.wrap .u32 ((IntKind.wrap .u32 b) * 2 ^ 20))) (IntKind.wrap .u32 (p * 2 ^ 25))) (IntKind.wrap .u32 (g * 2 ^ 27))) = c + (d * 128 + f * 4096 + a * 32768 + b * 1048576 + p * 33554432 + g * 134217728) := by
  have wd : IntKind.wrap .u32 ((IntKind.wrap .u32 d) * 2 ^ 7) = d * 128 := by rw [wrap32 (x := d) (by omega) (by omega)]; exact wrap32 (by omega) (by omega)
  have wf : IntKind.wrap .u32 (f * 2 ^ 12) = f * 4096 := wrap32 (by omega) (by omega)
  have wa : IntKind.wrap .u32 ((IntKind.wrap .u32 a) * 2 ^ 15) = a * 32768 := by rw [wrap32 (x := a) (by omega) (by omega)]; exact wrap32 (by omega) (by omega)
  have wb : IntKind.wrap .u32 ((IntKind.wrap .u32 b) * 2 ^ 20) = b * 1048576 := by rw [wrap32 (x := b) (by omega) (by omega)]; exact wrap32 (by omega) (by omega)
  have wp : IntKind.wrap .u32 (p * 2 ^ 25) = p * 33554432 := wrap32 (by omega) (by omega)
  have wg : IntKind.wrap .u32 (g * 2 ^ 27) = g * 134217728 := wrap32 (by omega) (by omega)
  rw [wd, wf, wa, wb, wp, wg]
  rw [orI_add (a := d * 128) (b := f * 4096) 12 3 (K := 4096) (M := 32768) rfl rfl (by decide) (by omega) (by omega) (by omega) (by omega) (by omega) (by omega)]
  rw [orI_add (a := d * 128 + f * 4096) (b := a * 32768) 15 5 (K := 32768) (M := 1048576) rfl rfl (by decide) (by omega) (by omega) (by omega) (by omega) (by omega) (by omega)]
  rw [orI_add (a := d * 128 + f * 4096 + a * 32768) (b := b * 1048576) 20 5 (K := 1048576) (M := 33554432) rfl rfl (by decide) (by omega) (by omega) (by omega) (by omega) (by omega) (by omega)]
  rw [orI_add (a := d * 128 + f * 4096 + a * 32768 + b * 1048576) (b := p * 33554432) 25 2 (K := 33554432) (M := 134217728) rfl rfl (by decide) (by omega) (by omega) (by omega) (by omega) (by omega) (by omega)]
  rw [orI_add (a := d * 128 + f * 4096 + a * 32768 + b * 1048576 + p * 33554432) (b := g * 134217728) 27 5 (K := 134217728) (M := 4294967296) rfl rfl (by decide) (by omega) (by omega) (by omega) (by omega) (by omega) (by omega)]
  rw [orI_add (a := c) (b := d * 128 + f * 4096 + a * 32768 + b * 1048576 + p * 33554432 + g * 134217728) 7 25 (K := 128) (M := 4294967296) rfl rfl (by decide) (by omega) (by omega) (by omega) (by omega) (by omega) (by omega)]


theorem fold_or (a b : Int) : IntKind.wrap .u32 (((BitVec.ofInt 32 a ||| BitVec.ofInt 32 b).toNat : Nat) : Int) = orI a b := rfl

theorem ret_encode (x : Ins) : Ret 13 [insV x] 6 (.tuple [.int .u32 (if May x then enc x else 0), .int .i64 (if May x then 0 else 2)]) := .mk fun n hn σ hk => by
  refine .le f13_e ?_
  unfold f13_t
  refine .call (ret_may x) hn (.refl _) hk fun σ1 _ u1 k1 => ?_
  rw [xBool_b]
  refine .ite (fun h => .ret u1 ?_) fun h => ?_
  · simp at h; simp [h]
  have hM : May x := by simpa using h
  rw [if_pos hM, if_pos hM]
  clear h
  have hM' := hM
  obtain ⟨h1, h2, h3, h4, h5, h⟩ := hM
  refine .callD ret_rows (by omega) u1 k1 fun σ2 _ u2 k2 => ?_
  rw [xAgg_a, rows_at (by omega) h2, xAgg_a]
  simp only [rowV, unC_c, xInt_i, nlC_n]
  have hr := rowOk h1 h2
  have q1 := hr.code0; have q2 := hr.code; have q3 := hr.f3; have q4 := hr.f7; have q5 := hr.f76; have q6 := hr.f77; have q7 := hr.f79
  unfold enc
  generalize rowAt x.op = r at *
  clear hr hM'
  rcases h with h | h | h | h | h | h | h | h | h | h <;> rw [h.1] <;> simp only [Int.reduceBEq, cT, cF]
  · refine .call (ret_bits (A := 4096) (M := 1048576) (by decide) (by decide) rfl rfl) (by omega) u2 k2 fun σ3 _ u3 k3 => ?_
    rw [xInt_i]
    refine .le f13_j1_e ?_
    unfold f13_j1_t
    refine .ret u3 ?_
    rw [fold_or, fold_or, or_form1 (by omega) (by omega) (by omega)]
    simp [encR, h.1]; omega
  · refine .call (ret_bits (A := 1048576) (M := 2) (by decide) (by decide) rfl rfl) (by omega) u2 k2 fun σ3 _ u3 k3 => ?_
    rw [xInt_i]
    refine .call (ret_bits (A := 2) (M := 1024) (by decide) (by decide) rfl rfl) (by omega) u3 k3 fun σ3 _ u3 k3 => ?_
    rw [xInt_i]
    refine .call (ret_bits (A := 2048) (M := 2) (by decide) (by decide) rfl rfl) (by omega) u3 k3 fun σ3 _ u3 k3 => ?_
    rw [xInt_i]
    refine .call (ret_bits (A := 4096) (M := 256) (by decide) (by decide) rfl rfl) (by omega) u3 k3 fun σ3 _ u3 k3 => ?_
    rw [xInt_i]
    refine .le f13_j1_e ?_
    unfold f13_j1_t
    refine .ret u3 ?_
    simp only [fold_or]
    rw [or_form2 (by omega) (by omega) (by omega) (by omega) (by omega) (by omega)]
    simp [encR, h.1]; omega
  · refine .call (ret_bits (A := 1) (M := 4096) (by decide) (by decide) rfl rfl) (by omega) u2 k2 fun σ3 _ u3 k3 => ?_
    rw [xInt_i]
    refine .le f13_j1_e ?_
    unfold f13_j1_t
    refine .ret u3 ?_
    simp only [fold_or]
    rw [or_form3 (by omega) (by omega) (by omega) (by omega) (by omega)]
    simp [encR, h.1]; omega
  · refine .call (ret_bits (A := 4096) (M := 2) (by decide) (by decide) rfl rfl) (by omega) u2 k2 fun σ3 _ u3 k3 => ?_
    rw [xInt_i]
    refine .call (ret_bits (A := 32) (M := 64) (by decide) (by decide) rfl rfl) (by omega) u3 k3 fun σ3 _ u3 k3 => ?_
    rw [xInt_i]
    refine .call (ret_bits (A := 2) (M := 16) (by decide) (by decide) rfl rfl) (by omega) u3 k3 fun σ3 _ u3 k3 => ?_
    rw [xInt_i]
    refine .call (ret_bits (A := 2048) (M := 2) (by decide) (by decide) rfl rfl) (by omega) u3 k3 fun σ3 _ u3 k3 => ?_
    rw [xInt_i]
    refine .le f13_j1_e ?_
    unfold f13_j1_t
    refine .ret u3 ?_
    simp only [fold_or]
    rw [or_form4 (by omega) (by omega) (by omega) (by omega) (by omega) (by omega) (by omega) (by omega)]
    simp [encR, h.1]; omega
  · refine .call (ret_bits (A := 32) (M := 128) (by decide) (by decide) rfl rfl) (by omega) u2 k2 fun σ3 _ u3 k3 => ?_
    rw [xInt_i]
    refine .call (ret_bits (A := 1) (M := 32) (by decide) (by decide) rfl rfl) (by omega) u3 k3 fun σ3 _ u3 k3 => ?_
    rw [xInt_i]
    refine .le f13_j1_e ?_
    unfold f13_j1_t
    refine .ret u3 ?_
    simp only [fold_or]
    rw [or_form5 (by omega) (by omega) (by omega) (by omega) (by omega) (by omega)]
    simp [encR, h.1]; omega
  · have q := q5 h.1
    refine .le f13_j2_e ?_
    unfold f13_j2_t
    refine .callD (ret_bits (A := 1) (M := 64) (by decide) (by decide) rfl rfl) (by omega) u2 k2 fun σ3 _ u3 k3 => ?_
    rw [xInt_i]
    refine .le f13_j1_e ?_
    unfold f13_j1_t
    refine .ret u3 ?_
    simp only [fold_or]
    rw [or_form6 (by omega) (by omega) (by omega) (by omega) (by omega) (by omega) (by omega)]
    have e : x.imm / 1 % 64 = x.imm := by omega
    rw [e]
    simp [encR, h.1]; omega
  all_goals (refine .le f13_j3_e ?_; unfold f13_j3_t; simp only [Int.reduceBEq, cT, cF])
  · have q := q6 h.1
    refine .callD (ret_bits (A := 1) (M := 64) (by decide) (by decide) rfl rfl) (by omega) u2 k2 fun σ3 _ u3 k3 => ?_
    rw [xInt_i]
    refine .le f13_j1_e ?_
    unfold f13_j1_t
    refine .ret u3 ?_
    simp only [fold_or]
    rw [or_form6 (by omega) (by omega) (by omega) (by omega) (by omega) (by omega) (by omega)]
    have e : x.imm / 1 % 64 = x.imm := by omega
    rw [e]
    simp [encR, h.1]; omega
  · refine .le f13_j1_e ?_
    unfold f13_j1_t
    refine .ret u2 ?_
    simp only [fold_or]
    rw [or_form8 (by omega) (by omega) (by omega) (by omega) (by omega) (by omega)]
    simp [encR, h.1]; omega
  · have q := q7 h.1
    refine .callD (ret_bits (A := 1) (M := 4) (by decide) (by decide) rfl rfl) (by omega) u2 k2 fun σ3 _ u3 k3 => ?_
    rw [xInt_i]
    refine .le f13_j1_e ?_
    unfold f13_j1_t
    refine .ret u3 ?_
    simp only [fold_or]
    rw [or_form9 (by omega) (by omega) (by omega) (by omega) (by omega) (by omega) (by omega)]
    have e : x.imm / 1 % 4 = x.imm := by omega
    rw [e]
    simp [encR, h.1]; omega
  · refine .le f13_j1_e ?_
    unfold f13_j1_t
    refine .ret u2 ?_
    simp [encR, h.1]

end Go.Proofs.Inst

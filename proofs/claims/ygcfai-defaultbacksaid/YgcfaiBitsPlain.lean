/-
  BITS OF A WORD AS ARITHMETIC: and with a mask is a remainder; or of numbers that share no bit is their sum; the sign of thirty bits.
-/
import Derived.Test.YgcfaiAid2
import Derived.Laws.BitsAllLaws
namespace Go.Proofs.Ygcfai
open Go.RowKit Plain

theorem nat_or_add (k a b : Nat) (ha : a < 2 ^ k) : a ||| 2 ^ k * b = a + 2 ^ k * b := by
  rw [Nat.or_comm, ← Nat.two_pow_add_eq_or_of_lt ha b]; omega
theorem nat_xor_hi (r : Nat) (h : r < 2 ^ 29) : (2 ^ 29 + r) ^^^ 2 ^ 29 = r := by
  have e : 2 ^ 29 + r = 2 ^ 29 ^^^ r := by
    have e1 : 2 ^ 29 * 1 + r = 2 ^ 29 * 1 ||| r := Nat.two_pow_add_eq_or_of_lt h 1
    rw [Nat.mul_one] at e1
    rw [e1]
    apply Nat.eq_of_testBit_eq
    intro i
    by_cases hi : i = 29
    · subst hi
      have : r.testBit 29 = false := Nat.testBit_lt_two_pow h
      simp only [Nat.testBit_xor, Nat.testBit_or, this]; simp
    · have : (2 ^ 29 : Nat).testBit i = false := by rw [Nat.testBit_two_pow]; simp; omega
      simp only [Nat.testBit_xor, Nat.testBit_or, this]; simp
  rw [e, Nat.xor_comm, ← Nat.xor_assoc, Nat.xor_self, Nat.zero_xor]
theorem nat_xor_lo (r : Nat) (h : r < 2 ^ 29) : r ^^^ 2 ^ 29 = 2 ^ 29 + r := by
  have := nat_xor_hi r h
  calc r ^^^ 2 ^ 29 = ((2 ^ 29 + r) ^^^ 2 ^ 29) ^^^ 2 ^ 29 := by rw [this]
    _ = 2 ^ 29 + r := by rw [Nat.xor_assoc, Nat.xor_self, Nat.xor_zero]

/-- 'x & (2^n - 1)'. -/
theorem band (x : Int) (n : Nat) (m : Int) (hm : m = 2 ^ n - 1) (hn : n ≤ 64) (hx : U64 x) : bits .and .u64 x m = x % 2 ^ n := by
  obtain ⟨X, rfl⟩ := Int.eq_ofNat_of_zero_le hx.1
  have hp : (2 : Nat) ^ n ≤ 2 ^ 64 := Nat.pow_le_pow_right (by omega) hn
  have hp0 : 0 < (2 : Nat) ^ n := Nat.pow_pos (by omega)
  have hm' : m = ((2 ^ n - 1 : Nat) : Int) := by rw [hm, Int.ofNat_sub hp0, Int.natCast_pow]; rfl
  rw [hm', u64_and_nat X (2 ^ n - 1) (by have := hx.2; omega) (by omega), Nat.and_two_pow_sub_one_eq_mod, Int.natCast_emod, Int.natCast_pow]; rfl
/-- 'a | b' where b begins above a. -/
theorem bor (a b : Int) (k : Nat) (c : Int) (ha : U64 a) (hk : a < 2 ^ k) (hb : b = 2 ^ k * c) (hs : U64 b) (hc : 0 ≤ c) : bits .or .u64 a b = a + b := by
  obtain ⟨A, rfl⟩ := Int.eq_ofNat_of_zero_le ha.1
  obtain ⟨C, rfl⟩ := Int.eq_ofNat_of_zero_le hc
  have hb' : b = ((2 ^ k * C : Nat) : Int) := by rw [hb, Int.natCast_mul, Int.natCast_pow]; rfl
  have hA : A < 2 ^ k := by
    have h : (A : Int) < ((2 ^ k : Nat) : Int) := by rw [Int.natCast_pow]; exact hk
    omega
  subst hb'
  have h1 := ha.2
  have h2 := hs.2
  rw [u64_or_nat A (2 ^ k * C) (by omega) (by omega), nat_or_add k A C hA]
  omega
/-- Thirty bits read as a signed number. -/
def sgn30 (x : Int) : Int := if x % 1073741824 < 536870912 then x % 1073741824 else x % 1073741824 - 1073741824
theorem sgn30_bd (x : Int) : -536870912 ≤ sgn30 x ∧ sgn30 x < 536870912 := by unfold sgn30; split <;> omega
theorem sign_plain (x : Int) (hx : U64 x) : IntKind.i64.wrap (IntKind.u64.wrap (bits .xor .u64 (bits .and .u64 x 1073741823) 536870912 - 536870912)) = sgn30 x := by
  have e1 : bits .and .u64 x 1073741823 = x % 1073741824 := band x 30 _ (by decide) (by decide) hx
  rw [e1]
  obtain ⟨X, hX⟩ := Int.eq_ofNat_of_zero_le (show 0 ≤ x % 1073741824 by omega)
  have hlt : X < 1073741824 := by omega
  unfold sgn30
  rw [hX]
  have hn := u64_xor_nat X 536870912 (by omega) (by omega)
  have hn' : bits .xor .u64 (X : Int) 536870912 = ((X ^^^ 536870912 : Nat) : Int) := hn
  rw [hn', wrapU64, wrapI64]
  by_cases h : X < 536870912
  · have e := nat_xor_lo X h
    simp only [Nat.reducePow] at e
    rw [e, if_pos (by omega)]
    omega
  · have e := nat_xor_hi (X - 536870912) (by omega)
    simp only [Nat.reducePow] at e
    rw [show 536870912 + (X - 536870912) = X by omega] at e
    rw [e, if_neg (by omega)]
    omega
/-- The offset field in its place. -/
def offv (f t : Int) : Int := (t - f - 1) % 1073741824 * 4
theorem offv_bd (f t : Int) : 0 ≤ offv f t ∧ offv f t < 4294967296 := by unfold offv; omega
theorem off_plain (f t : Int) (hf : U16 f) (ht : U16 t) : bits .or .u64 (bits .andNot .u64 0 4294967292) (IntKind.u64.wrap (bits .and .u64 (IntKind.u64.wrap (t - f - 1)) 1073741823 * 4)) = offv f t := by
  obtain ⟨f0, f1⟩ := hf; obtain ⟨t0, t1⟩ := ht
  have e0 : bits .andNot .u64 0 4294967292 = 0 := by
    have := u64_andNot_nat 0 4294967292 (by omega) (by omega)
    simpa using this
  have hw : U64 (IntKind.u64.wrap (t - f - 1)) := by rw [wrapU64]; exact ⟨by omega, by omega⟩
  have e1 : bits .and .u64 (IntKind.u64.wrap (t - f - 1)) 1073741823 = IntKind.u64.wrap (t - f - 1) % 1073741824 := band _ 30 _ (by decide) (by decide) hw
  rw [e0, e1, wrapU64_in (IntKind.u64.wrap (t - f - 1) % 1073741824 * 4) (by omega) (by omega)]
  rw [bor 0 _ 0 (IntKind.u64.wrap (t - f - 1) % 1073741824 * 4) ⟨by omega, by omega⟩ (by decide) (by simp) ⟨by omega, by omega⟩ (by omega)]
  unfold offv
  rw [wrapU64]
  omega
theorem off_plain2 (f t : Int) (hf : U16 f) (ht : U16 t) : IntKind.u64.wrap (bits .and .u64 (IntKind.u64.wrap (t - f - 1)) 1073741823 * 4) = offv f t := by
  obtain ⟨f0, f1⟩ := hf; obtain ⟨t0, t1⟩ := ht
  have hw : U64 (IntKind.u64.wrap (t - f - 1)) := by rw [wrapU64]; exact ⟨by omega, by omega⟩
  have e1 : bits .and .u64 (IntKind.u64.wrap (t - f - 1)) 1073741823 = IntKind.u64.wrap (t - f - 1) % 1073741824 := band _ 30 _ (by decide) (by decide) hw
  rw [e1, wrapU64_in (IntKind.u64.wrap (t - f - 1) % 1073741824 * 4) (by omega) (by omega)]
  unfold offv
  rw [wrapU64]
  omega
end Go.Proofs.Ygcfai

/-
  DefaultBack, the writing side: bitsx.Put at a place; schema.shift; law.value.
-/
import Derived.Test.YgcfaiDefB
import Derived.Test.YgcfaiPutPlain
namespace Go.Proofs.Ygcfai
open Go.RowKit Plain
set_option linter.unusedSimpArgs false
set_option linter.unusedVariables false

def putv (x v : Int) (b S : Nat) : Int := ((putN x.toNat v.toNat b S : Nat) : Int)
theorem putv_u64 (x v : Int) (b S : Nat) (hx : U64 x) (h : b + S ≤ 64) : U64 (putv x v b S) := by
  have := putN_lt x.toNat v.toNat b S (by obtain ⟨h0, h1⟩ := hx; simp only [Nat.reducePow]; omega) h
  simp only [Nat.reducePow] at this
  unfold putv
  exact ⟨by omega, by omega⟩
theorem getv_nat (X b S : Nat) : getv (X : Int) b S = ((getN X b S : Nat) : Int) := by
  unfold getv getN
  rw [Int.natCast_emod, Int.natCast_ediv, Int.natCast_pow, Int.natCast_pow]; rfl
theorem put_ops (x v m : Int) (b S : Nat) (hm : m = 2 ^ S - 1) (hx : U64 x) (hv : U64 v) (h : b + S ≤ 64) :
    bits .or .u64 (bits .andNot .u64 x (IntKind.u64.wrap (m * 2 ^ b))) (IntKind.u64.wrap (bits .and .u64 v m * 2 ^ b)) = putv x v b S := by
  obtain ⟨X, rfl⟩ := Int.eq_ofNat_of_zero_le hx.1
  obtain ⟨V, rfl⟩ := Int.eq_ofNat_of_zero_le hv.1
  have hX : X < 2 ^ 64 := by have := hx.2; simp only [Nat.reducePow]; omega
  have hS0 : 0 < 2 ^ S := Nat.pow_pos (by omega)
  have hb0 : 0 < 2 ^ b := Nat.pow_pos (by omega)
  have hSb : 2 ^ S * 2 ^ b ≤ 2 ^ 64 := by rw [← Nat.pow_add]; exact Nat.pow_le_pow_right (by omega) (by omega)
  have hM : (2 ^ S - 1) * 2 ^ b < 2 ^ 64 := Nat.lt_of_lt_of_le (Nat.mul_lt_mul_of_pos_right (by omega) hb0) hSb
  have hV : V % 2 ^ S * 2 ^ b < 2 ^ 64 := Nat.lt_of_lt_of_le (Nat.mul_lt_mul_of_pos_right (Nat.mod_lt _ hS0) hb0) hSb
  simp only [Nat.reducePow] at hM hV hX
  rw [band (V : Int) S m hm (by omega) hv]
  have e1 : m * 2 ^ b = (((2 ^ S - 1) * 2 ^ b : Nat) : Int) := by
    rw [hm, Int.natCast_mul, Int.ofNat_sub hS0, Int.natCast_pow, Int.natCast_pow]; rfl
  have e2 : (V : Int) % 2 ^ S * 2 ^ b = ((V % 2 ^ S * 2 ^ b : Nat) : Int) := by
    rw [Int.natCast_mul, Int.natCast_emod, Int.natCast_pow, Int.natCast_pow]; rfl
  rw [e1, e2, wrapU64_in _ (by omega) (by omega), wrapU64_in _ (by omega) (by omega), u64_andNot_nat X _ hX hM]
  have hand : X &&& (18446744073709551615 - (2 ^ S - 1) * 2 ^ b) < 18446744073709551616 := Nat.lt_of_le_of_lt Nat.and_le_left hX
  rw [u64_or_nat _ _ hand hV]
  have := putN_ops X V b S (by simp only [Nat.reducePow]; exact hX) h
  rw [show (2 : Nat) ^ 64 - 1 = 18446744073709551615 from by decide] at this
  rw [this]
  unfold putv
  simp

theorem put_1 (x v b : Int) (hx : U64 x) (hv : U64 v) (b0 : 0 ≤ b) (b1 : b + 1 ≤ 64) (w : World) :
    Calls Faig.prog 116 #[.int .u64 x, .int .u64 v, .int .u8 b, .int .u8 1] w fun e w' => e = .returned (.int .u64 (putv x v b.toNat 1)) ∧ w' = w := by
  have hb := put_ops x v 1 b.toNat 1 (by decide) hx hv (by omega)
  rw [Int.one_mul] at hb
  have HB : Hid _ := hb
  clear hb
  go_enter Faig.func116, Faig.ntmps116
  go_wp2
  go_ret
  exact ⟨ret_int HB.out, rfl⟩
theorem shift_1 (w : World) :
    Calls Faig.prog 120 #[.int .u8 1] w fun e w' => e = .returned (.tuple #[.int .u8 0, .bool true]) ∧ w' = w := by
  go_enter Faig.func120, Faig.ntmps120
  go_wp2
  go_ret2
  exact ⟨rfl, rfl⟩

theorem put_8 (x v b : Int) (hx : U64 x) (hv : U64 v) (b0 : 0 ≤ b) (b1 : b + 8 ≤ 64) (w : World) :
    Calls Faig.prog 116 #[.int .u64 x, .int .u64 v, .int .u8 b, .int .u8 8] w fun e w' => e = .returned (.int .u64 (putv x v b.toNat 8)) ∧ w' = w := by
  have hb := put_ops x v 255 b.toNat 8 (by decide) hx hv (by omega)
  have HB : Hid _ := hb
  clear hb
  go_enter Faig.func116, Faig.ntmps116
  go_wp2
  go_ret
  exact ⟨ret_int HB.out, rfl⟩
theorem shift_8 (w : World) :
    Calls Faig.prog 120 #[.int .u8 8] w fun e w' => e = .returned (.tuple #[.int .u8 3, .bool true]) ∧ w' = w := by
  go_enter Faig.func120, Faig.ntmps120
  go_wp2
  go_ret2
  exact ⟨rfl, rfl⟩

theorem put_16 (x v b : Int) (hx : U64 x) (hv : U64 v) (b0 : 0 ≤ b) (b1 : b + 16 ≤ 64) (w : World) :
    Calls Faig.prog 116 #[.int .u64 x, .int .u64 v, .int .u8 b, .int .u8 16] w fun e w' => e = .returned (.int .u64 (putv x v b.toNat 16)) ∧ w' = w := by
  have hb := put_ops x v 65535 b.toNat 16 (by decide) hx hv (by omega)
  have HB : Hid _ := hb
  clear hb
  go_enter Faig.func116, Faig.ntmps116
  go_wp2
  go_ret
  exact ⟨ret_int HB.out, rfl⟩
theorem shift_16 (w : World) :
    Calls Faig.prog 120 #[.int .u8 16] w fun e w' => e = .returned (.tuple #[.int .u8 4, .bool true]) ∧ w' = w := by
  go_enter Faig.func120, Faig.ntmps120
  go_wp2
  go_ret2
  exact ⟨rfl, rfl⟩

theorem put_32 (x v b : Int) (hx : U64 x) (hv : U64 v) (b0 : 0 ≤ b) (b1 : b + 32 ≤ 64) (w : World) :
    Calls Faig.prog 116 #[.int .u64 x, .int .u64 v, .int .u8 b, .int .u8 32] w fun e w' => e = .returned (.int .u64 (putv x v b.toNat 32)) ∧ w' = w := by
  have hb := put_ops x v 4294967295 b.toNat 32 (by decide) hx hv (by omega)
  have HB : Hid _ := hb
  clear hb
  go_enter Faig.func116, Faig.ntmps116
  go_wp2
  go_ret
  exact ⟨ret_int HB.out, rfl⟩
theorem shift_32 (w : World) :
    Calls Faig.prog 120 #[.int .u8 32] w fun e w' => e = .returned (.tuple #[.int .u8 5, .bool true]) ∧ w' = w := by
  go_enter Faig.func120, Faig.ntmps120
  go_wp2
  go_ret2
  exact ⟨rfl, rfl⟩

theorem put_64 (x v b : Int) (hx : U64 x) (hv : U64 v) (b0 : 0 ≤ b) (b1 : b + 64 ≤ 64) (w : World) :
    Calls Faig.prog 116 #[.int .u64 x, .int .u64 v, .int .u8 b, .int .u8 64] w fun e w' => e = .returned (.int .u64 (putv x v b.toNat 64)) ∧ w' = w := by
  have hb := put_ops x v 18446744073709551615 b.toNat 64 (by decide) hx hv (by omega)
  have HB : Hid _ := hb
  clear hb
  go_enter Faig.func116, Faig.ntmps116
  go_wp2
  go_ret
  exact ⟨ret_int HB.out, rfl⟩
theorem shift_64 (w : World) :
    Calls Faig.prog 120 #[.int .u8 64] w fun e w' => e = .returned (.tuple #[.int .u8 6, .bool true]) ∧ w' = w := by
  go_enter Faig.func120, Faig.ntmps120
  go_wp2
  go_ret2
  exact ⟨rfl, rfl⟩

theorem shift_0 (w : World) :
    Calls Faig.prog 120 #[.int .u8 0] w fun e w' => e = .returned (.tuple #[.int .u8 0, .bool false]) ∧ w' = w := by
  go_enter Faig.func120, Faig.ntmps120
  go_wp2
  go_ret2
  exact ⟨rfl, rfl⟩
theorem value_any (a : Option Addr) (len cap : Nat) (l : List Int) (i : Int) (i0 : 0 ≤ i) (i1 : i ≤ 1000000) (w : World) (hr : Row w a len l) :
    Calls Faig.prog 31 #[.slice a len cap, .int .i64 i] w fun e w' => e = .returned (.int .u64 (l.getD i.toNat 0)) ∧ w' = w := by
  have hm := hr.2.2.1
  unfold maxLen at hm
  by_cases h : i < len
  · obtain ⟨b, off, rfl, hlt, hcell, hxU⟩ := hr.at i.toNat (by omega)
    revert hcell hxU
    generalize l.getD i.toNat 0 = x
    intro hcell hxU
    go_enter Faig.func31, Faig.ntmps31
    go_wp2
    go_ret
    exact ⟨rfl, rfl⟩
  · have e : l.getD i.toNat 0 = 0 := by
      rw [List.getD_eq_getElem?_getD, List.getElem?_eq_none (by have := hr.1; omega)]; rfl
    rw [e]
    go_enter Faig.func31, Faig.ntmps31
    go_wp2
    go_ret
    exact ⟨rfl, rfl⟩
end Go.Proofs.Ygcfai

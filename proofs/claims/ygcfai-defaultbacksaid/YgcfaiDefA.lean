/-
  DefaultBack, the reading side: bitsx.Take and Put at a place, wire.Inside, read.holds, read.field and what stands on them.
-/
import Derived.Test.YgcfaiBits
import Derived.Test.YgcfaiWords
import Derived.Test.YgcfaiExtent
import Derived.Deep.Light
namespace Go.Proofs.Ygcfai
open Go.RowKit Plain
set_option linter.unusedSimpArgs false
set_option linter.unusedVariables false

/-- S bits of a word that begin at bit b. -/
def getv (x : Int) (b S : Nat) : Int := x / 2 ^ b % 2 ^ S
/-- Field i of S bits of the data section of dd words that begins at index T. -/
def fv (l : List Int) (T dd : Int) (S : Nat) (i : Int) : Int :=
  if 64 * dd ≤ i * S then 0 else getv (l.getD (T + i * S / 64).toNat 0) (i * S % 64).toNat S
theorem pow_bd (n m : Nat) (h : n ≤ m) : (2 : Int) ^ n ≤ 2 ^ m := by
  have : (2 : Nat) ^ n ≤ 2 ^ m := Nat.pow_le_pow_right (by omega) h
  exact_mod_cast this
theorem shr_u64 (x : Int) (b : Nat) (hx : U64 x) : U64 (x / 2 ^ b) := by
  obtain ⟨h0, h1⟩ := hx
  have hp : (0 : Int) < 2 ^ b := Int.pow_pos (by omega)
  exact ⟨Int.ediv_nonneg h0 (by omega), by have := Int.ediv_le_self (2 ^ b) h0; omega⟩
theorem getv_bd (x : Int) (b S : Nat) : 0 ≤ getv x b S ∧ getv x b S < 2 ^ S := by
  unfold getv
  have hp : (0 : Int) < 2 ^ S := Int.pow_pos (by omega)
  exact ⟨Int.emod_nonneg _ (by omega), Int.emod_lt_of_pos _ hp⟩
theorem fv_bd (l : List Int) (T dd : Int) (S : Nat) (i : Int) : 0 ≤ fv l T dd S i ∧ fv l T dd S i < 2 ^ S := by
  unfold fv
  split
  · exact ⟨by omega, Int.pow_pos (by omega)⟩
  · exact getv_bd _ _ _

theorem take_1 (x b : Int) (hx : U64 x) (b0 : 0 ≤ b) (b1 : b + 1 ≤ 64) (w : World) :
    Calls Faig.prog 68 #[.int .u64 x, .int .u8 b, .int .u8 1] w fun e w' => e = .returned (.int .u64 (getv x b.toNat 1)) ∧ w' = w := by
  have hb := band (x / 2 ^ b.toNat) 1 1 (by decide) (by decide) (shr_u64 x b.toNat hx)
  have HB : Hid _ := hb
  clear hb
  go_enter Faig.func68, Faig.ntmps68
  go_wp2
  go_ret
  exact ⟨ret_int HB.out, rfl⟩

theorem take_8 (x b : Int) (hx : U64 x) (b0 : 0 ≤ b) (b1 : b + 8 ≤ 64) (w : World) :
    Calls Faig.prog 68 #[.int .u64 x, .int .u8 b, .int .u8 8] w fun e w' => e = .returned (.int .u64 (getv x b.toNat 8)) ∧ w' = w := by
  have hb := band (x / 2 ^ b.toNat) 8 255 (by decide) (by decide) (shr_u64 x b.toNat hx)
  have HB : Hid _ := hb
  clear hb
  go_enter Faig.func68, Faig.ntmps68
  go_wp2
  go_ret
  exact ⟨ret_int HB.out, rfl⟩

theorem take_16 (x b : Int) (hx : U64 x) (b0 : 0 ≤ b) (b1 : b + 16 ≤ 64) (w : World) :
    Calls Faig.prog 68 #[.int .u64 x, .int .u8 b, .int .u8 16] w fun e w' => e = .returned (.int .u64 (getv x b.toNat 16)) ∧ w' = w := by
  have hb := band (x / 2 ^ b.toNat) 16 65535 (by decide) (by decide) (shr_u64 x b.toNat hx)
  have HB : Hid _ := hb
  clear hb
  go_enter Faig.func68, Faig.ntmps68
  go_wp2
  go_ret
  exact ⟨ret_int HB.out, rfl⟩

theorem take_32 (x b : Int) (hx : U64 x) (b0 : 0 ≤ b) (b1 : b + 32 ≤ 64) (w : World) :
    Calls Faig.prog 68 #[.int .u64 x, .int .u8 b, .int .u8 32] w fun e w' => e = .returned (.int .u64 (getv x b.toNat 32)) ∧ w' = w := by
  have hb := band (x / 2 ^ b.toNat) 32 4294967295 (by decide) (by decide) (shr_u64 x b.toNat hx)
  have HB : Hid _ := hb
  clear hb
  go_enter Faig.func68, Faig.ntmps68
  go_wp2
  go_ret
  exact ⟨ret_int HB.out, rfl⟩

theorem take_64 (x b : Int) (hx : U64 x) (b0 : 0 ≤ b) (b1 : b + 64 ≤ 64) (w : World) :
    Calls Faig.prog 68 #[.int .u64 x, .int .u8 b, .int .u8 64] w fun e w' => e = .returned (.int .u64 (getv x b.toNat 64)) ∧ w' = w := by
  have hb := band (x / 2 ^ b.toNat) 64 18446744073709551615 (by decide) (by decide) (shr_u64 x b.toNat hx)
  have HB : Hid _ := hb
  clear hb
  go_enter Faig.func68, Faig.ntmps68
  go_wp2
  go_ret
  exact ⟨ret_int HB.out, rfl⟩

theorem six_start0' {w : World} {v0 v1 v2 v3 v4 v5 : Value} {t : TypeId} :
    Below w.heap.size w (w.alloc (.cells #[v0, v1, v2, v3, v4, v5] t)) ∧ w.heap.size ≤ w.heap.size ∧ w.heap.size < (w.alloc (.cells #[v0, v1, v2, v3, v4, v5] t)).heap.size ∧ (w.alloc (.cells #[v0, v1, v2, v3, v4, v5] t)).cell? ⟨w.heap.size, 0, none⟩ = some v0 ∧ (w.alloc (.cells #[v0, v1, v2, v3, v4, v5] t)).cell? ⟨w.heap.size, 1, none⟩ = some v1 ∧ (w.alloc (.cells #[v0, v1, v2, v3, v4, v5] t)).cell? ⟨w.heap.size, 2, none⟩ = some v2 ∧ (w.alloc (.cells #[v0, v1, v2, v3, v4, v5] t)).cell? ⟨w.heap.size, 3, none⟩ = some v3 ∧ (w.alloc (.cells #[v0, v1, v2, v3, v4, v5] t)).cell? ⟨w.heap.size, 4, none⟩ = some v4 ∧ (w.alloc (.cells #[v0, v1, v2, v3, v4, v5] t)).cell? ⟨w.heap.size, 5, none⟩ = some v5 := by
  refine ⟨((Below.refl _ _).alloc (Nat.le_refl _) _), Nat.le_refl _, ?_, ?_, ?_, ?_, ?_, ?_, ?_⟩ <;> simp [go_sem]

set_option maxHeartbeats 1000000 in
/-- wire.Inside of a struct of dd data words within the arena. -/
theorem inside_struct (a : Option Addr) (len cap : Nat) (T dd : Int) (hlen : len ≤ 256) (d0 : 0 < dd) (d8 : dd ≤ 8) (hT : 1 ≤ T) (hin : T + dd ≤ len) (w : World) :
    Calls Faig.prog 117 #[.slice a len cap, .agg #[.int .u8 1, .int .u16 T, .int .u8 dd, .int .u8 0, .int .u8 0, .int .u16 0]] w fun e w' => e = .returned (.bool true) ∧ Below w.heap.size w w' := by
  have hw : words 1 dd 0 0 0 = dd := by unfold words; simp [d8]
  have bn : (dd == 0) = false := by simp; omega
  go_enter Faig.func117, Faig.ntmps117
  go_wp2_with fail
  refine (words_any 1 T dd 0 0 0 ⟨by omega, by omega⟩ ⟨by omega, by omega⟩ ⟨by omega, by omega⟩ ⟨by omega, by omega⟩ ⟨by omega, by omega⟩ ⟨by omega, by omega⟩ _).mono ?_
  rw [hw]
  rintro e w1 ⟨rfl, hb1⟩
  have s1 := six_mono six_start0' hb1
  obtain ⟨B1, _, z1, c10, c11, c12, c13, c14, c15⟩ := s1
  clear hb1
  go_wp2_with fail
  go_ret
  exact ⟨rfl, B1⟩

set_option maxHeartbeats 1000000 in
theorem holds_struct (a : Option Addr) (len cap : Nat) (T dd : Int) (hlen : len ≤ 256) (d0 : 0 < dd) (d8 : dd ≤ 8) (hT : 1 ≤ T) (hin : T + dd ≤ len) (w : World) :
    Calls Faig.prog 137 #[.slice a len cap, .agg #[.int .u8 1, .int .u16 T, .int .u8 dd, .int .u8 0, .int .u8 0, .int .u16 0], .int .u8 1] w fun e w' => e = .returned (.bool true) ∧ Below w.heap.size w w' := by
  go_enter Faig.func137, Faig.ntmps137
  go_wp2_with fail
  refine (inside_struct a len cap T dd hlen d0 d8 hT hin _).mono ?_
  rintro e w1 ⟨rfl, hb1⟩
  have s1 := six_mono six_start0' hb1
  obtain ⟨B1, _, z1, c10, c11, c12, c13, c14, c15⟩ := s1
  clear hb1
  go_wp2_with fail
  go_ret
  exact ⟨rfl, B1⟩

/-- A struct Ptr of dd data words, no pointers, that lies in an arena; or no data at all. -/
def Fits (k T dd : Int) (len : Nat) : Prop := U8 k ∧ U16 T ∧ 0 ≤ dd ∧ dd ≤ 8 ∧ (dd = 0 ∨ k = 1 ∧ 1 ≤ T ∧ T + dd ≤ len)

set_option maxHeartbeats 1000000 in
theorem field_1 (a : Option Addr) (len cap : Nat) (l : List Int) (k T dd i : Int) (hlen : len ≤ 256) (hf : Fits k T dd len) (hi : U16 i) (w : World) (hr : Row w a len l) :
    Calls Faig.prog 136 #[.slice a len cap, .agg #[.int .u8 k, .int .u16 T, .int .u8 dd, .int .u8 0, .int .u8 0, .int .u16 0], .int .u16 i, .int .u8 0] w fun e w' => e = .returned (.int .u64 (fv l T dd 1 i)) ∧ Below w.heap.size w w' := by
  obtain ⟨hk, hTU, d0, d8, hgood⟩ := hf
  obtain ⟨i0, i1⟩ := hi
  by_cases hout : dd * 64 ≤ i
  · rw [show fv l T dd 1 i = 0 from by unfold fv; rw [if_pos (by omega)]]
    go_enter Faig.func136, Faig.ntmps136
    go_wp2
    go_ret
    exact ⟨rfl, (Below.refl _ _).alloc (Nat.le_refl _) _⟩
  · obtain ⟨rfl, hT, hin⟩ : k = 1 ∧ 1 ≤ T ∧ T + dd ≤ len := by omega
    have hfv : fv l T dd 1 i = getv (l.getD (T + (i) / 64).toNat 0) ((i) % 64).toNat 1 := by
      unfold fv; rw [if_neg (by omega)]; simp
    rw [hfv]
    obtain ⟨b, off, rfl, hlt, hcell, hxU⟩ := hr.at (T + (i) / 64).toNat (by omega)
    revert hcell hxU
    generalize l.getD (T + (i) / 64).toNat 0 = x
    intro hcell hxU
    clear hgood hfv
    go_enter Faig.func136, Faig.ntmps136
    go_wp2_with fail
    refine (holds_struct (some ⟨b, off, none⟩) len cap T dd hlen (by omega) d8 hT hin _).mono ?_
    rintro e w1 ⟨rfl, hb1⟩
    have hcell1 : w1.cell? ⟨b, off + (T + (i) / 64).toNat, none⟩ = some (.int .u64 x) := by
      rw [hb1.cell (by show b < _; simp; omega), World.cell?_alloc_lt _ _ _ (by exact hlt)]; exact hcell
    have s1 := six_mono six_start0' hb1
    obtain ⟨B1, _, z1, c10, c11, c12, c13, c14, c15⟩ := s1
    clear hb1
    go_wp2_with fail
    refine (take_1 x ((i) % 64) hxU (by omega) (by omega) _).mono ?_
    rintro e w' ⟨rfl, hw'⟩
    subst w'
    go_wp2_with fail
    go_ret
    exact ⟨rfl, B1⟩

set_option maxHeartbeats 1000000 in
theorem field_8 (a : Option Addr) (len cap : Nat) (l : List Int) (k T dd i : Int) (hlen : len ≤ 256) (hf : Fits k T dd len) (hi : U16 i) (w : World) (hr : Row w a len l) :
    Calls Faig.prog 136 #[.slice a len cap, .agg #[.int .u8 k, .int .u16 T, .int .u8 dd, .int .u8 0, .int .u8 0, .int .u16 0], .int .u16 i, .int .u8 3] w fun e w' => e = .returned (.int .u64 (fv l T dd 8 i)) ∧ Below w.heap.size w w' := by
  obtain ⟨hk, hTU, d0, d8, hgood⟩ := hf
  obtain ⟨i0, i1⟩ := hi
  by_cases hout : dd * 64 ≤ i * 8
  · rw [show fv l T dd 8 i = 0 from by unfold fv; rw [if_pos (by omega)]]
    go_enter Faig.func136, Faig.ntmps136
    go_wp2
    go_ret
    exact ⟨rfl, (Below.refl _ _).alloc (Nat.le_refl _) _⟩
  · obtain ⟨rfl, hT, hin⟩ : k = 1 ∧ 1 ≤ T ∧ T + dd ≤ len := by omega
    have hfv : fv l T dd 8 i = getv (l.getD (T + (i * 8) / 64).toNat 0) ((i * 8) % 64).toNat 8 := by
      unfold fv; rw [if_neg (by omega)]; rfl
    rw [hfv]
    obtain ⟨b, off, rfl, hlt, hcell, hxU⟩ := hr.at (T + (i * 8) / 64).toNat (by omega)
    revert hcell hxU
    generalize l.getD (T + (i * 8) / 64).toNat 0 = x
    intro hcell hxU
    clear hgood hfv
    go_enter Faig.func136, Faig.ntmps136
    go_wp2_with fail
    refine (holds_struct (some ⟨b, off, none⟩) len cap T dd hlen (by omega) d8 hT hin _).mono ?_
    rintro e w1 ⟨rfl, hb1⟩
    have hcell1 : w1.cell? ⟨b, off + (T + (i * 8) / 64).toNat, none⟩ = some (.int .u64 x) := by
      rw [hb1.cell (by show b < _; simp; omega), World.cell?_alloc_lt _ _ _ (by exact hlt)]; exact hcell
    have s1 := six_mono six_start0' hb1
    obtain ⟨B1, _, z1, c10, c11, c12, c13, c14, c15⟩ := s1
    clear hb1
    go_wp2_with fail
    refine (take_8 x ((i * 8) % 64) hxU (by omega) (by omega) _).mono ?_
    rintro e w' ⟨rfl, hw'⟩
    subst w'
    go_wp2_with fail
    go_ret
    exact ⟨rfl, B1⟩

set_option maxHeartbeats 1000000 in
theorem field_16 (a : Option Addr) (len cap : Nat) (l : List Int) (k T dd i : Int) (hlen : len ≤ 256) (hf : Fits k T dd len) (hi : U16 i) (w : World) (hr : Row w a len l) :
    Calls Faig.prog 136 #[.slice a len cap, .agg #[.int .u8 k, .int .u16 T, .int .u8 dd, .int .u8 0, .int .u8 0, .int .u16 0], .int .u16 i, .int .u8 4] w fun e w' => e = .returned (.int .u64 (fv l T dd 16 i)) ∧ Below w.heap.size w w' := by
  obtain ⟨hk, hTU, d0, d8, hgood⟩ := hf
  obtain ⟨i0, i1⟩ := hi
  by_cases hout : dd * 64 ≤ i * 16
  · rw [show fv l T dd 16 i = 0 from by unfold fv; rw [if_pos (by omega)]]
    go_enter Faig.func136, Faig.ntmps136
    go_wp2
    go_ret
    exact ⟨rfl, (Below.refl _ _).alloc (Nat.le_refl _) _⟩
  · obtain ⟨rfl, hT, hin⟩ : k = 1 ∧ 1 ≤ T ∧ T + dd ≤ len := by omega
    have hfv : fv l T dd 16 i = getv (l.getD (T + (i * 16) / 64).toNat 0) ((i * 16) % 64).toNat 16 := by
      unfold fv; rw [if_neg (by omega)]; rfl
    rw [hfv]
    obtain ⟨b, off, rfl, hlt, hcell, hxU⟩ := hr.at (T + (i * 16) / 64).toNat (by omega)
    revert hcell hxU
    generalize l.getD (T + (i * 16) / 64).toNat 0 = x
    intro hcell hxU
    clear hgood hfv
    go_enter Faig.func136, Faig.ntmps136
    go_wp2_with fail
    refine (holds_struct (some ⟨b, off, none⟩) len cap T dd hlen (by omega) d8 hT hin _).mono ?_
    rintro e w1 ⟨rfl, hb1⟩
    have hcell1 : w1.cell? ⟨b, off + (T + (i * 16) / 64).toNat, none⟩ = some (.int .u64 x) := by
      rw [hb1.cell (by show b < _; simp; omega), World.cell?_alloc_lt _ _ _ (by exact hlt)]; exact hcell
    have s1 := six_mono six_start0' hb1
    obtain ⟨B1, _, z1, c10, c11, c12, c13, c14, c15⟩ := s1
    clear hb1
    go_wp2_with fail
    refine (take_16 x ((i * 16) % 64) hxU (by omega) (by omega) _).mono ?_
    rintro e w' ⟨rfl, hw'⟩
    subst w'
    go_wp2_with fail
    go_ret
    exact ⟨rfl, B1⟩

set_option maxHeartbeats 1000000 in
theorem field_32 (a : Option Addr) (len cap : Nat) (l : List Int) (k T dd i : Int) (hlen : len ≤ 256) (hf : Fits k T dd len) (hi : U16 i) (w : World) (hr : Row w a len l) :
    Calls Faig.prog 136 #[.slice a len cap, .agg #[.int .u8 k, .int .u16 T, .int .u8 dd, .int .u8 0, .int .u8 0, .int .u16 0], .int .u16 i, .int .u8 5] w fun e w' => e = .returned (.int .u64 (fv l T dd 32 i)) ∧ Below w.heap.size w w' := by
  obtain ⟨hk, hTU, d0, d8, hgood⟩ := hf
  obtain ⟨i0, i1⟩ := hi
  by_cases hout : dd * 64 ≤ i * 32
  · rw [show fv l T dd 32 i = 0 from by unfold fv; rw [if_pos (by omega)]]
    go_enter Faig.func136, Faig.ntmps136
    go_wp2
    go_ret
    exact ⟨rfl, (Below.refl _ _).alloc (Nat.le_refl _) _⟩
  · obtain ⟨rfl, hT, hin⟩ : k = 1 ∧ 1 ≤ T ∧ T + dd ≤ len := by omega
    have hfv : fv l T dd 32 i = getv (l.getD (T + (i * 32) / 64).toNat 0) ((i * 32) % 64).toNat 32 := by
      unfold fv; rw [if_neg (by omega)]; rfl
    rw [hfv]
    obtain ⟨b, off, rfl, hlt, hcell, hxU⟩ := hr.at (T + (i * 32) / 64).toNat (by omega)
    revert hcell hxU
    generalize l.getD (T + (i * 32) / 64).toNat 0 = x
    intro hcell hxU
    clear hgood hfv
    go_enter Faig.func136, Faig.ntmps136
    go_wp2_with fail
    refine (holds_struct (some ⟨b, off, none⟩) len cap T dd hlen (by omega) d8 hT hin _).mono ?_
    rintro e w1 ⟨rfl, hb1⟩
    have hcell1 : w1.cell? ⟨b, off + (T + (i * 32) / 64).toNat, none⟩ = some (.int .u64 x) := by
      rw [hb1.cell (by show b < _; simp; omega), World.cell?_alloc_lt _ _ _ (by exact hlt)]; exact hcell
    have s1 := six_mono six_start0' hb1
    obtain ⟨B1, _, z1, c10, c11, c12, c13, c14, c15⟩ := s1
    clear hb1
    go_wp2_with fail
    refine (take_32 x ((i * 32) % 64) hxU (by omega) (by omega) _).mono ?_
    rintro e w' ⟨rfl, hw'⟩
    subst w'
    go_wp2_with fail
    go_ret
    exact ⟨rfl, B1⟩

set_option maxHeartbeats 1000000 in
theorem field_64 (a : Option Addr) (len cap : Nat) (l : List Int) (k T dd i : Int) (hlen : len ≤ 256) (hf : Fits k T dd len) (hi : U16 i) (w : World) (hr : Row w a len l) :
    Calls Faig.prog 136 #[.slice a len cap, .agg #[.int .u8 k, .int .u16 T, .int .u8 dd, .int .u8 0, .int .u8 0, .int .u16 0], .int .u16 i, .int .u8 6] w fun e w' => e = .returned (.int .u64 (fv l T dd 64 i)) ∧ Below w.heap.size w w' := by
  obtain ⟨hk, hTU, d0, d8, hgood⟩ := hf
  obtain ⟨i0, i1⟩ := hi
  by_cases hout : dd * 64 ≤ i * 64
  · rw [show fv l T dd 64 i = 0 from by unfold fv; rw [if_pos (by omega)]]
    go_enter Faig.func136, Faig.ntmps136
    go_wp2
    go_ret
    exact ⟨rfl, (Below.refl _ _).alloc (Nat.le_refl _) _⟩
  · obtain ⟨rfl, hT, hin⟩ : k = 1 ∧ 1 ≤ T ∧ T + dd ≤ len := by omega
    have hfv : fv l T dd 64 i = getv (l.getD (T + i).toNat 0) (0 : Int).toNat 64 := by
      unfold fv; rw [if_neg (by omega)]; simp
    rw [hfv]
    obtain ⟨b, off, rfl, hlt, hcell, hxU⟩ := hr.at (T + i).toNat (by omega)
    revert hcell hxU
    generalize l.getD (T + i).toNat 0 = x
    intro hcell hxU
    clear hgood hfv
    go_enter Faig.func136, Faig.ntmps136
    go_wp2_with fail
    refine (holds_struct (some ⟨b, off, none⟩) len cap T dd hlen (by omega) d8 hT hin _).mono ?_
    rintro e w1 ⟨rfl, hb1⟩
    have hcell1 : w1.cell? ⟨b, off + (T + i).toNat, none⟩ = some (.int .u64 x) := by
      rw [hb1.cell (by show b < _; simp; omega), World.cell?_alloc_lt _ _ _ (by exact hlt)]; exact hcell
    have s1 := six_mono six_start0' hb1
    obtain ⟨B1, _, z1, c10, c11, c12, c13, c14, c15⟩ := s1
    clear hb1
    go_wp2_with fail
    refine (take_64 x 0 hxU (by omega) (by omega) _).mono ?_
    rintro e w' ⟨rfl, hw'⟩
    subst w'
    go_wp2_with fail
    go_ret
    exact ⟨rfl, B1⟩

set_option maxHeartbeats 1000000 in
theorem readBit_any (a : Option Addr) (len cap : Nat) (l : List Int) (k T dd i : Int) (hlen : len ≤ 256) (hf : Fits k T dd len) (hi : U16 i) (w : World) (hr : Row w a len l) :
    Calls Faig.prog 125 #[.slice a len cap, .agg #[.int .u8 k, .int .u16 T, .int .u8 dd, .int .u8 0, .int .u8 0, .int .u16 0], .int .u16 i] w fun e w' => e = .returned (.bool (fv l T dd 1 i == 1)) ∧ Below w.heap.size w w' := by
  obtain ⟨i0, i1⟩ := hi
  obtain ⟨v0, v1⟩ := fv_bd l T dd 1 i
  simp only [Int.reducePow] at v1
  go_enter Faig.func125, Faig.ntmps125
  go_wp2_with fail
  refine (field_1 a len cap l k T dd i hlen hf ⟨i0, by omega⟩ _ (hr.alloc _)).mono ?_
  rintro e w1 ⟨rfl, hb1⟩
  have s1 := six_mono six_start0' hb1
  obtain ⟨B1, _, z1, c10, c11, c12, c13, c14, c15⟩ := s1
  clear hb1
  go_wp2_with fail
  go_ret
  exact ⟨rfl, B1⟩

set_option maxHeartbeats 1000000 in
theorem readU8_any (a : Option Addr) (len cap : Nat) (l : List Int) (k T dd i : Int) (hlen : len ≤ 256) (hf : Fits k T dd len) (hi : U8 i) (w : World) (hr : Row w a len l) :
    Calls Faig.prog 126 #[.slice a len cap, .agg #[.int .u8 k, .int .u16 T, .int .u8 dd, .int .u8 0, .int .u8 0, .int .u16 0], .int .u8 i] w fun e w' => e = .returned (.int .u8 (fv l T dd 8 i)) ∧ Below w.heap.size w w' := by
  obtain ⟨i0, i1⟩ := hi
  obtain ⟨v0, v1⟩ := fv_bd l T dd 8 i
  simp only [Int.reducePow] at v1
  go_enter Faig.func126, Faig.ntmps126
  go_wp2_with fail
  refine (field_8 a len cap l k T dd i hlen hf ⟨i0, by omega⟩ _ (hr.alloc _)).mono ?_
  rintro e w1 ⟨rfl, hb1⟩
  have s1 := six_mono six_start0' hb1
  obtain ⟨B1, _, z1, c10, c11, c12, c13, c14, c15⟩ := s1
  clear hb1
  go_wp2_with fail
  go_ret
  exact ⟨rfl, B1⟩

set_option maxHeartbeats 1000000 in
theorem readU16_any (a : Option Addr) (len cap : Nat) (l : List Int) (k T dd i : Int) (hlen : len ≤ 256) (hf : Fits k T dd len) (hi : U8 i) (w : World) (hr : Row w a len l) :
    Calls Faig.prog 127 #[.slice a len cap, .agg #[.int .u8 k, .int .u16 T, .int .u8 dd, .int .u8 0, .int .u8 0, .int .u16 0], .int .u8 i] w fun e w' => e = .returned (.int .u16 (fv l T dd 16 i)) ∧ Below w.heap.size w w' := by
  obtain ⟨i0, i1⟩ := hi
  obtain ⟨v0, v1⟩ := fv_bd l T dd 16 i
  simp only [Int.reducePow] at v1
  go_enter Faig.func127, Faig.ntmps127
  go_wp2_with fail
  refine (field_16 a len cap l k T dd i hlen hf ⟨i0, by omega⟩ _ (hr.alloc _)).mono ?_
  rintro e w1 ⟨rfl, hb1⟩
  have s1 := six_mono six_start0' hb1
  obtain ⟨B1, _, z1, c10, c11, c12, c13, c14, c15⟩ := s1
  clear hb1
  go_wp2_with fail
  go_ret
  exact ⟨rfl, B1⟩

set_option maxHeartbeats 1000000 in
theorem readU32_any (a : Option Addr) (len cap : Nat) (l : List Int) (k T dd i : Int) (hlen : len ≤ 256) (hf : Fits k T dd len) (hi : U8 i) (w : World) (hr : Row w a len l) :
    Calls Faig.prog 128 #[.slice a len cap, .agg #[.int .u8 k, .int .u16 T, .int .u8 dd, .int .u8 0, .int .u8 0, .int .u16 0], .int .u8 i] w fun e w' => e = .returned (.int .u32 (fv l T dd 32 i)) ∧ Below w.heap.size w w' := by
  obtain ⟨i0, i1⟩ := hi
  obtain ⟨v0, v1⟩ := fv_bd l T dd 32 i
  simp only [Int.reducePow] at v1
  go_enter Faig.func128, Faig.ntmps128
  go_wp2_with fail
  refine (field_32 a len cap l k T dd i hlen hf ⟨i0, by omega⟩ _ (hr.alloc _)).mono ?_
  rintro e w1 ⟨rfl, hb1⟩
  have s1 := six_mono six_start0' hb1
  obtain ⟨B1, _, z1, c10, c11, c12, c13, c14, c15⟩ := s1
  clear hb1
  go_wp2_with fail
  go_ret
  exact ⟨rfl, B1⟩

set_option maxHeartbeats 1000000 in
theorem readU64_any (a : Option Addr) (len cap : Nat) (l : List Int) (k T dd i : Int) (hlen : len ≤ 256) (hf : Fits k T dd len) (hi : U8 i) (w : World) (hr : Row w a len l) :
    Calls Faig.prog 91 #[.slice a len cap, .agg #[.int .u8 k, .int .u16 T, .int .u8 dd, .int .u8 0, .int .u8 0, .int .u16 0], .int .u8 i] w fun e w' => e = .returned (.int .u64 (fv l T dd 64 i)) ∧ Below w.heap.size w w' := by
  obtain ⟨i0, i1⟩ := hi
  obtain ⟨v0, v1⟩ := fv_bd l T dd 64 i
  simp only [Int.reducePow] at v1
  go_enter Faig.func91, Faig.ntmps91
  go_wp2_with fail
  refine (field_64 a len cap l k T dd i hlen hf ⟨i0, by omega⟩ _ (hr.alloc _)).mono ?_
  rintro e w1 ⟨rfl, hb1⟩
  have s1 := six_mono six_start0' hb1
  obtain ⟨B1, _, z1, c10, c11, c12, c13, c14, c15⟩ := s1
  clear hb1
  go_wp2_with fail
  go_ret
  exact ⟨rfl, B1⟩
end Go.Proofs.Ygcfai

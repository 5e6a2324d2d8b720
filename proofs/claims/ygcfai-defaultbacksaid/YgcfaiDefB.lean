/-
  DefaultBack, the reading side: schema.Get, wide.cut, wide.GetDefault.
-/
import Derived.Test.YgcfaiDefA
import Derived.Deep.RegionHeld3
namespace Go.Proofs.Ygcfai
open Go.RowKit Plain
set_option linter.unusedSimpArgs false
set_option linter.unusedVariables false

theorem held2 {B : Nat} {W w1 w2 : World} (h : Below B W w1) (hb : Below w1.heap.size w1 w2) (hB : B ≤ W.heap.size) : Below B W w2 := h.trans (hb.mono (Nat.le_trans hB h.size))
theorem two_new {w w1 : World} {o1 o2 : Obj} (h : Below (w.heap.size + 2) ((w.alloc o1).alloc o2) w1) : Below w.heap.size w w1 :=
  (((Below.refl _ _).alloc (Nat.le_refl _) _).alloc (by simp) _).trans (h.mono (by omega))

theorem cut_1 (d : Int) (hd : U64 d) (w : World) :
    Calls Faig.prog 82 #[.int .u64 d, .int .u8 1] w fun e w' => e = .returned (.int .u64 (d % 2 ^ 1)) ∧ w' = w := by
  go_enter Faig.func82, Faig.ntmps82
  go_wp2
  go_ret
  exact ⟨ret_int (band d 1 _ (by decide) (by decide) hd), rfl⟩

set_option maxRecDepth 100000 in
set_option maxHeartbeats 1000000 in
theorem get_1 (a : Option Addr) (len cap : Nat) (l : List Int) (k T dd off : Int) (hlen : len ≤ 256) (hf : Fits k T dd len) (o0 : 0 ≤ off) (o1 : off ≤ 511) (w : World) (hr : Row w a len l) :
    Calls Faig.prog 81 #[.slice a len cap, .agg #[.int .u8 k, .int .u16 T, .int .u8 dd, .int .u8 0, .int .u8 0, .int .u16 0], .agg #[.int .u8 1, .int .u16 off, .int .u8 0, .bool false]] w fun e w' => e = .returned (.int .u64 (fv l T dd 1 off)) ∧ Below w.heap.size w w' := by
  obtain ⟨v0, v1⟩ := fv_bd l T dd 1 off
  simp only [Int.reducePow] at v1
  by_cases h1 : fv l T dd 1 off = 1
  · have b1 : (fv l T dd 1 off == 1) = true := by simp [h1]
    have HV : Hid _ := h1
    clear h1
    go_enter Faig.func81, Faig.ntmps81
    go_wp2_with fail
    refine (readBit_any a len cap l k T dd off hlen hf ⟨o0, by omega⟩ _ ((hr.alloc _).alloc _)).mono ?_
    rintro e w1 ⟨rfl, hb1⟩
    have hh : w1.cell? ⟨w.heap.size, 0, none⟩ = some (.int .u8 k) ∧ w1.cell? ⟨w.heap.size, 1, none⟩ = some (.int .u16 T) ∧ w1.cell? ⟨w.heap.size, 2, none⟩ = some (.int .u8 dd) ∧ w1.cell? ⟨w.heap.size, 3, none⟩ = some (.int .u8 0) ∧ w1.cell? ⟨w.heap.size, 4, none⟩ = some (.int .u8 0) ∧ w1.cell? ⟨w.heap.size, 5, none⟩ = some (.int .u16 0) ∧ w1.cell? ⟨w.heap.size + 1, 0, none⟩ = some (.int .u8 1) ∧ w1.cell? ⟨w.heap.size + 1, 1, none⟩ = some (.int .u16 off) ∧ w1.cell? ⟨w.heap.size + 1, 2, none⟩ = some (.int .u8 0) ∧ w1.cell? ⟨w.heap.size + 1, 3, none⟩ = some (.bool false) := by
      refine ⟨?_, ?_, ?_, ?_, ?_, ?_, ?_, ?_, ?_, ?_⟩ <;> (rw [hb1.cell (by simp <;> omega)]; simp [go_sem])
    have hb : Below w.heap.size w w1 := two_new (hb1.mono (by simp <;> omega))
    clear hb1
    go_wp2_with fail
    go_ret
    exact ⟨ret_int HV.out.symm, hb⟩
  · have b1 : (fv l T dd 1 off == 1) = false := by simp [h1]
    have HV : Hid (fv l T dd 1 off = 0) := by have : fv l T dd 1 off = 0 := by omega
                                              exact this
    clear h1
    go_enter Faig.func81, Faig.ntmps81
    go_wp2_with fail
    refine (readBit_any a len cap l k T dd off hlen hf ⟨o0, by omega⟩ _ ((hr.alloc _).alloc _)).mono ?_
    rintro e w1 ⟨rfl, hb1⟩
    have hh : w1.cell? ⟨w.heap.size, 0, none⟩ = some (.int .u8 k) ∧ w1.cell? ⟨w.heap.size, 1, none⟩ = some (.int .u16 T) ∧ w1.cell? ⟨w.heap.size, 2, none⟩ = some (.int .u8 dd) ∧ w1.cell? ⟨w.heap.size, 3, none⟩ = some (.int .u8 0) ∧ w1.cell? ⟨w.heap.size, 4, none⟩ = some (.int .u8 0) ∧ w1.cell? ⟨w.heap.size, 5, none⟩ = some (.int .u16 0) ∧ w1.cell? ⟨w.heap.size + 1, 0, none⟩ = some (.int .u8 1) ∧ w1.cell? ⟨w.heap.size + 1, 1, none⟩ = some (.int .u16 off) ∧ w1.cell? ⟨w.heap.size + 1, 2, none⟩ = some (.int .u8 0) ∧ w1.cell? ⟨w.heap.size + 1, 3, none⟩ = some (.bool false) := by
      refine ⟨?_, ?_, ?_, ?_, ?_, ?_, ?_, ?_, ?_, ?_⟩ <;> (rw [hb1.cell (by simp <;> omega)]; simp [go_sem])
    have hb : Below w.heap.size w w1 := two_new (hb1.mono (by simp <;> omega))
    clear hb1
    go_wp2_with fail
    go_ret
    exact ⟨ret_int HV.out.symm, hb⟩

theorem cut_8 (d : Int) (hd : U64 d) (w : World) :
    Calls Faig.prog 82 #[.int .u64 d, .int .u8 8] w fun e w' => e = .returned (.int .u64 (d % 2 ^ 8)) ∧ w' = w := by
  go_enter Faig.func82, Faig.ntmps82
  go_wp2
  go_ret
  exact ⟨ret_int (band d 8 _ (by decide) (by decide) hd), rfl⟩

set_option maxRecDepth 100000 in
set_option maxHeartbeats 1000000 in
theorem get_8 (a : Option Addr) (len cap : Nat) (l : List Int) (k T dd off : Int) (hlen : len ≤ 256) (hf : Fits k T dd len) (o0 : 0 ≤ off) (o1 : off ≤ 255) (w : World) (hr : Row w a len l) :
    Calls Faig.prog 81 #[.slice a len cap, .agg #[.int .u8 k, .int .u16 T, .int .u8 dd, .int .u8 0, .int .u8 0, .int .u16 0], .agg #[.int .u8 8, .int .u16 off, .int .u8 0, .bool false]] w fun e w' => e = .returned (.int .u64 (fv l T dd 8 off)) ∧ Below w.heap.size w w' := by
  obtain ⟨v0, v1⟩ := fv_bd l T dd 8 off
  simp only [Int.reducePow] at v1
  go_enter Faig.func81, Faig.ntmps81
  go_wp2_with fail
  refine (readU8_any a len cap l k T dd off hlen hf ⟨o0, by omega⟩ _ ((hr.alloc _).alloc _)).mono ?_
  rintro e w1 ⟨rfl, hb1⟩
  have hh : w1.cell? ⟨w.heap.size, 0, none⟩ = some (.int .u8 k) ∧ w1.cell? ⟨w.heap.size, 1, none⟩ = some (.int .u16 T) ∧ w1.cell? ⟨w.heap.size, 2, none⟩ = some (.int .u8 dd) ∧ w1.cell? ⟨w.heap.size, 3, none⟩ = some (.int .u8 0) ∧ w1.cell? ⟨w.heap.size, 4, none⟩ = some (.int .u8 0) ∧ w1.cell? ⟨w.heap.size, 5, none⟩ = some (.int .u16 0) ∧ w1.cell? ⟨w.heap.size + 1, 0, none⟩ = some (.int .u8 8) ∧ w1.cell? ⟨w.heap.size + 1, 1, none⟩ = some (.int .u16 off) ∧ w1.cell? ⟨w.heap.size + 1, 2, none⟩ = some (.int .u8 0) ∧ w1.cell? ⟨w.heap.size + 1, 3, none⟩ = some (.bool false) := by
    refine ⟨?_, ?_, ?_, ?_, ?_, ?_, ?_, ?_, ?_, ?_⟩ <;> (rw [hb1.cell (by simp <;> omega)]; simp [go_sem])
  have hb : Below w.heap.size w w1 := two_new (hb1.mono (by simp <;> omega))
  clear hb1
  go_wp2_with fail
  go_ret
  exact ⟨rfl, hb⟩

theorem cut_16 (d : Int) (hd : U64 d) (w : World) :
    Calls Faig.prog 82 #[.int .u64 d, .int .u8 16] w fun e w' => e = .returned (.int .u64 (d % 2 ^ 16)) ∧ w' = w := by
  go_enter Faig.func82, Faig.ntmps82
  go_wp2
  go_ret
  exact ⟨ret_int (band d 16 _ (by decide) (by decide) hd), rfl⟩

set_option maxRecDepth 100000 in
set_option maxHeartbeats 1000000 in
theorem get_16 (a : Option Addr) (len cap : Nat) (l : List Int) (k T dd off : Int) (hlen : len ≤ 256) (hf : Fits k T dd len) (o0 : 0 ≤ off) (o1 : off ≤ 255) (w : World) (hr : Row w a len l) :
    Calls Faig.prog 81 #[.slice a len cap, .agg #[.int .u8 k, .int .u16 T, .int .u8 dd, .int .u8 0, .int .u8 0, .int .u16 0], .agg #[.int .u8 16, .int .u16 off, .int .u8 0, .bool false]] w fun e w' => e = .returned (.int .u64 (fv l T dd 16 off)) ∧ Below w.heap.size w w' := by
  obtain ⟨v0, v1⟩ := fv_bd l T dd 16 off
  simp only [Int.reducePow] at v1
  go_enter Faig.func81, Faig.ntmps81
  go_wp2_with fail
  refine (readU16_any a len cap l k T dd off hlen hf ⟨o0, by omega⟩ _ ((hr.alloc _).alloc _)).mono ?_
  rintro e w1 ⟨rfl, hb1⟩
  have hh : w1.cell? ⟨w.heap.size, 0, none⟩ = some (.int .u8 k) ∧ w1.cell? ⟨w.heap.size, 1, none⟩ = some (.int .u16 T) ∧ w1.cell? ⟨w.heap.size, 2, none⟩ = some (.int .u8 dd) ∧ w1.cell? ⟨w.heap.size, 3, none⟩ = some (.int .u8 0) ∧ w1.cell? ⟨w.heap.size, 4, none⟩ = some (.int .u8 0) ∧ w1.cell? ⟨w.heap.size, 5, none⟩ = some (.int .u16 0) ∧ w1.cell? ⟨w.heap.size + 1, 0, none⟩ = some (.int .u8 16) ∧ w1.cell? ⟨w.heap.size + 1, 1, none⟩ = some (.int .u16 off) ∧ w1.cell? ⟨w.heap.size + 1, 2, none⟩ = some (.int .u8 0) ∧ w1.cell? ⟨w.heap.size + 1, 3, none⟩ = some (.bool false) := by
    refine ⟨?_, ?_, ?_, ?_, ?_, ?_, ?_, ?_, ?_, ?_⟩ <;> (rw [hb1.cell (by simp <;> omega)]; simp [go_sem])
  have hb : Below w.heap.size w w1 := two_new (hb1.mono (by simp <;> omega))
  clear hb1
  go_wp2_with fail
  go_ret
  exact ⟨rfl, hb⟩

theorem cut_32 (d : Int) (hd : U64 d) (w : World) :
    Calls Faig.prog 82 #[.int .u64 d, .int .u8 32] w fun e w' => e = .returned (.int .u64 (d % 2 ^ 32)) ∧ w' = w := by
  go_enter Faig.func82, Faig.ntmps82
  go_wp2
  go_ret
  exact ⟨ret_int (band d 32 _ (by decide) (by decide) hd), rfl⟩

set_option maxRecDepth 100000 in
set_option maxHeartbeats 1000000 in
theorem get_32 (a : Option Addr) (len cap : Nat) (l : List Int) (k T dd off : Int) (hlen : len ≤ 256) (hf : Fits k T dd len) (o0 : 0 ≤ off) (o1 : off ≤ 255) (w : World) (hr : Row w a len l) :
    Calls Faig.prog 81 #[.slice a len cap, .agg #[.int .u8 k, .int .u16 T, .int .u8 dd, .int .u8 0, .int .u8 0, .int .u16 0], .agg #[.int .u8 32, .int .u16 off, .int .u8 0, .bool false]] w fun e w' => e = .returned (.int .u64 (fv l T dd 32 off)) ∧ Below w.heap.size w w' := by
  obtain ⟨v0, v1⟩ := fv_bd l T dd 32 off
  simp only [Int.reducePow] at v1
  go_enter Faig.func81, Faig.ntmps81
  go_wp2_with fail
  refine (readU32_any a len cap l k T dd off hlen hf ⟨o0, by omega⟩ _ ((hr.alloc _).alloc _)).mono ?_
  rintro e w1 ⟨rfl, hb1⟩
  have hh : w1.cell? ⟨w.heap.size, 0, none⟩ = some (.int .u8 k) ∧ w1.cell? ⟨w.heap.size, 1, none⟩ = some (.int .u16 T) ∧ w1.cell? ⟨w.heap.size, 2, none⟩ = some (.int .u8 dd) ∧ w1.cell? ⟨w.heap.size, 3, none⟩ = some (.int .u8 0) ∧ w1.cell? ⟨w.heap.size, 4, none⟩ = some (.int .u8 0) ∧ w1.cell? ⟨w.heap.size, 5, none⟩ = some (.int .u16 0) ∧ w1.cell? ⟨w.heap.size + 1, 0, none⟩ = some (.int .u8 32) ∧ w1.cell? ⟨w.heap.size + 1, 1, none⟩ = some (.int .u16 off) ∧ w1.cell? ⟨w.heap.size + 1, 2, none⟩ = some (.int .u8 0) ∧ w1.cell? ⟨w.heap.size + 1, 3, none⟩ = some (.bool false) := by
    refine ⟨?_, ?_, ?_, ?_, ?_, ?_, ?_, ?_, ?_, ?_⟩ <;> (rw [hb1.cell (by simp <;> omega)]; simp [go_sem])
  have hb : Below w.heap.size w w1 := two_new (hb1.mono (by simp <;> omega))
  clear hb1
  go_wp2_with fail
  go_ret
  exact ⟨rfl, hb⟩

theorem cut_64 (d : Int) (hd : U64 d) (w : World) :
    Calls Faig.prog 82 #[.int .u64 d, .int .u8 64] w fun e w' => e = .returned (.int .u64 (d % 2 ^ 64)) ∧ w' = w := by
  go_enter Faig.func82, Faig.ntmps82
  go_wp2
  go_ret
  exact ⟨ret_int (by obtain ⟨h0, h1⟩ := hd; simp only [Int.reducePow]; omega), rfl⟩

set_option maxRecDepth 100000 in
set_option maxHeartbeats 1000000 in
theorem get_64 (a : Option Addr) (len cap : Nat) (l : List Int) (k T dd off : Int) (hlen : len ≤ 256) (hf : Fits k T dd len) (o0 : 0 ≤ off) (o1 : off ≤ 255) (w : World) (hr : Row w a len l) :
    Calls Faig.prog 81 #[.slice a len cap, .agg #[.int .u8 k, .int .u16 T, .int .u8 dd, .int .u8 0, .int .u8 0, .int .u16 0], .agg #[.int .u8 64, .int .u16 off, .int .u8 0, .bool false]] w fun e w' => e = .returned (.int .u64 (fv l T dd 64 off)) ∧ Below w.heap.size w w' := by
  obtain ⟨v0, v1⟩ := fv_bd l T dd 64 off
  simp only [Int.reducePow] at v1
  go_enter Faig.func81, Faig.ntmps81
  go_wp2_with fail
  refine (readU64_any a len cap l k T dd off hlen hf ⟨o0, by omega⟩ _ ((hr.alloc _).alloc _)).mono ?_
  rintro e w1 ⟨rfl, hb1⟩
  have hh : w1.cell? ⟨w.heap.size, 0, none⟩ = some (.int .u8 k) ∧ w1.cell? ⟨w.heap.size, 1, none⟩ = some (.int .u16 T) ∧ w1.cell? ⟨w.heap.size, 2, none⟩ = some (.int .u8 dd) ∧ w1.cell? ⟨w.heap.size, 3, none⟩ = some (.int .u8 0) ∧ w1.cell? ⟨w.heap.size, 4, none⟩ = some (.int .u8 0) ∧ w1.cell? ⟨w.heap.size, 5, none⟩ = some (.int .u16 0) ∧ w1.cell? ⟨w.heap.size + 1, 0, none⟩ = some (.int .u8 64) ∧ w1.cell? ⟨w.heap.size + 1, 1, none⟩ = some (.int .u16 off) ∧ w1.cell? ⟨w.heap.size + 1, 2, none⟩ = some (.int .u8 0) ∧ w1.cell? ⟨w.heap.size + 1, 3, none⟩ = some (.bool false) := by
    refine ⟨?_, ?_, ?_, ?_, ?_, ?_, ?_, ?_, ?_, ?_⟩ <;> (rw [hb1.cell (by simp <;> omega)]; simp [go_sem])
  have hb : Below w.heap.size w w1 := two_new (hb1.mono (by simp <;> omega))
  clear hb1
  go_wp2_with fail
  go_ret
  exact ⟨rfl, hb⟩

set_option maxRecDepth 100000 in
set_option maxHeartbeats 1000000 in
theorem getDefault_1 (a : Option Addr) (len cap : Nat) (l : List Int) (k T dd off d : Int) (hlen : len ≤ 256) (hf : Fits k T dd len) (o0 : 0 ≤ off) (o1 : off ≤ 511) (hd : U64 d) (w : World) (hr : Row w a len l) :
    Calls Faig.prog 35 #[.slice a len cap, .agg #[.int .u8 k, .int .u16 T, .int .u8 dd, .int .u8 0, .int .u8 0, .int .u16 0], .agg #[.int .u8 1, .int .u16 off, .int .u8 0, .bool false], .int .u64 d] w fun e w' => e = .returned (.int .u64 (bits .xor .u64 (fv l T dd 1 off) (d % 2 ^ 1))) ∧ Below w.heap.size w w' := by
  have HS : Hid (∀ w', Below (w.heap.size + 2) ((w.alloc (.cells #[.int .u8 k, .int .u16 T, .int .u8 dd, .int .u8 0, .int .u8 0, .int .u16 0] 88)).alloc (.cells #[.int .u8 1, .int .u16 off, .int .u8 0, .bool false] 78)) w' → (Below (w.heap.size + 2) ((w.alloc (.cells #[.int .u8 k, .int .u16 T, .int .u8 dd, .int .u8 0, .int .u8 0, .int .u16 0] 88)).alloc (.cells #[.int .u8 1, .int .u16 off, .int .u8 0, .bool false] 78)) w' ∧ w'.cell? ⟨w.heap.size, 0, none⟩ = some (.int .u8 k) ∧ w'.cell? ⟨w.heap.size, 1, none⟩ = some (.int .u16 T) ∧ w'.cell? ⟨w.heap.size, 2, none⟩ = some (.int .u8 dd) ∧ w'.cell? ⟨w.heap.size, 3, none⟩ = some (.int .u8 0) ∧ w'.cell? ⟨w.heap.size, 4, none⟩ = some (.int .u8 0) ∧ w'.cell? ⟨w.heap.size, 5, none⟩ = some (.int .u16 0) ∧ w'.cell? ⟨w.heap.size + 1, 0, none⟩ = some (.int .u8 1) ∧ w'.cell? ⟨w.heap.size + 1, 1, none⟩ = some (.int .u16 off) ∧ w'.cell? ⟨w.heap.size + 1, 2, none⟩ = some (.int .u8 0) ∧ w'.cell? ⟨w.heap.size + 1, 3, none⟩ = some (.bool false))) := by
    intro w' h
    refine ⟨h, ?_, ?_, ?_, ?_, ?_, ?_, ?_, ?_, ?_, ?_⟩ <;> (rw [h.cell (by simp <;> omega)]; simp [go_sem])
  have HR : Hid (∀ w', Below (w.heap.size + 2) ((w.alloc (.cells #[.int .u8 k, .int .u16 T, .int .u8 dd, .int .u8 0, .int .u8 0, .int .u16 0] 88)).alloc (.cells #[.int .u8 1, .int .u16 off, .int .u8 0, .bool false] 78)) w' → Row w' a len l) := fun w' h => ((hr.alloc _).alloc _).below h (by simp)
  clear hr
  go_enter Faig.func35, Faig.ntmps35
  go_wp2
  go_region_held3 (fun w' => Below (w.heap.size + 2) ((w.alloc (.cells #[.int .u8 k, .int .u16 T, .int .u8 dd, .int .u8 0, .int .u8 0, .int .u16 0] 88)).alloc (.cells #[.int .u8 1, .int .u16 off, .int .u8 0, .bool false] 78)) w' ∧ w'.cell? ⟨w.heap.size, 0, none⟩ = some (.int .u8 k) ∧ w'.cell? ⟨w.heap.size, 1, none⟩ = some (.int .u16 T) ∧ w'.cell? ⟨w.heap.size, 2, none⟩ = some (.int .u8 dd) ∧ w'.cell? ⟨w.heap.size, 3, none⟩ = some (.int .u8 0) ∧ w'.cell? ⟨w.heap.size, 4, none⟩ = some (.int .u8 0) ∧ w'.cell? ⟨w.heap.size, 5, none⟩ = some (.int .u16 0) ∧ w'.cell? ⟨w.heap.size + 1, 0, none⟩ = some (.int .u8 1) ∧ w'.cell? ⟨w.heap.size + 1, 1, none⟩ = some (.int .u16 off) ∧ w'.cell? ⟨w.heap.size + 1, 2, none⟩ = some (.int .u8 0) ∧ w'.cell? ⟨w.heap.size + 1, 3, none⟩ = some (.bool false))
    (first | exact HS.out _ (Below.refl _ _).drew | exact HS.out _ (held2 (And.left (by assumption)) (by assumption) (by simp)) | assumption)
    (first
      | (go_at_call 81; refine (get_1 a len cap l k T dd off hlen hf o0 o1 _ (HR.out _ (And.left (by assumption)))).mono ?_; rintro e w1 ⟨rfl, hb1⟩)
      | (go_at_call 82; refine (cut_1 d hd _).mono ?_; rintro e w1 ⟨rfl, hw1⟩; subst w1))
  go_wp2
  go_ret
  exact ⟨rfl, by rename_i hh; exact two_new hh.1⟩

set_option maxRecDepth 100000 in
set_option maxHeartbeats 1000000 in
theorem getDefault_8 (a : Option Addr) (len cap : Nat) (l : List Int) (k T dd off d : Int) (hlen : len ≤ 256) (hf : Fits k T dd len) (o0 : 0 ≤ off) (o1 : off ≤ 255) (hd : U64 d) (w : World) (hr : Row w a len l) :
    Calls Faig.prog 35 #[.slice a len cap, .agg #[.int .u8 k, .int .u16 T, .int .u8 dd, .int .u8 0, .int .u8 0, .int .u16 0], .agg #[.int .u8 8, .int .u16 off, .int .u8 0, .bool false], .int .u64 d] w fun e w' => e = .returned (.int .u64 (bits .xor .u64 (fv l T dd 8 off) (d % 2 ^ 8))) ∧ Below w.heap.size w w' := by
  have HS : Hid (∀ w', Below (w.heap.size + 2) ((w.alloc (.cells #[.int .u8 k, .int .u16 T, .int .u8 dd, .int .u8 0, .int .u8 0, .int .u16 0] 88)).alloc (.cells #[.int .u8 8, .int .u16 off, .int .u8 0, .bool false] 78)) w' → (Below (w.heap.size + 2) ((w.alloc (.cells #[.int .u8 k, .int .u16 T, .int .u8 dd, .int .u8 0, .int .u8 0, .int .u16 0] 88)).alloc (.cells #[.int .u8 8, .int .u16 off, .int .u8 0, .bool false] 78)) w' ∧ w'.cell? ⟨w.heap.size, 0, none⟩ = some (.int .u8 k) ∧ w'.cell? ⟨w.heap.size, 1, none⟩ = some (.int .u16 T) ∧ w'.cell? ⟨w.heap.size, 2, none⟩ = some (.int .u8 dd) ∧ w'.cell? ⟨w.heap.size, 3, none⟩ = some (.int .u8 0) ∧ w'.cell? ⟨w.heap.size, 4, none⟩ = some (.int .u8 0) ∧ w'.cell? ⟨w.heap.size, 5, none⟩ = some (.int .u16 0) ∧ w'.cell? ⟨w.heap.size + 1, 0, none⟩ = some (.int .u8 8) ∧ w'.cell? ⟨w.heap.size + 1, 1, none⟩ = some (.int .u16 off) ∧ w'.cell? ⟨w.heap.size + 1, 2, none⟩ = some (.int .u8 0) ∧ w'.cell? ⟨w.heap.size + 1, 3, none⟩ = some (.bool false))) := by
    intro w' h
    refine ⟨h, ?_, ?_, ?_, ?_, ?_, ?_, ?_, ?_, ?_, ?_⟩ <;> (rw [h.cell (by simp <;> omega)]; simp [go_sem])
  have HR : Hid (∀ w', Below (w.heap.size + 2) ((w.alloc (.cells #[.int .u8 k, .int .u16 T, .int .u8 dd, .int .u8 0, .int .u8 0, .int .u16 0] 88)).alloc (.cells #[.int .u8 8, .int .u16 off, .int .u8 0, .bool false] 78)) w' → Row w' a len l) := fun w' h => ((hr.alloc _).alloc _).below h (by simp)
  clear hr
  go_enter Faig.func35, Faig.ntmps35
  go_wp2
  go_region_held3 (fun w' => Below (w.heap.size + 2) ((w.alloc (.cells #[.int .u8 k, .int .u16 T, .int .u8 dd, .int .u8 0, .int .u8 0, .int .u16 0] 88)).alloc (.cells #[.int .u8 8, .int .u16 off, .int .u8 0, .bool false] 78)) w' ∧ w'.cell? ⟨w.heap.size, 0, none⟩ = some (.int .u8 k) ∧ w'.cell? ⟨w.heap.size, 1, none⟩ = some (.int .u16 T) ∧ w'.cell? ⟨w.heap.size, 2, none⟩ = some (.int .u8 dd) ∧ w'.cell? ⟨w.heap.size, 3, none⟩ = some (.int .u8 0) ∧ w'.cell? ⟨w.heap.size, 4, none⟩ = some (.int .u8 0) ∧ w'.cell? ⟨w.heap.size, 5, none⟩ = some (.int .u16 0) ∧ w'.cell? ⟨w.heap.size + 1, 0, none⟩ = some (.int .u8 8) ∧ w'.cell? ⟨w.heap.size + 1, 1, none⟩ = some (.int .u16 off) ∧ w'.cell? ⟨w.heap.size + 1, 2, none⟩ = some (.int .u8 0) ∧ w'.cell? ⟨w.heap.size + 1, 3, none⟩ = some (.bool false))
    (first | exact HS.out _ (Below.refl _ _).drew | exact HS.out _ (held2 (And.left (by assumption)) (by assumption) (by simp)) | assumption)
    (first
      | (go_at_call 81; refine (get_8 a len cap l k T dd off hlen hf o0 o1 _ (HR.out _ (And.left (by assumption)))).mono ?_; rintro e w1 ⟨rfl, hb1⟩)
      | (go_at_call 82; refine (cut_8 d hd _).mono ?_; rintro e w1 ⟨rfl, hw1⟩; subst w1))
  go_wp2
  go_ret
  exact ⟨rfl, by rename_i hh; exact two_new hh.1⟩

set_option maxRecDepth 100000 in
set_option maxHeartbeats 1000000 in
theorem getDefault_16 (a : Option Addr) (len cap : Nat) (l : List Int) (k T dd off d : Int) (hlen : len ≤ 256) (hf : Fits k T dd len) (o0 : 0 ≤ off) (o1 : off ≤ 255) (hd : U64 d) (w : World) (hr : Row w a len l) :
    Calls Faig.prog 35 #[.slice a len cap, .agg #[.int .u8 k, .int .u16 T, .int .u8 dd, .int .u8 0, .int .u8 0, .int .u16 0], .agg #[.int .u8 16, .int .u16 off, .int .u8 0, .bool false], .int .u64 d] w fun e w' => e = .returned (.int .u64 (bits .xor .u64 (fv l T dd 16 off) (d % 2 ^ 16))) ∧ Below w.heap.size w w' := by
  have HS : Hid (∀ w', Below (w.heap.size + 2) ((w.alloc (.cells #[.int .u8 k, .int .u16 T, .int .u8 dd, .int .u8 0, .int .u8 0, .int .u16 0] 88)).alloc (.cells #[.int .u8 16, .int .u16 off, .int .u8 0, .bool false] 78)) w' → (Below (w.heap.size + 2) ((w.alloc (.cells #[.int .u8 k, .int .u16 T, .int .u8 dd, .int .u8 0, .int .u8 0, .int .u16 0] 88)).alloc (.cells #[.int .u8 16, .int .u16 off, .int .u8 0, .bool false] 78)) w' ∧ w'.cell? ⟨w.heap.size, 0, none⟩ = some (.int .u8 k) ∧ w'.cell? ⟨w.heap.size, 1, none⟩ = some (.int .u16 T) ∧ w'.cell? ⟨w.heap.size, 2, none⟩ = some (.int .u8 dd) ∧ w'.cell? ⟨w.heap.size, 3, none⟩ = some (.int .u8 0) ∧ w'.cell? ⟨w.heap.size, 4, none⟩ = some (.int .u8 0) ∧ w'.cell? ⟨w.heap.size, 5, none⟩ = some (.int .u16 0) ∧ w'.cell? ⟨w.heap.size + 1, 0, none⟩ = some (.int .u8 16) ∧ w'.cell? ⟨w.heap.size + 1, 1, none⟩ = some (.int .u16 off) ∧ w'.cell? ⟨w.heap.size + 1, 2, none⟩ = some (.int .u8 0) ∧ w'.cell? ⟨w.heap.size + 1, 3, none⟩ = some (.bool false))) := by
    intro w' h
    refine ⟨h, ?_, ?_, ?_, ?_, ?_, ?_, ?_, ?_, ?_, ?_⟩ <;> (rw [h.cell (by simp <;> omega)]; simp [go_sem])
  have HR : Hid (∀ w', Below (w.heap.size + 2) ((w.alloc (.cells #[.int .u8 k, .int .u16 T, .int .u8 dd, .int .u8 0, .int .u8 0, .int .u16 0] 88)).alloc (.cells #[.int .u8 16, .int .u16 off, .int .u8 0, .bool false] 78)) w' → Row w' a len l) := fun w' h => ((hr.alloc _).alloc _).below h (by simp)
  clear hr
  go_enter Faig.func35, Faig.ntmps35
  go_wp2
  go_region_held3 (fun w' => Below (w.heap.size + 2) ((w.alloc (.cells #[.int .u8 k, .int .u16 T, .int .u8 dd, .int .u8 0, .int .u8 0, .int .u16 0] 88)).alloc (.cells #[.int .u8 16, .int .u16 off, .int .u8 0, .bool false] 78)) w' ∧ w'.cell? ⟨w.heap.size, 0, none⟩ = some (.int .u8 k) ∧ w'.cell? ⟨w.heap.size, 1, none⟩ = some (.int .u16 T) ∧ w'.cell? ⟨w.heap.size, 2, none⟩ = some (.int .u8 dd) ∧ w'.cell? ⟨w.heap.size, 3, none⟩ = some (.int .u8 0) ∧ w'.cell? ⟨w.heap.size, 4, none⟩ = some (.int .u8 0) ∧ w'.cell? ⟨w.heap.size, 5, none⟩ = some (.int .u16 0) ∧ w'.cell? ⟨w.heap.size + 1, 0, none⟩ = some (.int .u8 16) ∧ w'.cell? ⟨w.heap.size + 1, 1, none⟩ = some (.int .u16 off) ∧ w'.cell? ⟨w.heap.size + 1, 2, none⟩ = some (.int .u8 0) ∧ w'.cell? ⟨w.heap.size + 1, 3, none⟩ = some (.bool false))
    (first | exact HS.out _ (Below.refl _ _).drew | exact HS.out _ (held2 (And.left (by assumption)) (by assumption) (by simp)) | assumption)
    (first
      | (go_at_call 81; refine (get_16 a len cap l k T dd off hlen hf o0 o1 _ (HR.out _ (And.left (by assumption)))).mono ?_; rintro e w1 ⟨rfl, hb1⟩)
      | (go_at_call 82; refine (cut_16 d hd _).mono ?_; rintro e w1 ⟨rfl, hw1⟩; subst w1))
  go_wp2
  go_ret
  exact ⟨rfl, by rename_i hh; exact two_new hh.1⟩

set_option maxRecDepth 100000 in
set_option maxHeartbeats 1000000 in
theorem getDefault_32 (a : Option Addr) (len cap : Nat) (l : List Int) (k T dd off d : Int) (hlen : len ≤ 256) (hf : Fits k T dd len) (o0 : 0 ≤ off) (o1 : off ≤ 255) (hd : U64 d) (w : World) (hr : Row w a len l) :
    Calls Faig.prog 35 #[.slice a len cap, .agg #[.int .u8 k, .int .u16 T, .int .u8 dd, .int .u8 0, .int .u8 0, .int .u16 0], .agg #[.int .u8 32, .int .u16 off, .int .u8 0, .bool false], .int .u64 d] w fun e w' => e = .returned (.int .u64 (bits .xor .u64 (fv l T dd 32 off) (d % 2 ^ 32))) ∧ Below w.heap.size w w' := by
  have HS : Hid (∀ w', Below (w.heap.size + 2) ((w.alloc (.cells #[.int .u8 k, .int .u16 T, .int .u8 dd, .int .u8 0, .int .u8 0, .int .u16 0] 88)).alloc (.cells #[.int .u8 32, .int .u16 off, .int .u8 0, .bool false] 78)) w' → (Below (w.heap.size + 2) ((w.alloc (.cells #[.int .u8 k, .int .u16 T, .int .u8 dd, .int .u8 0, .int .u8 0, .int .u16 0] 88)).alloc (.cells #[.int .u8 32, .int .u16 off, .int .u8 0, .bool false] 78)) w' ∧ w'.cell? ⟨w.heap.size, 0, none⟩ = some (.int .u8 k) ∧ w'.cell? ⟨w.heap.size, 1, none⟩ = some (.int .u16 T) ∧ w'.cell? ⟨w.heap.size, 2, none⟩ = some (.int .u8 dd) ∧ w'.cell? ⟨w.heap.size, 3, none⟩ = some (.int .u8 0) ∧ w'.cell? ⟨w.heap.size, 4, none⟩ = some (.int .u8 0) ∧ w'.cell? ⟨w.heap.size, 5, none⟩ = some (.int .u16 0) ∧ w'.cell? ⟨w.heap.size + 1, 0, none⟩ = some (.int .u8 32) ∧ w'.cell? ⟨w.heap.size + 1, 1, none⟩ = some (.int .u16 off) ∧ w'.cell? ⟨w.heap.size + 1, 2, none⟩ = some (.int .u8 0) ∧ w'.cell? ⟨w.heap.size + 1, 3, none⟩ = some (.bool false))) := by
    intro w' h
    refine ⟨h, ?_, ?_, ?_, ?_, ?_, ?_, ?_, ?_, ?_, ?_⟩ <;> (rw [h.cell (by simp <;> omega)]; simp [go_sem])
  have HR : Hid (∀ w', Below (w.heap.size + 2) ((w.alloc (.cells #[.int .u8 k, .int .u16 T, .int .u8 dd, .int .u8 0, .int .u8 0, .int .u16 0] 88)).alloc (.cells #[.int .u8 32, .int .u16 off, .int .u8 0, .bool false] 78)) w' → Row w' a len l) := fun w' h => ((hr.alloc _).alloc _).below h (by simp)
  clear hr
  go_enter Faig.func35, Faig.ntmps35
  go_wp2
  go_region_held3 (fun w' => Below (w.heap.size + 2) ((w.alloc (.cells #[.int .u8 k, .int .u16 T, .int .u8 dd, .int .u8 0, .int .u8 0, .int .u16 0] 88)).alloc (.cells #[.int .u8 32, .int .u16 off, .int .u8 0, .bool false] 78)) w' ∧ w'.cell? ⟨w.heap.size, 0, none⟩ = some (.int .u8 k) ∧ w'.cell? ⟨w.heap.size, 1, none⟩ = some (.int .u16 T) ∧ w'.cell? ⟨w.heap.size, 2, none⟩ = some (.int .u8 dd) ∧ w'.cell? ⟨w.heap.size, 3, none⟩ = some (.int .u8 0) ∧ w'.cell? ⟨w.heap.size, 4, none⟩ = some (.int .u8 0) ∧ w'.cell? ⟨w.heap.size, 5, none⟩ = some (.int .u16 0) ∧ w'.cell? ⟨w.heap.size + 1, 0, none⟩ = some (.int .u8 32) ∧ w'.cell? ⟨w.heap.size + 1, 1, none⟩ = some (.int .u16 off) ∧ w'.cell? ⟨w.heap.size + 1, 2, none⟩ = some (.int .u8 0) ∧ w'.cell? ⟨w.heap.size + 1, 3, none⟩ = some (.bool false))
    (first | exact HS.out _ (Below.refl _ _).drew | exact HS.out _ (held2 (And.left (by assumption)) (by assumption) (by simp)) | assumption)
    (first
      | (go_at_call 81; refine (get_32 a len cap l k T dd off hlen hf o0 o1 _ (HR.out _ (And.left (by assumption)))).mono ?_; rintro e w1 ⟨rfl, hb1⟩)
      | (go_at_call 82; refine (cut_32 d hd _).mono ?_; rintro e w1 ⟨rfl, hw1⟩; subst w1))
  go_wp2
  go_ret
  exact ⟨rfl, by rename_i hh; exact two_new hh.1⟩

set_option maxRecDepth 100000 in
set_option maxHeartbeats 1000000 in
theorem getDefault_64 (a : Option Addr) (len cap : Nat) (l : List Int) (k T dd off d : Int) (hlen : len ≤ 256) (hf : Fits k T dd len) (o0 : 0 ≤ off) (o1 : off ≤ 255) (hd : U64 d) (w : World) (hr : Row w a len l) :
    Calls Faig.prog 35 #[.slice a len cap, .agg #[.int .u8 k, .int .u16 T, .int .u8 dd, .int .u8 0, .int .u8 0, .int .u16 0], .agg #[.int .u8 64, .int .u16 off, .int .u8 0, .bool false], .int .u64 d] w fun e w' => e = .returned (.int .u64 (bits .xor .u64 (fv l T dd 64 off) (d % 2 ^ 64))) ∧ Below w.heap.size w w' := by
  have HS : Hid (∀ w', Below (w.heap.size + 2) ((w.alloc (.cells #[.int .u8 k, .int .u16 T, .int .u8 dd, .int .u8 0, .int .u8 0, .int .u16 0] 88)).alloc (.cells #[.int .u8 64, .int .u16 off, .int .u8 0, .bool false] 78)) w' → (Below (w.heap.size + 2) ((w.alloc (.cells #[.int .u8 k, .int .u16 T, .int .u8 dd, .int .u8 0, .int .u8 0, .int .u16 0] 88)).alloc (.cells #[.int .u8 64, .int .u16 off, .int .u8 0, .bool false] 78)) w' ∧ w'.cell? ⟨w.heap.size, 0, none⟩ = some (.int .u8 k) ∧ w'.cell? ⟨w.heap.size, 1, none⟩ = some (.int .u16 T) ∧ w'.cell? ⟨w.heap.size, 2, none⟩ = some (.int .u8 dd) ∧ w'.cell? ⟨w.heap.size, 3, none⟩ = some (.int .u8 0) ∧ w'.cell? ⟨w.heap.size, 4, none⟩ = some (.int .u8 0) ∧ w'.cell? ⟨w.heap.size, 5, none⟩ = some (.int .u16 0) ∧ w'.cell? ⟨w.heap.size + 1, 0, none⟩ = some (.int .u8 64) ∧ w'.cell? ⟨w.heap.size + 1, 1, none⟩ = some (.int .u16 off) ∧ w'.cell? ⟨w.heap.size + 1, 2, none⟩ = some (.int .u8 0) ∧ w'.cell? ⟨w.heap.size + 1, 3, none⟩ = some (.bool false))) := by
    intro w' h
    refine ⟨h, ?_, ?_, ?_, ?_, ?_, ?_, ?_, ?_, ?_, ?_⟩ <;> (rw [h.cell (by simp <;> omega)]; simp [go_sem])
  have HR : Hid (∀ w', Below (w.heap.size + 2) ((w.alloc (.cells #[.int .u8 k, .int .u16 T, .int .u8 dd, .int .u8 0, .int .u8 0, .int .u16 0] 88)).alloc (.cells #[.int .u8 64, .int .u16 off, .int .u8 0, .bool false] 78)) w' → Row w' a len l) := fun w' h => ((hr.alloc _).alloc _).below h (by simp)
  clear hr
  go_enter Faig.func35, Faig.ntmps35
  go_wp2
  go_region_held3 (fun w' => Below (w.heap.size + 2) ((w.alloc (.cells #[.int .u8 k, .int .u16 T, .int .u8 dd, .int .u8 0, .int .u8 0, .int .u16 0] 88)).alloc (.cells #[.int .u8 64, .int .u16 off, .int .u8 0, .bool false] 78)) w' ∧ w'.cell? ⟨w.heap.size, 0, none⟩ = some (.int .u8 k) ∧ w'.cell? ⟨w.heap.size, 1, none⟩ = some (.int .u16 T) ∧ w'.cell? ⟨w.heap.size, 2, none⟩ = some (.int .u8 dd) ∧ w'.cell? ⟨w.heap.size, 3, none⟩ = some (.int .u8 0) ∧ w'.cell? ⟨w.heap.size, 4, none⟩ = some (.int .u8 0) ∧ w'.cell? ⟨w.heap.size, 5, none⟩ = some (.int .u16 0) ∧ w'.cell? ⟨w.heap.size + 1, 0, none⟩ = some (.int .u8 64) ∧ w'.cell? ⟨w.heap.size + 1, 1, none⟩ = some (.int .u16 off) ∧ w'.cell? ⟨w.heap.size + 1, 2, none⟩ = some (.int .u8 0) ∧ w'.cell? ⟨w.heap.size + 1, 3, none⟩ = some (.bool false))
    (first | exact HS.out _ (Below.refl _ _).drew | exact HS.out _ (held2 (And.left (by assumption)) (by assumption) (by simp)) | assumption)
    (first
      | (go_at_call 81; refine (get_64 a len cap l k T dd off hlen hf o0 o1 _ (HR.out _ (And.left (by assumption)))).mono ?_; rintro e w1 ⟨rfl, hb1⟩)
      | (go_at_call 82; refine (cut_64 d hd _).mono ?_; rintro e w1 ⟨rfl, hw1⟩; subst w1))
  go_wp2
  go_ret
  exact ⟨rfl, by rename_i hh; exact two_new hh.1⟩
end Go.Proofs.Ygcfai

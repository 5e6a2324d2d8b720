/-
  DefaultBack: valid.claim, follow, Step.
-/
import Derived.Test.YgcfaiValA
import Derived.Test.YgcfaiDefF
import Derived.Test.YgcfaiResolveC
namespace Go.Proofs.Ygcfai
open Go.RowKit Go.Joins Plain
set_option linter.unusedVariables false
set_option linter.unusedSimpArgs false
/-- Nothing but block g and new ones has changed; of g's cells the first alone, and that a word. -/
def ClP (w w' : World) (g : Nat) : Prop := Fr w w' (fun k => k = g) ∧ (∀ i, i ≠ 0 → w'.cell? ⟨g, i, none⟩ = w.cell? ⟨g, i, none⟩) ∧ (∀ i, w'.frozen? ⟨g, i, none⟩ = w.frozen? ⟨g, i, none⟩) ∧ ((∃ x : Int, w.cell? ⟨g, 0, none⟩ = some (.int .u64 x)) → ∃ x : Int, w'.cell? ⟨g, 0, none⟩ = some (.int .u64 x))
theorem ClP.below {w w' : World} {g : Nat} (h : Below w.heap.size w w') (hg : g < w.heap.size) : ClP w w' g :=
  ⟨Fr.of_below h, fun i _ => h.cell (p := ⟨g, i, none⟩) hg, fun i => h.frozen (p := ⟨g, i, none⟩) hg, fun hx => by rw [h.cell (p := ⟨g, 0, none⟩) hg]; exact hx⟩
theorem ClP.set {w w' : World} {g : Nat} (h : ClP w w' g) (x : Int) : ClP w (w'.setCell ⟨g, 0, none⟩ (.int .u64 x)) g :=
  ⟨⟨h.1.os, h.1.tape, h.1.output, by rw [size_setCell]; exact h.1.size, fun k hk hne => by rw [Below.heap_setCell _ _ _ _ (fun e => hne e)]; exact h.1.block k hk hne⟩, fun i hi => by rw [World.cell?_setCell_other _ _ _ _ (by simp <;> omega)]; exact h.2.1 i hi, fun i => by rw [World.frozen?_setCell]; exact h.2.2.1 i,
    fun hx => by obtain ⟨y, hy⟩ := h.2.2.2 hx; exact ⟨x, World.cell?_setCell_same _ _ _ hy⟩⟩
theorem ClP.drewN {w w' : World} {g : Nat} (h : ClP w w' g) (n : Nat) : ClP w (w'.drewN n) g := ⟨⟨h.1.os, h.1.tape, h.1.output, h.1.size, h.1.block⟩, h.2.1, h.2.2.1, h.2.2.2⟩
theorem ClP.trans {w w1 w2 : World} {g : Nat} (h : ClP w w1 g) (k : ClP w1 w2 g) : ClP w w2 g := ⟨h.1.trans k.1 (fun i hi => Or.inl hi), fun i hi => (k.2.1 i hi).trans (h.2.1 i hi), fun i => (k.2.2.1 i).trans (h.2.2.1 i), fun hx => k.2.2.2 (h.2.2.2 hx)⟩
theorem claim_0 (w : World) (gw : Nat) (T : Int) (hT : U16 T) (hl : gw < w.heap.size) :
    Calls Faig.prog 134 #[.pointer (some ⟨gw, 0, none⟩), .agg #[.int .u8 1, .int .u16 T, .int .u8 0, .int .u8 0, .int .u8 0, .int .u16 0]] w fun e w' => e = .returned (.bool true) ∧ ClP w w' gw := by
  go_enter Faig.func134, Faig.ntmps134
  go_wp2_with fail
  refine (extent_any 1 T 0 0 0 0 ⟨by omega, by omega⟩ hT ⟨by omega, by omega⟩ ⟨by omega, by omega⟩ ⟨by omega, by omega⟩ ⟨by omega, by omega⟩ _).mono ?_
  rw [show words 1 0 0 0 0 = 0 by decide, show ext1 1 T 0 = T by simp [ext1]]
  rintro e w1 ⟨rfl, hb1⟩
  have P1 : ClP w w1 gw := ClP.below (((Below.refl _ w).alloc (Nat.le_refl _) _).trans (hb1.mono (by simp))) hl
  clear hb1
  go_wp2_with fail
  go_loop [5, 6, 7, 8] (fun a n _ _ => a = .int .u16 T ∧ n = .int .u16 0) (fun _ _ _ _ => 0)
  case atStart => exact ⟨rfl, rfl⟩
  case round =>
    obtain ⟨rfl, rfl⟩ := hrel
    go_wp2_with fail
    go_ret
    exact ⟨rfl, P1⟩

theorem put_cl_1 (w : World) : Calls Faig.prog 116 #[.int .u64 0, .int .u64 18446744073709551615, .int .u8 1, .int .u8 1] w fun e w' => e = .returned (.int .u64 2) ∧ w' = w := by
  have hb := put_ops 0 18446744073709551615 1 1 1 (by decide) ⟨by omega, by omega⟩ ⟨by omega, by omega⟩ (by omega)
  rw [show putv 0 18446744073709551615 1 1 = 2 by decide] at hb
  have hb2 : bits .or .u64 (bits .andNot .u64 0 2) (IntKind.u64.wrap (bits .and .u64 18446744073709551615 1 * 2)) = 2 := by
    have e : IntKind.u64.wrap ((1 : Int) * 2 ^ 1) = 2 := by decide
    rw [e] at hb; exact hb
  have HB : Hid _ := hb2
  clear hb hb2
  go_enter Faig.func116, Faig.ntmps116
  go_wp2
  go_ret
  exact ⟨ret_int HB.out, rfl⟩
set_option maxHeartbeats 1000000 in
theorem claim_1 (w : World) (gw : Nat) (h0 : w.cell? ⟨gw, 0, none⟩ = some (.int .u64 1)) (hf : w.frozen? ⟨gw, 0, none⟩ = false) (hl : gw < w.heap.size) :
    Calls Faig.prog 134 #[.pointer (some ⟨gw, 0, none⟩), .agg #[.int .u8 1, .int .u16 1, .int .u8 1, .int .u8 0, .int .u8 0, .int .u16 0]] w fun e w' => e = .returned (.bool true) ∧ ClP w w' gw := by
  go_enter Faig.func134, Faig.ntmps134
  go_wp2_with fail
  refine (extent_any 1 1 1 0 0 0 ⟨by omega, by omega⟩ ⟨by omega, by omega⟩ ⟨by omega, by omega⟩ ⟨by omega, by omega⟩ ⟨by omega, by omega⟩ ⟨by omega, by omega⟩ _).mono ?_
  rw [show words 1 1 0 0 0 = 1 by decide, show ext1 1 1 0 = 1 by decide]
  rintro e w1 ⟨rfl, hb1⟩
  have hB1 : Below w.heap.size w w1 := ((Below.refl _ w).alloc (Nat.le_refl _) _).trans (hb1.mono (by simp))
  have P1 : Hid (ClP w w1 gw) := ClP.below hB1 hl
  have h1 : w1.cell? ⟨gw, 0, none⟩ = some (.int .u64 1) := by rw [hB1.cell (p := ⟨gw, 0, none⟩) hl]; exact h0
  have f1 : w1.frozen? ⟨gw, 0, none⟩ = false := by rw [hB1.frozen (p := ⟨gw, 0, none⟩) hl]; exact hf
  have ha : bits .and .u64 1 2 = 0 := by decide
  have ho : bits .or .u64 1 2 = 3 := by decide
  clear hb1 hB1 h0 hf
  go_wp2_with fail
  go_loopw [5, 6, 7, 8] (fun a n _ _ W => (a = .int .u16 1 ∧ n = .int .u16 1 ∧ W = w1) ∨ (a = .int .u16 2 ∧ n = .int .u16 0 ∧ ClP w W gw)) (fun _ n _ _ _ => (intOf n).toNat)
  case atStart => exact Or.inl ⟨rfl, rfl, rfl⟩
  case round =>
    rcases hrel with ⟨rfl, rfl, rfl⟩ | ⟨rfl, rfl, hP⟩
    · go_wp2_with fail
      refine (put_cl_1 _).mono ?_
      rintro e w' ⟨rfl, hw'⟩
      subst w'
      go_wp2_with fail
      go_region
      go_wp2_with fail
      go_roundw
      case rel => exact Or.inr ⟨rfl, rfl, (P1.out.set _).drewN 1⟩
      case measure => simp [intOf]
    · go_wp2_with fail
      go_ret
      exact ⟨rfl, hP⟩

theorem put_cl_2 (w : World) : Calls Faig.prog 116 #[.int .u64 0, .int .u64 18446744073709551615, .int .u8 1, .int .u8 2] w fun e w' => e = .returned (.int .u64 6) ∧ w' = w := by
  have hb := put_ops 0 18446744073709551615 3 1 2 (by decide) ⟨by omega, by omega⟩ ⟨by omega, by omega⟩ (by omega)
  rw [show putv 0 18446744073709551615 1 2 = 6 by decide] at hb
  have hb2 : bits .or .u64 (bits .andNot .u64 0 6) (IntKind.u64.wrap (bits .and .u64 18446744073709551615 3 * 2)) = 6 := by
    have e : IntKind.u64.wrap ((3 : Int) * 2 ^ 1) = 6 := by decide
    rw [e] at hb; exact hb
  have HB : Hid _ := hb2
  clear hb hb2
  go_enter Faig.func116, Faig.ntmps116
  go_wp2
  go_ret
  exact ⟨ret_int HB.out, rfl⟩
set_option maxHeartbeats 1000000 in
theorem claim_2 (w : World) (gw : Nat) (h0 : w.cell? ⟨gw, 0, none⟩ = some (.int .u64 1)) (hf : w.frozen? ⟨gw, 0, none⟩ = false) (hl : gw < w.heap.size) :
    Calls Faig.prog 134 #[.pointer (some ⟨gw, 0, none⟩), .agg #[.int .u8 1, .int .u16 1, .int .u8 2, .int .u8 0, .int .u8 0, .int .u16 0]] w fun e w' => e = .returned (.bool true) ∧ ClP w w' gw := by
  go_enter Faig.func134, Faig.ntmps134
  go_wp2_with fail
  refine (extent_any 1 1 2 0 0 0 ⟨by omega, by omega⟩ ⟨by omega, by omega⟩ ⟨by omega, by omega⟩ ⟨by omega, by omega⟩ ⟨by omega, by omega⟩ ⟨by omega, by omega⟩ _).mono ?_
  rw [show words 1 2 0 0 0 = 2 by decide, show ext1 1 1 0 = 1 by decide]
  rintro e w1 ⟨rfl, hb1⟩
  have hB1 : Below w.heap.size w w1 := ((Below.refl _ w).alloc (Nat.le_refl _) _).trans (hb1.mono (by simp))
  have P1 : Hid (ClP w w1 gw) := ClP.below hB1 hl
  have h1 : w1.cell? ⟨gw, 0, none⟩ = some (.int .u64 1) := by rw [hB1.cell (p := ⟨gw, 0, none⟩) hl]; exact h0
  have f1 : w1.frozen? ⟨gw, 0, none⟩ = false := by rw [hB1.frozen (p := ⟨gw, 0, none⟩) hl]; exact hf
  have ha : bits .and .u64 1 6 = 0 := by decide
  have ho : bits .or .u64 1 6 = 7 := by decide
  clear hb1 hB1 h0 hf
  go_wp2_with fail
  go_loopw [5, 6, 7, 8] (fun a n _ _ W => (a = .int .u16 1 ∧ n = .int .u16 2 ∧ W = w1) ∨ (a = .int .u16 3 ∧ n = .int .u16 0 ∧ ClP w W gw)) (fun _ n _ _ _ => (intOf n).toNat)
  case atStart => exact Or.inl ⟨rfl, rfl, rfl⟩
  case round =>
    rcases hrel with ⟨rfl, rfl, rfl⟩ | ⟨rfl, rfl, hP⟩
    · go_wp2_with fail
      refine (put_cl_2 _).mono ?_
      rintro e w' ⟨rfl, hw'⟩
      subst w'
      go_wp2_with fail
      go_region
      go_wp2_with fail
      go_roundw
      case rel => exact Or.inr ⟨rfl, rfl, (P1.out.set _).drewN 1⟩
      case measure => simp [intOf]
    · go_wp2_with fail
      go_ret
      exact ⟨rfl, hP⟩

theorem put_cl_3 (w : World) : Calls Faig.prog 116 #[.int .u64 0, .int .u64 18446744073709551615, .int .u8 1, .int .u8 3] w fun e w' => e = .returned (.int .u64 14) ∧ w' = w := by
  have hb := put_ops 0 18446744073709551615 7 1 3 (by decide) ⟨by omega, by omega⟩ ⟨by omega, by omega⟩ (by omega)
  rw [show putv 0 18446744073709551615 1 3 = 14 by decide] at hb
  have hb2 : bits .or .u64 (bits .andNot .u64 0 14) (IntKind.u64.wrap (bits .and .u64 18446744073709551615 7 * 2)) = 14 := by
    have e : IntKind.u64.wrap ((7 : Int) * 2 ^ 1) = 14 := by decide
    rw [e] at hb; exact hb
  have HB : Hid _ := hb2
  clear hb hb2
  go_enter Faig.func116, Faig.ntmps116
  go_wp2
  go_ret
  exact ⟨ret_int HB.out, rfl⟩
set_option maxHeartbeats 1000000 in
theorem claim_3 (w : World) (gw : Nat) (h0 : w.cell? ⟨gw, 0, none⟩ = some (.int .u64 1)) (hf : w.frozen? ⟨gw, 0, none⟩ = false) (hl : gw < w.heap.size) :
    Calls Faig.prog 134 #[.pointer (some ⟨gw, 0, none⟩), .agg #[.int .u8 1, .int .u16 1, .int .u8 3, .int .u8 0, .int .u8 0, .int .u16 0]] w fun e w' => e = .returned (.bool true) ∧ ClP w w' gw := by
  go_enter Faig.func134, Faig.ntmps134
  go_wp2_with fail
  refine (extent_any 1 1 3 0 0 0 ⟨by omega, by omega⟩ ⟨by omega, by omega⟩ ⟨by omega, by omega⟩ ⟨by omega, by omega⟩ ⟨by omega, by omega⟩ ⟨by omega, by omega⟩ _).mono ?_
  rw [show words 1 3 0 0 0 = 3 by decide, show ext1 1 1 0 = 1 by decide]
  rintro e w1 ⟨rfl, hb1⟩
  have hB1 : Below w.heap.size w w1 := ((Below.refl _ w).alloc (Nat.le_refl _) _).trans (hb1.mono (by simp))
  have P1 : Hid (ClP w w1 gw) := ClP.below hB1 hl
  have h1 : w1.cell? ⟨gw, 0, none⟩ = some (.int .u64 1) := by rw [hB1.cell (p := ⟨gw, 0, none⟩) hl]; exact h0
  have f1 : w1.frozen? ⟨gw, 0, none⟩ = false := by rw [hB1.frozen (p := ⟨gw, 0, none⟩) hl]; exact hf
  have ha : bits .and .u64 1 14 = 0 := by decide
  have ho : bits .or .u64 1 14 = 15 := by decide
  clear hb1 hB1 h0 hf
  go_wp2_with fail
  go_loopw [5, 6, 7, 8] (fun a n _ _ W => (a = .int .u16 1 ∧ n = .int .u16 3 ∧ W = w1) ∨ (a = .int .u16 4 ∧ n = .int .u16 0 ∧ ClP w W gw)) (fun _ n _ _ _ => (intOf n).toNat)
  case atStart => exact Or.inl ⟨rfl, rfl, rfl⟩
  case round =>
    rcases hrel with ⟨rfl, rfl, rfl⟩ | ⟨rfl, rfl, hP⟩
    · go_wp2_with fail
      refine (put_cl_3 _).mono ?_
      rintro e w' ⟨rfl, hw'⟩
      subst w'
      go_wp2_with fail
      go_region
      go_wp2_with fail
      go_roundw
      case rel => exact Or.inr ⟨rfl, rfl, (P1.out.set _).drewN 1⟩
      case measure => simp [intOf]
    · go_wp2_with fail
      go_ret
      exact ⟨rfl, hP⟩

theorem put_cl_4 (w : World) : Calls Faig.prog 116 #[.int .u64 0, .int .u64 18446744073709551615, .int .u8 1, .int .u8 4] w fun e w' => e = .returned (.int .u64 30) ∧ w' = w := by
  have hb := put_ops 0 18446744073709551615 15 1 4 (by decide) ⟨by omega, by omega⟩ ⟨by omega, by omega⟩ (by omega)
  rw [show putv 0 18446744073709551615 1 4 = 30 by decide] at hb
  have hb2 : bits .or .u64 (bits .andNot .u64 0 30) (IntKind.u64.wrap (bits .and .u64 18446744073709551615 15 * 2)) = 30 := by
    have e : IntKind.u64.wrap ((15 : Int) * 2 ^ 1) = 30 := by decide
    rw [e] at hb; exact hb
  have HB : Hid _ := hb2
  clear hb hb2
  go_enter Faig.func116, Faig.ntmps116
  go_wp2
  go_ret
  exact ⟨ret_int HB.out, rfl⟩
set_option maxHeartbeats 1000000 in
theorem claim_4 (w : World) (gw : Nat) (h0 : w.cell? ⟨gw, 0, none⟩ = some (.int .u64 1)) (hf : w.frozen? ⟨gw, 0, none⟩ = false) (hl : gw < w.heap.size) :
    Calls Faig.prog 134 #[.pointer (some ⟨gw, 0, none⟩), .agg #[.int .u8 1, .int .u16 1, .int .u8 4, .int .u8 0, .int .u8 0, .int .u16 0]] w fun e w' => e = .returned (.bool true) ∧ ClP w w' gw := by
  go_enter Faig.func134, Faig.ntmps134
  go_wp2_with fail
  refine (extent_any 1 1 4 0 0 0 ⟨by omega, by omega⟩ ⟨by omega, by omega⟩ ⟨by omega, by omega⟩ ⟨by omega, by omega⟩ ⟨by omega, by omega⟩ ⟨by omega, by omega⟩ _).mono ?_
  rw [show words 1 4 0 0 0 = 4 by decide, show ext1 1 1 0 = 1 by decide]
  rintro e w1 ⟨rfl, hb1⟩
  have hB1 : Below w.heap.size w w1 := ((Below.refl _ w).alloc (Nat.le_refl _) _).trans (hb1.mono (by simp))
  have P1 : Hid (ClP w w1 gw) := ClP.below hB1 hl
  have h1 : w1.cell? ⟨gw, 0, none⟩ = some (.int .u64 1) := by rw [hB1.cell (p := ⟨gw, 0, none⟩) hl]; exact h0
  have f1 : w1.frozen? ⟨gw, 0, none⟩ = false := by rw [hB1.frozen (p := ⟨gw, 0, none⟩) hl]; exact hf
  have ha : bits .and .u64 1 30 = 0 := by decide
  have ho : bits .or .u64 1 30 = 31 := by decide
  clear hb1 hB1 h0 hf
  go_wp2_with fail
  go_loopw [5, 6, 7, 8] (fun a n _ _ W => (a = .int .u16 1 ∧ n = .int .u16 4 ∧ W = w1) ∨ (a = .int .u16 5 ∧ n = .int .u16 0 ∧ ClP w W gw)) (fun _ n _ _ _ => (intOf n).toNat)
  case atStart => exact Or.inl ⟨rfl, rfl, rfl⟩
  case round =>
    rcases hrel with ⟨rfl, rfl, rfl⟩ | ⟨rfl, rfl, hP⟩
    · go_wp2_with fail
      refine (put_cl_4 _).mono ?_
      rintro e w' ⟨rfl, hw'⟩
      subst w'
      go_wp2_with fail
      go_region
      go_wp2_with fail
      go_roundw
      case rel => exact Or.inr ⟨rfl, rfl, (P1.out.set _).drewN 1⟩
      case measure => simp [intOf]
    · go_wp2_with fail
      go_ret
      exact ⟨rfl, hP⟩

theorem put_cl_5 (w : World) : Calls Faig.prog 116 #[.int .u64 0, .int .u64 18446744073709551615, .int .u8 1, .int .u8 5] w fun e w' => e = .returned (.int .u64 62) ∧ w' = w := by
  have hb := put_ops 0 18446744073709551615 31 1 5 (by decide) ⟨by omega, by omega⟩ ⟨by omega, by omega⟩ (by omega)
  rw [show putv 0 18446744073709551615 1 5 = 62 by decide] at hb
  have hb2 : bits .or .u64 (bits .andNot .u64 0 62) (IntKind.u64.wrap (bits .and .u64 18446744073709551615 31 * 2)) = 62 := by
    have e : IntKind.u64.wrap ((31 : Int) * 2 ^ 1) = 62 := by decide
    rw [e] at hb; exact hb
  have HB : Hid _ := hb2
  clear hb hb2
  go_enter Faig.func116, Faig.ntmps116
  go_wp2
  go_ret
  exact ⟨ret_int HB.out, rfl⟩
set_option maxHeartbeats 1000000 in
theorem claim_5 (w : World) (gw : Nat) (h0 : w.cell? ⟨gw, 0, none⟩ = some (.int .u64 1)) (hf : w.frozen? ⟨gw, 0, none⟩ = false) (hl : gw < w.heap.size) :
    Calls Faig.prog 134 #[.pointer (some ⟨gw, 0, none⟩), .agg #[.int .u8 1, .int .u16 1, .int .u8 5, .int .u8 0, .int .u8 0, .int .u16 0]] w fun e w' => e = .returned (.bool true) ∧ ClP w w' gw := by
  go_enter Faig.func134, Faig.ntmps134
  go_wp2_with fail
  refine (extent_any 1 1 5 0 0 0 ⟨by omega, by omega⟩ ⟨by omega, by omega⟩ ⟨by omega, by omega⟩ ⟨by omega, by omega⟩ ⟨by omega, by omega⟩ ⟨by omega, by omega⟩ _).mono ?_
  rw [show words 1 5 0 0 0 = 5 by decide, show ext1 1 1 0 = 1 by decide]
  rintro e w1 ⟨rfl, hb1⟩
  have hB1 : Below w.heap.size w w1 := ((Below.refl _ w).alloc (Nat.le_refl _) _).trans (hb1.mono (by simp))
  have P1 : Hid (ClP w w1 gw) := ClP.below hB1 hl
  have h1 : w1.cell? ⟨gw, 0, none⟩ = some (.int .u64 1) := by rw [hB1.cell (p := ⟨gw, 0, none⟩) hl]; exact h0
  have f1 : w1.frozen? ⟨gw, 0, none⟩ = false := by rw [hB1.frozen (p := ⟨gw, 0, none⟩) hl]; exact hf
  have ha : bits .and .u64 1 62 = 0 := by decide
  have ho : bits .or .u64 1 62 = 63 := by decide
  clear hb1 hB1 h0 hf
  go_wp2_with fail
  go_loopw [5, 6, 7, 8] (fun a n _ _ W => (a = .int .u16 1 ∧ n = .int .u16 5 ∧ W = w1) ∨ (a = .int .u16 6 ∧ n = .int .u16 0 ∧ ClP w W gw)) (fun _ n _ _ _ => (intOf n).toNat)
  case atStart => exact Or.inl ⟨rfl, rfl, rfl⟩
  case round =>
    rcases hrel with ⟨rfl, rfl, rfl⟩ | ⟨rfl, rfl, hP⟩
    · go_wp2_with fail
      refine (put_cl_5 _).mono ?_
      rintro e w' ⟨rfl, hw'⟩
      subst w'
      go_wp2_with fail
      go_region
      go_wp2_with fail
      go_roundw
      case rel => exact Or.inr ⟨rfl, rfl, (P1.out.set _).drewN 1⟩
      case measure => simp [intOf]
    · go_wp2_with fail
      go_ret
      exact ⟨rfl, hP⟩

theorem put_cl_6 (w : World) : Calls Faig.prog 116 #[.int .u64 0, .int .u64 18446744073709551615, .int .u8 1, .int .u8 6] w fun e w' => e = .returned (.int .u64 126) ∧ w' = w := by
  have hb := put_ops 0 18446744073709551615 63 1 6 (by decide) ⟨by omega, by omega⟩ ⟨by omega, by omega⟩ (by omega)
  rw [show putv 0 18446744073709551615 1 6 = 126 by decide] at hb
  have hb2 : bits .or .u64 (bits .andNot .u64 0 126) (IntKind.u64.wrap (bits .and .u64 18446744073709551615 63 * 2)) = 126 := by
    have e : IntKind.u64.wrap ((63 : Int) * 2 ^ 1) = 126 := by decide
    rw [e] at hb; exact hb
  have HB : Hid _ := hb2
  clear hb hb2
  go_enter Faig.func116, Faig.ntmps116
  go_wp2
  go_ret
  exact ⟨ret_int HB.out, rfl⟩
set_option maxHeartbeats 1000000 in
theorem claim_6 (w : World) (gw : Nat) (h0 : w.cell? ⟨gw, 0, none⟩ = some (.int .u64 1)) (hf : w.frozen? ⟨gw, 0, none⟩ = false) (hl : gw < w.heap.size) :
    Calls Faig.prog 134 #[.pointer (some ⟨gw, 0, none⟩), .agg #[.int .u8 1, .int .u16 1, .int .u8 6, .int .u8 0, .int .u8 0, .int .u16 0]] w fun e w' => e = .returned (.bool true) ∧ ClP w w' gw := by
  go_enter Faig.func134, Faig.ntmps134
  go_wp2_with fail
  refine (extent_any 1 1 6 0 0 0 ⟨by omega, by omega⟩ ⟨by omega, by omega⟩ ⟨by omega, by omega⟩ ⟨by omega, by omega⟩ ⟨by omega, by omega⟩ ⟨by omega, by omega⟩ _).mono ?_
  rw [show words 1 6 0 0 0 = 6 by decide, show ext1 1 1 0 = 1 by decide]
  rintro e w1 ⟨rfl, hb1⟩
  have hB1 : Below w.heap.size w w1 := ((Below.refl _ w).alloc (Nat.le_refl _) _).trans (hb1.mono (by simp))
  have P1 : Hid (ClP w w1 gw) := ClP.below hB1 hl
  have h1 : w1.cell? ⟨gw, 0, none⟩ = some (.int .u64 1) := by rw [hB1.cell (p := ⟨gw, 0, none⟩) hl]; exact h0
  have f1 : w1.frozen? ⟨gw, 0, none⟩ = false := by rw [hB1.frozen (p := ⟨gw, 0, none⟩) hl]; exact hf
  have ha : bits .and .u64 1 126 = 0 := by decide
  have ho : bits .or .u64 1 126 = 127 := by decide
  clear hb1 hB1 h0 hf
  go_wp2_with fail
  go_loopw [5, 6, 7, 8] (fun a n _ _ W => (a = .int .u16 1 ∧ n = .int .u16 6 ∧ W = w1) ∨ (a = .int .u16 7 ∧ n = .int .u16 0 ∧ ClP w W gw)) (fun _ n _ _ _ => (intOf n).toNat)
  case atStart => exact Or.inl ⟨rfl, rfl, rfl⟩
  case round =>
    rcases hrel with ⟨rfl, rfl, rfl⟩ | ⟨rfl, rfl, hP⟩
    · go_wp2_with fail
      refine (put_cl_6 _).mono ?_
      rintro e w' ⟨rfl, hw'⟩
      subst w'
      go_wp2_with fail
      go_region
      go_wp2_with fail
      go_roundw
      case rel => exact Or.inr ⟨rfl, rfl, (P1.out.set _).drewN 1⟩
      case measure => simp [intOf]
    · go_wp2_with fail
      go_ret
      exact ⟨rfl, hP⟩

theorem put_cl_7 (w : World) : Calls Faig.prog 116 #[.int .u64 0, .int .u64 18446744073709551615, .int .u8 1, .int .u8 7] w fun e w' => e = .returned (.int .u64 254) ∧ w' = w := by
  have hb := put_ops 0 18446744073709551615 127 1 7 (by decide) ⟨by omega, by omega⟩ ⟨by omega, by omega⟩ (by omega)
  rw [show putv 0 18446744073709551615 1 7 = 254 by decide] at hb
  have hb2 : bits .or .u64 (bits .andNot .u64 0 254) (IntKind.u64.wrap (bits .and .u64 18446744073709551615 127 * 2)) = 254 := by
    have e : IntKind.u64.wrap ((127 : Int) * 2 ^ 1) = 254 := by decide
    rw [e] at hb; exact hb
  have HB : Hid _ := hb2
  clear hb hb2
  go_enter Faig.func116, Faig.ntmps116
  go_wp2
  go_ret
  exact ⟨ret_int HB.out, rfl⟩
set_option maxHeartbeats 1000000 in
theorem claim_7 (w : World) (gw : Nat) (h0 : w.cell? ⟨gw, 0, none⟩ = some (.int .u64 1)) (hf : w.frozen? ⟨gw, 0, none⟩ = false) (hl : gw < w.heap.size) :
    Calls Faig.prog 134 #[.pointer (some ⟨gw, 0, none⟩), .agg #[.int .u8 1, .int .u16 1, .int .u8 7, .int .u8 0, .int .u8 0, .int .u16 0]] w fun e w' => e = .returned (.bool true) ∧ ClP w w' gw := by
  go_enter Faig.func134, Faig.ntmps134
  go_wp2_with fail
  refine (extent_any 1 1 7 0 0 0 ⟨by omega, by omega⟩ ⟨by omega, by omega⟩ ⟨by omega, by omega⟩ ⟨by omega, by omega⟩ ⟨by omega, by omega⟩ ⟨by omega, by omega⟩ _).mono ?_
  rw [show words 1 7 0 0 0 = 7 by decide, show ext1 1 1 0 = 1 by decide]
  rintro e w1 ⟨rfl, hb1⟩
  have hB1 : Below w.heap.size w w1 := ((Below.refl _ w).alloc (Nat.le_refl _) _).trans (hb1.mono (by simp))
  have P1 : Hid (ClP w w1 gw) := ClP.below hB1 hl
  have h1 : w1.cell? ⟨gw, 0, none⟩ = some (.int .u64 1) := by rw [hB1.cell (p := ⟨gw, 0, none⟩) hl]; exact h0
  have f1 : w1.frozen? ⟨gw, 0, none⟩ = false := by rw [hB1.frozen (p := ⟨gw, 0, none⟩) hl]; exact hf
  have ha : bits .and .u64 1 254 = 0 := by decide
  have ho : bits .or .u64 1 254 = 255 := by decide
  clear hb1 hB1 h0 hf
  go_wp2_with fail
  go_loopw [5, 6, 7, 8] (fun a n _ _ W => (a = .int .u16 1 ∧ n = .int .u16 7 ∧ W = w1) ∨ (a = .int .u16 8 ∧ n = .int .u16 0 ∧ ClP w W gw)) (fun _ n _ _ _ => (intOf n).toNat)
  case atStart => exact Or.inl ⟨rfl, rfl, rfl⟩
  case round =>
    rcases hrel with ⟨rfl, rfl, rfl⟩ | ⟨rfl, rfl, hP⟩
    · go_wp2_with fail
      refine (put_cl_7 _).mono ?_
      rintro e w' ⟨rfl, hw'⟩
      subst w'
      go_wp2_with fail
      go_region
      go_wp2_with fail
      go_roundw
      case rel => exact Or.inr ⟨rfl, rfl, (P1.out.set _).drewN 1⟩
      case measure => simp [intOf]
    · go_wp2_with fail
      go_ret
      exact ⟨rfl, hP⟩

theorem put_cl_8 (w : World) : Calls Faig.prog 116 #[.int .u64 0, .int .u64 18446744073709551615, .int .u8 1, .int .u8 8] w fun e w' => e = .returned (.int .u64 510) ∧ w' = w := by
  have hb := put_ops 0 18446744073709551615 255 1 8 (by decide) ⟨by omega, by omega⟩ ⟨by omega, by omega⟩ (by omega)
  rw [show putv 0 18446744073709551615 1 8 = 510 by decide] at hb
  have hb2 : bits .or .u64 (bits .andNot .u64 0 510) (IntKind.u64.wrap (bits .and .u64 18446744073709551615 255 * 2)) = 510 := by
    have e : IntKind.u64.wrap ((255 : Int) * 2 ^ 1) = 510 := by decide
    rw [e] at hb; exact hb
  have HB : Hid _ := hb2
  clear hb hb2
  go_enter Faig.func116, Faig.ntmps116
  go_wp2
  go_ret
  exact ⟨ret_int HB.out, rfl⟩
set_option maxHeartbeats 1000000 in
theorem claim_8 (w : World) (gw : Nat) (h0 : w.cell? ⟨gw, 0, none⟩ = some (.int .u64 1)) (hf : w.frozen? ⟨gw, 0, none⟩ = false) (hl : gw < w.heap.size) :
    Calls Faig.prog 134 #[.pointer (some ⟨gw, 0, none⟩), .agg #[.int .u8 1, .int .u16 1, .int .u8 8, .int .u8 0, .int .u8 0, .int .u16 0]] w fun e w' => e = .returned (.bool true) ∧ ClP w w' gw := by
  go_enter Faig.func134, Faig.ntmps134
  go_wp2_with fail
  refine (extent_any 1 1 8 0 0 0 ⟨by omega, by omega⟩ ⟨by omega, by omega⟩ ⟨by omega, by omega⟩ ⟨by omega, by omega⟩ ⟨by omega, by omega⟩ ⟨by omega, by omega⟩ _).mono ?_
  rw [show words 1 8 0 0 0 = 8 by decide, show ext1 1 1 0 = 1 by decide]
  rintro e w1 ⟨rfl, hb1⟩
  have hB1 : Below w.heap.size w w1 := ((Below.refl _ w).alloc (Nat.le_refl _) _).trans (hb1.mono (by simp))
  have P1 : Hid (ClP w w1 gw) := ClP.below hB1 hl
  have h1 : w1.cell? ⟨gw, 0, none⟩ = some (.int .u64 1) := by rw [hB1.cell (p := ⟨gw, 0, none⟩) hl]; exact h0
  have f1 : w1.frozen? ⟨gw, 0, none⟩ = false := by rw [hB1.frozen (p := ⟨gw, 0, none⟩) hl]; exact hf
  have ha : bits .and .u64 1 510 = 0 := by decide
  have ho : bits .or .u64 1 510 = 511 := by decide
  clear hb1 hB1 h0 hf
  go_wp2_with fail
  go_loopw [5, 6, 7, 8] (fun a n _ _ W => (a = .int .u16 1 ∧ n = .int .u16 8 ∧ W = w1) ∨ (a = .int .u16 9 ∧ n = .int .u16 0 ∧ ClP w W gw)) (fun _ n _ _ _ => (intOf n).toNat)
  case atStart => exact Or.inl ⟨rfl, rfl, rfl⟩
  case round =>
    rcases hrel with ⟨rfl, rfl, rfl⟩ | ⟨rfl, rfl, hP⟩
    · go_wp2_with fail
      refine (put_cl_8 _).mono ?_
      rintro e w' ⟨rfl, hw'⟩
      subst w'
      go_wp2_with fail
      go_region
      go_wp2_with fail
      go_roundw
      case rel => exact Or.inr ⟨rfl, rfl, (P1.out.set _).drewN 1⟩
      case measure => simp [intOf]
    · go_wp2_with fail
      go_ret
      exact ⟨rfl, hP⟩

theorem claim_all (w : World) (gw d : Nat) (T : Int) (hd : d ≤ 8) (hT : U16 T) (hT1 : d = 0 ∨ T = 1) (h0 : w.cell? ⟨gw, 0, none⟩ = some (.int .u64 1)) (hf : w.frozen? ⟨gw, 0, none⟩ = false) (hl : gw < w.heap.size) :
    Calls Faig.prog 134 #[.pointer (some ⟨gw, 0, none⟩), .agg #[.int .u8 1, .int .u16 T, .int .u8 d, .int .u8 0, .int .u8 0, .int .u16 0]] w fun e w' => e = .returned (.bool true) ∧ ClP w w' gw := by
  have hdd : d = 0 ∨ d = 1 ∨ d = 2 ∨ d = 3 ∨ d = 4 ∨ d = 5 ∨ d = 6 ∨ d = 7 ∨ d = 8 := by omega
  rcases hdd with rfl | rfl | rfl | rfl | rfl | rfl | rfl | rfl | rfl
  · exact claim_0 w gw T hT hl
  all_goals (have hT2 : T = 1 := by omega)
  all_goals subst hT2
  · exact claim_1 w gw h0 hf hl
  · exact claim_2 w gw h0 hf hl
  · exact claim_3 w gw h0 hf hl
  · exact claim_4 w gw h0 hf hl
  · exact claim_5 w gw h0 hf hl
  · exact claim_6 w gw h0 hf hl
  · exact claim_7 w gw h0 hf hl
  · exact claim_8 w gw h0 hf hl

theorem follow_str (w : World) (gw d : Nat) (T dep : Int) (hd : d ≤ 8) (hT : U16 T) (hT1 : T ≤ 1) :
    Calls Faig.prog 135 #[.pointer (some ⟨gw, 0, none⟩), .agg #[.int .u8 1, .int .u16 T, .int .u8 d, .int .u8 0, .int .u8 0, .int .u16 0], .int .u8 dep] w fun e w' => e = .returned (.tuple #[]) ∧ Below w.heap.size w w' := by
  obtain ⟨t0, t1⟩ := hT
  go_enter Faig.func135, Faig.ntmps135
  go_wp2_with fail
  refine (push_0 _ gw _ dep).mono ?_
  rintro e w' ⟨rfl, hw'⟩
  subst w'
  go_wp2_with fail
  refine bodyPost_end (v := .tuple #[]) (by simp [results, Faig.f135]) rfl ?_
  exact ⟨rfl, (Below.refl _ _).alloc (Nat.le_refl _) _⟩
/-- The root of an arena that holds one struct. -/
def rootT (d : Nat) : Int := if d = 0 then 0 else 1
theorem res_msv (d : Nat) (hd : d ≤ 8) (l : List Int) (hl : l.length = 1 + d) (h0 : l.getD 0 0 = msv 0 1 d 0) : resAt l 0 = ⟨1, rootT d, d, 0, 0, 0, true⟩ := by
  unfold resAt
  rw [if_neg (by omega), show (0 : Int).toNat = 0 from rfl, h0]
  unfold resW
  rw [if_neg (by omega), hl]
  have hdd : d = 0 ∨ d = 1 ∨ d = 2 ∨ d = 3 ∨ d = 4 ∨ d = 5 ∨ d = 6 ∨ d = 7 ∨ d = 8 := by omega
  rcases hdd with rfl | rfl | rfl | rfl | rfl | rfl | rfl | rfl | rfl <;> (rw [if_neg (by decide), if_pos (by decide), if_pos (by decide)]; simp only [PV.mk.injEq]; decide)
theorem Row.fr {w w' : World} {a : Option Addr} {len : Nat} {l : List Int} {B : Nat → Prop} (h : Row w a len l) (hF : Fr w w' B) (hB : ∀ b off, a = some ⟨b, off, none⟩ → ¬ B b) : Row w' a len l := by
  obtain ⟨h1, h2, h3, h4⟩ := h
  refine ⟨h1, h2, h3, ?_⟩
  rcases h4 with h4 | ⟨b, off, ha, hlt, hc⟩
  · exact Or.inl h4
  · exact Or.inr ⟨b, off, ha, Nat.lt_of_lt_of_le hlt hF.size, fun i hi => by rw [World.cell?_of_block (w := w) (a := ⟨b, off + i, none⟩) (hF.block b hlt (hB b off ha))]; exact hc i hi⟩
theorem fr_set (w : World) (g i : Nat) (v : Value) : Fr w (w.setCell ⟨g, i, none⟩ v) (fun k => k = g) := ⟨rfl, rfl, rfl, by rw [size_setCell]; exact Nat.le_refl _, fun k hk hne => Below.heap_setCell _ _ _ _ hne⟩

end Go.Proofs.Ygcfai

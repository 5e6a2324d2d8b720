/-
  THE WALK of law.answers: an arena variable, one word stored, resolved and held against what is wanted.
-/
import Derived.Test.YgcfaiBackPlain
namespace Go.Proofs.Ygcfai
open Go.RowKit Plain
set_option linter.unusedSimpArgs false
set_option linter.unusedVariables false

/-- A variable of type [256]uint64 at block g that holds the words L. -/
structure Arr (w : World) (g : Nat) (L : List Int) : Prop where
  len : L.length = 256
  bd : ∀ i, U64 (L.getD i 0)
  lt : g < w.heap.size
  cell : ∀ i, i < 256 → w.cell? ⟨g, i, none⟩ = some (.int .u64 (L.getD i 0))
  free : ∀ i, w.frozen? ⟨g, i, none⟩ = false

theorem Arr.below {w w' : World} {g : Nat} {L : List Int} (h : Arr w g L) (hb : Below w.heap.size w w') : Arr w' g L :=
  ⟨h.len, h.bd, by have := hb.size; have := h.lt; omega, fun i hi => by rw [hb.cell (p := ⟨g, i, none⟩) h.lt]; exact h.cell i hi, fun i => by rw [hb.frozen (p := ⟨g, i, none⟩) h.lt]; exact h.free i⟩
theorem Arr.alloc {w : World} {g : Nat} {L : List Int} (h : Arr w g L) (o : Obj) : Arr (w.alloc o) g L := h.below ((Below.refl _ _).alloc (Nat.le_refl _) o)
theorem Arr.set {w : World} {g : Nat} {L : List Int} (h : Arr w g L) (j : Nat) (x : Int) (hx : U64 x) (hj : j < 256) : Arr (w.setCell ⟨g, j, none⟩ (.int .u64 x)) g (L.set j x) := by
  refine ⟨by rw [List.length_set]; exact h.len, fun i => ?_, by have := h.lt; simpa [World.setCell] using this, fun i hi => ?_, fun i => by rw [World.frozen?_setCell]; exact h.free i⟩
  · by_cases e : j = i
    · subst e; rw [getD_set_same _ _ _ (by rw [h.len]; exact hj)]; exact hx
    · rw [getD_set_other _ _ _ _ e]; exact h.bd i
  · by_cases e : j = i
    · subst e; rw [getD_set_same _ _ _ (by rw [h.len]; exact hj)]; exact World.cell?_setCell_same _ _ _ (h.cell j hi)
    · rw [getD_set_other _ _ _ _ e, World.cell?_setCell_other _ _ _ _ (by simp <;> omega)]; exact h.cell i hi
theorem Arr.other {w : World} {g b : Nat} {L : List Int} (h : Arr w g L) (o : Nat) (v : Value) (hb : b ≠ g) : Arr (w.setCell ⟨b, o, none⟩ v) g L :=
  ⟨h.len, h.bd, by have := h.lt; simpa [World.setCell] using this, fun i hi => by rw [World.cell?_setCell_other _ _ _ _ (by simp <;> omega)]; exact h.cell i hi, fun i => by rw [World.frozen?_setCell]; exact h.free i⟩
theorem Arr.row {w : World} {g : Nat} {L : List Int} (h : Arr w g L) : Row w (some ⟨g, 0, none⟩) 256 L :=
  ⟨h.len, h.bd, by unfold maxLen; omega, Or.inr ⟨g, 0, rfl, h.lt, fun i hi => by rw [Nat.zero_add]; exact h.cell i hi⟩⟩


set_option maxRecDepth 100000 in
set_option maxHeartbeats 1000000 in
theorem answers_no (g : Nat) (L : List Int) (f x k t d p c n : Int) (w : World) (ha : Arr w g L) (hf0 : 0 ≤ f) (hf : f < 256) (hx : U64 x)
    (hEq : resAt (L.set f.toNat x) f = PV.no) :
    Calls Faig.prog 40 #[.pointer (some ⟨g, 0, none⟩), .int .u16 f, .int .u64 x, .agg #[.int .u8 k, .int .u16 t, .int .u8 d, .int .u8 p, .int .u8 c, .int .u16 n], .bool false] w fun e w' => e = .returned (.bool true) ∧ Below g w w' := by
  have hcf := ha.cell f.toNat (by omega)
  have hfz := ha.free f.toNat
  have hlt := ha.lt
  have HEQ : Hid _ := hEq
  clear hEq
  go_enter Faig.func40, Faig.ntmps40
  go_wp2_with fail
  refine (resolve_any (some ⟨g, 0, none⟩) 256 256 (L.set f.toNat x) f ⟨by omega, by omega⟩ _ ((ha.set f.toNat x hx (by omega)).alloc _).row).mono ?_
  rw [HEQ.out]
  rintro e w1 ⟨rfl, hb1⟩
  have hs : (w.setCell ⟨g, f.toNat, none⟩ (.int .u64 x)).heap.size = w.heap.size := by simp [World.setCell]
  have hh : w1.cell? ⟨w.heap.size, 0, none⟩ = some (.int .u8 0) ∧ w1.cell? ⟨w.heap.size, 1, none⟩ = some (.int .u16 0) ∧ w1.cell? ⟨w.heap.size, 2, none⟩ = some (.int .u8 0) ∧ w1.cell? ⟨w.heap.size, 3, none⟩ = some (.int .u8 0) ∧ w1.cell? ⟨w.heap.size, 4, none⟩ = some (.int .u8 0) ∧ w1.cell? ⟨w.heap.size, 5, none⟩ = some (.int .u16 0) := by
    refine ⟨?_, ?_, ?_, ?_, ?_, ?_⟩ <;> (rw [hb1.cell (by simp [hs])]; rw [← hs]; simp [go_sem])
  have b1 : Below g w w1 := (((Below.refl g w).setCell (p := ⟨g, f.toNat, none⟩) (Nat.le_refl _) _).alloc (by rw [hs]; omega) _).trans (hb1.mono (by simp [hs]; omega))
  have z1 : w.heap.size < w1.heap.size := by have := hb1.size; simp [hs] at this; omega
  clear hb1 hs
  unfold PV.ptr PV.no
  go_wp2_with fail
  go_ret
  exact ⟨rfl, b1.alloc (by have := b1.size; omega) _⟩

set_option maxRecDepth 100000 in
set_option maxHeartbeats 1000000 in
theorem answers_yes (g : Nat) (L : List Int) (f x k t d p c n : Int) (w : World) (ha : Arr w g L) (hf0 : 0 ≤ f) (hf : f < 256) (hx : U64 x)
    (hEq : resAt (L.set f.toNat x) f = ⟨k, t, d, p, c, n, true⟩) :
    Calls Faig.prog 40 #[.pointer (some ⟨g, 0, none⟩), .int .u16 f, .int .u64 x, .agg #[.int .u8 k, .int .u16 t, .int .u8 d, .int .u8 p, .int .u8 c, .int .u16 n], .bool true] w fun e w' => e = .returned (.bool true) ∧ Below g w w' := by
  have hcf := ha.cell f.toNat (by omega)
  have hfz := ha.free f.toNat
  have hlt := ha.lt
  have HEQ : Hid _ := hEq
  clear hEq
  go_enter Faig.func40, Faig.ntmps40
  go_wp2_with fail
  refine (resolve_any (some ⟨g, 0, none⟩) 256 256 (L.set f.toNat x) f ⟨by omega, by omega⟩ _ ((ha.set f.toNat x hx (by omega)).alloc _).row).mono ?_
  rw [HEQ.out]
  rintro e w1 ⟨rfl, hb1⟩
  have hs : (w.setCell ⟨g, f.toNat, none⟩ (.int .u64 x)).heap.size = w.heap.size := by simp [World.setCell]
  have hh : w1.cell? ⟨w.heap.size, 0, none⟩ = some (.int .u8 k) ∧ w1.cell? ⟨w.heap.size, 1, none⟩ = some (.int .u16 t) ∧ w1.cell? ⟨w.heap.size, 2, none⟩ = some (.int .u8 d) ∧ w1.cell? ⟨w.heap.size, 3, none⟩ = some (.int .u8 p) ∧ w1.cell? ⟨w.heap.size, 4, none⟩ = some (.int .u8 c) ∧ w1.cell? ⟨w.heap.size, 5, none⟩ = some (.int .u16 n) := by
    refine ⟨?_, ?_, ?_, ?_, ?_, ?_⟩ <;> (rw [hb1.cell (by simp [hs])]; rw [← hs]; simp [go_sem])
  have b1 : Below g w w1 := (((Below.refl g w).setCell (p := ⟨g, f.toNat, none⟩) (Nat.le_refl _) _).alloc (by rw [hs]; omega) _).trans (hb1.mono (by simp [hs]; omega))
  have z1 : w.heap.size < w1.heap.size := by have := hb1.size; simp [hs] at this; omega
  clear hb1 hs
  unfold PV.ptr
  go_wp2_with fail
  go_ret
  exact ⟨rfl, b1.alloc (by have := b1.size; omega) _⟩

theorem answers_any (g : Nat) (L : List Int) (f x k t d p c n : Int) (ok : Bool) (w : World) (ha : Arr w g L) (hf0 : 0 ≤ f) (hf : f < 256) (hx : U64 x)
    (hEq : resAt (L.set f.toNat x) f = wanted ok k t d p c n) :
    Calls Faig.prog 40 #[.pointer (some ⟨g, 0, none⟩), .int .u16 f, .int .u64 x, .agg #[.int .u8 k, .int .u16 t, .int .u8 d, .int .u8 p, .int .u8 c, .int .u16 n], .bool ok] w fun e w' => e = .returned (.bool true) ∧ Below g w w' := by
  cases ok with
  | false => exact answers_no g L f x k t d p c n w ha hf0 hf hx (by simpa [wanted] using hEq)
  | true => exact answers_yes g L f x k t d p c n w ha hf0 hf hx (by simpa [wanted] using hEq)

theorem zeros97 : Faig.zeroCells97 = Array.replicate 256 (.int .u64 0) := by kernel_rfl
theorem zerosAt (m i : Nat) (h : i < m) : (Array.replicate m (Value.int .u64 0))[i]? = some (.int .u64 0) := by simp [h]
theorem zerosGetD (m i : Nat) : (List.replicate m (0 : Int)).getD i 0 = 0 := by
  rw [List.getD_eq_getElem?_getD, List.getElem?_replicate]; split <;> rfl
/-- A new variable of 256 zero words. -/
theorem Arr.zero (w : World) : Arr (w.alloc (.cells Faig.zeroCells97 97)) w.heap.size (List.replicate 256 0) := by
  rw [zeros97]
  refine ⟨List.length_replicate, fun i => by rw [zerosGetD]; exact ⟨by omega, by omega⟩, by simp, fun i hi => ?_, fun i => by simp [go_sem]⟩
  rw [zerosGetD]
  have e : (w.alloc (.cells (Array.replicate 256 (Value.int .u64 0)) 97)).cell? ⟨w.heap.size, i, none⟩ = (Array.replicate 256 (Value.int .u64 0))[i]? := World.cell?_alloc_new _ _ _ _
  rw [e]
  exact zerosAt 256 i hi
end Go.Proofs.Ygcfai

/-
  DefaultBack: two builders made.
-/
import Derived.Test.YgcfaiLawC
namespace Go.Proofs.Ygcfai
open Go.RowKit Go.Joins Plain
set_option linter.unusedVariables false
set_option linter.unusedSimpArgs false
def la0 (d : Nat) : List Int := msv 0 1 d 0 :: List.replicate d 0
theorem la0_len (d : Nat) : (la0 d).length = 1 + d := by simp [la0]; omega
theorem la0_word (d j : Nat) : (la0 d).getD (1 + j) 0 = 0 := by
  unfold la0
  rw [Nat.add_comm, List.getD_eq_getElem?_getD, List.getElem?_cons_succ]
  by_cases h : j < d <;> simp [List.getElem?_replicate, h]
theorem msv_u64 (d : Nat) (hd : d ≤ 8) : U64 (msv 0 1 d 0) := by
  have hdd : d = 0 ∨ d = 1 ∨ d = 2 ∨ d = 3 ∨ d = 4 ∨ d = 5 ∨ d = 6 ∨ d = 7 ∨ d = 8 := by omega
  rcases hdd with rfl | rfl | rfl | rfl | rfl | rfl | rfl | rfl | rfl <;> exact ⟨by decide, by decide⟩
theorem la0_u64 (d : Nat) (hd : d ≤ 8) : ∀ i, U64 ((la0 d).getD i 0)
  | 0 => msv_u64 d hd
  | i + 1 => by rw [Nat.add_comm, la0_word]; exact ⟨by omega, by omega⟩
theorem two_law {w w3 w4 w5 w6 : World} {g1 g2 d : Nat} {L1 L2 : List BR} (hB4 : Below w.heap.size w w4) (hL1 : ∀ k, Bl g1 L1 k → w.heap.size ≤ k ∧ k < w3.heap.size) (hL2 : ∀ k, Bl g2 L2 k → w3.heap.size ≤ k ∧ k < w4.heap.size) (z3 : w.heap.size ≤ w3.heap.size) (z34 : w3.heap.size ≤ w4.heap.size)
    (S1 : NSPost w4 w5 g1 d L1) (S2 : NSPost w5 w6 g2 d L2) (hd : d ≤ 8) : ∃ ga1 ca1 ga2 ca2, LawS w w6 g1 g2 ga1 ca1 ga2 ca2 d (la0 d) (la0 d) := by
  obtain ⟨vA, vO, vU, vV, vD, vE, B1, F5, N5⟩ := S1
  obtain ⟨xA, xO, xU, xV, xD, xE, B2, F6, N6⟩ := S2
  have ex : (Value.int .u64 (msv 0 1 d 0) :: List.replicate d (.int .u64 0)) = (la0 d).map (Value.int .u64) := by simp [la0]
  rw [ex] at B1 N5 B2 N6
  have z5 := F5.size
  have z6 := F6.size
  have far1 : ∀ k, Bl g1 (strL d vA vO vU vV vD vE ((la0 d).map (Value.int .u64))) k → (k < w3.heap.size ∨ w4.heap.size ≤ k) ∧ w.heap.size ≤ k ∧ k < w5.heap.size := by
    intro k hk
    have := Bl.lt B1 hk
    rcases N5 k hk with h | h
    · have := hL1 k h; exact ⟨Or.inl (by omega), by omega, by omega⟩
    · exact ⟨Or.inr h, by omega, by omega⟩
  have far2 : ∀ k, Bl g2 (strL d xA xO xU xV xD xE ((la0 d).map (Value.int .u64))) k → (w3.heap.size ≤ k ∧ k < w4.heap.size ∨ w5.heap.size ≤ k) ∧ w.heap.size ≤ k := by
    intro k hk
    rcases N6 k hk with h | h
    · have := hL2 k h; exact ⟨Or.inl (by omega), by omega⟩
    · exact ⟨Or.inr h, by omega⟩
  have B1' := B1.keep (w' := w6) (fun k hk hb => F6.block k hk (fun h2 => by have := far1 k hb; have := hL2 k h2; omega))
  obtain ⟨ga1, ca1, go1, co1, gu1, cu1, gv1, cv1, gd1, cd1, ge1, ce1, eA1, eO1, eE1, D1⟩ := Bld.of B1' (la0_len d) hd (la0_u64 d hd)
  obtain ⟨ga2, ca2, go2, co2, gu2, cu2, gv2, cv2, gd2, cd2, ge2, ce2, eA2, eO2, eE2, D2⟩ := Bld.of B2 (la0_len d) hd (la0_u64 d hd)
  have m1 := far1 ga1 (Or.inr ⟨0, _, rfl, by simp only [eA1]; rfl⟩)
  have m2 := far1 go1 (Or.inr ⟨1, _, rfl, by simp only [eO1]; rfl⟩)
  have m3 := far1 ge1 (Or.inr ⟨5, _, rfl, by simp only [eE1]; rfl⟩)
  have m4 := far1 g1 (Or.inl rfl)
  have k1 := far2 ga2 (Or.inr ⟨0, _, rfl, by simp only [eA2]; rfl⟩)
  have k2 := far2 go2 (Or.inr ⟨1, _, rfl, by simp only [eO2]; rfl⟩)
  have k3 := far2 ge2 (Or.inr ⟨5, _, rfl, by simp only [eE2]; rfl⟩)
  have k4 := far2 g2 (Or.inl rfl)
  have B5 : Below w.heap.size w w5 := hB4.trans (F5.below (n := w.heap.size) (fun k hk => (hL1 k hk).1) hB4.size)
  have B6 : Below w.heap.size w w6 := B5.trans (F6.below (n := w.heap.size) (fun k hk => by have := hL2 k hk; omega) B5.size)
  exact ⟨ga1, ca1, ga2, ca2, B6, ⟨go1, co1, gu1, cu1, gv1, cv1, gd1, cd1, ge1, ce1, D1, by omega, by omega⟩, ⟨go2, co2, gu2, cu2, gv2, cv2, gd2, cd2, ge2, ce2, D2, by omega, by omega⟩, by omega, by omega, by omega, by omega, by omega⟩
end Go.Proofs.Ygcfai

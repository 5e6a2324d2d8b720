/-
  WHAT A WALK IS TOLD OF A SLICE OF WORDS ([]uint64) THAT IT READS.
-/
import Derived.Test.YgcfaiAid
namespace Go.Proofs.Ygcfai
open Go.RowKit Plain

def U64 (x : Int) : Prop := 0 ≤ x ∧ x < 18446744073709551616

/-- The slice 'a' of 'len' words reads as the list 'l'. -/
def Row (w : World) (a : Option Addr) (len : Nat) (l : List Int) : Prop :=
  l.length = len ∧ (∀ i, U64 (l.getD i 0)) ∧ len ≤ maxLen ∧ (len = 0 ∨ ∃ b off, a = some ⟨b, off, none⟩ ∧ b < w.heap.size ∧ ∀ i, i < len → w.cell? ⟨b, off + i, none⟩ = some (.int .u64 (l.getD i 0)))

theorem Row.below {w w' : World} {a : Option Addr} {len B : Nat} {l : List Int} (h : Row w a len l) (hb : Below B w w') (hB : w.heap.size ≤ B) : Row w' a len l := by
  obtain ⟨h1, h2, h3, h4⟩ := h
  refine ⟨h1, h2, h3, ?_⟩
  rcases h4 with h4 | ⟨b, off, ha, hlt, hc⟩
  · exact Or.inl h4
  · exact Or.inr ⟨b, off, ha, by have := hb.size; omega, fun i hi => by rw [hb.cell (p := ⟨b, off + i, none⟩) (by show b < B; omega)]; exact hc i hi⟩
theorem Row.alloc {w : World} {a : Option Addr} {len : Nat} {l : List Int} (h : Row w a len l) (o : Obj) : Row (w.alloc o) a len l :=
  h.below ((Below.refl _ _).alloc (Nat.le_refl _) o) (Nat.le_refl _)
theorem Row.drew {w : World} {a : Option Addr} {len : Nat} {l : List Int} (h : Row w a len l) : Row w.drew a len l :=
  h.below ((Below.refl _ _).drew) (Nat.le_refl _)
theorem Row.drewN {w : World} {a : Option Addr} {len : Nat} {l : List Int} (h : Row w a len l) (n : Nat) : Row (w.drewN n) a len l :=
  h.below (below_drewN (Below.refl _ _) n) (Nat.le_refl _)
theorem Row.take {w : World} {a : Option Addr} {len : Nat} {l : List Int} (h : Row w a len l) (m : Nat) (hm : m ≤ len) : Row w a m (l.take m) := by
  obtain ⟨h1, h2, h3, h4⟩ := h
  have hg : ∀ i, i < m → (l.take m).getD i 0 = l.getD i 0 := fun i hi => by simp [List.getD_eq_getElem?_getD, hi]
  refine ⟨by simp; omega, fun i => ?_, by omega, ?_⟩
  · by_cases hi : i < m
    · rw [hg i hi]; exact h2 i
    · have : (l.take m).getD i 0 = 0 := by simp [List.getD_eq_getElem?_getD, List.getElem?_take, hi]
      rw [this]; exact ⟨by omega, by omega⟩
  · rcases h4 with h4 | ⟨b, off, ha, hlt, hc⟩
    · exact Or.inl (by omega)
    · exact Or.inr ⟨b, off, ha, hlt, fun i hi => by rw [hg i hi]; exact hc i (by omega)⟩
/-- The word at an index, and its cell. -/
theorem Row.at {w : World} {a : Option Addr} {len : Nat} {l : List Int} (h : Row w a len l) (i : Nat) (hi : i < len) : ∃ b off, a = some ⟨b, off, none⟩ ∧ b < w.heap.size ∧ w.cell? ⟨b, off + i, none⟩ = some (.int .u64 (l.getD i 0)) ∧ U64 (l.getD i 0) := by
  obtain ⟨h1, h2, h3, h4⟩ := h
  rcases h4 with h4 | ⟨b, off, ha, hlt, hc⟩
  · omega
  · exact ⟨b, off, ha, hlt, hc i hi, h2 i⟩
end Go.Proofs.Ygcfai

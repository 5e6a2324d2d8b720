/-
  DefaultBack, the builder grown: its six rows, apart from each other; what may have changed.
-/
import Derived.Test.YgcfaiDefE
import Derived.Test.YgcfaiVec
namespace Go.Proofs.Ygcfai
open Go.RowKit Go.Joins Plain
set_option linter.unusedVariables false

/-- A row of a builder: the slice, its element's type and size, its length, what it reads. -/
structure BR where
  v : Value
  e : TypeId
  z : Nat
  n : Nat
  xs : List Value
def Owns (w : World) (L : List BR) : Prop := ∀ (i : Nat) (r : BR), L[i]? = some r → w.ownsRow 0 r.e r.z r.v r.n r.xs
def Apart (g : Nat) (L : List BR) : Prop := (∀ (i : Nat) (r : BR), L[i]? = some r → r.v.ownBlock ≠ some g) ∧ ∀ (i j : Nat) (r s : BR), i ≠ j → L[i]? = some r → L[j]? = some s → ∀ k, r.v.ownBlock = some k → s.v.ownBlock ≠ some k
/-- Nothing but the blocks of B and new ones has changed. -/
structure Fr (w w' : World) (B : Nat → Prop) : Prop where
  os : w'.os = w.os
  tape : w'.tape = w.tape
  output : w'.output = w.output
  size : w.heap.size ≤ w'.heap.size
  block : ∀ k, k < w.heap.size → ¬ B k → w'.heap[k]? = w.heap[k]?
theorem Fr.trans {a b c : World} {B C : Nat → Prop} (h : Fr a b B) (k : Fr b c C) (hC : ∀ i, C i → B i ∨ a.heap.size ≤ i) : Fr a c B :=
  ⟨k.os.trans h.os, k.tape.trans h.tape, k.output.trans h.output, Nat.le_trans h.size k.size, fun i hi hB => (k.block i (Nat.lt_of_lt_of_le hi h.size) (fun hc => by rcases hC i hc with h1 | h1; exact hB h1; omega)).trans (h.block i hi hB)⟩
theorem Fr.of_below {w w' : World} {B : Nat → Prop} (h : Below w.heap.size w w') : Fr w w' B := ⟨h.os, h.tape, h.output, h.size, fun k hk _ => h.block k hk⟩
theorem Fr.below {w w' : World} {n : Nat} {B : Nat → Prop} (h : Fr w w' B) (hB : ∀ k, B k → n ≤ k) (hn : n ≤ w.heap.size) : Below n w w' := ⟨h.os, h.tape, h.output, h.size, fun k hk => h.block k (by omega) (fun hb => by have := hB k hb; omega)⟩
theorem ownsRow_lt {w : World} {b : Nat} {e : TypeId} {z n : Nat} {v : Value} {xs : List Value} {k : Nat} (h : w.ownsRow b e z v n xs) (hk : v.ownBlock = some k) : k < w.heap.size := by
  rcases h.2 with ⟨rfl, -⟩ | ⟨g, cap, cur, rfl, -, hh, -⟩
  · cases hk
  · cases hk; exact (Array.getElem?_eq_some_iff.1 hh).1
theorem ownsRow_same {w w' : World} {b : Nat} {e : TypeId} {z n : Nat} {v : Value} {xs : List Value} (h : w.ownsRow b e z v n xs) (hs : ∀ k, v.ownBlock = some k → w'.heap[k]? = w.heap[k]?) : w'.ownsRow b e z v n xs := by
  refine ⟨h.1, ?_⟩
  rcases h.2 with h0 | ⟨g, cap, cur, rfl, hb, hh, hr⟩
  · exact Or.inl h0
  · exact Or.inr ⟨g, cap, cur, rfl, hb, by rw [hs g rfl]; exact hh, hr⟩
theorem Owns.keep {w w' : World} {L : List BR} (h : Owns w L) (hs : ∀ k, k < w.heap.size → (∃ (i : Nat) (r : BR), L[i]? = some r ∧ r.v.ownBlock = some k) → w'.heap[k]? = w.heap[k]?) : Owns w' L :=
  fun i r hi => ownsRow_same (h i r hi) (fun k hk => hs k (ownsRow_lt (h i r hi) hk) ⟨i, r, hi, hk⟩)
theorem Owns.setCell {w : World} {L : List BR} {g : Nat} (h : Owns w L) (hA : Apart g L) (c : Nat) (v : Value) : Owns (w.setCell ⟨g, c, none⟩ v) L :=
  h.keep (fun k _ ⟨i, r, hi, hk⟩ => Below.heap_setCell _ _ _ _ (fun e => by subst e; exact hA.1 i r hi hk))
/-- One row is grown by an append behind allocations. -/
theorem own_step {w W w' : World} {g i : Nat} {L : List BR} {r s : BR} (hO : Owns w L) (hA : Apart g L) (hg : g < w.heap.size) (hi : L[i]? = some r) (hW : ∀ k, k < w.heap.size → W.heap[k]? = w.heap[k]?) (hz : w.heap.size ≤ W.heap.size)
    (r1 : w'.ownsRow 0 s.e s.z s.v s.n s.xs) (r2 : W.grownBy w' r.v.ownBlock) (r3 : ∀ k, s.v.ownBlock = some k → r.v.ownBlock = some k ∨ W.heap.size ≤ k) :
    Owns w' (L.set i s) ∧ Apart g (L.set i s) ∧ w'.heap[g]? = w.heap[g]? := by
  have hl : i < L.length := (List.getElem?_eq_some_iff.1 hi).1
  have old : ∀ k, k < w.heap.size → some k ≠ r.v.ownBlock → w'.heap[k]? = w.heap[k]? := fun k hk hne => (r2.block k (by omega) hne).trans (hW k hk)
  refine ⟨?_, ⟨?_, ?_⟩, old g hg (fun e => hA.1 i r hi e.symm)⟩
  · intro j t hj
    by_cases e : i = j
    · subst e; rw [List.getElem?_set_self hl] at hj; cases hj; exact r1
    · rw [List.getElem?_set_ne e] at hj
      exact ownsRow_same (hO j t hj) (fun k hk => old k (ownsRow_lt (hO j t hj) hk) (fun e' => hA.2 j i t r (fun e'' => e e''.symm) hj hi k hk e'.symm))
  · intro j t hj
    by_cases e : i = j
    · subst e; rw [List.getElem?_set_self hl] at hj; cases hj
      intro e'
      rcases r3 g e' with h1 | h1
      · exact hA.1 i r hi h1
      · omega
    · rw [List.getElem?_set_ne e] at hj; exact hA.1 j t hj
  · intro j l t u hne hj hl' k hk hk'
    by_cases e : i = j
    · subst e; rw [List.getElem?_set_self hl] at hj; cases hj
      rw [List.getElem?_set_ne hne] at hl'
      rcases r3 k hk with h1 | h1
      · exact hA.2 i l r u hne hi hl' k h1 hk'
      · have := ownsRow_lt (hO l u hl') hk'; omega
    · rw [List.getElem?_set_ne e] at hj
      by_cases e2 : i = l
      · subst e2; rw [List.getElem?_set_self hl] at hl'; cases hl'
        rcases r3 k hk' with h1 | h1
        · exact hA.2 j i t r hne hj hi k hk h1
        · have := ownsRow_lt (hO j t hj) hk; omega
      · rw [List.getElem?_set_ne e2] at hl'; exact hA.2 j l t u hne hj hl' k hk hk'

def fpos (i : Nat) : Nat := if i = 0 then 0 else i + 4
/-- The blocks of a builder. -/
def Bl (g : Nat) (L : List BR) (k : Nat) : Prop := k = g ∨ ∃ (i : Nat) (r : BR), L[i]? = some r ∧ r.v.ownBlock = some k
/-- A builder behind pointer g: its cells hold its rows' slices; the rows lie apart. -/
structure BW (w : World) (g : Nat) (L : List BR) : Prop where
  blk : ∃ cur : Array Value, w.heap[g]? = some (.cells cur 86 (0, 0)) ∧ ∀ (i : Nat) (r : BR), L[i]? = some r → cur[fpos i]? = some r.v
  own : Owns w L
  apart : Apart g L
theorem BW.lt {w : World} {g : Nat} {L : List BR} (h : BW w g L) : g < w.heap.size := by
  obtain ⟨cur, hb, -⟩ := h.blk
  exact (Array.getElem?_eq_some_iff.1 hb).1
theorem BW.cell {w : World} {g : Nat} {L : List BR} (h : BW w g L) {i : Nat} {r : BR} (hi : L[i]? = some r) : w.cell? ⟨g, fpos i, none⟩ = some r.v := by
  obtain ⟨cur, hb, hc⟩ := h.blk
  rw [cell_of_block hb]; exact hc i r hi
theorem BW.free {w : World} {g : Nat} {L : List BR} (h : BW w g L) (i : Nat) : w.frozen? ⟨g, i, none⟩ = false := by
  obtain ⟨cur, hb, hc⟩ := h.blk
  exact unfrozen_of_block hb i
theorem Bl.lt {w : World} {g : Nat} {L : List BR} (h : BW w g L) {k : Nat} (hk : Bl g L k) : k < w.heap.size := by
  rcases hk with rfl | ⟨i, r, hi, hk⟩
  · exact h.lt
  · exact ownsRow_lt (h.own i r hi) hk
theorem BW.keep {w w' : World} {g : Nat} {L : List BR} (h : BW w g L) (hs : ∀ k, k < w.heap.size → Bl g L k → w'.heap[k]? = w.heap[k]?) : BW w' g L := by
  obtain ⟨cur, hb, hc⟩ := h.blk
  exact ⟨⟨cur, by rw [hs g h.lt (Or.inl rfl)]; exact hb, hc⟩, h.own.keep (fun k hk hx => hs k hk (Or.inr hx)), h.apart⟩
theorem fpos_inj {i j : Nat} (h : i ≠ j) : fpos i ≠ fpos j := by unfold fpos; split <;> split <;> omega
theorem BW.step {w W w' : World} {g i : Nat} {L : List BR} {r s : BR} (h : BW w g L) (hi : L[i]? = some r) (hW : Below w.heap.size w W)
    (r1 : w'.ownsRow 0 s.e s.z s.v s.n s.xs) (r2 : W.grownBy w' r.v.ownBlock) (r3 : ∀ k, s.v.ownBlock = some k → r.v.ownBlock = some k ∨ W.heap.size ≤ k) :
    BW (w'.setCell ⟨g, fpos i, none⟩ s.v) g (L.set i s) ∧ Fr w (w'.setCell ⟨g, fpos i, none⟩ s.v) (Bl g L) ∧ ∀ k, Bl g (L.set i s) k → Bl g L k ∨ w.heap.size ≤ k := by
  have hl : i < L.length := (List.getElem?_eq_some_iff.1 hi).1
  obtain ⟨o1, o2, o3⟩ := own_step h.own h.apart h.lt hi hW.block hW.size r1 r2 r3
  obtain ⟨cur, hb, hc⟩ := h.blk
  have hp : fpos i < cur.size := (Array.getElem?_eq_some_iff.1 (hc i r hi)).1
  refine ⟨⟨⟨cur.setIfInBounds (fpos i) s.v, block_setCell (o3.trans hb) s.v, ?_⟩, o1.setCell o2 _ _, o2⟩, ⟨r2.os.trans hW.os, r2.tape.trans hW.tape, r2.output.trans hW.output, by rw [size_setCell]; exact Nat.le_trans hW.size r2.size, ?_⟩, ?_⟩
  · intro j t hj
    by_cases e : i = j
    · subst e; rw [List.getElem?_set_self hl] at hj; cases hj
      simp [hp]
    · rw [List.getElem?_set_ne e] at hj
      rw [Array.getElem?_setIfInBounds_ne (fpos_inj e)]; exact hc j t hj
  · intro k hk hB
    rw [Below.heap_setCell _ _ _ _ (fun e => hB (Or.inl e)), r2.block k (Nat.lt_of_lt_of_le hk hW.size) (fun e => hB (Or.inr ⟨i, r, hi, e.symm⟩)), hW.block k hk]
  · intro k hk
    rcases hk with rfl | ⟨j, t, hj, hk⟩
    · exact Or.inl (Or.inl rfl)
    · by_cases e : i = j
      · subst e; rw [List.getElem?_set_self hl] at hj; cases hj
        rcases r3 k hk with h1 | h1
        · exact Or.inl (Or.inr ⟨i, r, hi, h1⟩)
        · exact Or.inr (Nat.le_trans hW.size h1)
      · rw [List.getElem?_set_ne e] at hj; exact Or.inl (Or.inr ⟨j, t, hj, hk⟩)
theorem Fr.refl (w : World) (B : Nat → Prop) : Fr w w B := ⟨rfl, rfl, rfl, Nat.le_refl _, fun _ _ _ => rfl⟩
end Go.Proofs.Ygcfai

/-
  DefaultBack: schema.Layout, the plain twin: what is kept of the places.
-/
import Derived.Test.YgcfaiLayA
import Derived.Test.YgcfaiLayB
import Derived.Test.YgcfaiDefC
import Derived.Test.YgcfaiDefG
namespace Go.Proofs.Ygcfai
open Go.RowKit Go.Joins Plain
set_option linter.unusedVariables false
set_option linter.unusedSimpArgs false

def five (S : Nat) : Prop := S = 1 ∨ S = 8 ∨ S = 16 ∨ S = 32 ∨ S = 64
/-- A place (its bits, its offset in such): its word, its bit there. -/
def pW (p : Nat × Nat) : Nat := p.2 * p.1 / 64
def pB (p : Nat × Nat) : Nat := p.2 * p.1 % 64
def pApart (p q : Nat × Nat) : Prop := pW p ≠ pW q ∨ pB p + p.1 ≤ pB q ∨ pB q + q.1 ≤ pB p
structure LayInv (U : List Nat) (data : Nat) (P : List (Nat × Nat)) : Prop where
  len : U.length = 8
  d8 : data ≤ 8
  bd : ∀ j, U.getD j 0 < 2 ^ 64
  zero : ∀ j, data ≤ j → U.getD j 0 = 0
  s5 : ∀ p ∈ P, five p.1
  ins : ∀ p ∈ P, pW p < data ∧ pB p + p.1 ≤ 64
  ones : ∀ p ∈ P, getN (U.getD (pW p) 0) (pB p) p.1 = 2 ^ p.1 - 1
  apart : P.Pairwise pApart
theorem five_pos {S : Nat} (h : five S) : 0 < S := by rcases h with h | h | h | h | h <;> omega
theorem at_place {S A : Nat} (h : five S) (hA : A % S = 0) : A / S * S = A ∧ A % 64 + S ≤ 64 := by
  rcases h with rfl | rfl | rfl | rfl | rfl <;> omega
theorem nat_set_same (L : List Nat) (i x : Nat) (h : i < L.length) : (L.set i x).getD i 0 = x := by
  simp [List.getD_eq_getElem?_getD, h]
theorem nat_set_else (L : List Nat) (i j x : Nat) (h : i ≠ j) : (L.set i x).getD j 0 = L.getD j 0 := by
  simp [List.getD_eq_getElem?_getD, h]
theorem ones_lt (U S b : Nat) (hU : U < 2 ^ 64) (h : b + S ≤ 64) : (U ||| (2 ^ S - 1) * 2 ^ b) < 2 ^ 64 := by
  have hb0 : 0 < 2 ^ b := Nat.pow_pos (by omega)
  have hS0 : 0 < 2 ^ S := Nat.pow_pos (by omega)
  have hSb : 2 ^ S * 2 ^ b ≤ 2 ^ 64 := by rw [← Nat.pow_add]; exact Nat.pow_le_pow_right (by omega) (by omega)
  have hM : (2 ^ S - 1) * 2 ^ b < 2 ^ 64 := Nat.lt_of_lt_of_le (Nat.mul_lt_mul_of_pos_right (by omega) hb0) hSb
  exact Nat.or_lt_two_pow hU hM
theorem lay_step {U : List Nat} {data data' A S : Nat} {P : List (Nat × Nat)} (h : LayInv U data P) (hS : five S) (hA : A % S = 0) (hd : A < 64 * data') (hdd : data ≤ data') (d8 : data' ≤ 8) (hz : getN (U.getD (A / 64) 0) (A % 64) S = 0) :
    LayInv (U.set (A / 64) (U.getD (A / 64) 0 ||| (2 ^ S - 1) * 2 ^ (A % 64))) data' (P ++ [(S, A / S)]) := by
  obtain ⟨e1, e2⟩ := at_place hS hA
  have hw : pW (S, A / S) = A / 64 := by unfold pW; simp only [e1]
  have hb : pB (S, A / S) = A % 64 := by unfold pB; simp only [e1]
  have hl := h.len
  have hj : A / 64 < U.length := by omega
  refine ⟨by rw [List.length_set]; exact hl, d8, fun j => ?_, fun j hj' => ?_, fun p hp => ?_, fun p hp => ?_, fun p hp => ?_, ?_⟩
  · by_cases e : A / 64 = j
    · subst e; rw [nat_set_same _ _ _ hj]; exact ones_lt _ _ _ (h.bd _) e2
    · rw [nat_set_else _ _ _ _ e]; exact h.bd j
  · rw [nat_set_else _ _ _ _ (by omega)]; exact h.zero j (by omega)
  · rcases List.mem_append.1 hp with hp | hp
    · exact h.s5 p hp
    · simp at hp; subst hp; exact hS
  · rcases List.mem_append.1 hp with hp | hp
    · have := h.ins p hp; exact ⟨by omega, this.2⟩
    · simp at hp; subst hp; rw [hw, hb]; exact ⟨by omega, e2⟩
  · rcases List.mem_append.1 hp with hp | hp
    · by_cases e : A / 64 = pW p
      · rw [← e, nat_set_same _ _ _ hj]; exact ones_keep _ _ _ _ _ (by rw [e]; exact h.ones p hp)
      · rw [nat_set_else _ _ _ _ e]; exact h.ones p hp
    · simp at hp; subst hp; rw [hw, hb, nat_set_same _ _ _ hj]; exact ones_self _ _ _
  · rw [List.pairwise_append]
    refine ⟨h.apart, List.pairwise_singleton _ _, fun p hp q hq => ?_⟩
    simp at hq; subst hq
    unfold pApart
    rw [hw, hb]
    by_cases e : pW p = A / 64
    · right
      exact apart_of (U.getD (A / 64) 0) (pB p) p.1 (A % 64) S (by rw [← e]; exact h.ones p hp) hz (five_pos (h.s5 p hp)) (five_pos hS)
    · exact Or.inl e
theorem lay_zero {U : List Nat} {data : Nat} {P : List (Nat × Nat)} (h : LayInv U data P) (S : Nat) : getN (U.getD (64 * data / 64) 0) (64 * data % 64) S = 0 := by
  rw [h.zero _ (by omega)]; simp [getN]

theorem lay_new {U : List Nat} {data S m : Nat} {P : List (Nat × Nat)} (h : LayInv U data P) (hS : five S) (hd : data < 8) (hm : m = 2 ^ S - 1) : LayInv (U.set data m) (data + 1) (P ++ [(S, 64 * data / S)]) := by
  have hA : 64 * data % S = 0 := by rcases hS with rfl | rfl | rfl | rfl | rfl <;> omega
  have := lay_step (data' := data + 1) h hS hA (by omega) (by omega) (by omega) (lay_zero h S)
  have e1 : 64 * data / 64 = data := by omega
  have e2 : 64 * data % 64 = 0 := by omega
  rw [e1, e2, h.zero data (Nat.le_refl _)] at this
  rw [hm]
  simpa using this

/-- The variable 'used'. -/
structure UA (w : World) (g : Nat) (U : List Nat) : Prop where
  lt : g < w.heap.size
  cell : ∀ j, j < 8 → w.cell? ⟨g, j, none⟩ = some (.int .u64 ((U.getD j 0 : Nat) : Int))
  free : ∀ j, w.frozen? ⟨g, j, none⟩ = false
theorem UA.keep {w w' : World} {g : Nat} {U : List Nat} (h : UA w g U) (hs : w'.heap[g]? = w.heap[g]?) (hz : w.heap.size ≤ w'.heap.size) : UA w' g U :=
  ⟨Nat.lt_of_lt_of_le h.lt hz, fun j hj => by rw [World.cell?_of_block (w := w) (a := ⟨g, j, none⟩) hs]; exact h.cell j hj, fun j => by rw [World.frozen?_of_block (w := w) (a := ⟨g, j, none⟩) hs]; exact h.free j⟩
theorem UA.set {w : World} {g : Nat} {U : List Nat} (h : UA w g U) (hl : U.length = 8) (j x : Nat) (hj : j < 8) : UA (w.setCell ⟨g, j, none⟩ (.int .u64 ((x : Nat) : Int))) g (U.set j x) := by
  refine ⟨by rw [size_setCell]; exact h.lt, fun i hi => ?_, fun i => by rw [World.frozen?_setCell]; exact h.free i⟩
  by_cases e : j = i
  · subst e; rw [nat_set_same _ _ _ (by omega)]; exact World.cell?_setCell_same _ _ _ (h.cell j hi)
  · rw [nat_set_else _ _ _ _ e, World.cell?_setCell_other _ _ _ _ (by simp <;> omega)]; exact h.cell i hi
theorem UA.row {w : World} {g : Nat} {U : List Nat} (h : UA w g U) (hl : U.length = 8) (hb : ∀ j, U.getD j 0 < 2 ^ 64) (data : Nat) (hd : data ≤ 8) : Row w (some ⟨g, 0, none⟩) data ((U.take data).map Int.ofNat) := by
  have hg : ∀ i, i < data → ((U.take data).map Int.ofNat).getD i 0 = ((U.getD i 0 : Nat) : Int) := by
    intro i hi
    have : i < U.length := by omega
    simp [List.getD_eq_getElem?_getD, List.getElem?_take, hi, this]
  refine ⟨by simp; omega, fun i => ?_, by unfold maxLen; omega, Or.inr ⟨g, 0, rfl, h.lt, fun i hi => by rw [hg i hi, Nat.zero_add]; exact h.cell i (by omega)⟩⟩
  by_cases hi : i < data
  · rw [hg i hi]; have := hb i; exact ⟨by omega, by omega⟩
  · have : ((U.take data).map Int.ofNat).getD i 0 = 0 := by simp [List.getD_eq_getElem?_getD, List.getElem?_take, hi]
    rw [this]; exact ⟨by omega, by omega⟩
theorem FitP.plain {U : List Nat} {data S : Nat} {at_ : Int} (hl : U.length = 8) (hd : data ≤ 8) (hS : five S) (h : FitP ((U.take data).map Int.ofNat) data S at_ true) :
    ∃ A : Nat, at_ = (A : Int) ∧ A % S = 0 ∧ A < 64 * data ∧ getN (U.getD (A / 64) 0) (A % 64) S = 0 := by
  rcases h with ⟨h, -⟩ | ⟨-, j, b, rfl, hj, hb, hb2, hz⟩
  · cases h
  · have hg : ((U.take data).map Int.ofNat).getD j 0 = ((U.getD j 0 : Nat) : Int) := by
      have : j < U.length := by omega
      simp [List.getD_eq_getElem?_getD, List.getElem?_take, hj, this]
    have hp := five_pos hS
    have e1 : (64 * j + b) / 64 = j := by omega
    have e2 : (64 * j + b) % 64 = b := by omega
    rw [hg, getv_nat] at hz
    refine ⟨64 * j + b, by omega, ?_, by omega, by rw [e1, e2]; exact_mod_cast hz⟩
    rcases hS with rfl | rfl | rfl | rfl | rfl <;> omega
/-- The cells of places. -/
def flat (P : List (Nat × Nat)) : List Value := P.flatMap (fun p => [.int .u8 (p.1 : Int), .int .u16 (p.2 : Int), .int .u8 0, .bool false])
/-- A round of Layout's loop: what stands. -/
structure LW (w W : World) (gu : Nat) (v : Value) (k data : Nat) (P : List (Nat × Nat)) (U : List Nat) : Prop where
  below : Below w.heap.size w W
  arr : UA W gu U
  guN : w.heap.size ≤ gu
  own : W.ownsRow 0 78 4 v k (flat P)
  vN : ∀ b, v.ownBlock = some b → w.heap.size ≤ b ∧ b ≠ gu
  inv : LayInv U data P
  len : P.length = k
theorem LW.row3 {w W : World} {gu : Nat} {v : Value} {k data : Nat} {P : List (Nat × Nat)} {U : List Nat} (h : LW w W gu v k data P U) (o1 o3 : Obj) (j : Nat) (x : Value) : (((W.setCell ⟨gu, j, none⟩ x).alloc o1).alloc o3).ownsRow 0 78 4 v k (flat P) := by
  refine ownsRow_same h.own (fun b hb => ?_)
  have hlt := ownsRow_lt h.own hb
  rw [Below.heap_alloc _ _ _ (by simp [size_setCell]; omega), Below.heap_alloc _ _ _ (by rw [size_setCell]; exact hlt), Below.heap_setCell _ _ _ _ (h.vN b hb).2]
theorem lay_temp (w : World) (a : Addr) (x : Value) (o1 : Obj) (c : Array Value) (e : TypeId) (j : Nat) (u : Value) (h : c.toList[j]? = some u) : (((w.setCell a x).alloc o1).alloc (.cells c e (0, 0))).cell? ((⟨w.heap.size + 1, 0, none⟩ : Addr).add j) = some u := by
  rw [Go.WideShapes.add_plain]
  have hb : (((w.setCell a x).alloc o1).alloc (.cells c e (0, 0))).heap[w.heap.size + 1]? = some (.cells c e (0, 0)) := by
    show (((w.setCell a x).heap.push o1).push _)[w.heap.size + 1]? = _
    rw [Array.getElem?_push, if_pos (by rw [Array.size_push, size_setCell])]
  rw [cell_of_block hb, Nat.zero_add, ← Array.getElem?_toList]; exact h
theorem LW.step {w W w' : World} {gu : Nat} {v : Value} {k data data' : Nat} {P : List (Nat × Nat)} {U : List Nat} (h : LW w W gu v k data P U) (o1 o3 : Obj) (j x g' cap' : Nat) (p : Nat × Nat) (hj : j < 8)
    (hi : LayInv (U.set j x) data' (P ++ [p])) (s y : Int) (hs : s = (p.1 : Int)) (hy : y = (p.2 : Int))
    (r1 : w'.ownsRow 0 78 4 (.slice (some ⟨g', 0, none⟩) (k + 1) cap') (k + 1) (flat P ++ [.int .u8 s, .int .u16 y, .int .u8 0, .bool false]))
    (r2 : (((W.setCell ⟨gu, j, none⟩ (.int .u64 (x : Int))).alloc o1).alloc o3).grownBy w' v.ownBlock)
    (r3 : v.ownBlock = some g' ∨ W.heap.size + 1 + 1 ≤ g') :
    LW w w' gu (.slice (some ⟨g', 0, none⟩) (k + 1) cap') (k + 1) data' (P ++ [p]) (U.set j x) := by
  subst hs hy
  have hgu := h.arr.lt
  have hz := h.below.size
  have e : ∀ (u : World) (o : Obj), (u.alloc o).heap.size = u.heap.size + 1 := fun u o => by simp
  have B3 : Below w.heap.size w (((W.setCell ⟨gu, j, none⟩ (.int .u64 (x : Int))).alloc o1).alloc o3) := ((h.below.setCell (p := ⟨gu, j, none⟩) h.guN _).alloc (by rw [size_setCell]; exact hz) o1).alloc (by rw [e, size_setCell]; omega) o3
  have hsz : (((W.setCell ⟨gu, j, none⟩ (.int .u64 (x : Int))).alloc o1).alloc o3).heap.size = W.heap.size + 2 := by rw [e, e, size_setCell]
  refine ⟨B3.grown r2 (by omega) (fun b hb => (h.vN b hb).1), ?_, h.guN, ?_, ?_, hi, by simp [h.len]⟩
  · have A2 := h.arr.set h.inv.len j x hj
    have A1 := A2.keep (w' := (W.setCell ⟨gu, j, none⟩ (.int .u64 (x : Int))).alloc o1) (Below.heap_alloc _ _ _ A2.lt) (by simp)
    have A3 := A1.keep (w' := ((W.setCell ⟨gu, j, none⟩ (.int .u64 (x : Int))).alloc o1).alloc o3) (Below.heap_alloc _ _ _ A1.lt) (by simp)
    exact A3.keep (r2.block gu A3.lt (fun e => (h.vN gu e.symm).2 rfl)) r2.size
  · have : flat (P ++ [p]) = flat P ++ [.int .u8 (p.1 : Int), .int .u16 (p.2 : Int), .int .u8 0, .bool false] := by simp [flat]
    rw [this]; exact r1
  · intro b hb
    cases hb
    rcases r3 with r3 | r3
    · exact h.vN g' r3
    · show w.heap.size ≤ g' ∧ g' ≠ gu; exact ⟨by omega, by omega⟩
end Go.Proofs.Ygcfai

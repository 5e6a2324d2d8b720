/-
  DefaultBack: the law's state: Layout at every length; two builders; the places.
-/
import Derived.Test.YgcfaiLawB
import Derived.Test.YgcfaiLayD
namespace Go.Proofs.Ygcfai
open Go.RowKit Go.Joins Plain
set_option linter.unusedVariables false
set_option linter.unusedSimpArgs false
theorem layout_17 (w : World) (gt : Nat) : Calls Faig.prog 28 #[.slice (some ⟨gt, 0, none⟩) 17 17] w fun e w' => LayPost w w' e 17 := by
  go_enter Faig.func28, Faig.ntmps28
  go_wp2_with fail
  refine bodyPost_ret (v := .tuple #[.slice none 0 0, .int .u8 0, .int .u8 0, .bool false]) (by simp [results, Faig.results28, go_sem]) rfl ?_
  exact ⟨Below.refl _ _, Or.inl rfl⟩
set_option maxRecDepth 100000 in
theorem layout_0 (w : World) (gt : Nat) : Calls Faig.prog 28 #[.slice (some ⟨gt, 0, none⟩) 0 0] w fun e w' => LayPost w w' e 0 := by
  go_enter Faig.func28, Faig.ntmps28
  go_wp2_with fail
  have hB : Below w.heap.size w (w.alloc (.cells #[.int .u64 0, .int .u64 0, .int .u64 0, .int .u64 0, .int .u64 0, .int .u64 0, .int .u64 0, .int .u64 0] 156 (0, 0))) := (Below.refl _ _).alloc (Nat.le_refl _) _
  go_loop [2, 3, 4, 23] (fun a b c i => a = .slice none 0 0 ∧ b = .int .u8 0 ∧ c = .int .u8 0 ∧ i = .int .i64 0) (fun _ _ _ _ => 0)
  case atStart => exact ⟨rfl, rfl, rfl, rfl⟩
  case round =>
    obtain ⟨rfl, rfl, rfl, rfl⟩ := hrel
    go_wp2_with fail
    refine bodyPost_ret (v := .tuple #[.slice none 0 0, .int .u8 0, .int .u8 0, .bool true]) (by simp [results, Faig.results28, go_sem]) rfl ?_
    refine ⟨hB, Or.inr ⟨.slice none 0 0, 0, [], [0, 0, 0, 0, 0, 0, 0, 0], rfl, ⟨rfl, Or.inl ⟨rfl, rfl⟩⟩, (fun b hb => by cases hb), ?_, rfl⟩⟩
    have hz : ∀ j, ([0, 0, 0, 0, 0, 0, 0, 0] : List Nat).getD j 0 = 0 := by
      intro j
      match j with
      | 0 | 1 | 2 | 3 | 4 | 5 | 6 | 7 => rfl
      | j + 8 => rfl
    exact ⟨rfl, by omega, fun j => by rw [hz]; decide, fun j _ => hz j, fun p hp => (List.not_mem_nil hp).elim, fun p hp => (List.not_mem_nil hp).elim, fun p hp => (List.not_mem_nil hp).elim, List.Pairwise.nil⟩
theorem layout_all (w : World) (gt n : Nat) (f : Nat → Int) (hT : TS w gt n f) (hf : ∀ i, 0 ≤ f i ∧ f i ≤ 10) (hn : n ≤ 17) :
    Calls Faig.prog 28 #[.slice (some ⟨gt, 0, none⟩) n n] w fun e w' => LayPost w w' e n := by
  by_cases h0 : n = 0
  · subst h0; exact layout_0 w gt
  · by_cases h17 : n = 17
    · subst h17; exact layout_17 w gt
    · exact layout_any w gt n f hT hf (by omega) (by omega)
/-- Two builders of one struct each, apart. -/
structure LawS (w W : World) (g1 g2 ga1 ca1 ga2 ca2 d : Nat) (la1 la2 : List Int) : Prop where
  below : Below w.heap.size w W
  b1 : ∃ go co gu cu gv cv gd cd ge ce, Bld W g1 ga1 ca1 go co gu cu gv cv gd cd ge ce d la1 ∧ go ≠ ga2 ∧ ge ≠ ga2
  b2 : ∃ go co gu cu gv cv gd cd ge ce, Bld W g2 ga2 ca2 go co gu cu gv cv gd cd ge ce d la2 ∧ go ≠ ga1 ∧ ge ≠ ga1
  n1 : w.heap.size ≤ ga1
  n2 : w.heap.size ≤ ga2
  e1 : ga1 ≠ ga2
  e2 : g1 ≠ ga2
  e3 : g2 ≠ ga1
theorem LawS.next {w W W' : World} {g1 g2 ga1 ca1 ga2 ca2 d : Nat} {la1 la2 : List Int} (h : LawS w W g1 g2 ga1 ca1 ga2 ca2 d la1 la2) (hb : Below W.heap.size W W') : LawS w W' g1 g2 ga1 ca1 ga2 ca2 d la1 la2 := by
  obtain ⟨go, co, gu, cu, gv, cv, gd, cd, ge, ce, hB, x1, x2⟩ := h.b1
  obtain ⟨go', co', gu', cu', gv', cv', gd', cd', ge', ce', hB', y1, y2⟩ := h.b2
  exact ⟨h.below.trans (hb.mono h.below.size), ⟨go, co, gu, cu, gv, cv, gd, cd, ge, ce, hB.below hb, x1, x2⟩, ⟨go', co', gu', cu', gv', cv', gd', cd', ge', ce', hB'.below hb, y1, y2⟩, h.n1, h.n2, h.e1, h.e2, h.e3⟩
theorem LawS.put1 {w W W' : World} {g1 g2 ga1 ca1 ga2 ca2 d : Nat} {la1 la2 : List Int} (h : LawS w W g1 g2 ga1 ca1 ga2 ca2 d la1 la2) (j : Nat) (y : Int) (hj : j < la1.length) (hy : U64 y) (hb : Below W.heap.size (W.setCell ⟨ga1, j, none⟩ (.int .u64 y)) W') : LawS w W' g1 g2 ga1 ca1 ga2 ca2 d (la1.set j y) la2 := by
  obtain ⟨go, co, gu, cu, gv, cv, gd, cd, ge, ce, hB, x1, x2⟩ := h.b1
  obtain ⟨go', co', gu', cu', gv', cv', gd', cd', ge', ce', hB', y1, y2⟩ := h.b2
  exact ⟨(h.below.setCell (p := ⟨ga1, j, none⟩) h.n1 _).trans (hb.mono h.below.size), ⟨go, co, gu, cu, gv, cv, gd, cd, ge, ce, hB.put j y hj hy hb, x1, x2⟩, ⟨go', co', gu', cu', gv', cv', gd', cd', ge', ce', hB'.else_put ga1 j _ h.e3 (fun e => h.e1 e.symm) y1 y2 hb, y1, y2⟩, h.n1, h.n2, h.e1, h.e2, h.e3⟩
theorem LawS.put2 {w W W' : World} {g1 g2 ga1 ca1 ga2 ca2 d : Nat} {la1 la2 : List Int} (h : LawS w W g1 g2 ga1 ca1 ga2 ca2 d la1 la2) (j : Nat) (y : Int) (hj : j < la2.length) (hy : U64 y) (hb : Below W.heap.size (W.setCell ⟨ga2, j, none⟩ (.int .u64 y)) W') : LawS w W' g1 g2 ga1 ca1 ga2 ca2 d la1 (la2.set j y) := by
  obtain ⟨go, co, gu, cu, gv, cv, gd, cd, ge, ce, hB, x1, x2⟩ := h.b1
  obtain ⟨go', co', gu', cu', gv', cv', gd', cd', ge', ce', hB', y1, y2⟩ := h.b2
  exact ⟨(h.below.setCell (p := ⟨ga2, j, none⟩) h.n2 _).trans (hb.mono h.below.size), ⟨go, co, gu, cu, gv, cv, gd, cd, ge, ce, hB.else_put ga2 j _ h.e2 h.e1 x1 x2 hb, x1, x2⟩, ⟨go', co', gu', cu', gv', cv', gd', cd', ge', ce', hB'.put j y hj hy hb, y1, y2⟩, h.n1, h.n2, h.e1, h.e2, h.e3⟩
/-- The places' cells. -/
structure PC (W : World) (gp : Nat) (P : List (Nat × Nat)) : Prop where
  lt : gp < W.heap.size
  c0 : ∀ i, i < P.length → W.cell? ⟨gp, i * 4, none⟩ = some (.int .u8 ((P.getD i (1, 0)).1 : Int))
  c1 : ∀ i, i < P.length → W.cell? ⟨gp, i * 4 + 1, none⟩ = some (.int .u16 ((P.getD i (1, 0)).2 : Int))
  c2 : ∀ i, i < P.length → W.cell? ⟨gp, i * 4 + 2, none⟩ = some (.int .u8 0)
  c3 : ∀ i, i < P.length → W.cell? ⟨gp, i * 4 + 3, none⟩ = some (.bool false)
theorem PC.keep {W W' : World} {gp : Nat} {P : List (Nat × Nat)} (h : PC W gp P) (hs : W'.heap[gp]? = W.heap[gp]?) (hz : W.heap.size ≤ W'.heap.size) : PC W' gp P := by
  have key : ∀ i v, W.cell? ⟨gp, i, none⟩ = some v → W'.cell? ⟨gp, i, none⟩ = some v := fun i v hv => (World.cell?_of_block (w := W) (a := ⟨gp, i, none⟩) hs).trans hv
  exact ⟨Nat.lt_of_lt_of_le h.lt hz, fun i hi => key _ _ (h.c0 i hi), fun i hi => key _ _ (h.c1 i hi), fun i hi => key _ _ (h.c2 i hi), fun i hi => key _ _ (h.c3 i hi)⟩
theorem flat_get : ∀ (P : List (Nat × Nat)) (i : Nat), i < P.length → (flat P)[i * 4]? = some (.int .u8 ((P.getD i (1, 0)).1 : Int)) ∧ (flat P)[i * 4 + 1]? = some (.int .u16 ((P.getD i (1, 0)).2 : Int)) ∧ (flat P)[i * 4 + 2]? = some (.int .u8 0) ∧ (flat P)[i * 4 + 3]? = some (.bool false)
  | [], i, h => absurd h (by simp)
  | p :: P, 0, h => by simp [flat]
  | p :: P, i + 1, h => by
    have ih := flat_get P i (by simpa using h)
    have e : flat (p :: P) = [.int .u8 (p.1 : Int), .int .u16 (p.2 : Int), .int .u8 0, .bool false] ++ flat P := by simp [flat]
    have e2 : (p :: P).getD (i + 1) (1, 0) = P.getD i (1, 0) := by simp [List.getD_eq_getElem?_getD]
    rw [e, e2]
    refine ⟨?_, ?_, ?_, ?_⟩ <;> (rw [List.getElem?_append_right (by simp; omega)])
    · simpa [show (i + 1) * 4 - 4 = i * 4 by omega] using ih.1
    · simpa [show (i + 1) * 4 + 1 - 4 = i * 4 + 1 by omega] using ih.2.1
    · simpa [show (i + 1) * 4 + 2 - 4 = i * 4 + 2 by omega] using ih.2.2.1
    · simpa [show (i + 1) * 4 + 3 - 4 = i * 4 + 3 by omega] using ih.2.2.2
theorem PC.of {W : World} {v : Value} {P : List (Nat × Nat)} {n : Nat} (h : W.ownsRow 0 78 4 v n (flat P)) (hn : P.length = n) (h0 : 0 < n) : ∃ gp cp, v = .slice (some ⟨gp, 0, none⟩) n cp ∧ PC W gp P := by
  obtain ⟨gp, cp, e, l, c, -⟩ := row_cells h h0
  exact ⟨gp, cp, e, l, fun i hi => c _ _ (flat_get P i hi).1, fun i hi => c _ _ (flat_get P i hi).2.1, fun i hi => c _ _ (flat_get P i hi).2.2.1, fun i hi => c _ _ (flat_get P i hi).2.2.2⟩
end Go.Proofs.Ygcfai

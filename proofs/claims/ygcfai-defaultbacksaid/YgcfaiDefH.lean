/-
  DefaultBack: build.New.
-/
import Derived.Test.YgcfaiDefG
namespace Go.Proofs.Ygcfai
open Go.RowKit Go.Joins Plain
set_option linter.unusedVariables false
set_option linter.unusedSimpArgs false

/-- The rows of a builder just made. -/
def newL (ga : Nat) (vO vU vV vD vE : Value) : List BR := BL ⟨.slice (some ⟨ga, 0, none⟩) 1 1, 49, 1, 1, [.int .u64 0]⟩ vO vU vV vD vE 1 1 1 1 1 [.int .u8 1, .int .u16 0, .int .u8 0, .int .u8 1, .int .u8 0, .int .u16 0] [.int .u8 0] [.int .u8 0] [.int .u8 0] [.bool false]
def NewPost (w w' : World) (g : Nat) : Prop := ∃ (ga : Nat) (vO vU vV vD vE : Value), BW w' g (newL ga vO vU vV vD vE) ∧ Below w.heap.size w w' ∧ ∀ k, Bl g (newL ga vO vU vV vD vE) k → w.heap.size ≤ k
def nilL (ga : Nat) : List BR := BL ⟨.slice (some ⟨ga, 0, none⟩) 1 1, 49, 1, 1, [.int .u64 0]⟩ (.slice none 0 0) (.slice none 0 0) (.slice none 0 0) (.slice none 0 0) (.slice none 0 0) 0 0 0 0 0 [] [] [] [] []
theorem nil_row (w : World) (e : TypeId) (z : Nat) : w.ownsRow 0 e z (.slice none 0 0) 0 [] := ⟨by simp, Or.inl ⟨rfl, rfl⟩⟩
theorem six_get {a b c d e f : BR} {P : Nat → BR → Prop} (h0 : P 0 a) (h1 : P 1 b) (h2 : P 2 c) (h3 : P 3 d) (h4 : P 4 e) (h5 : P 5 f) : ∀ (i : Nat) (r : BR), [a, b, c, d, e, f][i]? = some r → P i r := by
  intro i r h
  match i, h with
  | 0, h => cases h; exact h0
  | 1, h => cases h; exact h1
  | 2, h => cases h; exact h2
  | 3, h => cases h; exact h3
  | 4, h => cases h; exact h4
  | 5, h => cases h; exact h5
  | i + 6, h => simp at h
/-- The builder of New ahead of hang. -/
theorem nil_BW (w w0 : World) (h : w0.ownsRow 0 49 1 (.slice (some ⟨w.heap.size, 0, none⟩) 1 1) 1 [.int .u64 0]) :
    BW (w0.alloc (.cells #[.slice (some ⟨w.heap.size, 0, none⟩) 1 1, .int .u64 1, .int .u64 0, .int .u64 0, .int .u64 0, .slice none 0 0, .slice none 0 0, .slice none 0 0, .slice none 0 0, .slice none 0 0] 86 (0, 0))) w0.heap.size (nilL w.heap.size) := by
  have hb : (w0.alloc (.cells #[.slice (some ⟨w.heap.size, 0, none⟩) 1 1, .int .u64 1, .int .u64 0, .int .u64 0, .int .u64 0, .slice none 0 0, .slice none 0 0, .slice none 0 0, .slice none 0 0, .slice none 0 0] 86 (0, 0))).heap[w0.heap.size]? = some (.cells #[.slice (some ⟨w.heap.size, 0, none⟩) 1 1, .int .u64 1, .int .u64 0, .int .u64 0, .int .u64 0, .slice none 0 0, .slice none 0 0, .slice none 0 0, .slice none 0 0, .slice none 0 0] 86 (0, 0)) := by
    show (w0.heap.push _)[w0.heap.size]? = _
    rw [Array.getElem?_push, if_pos rfl]
  have hlt := ownsRow_lt h rfl
  refine ⟨⟨_, hb, ?_⟩, ?_, ?_, ?_⟩
  · exact six_get rfl rfl rfl rfl rfl rfl
  · refine six_get ?_ (nil_row _ _ _) (nil_row _ _ _) (nil_row _ _ _) (nil_row _ _ _) (nil_row _ _ _)
    refine ownsRow_same h (fun k hk => ?_)
    cases hk
    exact Below.heap_alloc _ _ _ hlt
  · refine six_get ?_ (fun hh => by cases hh) (fun hh => by cases hh) (fun hh => by cases hh) (fun hh => by cases hh) (fun hh => by cases hh)
    intro hh
    have : w.heap.size = w0.heap.size := by injection hh
    simp only at hlt
    omega
  · intro i j r s hne hi hj k hk hk'
    have only : ∀ (i : Nat) (r : BR), (nilL w.heap.size)[i]? = some r → ∀ k, r.v.ownBlock = some k → i = 0 := by
      refine six_get ?_ ?_ ?_ ?_ ?_ ?_ <;> intro k hh <;> first | rfl | cases hh
    have := only i r hi k hk; have := only j s hj k hk'
    omega
theorem nil_Bl {ga g k : Nat} (h : Bl g (nilL ga) k) : k = g ∨ k = ga := by
  rcases h with h | ⟨i, r, hi, hk⟩
  · exact Or.inl h
  · right
    revert hk
    exact six_get (P := fun i r => r.v.ownBlock = some k → k = ga) (fun h => by cases h; rfl) (fun h => by cases h) (fun h => by cases h) (fun h => by cases h) (fun h => by cases h) (fun h => by cases h) i r hi

set_option maxRecDepth 100000 in
set_option maxHeartbeats 1000000 in
theorem new_any (w : World) : Calls Faig.prog 29 #[] w fun e w' => ∃ g, e = .returned (.pointer (some ⟨g, 0, none⟩)) ∧ NewPost w w' g := by
  obtain ⟨i49, hi, hz0, hz1, hz2⟩ := info_parts info49
  go_enter Faig.func29, Faig.ntmps29
  go_wp2_with (first | (at_make; refine wpList_make_full _ rfl _ _ 22 rfl 0 49 i49 _ 1 Faig.underlying22 hi hz0 hz1 .i64 .i64 1 1 1 rfl rfl rfl rfl (by rw [hz2]; decide) (by decide) (Nat.zero_le _) ?_; intro w0 r1 r2) | fail)
  have r1' : w0.ownsRow 0 49 1 (.slice (some ⟨w.heap.size, 0, none⟩) 1 1) 1 [.int .u64 0] := by
    have e : (madeCells (Value.int IntKind.u64 0).cells (1 * 1)).toList = [.int .u64 0] := by simp [madeCells, Value.cells]
    rw [e] at r1; exact r1
  have hB := nil_BW w w0 r1'
  refine (hang_S _ w0.heap.size 0 _ _ _ _ _ _ _ _ _ _ _ 1 0 0 1 0 0 0 0 0 hB (by decide)).mono ?_
  rintro e w1 ⟨rfl, vO, vU, vV, vD, vE, B1, F1, N1⟩
  have hlt := ownsRow_lt r1 rfl
  have key : ∀ k, Bl w0.heap.size (nilL w.heap.size) k → w.heap.size ≤ k := by
    intro k hk
    rcases nil_Bl hk with rfl | rfl
    · exact r2.size
    · exact Nat.le_refl _
  have hb0 : Below w.heap.size w (w0.alloc (.cells #[.slice (some ⟨w.heap.size, 0, none⟩) 1 1, .int .u64 1, .int .u64 0, .int .u64 0, .int .u64 0, .slice none 0 0, .slice none 0 0, .slice none 0 0, .slice none 0 0, .slice none 0 0] 86 (0, 0))) := ((Below.refl _ w).grown r2 (Nat.le_refl _) (fun k hk => by cases hk)).alloc r2.size _
  have hP : NewPost w w1 w0.heap.size := by
    refine ⟨w.heap.size, vO, vU, vV, vD, vE, B1, hb0.trans (F1.below key hb0.size), fun k hk => ?_⟩
    rcases N1 k hk with h | h
    · exact key k h
    · exact Nat.le_trans hb0.size h
  clear B1 F1 N1 hB r1 r2 hb0 key
  go_wp2_with fail
  go_ret
  exact ⟨_, rfl, hP⟩
end Go.Proofs.Ygcfai

/-
  DefaultBack: valid.Claimed, Validate.
-/
import Derived.Test.YgcfaiValC
namespace Go.Proofs.Ygcfai
open Go.RowKit Go.Joins Plain
set_option linter.unusedVariables false
set_option linter.unusedSimpArgs false
theorem WV_0 : WV[0]? = some (.int .u64 1) := by unfold WV; rw [Array.getElem?_setIfInBounds_ne (by decide), Array.getElem?_setIfInBounds_ne (by decide), Array.getElem?_setIfInBounds_ne (by decide), Array.getElem?_setIfInBounds_self_of_lt (by rw [z175_size]; decide)]
theorem WV_516 : WV[516]? = some (.int .u16 1) := by unfold WV; rw [Array.getElem?_setIfInBounds_self_of_lt (by simp [z175_size])]
theorem WV_4 : WV[4]? = some (.int .u16 0) := by unfold WV; rw [Array.getElem?_setIfInBounds_ne (by decide), Array.getElem?_setIfInBounds_ne (by decide), Array.getElem?_setIfInBounds_self_of_lt (by simp [z175_size])]
theorem WV_5 : WV[5]? = some (.int .u8 0) := by unfold WV; rw [Array.getElem?_setIfInBounds_ne (by decide), Array.getElem?_setIfInBounds_self_of_lt (by simp [z175_size])]
/-- Claimed's answer: some four words, and true. -/
def ClaimedE (e : Ending) : Prop := ∃ x : Int, e = .returned (.tuple #[.agg #[.int .u64 x, .int .u64 0, .int .u64 0, .int .u64 0], .bool true])
def spOf (w : World) (g : Nat) : Nat := match w.cell? ⟨g, 516, none⟩ with | some (.int _ n) => n.toNat | _ => 0
set_option maxRecDepth 100000 in
set_option maxHeartbeats 2000000 in
theorem claimed_str (w : World) (d : Nat) (a : Option Addr) (cap : Nat) (l : List Int) (hd : d ≤ 8) (hr : Row w a (1 + d) l) (hx : l.getD 0 0 = msv 0 1 d 0) :
    Calls Faig.prog 50 #[.slice a (1 + d) cap] w fun e w' => ClaimedE e ∧ Below w.heap.size w w' := by
  go_enter Faig.func50, Faig.ntmps50
  go_wp2_with fail
  refine (start_any _ a (1 + d) cap (by omega) (by omega)).mono ?_
  rintro e w1 ⟨rfl, hb1⟩
  have hb2 : (w1.alloc (.cells Faig.zeroCells175 175 (0, 0))).heap[w1.heap.size]? = some (.cells Faig.zeroCells175 175 (0, 0)) := by
    show (w1.heap.push _)[w1.heap.size]? = _
    rw [Array.getElem?_push, if_pos rfl]
  go_wp2_with (first | (with_reducible refine store_row (t := 175) w1.heap.size Faig.zeroCells175 WV 175 (by simp [Act.eval, Act.put]) (by simp [Act.eval, Act.put]) hb2 (by rw [WV_size]; exact i175) (by rw [WV_size]; exact z175_size) WV_one ?_) | fail)
  have hz0 : w.heap.size < w1.heap.size := by have := hb1.size; simp at this; omega
  have B1 : Below w.heap.size w w1 := ((Below.refl _ w).alloc (Nat.le_refl _) _).trans (hb1.mono (by simp))
  have hset : w1.heap[w.heap.size]? = some (.cells #[.int .u64 0, .int .u64 0, .int .u64 0, .int .u64 0] 82 (0, 0)) := by
    rw [hb1.block _ (by simp)]
    show (w.heap.push _)[w.heap.size]? = _
    rw [Array.getElem?_push, if_pos rfl]
  have hW := setRow_block (c' := WV) hb2
  have hR2 : Row ((w1.alloc (.cells Faig.zeroCells175 175 (0, 0))).setRow w1.heap.size WV) a (1 + d) l := (hr.below B1 (Nat.le_refl _)).below (setRow_below (c' := WV) ((Below.refl w1.heap.size w1).alloc (Nat.le_refl _) _) (Nat.le_refl _)) (Nat.le_refl _)
  have hne : ∀ b off, a = some ⟨b, off, none⟩ → ¬ b = w1.heap.size := by
    intro b off ha e
    obtain ⟨h1, h2, h3, h4⟩ := hr
    rcases h4 with h4 | ⟨b', off', ha', hlt, -⟩
    · omega
    · rw [ha] at ha'; injection ha' with ha'; injection ha' with ha'; omega
  have B2 : Below w.heap.size w ((w1.alloc (.cells Faig.zeroCells175 175 (0, 0))).setRow w1.heap.size WV) := setRow_below (c' := WV) (B1.alloc (by omega) _) (by omega)
  have hset2 : ((w1.alloc (.cells Faig.zeroCells175 175 (0, 0))).setRow w1.heap.size WV).heap[w.heap.size]? = some (.cells #[.int .u64 0, .int .u64 0, .int .u64 0, .int .u64 0] 82 (0, 0)) := by
    rw [setRow_other (by omega), Below.heap_alloc _ _ _ hz0]; exact hset
  generalize (w1.alloc (.cells Faig.zeroCells175 175 (0, 0))).setRow w1.heap.size WV = w2 at hW hR2 B2 hset2 ⊢
  generalize w1.heap.size = gw at *
  clear hb1 hb2 hset B1
  have m0 : w2.cell? ⟨gw, 0, none⟩ = some (.int .u64 1) := by rw [cell_of_block hW]; exact WV_0
  have m4 : w2.cell? ⟨gw, 4, none⟩ = some (.int .u16 0) := by rw [cell_of_block hW]; exact WV_4
  have m5 : w2.cell? ⟨gw, 5, none⟩ = some (.int .u8 0) := by rw [cell_of_block hW]; exact WV_5
  have m516 : w2.cell? ⟨gw, 516, none⟩ = some (.int .u16 1) := by rw [cell_of_block hW]; exact WV_516
  have mr : Hid (∀ i, i = 1 ∨ i = 2 ∨ i = 3 → w2.cell? ⟨gw, i, none⟩ = some (.int .u64 0)) := by
    rintro i (rfl | rfl | rfl) <;> (rw [cell_of_block hW]; unfold WV; rw [Array.getElem?_setIfInBounds_ne (by decide), Array.getElem?_setIfInBounds_ne (by decide), Array.getElem?_setIfInBounds_ne (by decide), Array.getElem?_setIfInBounds_ne (by decide)]; kernel_rfl)
  have hlt := (Array.getElem?_eq_some_iff.1 hW).1
  have ST : Hid (Calls Faig.prog 88 #[.pointer (some ⟨gw, 0, none⟩), .slice a (1 + d) cap] w2 fun e w' => e = .returned (.bool true) ∧ StepP w2 w' gw) := step_str w2 gw d a cap l hd hR2 hx hne m0 m4 m5 m516 (fun i => unfrozen_of_block hW i) hlt
  have HS : Hid (w2.heap[w.heap.size]? = some (.cells #[.int .u64 0, .int .u64 0, .int .u64 0, .int .u64 0] 82 (0, 0))) := hset2
  have HB : Hid (Below w.heap.size w w2) := B2
  clear hR2 hne m0 m4 m5 hset2 B2 hW hr
  go_loopw [3] (fun ok W => ok = .bool true ∧ (W = w2 ∨ StepP w2 W gw)) (fun _ W => spOf W gw)
  case atStart => exact ⟨rfl, Or.inl rfl⟩
  case round =>
    obtain ⟨rfl, hrel⟩ := hrel
    rcases hrel with rfl | hS
    · go_wp2_with fail
      refine ST.out.mono ?_
      rintro e w3 ⟨rfl, S3⟩
      go_wp2_with fail
      go_roundw
      case rel => exact ⟨rfl, Or.inr S3⟩
      case measure => unfold spOf; rw [S3.2.1, m516]; decide
    · obtain ⟨F3, c516, ⟨x, c0⟩, hoth⟩ := hS
      have c1 : wr.cell? ⟨gw, 1, none⟩ = some (.int .u64 0) := by rw [hoth 1 (by decide) (by decide)]; exact mr.out 1 (by decide)
      have c2 : wr.cell? ⟨gw, 2, none⟩ = some (.int .u64 0) := by rw [hoth 2 (by decide) (by decide)]; exact mr.out 2 (by decide)
      have c3 : wr.cell? ⟨gw, 3, none⟩ = some (.int .u64 0) := by rw [hoth 3 (by decide) (by decide)]; exact mr.out 3 (by decide)
      have hsb : wr.heap[w.heap.size]? = some (.cells #[.int .u64 0, .int .u64 0, .int .u64 0, .int .u64 0] 82 (0, 0)) := by
        rw [F3.block _ (by omega) (by omega)]; exact HS.out
      have s0 : wr.cell? ⟨w.heap.size, 0, none⟩ = some (.int .u64 0) := by rw [cell_of_block hsb]; rfl
      have s1 : wr.cell? ⟨w.heap.size, 1, none⟩ = some (.int .u64 0) := by rw [cell_of_block hsb]; rfl
      have s2 : wr.cell? ⟨w.heap.size, 2, none⟩ = some (.int .u64 0) := by rw [cell_of_block hsb]; rfl
      have s3 : wr.cell? ⟨w.heap.size, 3, none⟩ = some (.int .u64 0) := by rw [cell_of_block hsb]; rfl
      have z0 := unfrozen_of_block hsb 0; have z1 := unfrozen_of_block hsb 1; have z2 := unfrozen_of_block hsb 2; have z3 := unfrozen_of_block hsb 3
      have HB3 : Hid (Below w.heap.size w wr) := HB.out.trans (F3.below (n := w.heap.size) (fun k hk => by omega) HB.out.size)
      clear F3 hoth hsb mr ST HS HB m516
      go_wp2_with fail
      refine bodyPost_ret (v := .tuple #[.agg #[.int .u64 x, .int .u64 0, .int .u64 0, .int .u64 0], .bool true]) (by simp [results, Faig.results50, go_sem, s0, s1, s2, s3, World.cell?_setCell_other, World.cell?_setCell_same]) rfl ?_
      exact ⟨⟨x, rfl⟩, (((HB3.out.setCell (p := ⟨w.heap.size, 0, none⟩) (Nat.le_refl _) _).setCell (p := ⟨w.heap.size, 1, none⟩) (Nat.le_refl _) _).setCell (p := ⟨w.heap.size, 2, none⟩) (Nat.le_refl _) _).setCell (p := ⟨w.heap.size, 3, none⟩) (Nat.le_refl _) _⟩
set_option maxHeartbeats 1000000 in
theorem validate_str (w : World) (d : Nat) (a : Option Addr) (cap : Nat) (l : List Int) (hd : d ≤ 8) (hr : Row w a (1 + d) l) (hx : l.getD 0 0 = msv 0 1 d 0) :
    Calls Faig.prog 13 #[.slice a (1 + d) cap] w fun e w' => e = .returned (.bool true) ∧ Below w.heap.size w w' := by
  go_enter Faig.func13, Faig.ntmps13
  go_wp2_with fail
  refine (claimed_str w d a cap l hd hr hx).mono ?_
  rintro e w1 ⟨⟨x, rfl⟩, hb1⟩
  go_wp2_with fail
  go_ret
  exact ⟨rfl, hb1.alloc hb1.size _⟩
end Go.Proofs.Ygcfai

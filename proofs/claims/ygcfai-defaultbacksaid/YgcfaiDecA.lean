import Derived.Test.YgcfaiValD
import Derived.Test.YgcfaiDefG
namespace Go.Proofs.Ygcfai
open Go.RowKit Go.Joins Plain
set_option linter.unusedVariables false
set_option linter.unusedSimpArgs false
set_option maxHeartbeats 1000000 in
theorem root_any (a : Option Addr) (len cap : Nat) (l : List Int) (w : World) (hr : Row w a len l) (R : PV) (hR : Hid (resAt l 0 = R)) :
    Calls Faig.prog 34 #[.slice a len cap] w fun e w' => e = .returned (.tuple #[.agg #[.int .u8 R.k, .int .u16 R.t, .int .u8 R.d, .int .u8 R.p, .int .u8 R.c, .int .u16 R.n], .bool R.ok]) ∧ Below w.heap.size w w' := by
  go_enter Faig.func34, Faig.ntmps34
  go_wp2_with fail
  refine (resolve_any a len cap l 0 ⟨by omega, by omega⟩ _ (hr.alloc _)).mono ?_
  rw [hR.out]
  rintro e w1 ⟨rfl, hb1⟩
  have hblk : w1.heap[w.heap.size]? = some (.cells #[.int .u8 0, .int .u16 0, .int .u8 0, .int .u8 0, .int .u8 0, .int .u16 0] 88 (0, 0)) := by
    rw [hb1.block _ (by simp)]
    show (w.heap.push _)[w.heap.size]? = _
    rw [Array.getElem?_push, if_pos rfl]
  have B1 : Below w.heap.size w w1 := ((Below.refl _ w).alloc (Nat.le_refl _) _).trans (hb1.mono (by simp))
  have s0 : w1.cell? ⟨w.heap.size, 0, none⟩ = some (.int .u8 0) := cell_of_block hblk 0
  have s1 : w1.cell? ⟨w.heap.size, 1, none⟩ = some (.int .u16 0) := cell_of_block hblk 1
  have s2 : w1.cell? ⟨w.heap.size, 2, none⟩ = some (.int .u8 0) := cell_of_block hblk 2
  have s3 : w1.cell? ⟨w.heap.size, 3, none⟩ = some (.int .u8 0) := cell_of_block hblk 3
  have s4 : w1.cell? ⟨w.heap.size, 4, none⟩ = some (.int .u8 0) := cell_of_block hblk 4
  have s5 : w1.cell? ⟨w.heap.size, 5, none⟩ = some (.int .u16 0) := cell_of_block hblk 5
  have z0 := unfrozen_of_block hblk 0; have z1 := unfrozen_of_block hblk 1; have z2 := unfrozen_of_block hblk 2; have z3 := unfrozen_of_block hblk 3; have z4 := unfrozen_of_block hblk 4; have z5 := unfrozen_of_block hblk 5
  clear hb1 hblk
  unfold PV.ptr
  go_wp2_with fail
  refine bodyPost_ret (v := .tuple #[.agg #[.int .u8 R.k, .int .u16 R.t, .int .u8 R.d, .int .u8 R.p, .int .u8 R.c, .int .u16 R.n], .bool R.ok]) (by simp [results, Faig.results34, go_sem, s0, s1, s2, s3, s4, s5, World.cell?_setCell_other, World.cell?_setCell_same]) rfl ?_
  exact ⟨rfl, ((((((B1.setCell (p := ⟨w.heap.size, 0, none⟩) (Nat.le_refl _) _).setCell (p := ⟨w.heap.size, 1, none⟩) (Nat.le_refl _) _).setCell (p := ⟨w.heap.size, 2, none⟩) (Nat.le_refl _) _).setCell (p := ⟨w.heap.size, 3, none⟩) (Nat.le_refl _) _).setCell (p := ⟨w.heap.size, 4, none⟩) (Nat.le_refl _) _).setCell (p := ⟨w.heap.size, 5, none⟩) (Nat.le_refl _) _)⟩

theorem info41 : (Faig.prog.info? 41).map (fun i => (i.zero, i.size, i.bytes)) = some (some (.agg #[.int .u8 0, .int .u8 0, .slice none 0 0, .slice none 0 0]), 4, 56) := by kernel_rfl
/-- The decoder behind add: from[0] is the root, one node. -/
def AddP (w w' : World) (gd : Nat) (c : Array Value) (T d : Int) : Prop := ∃ gN capN, Fr w w' (fun k => k = gd) ∧
  w'.heap[gd]? = some (.cells (((((((c.setIfInBounds 2 (.int .u8 1)).setIfInBounds 3 (.int .u16 T)).setIfInBounds 4 (.int .u8 d)).setIfInBounds 5 (.int .u8 0)).setIfInBounds 6 (.int .u8 0)).setIfInBounds 7 (.int .u16 0)).setIfInBounds 0 (.slice (some ⟨gN, 0, none⟩) 1 capN)) 117 (0, 0)) ∧
  w.heap.size ≤ gN ∧ w'.ownsRow 0 41 4 (.slice (some ⟨gN, 0, none⟩) 1 capN) 1 [.int .u8 0, .int .u8 0, .slice none 0 0, .slice none 0 0]
set_option maxRecDepth 100000 in
set_option maxHeartbeats 2000000 in
theorem add_new (w : World) (gd : Nat) (c : Array Value) (T d : Int) (hD : w.heap[gd]? = some (.cells c 117 (0, 0))) (h0 : c[0]? = some (.slice none 0 0)) (h2 : c[2]? = some (.int .u8 0)) (h3 : c[3]? = some (.int .u16 0)) (h4 : c[4]? = some (.int .u8 0)) (h5 : c[5]? = some (.int .u8 0)) (h6 : c[6]? = some (.int .u8 0)) (h7 : c[7]? = some (.int .u16 0)) :
    Calls Faig.prog 51 #[.pointer (some ⟨gd, 0, none⟩), .agg #[.int .u8 1, .int .u16 T, .int .u8 d, .int .u8 0, .int .u8 0, .int .u16 0]] w fun e w' => e = .returned (.int .i16 0) ∧ AddP w w' gd c T d := by
  obtain ⟨i41, li, lz0, lz1, lz2⟩ := info_parts info41
  have hl : gd < w.heap.size := (Array.getElem?_eq_some_iff.1 hD).1
  have k0 : w.cell? ⟨gd, 0, none⟩ = some (.slice none 0 0) := (cell_of_block hD 0).trans h0
  have k2 : w.cell? ⟨gd, 2, none⟩ = some (.int .u8 0) := (cell_of_block hD 2).trans h2
  have k3 : w.cell? ⟨gd, 3, none⟩ = some (.int .u16 0) := (cell_of_block hD 3).trans h3
  have k4 : w.cell? ⟨gd, 4, none⟩ = some (.int .u8 0) := (cell_of_block hD 4).trans h4
  have k5 : w.cell? ⟨gd, 5, none⟩ = some (.int .u8 0) := (cell_of_block hD 5).trans h5
  have k6 : w.cell? ⟨gd, 6, none⟩ = some (.int .u8 0) := (cell_of_block hD 6).trans h6
  have k7 : w.cell? ⟨gd, 7, none⟩ = some (.int .u16 0) := (cell_of_block hD 7).trans h7
  have z0 := unfrozen_of_block hD 0; have z2 := unfrozen_of_block hD 2; have z3 := unfrozen_of_block hD 3; have z4 := unfrozen_of_block hD 4; have z5 := unfrozen_of_block hD 5; have z6 := unfrozen_of_block hD 6; have z7 := unfrozen_of_block hD 7
  have HD : Hid _ := hD
  have e6 : ((((((w.setCell ⟨gd, 2, none⟩ (.int .u8 1)).setCell ⟨gd, 3, none⟩ (.int .u16 T)).setCell ⟨gd, 4, none⟩ (.int .u8 d)).setCell ⟨gd, 5, none⟩ (.int .u8 0)).setCell ⟨gd, 6, none⟩ (.int .u8 0)).setCell ⟨gd, 7, none⟩ (.int .u16 0)).heap.size = w.heap.size := by simp only [size_setCell]
  have hb6 : ((((((((w.setCell ⟨gd, 2, none⟩ (.int .u8 1)).setCell ⟨gd, 3, none⟩ (.int .u16 T)).setCell ⟨gd, 4, none⟩ (.int .u8 d)).setCell ⟨gd, 5, none⟩ (.int .u8 0)).setCell ⟨gd, 6, none⟩ (.int .u8 0)).setCell ⟨gd, 7, none⟩ (.int .u16 0)).alloc (.cells #[.int .u8 1, .int .u16 T, .int .u8 d, .int .u8 0, .int .u8 0, .int .u16 0] 88 (0, 0))).alloc (.cells #[.int .u8 0, .int .u8 0, .slice none 0 0, .slice none 0 0] 41 (0, 0))).drew.heap[gd]? = some (.cells ((((((c.setIfInBounds 2 (.int .u8 1)).setIfInBounds 3 (.int .u16 T)).setIfInBounds 4 (.int .u8 d)).setIfInBounds 5 (.int .u8 0)).setIfInBounds 6 (.int .u8 0)).setIfInBounds 7 (.int .u16 0)) 117 (0, 0)) := by
    show ((((((((w.setCell ⟨gd, 2, none⟩ (.int .u8 1)).setCell ⟨gd, 3, none⟩ (.int .u16 T)).setCell ⟨gd, 4, none⟩ (.int .u8 d)).setCell ⟨gd, 5, none⟩ (.int .u8 0)).setCell ⟨gd, 6, none⟩ (.int .u8 0)).setCell ⟨gd, 7, none⟩ (.int .u16 0)).alloc (.cells #[.int .u8 1, .int .u16 T, .int .u8 d, .int .u8 0, .int .u8 0, .int .u16 0] 88 (0, 0))).alloc (.cells #[.int .u8 0, .int .u8 0, .slice none 0 0, .slice none 0 0] 41 (0, 0))).heap[gd]? = _
    rw [Below.heap_alloc _ _ _ (by rw [World.size_alloc, e6]; omega), Below.heap_alloc _ _ _ (by rw [e6]; exact hl)]
    exact block_setCell (block_setCell (block_setCell (block_setCell (block_setCell (block_setCell hD _) _) _) _) _) _
  have F6 : Fr w ((((((((w.setCell ⟨gd, 2, none⟩ (.int .u8 1)).setCell ⟨gd, 3, none⟩ (.int .u16 T)).setCell ⟨gd, 4, none⟩ (.int .u8 d)).setCell ⟨gd, 5, none⟩ (.int .u8 0)).setCell ⟨gd, 6, none⟩ (.int .u8 0)).setCell ⟨gd, 7, none⟩ (.int .u16 0)).alloc (.cells #[.int .u8 1, .int .u16 T, .int .u8 d, .int .u8 0, .int .u8 0, .int .u16 0] 88 (0, 0))).alloc (.cells #[.int .u8 0, .int .u8 0, .slice none 0 0, .slice none 0 0] 41 (0, 0))).drew (fun k => k = gd) :=
    ((((((fr_set w gd 2 _).trans (fr_set _ gd 3 _) (fun i hi => Or.inl hi)).trans (fr_set _ gd 4 _) (fun i hi => Or.inl hi)).trans (fr_set _ gd 5 _) (fun i hi => Or.inl hi)).trans (fr_set _ gd 6 _) (fun i hi => Or.inl hi)).trans (fr_set _ gd 7 _) (fun i hi => Or.inl hi)).trans (Fr.of_below (B := fun _ => False) (((Below.refl _ _).alloc (Nat.le_refl _) _).alloc (by simp) _).drew) (fun i hi => hi.elim)
  have zW : ((((((((w.setCell ⟨gd, 2, none⟩ (.int .u8 1)).setCell ⟨gd, 3, none⟩ (.int .u16 T)).setCell ⟨gd, 4, none⟩ (.int .u8 d)).setCell ⟨gd, 5, none⟩ (.int .u8 0)).setCell ⟨gd, 6, none⟩ (.int .u8 0)).setCell ⟨gd, 7, none⟩ (.int .u16 0)).alloc (.cells #[.int .u8 1, .int .u16 T, .int .u8 d, .int .u8 0, .int .u8 0, .int .u16 0] 88 (0, 0))).alloc (.cells #[.int .u8 0, .int .u8 0, .slice none 0 0, .slice none 0 0] 41 (0, 0))).drew.heap.size = w.heap.size + 2 := by
    show ((((((((w.setCell ⟨gd, 2, none⟩ (.int .u8 1)).setCell ⟨gd, 3, none⟩ (.int .u16 T)).setCell ⟨gd, 4, none⟩ (.int .u8 d)).setCell ⟨gd, 5, none⟩ (.int .u8 0)).setCell ⟨gd, 6, none⟩ (.int .u8 0)).setCell ⟨gd, 7, none⟩ (.int .u16 0)).alloc (.cells #[.int .u8 1, .int .u16 T, .int .u8 d, .int .u8 0, .int .u8 0, .int .u16 0] 88 (0, 0))).alloc (.cells #[.int .u8 0, .int .u8 0, .slice none 0 0, .slice none 0 0] 41 (0, 0))).heap.size = _
    rw [World.size_alloc, World.size_alloc, e6]
  have u1 : Hid (((((((((w.setCell ⟨gd, 2, none⟩ (.int .u8 1)).setCell ⟨gd, 3, none⟩ (.int .u16 T)).setCell ⟨gd, 4, none⟩ (.int .u8 d)).setCell ⟨gd, 5, none⟩ (.int .u8 0)).setCell ⟨gd, 6, none⟩ (.int .u8 0)).setCell ⟨gd, 7, none⟩ (.int .u16 0)).alloc (.cells #[.int .u8 1, .int .u16 T, .int .u8 d, .int .u8 0, .int .u8 0, .int .u16 0] 88 (0, 0))).alloc (.cells #[.int .u8 0, .int .u8 0, .slice none 0 0, .slice none 0 0] 41 (0, 0))).drew.ownsRow 0 41 4 (.slice none 0 0) 0 []) := ⟨by simp, Or.inl ⟨rfl, rfl⟩⟩
  have u2 : Hid (∀ j u, ([.int .u8 0, .int .u8 0, .slice none 0 0, .slice none 0 0] : List Value)[j]? = some u → ((((((((w.setCell ⟨gd, 2, none⟩ (.int .u8 1)).setCell ⟨gd, 3, none⟩ (.int .u16 T)).setCell ⟨gd, 4, none⟩ (.int .u8 d)).setCell ⟨gd, 5, none⟩ (.int .u8 0)).setCell ⟨gd, 6, none⟩ (.int .u8 0)).setCell ⟨gd, 7, none⟩ (.int .u16 0)).alloc (.cells #[.int .u8 1, .int .u16 T, .int .u8 d, .int .u8 0, .int .u8 0, .int .u16 0] 88 (0, 0))).alloc (.cells #[.int .u8 0, .int .u8 0, .slice none 0 0, .slice none 0 0] 41 (0, 0))).drew.cell? ((⟨w.heap.size + 1, 0, none⟩ : Addr).add j) = some u) := fun j u hu => by
    have := temp_cells2 ((((((w.setCell ⟨gd, 2, none⟩ (.int .u8 1)).setCell ⟨gd, 3, none⟩ (.int .u16 T)).setCell ⟨gd, 4, none⟩ (.int .u8 d)).setCell ⟨gd, 5, none⟩ (.int .u8 0)).setCell ⟨gd, 6, none⟩ (.int .u8 0)).setCell ⟨gd, 7, none⟩ (.int .u16 0)) #[.int .u8 1, .int .u16 T, .int .u8 d, .int .u8 0, .int .u8 0, .int .u16 0] #[.int .u8 0, .int .u8 0, .slice none 0 0, .slice none 0 0] 88 41 j u hu
    rw [e6] at this; exact this
  have u3 : Hid (∀ u ∈ ([.int .u8 0, .int .u8 0, .slice none 0 0, .slice none 0 0] : List Value), u.oneCell' = true) := by
    intro u hu; simp at hu; rcases hu with rfl | rfl <;> rfl
  have HD6 : Hid _ := hb6
  have HF6 : Hid _ := F6
  have b1 : 0 + 1 ≤ maxLen := by decide
  have b2 : (0 + 1) * 56 ≤ 140737488355328 := by omega
  have N3 : Hid (∀ w3, ((((((((w.setCell ⟨gd, 2, none⟩ (.int .u8 1)).setCell ⟨gd, 3, none⟩ (.int .u16 T)).setCell ⟨gd, 4, none⟩ (.int .u8 d)).setCell ⟨gd, 5, none⟩ (.int .u8 0)).setCell ⟨gd, 6, none⟩ (.int .u8 0)).setCell ⟨gd, 7, none⟩ (.int .u16 0)).alloc (.cells #[.int .u8 1, .int .u16 T, .int .u8 d, .int .u8 0, .int .u8 0, .int .u16 0] 88 (0, 0))).alloc (.cells #[.int .u8 0, .int .u8 0, .slice none 0 0, .slice none 0 0] 41 (0, 0))).drew.grownBy w3 none → w3.heap[gd]? = ((((((((w.setCell ⟨gd, 2, none⟩ (.int .u8 1)).setCell ⟨gd, 3, none⟩ (.int .u16 T)).setCell ⟨gd, 4, none⟩ (.int .u8 d)).setCell ⟨gd, 5, none⟩ (.int .u8 0)).setCell ⟨gd, 6, none⟩ (.int .u8 0)).setCell ⟨gd, 7, none⟩ (.int .u16 0)).alloc (.cells #[.int .u8 1, .int .u16 T, .int .u8 d, .int .u8 0, .int .u8 0, .int .u16 0] 88 (0, 0))).alloc (.cells #[.int .u8 0, .int .u8 0, .slice none 0 0, .slice none 0 0] 41 (0, 0))).drew.heap[gd]?) := fun w3 r2 => r2.block gd (by rw [zW]; omega) (by simp)
  clear hD h0 h2 h3 h4 h5 h6 h7 hb6 F6 e6
  go_enter Faig.func51, Faig.ntmps51
  go_wp2_with fail
  go_region
  go_wp2_with (at_builtin; refine append_step _ rfl (.tmp 30) (.tmp 32) 31 rfl 41 i41 _ 4 56 Faig.underlying31 li lz0 lz1 lz2 rfl (by decide) (.slice none 0 0) 0 [] (by simp [Act.eval]) u1.out ⟨w.heap.size + 1, 0, none⟩ 1 1 (by decide) [.int .u8 0, .int .u8 0, .slice none 0 0, .slice none 0 0] (by simp [Act.eval]) rfl u2.out u3.out b1 b2 ?_)
  intro g' cap' w3 r1 r2 r3
  have hb3 := (N3.out w3 r2).trans HD6.out
  have q1 : w3.cell? ⟨gd, 0, none⟩ = some (.slice none 0 0) := by
    rw [cell_of_block hb3]
    simp only [Array.getElem?_setIfInBounds_ne (show (7 : Nat) ≠ 0 by decide), Array.getElem?_setIfInBounds_ne (show (6 : Nat) ≠ 0 by decide), Array.getElem?_setIfInBounds_ne (show (5 : Nat) ≠ 0 by decide), Array.getElem?_setIfInBounds_ne (show (4 : Nat) ≠ 0 by decide), Array.getElem?_setIfInBounds_ne (show (3 : Nat) ≠ 0 by decide), Array.getElem?_setIfInBounds_ne (show (2 : Nat) ≠ 0 by decide)]
    rw [← cell_of_block HD.out]; exact k0
  have q2 : w3.frozen? ⟨gd, 0, none⟩ = false := unfrozen_of_block hb3 0
  have PA : Hid (AddP w (w3.setCell ⟨gd, 0, none⟩ (.slice (some ⟨g', 0, none⟩) 1 cap')) gd c T d) := by
    have hg' : w.heap.size ≤ g' := by
      rcases r3 with r3 | r3
      · cases r3
      · have r3' : w.heap.size + 2 ≤ g' := by simpa using r3
        omega
    refine ⟨g', cap', ?_, block_setCell hb3 _, hg', ownsRow_same r1 (fun b hb => Below.heap_setCell _ _ _ _ (by cases hb; show g' ≠ gd; omega))⟩
    have F3 : Fr w w3 (fun k => k = gd) := HF6.out.trans (C := fun _ => False) ⟨r2.os, r2.tape, r2.output, r2.size, fun k hk _ => r2.block k hk (fun e => by cases e)⟩ (fun i hi => hi.elim)
    exact F3.trans (fr_set w3 gd 0 _) (fun i hi => Or.inl hi)
  clear r1 r2 r3 hb3 N3 u1 u2 u3 HD6 HF6 HD
  go_wp2_with fail
  go_ret
  exact ⟨rfl, PA.out⟩
end Go.Proofs.Ygcfai

/-
  DefaultBack: codec.Decode.
-/
import Derived.Test.YgcfaiDecA
import Derived.Test.YgcfaiNode
import Derived.Test.YgcfaiDefI
namespace Go.Proofs.Ygcfai
open Go.RowKit Go.Joins Plain
set_option linter.unusedVariables false
set_option linter.unusedSimpArgs false
/-- A tree behind pointer gt: one node, a struct of d words. -/
structure Tr (w : World) (gt gN capN : Nat) (o : Option Addr) (c d : Nat) (xs : List Value) : Prop where
  t0 : w.cell? ⟨gt, 0, none⟩ = some (.slice (some ⟨gN, 0, none⟩) 1 capN)
  t1 : w.cell? ⟨gt, 1, none⟩ = some (.int .i16 0)
  n0 : w.cell? ⟨gN, 0, none⟩ = some (.int .u8 1)
  n1 : w.cell? ⟨gN, 1, none⟩ = some (.int .u8 0)
  n2 : w.cell? ⟨gN, 2, none⟩ = some (.slice o d c)
  n3 : w.cell? ⟨gN, 3, none⟩ = some (.slice none 0 0)
  own : w.ownsRow 0 49 1 (.slice o d c) d xs
  lt : gt < w.heap.size
  ln : gN < w.heap.size
theorem Tr.below {w w' : World} {gt gN capN : Nat} {o : Option Addr} {c d : Nat} {xs : List Value} (h : Tr w gt gN capN o c d xs) (hb : Below w.heap.size w w') : Tr w' gt gN capN o c d xs := by
  have k1 : ∀ i v, w.cell? ⟨gt, i, none⟩ = some v → w'.cell? ⟨gt, i, none⟩ = some v := fun i v hv => (hb.cell (p := ⟨gt, i, none⟩) h.lt).trans hv
  have k2 : ∀ i v, w.cell? ⟨gN, i, none⟩ = some v → w'.cell? ⟨gN, i, none⟩ = some v := fun i v hv => (hb.cell (p := ⟨gN, i, none⟩) h.ln).trans hv
  exact ⟨k1 _ _ h.t0, k1 _ _ h.t1, k2 _ _ h.n0, k2 _ _ h.n1, k2 _ _ h.n2, k2 _ _ h.n3, ownsRow_same h.own (fun b hb' => hb.block b (ownsRow_lt h.own hb')), Nat.lt_of_lt_of_le h.lt hb.size, Nat.lt_of_lt_of_le h.ln hb.size⟩
def DecF (w W : World) (gt d : Nat) (xs : List Value) : Prop := Below w.heap.size w W ∧ ∃ gN capN o c, Tr W gt gN capN o c d xs
/-- The decoder at its beginning. -/
noncomputable def DC0 : Array Value := (Faig.zeroCells117.setIfInBounds 0 (.slice none 0 0)).setIfInBounds 1 (.int .i16 (-1))
theorem z117_size : Faig.zeroCells117.size = 3074 := by kernel_rfl
theorem z117_one : Faig.zeroCells117.all (·.oneCell') = true := by
  rw [← Array.all_toList]
  kernel_rfl
theorem i117 : (Faig.prog.info? 117).map (·.size) = some 3074 := by kernel_rfl
theorem DC0_size : DC0.size = 3074 := by unfold DC0; simp [z117_size]
theorem DC0_one : DC0.all (·.oneCell') = true := all_set (all_set z117_one _ _ rfl) _ _ rfl
theorem DC0_0 : DC0[0]? = some (.slice none 0 0) := by unfold DC0; rw [Array.getElem?_setIfInBounds_ne (by decide), Array.getElem?_setIfInBounds_self_of_lt (by rw [z117_size]; decide)]
theorem DC0_1 : DC0[1]? = some (.int .i16 (-1)) := by unfold DC0; rw [Array.getElem?_setIfInBounds_self_of_lt (by simp [z117_size])]
theorem DC0_2 : DC0[2]? = some (.int .u8 0) := by unfold DC0; rw [Array.getElem?_setIfInBounds_ne (by decide), Array.getElem?_setIfInBounds_ne (by decide)]; kernel_rfl
theorem DC0_3 : DC0[3]? = some (.int .u16 0) := by unfold DC0; rw [Array.getElem?_setIfInBounds_ne (by decide), Array.getElem?_setIfInBounds_ne (by decide)]; kernel_rfl
theorem DC0_4 : DC0[4]? = some (.int .u8 0) := by unfold DC0; rw [Array.getElem?_setIfInBounds_ne (by decide), Array.getElem?_setIfInBounds_ne (by decide)]; kernel_rfl
theorem DC0_5 : DC0[5]? = some (.int .u8 0) := by unfold DC0; rw [Array.getElem?_setIfInBounds_ne (by decide), Array.getElem?_setIfInBounds_ne (by decide)]; kernel_rfl
theorem DC0_6 : DC0[6]? = some (.int .u8 0) := by unfold DC0; rw [Array.getElem?_setIfInBounds_ne (by decide), Array.getElem?_setIfInBounds_ne (by decide)]; kernel_rfl
theorem DC0_7 : DC0[7]? = some (.int .u16 0) := by unfold DC0; rw [Array.getElem?_setIfInBounds_ne (by decide), Array.getElem?_setIfInBounds_ne (by decide)]; kernel_rfl

set_option maxRecDepth 100000 in
set_option maxHeartbeats 2000000 in
theorem decode_str (w : World) (d : Nat) (a : Option Addr) (cap : Nat) (l : List Int) (hd : d ≤ 8) (hr : Row w a (1 + d) l) (hx : l.getD 0 0 = msv 0 1 d 0) (xs : List Value) (hxs : Hid (xs = (l.drop 1).map (Value.int .u64))) :
    Calls Faig.prog 14 #[.slice a (1 + d) cap] w fun e w' => ∃ gt, e = .returned (.tuple #[.pointer (some ⟨gt, 0, none⟩), .bool true]) ∧ DecF w w' gt d xs := by
  have hres : Hid (resAt l 0 = ⟨1, rootT d, d, 0, 0, 0, true⟩) := res_msv d hd l hr.1 hx
  go_enter Faig.func14, Faig.ntmps14
  go_wp2_with fail
  refine (validate_str w d a cap l hd hr hx).mono ?_
  rintro e w1 ⟨rfl, hb1⟩
  have hb2 : (w1.alloc (.cells Faig.zeroCells117 117 (0, 0))).heap[w1.heap.size]? = some (.cells Faig.zeroCells117 117 (0, 0)) := by
    show (w1.heap.push _)[w1.heap.size]? = _
    rw [Array.getElem?_push, if_pos rfl]
  go_wp2_with (first | (with_reducible refine store_row (t := 117) w1.heap.size Faig.zeroCells117 DC0 117 (by simp [Act.eval, Act.put]) (by simp [Act.eval, Act.put, DC0]) hb2 (by rw [DC0_size]; exact i117) (by rw [DC0_size]; exact z117_size) DC0_one ?_) | fail)
  have hD2 := setRow_block (c' := DC0) hb2
  have B2 : Below w.heap.size w ((w1.alloc (.cells Faig.zeroCells117 117 (0, 0))).setRow w1.heap.size DC0) := setRow_below (c' := DC0) (hb1.alloc hb1.size _) hb1.size
  have hgd : w.heap.size ≤ w1.heap.size := hb1.size
  generalize (w1.alloc (.cells Faig.zeroCells117 117 (0, 0))).setRow w1.heap.size DC0 = w2 at hD2 B2 ⊢
  generalize w1.heap.size = gd at *
  clear hb1 hb2
  have hR2 := hr.below B2 (Nat.le_refl _)
  refine (root_any a (1 + d) cap l w2 hR2 _ hres).mono ?_
  rintro e w3 ⟨rfl, hb3⟩
  have hD3 : w3.heap[gd]? = some (.cells DC0 117 (0, 0)) := (hb3.block gd (Array.getElem?_eq_some_iff.1 hD2).1).trans hD2
  have B3 : Below w.heap.size w w3 := B2.trans (hb3.mono B2.size)
  have hl3 : gd < w3.heap.size := (Array.getElem?_eq_some_iff.1 hD3).1
  have hT0 : 0 ≤ rootT d := by unfold rootT; split <;> omega
  have hT1 : rootT d ≤ 1 := by unfold rootT; split <;> omega
  have hT2 : Hid (d = 0 ∨ rootT d = 1) := by unfold Hid rootT; split <;> omega
  clear hb3 hD2 hR2 B2 hres
  generalize rootT d = T at *
  go_wp2_with fail
  have hD4 : (w3.alloc (.cells #[.int .u8 1, .int .u16 T, .int .u8 d, .int .u8 0, .int .u8 0, .int .u16 0] 88 (0, 0))).heap[gd]? = some (.cells DC0 117 (0, 0)) := (Below.heap_alloc _ _ _ hl3).trans hD3
  have B4 : Below w.heap.size w (w3.alloc (.cells #[.int .u8 1, .int .u16 T, .int .u8 d, .int .u8 0, .int .u8 0, .int .u16 0] 88 (0, 0))) := B3.alloc B3.size _
  generalize (w3.alloc (.cells #[.int .u8 1, .int .u16 T, .int .u8 d, .int .u8 0, .int .u8 0, .int .u16 0] 88 (0, 0))) = w4 at hD4 B4 ⊢
  refine (add_new w4 gd DC0 T d hD4 DC0_0 DC0_2 DC0_3 DC0_4 DC0_5 DC0_6 DC0_7).mono ?_
  rintro e w5 ⟨rfl, gN, capN, F5, hD5, hgN, hO5⟩
  have hl4 : gd < w4.heap.size := (Array.getElem?_eq_some_iff.1 hD4).1
  clear hD3 B3 hl3 hD4
  have y1 : w5.cell? ⟨gd, 1, none⟩ = some (.int .i16 (-1)) := by
    rw [cell_of_block hD5]
    simp only [Array.getElem?_setIfInBounds_ne (show (7 : Nat) ≠ 1 by decide), Array.getElem?_setIfInBounds_ne (show (6 : Nat) ≠ 1 by decide), Array.getElem?_setIfInBounds_ne (show (5 : Nat) ≠ 1 by decide), Array.getElem?_setIfInBounds_ne (show (4 : Nat) ≠ 1 by decide), Array.getElem?_setIfInBounds_ne (show (3 : Nat) ≠ 1 by decide), Array.getElem?_setIfInBounds_ne (show (2 : Nat) ≠ 1 by decide), Array.getElem?_setIfInBounds_ne (show (0 : Nat) ≠ 1 by decide)]
    exact DC0_1
  have y1f := unfrozen_of_block hD5 1
  have hD6 := block_setCell (i := 1) hD5 (.int .i16 0)
  have B6 : Below w.heap.size w (w5.setCell ⟨gd, 1, none⟩ (.int .i16 0)) := (B4.trans (F5.below (n := w.heap.size) (fun k hk => by omega) B4.size)).setCell (p := ⟨gd, 1, none⟩) hgd _
  have hne : gN ≠ gd := by omega
  have hO6 : (w5.setCell ⟨gd, 1, none⟩ (.int .i16 0)).ownsRow 0 41 4 (.slice (some ⟨gN, 0, none⟩) 1 capN) 1 [.int .u8 0, .int .u8 0, .slice none 0 0, .slice none 0 0] := ownsRow_same hO5 (fun b hb => Below.heap_setCell _ _ _ _ (by cases hb; exact hne))
  go_wp2_with fail
  generalize w5.setCell ⟨gd, 1, none⟩ (.int .i16 0) = w6 at hD6 B6 hO6 ⊢
  clear y1 y1f hO5 hD5 F5 B4
  have sz : ∀ (c : Array Value) (i : Nat) (v : Value), (c.setIfInBounds i v).size = c.size := fun c i v => by simp
  have y0 : w6.cell? ⟨gd, 0, none⟩ = some (.slice (some ⟨gN, 0, none⟩) 1 capN) := by rw [cell_of_block hD6]; rw [Array.getElem?_setIfInBounds_ne (show (1 : Nat) ≠ 0 by decide)]; exact Array.getElem?_setIfInBounds_self_of_lt (by simp only [sz, DC0_size]; decide)
  have y1 : w6.cell? ⟨gd, 1, none⟩ = some (.int .i16 0) := by rw [cell_of_block hD6]; exact Array.getElem?_setIfInBounds_self_of_lt (by simp only [sz, DC0_size]; decide)
  have y2 : w6.cell? ⟨gd, 2, none⟩ = some (.int .u8 1) := by rw [cell_of_block hD6]; rw [Array.getElem?_setIfInBounds_ne (show (1 : Nat) ≠ 2 by decide), Array.getElem?_setIfInBounds_ne (show (0 : Nat) ≠ 2 by decide), Array.getElem?_setIfInBounds_ne (show (7 : Nat) ≠ 2 by decide), Array.getElem?_setIfInBounds_ne (show (6 : Nat) ≠ 2 by decide), Array.getElem?_setIfInBounds_ne (show (5 : Nat) ≠ 2 by decide), Array.getElem?_setIfInBounds_ne (show (4 : Nat) ≠ 2 by decide), Array.getElem?_setIfInBounds_ne (show (3 : Nat) ≠ 2 by decide)]; exact Array.getElem?_setIfInBounds_self_of_lt (by simp only [sz, DC0_size]; decide)
  have y3 : w6.cell? ⟨gd, 3, none⟩ = some (.int .u16 T) := by rw [cell_of_block hD6]; rw [Array.getElem?_setIfInBounds_ne (show (1 : Nat) ≠ 3 by decide), Array.getElem?_setIfInBounds_ne (show (0 : Nat) ≠ 3 by decide), Array.getElem?_setIfInBounds_ne (show (7 : Nat) ≠ 3 by decide), Array.getElem?_setIfInBounds_ne (show (6 : Nat) ≠ 3 by decide), Array.getElem?_setIfInBounds_ne (show (5 : Nat) ≠ 3 by decide), Array.getElem?_setIfInBounds_ne (show (4 : Nat) ≠ 3 by decide)]; exact Array.getElem?_setIfInBounds_self_of_lt (by simp only [sz, DC0_size]; decide)
  have y4 : w6.cell? ⟨gd, 4, none⟩ = some (.int .u8 d) := by rw [cell_of_block hD6]; rw [Array.getElem?_setIfInBounds_ne (show (1 : Nat) ≠ 4 by decide), Array.getElem?_setIfInBounds_ne (show (0 : Nat) ≠ 4 by decide), Array.getElem?_setIfInBounds_ne (show (7 : Nat) ≠ 4 by decide), Array.getElem?_setIfInBounds_ne (show (6 : Nat) ≠ 4 by decide), Array.getElem?_setIfInBounds_ne (show (5 : Nat) ≠ 4 by decide)]; exact Array.getElem?_setIfInBounds_self_of_lt (by simp only [sz, DC0_size]; decide)
  have y5 : w6.cell? ⟨gd, 5, none⟩ = some (.int .u8 0) := by rw [cell_of_block hD6]; rw [Array.getElem?_setIfInBounds_ne (show (1 : Nat) ≠ 5 by decide), Array.getElem?_setIfInBounds_ne (show (0 : Nat) ≠ 5 by decide), Array.getElem?_setIfInBounds_ne (show (7 : Nat) ≠ 5 by decide), Array.getElem?_setIfInBounds_ne (show (6 : Nat) ≠ 5 by decide)]; exact Array.getElem?_setIfInBounds_self_of_lt (by simp only [sz, DC0_size]; decide)
  have y6 : w6.cell? ⟨gd, 6, none⟩ = some (.int .u8 0) := by rw [cell_of_block hD6]; rw [Array.getElem?_setIfInBounds_ne (show (1 : Nat) ≠ 6 by decide), Array.getElem?_setIfInBounds_ne (show (0 : Nat) ≠ 6 by decide), Array.getElem?_setIfInBounds_ne (show (7 : Nat) ≠ 6 by decide)]; exact Array.getElem?_setIfInBounds_self_of_lt (by simp only [sz, DC0_size]; decide)
  have y7 : w6.cell? ⟨gd, 7, none⟩ = some (.int .u16 0) := by rw [cell_of_block hD6]; rw [Array.getElem?_setIfInBounds_ne (show (1 : Nat) ≠ 7 by decide), Array.getElem?_setIfInBounds_ne (show (0 : Nat) ≠ 7 by decide)]; exact Array.getElem?_setIfInBounds_self_of_lt (by simp only [sz, DC0_size]; decide)
  have hl6 : gd < w6.heap.size := (Array.getElem?_eq_some_iff.1 hD6).1
  obtain ⟨gx, cx, ex, ln6, mc, mf⟩ := row_cells hO6 Nat.one_pos
  have hx' : gN = gx := by injection ex with h1; injection h1 with h1; injection h1 with h1
  subst hx'
  have m0 := mc 0 _ rfl; have m1 := mc 1 _ rfl; have m2 := mc 2 _ rfl; have m3 := mc 3 _ rfl
  have f0 := mf 0; have f1 := mf 1; have f2 := mf 2; have f3 := mf 3
  have hR6 : Hid (Row w6.drew a (1 + d) l) := (hr.below B6 (Nat.le_refl _)).drew
  have KP : Hid (∀ w7, Below w6.heap.size w6 w7 → w7.cell? ⟨gd, 0, none⟩ = some (.slice (some ⟨gN, 0, none⟩) 1 capN) ∧ w7.cell? ⟨gN, 0, none⟩ = some (.int .u8 0) ∧ w7.cell? ⟨gN, 1, none⟩ = some (.int .u8 0) ∧ w7.cell? ⟨gN, 2, none⟩ = some (.slice none 0 0) ∧ w7.cell? ⟨gN, 3, none⟩ = some (.slice none 0 0) ∧ ∀ i, w7.frozen? ⟨gN, i, none⟩ = false) := fun w7 hk =>
    ⟨(hk.cell (p := ⟨gd, 0, none⟩) hl6).trans y0, (hk.cell (p := ⟨gN, 0, none⟩) ln6).trans m0, (hk.cell (p := ⟨gN, 1, none⟩) ln6).trans m1, (hk.cell (p := ⟨gN, 2, none⟩) ln6).trans m2, (hk.cell (p := ⟨gN, 3, none⟩) ln6).trans m3, fun i => (hk.frozen (p := ⟨gN, i, none⟩) ln6).trans (mf i)⟩
  have Y1 : Hid (w6.cell? ⟨gd, 1, none⟩ = some (.int .i16 0)) := y1
  have HB6 : Hid (Below w.heap.size w w6) := B6
  have hTU : Hid (U16 T) := ⟨hT0, by omega⟩
  have FIN : Hid (∀ w7 o c, Below w6.heap.size w6 w7 → w7.ownsRow 0 49 1 (.slice o d c) d ((l.drop 1).map (Value.int .u64)) → (∀ b, (Value.slice o d c).ownBlock = some b → w6.heap.size ≤ b) → DecF w ((((w7.setCell ⟨gN, 0, none⟩ (.int .u8 1)).setCell ⟨gN, 1, none⟩ (.int .u8 0)).setCell ⟨gN, 2, none⟩ (.slice o d c)).setCell ⟨gN, 3, none⟩ (.slice none 0 0)) gd d xs) := by
    intro w7 o c hk ho hv
    obtain ⟨c0, c1, c2, c3, c4, c5⟩ := KP.out w7 hk
    have ln7 : gN < w7.heap.size := Nat.lt_of_lt_of_le ln6 hk.size
    have hgdN : gd ≠ gN := fun e => hne e.symm
    rw [hxs.out]
    refine ⟨ks4 (HB6.out.trans (hk.mono HB6.out.size)) (by omega), gN, capN, o, c, ?_⟩
    refine ⟨?_, ?_, ?_, ?_, ?_, ?_, ownsRow_same ho (fun b hb => ?_), by simp only [size_setCell]; exact Nat.lt_of_lt_of_le hl6 hk.size, by simp only [size_setCell]; exact ln7⟩
    · rw [World.cell?_setCell_other _ _ _ _ (by simp [hgdN]), World.cell?_setCell_other _ _ _ _ (by simp [hgdN]), World.cell?_setCell_other _ _ _ _ (by simp [hgdN]), World.cell?_setCell_other _ _ _ _ (by simp [hgdN])]; exact c0
    · rw [World.cell?_setCell_other _ _ _ _ (by simp [hgdN]), World.cell?_setCell_other _ _ _ _ (by simp [hgdN]), World.cell?_setCell_other _ _ _ _ (by simp [hgdN]), World.cell?_setCell_other _ _ _ _ (by simp [hgdN])]; exact (hk.cell (p := ⟨gd, 1, none⟩) hl6).trans Y1.out
    · rw [World.cell?_setCell_other _ _ _ _ (by simp), World.cell?_setCell_other _ _ _ _ (by simp), World.cell?_setCell_other _ _ _ _ (by simp)]; exact World.cell?_setCell_same _ _ _ c1
    · rw [World.cell?_setCell_other _ _ _ _ (by simp), World.cell?_setCell_other _ _ _ _ (by simp)]; exact World.cell?_setCell_same _ _ _ (by rw [World.cell?_setCell_other _ _ _ _ (by simp)]; exact c2)
    · rw [World.cell?_setCell_other _ _ _ _ (by simp)]; exact World.cell?_setCell_same _ _ _ (by rw [World.cell?_setCell_other _ _ _ _ (by simp), World.cell?_setCell_other _ _ _ _ (by simp)]; exact c3)
    · exact World.cell?_setCell_same _ _ _ (by rw [World.cell?_setCell_other _ _ _ _ (by simp), World.cell?_setCell_other _ _ _ _ (by simp), World.cell?_setCell_other _ _ _ _ (by simp)]; exact c4)
    · have hbn : b ≠ gN := by have := hv b hb; omega
      rw [Below.heap_setCell _ _ _ _ hbn, Below.heap_setCell _ _ _ _ hbn, Below.heap_setCell _ _ _ _ hbn, Below.heap_setCell _ _ _ _ hbn]
  clear hD6 B6 hO6 mc mf hr hxs sz ex y1 hgN
  go_loopw [7] (fun s W => (s = .int .i64 0 ∧ W = w6) ∨ (s = .int .i64 1 ∧ DecF w W gd d xs)) (fun s _ => 1 - (intOf s).toNat)
  case atStart => exact Or.inl ⟨rfl, rfl⟩
  case round =>
    rcases hrel with ⟨rfl, rfl⟩ | ⟨rfl, hF⟩
    · go_wp2_with fail
      go_region_law (first
        | (refine call_drawn rfl 52 #[.tmp 4, .tmp 34, .tmp 38] #[117, 22, 88] rfl Faig.f52 _ Faig.func52 rfl rfl #[.pointer (some ⟨gd, 0, none⟩), .slice a (1 + d) cap, .agg #[.int .u8 1, .int .u16 T, .int .u8 d, .int .u8 0, .int .u8 0, .int .u16 0]] (by simp [Act.eval, Act.put]) _ (node_str _ gd d a cap l T hd hR6.out hTU.out hT2.out) ?_
           rintro e w7 ⟨v, rfl, hb7, ho7, hv7⟩
           refine ⟨_, rfl, ?_⟩
           obtain ⟨o, c, rfl⟩ := own_shape ho7
           have hk7 := bdrew hb7
           have a0 := (KP.out w7 hk7).1
           have a1 := (KP.out w7 hk7).2.1
           have a2 := (KP.out w7 hk7).2.2.1
           have a3 := (KP.out w7 hk7).2.2.2.1
           have a4 := (KP.out w7 hk7).2.2.2.2.1
           have g0 := (KP.out w7 hk7).2.2.2.2.2 0
           have g1 := (KP.out w7 hk7).2.2.2.2.2 1
           have g2 := (KP.out w7 hk7).2.2.2.2.2 2
           have g3 := (KP.out w7 hk7).2.2.2.2.2 3)
        | fail)
      all_goals
        have HN : Hid (DecF w ((((w7.setCell ⟨gN, 0, none⟩ (.int .u8 1)).setCell ⟨gN, 1, none⟩ (.int .u8 0)).setCell ⟨gN, 2, none⟩ (.slice o d c)).setCell ⟨gN, 3, none⟩ (.slice none 0 0)) gd d xs) := FIN.out w7 o c hk7 ho7 hv7
        clear ho7 hv7 hb7 hk7 a0 a1 a2 a3 a4 g0 g1 g2 g3 KP FIN
        go_wp2_with fail
        go_roundw
        case rel => exact Or.inr ⟨rfl, HN.out⟩
        case measure => simp [intOf]
    · obtain ⟨hB, gN', capN', o, c, hTr⟩ := hF
      have t0 := hTr.t0
      have HF : Hid (DecF w wr gd d xs) := ⟨hB, gN', capN', o, c, hTr⟩
      clear hB hTr
      go_wp2_with fail
      refine bodyPost_ret (v := .tuple #[.pointer (some ⟨gd, 0, none⟩), .bool true]) (by simp [results, Faig.results14, go_sem]) rfl ?_
      exact ⟨_, rfl, HF.out⟩
end Go.Proofs.Ygcfai

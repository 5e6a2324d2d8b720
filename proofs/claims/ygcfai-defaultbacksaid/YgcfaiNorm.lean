/-
  DefaultBack: tree.Norm.
-/
import Derived.Test.YgcfaiCanC
namespace Go.Proofs.Ygcfai
open Go.RowKit Go.Joins Plain
set_option linter.unusedVariables false
set_option linter.unusedSimpArgs false
def NormP (w w' : World) (e : Ending) (n : Nat) (ws : List Int) : Prop := ∃ gO gN o c, e = .returned (.pointer (some ⟨gO, 0, none⟩)) ∧ Below w.heap.size w w' ∧ Td w' gO gN 1 o c n ws ∧ w.heap.size ≤ gO ∧ w.heap.size ≤ gN ∧ ∀ b off, o = some ⟨b, off, none⟩ → n = 0 ∨ w.heap.size ≤ b
/-- Norm's variables: out (go), its nodes (gn), from (gf), data (gt2), ptrs (gp). -/
structure NW (w W : World) (gn go gf gq gp : Nat) (x y : Int) : Prop where
  below : Below w.heap.size w W
  a0 : W.cell? ⟨gn, 0, none⟩ = some (.int .u8 0)
  a1 : W.cell? ⟨gn, 1, none⟩ = some (.int .u8 0)
  a2 : W.cell? ⟨gn, 2, none⟩ = some (.slice none 0 0)
  a3 : W.cell? ⟨gn, 3, none⟩ = some (.slice none 0 0)
  af : ∀ i, W.frozen? ⟨gn, i, none⟩ = false
  o0 : W.cell? ⟨go, 0, none⟩ = some (.slice (some ⟨gn, 0, none⟩) 1 1)
  o1 : W.cell? ⟨go, 1, none⟩ = some (.int .i16 0)
  f0 : W.cell? ⟨gf, 0, none⟩ = some (.int .i16 0)
  q0 : W.cell? ⟨gq, 0, none⟩ = some (.int .i64 x)
  qf : W.frozen? ⟨gq, 0, none⟩ = false
  p0 : W.cell? ⟨gp, 0, none⟩ = some (.int .i64 y)
  pf : W.frozen? ⟨gp, 0, none⟩ = false
  k1 : w.heap.size ≤ gn
  k2 : gn < go
  k3 : go < gf
  k4 : gf < gq
  k5 : gq < gp
  k6 : gp < W.heap.size
theorem NW.next {w W W' : World} {gn go gf gq gp : Nat} {x y : Int} (h : NW w W gn go gf gq gp x y) (hb : Below W.heap.size W W') : NW w W' gn go gf gq gp x y := by
  have k2 := h.k2; have k3 := h.k3; have k4 := h.k4; have k5 := h.k5; have k6 := h.k6
  have key : ∀ b i v, b ≤ gp → W.cell? ⟨b, i, none⟩ = some v → W'.cell? ⟨b, i, none⟩ = some v := fun b i v h1 h2 => (hb.cell (p := ⟨b, i, none⟩) (show b < W.heap.size by omega)).trans h2
  have kf : ∀ b i, b ≤ gp → W.frozen? ⟨b, i, none⟩ = false → W'.frozen? ⟨b, i, none⟩ = false := fun b i h1 h2 => (hb.frozen (p := ⟨b, i, none⟩) (show b < W.heap.size by omega)).trans h2
  exact ⟨h.below.trans (hb.mono h.below.size), key _ _ _ (by omega) h.a0, key _ _ _ (by omega) h.a1, key _ _ _ (by omega) h.a2, key _ _ _ (by omega) h.a3, fun i => kf _ _ (by omega) (h.af i), key _ _ _ (by omega) h.o0, key _ _ _ (by omega) h.o1, key _ _ _ (by omega) h.f0, key _ _ _ (by omega) h.q0, kf _ _ (by omega) h.qf, key _ _ _ (Nat.le_refl _) h.p0, kf _ _ (Nat.le_refl _) h.pf, h.k1, k2, k3, k4, k5, Nat.lt_of_lt_of_le k6 hb.size⟩
theorem NW.put {w W : World} {gn go gf gq gp : Nat} {x y : Int} (h : NW w W gn go gf gq gp x y) (x' y' : Int) : NW w ((W.setCell ⟨gq, 0, none⟩ (.int .i64 x')).setCell ⟨gp, 0, none⟩ (.int .i64 y')) gn go gf gq gp x' y' := by
  have k1 := h.k1; have k2 := h.k2; have k3 := h.k3; have k4 := h.k4; have k5 := h.k5; have k6 := h.k6
  have key : ∀ b i v, b < gq → W.cell? ⟨b, i, none⟩ = some v → ((W.setCell ⟨gq, 0, none⟩ (.int .i64 x')).setCell ⟨gp, 0, none⟩ (.int .i64 y')).cell? ⟨b, i, none⟩ = some v := fun b i v h1 h2 => by
    rw [World.cell?_setCell_other _ _ _ _ (by simp <;> omega), World.cell?_setCell_other _ _ _ _ (by simp <;> omega)]; exact h2
  refine ⟨(h.below.setCell (p := ⟨gq, 0, none⟩) (show w.heap.size ≤ gq by omega) _).setCell (p := ⟨gp, 0, none⟩) (show w.heap.size ≤ gp by omega) _, key _ _ _ (by omega) h.a0, key _ _ _ (by omega) h.a1, key _ _ _ (by omega) h.a2, key _ _ _ (by omega) h.a3, fun i => by rw [World.frozen?_setCell, World.frozen?_setCell]; exact h.af i, key _ _ _ (by omega) h.o0, key _ _ _ (by omega) h.o1, key _ _ _ (by omega) h.f0, ?_, by rw [World.frozen?_setCell, World.frozen?_setCell]; exact h.qf, ?_, by rw [World.frozen?_setCell, World.frozen?_setCell]; exact h.pf, k1, k2, k3, k4, k5, by simp only [size_setCell]; exact k6⟩
  · rw [World.cell?_setCell_other _ _ _ _ (by simp <;> omega)]; exact World.cell?_setCell_same _ _ _ h.q0
  · exact World.cell?_setCell_same _ _ _ (by rw [World.cell?_setCell_other _ _ _ _ (by simp <;> omega)]; exact h.p0)
theorem NW.start (w w1 : World) (h : Below w.heap.size w w1) : NW w (((((w1.alloc (.cells #[.int .u8 0, .int .u8 0, .slice none 0 0, .slice none 0 0] 41 (0, 0))).alloc (.cells #[.slice (some ⟨w1.heap.size, 0, none⟩) 1 1, .int .i16 0] 34 (0, 0))).alloc (.cells (Faig.zeroCells246.setIfInBounds 0 (.int .i16 0)) 246 (0, 0))).alloc (.cells Faig.zeroCells247 247 (0, 0))).alloc (.cells Faig.zeroCells247 247 (0, 0))) w1.heap.size (w1.heap.size + 1) (w1.heap.size + 1 + 1) (w1.heap.size + 1 + 1 + 1) (w1.heap.size + 1 + 1 + 1 + 1) 0 0 := by
  have z7 : Faig.zeroCells247[0]? = some (.int .i64 0) := by kernel_rfl
  have zs : 0 < Faig.zeroCells246.size := by
    have : Faig.zeroCells246.size = 512 := by kernel_rfl
    omega
  have z6 : (Faig.zeroCells246.setIfInBounds 0 (.int .i16 0))[0]? = some (.int .i16 0) := Array.getElem?_setIfInBounds_self_of_lt zs
  generalize hW : (((((w1.alloc (.cells #[.int .u8 0, .int .u8 0, .slice none 0 0, .slice none 0 0] 41 (0, 0))).alloc (.cells #[.slice (some ⟨w1.heap.size, 0, none⟩) 1 1, .int .i16 0] 34 (0, 0))).alloc (.cells (Faig.zeroCells246.setIfInBounds 0 (.int .i16 0)) 246 (0, 0))).alloc (.cells Faig.zeroCells247 247 (0, 0))).alloc (.cells Faig.zeroCells247 247 (0, 0))) = W
  have hh : W.heap = ((((w1.heap.push (.cells #[.int .u8 0, .int .u8 0, .slice none 0 0, .slice none 0 0] 41 (0, 0))).push (.cells #[.slice (some ⟨w1.heap.size, 0, none⟩) 1 1, .int .i16 0] 34 (0, 0))).push (.cells (Faig.zeroCells246.setIfInBounds 0 (.int .i16 0)) 246 (0, 0))).push (.cells Faig.zeroCells247 247 (0, 0))).push (.cells Faig.zeroCells247 247 (0, 0)) := by rw [← hW]; rfl
  have hB : Below w.heap.size w W := by
    rw [← hW]
    have hz := h.size
    exact ((((h.alloc hz _).alloc (by simp <;> omega) _).alloc (by simp <;> omega) _).alloc (by simp <;> omega) _).alloc (by simp <;> omega) _
  have b0 : W.heap[w1.heap.size]? = some (.cells #[.int .u8 0, .int .u8 0, .slice none 0 0, .slice none 0 0] 41 (0, 0)) := by
    rw [hh, Array.getElem?_push, if_neg (by simp <;> omega), Array.getElem?_push, if_neg (by simp <;> omega), Array.getElem?_push, if_neg (by simp <;> omega), Array.getElem?_push, if_neg (by simp <;> omega), Array.getElem?_push, if_pos rfl]
  have b1 : W.heap[w1.heap.size + 1]? = some (.cells #[.slice (some ⟨w1.heap.size, 0, none⟩) 1 1, .int .i16 0] 34 (0, 0)) := by
    rw [hh, Array.getElem?_push, if_neg (by simp <;> omega), Array.getElem?_push, if_neg (by simp <;> omega), Array.getElem?_push, if_neg (by simp <;> omega), Array.getElem?_push, if_pos (by simp <;> omega)]
  have b2 : W.heap[w1.heap.size + 1 + 1]? = some (.cells (Faig.zeroCells246.setIfInBounds 0 (.int .i16 0)) 246 (0, 0)) := by
    rw [hh, Array.getElem?_push, if_neg (by simp <;> omega), Array.getElem?_push, if_neg (by simp <;> omega), Array.getElem?_push, if_pos (by simp <;> omega)]
  have b3 : W.heap[w1.heap.size + 1 + 1 + 1]? = some (.cells Faig.zeroCells247 247 (0, 0)) := by
    rw [hh, Array.getElem?_push, if_neg (by simp <;> omega), Array.getElem?_push, if_pos (by simp <;> omega)]
  have b4 : W.heap[w1.heap.size + 1 + 1 + 1 + 1]? = some (.cells Faig.zeroCells247 247 (0, 0)) := by
    rw [hh, Array.getElem?_push, if_pos (by simp <;> omega)]
  exact ⟨hB, cell_of_block b0 0, cell_of_block b0 1, cell_of_block b0 2, cell_of_block b0 3, fun i => unfrozen_of_block b0 i, cell_of_block b1 0, cell_of_block b1 1, (cell_of_block b2 0).trans z6, (cell_of_block b3 0).trans z7, unfrozen_of_block b3 0, (cell_of_block b4 0).trans z7, unfrozen_of_block b4 0, h.size, by omega, by omega, by omega, by omega, (Array.getElem?_eq_some_iff.1 b4).1⟩
/-- The same with the node m at block gm. -/
structure MW (w W : World) (gn go gf gq gp : Nat) (x y : Int) (gm : Nat) (v : Value) : Prop where
  nw : NW w W gn go gf gq gp x y
  m0 : W.cell? ⟨gm, 0, none⟩ = some (.int .u8 1)
  m1 : W.cell? ⟨gm, 1, none⟩ = some (.int .u8 0)
  m2 : W.cell? ⟨gm, 2, none⟩ = some v
  m3 : W.cell? ⟨gm, 3, none⟩ = some (.slice none 0 0)
  mf : ∀ i, W.frozen? ⟨gm, i, none⟩ = false
  k7 : gp < gm
  k8 : gm < W.heap.size
theorem MW.next {w W W' : World} {gn go gf gq gp gm : Nat} {x y : Int} {v : Value} (h : MW w W gn go gf gq gp x y gm v) (hb : Below W.heap.size W W') : MW w W' gn go gf gq gp x y gm v := by
  have key : ∀ i u, W.cell? ⟨gm, i, none⟩ = some u → W'.cell? ⟨gm, i, none⟩ = some u := fun i u hu => (hb.cell (p := ⟨gm, i, none⟩) h.k8).trans hu
  exact ⟨h.nw.next hb, key _ _ h.m0, key _ _ h.m1, key _ _ h.m2, key _ _ h.m3, fun i => (hb.frozen (p := ⟨gm, i, none⟩) h.k8).trans (h.mf i), h.k7, Nat.lt_of_lt_of_le h.k8 hb.size⟩
theorem MW.start {w W : World} {gn go gf gq gp : Nat} {x y : Int} (h : NW w W gn go gf gq gp x y) : MW w (W.alloc (.cells #[.int .u8 1, .int .u8 0, .slice none 0 0, .slice none 0 0] 41 (0, 0))).drew gn go gf gq gp x y W.heap.size (.slice none 0 0) := by
  have hb : (W.alloc (.cells #[.int .u8 1, .int .u8 0, .slice none 0 0, .slice none 0 0] 41 (0, 0))).drew.heap[W.heap.size]? = some (.cells #[.int .u8 1, .int .u8 0, .slice none 0 0, .slice none 0 0] 41 (0, 0)) := by
    show (W.heap.push _)[W.heap.size]? = _
    rw [Array.getElem?_push, if_pos rfl]
  exact ⟨h.next ((Below.refl _ _).alloc (Nat.le_refl _) _).drew, cell_of_block hb 0, cell_of_block hb 1, cell_of_block hb 2, cell_of_block hb 3, fun i => unfrozen_of_block hb i, h.k6, (Array.getElem?_eq_some_iff.1 hb).1⟩
theorem MW.put {w W : World} {gn go gf gq gp gm : Nat} {x y : Int} {v : Value} (h : MW w W gn go gf gq gp x y gm v) (u : Value) : MW w (W.setCell ⟨gm, 2, none⟩ u) gn go gf gq gp x y gm u := by
  have k1 := h.nw.k1; have k2 := h.nw.k2; have k3 := h.nw.k3; have k4 := h.nw.k4; have k5 := h.nw.k5; have k7 := h.k7
  have key : ∀ b i z, b ≤ gp → W.cell? ⟨b, i, none⟩ = some z → (W.setCell ⟨gm, 2, none⟩ u).cell? ⟨b, i, none⟩ = some z := fun b i z h1 h2 => by
    rw [World.cell?_setCell_other _ _ _ _ (by simp <;> omega)]; exact h2
  have n := h.nw
  refine ⟨⟨n.below.setCell (p := ⟨gm, 2, none⟩) (show w.heap.size ≤ gm by omega) _, key _ _ _ (by omega) n.a0, key _ _ _ (by omega) n.a1, key _ _ _ (by omega) n.a2, key _ _ _ (by omega) n.a3, fun i => by rw [World.frozen?_setCell]; exact n.af i, key _ _ _ (by omega) n.o0, key _ _ _ (by omega) n.o1, key _ _ _ (by omega) n.f0, key _ _ _ (by omega) n.q0, by rw [World.frozen?_setCell]; exact n.qf, key _ _ _ (Nat.le_refl _) n.p0, by rw [World.frozen?_setCell]; exact n.pf, k1, k2, k3, k4, k5, by rw [size_setCell]; exact n.k6⟩, ?_, ?_, World.cell?_setCell_same _ _ _ h.m2, ?_, fun i => by rw [World.frozen?_setCell]; exact h.mf i, k7, by rw [size_setCell]; exact h.k8⟩
  · rw [World.cell?_setCell_other _ _ _ _ (by simp)]; exact h.m0
  · rw [World.cell?_setCell_other _ _ _ _ (by simp)]; exact h.m1
  · rw [World.cell?_setCell_other _ _ _ _ (by simp)]; exact h.m3
/-- out.N[0] = m. -/
theorem MW.fin {w W : World} {gn go gf gq gp gm c : Nat} {x y : Int} {o : Option Addr} {n : Nat} {ws : List Int} (h : MW w W gn go gf gq gp x y gm (.slice o n c)) (hr : Row W o n ws) (hne : ∀ b off, o = some ⟨b, off, none⟩ → n = 0 ∨ b ≠ gn) :
    Below w.heap.size w ((((W.setCell ⟨gn, 0, none⟩ (.int .u8 1)).setCell ⟨gn, 1, none⟩ (.int .u8 0)).setCell ⟨gn, 2, none⟩ (.slice o n c)).setCell ⟨gn, 3, none⟩ (.slice none 0 0)) ∧ Td ((((W.setCell ⟨gn, 0, none⟩ (.int .u8 1)).setCell ⟨gn, 1, none⟩ (.int .u8 0)).setCell ⟨gn, 2, none⟩ (.slice o n c)).setCell ⟨gn, 3, none⟩ (.slice none 0 0)) go gn 1 o c n ws := by
  have m := h.nw
  have k2 := m.k2; have k3 := m.k3; have k4 := m.k4; have k5 := m.k5; have k6 := m.k6
  have hgo : go ≠ gn := by omega
  refine ⟨ks4 m.below m.k1, ?_, ?_, ?_, ?_, ?_, ?_, ?_, by simp only [size_setCell]; omega, by simp only [size_setCell]; omega⟩
  · rw [World.cell?_setCell_other _ _ _ _ (by simp [hgo]), World.cell?_setCell_other _ _ _ _ (by simp [hgo]), World.cell?_setCell_other _ _ _ _ (by simp [hgo]), World.cell?_setCell_other _ _ _ _ (by simp [hgo])]; exact m.o0
  · rw [World.cell?_setCell_other _ _ _ _ (by simp [hgo]), World.cell?_setCell_other _ _ _ _ (by simp [hgo]), World.cell?_setCell_other _ _ _ _ (by simp [hgo]), World.cell?_setCell_other _ _ _ _ (by simp [hgo])]; exact m.o1
  · rw [World.cell?_setCell_other _ _ _ _ (by simp), World.cell?_setCell_other _ _ _ _ (by simp), World.cell?_setCell_other _ _ _ _ (by simp)]; exact World.cell?_setCell_same _ _ _ m.a0
  · rw [World.cell?_setCell_other _ _ _ _ (by simp), World.cell?_setCell_other _ _ _ _ (by simp)]; exact World.cell?_setCell_same _ _ _ (by rw [World.cell?_setCell_other _ _ _ _ (by simp)]; exact m.a1)
  · rw [World.cell?_setCell_other _ _ _ _ (by simp)]; exact World.cell?_setCell_same _ _ _ (by rw [World.cell?_setCell_other _ _ _ _ (by simp), World.cell?_setCell_other _ _ _ _ (by simp)]; exact m.a2)
  · exact World.cell?_setCell_same _ _ _ (by rw [World.cell?_setCell_other _ _ _ _ (by simp), World.cell?_setCell_other _ _ _ _ (by simp), World.cell?_setCell_other _ _ _ _ (by simp)]; exact m.a3)
  · obtain ⟨h1, h2, h3, h4⟩ := hr
    refine ⟨h1, h2, h3, ?_⟩
    rcases h4 with h4 | ⟨b, off, ha, hlt, hc⟩
    · exact Or.inl h4
    · rcases hne b off ha with hb | hb
      · exact Or.inl hb
      · exact Or.inr ⟨b, off, ha, by simp only [size_setCell]; exact hlt, fun i hi => by
          rw [World.cell?_setCell_other _ _ _ _ (by simp [hb]), World.cell?_setCell_other _ _ _ _ (by simp [hb]), World.cell?_setCell_other _ _ _ _ (by simp [hb]), World.cell?_setCell_other _ _ _ _ (by simp [hb])]; exact hc i hi⟩
theorem Row.putcell {W : World} {o : Option Addr} {n g : Nat} {ws : List Int} (h : Row W o n ws) (i : Nat) (v : Value) (hne : ∀ b off, o = some ⟨b, off, none⟩ → n = 0 ∨ b ≠ g) : Row (W.setCell ⟨g, i, none⟩ v) o n ws := by
  obtain ⟨h1, h2, h3, h4⟩ := h
  refine ⟨h1, h2, h3, ?_⟩
  rcases h4 with h4 | ⟨b, off, ha, hlt, hc⟩
  · exact Or.inl h4
  · rcases hne b off ha with hb | hb
    · exact Or.inl hb
    · exact Or.inr ⟨b, off, ha, by simp only [size_setCell]; exact hlt, fun j hj => by rw [World.cell?_setCell_other _ _ _ _ (by simp [hb])]; exact hc j hj⟩
set_option maxRecDepth 100000 in
set_option maxHeartbeats 2000000 in
theorem norm_str (w : World) (gt gN capN : Nat) (o : Option Addr) (c d : Nat) (ws : List Int) (h : Td w gt gN capN o c d ws) (hd : d ≤ 8) :
    Calls Faig.prog 122 #[.pointer (some ⟨gt, 0, none⟩)] w fun e w' => NormP w w' e (trimN ws d) (ws.take (trimN ws d)) := by
  have H : Hid (∀ w', Below w.heap.size w w' → Td w' gt gN capN o c d ws) := fun w' hb => h.below hb
  have HC : Hid (Calls Faig.prog 121 #[.pointer (some ⟨gt, 0, none⟩)] w fun e w' => e = .returned (.bool true) ∧ Below w.heap.size w w') := check_str w gt gN capN o c d ws h hd
  clear h
  go_enter Faig.func122, Faig.ntmps122
  go_wp2_with fail
  refine HC.out.mono ?_
  rintro e w1 ⟨rfl, hb1⟩
  have h1 := H.out w1 hb1
  have t0 := h1.t0; have t1 := h1.t1; have lt := h1.lt
  have g1 : gt < w1.heap.size + 1 := by omega
  have g2 : gt < w1.heap.size + 1 + 1 := by omega
  have g3 : gt < w1.heap.size + 1 + 1 + 1 := by omega
  have g4 : gt < w1.heap.size + 1 + 1 + 1 + 1 := by omega
  have z246 : Faig.zeroCells246[0]? = some (.int .i16 0) := by kernel_rfl
  clear h1
  have N2 := NW.start w w1 hb1
  go_wp2_with fail
  generalize (((((w1.alloc (.cells #[.int .u8 0, .int .u8 0, .slice none 0 0, .slice none 0 0] 41 (0, 0))).alloc (.cells #[.slice (some ⟨w1.heap.size, 0, none⟩) 1 1, .int .i16 0] 34 (0, 0))).alloc (.cells (Faig.zeroCells246.setIfInBounds 0 (.int .i16 0)) 246 (0, 0))).alloc (.cells Faig.zeroCells247 247 (0, 0))).alloc (.cells Faig.zeroCells247 247 (0, 0))) = w2 at N2 ⊢
  clear g1 g2 g3 g4 z246 t0 t1 lt
  generalize w1.heap.size + 1 + 1 + 1 + 1 = gp at N2 ⊢
  generalize w1.heap.size + 1 + 1 + 1 = gq at N2 ⊢
  generalize w1.heap.size + 1 + 1 = gf at N2 ⊢
  generalize w1.heap.size + 1 = go at N2 ⊢
  generalize w1.heap.size = gn at N2 ⊢
  have h2 := H.out w2 N2.below
  have t0 := h2.t0; have t1 := h2.t1
  have q0 := N2.q0; have qf := N2.qf; have p0 := N2.p0; have pf := N2.pf
  have hle := trimN_le ws d
  have TC : Hid (Calls Faig.prog 144 #[.pointer (some ⟨gN, 0, none⟩)] w2.drew fun e w' => e = .returned (.tuple #[.int .i64 (trimN ws d : Nat), .int .i64 0]) ∧ Below w2.drew.heap.size w2.drew w') := trimmed_any w2.drew gN o c d ws h2.n2 h2.n3 h2.row.drew hd
  have HN2 : Hid (NW w w2 gn go gf gq gp 0 0) := N2
  have KQ : Hid (∀ w3, Below w2.heap.size w2 w3 → w3.cell? ⟨gt, 0, none⟩ = some (.slice (some ⟨gN, 0, none⟩) 1 capN) ∧ w3.cell? ⟨gt, 1, none⟩ = some (.int .i16 0) ∧ w3.cell? ⟨gq, 0, none⟩ = some (.int .i64 0) ∧ w3.frozen? ⟨gq, 0, none⟩ = false ∧ w3.cell? ⟨gp, 0, none⟩ = some (.int .i64 0) ∧ w3.frozen? ⟨gp, 0, none⟩ = false) := fun w3 hb =>
    ⟨(h2.below hb).t0, (h2.below hb).t1, (N2.next hb).q0, (N2.next hb).qf, (N2.next hb).p0, (N2.next hb).pf⟩
  have hqp : gq ≠ gp := Nat.ne_of_lt N2.k5
  clear h2 N2 hb1 HC
  generalize hteq : trimN ws d = t at *
  have HT : Hid (trimN ws d = t) := hteq
  clear hteq
  go_cut [36] from 37 to 50 (fun _ W => NW w W gn go gf gq gp t 0)
  case first =>
   go_region_law (first
    | (refine call_drawn rfl 144 #[.tmp 45] #[41] rfl Faig.f144 _ Faig.func144 rfl rfl #[.pointer (some ⟨gN, 0, none⟩)] (by simp [Act.eval, Act.put]) _ TC.out ?_
       rintro e w3 ⟨rfl, hb3⟩
       refine ⟨_, rfl, ?_⟩
       have hk3 := bdrew hb3
       have c1 := (KQ.out w3 hk3).1
       have c2 := (KQ.out w3 hk3).2.1
       have c3 := (KQ.out w3 hk3).2.2.1
       have c4 := (KQ.out w3 hk3).2.2.2.1
       have c5 := (KQ.out w3 hk3).2.2.2.2.1
       have c6 := (KQ.out w3 hk3).2.2.2.2.2)
    | fail)
   all_goals
     have HP : Hid (NW w ((w3.setCell ⟨gq, 0, none⟩ (.int .i64 t)).setCell ⟨gp, 0, none⟩ (.int .i64 0)) gn go gf gq gp t 0) := (HN2.out.next hk3).put t 0
     clear c1 c2 c3 c4 c5 c6
     go_wp2_with fail
     go_meet
     case rel => exact HP.out
  case rest =>
    clear q0 qf p0 pf t0 t1 TC HN2 KQ hqp
    have N3 : Hid (NW w wc gn go gf gq gp t 0) := hcut
    clear hcut
    go_wp2_with fail
    go_loopw [7, 8, 9, 10, 11, 12, 13, 14] (fun i _ _ _ _ _ _ _ W => (i = .int .i64 0 ∧ W = wc) ∨ (i = .int .i64 1 ∧ Below w.heap.size w W ∧ ∃ o c, Td W go gn 1 o c t (ws.take t) ∧ ∀ b off, o = some ⟨b, off, none⟩ → t = 0 ∨ w.heap.size ≤ b)) (fun i _ _ _ _ _ _ _ _ => 1 - (intOf i).toNat)
    case atStart => exact Or.inl ⟨rfl, rfl⟩
    case round =>
      rcases hrel with ⟨rfl, rfl⟩ | ⟨rfl, hB, o', c', hT, hfr⟩
      · have n3 := N3.out
        have o0 := n3.o0; have f0 := n3.f0
        have d3 := H.out _ n3.below
        have t0 := d3.t0
        clear n3 d3
        go_wp2_with fail
        go_quiet (fail)
        have N4 := N3.out.next (below_drewN (Below.refl _ wr) nq)
        generalize wr.drewN nq = w4 at N4 ⊢
        have d4 := H.out _ N4.below
        have n0 := d4.n0; have n1 := d4.n1; have ln4 := d4.ln
        have HN4 : Hid (NW w w4 gn go gf gq gp t 0) := N4
        clear N4 d4 o0 f0 t0
        go_wp2_with fail
        go_region
        have M5 := MW.start HN4.out
        go_wp2_with fail
        generalize (w4.alloc (.cells #[.int .u8 1, .int .u8 0, .slice none 0 0, .slice none 0 0] 41 (0, 0))).drew = w5 at M5 ⊢
        generalize w4.heap.size = gm at M5 ⊢
        have d5 := H.out _ M5.nw.below
        have b2 := d5.n2; have b0 := d5.n0
        have c0 := M5.nw.q0
        have SC : Hid (Calls Faig.prog 145 #[.slice o d c, .int .i64 t] w5.drew fun e w' => SizedP w5.drew w' e t ((ws.take t).map (Value.int .u64))) := sized_any w5.drew o c d t ws d5.row.drew (by omega) hd
        have KM : Hid (∀ w6, Below w5.heap.size w5 w6 → w6.cell? ⟨gm, 2, none⟩ = some (.slice none 0 0) ∧ w6.frozen? ⟨gm, 2, none⟩ = false) := fun w6 hb => ⟨(M5.next hb).m2, (M5.next hb).mf 2⟩
        have HM5 : Hid (MW w w5 gn go gf gq gp t 0 gm (.slice none 0 0)) := M5
        have hU : Hid (∀ i, U64 ((ws.take t).getD i 0)) := fun i => by
          by_cases hi : i < t
          · have e : (ws.take t).getD i 0 = ws.getD i 0 := by simp [List.getD_eq_getElem?_getD, List.getElem?_take, hi]
            rw [e]; exact d5.row.2.1 i
          · have e : (ws.take t).getD i 0 = 0 := by simp [List.getD_eq_getElem?_getD, List.getElem?_take, hi]
            rw [e]; exact ⟨by omega, by omega⟩
        clear M5 d5 n0 n1 ln4 HN4
        go_cut [10] from 96 to 104 (fun _ W => ∃ o' c', MW w W gn go gf gq gp t 0 gm (.slice o' t c') ∧ Row W o' t (ws.take t) ∧ ∀ b off, o' = some ⟨b, off, none⟩ → t = 0 ∨ b ≠ gn ∧ w.heap.size ≤ b)
        case first =>
          go_region_law (first
            | (refine call_drawn rfl 145 #[.tmp 99, .tmp 102] #[22, 3] rfl Faig.f145 _ Faig.func145 rfl rfl #[.slice o d c, .int .i64 t] (by simp [Act.eval, Act.put]) _ SC.out ?_
               rintro e w6 ⟨o', c', rfl, hb6, ho6, hv6⟩
               refine ⟨_, rfl, ?_⟩
               have hk6 := bdrew hb6
               have e1 := (KM.out w6 hk6).1
               have e2 := (KM.out w6 hk6).2)
            | fail)
          all_goals
            have HP : Hid (MW w (w6.setCell ⟨gm, 2, none⟩ (.slice o' t c')) gn go gf gq gp t 0 gm (.slice o' t c') ∧ Row (w6.setCell ⟨gm, 2, none⟩ (.slice o' t c')) o' t (ws.take t) ∧ ∀ b off, o' = some ⟨b, off, none⟩ → t = 0 ∨ b ≠ gn ∧ w.heap.size ≤ b) := by
              refine ⟨(HM5.out.next hk6).put _, ?_, ?_⟩
              · refine (row_of_own ho6 hU.out).putcell 2 _ (fun b off hb => Or.inr ?_)
                have h1 := hv6 b (by rw [hb]; rfl)
                have h2 := HM5.out.k8
                have h3 : w5.heap.size ≤ b := h1
                omega
              · intro b off hb
                have h1 : w5.heap.size ≤ b := hv6 b (by rw [hb]; rfl)
                have h2 := HM5.out.k8; have h3 := HM5.out.k7; have h4 := HM5.out.nw.k2; have h5 := HM5.out.nw.k3; have h6 := HM5.out.nw.k4; have h7 := HM5.out.nw.k5
                have h8 := HM5.out.nw.below.size
                exact Or.inr ⟨by omega, by omega⟩
            clear ho6 hv6 hb6 e1 e2
            go_wp2_with fail
            go_meet
            case rel => exact ⟨o', c', HP.out⟩
        case rest =>
          obtain ⟨o', c', M7, R7, hne7⟩ := hcut
          have d7 := H.out _ M7.nw.below
          have b0 := d7.n0
          have p0 := M7.nw.p0; have o0 := M7.nw.o0
          have m0 := M7.m0; have m1 := M7.m1; have m2 := M7.m2; have m3 := M7.m3
          have a0 := M7.nw.a0; have a1 := M7.nw.a1; have a2 := M7.nw.a2; have a3 := M7.nw.a3
          have f0 := M7.nw.af 0; have f1 := M7.nw.af 1; have f2 := M7.nw.af 2; have f3 := M7.nw.af 3
          have hgm : gm ≠ gn := by have := M7.k7; have := M7.nw.k2; have := M7.nw.k3; have := M7.nw.k4; have := M7.nw.k5; omega
          have FIN : Hid (Below w.heap.size w ((((wc.setCell ⟨gn, 0, none⟩ (.int .u8 1)).setCell ⟨gn, 1, none⟩ (.int .u8 0)).setCell ⟨gn, 2, none⟩ (.slice o' t c')).setCell ⟨gn, 3, none⟩ (.slice none 0 0)).drew ∧ Td ((((wc.setCell ⟨gn, 0, none⟩ (.int .u8 1)).setCell ⟨gn, 1, none⟩ (.int .u8 0)).setCell ⟨gn, 2, none⟩ (.slice o' t c')).setCell ⟨gn, 3, none⟩ (.slice none 0 0)).drew go gn 1 o' c' t (ws.take t)) := by
            have hf := M7.fin R7 (fun b off hb => (hne7 b off hb).elim Or.inl (fun h => Or.inr h.1))
            exact ⟨hf.1.drew, hf.2.below (Below.refl _ _).drew⟩
          have HFR : Hid (∀ b off, o' = some ⟨b, off, none⟩ → t = 0 ∨ w.heap.size ≤ b) := fun b off hb => (hne7 b off hb).elim Or.inl (fun h => Or.inr h.2)
          clear d7 M7 R7 hne7 SC KM HM5 hU
          go_wp2_with fail
          go_loop [13, 14] (fun s _ => s = .int .i64 0) (fun _ _ => 0)
          case atStart => rfl
          case round =>
            subst hrel
            go_wp2_with fail
            go_region
            go_wp2_with fail
            go_roundw
            case rel => exact Or.inr ⟨rfl, FIN.out.1, _, _, FIN.out.2, HFR.out⟩
            case measure => simp [intOf]
      · have t0 := hT.t0
        have HP : Hid (NormP w wr (.returned (.pointer (some ⟨go, 0, none⟩))) t (ws.take t)) := ⟨go, gn, o', c', rfl, hB, hT, by have := N3.out.k1; have := N3.out.k2; omega, N3.out.k1, hfr⟩
        clear hB hT hfr
        go_wp2_with fail
        go_ret
        have hp := HP.out
        rw [← HT.out] at hp
        exact hp
end Go.Proofs.Ygcfai

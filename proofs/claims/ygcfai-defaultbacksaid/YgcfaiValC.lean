/-
  DefaultBack: valid.Step, Claimed, Validate.
-/
import Derived.Test.YgcfaiValB
namespace Go.Proofs.Ygcfai
open Go.RowKit Go.Joins Plain
set_option linter.unusedVariables false
set_option linter.unusedSimpArgs false
/-- Step's world: Sp is 0, the claimed words are words. -/
def StepP (w w' : World) (g : Nat) : Prop := Fr w w' (fun k => k = g) ∧ w'.cell? ⟨g, 516, none⟩ = some (.int .u16 0) ∧ (∃ x : Int, w'.cell? ⟨g, 0, none⟩ = some (.int .u64 x)) ∧ (∀ i, i ≠ 0 → i ≠ 516 → w'.cell? ⟨g, i, none⟩ = w.cell? ⟨g, i, none⟩)
set_option maxRecDepth 100000 in
set_option maxHeartbeats 2000000 in
theorem step_str (w : World) (gw d : Nat) (a : Option Addr) (cap : Nat) (l : List Int) (hd : d ≤ 8) (hr : Row w a (1 + d) l) (hx : l.getD 0 0 = msv 0 1 d 0) (hne : ∀ b off, a = some ⟨b, off, none⟩ → ¬ b = gw)
    (h0 : w.cell? ⟨gw, 0, none⟩ = some (.int .u64 1)) (h4 : w.cell? ⟨gw, 4, none⟩ = some (.int .u16 0)) (h5 : w.cell? ⟨gw, 5, none⟩ = some (.int .u8 0)) (hs : w.cell? ⟨gw, 516, none⟩ = some (.int .u16 1)) (hf : ∀ i, w.frozen? ⟨gw, i, none⟩ = false) (hl : gw < w.heap.size) :
    Calls Faig.prog 88 #[.pointer (some ⟨gw, 0, none⟩), .slice a (1 + d) cap] w fun e w' => e = .returned (.bool true) ∧ StepP w w' gw := by
  have hres := res_msv d hd l hr.1 hx
  have f516 := hf 516
  have HF : Hid (∀ i, w.frozen? ⟨gw, i, none⟩ = false) := hf
  have HR : Hid (Row (w.setCell ⟨gw, 516, none⟩ (.int .u16 0)) a (1 + d) l) := hr.fr (fr_set _ _ _ _) hne
  clear hf hr
  go_enter Faig.func88, Faig.ntmps88
  go_wp2_with fail
  go_region
  go_wp2_with fail
  have hs0 : (w.setCell ⟨gw, 516, none⟩ (.int .u16 0)).heap.size = w.heap.size := size_setCell _ _ _
  have hbl : Below w.heap.size (w.setCell ⟨gw, 516, none⟩ (.int .u16 0)) ((w.setCell ⟨gw, 516, none⟩ (.int .u16 0)).alloc (.cells #[.int .u16 0, .int .u8 0] 172 (0, 0))).drew := ((Below.refl _ _).alloc (by rw [hs0]; exact Nat.le_refl _) _).drew
  have hR1 := HR.out.below hbl (by rw [hs0]; exact Nat.le_refl _)
  refine (resolve_any a (1 + d) cap l 0 ⟨by omega, by omega⟩ _ hR1).mono ?_
  rw [hres]
  rintro e w1 ⟨rfl, hb1⟩
  have hsz1 : ((w.setCell ⟨gw, 516, none⟩ (.int .u16 0)).alloc (.cells #[.int .u16 0, .int .u8 0] 172 (0, 0))).drew.heap.size = w.heap.size + 1 := by
    show ((w.setCell ⟨gw, 516, none⟩ (.int .u16 0)).alloc (.cells #[.int .u16 0, .int .u8 0] 172 (0, 0))).heap.size = _
    simp [hs0]
  have B1 : Below w.heap.size (w.setCell ⟨gw, 516, none⟩ (.int .u16 0)) w1 := hbl.trans (hb1.mono (by omega))
  have e0 : w1.cell? ⟨w.heap.size, 0, none⟩ = some (.int .u16 0) ∧ w1.cell? ⟨w.heap.size, 1, none⟩ = some (.int .u8 0) := by
    constructor <;> (rw [hb1.cell (by simp [hsz1])]; rw [← hs0]; simp [go_sem])
  obtain ⟨e0, e1⟩ := e0
  have lz : w.heap.size < w1.heap.size := by have := hb1.size; omega
  have g0 : w1.cell? ⟨gw, 0, none⟩ = some (.int .u64 1) := by rw [B1.cell (p := ⟨gw, 0, none⟩) hl, World.cell?_setCell_other _ _ _ _ (by simp)]; exact h0
  have g516 : w1.cell? ⟨gw, 516, none⟩ = some (.int .u16 0) := by rw [B1.cell (p := ⟨gw, 516, none⟩) hl]; exact World.cell?_setCell_same _ _ _ hs
  have gf : Hid (∀ i, w1.frozen? ⟨gw, i, none⟩ = false) := fun i => by rw [B1.frozen (p := ⟨gw, i, none⟩) hl, World.frozen?_setCell]; exact HF.out i
  have HR2 : Hid (Row w1 a (1 + d) l) := hR1.below hb1 (Nat.le_refl _)
  have F1 : Hid (Fr w w1 (fun k => k = gw)) := (fr_set w gw 516 (.int .u16 0)).trans (Fr.of_below (by rw [hs0]; exact B1)) (fun i hi => Or.inl hi)
  have hT0 : 0 ≤ rootT d := by unfold rootT; split <;> omega
  have hT1 : rootT d ≤ 1 := by unfold rootT; split <;> omega
  have hT2 : Hid (d = 0 ∨ rootT d = 1) := by unfold Hid rootT; split <;> omega
  have hl1 : gw < w1.heap.size := by omega
  have g0' : Hid (w1.cell? ⟨gw, 0, none⟩ = some (.int .u64 1)) := g0
  have goth : Hid (∀ i, i ≠ 0 → i ≠ 516 → w1.cell? ⟨gw, i, none⟩ = w.cell? ⟨gw, i, none⟩) := fun i h1 h2 => by rw [B1.cell (p := ⟨gw, i, none⟩) hl, World.cell?_setCell_other _ _ _ _ (by simp <;> omega)]
  have g516' : Hid (w1.cell? ⟨gw, 516, none⟩ = some (.int .u16 0)) := g516
  clear hb1 hsz1 hbl hR1 B1 hres HR h0 h4 h5 hs HF hs0 f516
  generalize rootT d = T at *
  unfold PV.ptr
  go_wp2_with fail
  have ba : Below w1.heap.size w1 (w1.alloc (.cells #[.int .u8 1, .int .u16 T, .int .u8 d, .int .u8 0, .int .u8 0, .int .u16 0] 88 (0, 0))) := (Below.refl _ _).alloc (Nat.le_refl _) _
  have za : (w1.alloc (.cells #[.int .u8 1, .int .u16 T, .int .u8 d, .int .u8 0, .int .u8 0, .int .u16 0] 88 (0, 0))).heap.size = w1.heap.size + 1 := by simp
  refine (claim_all _ gw d T hd ⟨hT0, by omega⟩ hT2.out (by rw [ba.cell (p := ⟨gw, 0, none⟩) hl1]; exact g0) (by rw [ba.frozen (p := ⟨gw, 0, none⟩) hl1]; exact gf.out 0) (by omega)).mono ?_
  rintro e w2 ⟨rfl, C2⟩
  have fb : ∀ k, k < w1.heap.size + 1 → k ≠ gw → w2.heap[k]? = (w1.alloc (.cells #[.int .u8 1, .int .u16 T, .int .u8 d, .int .u8 0, .int .u8 0, .int .u16 0] 88 (0, 0))).heap[k]? := fun k hk hne => C2.1.block k (by omega) hne
  have cb : ∀ i v, w1.cell? ⟨w.heap.size, i, none⟩ = some v → w2.cell? ⟨w.heap.size, i, none⟩ = some v := fun i v hv => by
    rw [World.cell?_of_block (w := w1) (a := ⟨w.heap.size, i, none⟩) ((fb w.heap.size (by omega) (by omega)).trans (ba.block w.heap.size lz))]; exact hv
  have e0' := cb 0 _ e0
  have e1' := cb 1 _ e1
  have hpb : w2.heap[w1.heap.size]? = some (.cells #[.int .u8 1, .int .u16 T, .int .u8 d, .int .u8 0, .int .u8 0, .int .u16 0] 88 (0, 0)) := by
    rw [fb _ (by omega) (by omega)]
    show (w1.heap.push _)[w1.heap.size]? = _
    rw [Array.getElem?_push, if_pos rfl]
  have p0 : w2.cell? ⟨w1.heap.size, 0, none⟩ = some (.int .u8 1) := by rw [cell_of_block hpb]; rfl
  have p1 : w2.cell? ⟨w1.heap.size, 1, none⟩ = some (.int .u16 T) := by rw [cell_of_block hpb]; rfl
  have p2 : w2.cell? ⟨w1.heap.size, 2, none⟩ = some (.int .u8 d) := by rw [cell_of_block hpb]; rfl
  have p3 : w2.cell? ⟨w1.heap.size, 3, none⟩ = some (.int .u8 0) := by rw [cell_of_block hpb]; rfl
  have p4 : w2.cell? ⟨w1.heap.size, 4, none⟩ = some (.int .u8 0) := by rw [cell_of_block hpb]; rfl
  have p5 : w2.cell? ⟨w1.heap.size, 5, none⟩ = some (.int .u16 0) := by rw [cell_of_block hpb]; rfl
  have HR3 : Hid (Row w2 a (1 + d) l) := (HR2.out.alloc _).fr C2.1 hne
  have HC2 : Hid (ClP w1 w2 gw) := (ClP.below ba hl1).trans C2
  have lz2 : w1.heap.size < w2.heap.size := by have := C2.1.size; omega
  clear fb cb hpb C2 ba za HR2 e0 e1 g516 g0 gf
  go_wp2_with fail
  refine (padded_any a (1 + d) cap l 1 T d 0 0 0 _ HR3.out ⟨hT0, by omega⟩ ⟨by omega, by omega⟩ ⟨by omega, by omega⟩).mono ?_
  rw [show pad l 1 T 0 0 = true by simp [pad]]
  rintro e w3 ⟨rfl, hb3⟩
  have e1'' : w3.cell? ⟨w.heap.size, 1, none⟩ = some (.int .u8 0) := by rw [hb3.cell (p := ⟨w.heap.size, 1, none⟩) (by show w.heap.size < _; omega)]; exact e1'
  have q : ∀ i v, w2.cell? ⟨w1.heap.size, i, none⟩ = some v → w3.cell? ⟨w1.heap.size, i, none⟩ = some v := fun i v hv => by rw [hb3.cell (p := ⟨w1.heap.size, i, none⟩) lz2]; exact hv
  have q0 := q _ _ p0; have q1 := q _ _ p1; have q2 := q _ _ p2; have q3 := q _ _ p3; have q4 := q _ _ p4; have q5 := q _ _ p5
  have HC3 : Hid (ClP w1 w3 gw) := HC2.out.trans (ClP.below hb3 (by omega))
  clear q p0 p1 p2 p3 p4 p5 hb3 e0' e1' HR3
  go_wp2_with fail
  refine (follow_str _ gw d T 1 hd ⟨hT0, by omega⟩ hT1).mono ?_
  rintro e w4 ⟨rfl, hb4⟩
  have HC4 : Hid (ClP w1 w4 gw) := HC3.out.trans (ClP.below hb4 (by have := HC3.out.1.size; omega))
  have S4 : Hid (StepP w w4 gw) := ⟨F1.out.trans HC4.out.1 (fun i hi => Or.inl hi), by rw [HC4.out.2.1 516 (by decide)]; exact g516'.out, HC4.out.2.2.2 ⟨1, g0'.out⟩, fun i h1 h2 => by rw [HC4.out.2.1 i h1]; exact goth.out i h1 h2⟩
  clear hb4 q0 q1 q2 q3 q4 q5 e1''
  go_wp2_with fail
  go_ret
  exact ⟨rfl, S4.out⟩

end Go.Proofs.Ygcfai

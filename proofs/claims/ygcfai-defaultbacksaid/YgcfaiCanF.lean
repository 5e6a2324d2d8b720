/-
  DefaultBack: codec.canon: place.
-/
import Derived.Test.YgcfaiCanE
import Derived.Test.YgcfaiNorm
import Derived.Test.YgcfaiDefJ
namespace Go.Proofs.Ygcfai
open Go.RowKit Go.Joins Plain
set_option linter.unusedVariables false
set_option linter.unusedSimpArgs false
set_option maxRecDepth 100000 in
set_option maxHeartbeats 1000000 in
theorem place_str (w : World) (gc ga ca gn n c : Nat) (o : Option Addr) (ws : List Int) (cg : Array Value) (hgc : w.heap[gc]? = some (.cells cg 226 (0, 0))) (h1 : w.cell? ⟨gc, 1, none⟩ = some (.slice (some ⟨ga, 0, none⟩) 1 ca)) (hne : ga ≠ gc) (hca : 1 ≤ ca)
    (hO : w.ownsRow 0 49 1 (.slice (some ⟨ga, 0, none⟩) 1 ca) 1 [.int .u64 0]) (n0 : w.cell? ⟨gn, 0, none⟩ = some (.int .u8 1)) (n2 : w.cell? ⟨gn, 2, none⟩ = some (.slice o n c)) (n3 : w.cell? ⟨gn, 3, none⟩ = some (.slice none 0 0)) (hr : Row w o n ws) (hn : n ≤ 8) (hgn : gn ≠ gc) (hga : gn ≠ ga) (hln : gn < w.heap.size) (hoa : ∀ b off, o = some ⟨b, off, none⟩ → n = 0 ∨ b ≠ ga) :
    Calls Faig.prog 124 #[.pointer (some ⟨gc, 0, none⟩), .int .u16 0, .pointer (some ⟨gn, 0, none⟩)] w fun e w' => e = .returned (.tuple #[]) ∧ SecP w w' gc ga n (.int .u64 (msv 0 1 n 0) :: ws.map (Value.int .u64)) := by
  obtain ⟨gx, cx, ex, lx, kx, fx⟩ := row_cells hO Nat.one_pos
  have hx' : ga = gx := by injection ex with h1; injection h1 with h1; injection h1 with h1
  subst hx'
  have a0 := kx 0 _ rfl
  have af := fx 0
  have e1 : IntKind.u8.wrap (n : Int) = n := wrapU8_in _ (by omega) (by omega)
  have e2 : IntKind.u8.wrap 0 = 0 := by decide
  have hgc1 : Hid ((w.setCell ⟨ga, 0, none⟩ (.int .u64 (msv 0 1 n 0))).drew.heap[gc]? = some (.cells cg 226 (0, 0))) := (Below.heap_setCell _ _ _ _ (fun e => hne e.symm)).trans hgc
  have hO1 : Hid ((w.setCell ⟨ga, 0, none⟩ (.int .u64 (msv 0 1 n 0))).drew.ownsRow 0 49 1 (.slice (some ⟨ga, 0, none⟩) 1 ca) 1 [.int .u64 (msv 0 1 n 0)]) := ownsRow_set hO 0 _
  have cell1 : ∀ b i v, b ≠ ga → w.cell? ⟨b, i, none⟩ = some v → (w.setCell ⟨ga, 0, none⟩ (.int .u64 (msv 0 1 n 0))).drew.cell? ⟨b, i, none⟩ = some v := fun b i v hb hv => (World.cell?_setCell_other _ _ _ _ (by simp [hb])).trans hv
  have hA1 : Hid ((w.setCell ⟨ga, 0, none⟩ (.int .u64 (msv 0 1 n 0))).drew.cell? ⟨gc, 1, none⟩ = some (.slice (some ⟨ga, 0, none⟩) 1 ca)) := cell1 _ _ _ (fun e => hne e.symm) h1
  have hN2 : Hid ((w.setCell ⟨ga, 0, none⟩ (.int .u64 (msv 0 1 n 0))).drew.cell? ⟨gn, 2, none⟩ = some (.slice o n c)) := cell1 _ _ _ hga n2
  have hN3 : Hid ((w.setCell ⟨ga, 0, none⟩ (.int .u64 (msv 0 1 n 0))).drew.cell? ⟨gn, 3, none⟩ = some (.slice none 0 0)) := cell1 _ _ _ hga n3
  have hR1 : Hid (Row (w.setCell ⟨ga, 0, none⟩ (.int .u64 (msv 0 1 n 0))).drew o n ws) := (hr.putcell 0 _ hoa).drew
  have F1 : Hid (Fr w (w.setCell ⟨ga, 0, none⟩ (.int .u64 (msv 0 1 n 0))).drew (fun k => k = gc ∨ k = ga)) := ⟨rfl, rfl, rfl, by show w.heap.size ≤ (w.setCell ⟨ga, 0, none⟩ (.int .u64 (msv 0 1 n 0))).heap.size; rw [size_setCell]; exact Nat.le_refl _, fun k hk hB => Below.heap_setCell _ _ _ _ (fun e => hB (Or.inr e))⟩
  have C1 : Hid (∀ i, (w.setCell ⟨ga, 0, none⟩ (.int .u64 (msv 0 1 n 0))).drew.cell? ⟨gc, i, none⟩ = w.cell? ⟨gc, i, none⟩) := fun i => World.cell?_setCell_other _ _ _ _ (by simp <;> omega)
  have z1 : Hid ((w.setCell ⟨ga, 0, none⟩ (.int .u64 (msv 0 1 n 0))).drew.heap.size = w.heap.size) := size_setCell _ _ _
  clear hgc hO cell1 hr kx fx ex
  go_enter Faig.func124, Faig.ntmps124
  go_wp2_with fail
  refine region_tail 21 (by kernel_rfl) (by kernel_rfl) ?_
  simp only [List.take_succ_cons, List.take_zero, List.drop_succ_cons, List.drop_zero]
  repeat still_step
  still_call (makeStruct_any 0 1 n 0 ⟨by omega, by omega⟩ ⟨by omega, by omega⟩ ⟨by omega, by omega⟩ ⟨by omega, by omega⟩ _)
  repeat still_step
  refine wpStill_nil ?_
  go_wp2_with fail
  generalize (w.setCell ⟨ga, 0, none⟩ (.int .u64 (msv 0 1 n 0))).drew = w1 at *
  refine (sections_str w1 gc ga ca gn n c o ws _ cg hgc1.out hA1.out hne hca hO1.out hN2.out hN3.out hR1.out hn hgn hga (by rw [z1.out]; exact hln)).mono ?_
  rintro e w2 ⟨rfl, g', cap', s1, s2, s3, s4, s5⟩
  have hb2 : w2.heap[gn]? = w1.heap[gn]? := s4.block gn (by rw [z1.out]; exact hln) (fun h => by rcases h with h | h; exact hgn h; exact hga h)
  have k2 : w2.cell? ⟨gn, 2, none⟩ = some (.slice o n c) := (World.cell?_of_block (w := w1) (a := ⟨gn, 2, none⟩) hb2).trans hN2.out
  have k3 : w2.cell? ⟨gn, 3, none⟩ = some (.slice none 0 0) := (World.cell?_of_block (w := w1) (a := ⟨gn, 3, none⟩) hb2).trans hN3.out
  have HS : Hid (SecP w w2 gc ga n (.int .u64 (msv 0 1 n 0) :: ws.map (Value.int .u64))) := ⟨g', cap', s1, fun i hi => (s2 i hi).trans (C1.out i), s3, F1.out.trans s4 (fun i hi => Or.inl hi), by rw [← z1.out]; exact s5⟩
  clear s1 s2 s3 s4 s5 hb2
  go_wp2_with fail
  refine (canKids w2 gc gn n c o k2 k3 hn).mono ?_
  rintro e w3 ⟨rfl, hw3⟩
  subst w3
  go_wp2_with fail
  refine bodyPost_end (v := .tuple #[]) (by simp [results, Faig.f124]) rfl ?_
  exact ⟨rfl, HS.out⟩
end Go.Proofs.Ygcfai

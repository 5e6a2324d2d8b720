/-
  DefaultBack: newStruct, Do of NewStruct.
-/
import Derived.Test.YgcfaiDefJ
namespace Go.Proofs.Ygcfai
open Go.RowKit Go.Joins Plain
set_option linter.unusedVariables false
set_option linter.unusedSimpArgs false

/-- The rows of a builder with one struct of d data words. -/
def strL (d : Nat) (vA vO vU vV vD vE : Value) (xs : List Value) : List BR := BL ⟨vA, 49, 1, 1 + d, xs⟩ vO vU vV vD vE 2 2 2 2 2
  [.int .u8 1, .int .u16 0, .int .u8 0, .int .u8 1, .int .u8 0, .int .u16 0, .int .u8 1, .int .u16 1, .int .u8 d, .int .u8 0, .int .u8 0, .int .u16 0] [.int .u8 0, .int .u8 0] [.int .u8 0, .int .u8 0] [.int .u8 0, .int .u8 1] [.bool false, .bool false]
def NSPost (w w' : World) (g d : Nat) (L : List BR) : Prop := ∃ vA vO vU vV vD vE : Value,
  BW w' g (strL d vA vO vU vV vD vE (.int .u64 (msv 0 1 d 0) :: List.replicate d (.int .u64 0))) ∧ Fr w w' (Bl g L) ∧ ∀ k, Bl g (strL d vA vO vU vV vD vE (.int .u64 (msv 0 1 d 0) :: List.replicate d (.int .u64 0))) k → Bl g L k ∨ w.heap.size ≤ k

/-- The two variables of newStruct: op at block B, p at block C. -/
structure Opp (w : World) (B C d : Nat) (sv : Value) : Prop where
  a0 : w.cell? ⟨B, 0, none⟩ = some (.int .u8 0)
  a1 : w.cell? ⟨B, 1, none⟩ = some (.int .u8 0)
  a2 : w.cell? ⟨B, 2, none⟩ = some (.int .u8 0)
  a3 : w.cell? ⟨B, 3, none⟩ = some (.int .u8 d)
  a4 : w.cell? ⟨B, 4, none⟩ = some (.int .u8 0)
  a5 : w.cell? ⟨B, 5, none⟩ = some (.int .u16 0)
  a6 : w.cell? ⟨B, 6, none⟩ = some (.int .u64 0)
  a7 : w.cell? ⟨B, 7, none⟩ = some sv
  c0 : w.cell? ⟨C, 0, none⟩ = some (.int .u8 1)
  c1 : w.cell? ⟨C, 1, none⟩ = some (.int .u16 1)
  c2 : w.cell? ⟨C, 2, none⟩ = some (.int .u8 d)
  c3 : w.cell? ⟨C, 3, none⟩ = some (.int .u8 0)
  c4 : w.cell? ⟨C, 4, none⟩ = some (.int .u8 0)
  c5 : w.cell? ⟨C, 5, none⟩ = some (.int .u16 0)
  lb : B < w.heap.size
  lc : C < w.heap.size
theorem Opp.keep {w w' : World} {B C d : Nat} {sv : Value} (h : Opp w B C d sv) (hB : w'.heap[B]? = w.heap[B]?) (hC : w'.heap[C]? = w.heap[C]?) (hz : w.heap.size ≤ w'.heap.size) : Opp w' B C d sv := by
  have kB : ∀ i v, w.cell? ⟨B, i, none⟩ = some v → w'.cell? ⟨B, i, none⟩ = some v := fun i v hv => by rw [World.cell?_of_block (w := w) (a := ⟨B, i, none⟩) hB]; exact hv
  have kC : ∀ i v, w.cell? ⟨C, i, none⟩ = some v → w'.cell? ⟨C, i, none⟩ = some v := fun i v hv => by rw [World.cell?_of_block (w := w) (a := ⟨C, i, none⟩) hC]; exact hv
  exact ⟨kB _ _ h.a0, kB _ _ h.a1, kB _ _ h.a2, kB _ _ h.a3, kB _ _ h.a4, kB _ _ h.a5, kB _ _ h.a6, kB _ _ h.a7, kC _ _ h.c0, kC _ _ h.c1, kC _ _ h.c2, kC _ _ h.c3, kC _ _ h.c4, kC _ _ h.c5, Nat.lt_of_lt_of_le h.lb hz, Nat.lt_of_lt_of_le h.lc hz⟩
theorem Opp.below {w w' : World} {B C d : Nat} {sv : Value} (h : Opp w B C d sv) (hb : Below w.heap.size w w') : Opp w' B C d sv := h.keep (hb.block _ h.lb) (hb.block _ h.lc) hb.size
theorem Opp.start (w : World) (d : Nat) (sv : Value) : Opp ((w.alloc (.cells #[.int .u8 0, .int .u8 0, .int .u8 0, .int .u8 d, .int .u8 0, .int .u16 0, .int .u64 0, sv] 76 (0, 0))).alloc (.cells #[.int .u8 1, .int .u16 1, .int .u8 d, .int .u8 0, .int .u8 0, .int .u16 0] 88 (0, 0))).drew w.heap.size (w.heap.size + 1) d sv := by
  have hC : ((w.alloc (.cells #[.int .u8 0, .int .u8 0, .int .u8 0, .int .u8 d, .int .u8 0, .int .u16 0, .int .u64 0, sv] 76 (0, 0))).alloc (.cells #[.int .u8 1, .int .u16 1, .int .u8 d, .int .u8 0, .int .u8 0, .int .u16 0] 88 (0, 0))).drew.heap[w.heap.size + 1]? = some (.cells #[.int .u8 1, .int .u16 1, .int .u8 d, .int .u8 0, .int .u8 0, .int .u16 0] 88 (0, 0)) := by
    show ((w.heap.push _).push _)[w.heap.size + 1]? = _
    rw [Array.getElem?_push, if_pos (by simp)]
  have hB : ((w.alloc (.cells #[.int .u8 0, .int .u8 0, .int .u8 0, .int .u8 d, .int .u8 0, .int .u16 0, .int .u64 0, sv] 76 (0, 0))).alloc (.cells #[.int .u8 1, .int .u16 1, .int .u8 d, .int .u8 0, .int .u8 0, .int .u16 0] 88 (0, 0))).drew.heap[w.heap.size]? = some (.cells #[.int .u8 0, .int .u8 0, .int .u8 0, .int .u8 d, .int .u8 0, .int .u16 0, .int .u64 0, sv] 76 (0, 0)) := by
    show ((w.heap.push _).push _)[w.heap.size]? = _
    rw [Array.getElem?_push, if_neg (by simp), Array.getElem?_push, if_pos rfl]
  refine ⟨?_, ?_, ?_, ?_, ?_, ?_, ?_, ?_, ?_, ?_, ?_, ?_, ?_, ?_, (Array.getElem?_eq_some_iff.1 hB).1, (Array.getElem?_eq_some_iff.1 hC).1⟩
  all_goals first | (rw [cell_of_block hB]; rfl) | (rw [cell_of_block hC]; rfl)

set_option maxRecDepth 100000 in
set_option maxHeartbeats 2000000 in
theorem newStruct_new (w : World) (g ga d : Nat) (vO vU vV vD vE sv : Value) (h : BW w g (newL ga vO vU vV vD vE)) (hd : d ≤ 8) :
    Calls Faig.prog 73 #[.pointer (some ⟨g, 0, none⟩), .agg #[.int .u8 0, .int .u8 0, .int .u8 0, .int .u8 d, .int .u8 0, .int .u16 0, .int .u64 0, sv]] w fun e w' => e = .returned (.bool true) ∧ NSPost w w' g d (newL ga vO vU vV vD vE) := by
  obtain ⟨go, co, gu, cu, gv, cv, gd, cd, ge, ce, rfl, rfl, rfl, rfl, rfl, N⟩ := Nb.of h
  have hA := N.gA
  have l0 := N.l0
  have HN : Hid (∀ w', Below w.heap.size w w' → Nb w' g ga go co gu cu gv cv gd cd ge ce) := fun w' hb => N.below hb
  have HH : Hid _ := h
  clear h N
  go_enter Faig.func73, Faig.ntmps73
  go_wp2
  go_region
  have hop := Opp.start w d sv
  have b0 : Below w.heap.size w ((w.alloc (.cells #[.int .u8 0, .int .u8 0, .int .u8 0, .int .u8 d, .int .u8 0, .int .u16 0, .int .u64 0, sv] 76 (0, 0))).alloc (.cells #[.int .u8 1, .int .u16 1, .int .u8 d, .int .u8 0, .int .u8 0, .int .u16 0] 88 (0, 0))).drew := ((Below.alloc (Below.refl _ w) (Nat.le_refl _) _).alloc (by simp) _).drew
  go_wp2_with fail
  refine (words_any 1 1 d 0 0 0 ⟨by omega, by omega⟩ ⟨by omega, by omega⟩ ⟨by omega, by omega⟩ ⟨by omega, by omega⟩ ⟨by omega, by omega⟩ ⟨by omega, by omega⟩ _).mono ?_
  rw [show words 1 d 0 0 0 = (d : Int) by unfold words; simp; omega]
  rintro e w1 ⟨rfl, hb1⟩
  have hop1 := hop.below hb1
  have b1 : Hid (Below w.heap.size w w1) := b0.trans (hb1.mono b0.size)
  clear hb1 hop b0
  have N1 : Hid (Nb w1 g ga go co gu cu gv cv gd cd ge ce) := HN.out _ b1.out
  obtain ⟨a0, a1, a2, a3, a4, a5, a6, a7, c0, c1, c2, c3, c4, c5, lb, lc⟩ := hop1
  have HO1 : Hid (Opp w1 w.heap.size (w.heap.size + 1) d sv) := ⟨a0, a1, a2, a3, a4, a5, a6, a7, c0, c1, c2, c3, c4, c5, lb, lc⟩
  go_wp2_with fail
  refine (room_new _ g ga go co gu cu gv cv gd cd ge ce N1.out d 0 sv 0 d 0 (by omega) (by omega)).mono ?_
  rintro e w2 ⟨rfl, hb2⟩
  have hop2 := HO1.out.below hb2
  have b2 : Hid (Below w.heap.size w w2) := b1.out.trans (hb2.mono b1.out.size)
  clear hb2 HO1 N1 b1 a0 a1 a2 a3 a4 a5 a6 a7 c0 c1 c2 c3 c4 c5 lb lc
  have N2 := HN.out _ b2.out
  have B2 : Hid (BW w2 g _) := HH.out.keep (fun k hk _ => b2.out.block k hk)
  obtain ⟨a0, a1, a2, a3, a4, a5, a6, a7, c0, c1, c2, c3, c4, c5, lb, lc⟩ := hop2
  have HO2 : Hid (Opp w2 w.heap.size (w.heap.size + 1) d sv) := ⟨a0, a1, a2, a3, a4, a5, a6, a7, c0, c1, c2, c3, c4, c5, lb, lc⟩
  have gA2 := N2.gA; have gw2 := N2.word; have gf2 := N2.free
  clear N2
  go_wp2_with fail
  refine region_tail 14 (by kernel_rfl) (by kernel_rfl) ?_
  simp only [List.take_succ_cons, List.take_zero, List.drop_succ_cons, List.drop_zero]
  repeat still_step
  still_call (makeStruct_any 0 1 d 0 ⟨by omega, by omega⟩ ⟨by omega, by omega⟩ ⟨by omega, by omega⟩ ⟨by omega, by omega⟩ _)
  repeat still_step
  refine wpStill_nil ?_
  have P3 := B2.out.put (i := 0) (r := ⟨.slice (some ⟨ga, 0, none⟩) 1 1, 49, 1, 1, [.int .u64 0]⟩) rfl rfl 0 (.int .u64 (msv 0 1 d 0))
  have B3 : Hid (BW (w2.setCell ⟨ga, 0, none⟩ (.int .u64 (msv 0 1 d 0))).drew g (BL ⟨.slice (some ⟨ga, 0, none⟩) 1 1, 49, 1, 1, [.int .u64 (msv 0 1 d 0)]⟩ (.slice (some ⟨go, 0, none⟩) 1 co) (.slice (some ⟨gu, 0, none⟩) 1 cu) (.slice (some ⟨gv, 0, none⟩) 1 cv) (.slice (some ⟨gd, 0, none⟩) 1 cd) (.slice (some ⟨ge, 0, none⟩) 1 ce) 1 1 1 1 1 [.int .u8 1, .int .u16 0, .int .u8 0, .int .u8 1, .int .u8 0, .int .u16 0] [.int .u8 0] [.int .u8 0] [.int .u8 0] [.bool false])) := P3.1.keep (fun k _ _ => rfl)
  have F3 : Hid (Fr w2 (w2.setCell ⟨ga, 0, none⟩ (.int .u64 (msv 0 1 d 0))).drew (Bl g (newL ga (.slice (some ⟨go, 0, none⟩) 1 co) (.slice (some ⟨gu, 0, none⟩) 1 cu) (.slice (some ⟨gv, 0, none⟩) 1 cv) (.slice (some ⟨gd, 0, none⟩) 1 cd) (.slice (some ⟨ge, 0, none⟩) 1 ce)))) := ⟨P3.2.1.os, P3.2.1.tape, P3.2.1.output, P3.2.1.size, P3.2.1.block⟩
  have NN3 : Hid (∀ k, Bl g _ k → Bl g _ k) := P3.2.2
  have old : Hid (∀ k, Bl g _ k → k < w.heap.size) := fun k hk => Bl.lt HH.out hk
  have hga : ga < w.heap.size := old.out ga (Or.inr ⟨0, _, rfl, rfl⟩)
  have O3 : Hid (Opp (w2.setCell ⟨ga, 0, none⟩ (.int .u64 (msv 0 1 d 0))).drew w.heap.size (w.heap.size + 1) d sv) := HO2.out.keep (Below.heap_setCell _ _ _ _ (by show w.heap.size ≠ ga; omega)) (Below.heap_setCell _ _ _ _ (by show w.heap.size + 1 ≠ ga; omega)) (by show w2.heap.size ≤ (w2.setCell ⟨ga, 0, none⟩ (.int .u64 (msv 0 1 d 0))).heap.size; rw [size_setCell]; exact Nat.le_refl _)
  clear P3 HO2 B2 hga
  go_wp2_with fail
  generalize (w2.setCell ⟨ga, 0, none⟩ (.int .u64 (msv 0 1 d 0))).drew = w3 at B3 F3 NN3 O3 ⊢
  clear a0 a1 a2 a3 a4 a5 a6 a7 c0 c1 c2 c3 c4 c5 lb lc gA2 gw2 gf2
  refine (grow_any w3 g 1 d _ _ _ B3.out rfl (by omega)).mono ?_
  rintro e w4 ⟨rfl, vA, B4, F4, N4⟩
  have nb : ∀ k, w.heap.size ≤ k → ¬ Bl g _ k := fun k hk hb => absurd (old.out k (NN3.out k hb)) (by omega)
  obtain ⟨a0, a1, a2, a3, a4, a5, a6, a7, c0, c1, c2, c3, c4, c5, lb, lc⟩ := O3.out.keep (F4.block _ O3.out.lb (nb _ (Nat.le_refl _))) (F4.block _ O3.out.lc (nb _ (Nat.le_succ _))) F4.size
  clear nb
  have F4' : Hid (Fr w3 w4 _) := F4
  have N4' : Hid (∀ k, Bl g _ k → Bl g _ k ∨ w3.heap.size ≤ k) := N4
  change BW w4 g (BL ⟨vA, 49, 1, 1 + d, [.int .u64 (msv 0 1 d 0)] ++ List.replicate d (.int .u64 0)⟩ _ _ _ _ _ 1 1 1 1 1 _ _ _ _ _) at B4
  have y8 : w4.cell? ⟨g, 8, none⟩ = some (.slice (some ⟨gd, 0, none⟩) 1 cd) := B4.cell (i := 4) rfl
  have z0 : w4.cell? ⟨gd, 0, none⟩ = some (.int .u8 0) := by
    obtain ⟨gx, cx, ex, lx, kx, -⟩ := row_cells (B4.own 4 _ rfl) Nat.one_pos
    have hx : gd = gx := by injection ex with h1; injection h1 with h1; injection h1 with h1
    subst hx; exact kx 0 _ rfl
  have B4' : Hid (BW w4 g _) := B4
  have e1 : IntKind.u16.wrap (1 + (d : Int)) = 1 + d := wrapU16_in _ (by omega) (by omega)
  clear B4 F4 N4 O3 B3
  go_wp2_with fail
  refine (mark_0 _ g (1 + d) true (by omega) (by omega)).mono ?_
  rintro e w5 ⟨rfl, hw5⟩
  subst w5
  go_wp2_with fail
  refine region_tail 15 (by kernel_rfl) (by kernel_rfl) ?_
  simp only [List.take_succ_cons, List.take_zero, List.drop_succ_cons, List.drop_zero]
  repeat still_step
  refine wpStill_nil ?_
  go_wp2_with fail
  have B5 : BW w4.drew g _ := B4'.out.keep (fun k _ _ => rfl)
  refine (hang_S _ g 1 _ _ _ _ _ _ _ _ _ _ _ 1 1 d 0 0 0 0 0 1 B5 (by decide)).mono ?_
  rintro e w6 ⟨rfl, vO, vU, vV, vD, vE, B6, F6, N6⟩
  have P6 : Hid (NSPost w w6 g d (newL ga (.slice (some ⟨go, 0, none⟩) 1 co) (.slice (some ⟨gu, 0, none⟩) 1 cu) (.slice (some ⟨gv, 0, none⟩) 1 cv) (.slice (some ⟨gd, 0, none⟩) 1 cd) (.slice (some ⟨ge, 0, none⟩) 1 ce))) := by
    have G2 := (Fr.of_below (B := Bl g (newL ga (.slice (some ⟨go, 0, none⟩) 1 co) (.slice (some ⟨gu, 0, none⟩) 1 cu) (.slice (some ⟨gv, 0, none⟩) 1 cv) (.slice (some ⟨gd, 0, none⟩) 1 cd) (.slice (some ⟨ge, 0, none⟩) 1 ce))) b2.out)
    have G3 := G2.trans F3.out (fun i hi => Or.inl hi)
    have G4 := G3.trans F4'.out (fun i hi => Or.inl (NN3.out i hi))
    have M4 := fun k hk => (N4'.out k hk).elim (fun h => Or.inl (NN3.out k h)) (fun h => Or.inr (Nat.le_trans G3.size h))
    have F6' : Fr w4 w6 _ := ⟨F6.os, F6.tape, F6.output, F6.size, F6.block⟩
    have G6 := G4.trans F6' M4
    exact ⟨_, _, _, _, _, _, B6, G6, fun k hk => (N6 k hk).elim (M4 k) (fun h => Or.inr (Nat.le_trans G4.size h))⟩
  clear B6 F6 N6 B5
  go_wp2_with fail
  go_ret
  exact ⟨rfl, P6.out⟩

theorem doNew (w : World) (g ga d : Nat) (vO vU vV vD vE sv : Value) (h : BW w g (newL ga vO vU vV vD vE)) (hd : d ≤ 8) :
    Calls Faig.prog 30 #[.pointer (some ⟨g, 0, none⟩), .agg #[.int .u8 0, .int .u8 0, .int .u8 0, .int .u8 d, .int .u8 0, .int .u16 0, .int .u64 0, sv]] w fun e w' => e = .returned (.bool true) ∧ NSPost w w' g d (newL ga vO vU vV vD vE) := by
  obtain ⟨go, co, gu, cu, gv, cv, gd, cd, ge, ce, rfl, rfl, rfl, rfl, rfl, N⟩ := Nb.of h
  have h5 := N.gO; have h9 := N.gE; have hdd := N.dead
  have l0 := N.l0; have l4 := N.l4
  have HD : Hid (∀ (o : Obj) (n : Nat), Nb ((w.alloc o).drewN n) g ga go co gu cu gv cv gd cd ge ce) := fun o n => N.below (below_drewN ((Below.refl _ _).alloc (Nat.le_refl _) o) n)
  have HB : Hid (∀ (o : Obj) (n : Nat), BW ((w.alloc o).drewN n) g (newL ga (.slice (some ⟨go, 0, none⟩) 1 co) (.slice (some ⟨gu, 0, none⟩) 1 cu) (.slice (some ⟨gv, 0, none⟩) 1 cv) (.slice (some ⟨gd, 0, none⟩) 1 cd) (.slice (some ⟨ge, 0, none⟩) 1 ce))) := fun o n => h.keep (fun k hk _ => (below_drewN ((Below.refl w.heap.size w).alloc (Nat.le_refl _) o) n).block k hk)
  have HF : Hid (∀ (o : Obj) (n : Nat), Fr w ((w.alloc o).drewN n) (Bl g (newL ga (.slice (some ⟨go, 0, none⟩) 1 co) (.slice (some ⟨gu, 0, none⟩) 1 cu) (.slice (some ⟨gv, 0, none⟩) 1 cv) (.slice (some ⟨gd, 0, none⟩) 1 cd) (.slice (some ⟨ge, 0, none⟩) 1 ce)))) := fun o n => Fr.of_below (below_drewN ((Below.refl w.heap.size w).alloc (Nat.le_refl _) o) n)
  clear h N
  go_enter Faig.func30, Faig.ntmps30
  go_wp2
  go_quiet ((go_at_call 72; exact Calls.quiet_of_same (even_new _ g ga go co gu cu gv cv gd cd ge ce (HD.out _ _))))
  go_wp2_with fail
  refine (newStruct_new _ g ga d _ _ _ _ _ _ (HB.out _ _) hd).mono ?_
  rintro e w1 ⟨rfl, vA, vO, vU, vV, vD, vE, B1, F1, N1⟩
  have P1 : Hid (NSPost w w1 g d _) := ⟨vA, vO, vU, vV, vD, vE, B1, (HF.out _ _).trans F1 (fun i hi => Or.inl hi), fun k hk => (N1 k hk).elim Or.inl (fun h => Or.inr (Nat.le_trans (HF.out _ _).size h))⟩
  clear B1 F1 N1
  go_wp2_with fail
  go_ret
  exact ⟨rfl, P1.out⟩
end Go.Proofs.Ygcfai

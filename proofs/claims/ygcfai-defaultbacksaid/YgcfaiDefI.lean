/-
  DefaultBack: Do of NewStruct at a new builder.
-/
import Derived.Test.YgcfaiDefH
import Derived.BigQuiet
namespace Go.Proofs.Ygcfai
open Go.RowKit Go.Joins Plain
set_option linter.unusedVariables false
set_option linter.unusedSimpArgs false

theorem row_cells {w : World} {e : TypeId} {z n : Nat} {v : Value} {xs : List Value} (h : w.ownsRow 0 e z v n xs) (hn : 0 < n) :
    ∃ g cap, v = .slice (some ⟨g, 0, none⟩) n cap ∧ g < w.heap.size ∧ (∀ j u, xs[j]? = some u → w.cell? ⟨g, j, none⟩ = some u) ∧ ∀ j, w.frozen? ⟨g, j, none⟩ = false := by
  rcases h.2 with ⟨-, h0⟩ | ⟨g, cap, cur, rfl, -, hh, q1, q2, q3, q4⟩
  · omega
  · refine ⟨g, cap, rfl, (Array.getElem?_eq_some_iff.1 hh).1, fun j u hu => ?_, fun j => unfrozen_of_block hh j⟩
    have hj : j < xs.length := (List.getElem?_eq_some_iff.1 hu).1
    rw [cell_of_block hh]
    rw [← q4, List.getElem?_take] at hu
    split at hu
    · rw [Array.getElem?_toList] at hu; exact hu
    · cases hu

theorem markSlots_0 (w : World) (p : Value) (a : Int) (b : Bool) (h0 : 0 ≤ a) (h1 : a < 65536) :
    Calls Faig.prog 139 #[p, .int .u16 a, .int .u16 0, .bool b] w fun e w' => e = .returned (.tuple #[]) ∧ w' = w := by
  have hw : IntKind.u16.wrap a = a := wrapU16_in a h0 h1
  have hb : decide (a < a) = false := by simp
  go_enter Faig.func139, Faig.ntmps139
  go_wp2_with fail
  go_loop [8] (fun i => i = .int .u16 a) (fun _ => 0)
  case atStart => rfl
  case round =>
    subst hrel
    go_wp2_with fail
    refine bodyPost_end (v := .tuple #[]) (by simp [results, Faig.f139]) rfl ?_
    exact ⟨rfl, rfl⟩
theorem mark_0 (w : World) (g : Nat) (a : Int) (b : Bool) (h0 : 0 ≤ a) (h1 : a < 65536) :
    Calls Faig.prog 113 #[.pointer (some ⟨g, 0, none⟩), .int .u16 a, .int .u16 0, .bool b] w fun e w' => e = .returned (.tuple #[]) ∧ w' = w := by
  go_enter Faig.func113, Faig.ntmps113
  go_wp2_with fail
  refine (markSlots_0 _ _ a b h0 h1).mono ?_
  rintro e w' ⟨rfl, hw'⟩
  subst w'
  go_wp2_with fail
  refine bodyPost_end (v := .tuple #[]) (by simp [results, Faig.f113]) rfl ?_
  exact ⟨rfl, rfl⟩

/-- A builder just made, spelt out. -/
structure Nb (w : World) (g ga go co gu cu gv cv gd cd ge ce : Nat) : Prop where
  gA : w.cell? ⟨g, 0, none⟩ = some (.slice (some ⟨ga, 0, none⟩) 1 1)
  gO : w.cell? ⟨g, 5, none⟩ = some (.slice (some ⟨go, 0, none⟩) 1 co)
  gU : w.cell? ⟨g, 6, none⟩ = some (.slice (some ⟨gu, 0, none⟩) 1 cu)
  gV : w.cell? ⟨g, 7, none⟩ = some (.slice (some ⟨gv, 0, none⟩) 1 cv)
  gD : w.cell? ⟨g, 8, none⟩ = some (.slice (some ⟨gd, 0, none⟩) 1 cd)
  gE : w.cell? ⟨g, 9, none⟩ = some (.slice (some ⟨ge, 0, none⟩) 1 ce)
  o0 : w.cell? ⟨go, 0, none⟩ = some (.int .u8 1)
  o1 : w.cell? ⟨go, 1, none⟩ = some (.int .u16 0)
  o2 : w.cell? ⟨go, 2, none⟩ = some (.int .u8 0)
  o3 : w.cell? ⟨go, 3, none⟩ = some (.int .u8 1)
  o4 : w.cell? ⟨go, 4, none⟩ = some (.int .u8 0)
  o5 : w.cell? ⟨go, 5, none⟩ = some (.int .u16 0)
  dep : w.cell? ⟨gd, 0, none⟩ = some (.int .u8 0)
  dead : w.cell? ⟨ge, 0, none⟩ = some (.bool false)
  word : w.cell? ⟨ga, 0, none⟩ = some (.int .u64 0)
  free : w.frozen? ⟨ga, 0, none⟩ = false
  l0 : g < w.heap.size
  l1 : ga < w.heap.size
  l2 : go < w.heap.size
  l3 : gd < w.heap.size
  l4 : ge < w.heap.size
theorem Nb.below {w w' : World} {g ga go co gu cu gv cv gd cd ge ce : Nat} (h : Nb w g ga go co gu cu gv cv gd cd ge ce) (hb : Below w.heap.size w w') : Nb w' g ga go co gu cu gv cv gd cd ge ce := by
  have hz := hb.size
  have key : ∀ b o v, b < w.heap.size → w.cell? ⟨b, o, none⟩ = some v → w'.cell? ⟨b, o, none⟩ = some v := by
    intro b o v h1 h3
    rw [hb.cell (p := ⟨b, o, none⟩) h1]; exact h3
  exact ⟨key _ _ _ h.l0 h.gA, key _ _ _ h.l0 h.gO, key _ _ _ h.l0 h.gU, key _ _ _ h.l0 h.gV, key _ _ _ h.l0 h.gD, key _ _ _ h.l0 h.gE,
    key _ _ _ h.l2 h.o0, key _ _ _ h.l2 h.o1, key _ _ _ h.l2 h.o2, key _ _ _ h.l2 h.o3, key _ _ _ h.l2 h.o4, key _ _ _ h.l2 h.o5, key _ _ _ h.l3 h.dep, key _ _ _ h.l4 h.dead,
    key _ _ _ h.l1 h.word, by rw [hb.frozen (p := ⟨ga, 0, none⟩) h.l1]; exact h.free, by have := h.l0; omega, by have := h.l1; omega, by have := h.l2; omega, by have := h.l3; omega, by have := h.l4; omega⟩
theorem Nb.of {w : World} {g ga : Nat} {vO vU vV vD vE : Value} (h : BW w g (newL ga vO vU vV vD vE)) : ∃ go co gu cu gv cv gd cd ge ce, vO = .slice (some ⟨go, 0, none⟩) 1 co ∧ vU = .slice (some ⟨gu, 0, none⟩) 1 cu ∧ vV = .slice (some ⟨gv, 0, none⟩) 1 cv ∧ vD = .slice (some ⟨gd, 0, none⟩) 1 cd ∧ vE = .slice (some ⟨ge, 0, none⟩) 1 ce ∧ Nb w g ga go co gu cu gv cv gd cd ge ce := by
  obtain ⟨go, co, e1, l1, c1, -⟩ := row_cells (h.own 1 _ rfl) Nat.one_pos
  obtain ⟨gu, cu, e2, l2, c2, -⟩ := row_cells (h.own 2 _ rfl) Nat.one_pos
  obtain ⟨gv, cv, e3, l3, c3, -⟩ := row_cells (h.own 3 _ rfl) Nat.one_pos
  obtain ⟨gd, cd, e4, l4, c4, -⟩ := row_cells (h.own 4 _ rfl) Nat.one_pos
  obtain ⟨ge, ce, e5, l5, c5, -⟩ := row_cells (h.own 5 _ rfl) Nat.one_pos
  obtain ⟨gx, cx, e0, l0, c0, f0⟩ := row_cells (h.own 0 _ rfl) Nat.one_pos
  have hx : gx = ga := by injection e0 with h1 h2 h3; injection h1 with h1; injection h1 with h1; exact h1.symm
  subst hx
  simp only at e1 e2 e3 e4 e5
  have r0 := h.cell (i := 0) rfl; have r1 := h.cell (i := 1) rfl; have r2 := h.cell (i := 2) rfl; have r3 := h.cell (i := 3) rfl; have r4 := h.cell (i := 4) rfl; have r5 := h.cell (i := 5) rfl
  refine ⟨go, co, gu, cu, gv, cv, gd, cd, ge, ce, e1, e2, e3, e4, e5, ?_⟩
  subst e1 e2 e3 e4 e5
  exact ⟨r0, r1, r2, r3, r4, r5, c1 0 _ rfl, c1 1 _ rfl, c1 2 _ rfl, c1 3 _ rfl, c1 4 _ rfl, c1 5 _ rfl, c4 0 _ rfl, c5 0 _ rfl, c0 0 _ rfl, f0 0, h.lt, l0, l1, l4, l5⟩

theorem even_new (w : World) (g ga go co gu cu gv cv gd cd ge ce : Nat) (h : Nb w g ga go co gu cu gv cv gd cd ge ce) :
    Calls Faig.prog 72 #[.pointer (some ⟨g, 0, none⟩)] w fun e w' => e = .returned (.bool true) ∧ w' = w := by
  have h0 := h.gA; have h5 := h.gO; have h6 := h.gU; have h7 := h.gV; have h8 := h.gD; have h9 := h.gE
  clear h
  go_enter Faig.func72, Faig.ntmps72
  go_wp2
  go_ret
  exact ⟨rfl, rfl⟩
set_option maxHeartbeats 1000000 in
theorem slot_new (w : World) (g ga go co gu cu gv cv gd cd ge ce : Nat) (h : Nb w g ga go co gu cu gv cv gd cd ge ce) :
    Calls Faig.prog 118 #[.pointer (some ⟨g, 0, none⟩), .int .u8 0, .int .u8 0] w fun e w' => e = .returned (.tuple #[.int .u16 0, .bool true]) ∧ Below w.heap.size w w' := by
  have h0 := h.gA; have h5 := h.gO
  have q0 := h.o0; have q1 := h.o1; have q2 := h.o2; have q3 := h.o3; have q4 := h.o4; have q5 := h.o5
  have l0 := h.l0; have l2 := h.l2
  clear h
  go_enter Faig.func118, Faig.ntmps118
  go_wp2
  go_quiet (fail)
  go_wp2_with fail
  refine bodyPost_ret (v := .tuple #[.int .u16 0, .bool true]) (by simp [results, Faig.results118, go_sem]) rfl ?_
  refine ⟨rfl, ?_⟩
  go_light
  repeat (first | exact Below.refl _ _ | (refine Below.drew ?_) | (refine below_drewN ?_ _) | (refine Below.alloc ?_ (by simp) _))
set_option maxHeartbeats 1000000 in
theorem room_new (w : World) (g ga go co gu cu gv cv gd cd ge ce : Nat) (h : Nb w g ga go co gu cu gv cv gd cd ge ce) (d n : Int) (sv : Value) (v : Int) (o : Int) (k : Int) (d0 : 0 ≤ d) (d8 : d ≤ 8) :
    Calls Faig.prog 111 #[.pointer (some ⟨g, 0, none⟩), .agg #[.int .u8 k, .int .u8 0, .int .u8 0, .int .u8 o, .int .u8 0, .int .u16 n, .int .u64 v, sv], .int .u16 d, .int .i64 1] w fun e w' => e = .returned (.tuple #[.int .u16 0, .bool true]) ∧ Below w.heap.size w w' := by
  have HB : Hid (∀ o : Obj, Nb (w.alloc o) g ga go co gu cu gv cv gd cd ge ce) := fun o => h.below ((Below.refl _ _).alloc (Nat.le_refl _) o)
  clear h
  go_enter Faig.func111, Faig.ntmps111
  go_wp2_with fail
  refine (slot_new _ g ga go co gu cu gv cv gd cd ge ce (HB.out _)).mono ?_
  rintro e w1 ⟨rfl, hb1⟩
  have h := (HB.out _).below hb1
  have h0 := h.gA; have h5 := h.gO; have h8 := h.gD; have hw := h.word; have hdp := h.dep
  have hop : w1.cell? ⟨w.heap.size, 1, none⟩ = some (.int .u8 0) := by
    rw [hb1.cell (p := ⟨w.heap.size, 1, none⟩) (by simp)]; simp [go_sem]
  have HBL : Hid (Below w.heap.size w w1) := ((Below.refl _ _).alloc (Nat.le_refl _) _).trans (hb1.mono (by simp))
  have e1 : IntKind.i64.wrap d = d := wrapI64_in _ (by omega) (by omega)
  have e2 : IntKind.i64.wrap (1 + d) = 1 + d := wrapI64_in _ (by omega) (by omega)
  have t1 : ¬ (256 < 1 + d) := by omega
  clear h hb1 HB
  go_wp2_with fail
  go_quiet (fail)
  go_wp2_with fail
  refine bodyPost_ret (v := .tuple #[.int .u16 0, .bool true]) (by simp [results, Faig.results111, go_sem]) rfl ?_
  exact ⟨rfl, below_drewN HBL.out _⟩
end Go.Proofs.Ygcfai

/-
  DefaultBack, the writing side: the builder: even, setData.
-/
import Derived.Test.YgcfaiDefC
import Derived.StillTailTactics
namespace Go.Proofs.Ygcfai
open Go.RowKit Plain
set_option linter.unusedVariables false
set_option linter.unusedSimpArgs false

/-- The still tail's law, the draw under its name. -/
theorem region_tail {P : Program} {id : Nat} {Q : Exit → Act → World → Prop} {a : Act} {w : World} {l : List Oper} (n : Nat) (hm : P.follows .mixedOrders = true) (hB : Region.lexTailB .any l.toArray n = true)
    (h : wpStill P l.toArray w.drew (fun a' => wpList P l.toArray Q (l.drop n) a' w.drew) (l.take n) a) : (Code.region id l.toArray true).wp P Q a w := wp_region_still_tail n hm hB h

/-- A builder behind pointer g whose one object, handle 1, is a struct of d data words at index 1; its arena reads la. -/
structure Bld (w : World) (g ga ca go co gu cu gv cv gd cd ge ce : Nat) (d : Int) (la : List Int) : Prop where
  gA : w.cell? ⟨g, 0, none⟩ = some (.slice (some ⟨ga, 0, none⟩) la.length ca)
  gO : w.cell? ⟨g, 5, none⟩ = some (.slice (some ⟨go, 0, none⟩) 2 co)
  gU : w.cell? ⟨g, 6, none⟩ = some (.slice (some ⟨gu, 0, none⟩) 2 cu)
  gV : w.cell? ⟨g, 7, none⟩ = some (.slice (some ⟨gv, 0, none⟩) 2 cv)
  gD : w.cell? ⟨g, 8, none⟩ = some (.slice (some ⟨gd, 0, none⟩) 2 cd)
  gE : w.cell? ⟨g, 9, none⟩ = some (.slice (some ⟨ge, 0, none⟩) 2 ce)
  o0 : w.cell? ⟨go, 6, none⟩ = some (.int .u8 1)
  o1 : w.cell? ⟨go, 7, none⟩ = some (.int .u16 1)
  o2 : w.cell? ⟨go, 8, none⟩ = some (.int .u8 d)
  o3 : w.cell? ⟨go, 9, none⟩ = some (.int .u8 0)
  o4 : w.cell? ⟨go, 10, none⟩ = some (.int .u8 0)
  o5 : w.cell? ⟨go, 11, none⟩ = some (.int .u16 0)
  dead : w.cell? ⟨ge, 1, none⟩ = some (.bool false)
  words : ∀ i, i < la.length → w.cell? ⟨ga, i, none⟩ = some (.int .u64 (la.getD i 0))
  free : ∀ i, w.frozen? ⟨ga, i, none⟩ = false
  len : (la.length : Int) = 1 + d
  d0 : 0 ≤ d
  d8 : d ≤ 8
  bd : ∀ i, U64 (la.getD i 0)
  n1 : g ≠ ga
  n2 : go ≠ ga
  n3 : ge ≠ ga
  l0 : g < w.heap.size
  l1 : ga < w.heap.size
  l2 : go < w.heap.size
  l3 : ge < w.heap.size

set_option maxHeartbeats 1000000 in
theorem even_any (w : World) (g ga ca go co gu cu gv cv gd cd ge ce : Nat) (d : Int) (la : List Int) (h : Bld w g ga ca go co gu cu gv cv gd cd ge ce d la) :
    Calls Faig.prog 72 #[.pointer (some ⟨g, 0, none⟩)] w fun e w' => e = .returned (.bool true) ∧ w' = w := by
  have h0 := h.gA; have h5 := h.gO; have h6 := h.gU; have h7 := h.gV; have h8 := h.gD; have h9 := h.gE
  have hl := h.len; have d0 := h.d0; have d8 := h.d8
  have hl1 : ¬ ((la.length : Int) < 1) := by omega
  have hl2 : ¬ (256 < (la.length : Int)) := by omega
  clear hl h d0 d8
  go_enter Faig.func72, Faig.ntmps72
  go_wp2
  go_ret
  exact ⟨rfl, rfl⟩


theorem getD_set_self (L : List Int) (i : Nat) (x : Int) (h : i < L.length) : (L.set i x).getD i 0 = x := by
  simp [List.getD_eq_getElem?_getD, h]
theorem getD_set_else (L : List Int) (i j : Nat) (x : Int) (h : i ≠ j) : (L.set i x).getD j 0 = L.getD j 0 := by
  simp [List.getD_eq_getElem?_getD, h]
theorem size_setCell (w : World) (a : Addr) (v : Value) : (w.setCell a v).heap.size = w.heap.size := by simp [World.setCell]

/-- What a store of one word of the arena leaves of the builder. -/
theorem Bld.put {w w' : World} {g ga ca go co gu cu gv cv gd cd ge ce : Nat} {d : Int} {la : List Int} (h : Bld w g ga ca go co gu cu gv cv gd cd ge ce d la) (j : Nat) (y : Int) (hj : j < la.length) (hy : U64 y)
    (hb : Below w.heap.size (w.setCell ⟨ga, j, none⟩ (.int .u64 y)) w') : Bld w' g ga ca go co gu cu gv cv gd cd ge ce d (la.set j y) := by
  have hz : w.heap.size ≤ w'.heap.size := by have := hb.size; rw [size_setCell] at this; exact this
  have key : ∀ b o v, b < w.heap.size → b ≠ ga → w.cell? ⟨b, o, none⟩ = some v → w'.cell? ⟨b, o, none⟩ = some v := by
    intro b o v h1 h2 h3
    rw [hb.cell (p := ⟨b, o, none⟩) h1, World.cell?_setCell_other _ _ _ _ (by simp <;> omega)]; exact h3
  refine ⟨?_, key _ _ _ h.l0 h.n1 h.gO, key _ _ _ h.l0 h.n1 h.gU, key _ _ _ h.l0 h.n1 h.gV, key _ _ _ h.l0 h.n1 h.gD, key _ _ _ h.l0 h.n1 h.gE,
    key _ _ _ h.l2 h.n2 h.o0, key _ _ _ h.l2 h.n2 h.o1, key _ _ _ h.l2 h.n2 h.o2, key _ _ _ h.l2 h.n2 h.o3, key _ _ _ h.l2 h.n2 h.o4, key _ _ _ h.l2 h.n2 h.o5, key _ _ _ h.l3 h.n3 h.dead,
    ?_, ?_, by rw [List.length_set]; exact h.len, h.d0, h.d8, ?_, h.n1, h.n2, h.n3, by have := h.l0; omega, by have := h.l1; omega, by have := h.l2; omega, by have := h.l3; omega⟩
  · rw [List.length_set]; exact key _ _ _ h.l0 h.n1 h.gA
  · intro i hi
    rw [List.length_set] at hi
    rw [hb.cell (p := ⟨ga, i, none⟩) h.l1]
    by_cases e : j = i
    · subst e; rw [getD_set_self _ _ _ hj]; exact World.cell?_setCell_same _ _ _ (h.words j hj)
    · rw [getD_set_else _ _ _ _ e, World.cell?_setCell_other _ _ _ _ (by simp <;> omega)]; exact h.words i hi
  · intro i
    rw [hb.frozen (p := ⟨ga, i, none⟩) h.l1, World.frozen?_setCell]; exact h.free i
  · intro i
    by_cases e : j = i
    · subst e; rw [getD_set_self _ _ _ hj]; exact hy
    · rw [getD_set_else _ _ _ _ e]; exact h.bd i
/-- Another builder, no block of which is that arena, stays. -/
theorem Bld.else_put {w w' : World} {g ga ca go co gu cu gv cv gd cd ge ce : Nat} {d : Int} {la : List Int} (h : Bld w g ga ca go co gu cu gv cv gd cd ge ce d la) (gx j : Nat) (y : Value)
    (x0 : g ≠ gx) (x1 : ga ≠ gx) (x2 : go ≠ gx) (x3 : ge ≠ gx) (hb : Below w.heap.size (w.setCell ⟨gx, j, none⟩ y) w') : Bld w' g ga ca go co gu cu gv cv gd cd ge ce d la := by
  have hz : w.heap.size ≤ w'.heap.size := by have := hb.size; rw [size_setCell] at this; exact this
  have key : ∀ b o v, b < w.heap.size → b ≠ gx → w.cell? ⟨b, o, none⟩ = some v → w'.cell? ⟨b, o, none⟩ = some v := by
    intro b o v h1 h2 h3
    rw [hb.cell (p := ⟨b, o, none⟩) h1, World.cell?_setCell_other _ _ _ _ (by simp <;> omega)]; exact h3
  exact ⟨key _ _ _ h.l0 x0 h.gA, key _ _ _ h.l0 x0 h.gO, key _ _ _ h.l0 x0 h.gU, key _ _ _ h.l0 x0 h.gV, key _ _ _ h.l0 x0 h.gD, key _ _ _ h.l0 x0 h.gE,
    key _ _ _ h.l2 x2 h.o0, key _ _ _ h.l2 x2 h.o1, key _ _ _ h.l2 x2 h.o2, key _ _ _ h.l2 x2 h.o3, key _ _ _ h.l2 x2 h.o4, key _ _ _ h.l2 x2 h.o5, key _ _ _ h.l3 x3 h.dead,
    fun i hi => key _ _ _ h.l1 x1 (h.words i hi), fun i => by rw [hb.frozen (p := ⟨ga, i, none⟩) h.l1, World.frozen?_setCell]; exact h.free i, h.len, h.d0, h.d8, h.bd, h.n1, h.n2, h.n3, by have := h.l0; omega, by have := h.l1; omega, by have := h.l2; omega, by have := h.l3; omega⟩
theorem Bld.below {w w' : World} {g ga ca go co gu cu gv cv gd cd ge ce : Nat} {d : Int} {la : List Int} (h : Bld w g ga ca go co gu cu gv cv gd cd ge ce d la) (hb : Below w.heap.size w w') : Bld w' g ga ca go co gu cu gv cv gd cd ge ce d la := by
  have hz := hb.size
  have key : ∀ b o v, b < w.heap.size → w.cell? ⟨b, o, none⟩ = some v → w'.cell? ⟨b, o, none⟩ = some v := by
    intro b o v h1 h3
    rw [hb.cell (p := ⟨b, o, none⟩) h1]; exact h3
  exact ⟨key _ _ _ h.l0 h.gA, key _ _ _ h.l0 h.gO, key _ _ _ h.l0 h.gU, key _ _ _ h.l0 h.gV, key _ _ _ h.l0 h.gD, key _ _ _ h.l0 h.gE,
    key _ _ _ h.l2 h.o0, key _ _ _ h.l2 h.o1, key _ _ _ h.l2 h.o2, key _ _ _ h.l2 h.o3, key _ _ _ h.l2 h.o4, key _ _ _ h.l2 h.o5, key _ _ _ h.l3 h.dead,
    fun i hi => key _ _ _ h.l1 (h.words i hi), fun i => by rw [hb.frozen (p := ⟨ga, i, none⟩) h.l1]; exact h.free i, h.len, h.d0, h.d8, h.bd, h.n1, h.n2, h.n3, by have := h.l0; omega, by have := h.l1; omega, by have := h.l2; omega, by have := h.l3; omega⟩

set_option maxRecDepth 100000 in
set_option maxHeartbeats 1000000 in
theorem setData_1 (w : World) (g ga ca go co gu cu gv cv gd cd ge ce : Nat) (d : Int) (la : List Int) (h : Bld w g ga ca go co gu cu gv cv gd cd ge ce d la) (off v : Int) (o0 : 0 ≤ off) (hin : off < d * 64) (hv : U64 v) (sv : Value) :
    Calls Faig.prog 76 #[.pointer (some ⟨g, 0, none⟩), .agg #[.int .u8 3, .int .u8 1, .int .u8 0, .int .u8 0, .int .u8 0, .int .u16 off, .int .u64 v, sv]] w fun e w' => e = .returned (.bool true) ∧
      Below w.heap.size (w.setCell ⟨ga, (1 + off / 64).toNat, none⟩ (.int .u64 (putv (la.getD (1 + off / 64).toNat 0) v (off % 64).toNat 1))) w' := by
  have h0 := h.gA; have h5 := h.gO
  have q0 := h.o0; have q1 := h.o1; have q2 := h.o2; have q3 := h.o3; have q4 := h.o4; have q5 := h.o5
  have d0 := h.d0; have d8 := h.d8
  have l0 := h.l0; have l1 := h.l1; have l2 := h.l2; have l3 := h.l3
  have hl1 : 1 + d ≤ (la.length : Int) := by have := h.len; omega
  have hl2 : (la.length : Int) ≤ 1 + d := by have := h.len; omega
  have hw := h.words (1 + off / 64).toNat (by omega)
  have hfz := h.free (1 + off / 64).toNat
  have hxU := h.bd (1 + off / 64).toNat
  have n1 := h.n1
  have hx0 : 0 ≤ 1 + off / 64 := by omega
  have ht1 : (off).tmod 64 = off % 64 := Int.tmod_eq_emod_of_nonneg (by omega)
  have ht2 : IntKind.u8.wrap (off % 64) = off % 64 := wrapU8_in _ (by omega) (by omega)
  have ht3 : IntKind.u8.wrap 1 = 1 := by decide
  have hx1 : 1 + off / 64 < (la.length : Int) := by omega
  clear h
  revert hw hxU
  generalize la.getD (1 + off / 64).toNat 0 = x
  intro hw hxU
  go_enter Faig.func76, Faig.ntmps76
  go_wp2
  go_region
  go_wp2_with fail
  refine region_tail 21 (by kernel_rfl) (by kernel_rfl) ?_
  simp only [List.take_succ_cons, List.take_zero, List.drop_succ_cons, List.drop_zero]
  repeat still_step
  still_call (put_1 x v (off % 64) hxU hv (by omega) (by omega) _)
  repeat still_step
  refine wpStill_nil ?_
  go_wp2
  go_ret
  refine ⟨rfl, ?_⟩
  go_light
  repeat (first | exact Below.refl _ _ | (refine Below.drew ?_) | (refine Below.alloc ?_ (by first | (rw [size_setCell]; exact Nat.le_refl _) | (simp [size_setCell]; done) | (simp [size_setCell] <;> omega)) _))

set_option maxRecDepth 100000 in
set_option maxHeartbeats 1000000 in
theorem setData_8 (w : World) (g ga ca go co gu cu gv cv gd cd ge ce : Nat) (d : Int) (la : List Int) (h : Bld w g ga ca go co gu cu gv cv gd cd ge ce d la) (off v : Int) (o0 : 0 ≤ off) (hin : off * 8 < d * 64) (hv : U64 v) (sv : Value) :
    Calls Faig.prog 76 #[.pointer (some ⟨g, 0, none⟩), .agg #[.int .u8 3, .int .u8 1, .int .u8 0, .int .u8 3, .int .u8 0, .int .u16 off, .int .u64 v, sv]] w fun e w' => e = .returned (.bool true) ∧
      Below w.heap.size (w.setCell ⟨ga, (1 + off * 8 / 64).toNat, none⟩ (.int .u64 (putv (la.getD (1 + off * 8 / 64).toNat 0) v (off * 8 % 64).toNat 8))) w' := by
  have h0 := h.gA; have h5 := h.gO
  have q0 := h.o0; have q1 := h.o1; have q2 := h.o2; have q3 := h.o3; have q4 := h.o4; have q5 := h.o5
  have d0 := h.d0; have d8 := h.d8
  have l0 := h.l0; have l1 := h.l1; have l2 := h.l2; have l3 := h.l3
  have hl1 : 1 + d ≤ (la.length : Int) := by have := h.len; omega
  have hl2 : (la.length : Int) ≤ 1 + d := by have := h.len; omega
  have hw := h.words (1 + off * 8 / 64).toNat (by omega)
  have hfz := h.free (1 + off * 8 / 64).toNat
  have hxU := h.bd (1 + off * 8 / 64).toNat
  have n1 := h.n1
  have hx0 : 0 ≤ 1 + off * 8 / 64 := by omega
  have ht1 : (off * 8).tmod 64 = off * 8 % 64 := Int.tmod_eq_emod_of_nonneg (by omega)
  have ht2 : IntKind.u8.wrap (off * 8 % 64) = off * 8 % 64 := wrapU8_in _ (by omega) (by omega)
  have ht3 : IntKind.u8.wrap 8 = 8 := by decide
  have hx1 : 1 + off * 8 / 64 < (la.length : Int) := by omega
  clear h
  revert hw hxU
  generalize la.getD (1 + off * 8 / 64).toNat 0 = x
  intro hw hxU
  go_enter Faig.func76, Faig.ntmps76
  go_wp2
  go_region
  go_wp2_with fail
  refine region_tail 21 (by kernel_rfl) (by kernel_rfl) ?_
  simp only [List.take_succ_cons, List.take_zero, List.drop_succ_cons, List.drop_zero]
  repeat still_step
  still_call (put_8 x v (off * 8 % 64) hxU hv (by omega) (by omega) _)
  repeat still_step
  refine wpStill_nil ?_
  go_wp2
  go_ret
  refine ⟨rfl, ?_⟩
  go_light
  repeat (first | exact Below.refl _ _ | (refine Below.drew ?_) | (refine Below.alloc ?_ (by first | (rw [size_setCell]; exact Nat.le_refl _) | (simp [size_setCell]; done) | (simp [size_setCell] <;> omega)) _))

set_option maxRecDepth 100000 in
set_option maxHeartbeats 1000000 in
theorem setData_16 (w : World) (g ga ca go co gu cu gv cv gd cd ge ce : Nat) (d : Int) (la : List Int) (h : Bld w g ga ca go co gu cu gv cv gd cd ge ce d la) (off v : Int) (o0 : 0 ≤ off) (hin : off * 16 < d * 64) (hv : U64 v) (sv : Value) :
    Calls Faig.prog 76 #[.pointer (some ⟨g, 0, none⟩), .agg #[.int .u8 3, .int .u8 1, .int .u8 0, .int .u8 4, .int .u8 0, .int .u16 off, .int .u64 v, sv]] w fun e w' => e = .returned (.bool true) ∧
      Below w.heap.size (w.setCell ⟨ga, (1 + off * 16 / 64).toNat, none⟩ (.int .u64 (putv (la.getD (1 + off * 16 / 64).toNat 0) v (off * 16 % 64).toNat 16))) w' := by
  have h0 := h.gA; have h5 := h.gO
  have q0 := h.o0; have q1 := h.o1; have q2 := h.o2; have q3 := h.o3; have q4 := h.o4; have q5 := h.o5
  have d0 := h.d0; have d8 := h.d8
  have l0 := h.l0; have l1 := h.l1; have l2 := h.l2; have l3 := h.l3
  have hl1 : 1 + d ≤ (la.length : Int) := by have := h.len; omega
  have hl2 : (la.length : Int) ≤ 1 + d := by have := h.len; omega
  have hw := h.words (1 + off * 16 / 64).toNat (by omega)
  have hfz := h.free (1 + off * 16 / 64).toNat
  have hxU := h.bd (1 + off * 16 / 64).toNat
  have n1 := h.n1
  have hx0 : 0 ≤ 1 + off * 16 / 64 := by omega
  have ht1 : (off * 16).tmod 64 = off * 16 % 64 := Int.tmod_eq_emod_of_nonneg (by omega)
  have ht2 : IntKind.u8.wrap (off * 16 % 64) = off * 16 % 64 := wrapU8_in _ (by omega) (by omega)
  have ht3 : IntKind.u8.wrap 16 = 16 := by decide
  have hx1 : 1 + off * 16 / 64 < (la.length : Int) := by omega
  clear h
  revert hw hxU
  generalize la.getD (1 + off * 16 / 64).toNat 0 = x
  intro hw hxU
  go_enter Faig.func76, Faig.ntmps76
  go_wp2
  go_region
  go_wp2_with fail
  refine region_tail 21 (by kernel_rfl) (by kernel_rfl) ?_
  simp only [List.take_succ_cons, List.take_zero, List.drop_succ_cons, List.drop_zero]
  repeat still_step
  still_call (put_16 x v (off * 16 % 64) hxU hv (by omega) (by omega) _)
  repeat still_step
  refine wpStill_nil ?_
  go_wp2
  go_ret
  refine ⟨rfl, ?_⟩
  go_light
  repeat (first | exact Below.refl _ _ | (refine Below.drew ?_) | (refine Below.alloc ?_ (by first | (rw [size_setCell]; exact Nat.le_refl _) | (simp [size_setCell]; done) | (simp [size_setCell] <;> omega)) _))

set_option maxRecDepth 100000 in
set_option maxHeartbeats 1000000 in
theorem setData_32 (w : World) (g ga ca go co gu cu gv cv gd cd ge ce : Nat) (d : Int) (la : List Int) (h : Bld w g ga ca go co gu cu gv cv gd cd ge ce d la) (off v : Int) (o0 : 0 ≤ off) (hin : off * 32 < d * 64) (hv : U64 v) (sv : Value) :
    Calls Faig.prog 76 #[.pointer (some ⟨g, 0, none⟩), .agg #[.int .u8 3, .int .u8 1, .int .u8 0, .int .u8 5, .int .u8 0, .int .u16 off, .int .u64 v, sv]] w fun e w' => e = .returned (.bool true) ∧
      Below w.heap.size (w.setCell ⟨ga, (1 + off * 32 / 64).toNat, none⟩ (.int .u64 (putv (la.getD (1 + off * 32 / 64).toNat 0) v (off * 32 % 64).toNat 32))) w' := by
  have h0 := h.gA; have h5 := h.gO
  have q0 := h.o0; have q1 := h.o1; have q2 := h.o2; have q3 := h.o3; have q4 := h.o4; have q5 := h.o5
  have d0 := h.d0; have d8 := h.d8
  have l0 := h.l0; have l1 := h.l1; have l2 := h.l2; have l3 := h.l3
  have hl1 : 1 + d ≤ (la.length : Int) := by have := h.len; omega
  have hl2 : (la.length : Int) ≤ 1 + d := by have := h.len; omega
  have hw := h.words (1 + off * 32 / 64).toNat (by omega)
  have hfz := h.free (1 + off * 32 / 64).toNat
  have hxU := h.bd (1 + off * 32 / 64).toNat
  have n1 := h.n1
  have hx0 : 0 ≤ 1 + off * 32 / 64 := by omega
  have ht1 : (off * 32).tmod 64 = off * 32 % 64 := Int.tmod_eq_emod_of_nonneg (by omega)
  have ht2 : IntKind.u8.wrap (off * 32 % 64) = off * 32 % 64 := wrapU8_in _ (by omega) (by omega)
  have ht3 : IntKind.u8.wrap 32 = 32 := by decide
  have hx1 : 1 + off * 32 / 64 < (la.length : Int) := by omega
  clear h
  revert hw hxU
  generalize la.getD (1 + off * 32 / 64).toNat 0 = x
  intro hw hxU
  go_enter Faig.func76, Faig.ntmps76
  go_wp2
  go_region
  go_wp2_with fail
  refine region_tail 21 (by kernel_rfl) (by kernel_rfl) ?_
  simp only [List.take_succ_cons, List.take_zero, List.drop_succ_cons, List.drop_zero]
  repeat still_step
  still_call (put_32 x v (off * 32 % 64) hxU hv (by omega) (by omega) _)
  repeat still_step
  refine wpStill_nil ?_
  go_wp2
  go_ret
  refine ⟨rfl, ?_⟩
  go_light
  repeat (first | exact Below.refl _ _ | (refine Below.drew ?_) | (refine Below.alloc ?_ (by first | (rw [size_setCell]; exact Nat.le_refl _) | (simp [size_setCell]; done) | (simp [size_setCell] <;> omega)) _))

set_option maxRecDepth 100000 in
set_option maxHeartbeats 1000000 in
theorem setData_64 (w : World) (g ga ca go co gu cu gv cv gd cd ge ce : Nat) (d : Int) (la : List Int) (h : Bld w g ga ca go co gu cu gv cv gd cd ge ce d la) (off v : Int) (o0 : 0 ≤ off) (hin : off * 64 < d * 64) (hv : U64 v) (sv : Value) :
    Calls Faig.prog 76 #[.pointer (some ⟨g, 0, none⟩), .agg #[.int .u8 3, .int .u8 1, .int .u8 0, .int .u8 6, .int .u8 0, .int .u16 off, .int .u64 v, sv]] w fun e w' => e = .returned (.bool true) ∧
      Below w.heap.size (w.setCell ⟨ga, (1 + off).toNat, none⟩ (.int .u64 (putv (la.getD (1 + off).toNat 0) v 0 64))) w' := by
  have h0 := h.gA; have h5 := h.gO
  have q0 := h.o0; have q1 := h.o1; have q2 := h.o2; have q3 := h.o3; have q4 := h.o4; have q5 := h.o5
  have d0 := h.d0; have d8 := h.d8
  have l0 := h.l0; have l1 := h.l1; have l2 := h.l2; have l3 := h.l3
  have hl1 : 1 + d ≤ (la.length : Int) := by have := h.len; omega
  have hl2 : (la.length : Int) ≤ 1 + d := by have := h.len; omega
  have hw := h.words (1 + off).toNat (by omega)
  have hfz := h.free (1 + off).toNat
  have hxU := h.bd (1 + off).toNat
  have n1 := h.n1
  have hx0 : 0 ≤ 1 + off := by omega
  have ht3 : IntKind.u8.wrap 64 = 64 := by decide
  have hx1 : 1 + off < (la.length : Int) := by omega
  clear h
  revert hw hxU
  generalize la.getD (1 + off).toNat 0 = x
  intro hw hxU
  go_enter Faig.func76, Faig.ntmps76
  go_wp2
  go_region
  go_wp2_with fail
  refine region_tail 21 (by kernel_rfl) (by kernel_rfl) ?_
  simp only [List.take_succ_cons, List.take_zero, List.drop_succ_cons, List.drop_zero]
  repeat still_step
  still_call (put_64 x v (0) hxU hv (by omega) (by omega) _)
  repeat still_step
  refine wpStill_nil ?_
  go_wp2
  go_ret
  refine ⟨rfl, ?_⟩
  go_light
  repeat (first | exact Below.refl _ _ | (refine Below.drew ?_) | (refine Below.alloc ?_ (by first | (rw [size_setCell]; exact Nat.le_refl _) | (simp [size_setCell]; done) | (simp [size_setCell] <;> omega)) _))
end Go.Proofs.Ygcfai

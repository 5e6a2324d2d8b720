/-
  DefaultBack, the writing side: Builder.Do of a SetData, schema.Put, wide.PutDefault.
-/
import Derived.Test.YgcfaiDefD
namespace Go.Proofs.Ygcfai
open Go.RowKit Plain
set_option linter.unusedVariables false
set_option linter.unusedSimpArgs false

theorem below_through {w w1 : World} {b i n : Nat} {v : Value} {o : Obj} (h : Below ((w.alloc o).drewN n).heap.size (((w.alloc o).drewN n).setCell ⟨b, i, none⟩ v) w1) (hb : b < w.heap.size) : Below w.heap.size (w.setCell ⟨b, i, none⟩ v) w1 := by
  have h2 : Below (w.alloc o).heap.size (((w.alloc o).setCell ⟨b, i, none⟩ v).drewN n) w1 := h
  rw [World.setCell_alloc_past _ _ _ _ hb] at h2
  exact (below_drewN ((Below.refl _ _).alloc (by rw [size_setCell]; exact Nat.le_refl _) o) n).trans (h2.mono (by simp))
theorem below_through0 {w w1 : World} {b i : Nat} {v : Value} {o : Obj} (h : Below (w.alloc o).heap.size ((w.alloc o).setCell ⟨b, i, none⟩ v) w1) (hb : b < w.heap.size) : Below w.heap.size (w.setCell ⟨b, i, none⟩ v) w1 :=
  below_through (n := 0) h hb

set_option maxRecDepth 100000 in
set_option maxHeartbeats 1000000 in
theorem doSet_1 (w : World) (g ga ca go co gu cu gv cv gd cd ge ce : Nat) (d : Int) (la : List Int) (h : Bld w g ga ca go co gu cu gv cv gd cd ge ce d la) (off v : Int) (o0 : 0 ≤ off) (hin : off < d * 64) (hv : U64 v) (sv : Value) :
    Calls Faig.prog 30 #[.pointer (some ⟨g, 0, none⟩), .agg #[.int .u8 3, .int .u8 1, .int .u8 0, .int .u8 0, .int .u8 0, .int .u16 off, .int .u64 v, sv]] w fun e w' => e = .returned (.bool true) ∧
      Below w.heap.size (w.setCell ⟨ga, (1 + off / 64).toNat, none⟩ (.int .u64 (putv (la.getD (1 + off / 64).toNat 0) v (off % 64).toNat 1))) w' := by
  have h5 := h.gO; have h9 := h.gE; have hd := h.dead
  have l0 := h.l0; have l1 := h.l1; have l3 := h.l3
  have HB : Hid (∀ o : Obj, Bld (w.alloc o) g ga ca go co gu cu gv cv gd cd ge ce d la) := fun o => h.below ((Below.refl _ _).alloc (Nat.le_refl _) o)
  have HD : Hid (∀ (o : Obj) (n : Nat), Bld ((w.alloc o).drewN n) g ga ca go co gu cu gv cv gd cd ge ce d la) := fun o n => h.below (below_drewN ((Below.refl _ _).alloc (Nat.le_refl _) o) n)
  clear h
  go_enter Faig.func30, Faig.ntmps30
  go_wp2
  go_quiet ((go_at_call 72; exact Calls.quiet_of_same (even_any _ g ga ca go co gu cu gv cv gd cd ge ce d la (HD.out _ _))))
  go_wp2_with fail
  refine (setData_1 _ g ga ca go co gu cu gv cv gd cd ge ce d la (HD.out _ _) off v o0 hin hv sv).mono ?_
  rintro e w1 ⟨rfl, hb1⟩
  have hb := below_through hb1 l1
  clear hb1
  go_wp2_with fail
  go_ret
  exact ⟨rfl, hb⟩

set_option maxRecDepth 100000 in
set_option maxHeartbeats 1000000 in
theorem schemaPut_1 (w : World) (g ga ca go co gu cu gv cv gd cd ge ce : Nat) (d : Int) (la : List Int) (h : Bld w g ga ca go co gu cu gv cv gd cd ge ce d la) (off v : Int) (o0 : 0 ≤ off) (hin : off < d * 64) (hv : U64 v) :
    Calls Faig.prog 79 #[.pointer (some ⟨g, 0, none⟩), .int .u8 1, .agg #[.int .u8 1, .int .u16 off, .int .u8 0, .bool false], .int .u64 v] w fun e w' => e = .returned (.bool true) ∧
      Below w.heap.size (w.setCell ⟨ga, (1 + off / 64).toNat, none⟩ (.int .u64 (putv (la.getD (1 + off / 64).toNat 0) v (off % 64).toNat 1))) w' := by
  have l1 := h.l1
  have HB : Hid (∀ o : Obj, Bld (w.alloc o) g ga ca go co gu cu gv cv gd cd ge ce d la) := fun o => h.below ((Below.refl _ _).alloc (Nat.le_refl _) o)
  clear h
  go_enter Faig.func79, Faig.ntmps79
  go_wp2_with fail
  refine (shift_1 _).mono ?_
  rintro e w' ⟨rfl, hw'⟩
  subst w'
  go_wp2_with fail
  refine (doSet_1 _ g ga ca go co gu cu gv cv gd cd ge ce d la (HB.out _) off v o0 hin hv _).mono ?_
  rintro e w1 ⟨rfl, hb1⟩
  have hb := below_through0 hb1 l1
  clear hb1
  go_wp2_with fail
  go_ret
  exact ⟨rfl, hb⟩

set_option maxRecDepth 100000 in
set_option maxHeartbeats 1000000 in
theorem putDefault_1 (w : World) (g ga ca go co gu cu gv cv gd cd ge ce : Nat) (d : Int) (la : List Int) (h : Bld w g ga ca go co gu cu gv cv gd cd ge ce d la) (off v df : Int) (o0 : 0 ≤ off) (hin : off < d * 64) (hv : U64 (bits .xor .u64 v df)) :
    Calls Faig.prog 32 #[.pointer (some ⟨g, 0, none⟩), .int .u8 1, .agg #[.int .u8 1, .int .u16 off, .int .u8 0, .bool false], .int .u64 v, .int .u64 df] w fun e w' => e = .returned (.bool true) ∧
      Below w.heap.size (w.setCell ⟨ga, (1 + off / 64).toNat, none⟩ (.int .u64 (putv (la.getD (1 + off / 64).toNat 0) (bits .xor .u64 v df) (off % 64).toNat 1))) w' := by
  have l1 := h.l1
  have HB : Hid (∀ o : Obj, Bld (w.alloc o) g ga ca go co gu cu gv cv gd cd ge ce d la) := fun o => h.below ((Below.refl _ _).alloc (Nat.le_refl _) o)
  clear h
  go_enter Faig.func32, Faig.ntmps32
  go_wp2_with fail
  refine (schemaPut_1 _ g ga ca go co gu cu gv cv gd cd ge ce d la (HB.out _) off _ o0 hin hv).mono ?_
  rintro e w1 ⟨rfl, hb1⟩
  have hb := below_through0 hb1 l1
  clear hb1
  go_wp2_with fail
  go_ret
  exact ⟨rfl, hb⟩

set_option maxRecDepth 100000 in
set_option maxHeartbeats 1000000 in
theorem doSet_8 (w : World) (g ga ca go co gu cu gv cv gd cd ge ce : Nat) (d : Int) (la : List Int) (h : Bld w g ga ca go co gu cu gv cv gd cd ge ce d la) (off v : Int) (o0 : 0 ≤ off) (hin : off * 8 < d * 64) (hv : U64 v) (sv : Value) :
    Calls Faig.prog 30 #[.pointer (some ⟨g, 0, none⟩), .agg #[.int .u8 3, .int .u8 1, .int .u8 0, .int .u8 3, .int .u8 0, .int .u16 off, .int .u64 v, sv]] w fun e w' => e = .returned (.bool true) ∧
      Below w.heap.size (w.setCell ⟨ga, (1 + off * 8 / 64).toNat, none⟩ (.int .u64 (putv (la.getD (1 + off * 8 / 64).toNat 0) v (off * 8 % 64).toNat 8))) w' := by
  have h5 := h.gO; have h9 := h.gE; have hd := h.dead
  have l0 := h.l0; have l1 := h.l1; have l3 := h.l3
  have HB : Hid (∀ o : Obj, Bld (w.alloc o) g ga ca go co gu cu gv cv gd cd ge ce d la) := fun o => h.below ((Below.refl _ _).alloc (Nat.le_refl _) o)
  have HD : Hid (∀ (o : Obj) (n : Nat), Bld ((w.alloc o).drewN n) g ga ca go co gu cu gv cv gd cd ge ce d la) := fun o n => h.below (below_drewN ((Below.refl _ _).alloc (Nat.le_refl _) o) n)
  clear h
  go_enter Faig.func30, Faig.ntmps30
  go_wp2
  go_quiet ((go_at_call 72; exact Calls.quiet_of_same (even_any _ g ga ca go co gu cu gv cv gd cd ge ce d la (HD.out _ _))))
  go_wp2_with fail
  refine (setData_8 _ g ga ca go co gu cu gv cv gd cd ge ce d la (HD.out _ _) off v o0 hin hv sv).mono ?_
  rintro e w1 ⟨rfl, hb1⟩
  have hb := below_through hb1 l1
  clear hb1
  go_wp2_with fail
  go_ret
  exact ⟨rfl, hb⟩

set_option maxRecDepth 100000 in
set_option maxHeartbeats 1000000 in
theorem schemaPut_8 (w : World) (g ga ca go co gu cu gv cv gd cd ge ce : Nat) (d : Int) (la : List Int) (h : Bld w g ga ca go co gu cu gv cv gd cd ge ce d la) (off v : Int) (o0 : 0 ≤ off) (hin : off * 8 < d * 64) (hv : U64 v) :
    Calls Faig.prog 79 #[.pointer (some ⟨g, 0, none⟩), .int .u8 1, .agg #[.int .u8 8, .int .u16 off, .int .u8 0, .bool false], .int .u64 v] w fun e w' => e = .returned (.bool true) ∧
      Below w.heap.size (w.setCell ⟨ga, (1 + off * 8 / 64).toNat, none⟩ (.int .u64 (putv (la.getD (1 + off * 8 / 64).toNat 0) v (off * 8 % 64).toNat 8))) w' := by
  have l1 := h.l1
  have HB : Hid (∀ o : Obj, Bld (w.alloc o) g ga ca go co gu cu gv cv gd cd ge ce d la) := fun o => h.below ((Below.refl _ _).alloc (Nat.le_refl _) o)
  clear h
  go_enter Faig.func79, Faig.ntmps79
  go_wp2_with fail
  refine (shift_8 _).mono ?_
  rintro e w' ⟨rfl, hw'⟩
  subst w'
  go_wp2_with fail
  refine (doSet_8 _ g ga ca go co gu cu gv cv gd cd ge ce d la (HB.out _) off v o0 hin hv _).mono ?_
  rintro e w1 ⟨rfl, hb1⟩
  have hb := below_through0 hb1 l1
  clear hb1
  go_wp2_with fail
  go_ret
  exact ⟨rfl, hb⟩

set_option maxRecDepth 100000 in
set_option maxHeartbeats 1000000 in
theorem putDefault_8 (w : World) (g ga ca go co gu cu gv cv gd cd ge ce : Nat) (d : Int) (la : List Int) (h : Bld w g ga ca go co gu cu gv cv gd cd ge ce d la) (off v df : Int) (o0 : 0 ≤ off) (hin : off * 8 < d * 64) (hv : U64 (bits .xor .u64 v df)) :
    Calls Faig.prog 32 #[.pointer (some ⟨g, 0, none⟩), .int .u8 1, .agg #[.int .u8 8, .int .u16 off, .int .u8 0, .bool false], .int .u64 v, .int .u64 df] w fun e w' => e = .returned (.bool true) ∧
      Below w.heap.size (w.setCell ⟨ga, (1 + off * 8 / 64).toNat, none⟩ (.int .u64 (putv (la.getD (1 + off * 8 / 64).toNat 0) (bits .xor .u64 v df) (off * 8 % 64).toNat 8))) w' := by
  have l1 := h.l1
  have HB : Hid (∀ o : Obj, Bld (w.alloc o) g ga ca go co gu cu gv cv gd cd ge ce d la) := fun o => h.below ((Below.refl _ _).alloc (Nat.le_refl _) o)
  clear h
  go_enter Faig.func32, Faig.ntmps32
  go_wp2_with fail
  refine (schemaPut_8 _ g ga ca go co gu cu gv cv gd cd ge ce d la (HB.out _) off _ o0 hin hv).mono ?_
  rintro e w1 ⟨rfl, hb1⟩
  have hb := below_through0 hb1 l1
  clear hb1
  go_wp2_with fail
  go_ret
  exact ⟨rfl, hb⟩

set_option maxRecDepth 100000 in
set_option maxHeartbeats 1000000 in
theorem doSet_16 (w : World) (g ga ca go co gu cu gv cv gd cd ge ce : Nat) (d : Int) (la : List Int) (h : Bld w g ga ca go co gu cu gv cv gd cd ge ce d la) (off v : Int) (o0 : 0 ≤ off) (hin : off * 16 < d * 64) (hv : U64 v) (sv : Value) :
    Calls Faig.prog 30 #[.pointer (some ⟨g, 0, none⟩), .agg #[.int .u8 3, .int .u8 1, .int .u8 0, .int .u8 4, .int .u8 0, .int .u16 off, .int .u64 v, sv]] w fun e w' => e = .returned (.bool true) ∧
      Below w.heap.size (w.setCell ⟨ga, (1 + off * 16 / 64).toNat, none⟩ (.int .u64 (putv (la.getD (1 + off * 16 / 64).toNat 0) v (off * 16 % 64).toNat 16))) w' := by
  have h5 := h.gO; have h9 := h.gE; have hd := h.dead
  have l0 := h.l0; have l1 := h.l1; have l3 := h.l3
  have HB : Hid (∀ o : Obj, Bld (w.alloc o) g ga ca go co gu cu gv cv gd cd ge ce d la) := fun o => h.below ((Below.refl _ _).alloc (Nat.le_refl _) o)
  have HD : Hid (∀ (o : Obj) (n : Nat), Bld ((w.alloc o).drewN n) g ga ca go co gu cu gv cv gd cd ge ce d la) := fun o n => h.below (below_drewN ((Below.refl _ _).alloc (Nat.le_refl _) o) n)
  clear h
  go_enter Faig.func30, Faig.ntmps30
  go_wp2
  go_quiet ((go_at_call 72; exact Calls.quiet_of_same (even_any _ g ga ca go co gu cu gv cv gd cd ge ce d la (HD.out _ _))))
  go_wp2_with fail
  refine (setData_16 _ g ga ca go co gu cu gv cv gd cd ge ce d la (HD.out _ _) off v o0 hin hv sv).mono ?_
  rintro e w1 ⟨rfl, hb1⟩
  have hb := below_through hb1 l1
  clear hb1
  go_wp2_with fail
  go_ret
  exact ⟨rfl, hb⟩

set_option maxRecDepth 100000 in
set_option maxHeartbeats 1000000 in
theorem schemaPut_16 (w : World) (g ga ca go co gu cu gv cv gd cd ge ce : Nat) (d : Int) (la : List Int) (h : Bld w g ga ca go co gu cu gv cv gd cd ge ce d la) (off v : Int) (o0 : 0 ≤ off) (hin : off * 16 < d * 64) (hv : U64 v) :
    Calls Faig.prog 79 #[.pointer (some ⟨g, 0, none⟩), .int .u8 1, .agg #[.int .u8 16, .int .u16 off, .int .u8 0, .bool false], .int .u64 v] w fun e w' => e = .returned (.bool true) ∧
      Below w.heap.size (w.setCell ⟨ga, (1 + off * 16 / 64).toNat, none⟩ (.int .u64 (putv (la.getD (1 + off * 16 / 64).toNat 0) v (off * 16 % 64).toNat 16))) w' := by
  have l1 := h.l1
  have HB : Hid (∀ o : Obj, Bld (w.alloc o) g ga ca go co gu cu gv cv gd cd ge ce d la) := fun o => h.below ((Below.refl _ _).alloc (Nat.le_refl _) o)
  clear h
  go_enter Faig.func79, Faig.ntmps79
  go_wp2_with fail
  refine (shift_16 _).mono ?_
  rintro e w' ⟨rfl, hw'⟩
  subst w'
  go_wp2_with fail
  refine (doSet_16 _ g ga ca go co gu cu gv cv gd cd ge ce d la (HB.out _) off v o0 hin hv _).mono ?_
  rintro e w1 ⟨rfl, hb1⟩
  have hb := below_through0 hb1 l1
  clear hb1
  go_wp2_with fail
  go_ret
  exact ⟨rfl, hb⟩

set_option maxRecDepth 100000 in
set_option maxHeartbeats 1000000 in
theorem putDefault_16 (w : World) (g ga ca go co gu cu gv cv gd cd ge ce : Nat) (d : Int) (la : List Int) (h : Bld w g ga ca go co gu cu gv cv gd cd ge ce d la) (off v df : Int) (o0 : 0 ≤ off) (hin : off * 16 < d * 64) (hv : U64 (bits .xor .u64 v df)) :
    Calls Faig.prog 32 #[.pointer (some ⟨g, 0, none⟩), .int .u8 1, .agg #[.int .u8 16, .int .u16 off, .int .u8 0, .bool false], .int .u64 v, .int .u64 df] w fun e w' => e = .returned (.bool true) ∧
      Below w.heap.size (w.setCell ⟨ga, (1 + off * 16 / 64).toNat, none⟩ (.int .u64 (putv (la.getD (1 + off * 16 / 64).toNat 0) (bits .xor .u64 v df) (off * 16 % 64).toNat 16))) w' := by
  have l1 := h.l1
  have HB : Hid (∀ o : Obj, Bld (w.alloc o) g ga ca go co gu cu gv cv gd cd ge ce d la) := fun o => h.below ((Below.refl _ _).alloc (Nat.le_refl _) o)
  clear h
  go_enter Faig.func32, Faig.ntmps32
  go_wp2_with fail
  refine (schemaPut_16 _ g ga ca go co gu cu gv cv gd cd ge ce d la (HB.out _) off _ o0 hin hv).mono ?_
  rintro e w1 ⟨rfl, hb1⟩
  have hb := below_through0 hb1 l1
  clear hb1
  go_wp2_with fail
  go_ret
  exact ⟨rfl, hb⟩

set_option maxRecDepth 100000 in
set_option maxHeartbeats 1000000 in
theorem doSet_32 (w : World) (g ga ca go co gu cu gv cv gd cd ge ce : Nat) (d : Int) (la : List Int) (h : Bld w g ga ca go co gu cu gv cv gd cd ge ce d la) (off v : Int) (o0 : 0 ≤ off) (hin : off * 32 < d * 64) (hv : U64 v) (sv : Value) :
    Calls Faig.prog 30 #[.pointer (some ⟨g, 0, none⟩), .agg #[.int .u8 3, .int .u8 1, .int .u8 0, .int .u8 5, .int .u8 0, .int .u16 off, .int .u64 v, sv]] w fun e w' => e = .returned (.bool true) ∧
      Below w.heap.size (w.setCell ⟨ga, (1 + off * 32 / 64).toNat, none⟩ (.int .u64 (putv (la.getD (1 + off * 32 / 64).toNat 0) v (off * 32 % 64).toNat 32))) w' := by
  have h5 := h.gO; have h9 := h.gE; have hd := h.dead
  have l0 := h.l0; have l1 := h.l1; have l3 := h.l3
  have HB : Hid (∀ o : Obj, Bld (w.alloc o) g ga ca go co gu cu gv cv gd cd ge ce d la) := fun o => h.below ((Below.refl _ _).alloc (Nat.le_refl _) o)
  have HD : Hid (∀ (o : Obj) (n : Nat), Bld ((w.alloc o).drewN n) g ga ca go co gu cu gv cv gd cd ge ce d la) := fun o n => h.below (below_drewN ((Below.refl _ _).alloc (Nat.le_refl _) o) n)
  clear h
  go_enter Faig.func30, Faig.ntmps30
  go_wp2
  go_quiet ((go_at_call 72; exact Calls.quiet_of_same (even_any _ g ga ca go co gu cu gv cv gd cd ge ce d la (HD.out _ _))))
  go_wp2_with fail
  refine (setData_32 _ g ga ca go co gu cu gv cv gd cd ge ce d la (HD.out _ _) off v o0 hin hv sv).mono ?_
  rintro e w1 ⟨rfl, hb1⟩
  have hb := below_through hb1 l1
  clear hb1
  go_wp2_with fail
  go_ret
  exact ⟨rfl, hb⟩

set_option maxRecDepth 100000 in
set_option maxHeartbeats 1000000 in
theorem schemaPut_32 (w : World) (g ga ca go co gu cu gv cv gd cd ge ce : Nat) (d : Int) (la : List Int) (h : Bld w g ga ca go co gu cu gv cv gd cd ge ce d la) (off v : Int) (o0 : 0 ≤ off) (hin : off * 32 < d * 64) (hv : U64 v) :
    Calls Faig.prog 79 #[.pointer (some ⟨g, 0, none⟩), .int .u8 1, .agg #[.int .u8 32, .int .u16 off, .int .u8 0, .bool false], .int .u64 v] w fun e w' => e = .returned (.bool true) ∧
      Below w.heap.size (w.setCell ⟨ga, (1 + off * 32 / 64).toNat, none⟩ (.int .u64 (putv (la.getD (1 + off * 32 / 64).toNat 0) v (off * 32 % 64).toNat 32))) w' := by
  have l1 := h.l1
  have HB : Hid (∀ o : Obj, Bld (w.alloc o) g ga ca go co gu cu gv cv gd cd ge ce d la) := fun o => h.below ((Below.refl _ _).alloc (Nat.le_refl _) o)
  clear h
  go_enter Faig.func79, Faig.ntmps79
  go_wp2_with fail
  refine (shift_32 _).mono ?_
  rintro e w' ⟨rfl, hw'⟩
  subst w'
  go_wp2_with fail
  refine (doSet_32 _ g ga ca go co gu cu gv cv gd cd ge ce d la (HB.out _) off v o0 hin hv _).mono ?_
  rintro e w1 ⟨rfl, hb1⟩
  have hb := below_through0 hb1 l1
  clear hb1
  go_wp2_with fail
  go_ret
  exact ⟨rfl, hb⟩

set_option maxRecDepth 100000 in
set_option maxHeartbeats 1000000 in
theorem putDefault_32 (w : World) (g ga ca go co gu cu gv cv gd cd ge ce : Nat) (d : Int) (la : List Int) (h : Bld w g ga ca go co gu cu gv cv gd cd ge ce d la) (off v df : Int) (o0 : 0 ≤ off) (hin : off * 32 < d * 64) (hv : U64 (bits .xor .u64 v df)) :
    Calls Faig.prog 32 #[.pointer (some ⟨g, 0, none⟩), .int .u8 1, .agg #[.int .u8 32, .int .u16 off, .int .u8 0, .bool false], .int .u64 v, .int .u64 df] w fun e w' => e = .returned (.bool true) ∧
      Below w.heap.size (w.setCell ⟨ga, (1 + off * 32 / 64).toNat, none⟩ (.int .u64 (putv (la.getD (1 + off * 32 / 64).toNat 0) (bits .xor .u64 v df) (off * 32 % 64).toNat 32))) w' := by
  have l1 := h.l1
  have HB : Hid (∀ o : Obj, Bld (w.alloc o) g ga ca go co gu cu gv cv gd cd ge ce d la) := fun o => h.below ((Below.refl _ _).alloc (Nat.le_refl _) o)
  clear h
  go_enter Faig.func32, Faig.ntmps32
  go_wp2_with fail
  refine (schemaPut_32 _ g ga ca go co gu cu gv cv gd cd ge ce d la (HB.out _) off _ o0 hin hv).mono ?_
  rintro e w1 ⟨rfl, hb1⟩
  have hb := below_through0 hb1 l1
  clear hb1
  go_wp2_with fail
  go_ret
  exact ⟨rfl, hb⟩

set_option maxRecDepth 100000 in
set_option maxHeartbeats 1000000 in
theorem doSet_64 (w : World) (g ga ca go co gu cu gv cv gd cd ge ce : Nat) (d : Int) (la : List Int) (h : Bld w g ga ca go co gu cu gv cv gd cd ge ce d la) (off v : Int) (o0 : 0 ≤ off) (hin : off * 64 < d * 64) (hv : U64 v) (sv : Value) :
    Calls Faig.prog 30 #[.pointer (some ⟨g, 0, none⟩), .agg #[.int .u8 3, .int .u8 1, .int .u8 0, .int .u8 6, .int .u8 0, .int .u16 off, .int .u64 v, sv]] w fun e w' => e = .returned (.bool true) ∧
      Below w.heap.size (w.setCell ⟨ga, (1 + off).toNat, none⟩ (.int .u64 (putv (la.getD (1 + off).toNat 0) v 0 64))) w' := by
  have h5 := h.gO; have h9 := h.gE; have hd := h.dead
  have l0 := h.l0; have l1 := h.l1; have l3 := h.l3
  have HB : Hid (∀ o : Obj, Bld (w.alloc o) g ga ca go co gu cu gv cv gd cd ge ce d la) := fun o => h.below ((Below.refl _ _).alloc (Nat.le_refl _) o)
  have HD : Hid (∀ (o : Obj) (n : Nat), Bld ((w.alloc o).drewN n) g ga ca go co gu cu gv cv gd cd ge ce d la) := fun o n => h.below (below_drewN ((Below.refl _ _).alloc (Nat.le_refl _) o) n)
  clear h
  go_enter Faig.func30, Faig.ntmps30
  go_wp2
  go_quiet ((go_at_call 72; exact Calls.quiet_of_same (even_any _ g ga ca go co gu cu gv cv gd cd ge ce d la (HD.out _ _))))
  go_wp2_with fail
  refine (setData_64 _ g ga ca go co gu cu gv cv gd cd ge ce d la (HD.out _ _) off v o0 hin hv sv).mono ?_
  rintro e w1 ⟨rfl, hb1⟩
  have hb := below_through hb1 l1
  clear hb1
  go_wp2_with fail
  go_ret
  exact ⟨rfl, hb⟩

set_option maxRecDepth 100000 in
set_option maxHeartbeats 1000000 in
theorem schemaPut_64 (w : World) (g ga ca go co gu cu gv cv gd cd ge ce : Nat) (d : Int) (la : List Int) (h : Bld w g ga ca go co gu cu gv cv gd cd ge ce d la) (off v : Int) (o0 : 0 ≤ off) (hin : off * 64 < d * 64) (hv : U64 v) :
    Calls Faig.prog 79 #[.pointer (some ⟨g, 0, none⟩), .int .u8 1, .agg #[.int .u8 64, .int .u16 off, .int .u8 0, .bool false], .int .u64 v] w fun e w' => e = .returned (.bool true) ∧
      Below w.heap.size (w.setCell ⟨ga, (1 + off).toNat, none⟩ (.int .u64 (putv (la.getD (1 + off).toNat 0) v 0 64))) w' := by
  have l1 := h.l1
  have HB : Hid (∀ o : Obj, Bld (w.alloc o) g ga ca go co gu cu gv cv gd cd ge ce d la) := fun o => h.below ((Below.refl _ _).alloc (Nat.le_refl _) o)
  clear h
  go_enter Faig.func79, Faig.ntmps79
  go_wp2_with fail
  refine (shift_64 _).mono ?_
  rintro e w' ⟨rfl, hw'⟩
  subst w'
  go_wp2_with fail
  refine (doSet_64 _ g ga ca go co gu cu gv cv gd cd ge ce d la (HB.out _) off v o0 hin hv _).mono ?_
  rintro e w1 ⟨rfl, hb1⟩
  have hb := below_through0 hb1 l1
  clear hb1
  go_wp2_with fail
  go_ret
  exact ⟨rfl, hb⟩

set_option maxRecDepth 100000 in
set_option maxHeartbeats 1000000 in
theorem putDefault_64 (w : World) (g ga ca go co gu cu gv cv gd cd ge ce : Nat) (d : Int) (la : List Int) (h : Bld w g ga ca go co gu cu gv cv gd cd ge ce d la) (off v df : Int) (o0 : 0 ≤ off) (hin : off * 64 < d * 64) (hv : U64 (bits .xor .u64 v df)) :
    Calls Faig.prog 32 #[.pointer (some ⟨g, 0, none⟩), .int .u8 1, .agg #[.int .u8 64, .int .u16 off, .int .u8 0, .bool false], .int .u64 v, .int .u64 df] w fun e w' => e = .returned (.bool true) ∧
      Below w.heap.size (w.setCell ⟨ga, (1 + off).toNat, none⟩ (.int .u64 (putv (la.getD (1 + off).toNat 0) (bits .xor .u64 v df) 0 64))) w' := by
  have l1 := h.l1
  have HB : Hid (∀ o : Obj, Bld (w.alloc o) g ga ca go co gu cu gv cv gd cd ge ce d la) := fun o => h.below ((Below.refl _ _).alloc (Nat.le_refl _) o)
  clear h
  go_enter Faig.func32, Faig.ntmps32
  go_wp2_with fail
  refine (schemaPut_64 _ g ga ca go co gu cu gv cv gd cd ge ce d la (HB.out _) off _ o0 hin hv).mono ?_
  rintro e w1 ⟨rfl, hb1⟩
  have hb := below_through0 hb1 l1
  clear hb1
  go_wp2_with fail
  go_ret
  exact ⟨rfl, hb⟩
end Go.Proofs.Ygcfai

/-
  DefaultBack: valid.push, Start.
-/
import Derived.Test.YgcfaiBig
import Derived.Test.YgcfaiDefF
namespace Go.Proofs.Ygcfai
open Go.RowKit Go.Joins Plain
set_option linter.unusedVariables false
set_option linter.unusedSimpArgs false

set_option maxHeartbeats 1000000 in
theorem push_0 (w : World) (gw : Nat) (a d : Int) : Calls Faig.prog 133 #[.pointer (some ⟨gw, 0, none⟩), .int .u16 a, .int .u16 0, .int .u8 d] w fun e w' => e = .returned (.tuple #[]) ∧ w' = w := by
  go_enter Faig.func133, Faig.ntmps133
  go_wp2_with fail
  go_loop [8] (fun i => i = .int .u16 0) (fun _ => 0)
  case atStart => rfl
  case round =>
    subst hrel
    go_wp2_with fail
    refine bodyPost_end (v := .tuple #[]) (by simp [results, Faig.f133]) rfl ?_
    exact ⟨rfl, rfl⟩
set_option maxHeartbeats 1000000 in
theorem push_1 (w : World) (gw : Nat) (hs : w.cell? ⟨gw, 516, none⟩ = some (.int .u16 0)) (h4 : w.cell? ⟨gw, 4, none⟩ = some (.int .u16 0)) (h5 : w.cell? ⟨gw, 5, none⟩ = some (.int .u8 0)) (hf : ∀ i, w.frozen? ⟨gw, i, none⟩ = false) (hl : gw < w.heap.size) :
    Calls Faig.prog 133 #[.pointer (some ⟨gw, 0, none⟩), .int .u16 0, .int .u16 1, .int .u8 0] w fun e w' => e = .returned (.tuple #[]) ∧ ∃ n, w' = (((w.setCell ⟨gw, 4, none⟩ (.int .u16 0)).setCell ⟨gw, 5, none⟩ (.int .u8 0)).setCell ⟨gw, 516, none⟩ (.int .u16 1)).drewN n := by
  have f4 := hf 4; have f5 := hf 5; have f516 := hf 516
  clear hf
  go_enter Faig.func133, Faig.ntmps133
  go_wp2_with fail
  go_loopw [8] (fun i W => (i = .int .u16 0 ∧ W = w) ∨ (i = .int .u16 1 ∧ ∃ n, W = (((w.setCell ⟨gw, 4, none⟩ (.int .u16 0)).setCell ⟨gw, 5, none⟩ (.int .u8 0)).setCell ⟨gw, 516, none⟩ (.int .u16 1)).drewN n)) (fun i _ => 1 - (intOf i).toNat)
  case atStart => exact Or.inl ⟨rfl, rfl⟩
  case round =>
    rcases hrel with ⟨rfl, rfl⟩ | ⟨rfl, n, rfl⟩
    · go_wp2_with fail
      go_region
      go_wp2_with fail
      go_roundw
      case rel => exact Or.inr ⟨rfl, 1, rfl⟩
      case measure => simp [intOf]
    · go_wp2_with fail
      refine bodyPost_end (v := .tuple #[]) (by simp [results, Faig.f133]) rfl ?_
      exact ⟨rfl, n, rfl⟩

/-- The walk at its beginning. -/
noncomputable def WV : Array Value := (((Faig.zeroCells175.setIfInBounds 0 (.int .u64 1)).setIfInBounds 4 (.int .u16 0)).setIfInBounds 5 (.int .u8 0)).setIfInBounds 516 (.int .u16 1)
theorem z175_size : Faig.zeroCells175.size = 517 := by kernel_rfl
theorem z175_one : Faig.zeroCells175.all (·.oneCell') = true := by kernel_rfl
theorem i175 : (Faig.prog.info? 175).map (·.size) = some 517 := by kernel_rfl
theorem WV_size : WV.size = 517 := by unfold WV; simp [z175_size]
theorem all_set {c : Array Value} (h : c.all (·.oneCell') = true) (i : Nat) (v : Value) (hv : v.oneCell' = true) : (c.setIfInBounds i v).all (·.oneCell') = true := by
  rw [Array.all_eq_true_iff_forall_mem] at h ⊢
  intro x hx
  rcases Array.mem_or_eq_of_mem_setIfInBounds hx with h1 | h1
  · exact h x h1
  · rw [h1]; exact hv
theorem WV_one : WV.all (·.oneCell') = true := all_set (all_set (all_set (all_set z175_one _ _ rfl) _ _ rfl) _ _ rfl) _ _ rfl
set_option maxHeartbeats 1000000 in
theorem start_any (w : World) (a : Option Addr) (len cap : Nat) (h1 : 1 ≤ len) (h2 : len ≤ 256) :
    Calls Faig.prog 87 #[.slice a len cap] w fun e w' => e = .returned (.tuple #[.agg WV, .bool true]) ∧ Below w.heap.size w w' := by
  have t1 : decide ((len : Int) < 1) = false := by simp; omega
  have t2 : decide (256 < (len : Int)) = false := by simp; omega
  go_enter Faig.func87, Faig.ntmps87
  go_wp2_with fail
  have hb0 : ((w.alloc (.cells Faig.zeroCells175 175 (0, 0))).alloc (.cells (Faig.zeroCells175.setIfInBounds 0 (.int .u64 1)) 175 (0, 0))).heap[w.heap.size + 1]? = some (.cells (Faig.zeroCells175.setIfInBounds 0 (.int .u64 1)) 175 (0, 0)) := by
    show ((w.heap.push _).push _)[w.heap.size + 1]? = _
    rw [Array.getElem?_push, if_pos (by simp)]
  have hr0 : ((w.alloc (.cells Faig.zeroCells175 175 (0, 0))).alloc (.cells (Faig.zeroCells175.setIfInBounds 0 (.int .u64 1)) 175 (0, 0))).heap[w.heap.size]? = some (.cells Faig.zeroCells175 175 (0, 0)) := by
    show ((w.heap.push _).push _)[w.heap.size]? = _
    rw [Array.getElem?_push, if_neg (by simp), Array.getElem?_push, if_pos rfl]
  have B0 : Below w.heap.size w ((w.alloc (.cells Faig.zeroCells175 175 (0, 0))).alloc (.cells (Faig.zeroCells175.setIfInBounds 0 (.int .u64 1)) 175 (0, 0))) := ((Below.refl _ w).alloc (Nat.le_refl _) _).alloc (by simp) _
  generalize ((w.alloc (.cells Faig.zeroCells175 175 (0, 0))).alloc (.cells (Faig.zeroCells175.setIfInBounds 0 (.int .u64 1)) 175 (0, 0))) = w0 at hb0 hr0 B0 ⊢
  refine (push_1 w0 (w.heap.size + 1) ?_ ?_ ?_ (fun i => unfrozen_of_block hb0 i) (Array.getElem?_eq_some_iff.1 hb0).1).mono ?_
  · rw [cell_of_block hb0, Array.getElem?_setIfInBounds_ne (by decide)]; kernel_rfl
  · rw [cell_of_block hb0, Array.getElem?_setIfInBounds_ne (by decide)]; kernel_rfl
  · rw [cell_of_block hb0, Array.getElem?_setIfInBounds_ne (by decide)]; kernel_rfl
  rintro e w1 ⟨rfl, n, rfl⟩
  have hb1 : ((((w0.setCell ⟨w.heap.size + 1, 4, none⟩ (.int .u16 0)).setCell ⟨w.heap.size + 1, 5, none⟩ (.int .u8 0)).setCell ⟨w.heap.size + 1, 516, none⟩ (.int .u16 1)).drewN n).heap[w.heap.size + 1]? = some (.cells WV 175 (0, 0)) := block_setCell (block_setCell (block_setCell hb0 _) _) _
  have hr1 : ((((w0.setCell ⟨w.heap.size + 1, 4, none⟩ (.int .u16 0)).setCell ⟨w.heap.size + 1, 5, none⟩ (.int .u8 0)).setCell ⟨w.heap.size + 1, 516, none⟩ (.int .u16 1)).drewN n).heap[w.heap.size]? = some (.cells Faig.zeroCells175 175 (0, 0)) := by
    show ((((w0.setCell ⟨w.heap.size + 1, 4, none⟩ (.int .u16 0)).setCell ⟨w.heap.size + 1, 5, none⟩ (.int .u8 0)).setCell ⟨w.heap.size + 1, 516, none⟩ (.int .u16 1))).heap[w.heap.size]? = _
    rw [Below.heap_setCell _ _ _ _ (by simp), Below.heap_setCell _ _ _ _ (by simp), Below.heap_setCell _ _ _ _ (by simp)]; exact hr0
  have B1 : Below w.heap.size w ((((w0.setCell ⟨w.heap.size + 1, 4, none⟩ (.int .u16 0)).setCell ⟨w.heap.size + 1, 5, none⟩ (.int .u8 0)).setCell ⟨w.heap.size + 1, 516, none⟩ (.int .u16 1)).drewN n) := below_drewN (((B0.setCell (p := ⟨w.heap.size + 1, 4, none⟩) (Nat.le_succ _) _).setCell (p := ⟨w.heap.size + 1, 5, none⟩) (Nat.le_succ _) _).setCell (p := ⟨w.heap.size + 1, 516, none⟩) (Nat.le_succ _) _) _
  generalize ((((w0.setCell ⟨w.heap.size + 1, 4, none⟩ (.int .u16 0)).setCell ⟨w.heap.size + 1, 5, none⟩ (.int .u8 0)).setCell ⟨w.heap.size + 1, 516, none⟩ (.int .u16 1)).drewN n) = w1 at hb1 hr1 B1 ⊢
  clear hb0 hr0 B0
  go_wp2_with (first | (with_reducible refine load_row (t := 175) (w.heap.size + 1) WV 175 (0, 0) _ (by simp [Act.eval]) hb1 Faig.underlying175 rfl (by rw [WV_size]; exact i175) ?_) | (with_reducible refine store_row (t := 175) w.heap.size Faig.zeroCells175 WV 175 (by simp [Act.eval, Act.put]) (by simp [Act.eval, Act.put]) hr1 (by rw [WV_size]; exact i175) (by rw [WV_size]; exact z175_size) WV_one ?_) | fail)
  have hs := setRow_block (c' := WV) hr1
  have Bs := setRow_below (c' := WV) B1 (Nat.le_refl w.heap.size)
  generalize w1.setRow w.heap.size WV = w2 at hs Bs ⊢
  have hld := run_loadVar_row (P := Faig.prog) w2 w.heap.size 175 175 WV (0, 0) _ hs Faig.underlying175 rfl (by rw [WV_size]; exact i175)
  refine bodyPost_ret (v := .tuple #[.agg WV, .bool true]) ?_ rfl ⟨rfl, Bs⟩
  simp [results, Faig.results87, hld, Result.andThen, asAddr]
end Go.Proofs.Ygcfai

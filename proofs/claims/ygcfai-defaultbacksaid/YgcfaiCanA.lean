/-
  DefaultBack: tree.trimmed, words, shaped, bounded, Check, at a tree of one struct.
-/
import Derived.Test.YgcfaiDecB
namespace Go.Proofs.Ygcfai
open Go.RowKit Go.Joins Plain
set_option linter.unusedVariables false
set_option linter.unusedSimpArgs false
/-- The words that stay of the first k. -/
def trimN (ws : List Int) : Nat → Nat
  | 0 => 0
  | k + 1 => if ws.getD k 0 = 0 then trimN ws k else k + 1
theorem trimN_le (ws : List Int) : ∀ k, trimN ws k ≤ k
  | 0 => Nat.le_refl _
  | k + 1 => by unfold trimN; split; exact Nat.le_trans (trimN_le ws k) (Nat.le_succ _); exact Nat.le_refl _
theorem trimN_z {ws : List Int} {k : Nat} (h : ws.getD k 0 = 0) : trimN ws (k + 1) = trimN ws k := by
  show (if ws.getD k 0 = 0 then trimN ws k else k + 1) = _
  rw [if_pos h]
theorem row_of_own {w : World} {o : Option Addr} {c d : Nat} {ws : List Int} (h : w.ownsRow 0 49 1 (.slice o d c) d (ws.map (Value.int .u64))) (hb : ∀ i, U64 (ws.getD i 0)) : Row w o d ws := by
  have hl : ws.length = d := by have := h.1; simpa using this
  rcases h.2 with ⟨h0, hd⟩ | ⟨g, cap, cur, e, -, hh, q1, q2, q3, q4⟩
  · exact ⟨hl, hb, by subst hd; exact Nat.zero_le _, Or.inl hd⟩
  · have eo : o = some ⟨g, 0, none⟩ := by injection e
    refine ⟨hl, hb, Nat.le_trans q1 q2, Or.inr ⟨g, 0, eo, (Array.getElem?_eq_some_iff.1 hh).1, fun i hi => ?_⟩⟩
    rw [Nat.zero_add, cell_of_block hh]
    have h1 : (ws.map (Value.int .u64))[i]? = some (.int .u64 (ws.getD i 0)) := by
      have : i < ws.length := by omega
      simp [List.getD_eq_getElem?_getD, this]
    rw [← q4, List.getElem?_take, if_pos (by omega), Array.getElem?_toList] at h1
    exact h1
/-- A tree of one struct, as the functions of package tree read it. -/
structure Td (w : World) (gt gN capN : Nat) (o : Option Addr) (c d : Nat) (ws : List Int) : Prop where
  t0 : w.cell? ⟨gt, 0, none⟩ = some (.slice (some ⟨gN, 0, none⟩) 1 capN)
  t1 : w.cell? ⟨gt, 1, none⟩ = some (.int .i16 0)
  n0 : w.cell? ⟨gN, 0, none⟩ = some (.int .u8 1)
  n1 : w.cell? ⟨gN, 1, none⟩ = some (.int .u8 0)
  n2 : w.cell? ⟨gN, 2, none⟩ = some (.slice o d c)
  n3 : w.cell? ⟨gN, 3, none⟩ = some (.slice none 0 0)
  row : Row w o d ws
  lt : gt < w.heap.size
  ln : gN < w.heap.size
theorem Td.below {w w' : World} {gt gN capN : Nat} {o : Option Addr} {c d : Nat} {ws : List Int} (h : Td w gt gN capN o c d ws) (hb : Below w.heap.size w w') : Td w' gt gN capN o c d ws := by
  have k1 : ∀ i v, w.cell? ⟨gt, i, none⟩ = some v → w'.cell? ⟨gt, i, none⟩ = some v := fun i v hv => (hb.cell (p := ⟨gt, i, none⟩) h.lt).trans hv
  have k2 : ∀ i v, w.cell? ⟨gN, i, none⟩ = some v → w'.cell? ⟨gN, i, none⟩ = some v := fun i v hv => (hb.cell (p := ⟨gN, i, none⟩) h.ln).trans hv
  exact ⟨k1 _ _ h.t0, k1 _ _ h.t1, k2 _ _ h.n0, k2 _ _ h.n1, k2 _ _ h.n2, k2 _ _ h.n3, h.row.below hb (Nat.le_refl _), Nat.lt_of_lt_of_le h.lt hb.size, Nat.lt_of_lt_of_le h.ln hb.size⟩

set_option maxRecDepth 100000 in
set_option maxHeartbeats 1000000 in
theorem trimmed_any (w : World) (gN : Nat) (o : Option Addr) (c d : Nat) (ws : List Int) (n2 : w.cell? ⟨gN, 2, none⟩ = some (.slice o d c)) (n3 : w.cell? ⟨gN, 3, none⟩ = some (.slice none 0 0)) (hr : Row w o d ws) (hd : d ≤ 8) :
    Calls Faig.prog 144 #[.pointer (some ⟨gN, 0, none⟩)] w fun e w' => e = .returned (.tuple #[.int .i64 (trimN ws d : Nat), .int .i64 0]) ∧ Below w.heap.size w w' := by
  go_enter Faig.func144, Faig.ntmps144
  go_wp2_with fail
  go_quiet (fail)
  have hB : ∀ n, Below w.heap.size w (w.drewN n) := fun n => below_drewN (Below.refl _ _) n
  go_wp2_with fail
  go_loop [2] (fun s => ∃ k : Nat, k ≤ d ∧ s = .int .i64 k ∧ Hid (trimN ws d = trimN ws k)) (fun s => (intOf s).toNat)
  case atStart => exact ⟨d, Nat.le_refl _, rfl, rfl⟩
  case round =>
    obtain ⟨k, hk, rfl, hT⟩ := hrel
    by_cases h0 : k = 0
    · subst h0
      have HT : Hid (trimN ws d = 0) := hT.out
      go_wp2_with fail
      go_loop [3] (fun s => s = .int .i64 0) (fun _ => 0)
      case atStart => rfl
      case round =>
        subst hrel
        go_wp2_with fail
        refine bodyPost_ret (v := .tuple #[.int .i64 0, .int .i64 0]) (by simp [results, Faig.results144, go_sem]) rfl ?_
        exact ⟨by rw [HT.out]; rfl, hB _⟩
    · obtain ⟨k', rfl⟩ : ∃ k', k = k' + 1 := ⟨k - 1, by omega⟩
      have ht : decide (0 < (k' : Int) + 1) = true := by simp <;> omega
      have hs1 : (k' : Int) + 1 - 1 = k' := by omega
      obtain ⟨b, off, rfl, hbl, hcell, hU⟩ := hr.at k' (by omega)
      have hkd : (k' : Int) < (d : Int) := by omega
      by_cases hz : ws.getD k' 0 = 0
      · have HT : Hid (trimN ws d = trimN ws k') := by
          exact hT.out.trans (trimN_z hz)
        rw [hz] at hcell
        clear hT
        go_wp2_with fail
        go_round
        case rel => exact ⟨k', by omega, by go_num, HT⟩
        case measure => simp [intOf] <;> omega
      · have HT : Hid (trimN ws d = k' + 1) := by
          have := hT.out; rw [show trimN ws (k' + 1) = k' + 1 by unfold trimN; rw [if_neg hz]] at this; exact this
        generalize ws.getD k' 0 = x at hcell hz hU
        have hzb : decide (x = 0) = false := by simp [hz]
        clear hT
        go_wp2_with fail
        go_loop [3] (fun s => s = .int .i64 0) (fun _ => 0)
        case atStart => rfl
        case round =>
          subst hrel
          go_wp2_with fail
          refine bodyPost_ret (v := .tuple #[.int .i64 ((k' : Int) + 1), .int .i64 0]) (by simp [results, Faig.results144, go_sem]) rfl ?_
          exact ⟨by rw [HT.out]; rfl, hB _⟩
end Go.Proofs.Ygcfai

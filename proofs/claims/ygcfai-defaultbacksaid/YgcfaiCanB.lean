/-
  DefaultBack: tree.shaped, words, bounded, Check.
-/
import Derived.Test.YgcfaiCanA
namespace Go.Proofs.Ygcfai
open Go.RowKit Go.Joins Plain
set_option linter.unusedVariables false
set_option linter.unusedSimpArgs false
set_option maxRecDepth 100000 in
set_option maxHeartbeats 1000000 in
theorem shaped_str (w : World) (gt gN capN : Nat) (o : Option Addr) (c d : Nat) (ws : List Int) (h : Td w gt gN capN o c d ws) (hd : d ≤ 8) :
    Calls Faig.prog 142 #[.pointer (some ⟨gt, 0, none⟩), .int .i64 0] w fun e w' => e = .returned (.bool true) ∧ w' = w := by
  have t0 := h.t0; have n0 := h.n0; have n1 := h.n1; have n2 := h.n2; have n3 := h.n3
  have hd8 : decide ((d : Int) ≤ 8) = true := by simp; omega
  clear h
  go_enter Faig.func142, Faig.ntmps142
  go_wp2_with fail
  go_loop [23, 7] (fun i _ => i = .int .i64 0) (fun _ _ => 0)
  case atStart => rfl
  case round =>
    subst hrel
    go_wp2_with fail
    go_ret
    exact ⟨rfl, rfl⟩
set_option maxRecDepth 100000 in
set_option maxHeartbeats 1000000 in
theorem words152 (w : World) (gt gN capN : Nat) (o : Option Addr) (c d : Nat) (ws : List Int) (h : Td w gt gN capN o c d ws) (hd : d ≤ 8) :
    Calls Faig.prog 152 #[.pointer (some ⟨gt, 0, none⟩), .pointer (some ⟨gN, 0, none⟩)] w fun e w' => e = .returned (.int .i64 (trimN ws d : Nat)) ∧ Below w.heap.size w w' := by
  have n0 := h.n0
  have hle := trimN_le ws d
  have HC : Hid (Calls Faig.prog 144 #[.pointer (some ⟨gN, 0, none⟩)] w fun e w' => e = .returned (.tuple #[.int .i64 (trimN ws d : Nat), .int .i64 0]) ∧ Below w.heap.size w w') := trimmed_any w gN o c d ws h.n2 h.n3 h.row hd
  clear h
  generalize trimN ws d = t at *
  go_enter Faig.func152, Faig.ntmps152
  go_wp2_with fail
  refine HC.out.mono ?_
  rintro e w1 ⟨rfl, hb1⟩
  go_wp2_with fail
  go_ret
  exact ⟨rfl, hb1⟩
theorem z256_0 : Faig.zeroCells256[0]? = some (.int .u8 0) := by kernel_rfl
theorem z126_0 : Faig.zeroCells126[0]? = some (.bool false) := by kernel_rfl
theorem z256_s : 0 < Faig.zeroCells256.size := by
  have : Faig.zeroCells256.size = 512 := by kernel_rfl
  omega
set_option maxRecDepth 100000 in
set_option maxHeartbeats 1000000 in
theorem bounded_str (w : World) (gt gN capN : Nat) (o : Option Addr) (c d : Nat) (ws : List Int) (h : Td w gt gN capN o c d ws) (hd : d ≤ 8) :
    Calls Faig.prog 143 #[.pointer (some ⟨gt, 0, none⟩)] w fun e w' => e = .returned (.bool true) ∧ Below w.heap.size w w' := by
  have t0 := h.t0; have t1 := h.t1
  have lt := h.lt
  have H : Hid (Td w gt gN capN o c d ws) := h
  have hle := trimN_le ws d
  have z0 := z256_0
  clear h
  go_enter Faig.func143, Faig.ntmps143
  go_wp2_with fail
  have B0 : Below w.heap.size w ((w.alloc (.cells (Faig.zeroCells256.setIfInBounds 0 (.int .u8 1)) 256 (0, 0))).alloc (.cells Faig.zeroCells126 126 (0, 0))) := ((Below.refl _ w).alloc (Nat.le_refl _) _).alloc (by simp) _
  have hb1 : ((w.alloc (.cells (Faig.zeroCells256.setIfInBounds 0 (.int .u8 1)) 256 (0, 0))).alloc (.cells Faig.zeroCells126 126 (0, 0))).heap[w.heap.size]? = some (.cells (Faig.zeroCells256.setIfInBounds 0 (.int .u8 1)) 256 (0, 0)) := by
    show ((w.heap.push _).push _)[w.heap.size]? = _
    rw [Array.getElem?_push, if_neg (by simp), Array.getElem?_push, if_pos rfl]
  have hb2 : ((w.alloc (.cells (Faig.zeroCells256.setIfInBounds 0 (.int .u8 1)) 256 (0, 0))).alloc (.cells Faig.zeroCells126 126 (0, 0))).heap[w.heap.size + 1]? = some (.cells Faig.zeroCells126 126 (0, 0)) := by
    show ((w.heap.push _).push _)[w.heap.size + 1]? = _
    rw [Array.getElem?_push, if_pos (by simp)]
  generalize ((w.alloc (.cells (Faig.zeroCells256.setIfInBounds 0 (.int .u8 1)) 256 (0, 0))).alloc (.cells Faig.zeroCells126 126 (0, 0))) = w2 at B0 hb1 hb2 ⊢
  have e1 : w2.cell? ⟨w.heap.size, 0, none⟩ = some (.int .u8 1) := by rw [cell_of_block hb1]; exact Array.getElem?_setIfInBounds_self_of_lt z256_s
  have e2 : w2.cell? ⟨w.heap.size + 1, 0, none⟩ = some (.bool false) := by rw [cell_of_block hb2]; exact z126_0
  have l1 := (Array.getElem?_eq_some_iff.1 hb1).1
  have H2 := H.out.below B0
  have s0 := H2.t0; have m0 := H2.n0; have m3 := H2.n3
  have HH2 : Hid (Td w2 gt gN capN o c d ws) := H2
  have HB0 : Hid (Below w.heap.size w w2) := B0
  have WC : Hid (Calls Faig.prog 152 #[.pointer (some ⟨gt, 0, none⟩), .pointer (some ⟨gN, 0, none⟩)] w2 fun e w' => e = .returned (.int .i64 (trimN ws d : Nat)) ∧ Below w2.heap.size w2 w') := words152 w2 gt gN capN o c d ws H2 hd
  generalize trimN ws d = t at *
  clear B0 hb1 hb2 H2 z0 t0 t1
  go_loopw [5, 6, 7, 8, 9] (fun k i _ _ _ W => (k = .int .i64 1 ∧ i = .int .i64 0 ∧ W = w2) ∨ (k = .int .i64 ((t : Int) + 1) ∧ i = .int .i64 1 ∧ Below w2.heap.size w2 W)) (fun _ i _ _ _ _ => 1 - (intOf i).toNat)
  case atStart => exact Or.inl ⟨rfl, rfl, rfl⟩
  case round =>
    rcases hrel with ⟨rfl, rfl, rfl⟩ | ⟨rfl, rfl, hB⟩
    · go_wp2_with fail
      refine WC.out.mono ?_
      rintro e w3 ⟨rfl, hb3⟩
      have g1 : w3.cell? ⟨w.heap.size, 0, none⟩ = some (.int .u8 1) := (hb3.cell (p := ⟨w.heap.size, 0, none⟩) l1).trans e1
      have H3 := HH2.out.below hb3
      have k0 := H3.n0; have k3 := H3.n3
      clear H3
      have HB3 : Hid (Below wr.heap.size wr w3) := hb3
      clear hb3
      go_wp2_with fail
      go_loop [74, 11] (fun s _ => s = .int .i64 0) (fun _ _ => 0)
      case atStart => rfl
      case round =>
        subst hrel
        go_wp2_with fail
        go_roundw
        case rel => exact Or.inr ⟨by go_num, rfl, HB3.out⟩
        case measure => simp [intOf]
    · have s1 : wr.cell? ⟨gt, 0, none⟩ = some (.slice (some ⟨gN, 0, none⟩) 1 capN) := (HH2.out.below hB).t0
      have HB : Hid (Below w.heap.size w wr) := HB0.out.trans (hB.mono HB0.out.size)
      have hle2 : decide ((t : Int) + 1 ≤ 256) = true := by simp; omega
      clear hB
      go_wp2_with fail
      go_ret
      exact ⟨rfl, HB.out⟩
set_option maxRecDepth 100000 in
set_option maxHeartbeats 1000000 in
theorem check_str (w : World) (gt gN capN : Nat) (o : Option Addr) (c d : Nat) (ws : List Int) (h : Td w gt gN capN o c d ws) (hd : d ≤ 8) :
    Calls Faig.prog 121 #[.pointer (some ⟨gt, 0, none⟩)] w fun e w' => e = .returned (.bool true) ∧ Below w.heap.size w w' := by
  have t0 := h.t0; have t1 := h.t1
  have lt := h.lt
  have H : Hid (∀ w', Below w.heap.size w w' → Td w' gt gN capN o c d ws) := fun w' hb => h.below hb
  clear h
  go_enter Faig.func121, Faig.ntmps121
  go_wp2_with fail
  go_quiet (fail)
  have Bq : Below w.heap.size w (w.drewN nq) := below_drewN (Below.refl _ _) nq
  have zq : (w.drewN nq).heap.size = w.heap.size := rfl
  generalize w.drewN nq = w0 at Bq zq ⊢
  have h0 := H.out w0 Bq
  have s0 := h0.t0
  have ls := h0.lt
  clear h0 t0 t1
  go_wp2_with fail
  have B1 : Below w.heap.size w (w0.alloc (.cells #[.int .u64 0, .int .u64 0, .int .u64 0, .int .u64 0, .int .u64 0, .int .u64 0, .int .u64 0, .int .u64 0] 156 (0, 0))) := Bq.alloc Bq.size _
  generalize (w0.alloc (.cells #[.int .u64 0, .int .u64 0, .int .u64 0, .int .u64 0, .int .u64 0, .int .u64 0, .int .u64 0, .int .u64 0] 156 (0, 0))) = w1 at B1 ⊢
  have h1 := H.out w1 B1
  have u0 := h1.t0; have u1 := h1.t1; have m3 := h1.n3
  have SC : Hid (Calls Faig.prog 142 #[.pointer (some ⟨gt, 0, none⟩), .int .i64 0] w1 fun e w' => e = .returned (.bool true) ∧ w' = w1) := shaped_str w1 gt gN capN o c d ws h1 hd
  have BC : Hid (Calls Faig.prog 143 #[.pointer (some ⟨gt, 0, none⟩)] w1 fun e w' => e = .returned (.bool true) ∧ Below w1.heap.size w1 w') := bounded_str w1 gt gN capN o c d ws h1 hd
  have HB1 : Hid (Below w.heap.size w w1) := B1
  clear h1 B1 Bq s0
  go_loop [43, 4, 6, 7, 59] (fun i _ _ _ _ => i = .int .i64 0 ∨ i = .int .i64 1) (fun i _ _ _ _ => 1 - (intOf i).toNat)
  case atStart => exact Or.inl rfl
  case round =>
    rcases hrel with rfl | rfl
    · go_wp2_with fail
      refine SC.out.mono ?_
      rintro e w2 ⟨rfl, hw2⟩
      subst w2
      go_wp2_with fail
      go_loop [59, 6, 7] (fun s _ _ => s = .int .i64 0) (fun _ _ _ => 0)
      case atStart => rfl
      case round =>
        subst hrel
        go_wp2_with fail
        go_round
        case rel => exact Or.inr rfl
        case measure => simp [intOf]
    · go_wp2_with fail
      refine BC.out.mono ?_
      rintro e w2 ⟨rfl, hb2⟩
      have HB2 : Hid (Below w.heap.size w w2) := HB1.out.trans (hb2.mono HB1.out.size)
      clear hb2
      go_wp2_with fail
      go_ret
      exact ⟨rfl, HB2.out⟩
end Go.Proofs.Ygcfai

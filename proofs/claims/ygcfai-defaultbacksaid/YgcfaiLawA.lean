/-
  DefaultBack: law.copyOf, sameWords; PutDefault and GetDefault at a pointer's place.
-/
import Derived.Test.YgcfaiCanG
namespace Go.Proofs.Ygcfai
open Go.RowKit Go.Joins Plain
set_option linter.unusedVariables false
set_option linter.unusedSimpArgs false
theorem copyOf_str (w : World) (d : Nat) (a : Option Addr) (cap : Nat) (l : List Int) (hd : d ≤ 8) (hr : Row w a (1 + d) l) (hx : l.getD 0 0 = msv 0 1 d 0) (t : Nat) (ht : Hid (t = trimN (l.drop 1) d)) (ws : List Int) (hws : Hid (ws = (l.drop 1).take t)) :
    Calls Faig.prog 33 #[.slice a (1 + d) cap] w fun e w' => CanonP w w' e t ws := by
  have HD : Hid (Calls Faig.prog 14 #[.slice a (1 + d) cap] w fun e w' => ∃ gt, e = .returned (.tuple #[.pointer (some ⟨gt, 0, none⟩), .bool true]) ∧ DecF w w' gt d ((l.drop 1).map (Value.int .u64))) := decode_str w d a cap l hd hr hx _ rfl
  have hbd : Hid (∀ i, U64 ((l.drop 1).getD i 0)) := fun i => by
    have := hr.2.1 (1 + i)
    have e : (l.drop 1).getD i 0 = l.getD (1 + i) 0 := by simp [List.getD_eq_getElem?_getD, List.getElem?_drop, Nat.add_comm]
    rw [e]; exact this
  clear hr hx
  go_enter Faig.func33, Faig.ntmps33
  go_wp2_with fail
  refine HD.out.mono ?_
  rintro e w1 ⟨gt, rfl, hB1, gN, capN, o, c, hT⟩
  have T1 : Td w1 gt gN capN o c d (l.drop 1) := ⟨hT.t0, hT.t1, hT.n0, hT.n1, hT.n2, hT.n3, row_of_own hT.own hbd.out, hT.lt, hT.ln⟩
  have HC := canon_str w1 gt gN capN o c d (l.drop 1) T1 hd
  rw [← ht.out, ← hws.out] at HC
  have HCC : Hid (Calls Faig.prog 80 #[.pointer (some ⟨gt, 0, none⟩)] w1 fun e w' => CanonP w1 w' e t ws) := HC
  clear HC T1 hT
  go_wp2_with fail
  refine HCC.out.mono ?_
  rintro e w2 ⟨g, cap2, rfl, hB2, hO2, hg2⟩
  have HP : Hid (CanonP w w2 (.returned (.tuple #[.slice (some ⟨g, 0, none⟩) (1 + t) cap2, .bool true])) t ws) := ⟨g, cap2, rfl, hB1.trans (hB2.mono hB1.size), hO2, Nat.le_trans hB1.size hg2⟩
  clear hB2 hO2 hg2 hB1
  go_wp2_with fail
  refine bodyPost_ret (v := .tuple #[.slice (some ⟨g, 0, none⟩) (1 + t) cap2, .bool true]) (by simp [results, Faig.results33, go_sem]) rfl ?_
  exact HP.out
set_option maxHeartbeats 1000000 in
theorem same_any (w : World) (a b : Option Addr) (n c1 c2 : Nat) (l : List Int) (ha : Row w a n l) (hb : Row w b n l) (hn : n ≤ 100) :
    Calls Faig.prog 16 #[.slice a n c1, .slice b n c2] w fun e w' => e = .returned (.bool true) ∧ Below w.heap.size w w' := by
  go_enter Faig.func16, Faig.ntmps16
  go_wp2_with fail
  go_loopw [13, 5] (fun i _ W => ∃ k : Nat, k ≤ n ∧ i = .int .i64 k ∧ Below w.heap.size w W) (fun i _ _ => n - (intOf i).toNat)
  case atStart => exact ⟨0, Nat.zero_le _, by go_num, Below.refl _ _⟩
  case round =>
    obtain ⟨k, hk, rfl, hB⟩ := hrel
    by_cases hlt : k < n
    · have htt : decide ((k : Int) < (n : Int)) = true := by simp; omega
      obtain ⟨b1, o1, rfl, -, hc1, hU⟩ := (ha.below hB (Nat.le_refl _)).at k hlt
      obtain ⟨b2, o2, rfl, -, hc2, -⟩ := (hb.below hB (Nat.le_refl _)).at k hlt
      generalize l.getD k 0 = x at *
      go_wp2_with fail
      go_quiet (fail)
      have HB : Hid (Below w.heap.size w (wr.drewN nq)) := below_drewN hB nq
      go_wp2_with fail
      go_roundw
      case rel => exact ⟨k + 1, by omega, by go_num, HB.out⟩
      case measure => simp [intOf]; omega
    · have htt : decide ((k : Int) < (n : Int)) = false := by simp; omega
      go_wp2_with fail
      go_ret
      exact ⟨rfl, hB⟩
theorem putPtr79 (w : World) (b : Value) (v : Int) :
    Calls Faig.prog 79 #[b, .int .u8 1, .agg #[.int .u8 0, .int .u16 0, .int .u8 0, .bool true], .int .u64 v] w fun e w' => e = .returned (.bool false) ∧ Below w.heap.size w w' := by
  go_enter Faig.func79, Faig.ntmps79
  go_wp2_with fail
  refine (shift_0 _).mono ?_
  rintro e w' ⟨rfl, hw'⟩
  subst w'
  go_wp2_with fail
  go_ret
  exact ⟨rfl, (Below.refl _ _).alloc (Nat.le_refl _) _⟩
theorem putPtr (w : World) (b : Value) (v df : Int) :
    Calls Faig.prog 32 #[b, .int .u8 1, .agg #[.int .u8 0, .int .u16 0, .int .u8 0, .bool true], .int .u64 v, .int .u64 df] w fun e w' => e = .returned (.bool false) ∧ Below w.heap.size w w' := by
  go_enter Faig.func32, Faig.ntmps32
  go_wp2_with fail
  refine (putPtr79 _ _ _).mono ?_
  rintro e w1 ⟨rfl, hb1⟩
  have B : Hid (Below w.heap.size w w1) := ((Below.refl _ _).alloc (Nat.le_refl _) _).trans (hb1.mono (by simp))
  clear hb1
  go_wp2_with fail
  go_ret
  exact ⟨rfl, B.out⟩
theorem getPtr (w : World) (a : Value) (k T d p c n df : Int) :
    Calls Faig.prog 35 #[a, .agg #[.int .u8 k, .int .u16 T, .int .u8 d, .int .u8 p, .int .u8 c, .int .u16 n], .agg #[.int .u8 0, .int .u16 0, .int .u8 0, .bool true], .int .u64 df] w fun e w' => e = .returned (.int .u64 0) ∧ Below w.heap.size w w' := by
  go_enter Faig.func35, Faig.ntmps35
  go_wp2_with fail
  go_ret
  exact ⟨rfl, ((Below.refl _ _).alloc (Nat.le_refl _) _).alloc (by simp) _⟩
end Go.Proofs.Ygcfai

/-
  DefaultBack: the walk of schema.Layout.
-/
import Derived.Test.YgcfaiLayC
namespace Go.Proofs.Ygcfai
open Go.RowKit Go.Joins Plain
set_option linter.unusedVariables false
set_option linter.unusedSimpArgs false
theorem info78 : (Faig.prog.info? 78).map (fun i => (i.zero, i.size, i.bytes)) = some (some (.agg #[.int .u8 0, .int .u16 0, .int .u8 0, .bool false]), 4, 6) := by kernel_rfl
/-- What Layout leaves: no layout; or places. -/
def LayPost (w w' : World) (e : Ending) (n : Nat) : Prop :=
  Below w.heap.size w w' ∧ (e = .returned (.tuple #[.slice none 0 0, .int .u8 0, .int .u8 0, .bool false]) ∨
    ∃ (v : Value) (data : Nat) (P : List (Nat × Nat)) (U : List Nat), e = .returned (.tuple #[v, .int .u8 (data : Int), .int .u8 0, .bool true]) ∧ w'.ownsRow 0 78 4 v n (flat P) ∧ (∀ b, v.ownBlock = some b → w.heap.size ≤ b) ∧ LayInv U data P ∧ P.length = n)
theorem lay_or (X b S : Nat) (m : Int) (hm : m = 2 ^ S - 1) (hX : X < 2 ^ 64) (h : b + S ≤ 64) : bits .or .u64 (X : Int) (IntKind.u64.wrap (m * 2 ^ b)) = ((X ||| (2 ^ S - 1) * 2 ^ b : Nat) : Int) := by
  have hS0 : 0 < 2 ^ S := Nat.pow_pos (by omega)
  have hb0 : 0 < 2 ^ b := Nat.pow_pos (by omega)
  have hSb : 2 ^ S * 2 ^ b ≤ 2 ^ 64 := by rw [← Nat.pow_add]; exact Nat.pow_le_pow_right (by omega) (by omega)
  have hM : (2 ^ S - 1) * 2 ^ b < 2 ^ 64 := Nat.lt_of_lt_of_le (Nat.mul_lt_mul_of_pos_right (by omega) hb0) hSb
  have e1 : m * 2 ^ b = (((2 ^ S - 1) * 2 ^ b : Nat) : Int) := by
    rw [hm, Int.natCast_mul, Int.ofNat_sub hS0, Int.natCast_pow, Int.natCast_pow]; rfl
  simp only [Nat.reducePow] at hM hX
  rw [e1, wrapU64_in _ (by omega) (by omega), u64_or_nat _ _ hX hM]
theorem lay_nil (w W : World) (gu : Nat) (v : Value) (hB : Below w.heap.size w W) (hu : UA W gu [0, 0, 0, 0, 0, 0, 0, 0]) (hg : w.heap.size ≤ gu) (ho : W.ownsRow 0 78 4 v 0 []) (hv : ∀ b, v.ownBlock = some b → w.heap.size ≤ b ∧ b ≠ gu) : LW w W gu v 0 0 [] [0, 0, 0, 0, 0, 0, 0, 0] := by
  have hz : ∀ j, ([0, 0, 0, 0, 0, 0, 0, 0] : List Nat).getD j 0 = 0 := by
    intro j
    match j with
    | 0 | 1 | 2 | 3 | 4 | 5 | 6 | 7 => rfl
    | j + 8 => rfl
  exact ⟨hB, hu, hg, ho, hv, ⟨rfl, by omega, fun j => by rw [hz]; decide, fun j _ => hz j, fun p hp => (List.not_mem_nil hp).elim, fun p hp => (List.not_mem_nil hp).elim, fun p hp => (List.not_mem_nil hp).elim, List.Pairwise.nil⟩, rfl⟩
theorem slice_used (g data : Nat) (hd : data ≤ 8) (w : World) : (Instr.sliceAt 156 (.pointer (some ⟨g, 0, none⟩)) none (some (.int .u8 (data : Int))) (some (.int .u8 (data : Int)))).run Faig.prog w = .ok (.slice (some ⟨g, 0, none⟩) data data) w := by
  have ht : Faig.prog.underlying 156 = some (.array (Faig.prog.arrayLen 156) (Faig.prog.elem 156)) := by kernel_rfl
  have hal : Faig.prog.arrayLen 156 = 8 := by kernel_rfl
  have hel : Faig.prog.elem 156 = 49 := by kernel_rfl
  rw [run_sliceAt_array_hm _ _ _ ht _ _ _ _ (by omega) (by omega) (by rw [hal]; omega), hel]
  obtain ⟨i49, hi, hz0, hz1, hz2⟩ := info_parts info49
  simp [sizeOf, typeInfo, hi, Result.andThen, slicedAt]
  intro _
  simp [Addr.add]

set_option maxRecDepth 100000 in
set_option maxHeartbeats 2000000 in
theorem layout_any (w : World) (gt n : Nat) (f : Nat → Int) (hT : TS w gt n f) (hf : ∀ i, 0 ≤ f i ∧ f i ≤ 10) (hn0 : 0 < n) (hn : n ≤ 16) :
    Calls Faig.prog 28 #[.slice (some ⟨gt, 0, none⟩) n n] w fun e w' => LayPost w w' e n := by
  obtain ⟨i78, hi, hz0, hz1, hz2⟩ := info_parts info78
  have b3 : n ≤ maxLen := by unfold maxLen; omega
  have b4 : i78.bytes * n ≤ 281474976710656 := by rw [hz2]; omega
  have t1 : decide (16 < (n : Int)) = false := by simp; omega
  have t2 : decide (0 < (n : Int)) = true := by simp; omega
  go_enter Faig.func28, Faig.ntmps28
  go_wp2_with (first | (at_make; refine wpList_make_own _ rfl _ _ 68 rfl 0 78 i78 _ 4 Faig.underlying68 hi hz0 hz1 .i64 .i64 n n rfl rfl rfl b4 b3 (Nat.zero_le _) ?_; intro w0 r1 r2) | fail)

  have B0 : Below w.heap.size w w0 := (Below.refl _ w).grown r2 (Nat.le_refl _) (fun k hk => by cases hk)
  have hgu : w.heap.size ≤ w0.heap.size := B0.size
  have hlt0 : w.heap.size < w0.heap.size := ownsRow_lt r1 rfl
  have L0 : LW w (w0.alloc (.cells #[.int .u64 0, .int .u64 0, .int .u64 0, .int .u64 0, .int .u64 0, .int .u64 0, .int .u64 0, .int .u64 0] 156 (0, 0))) w0.heap.size (.slice (some ⟨w.heap.size, 0, none⟩) 0 n) 0 0 [] [0, 0, 0, 0, 0, 0, 0, 0] := by
    refine lay_nil _ _ _ _ (B0.alloc hgu _) ⟨by simp, fun j hj => ?_, fun j => ?_⟩ hgu (ownsRow_same r1 (fun b hb => Below.heap_alloc _ _ _ (ownsRow_lt r1 hb))) (fun b hb => by cases hb; exact ⟨Nat.le_refl _, Nat.ne_of_lt hlt0⟩)
    · have : j = 0 ∨ j = 1 ∨ j = 2 ∨ j = 3 ∨ j = 4 ∨ j = 5 ∨ j = 6 ∨ j = 7 := by omega
      rcases this with rfl | rfl | rfl | rfl | rfl | rfl | rfl | rfl <;> simp [go_sem]
    · exact unfrozen_of_block (show (w0.heap.push _)[w0.heap.size]? = _ by rw [Array.getElem?_push, if_pos rfl]) j
  clear r1 r2
  go_loopw [2, 3, 4, 23] (fun v d p i W => ∃ (k data : Nat) (P : List (Nat × Nat)) (U : List Nat), i = .int .i64 k ∧ k ≤ n ∧ d = .int .u8 data ∧ p = .int .u8 0 ∧ LW w W w0.heap.size v k data P U) (fun _ _ _ i _ => n - (intOf i).toNat)
  case atStart => exact ⟨0, 0, [], _, by go_num, Nat.zero_le _, rfl, rfl, L0⟩
  case round =>
    obtain ⟨k, data, P, U, rfl, hk, rfl, rfl, h⟩ := hrel
    have H : Hid (LW w wr w0.heap.size u2 k data P U) := h
    clear L0
    by_cases hlt : k < n
    · have ht : decide ((k : Int) < (n : Int)) = true := by simp; omega
      have T := hT.below h.below
      have c0 := T.kind k hlt; have c1 := T.elem k hlt; have c2 := T.ref k hlt; have c3 := T.nest k hlt
      have hgt := T.lt
      obtain ⟨f0, f1⟩ := hf k
      have ht13 : decide (13 < f k) = false := by simp; omega
      have hgl := h.arr.lt
      have hsl := slice_used w0.heap.size data h.inv.d8
      clear T h
      generalize hx : f k = x at *
      clear hx
      go_wp2_with fail
      refine (widthOf_any x f0 f1 _).mono ?_
      rintro e w' ⟨rfl, hw'⟩
      subst w'
      generalize hS : wd x = S
      have h5 : five S := by rw [← hS]; exact wd_five x
      clear hS
      clear f0 f1 ht13 c0 c1 c2 c3
      have h := H.out
      have b1 : k + 1 ≤ maxLen := by unfold maxLen; omega
      have b2 : (k + 1) * 6 ≤ 140737488355328 := by omega
      rcases h5 with rfl | rfl | rfl | rfl | rfl

      · -- 1
        have h5 : five 1 := by simp [five]
        go_wp2_with fail
        refine (fit_1 _ w0.heap.size data _ ((h.arr.keep (w' := _) (Below.heap_alloc _ _ _ h.arr.lt) (by simp)).row h.inv.len h.inv.bd data h.inv.d8) h.inv.d8).mono ?_
        rintro e w' ⟨hw', at_, fnd, rfl, hfit⟩
        subst w'
        have hd8 := h.inv.d8
        cases fnd with
        | false =>
          by_cases h8 : data = 8
          · subst h8
            have hbel : Hid (Below w.heap.size w wr) := h.below
            have hsl8 : ∀ w, (Instr.sliceAt 156 (.pointer (some ⟨w0.heap.size, 0, none⟩)) none (some (.int .u8 8)) (some (.int .u8 8))).run Faig.prog w = .ok (.slice (some ⟨w0.heap.size, 0, none⟩) 8 8) w := hsl
            clear hfit h H
            go_wp2_with fail
            refine bodyPost_ret (v := .tuple #[.slice none 0 0, .int .u8 0, .int .u8 0, .bool false]) (by simp [results, Faig.results28, go_sem]) rfl ?_
            exact ⟨hbel.out.alloc hbel.out.size _, Or.inl rfl⟩
          · have ht8 : decide ((data : Int) = 8) = false := by simp; omega
            rcases hfit with ⟨-, rfl⟩ | ⟨hh, -⟩
            rotate_left 1
            · cases hh
            have hc := h.arr.cell data (by omega)
            have hfz := h.arr.free data
            have hX0 := h.inv.zero data (Nat.le_refl _)
            have ho : bits .or .u64 0 1 = 1 := by decide
            rw [hX0] at hc
            have HI : Hid (LayInv (U.set data 1) (data + 1) (P ++ [(1, 64 * data / 1)])) := lay_new h.inv h5 (by omega) (by decide)
            have R3 : Hid (∀ o1 o3, (((wr.setCell ⟨w0.heap.size, data, none⟩ (.int .u64 1)).alloc o1).alloc o3).ownsRow 0 78 4 u2 k (flat P)) := fun o1 o3 => h.row3 o1 o3 data _
            have s3 : Hid (∀ u ∈ ([.int .u8 1, .int .u16 ((data : Int) * 64), .int .u8 0, .bool false] : List Value), u.oneCell' = true) := by
              intro u hu; simp at hu; rcases hu with rfl | rfl | rfl | rfl <;> rfl
            clear h hX0
            go_wp2_with (at_builtin; refine append_step _ rfl (.tmp 73) (.tmp 80) 68 rfl 78 i78 _ 4 6 Faig.underlying68 hi hz0 hz1 hz2 rfl (by decide) u2 k (flat P) (by simp [Act.eval]) (R3.out _ _) ⟨wr.heap.size + 1, 0, none⟩ 1 1 (by decide) [.int .u8 1, .int .u16 ((data : Int) * 64), .int .u8 0, .bool false] (by simp [Act.eval]) rfl (fun j u hu => lay_temp wr _ _ _ _ _ j u hu) s3.out b1 b2 ?_)
            intro g' cap' w' r1 r2 r3
            have HL : Hid (LW w w' w0.heap.size (.slice (some ⟨g', 0, none⟩) (k + 1) cap') (k + 1) (data + 1) (P ++ [(1, 64 * data / 1)]) (U.set data 1)) := H.out.step _ _ data 1 g' cap' (1, 64 * data / 1) (by omega) HI.out 1 ((data : Int) * 64) rfl (by simp only; omega) r1 r2 r3
            clear r1 r2 r3 R3 s3 H HI
            go_wp2_with fail
            go_roundw
            case rel => exact ⟨k + 1, data + 1, _, _, by go_num, by omega, by go_num, rfl, HL.out⟩
            case measure => simp [intOf]; omega
        | true =>
          obtain ⟨A, rfl, hA, hAd, hz⟩ := FitP.plain h.inv.len h.inv.d8 h5 hfit
          have hA8 : A / 64 < 8 := by omega
          have hc := h.arr.cell (A / 64) hA8
          have hfz := h.arr.free (A / 64)
          have hXb := h.inv.bd (A / 64)
          obtain ⟨e1, e2⟩ := at_place h5 hA
          have ho := lay_or (U.getD (A / 64) 0) (A % 64) 1 1 (by decide) hXb e2
          simp only [Int.one_mul] at ho
          have HI : Hid _ := lay_step (data' := data) h.inv h5 hA hAd (Nat.le_refl _) hd8 hz
          clear hfit hXb hz
          generalize hX' : (U.getD (A / 64) 0 ||| (2 ^ 1 - 1) * 2 ^ (A % 64)) = X' at *
          generalize hX : U.getD (A / 64) 0 = X at *
          have R3 : Hid (∀ o1 o3, (((wr.setCell ⟨w0.heap.size, A / 64, none⟩ (.int .u64 (X' : Int))).alloc o1).alloc o3).ownsRow 0 78 4 u2 k (flat P)) := fun o1 o3 => h.row3 o1 o3 (A / 64) _
          have s3 : Hid (∀ u ∈ ([.int .u8 1, .int .u16 (A : Int), .int .u8 0, .bool false] : List Value), u.oneCell' = true) := by
            intro u hu; simp at hu; rcases hu with rfl | rfl | rfl | rfl <;> rfl
          have hA0 : 0 ≤ (A : Int) := by omega
          have hA1 : (A : Int) < 512 := by omega
          clear h hX hX' hA e1 e2 hAd
          go_wp2_with (at_builtin; refine append_step _ rfl (.tmp 73) (.tmp 80) 68 rfl 78 i78 _ 4 6 Faig.underlying68 hi hz0 hz1 hz2 rfl (by decide) u2 k (flat P) (by simp [Act.eval]) (R3.out _ _) ⟨wr.heap.size + 1, 0, none⟩ 1 1 (by decide) [.int .u8 1, .int .u16 (A : Int), .int .u8 0, .bool false] (by simp [Act.eval]) rfl (fun j u hu => lay_temp wr _ _ _ _ _ j u hu) s3.out b1 b2 ?_)
          intro g' cap' w' r1 r2 r3
          have HL : Hid (LW w w' w0.heap.size (.slice (some ⟨g', 0, none⟩) (k + 1) cap') (k + 1) data (P ++ [(1, A / 1)]) (U.set (A / 64) X')) := H.out.step _ _ (A / 64) X' g' cap' (1, A / 1) hA8 HI.out 1 (A : Int) rfl (by simp only; omega) r1 r2 r3
          clear r1 r2 r3 R3 s3 H HI
          go_wp2_with fail
          go_roundw
          case rel => exact ⟨k + 1, data, _, _, by go_num, by omega, rfl, rfl, HL.out⟩
          case measure => simp [intOf]; omega

      · -- 8
        have h5 : five 8 := by simp [five]
        go_wp2_with fail
        refine (fit_8 _ w0.heap.size data _ ((h.arr.keep (w' := _) (Below.heap_alloc _ _ _ h.arr.lt) (by simp)).row h.inv.len h.inv.bd data h.inv.d8) h.inv.d8).mono ?_
        rintro e w' ⟨hw', at_, fnd, rfl, hfit⟩
        subst w'
        have hd8 := h.inv.d8
        cases fnd with
        | false =>
          by_cases h8 : data = 8
          · subst h8
            have hbel : Hid (Below w.heap.size w wr) := h.below
            have hsl8 : ∀ w, (Instr.sliceAt 156 (.pointer (some ⟨w0.heap.size, 0, none⟩)) none (some (.int .u8 8)) (some (.int .u8 8))).run Faig.prog w = .ok (.slice (some ⟨w0.heap.size, 0, none⟩) 8 8) w := hsl
            clear hfit h H
            go_wp2_with fail
            refine bodyPost_ret (v := .tuple #[.slice none 0 0, .int .u8 0, .int .u8 0, .bool false]) (by simp [results, Faig.results28, go_sem]) rfl ?_
            exact ⟨hbel.out.alloc hbel.out.size _, Or.inl rfl⟩
          · have ht8 : decide ((data : Int) = 8) = false := by simp; omega
            rcases hfit with ⟨-, rfl⟩ | ⟨hh, -⟩
            rotate_left 1
            · cases hh
            have hc := h.arr.cell data (by omega)
            have hfz := h.arr.free data
            have hX0 := h.inv.zero data (Nat.le_refl _)
            have ho : bits .or .u64 0 255 = 255 := by decide
            rw [hX0] at hc
            have HI : Hid (LayInv (U.set data 255) (data + 1) (P ++ [(8, 64 * data / 8)])) := lay_new h.inv h5 (by omega) (by decide)
            have R3 : Hid (∀ o1 o3, (((wr.setCell ⟨w0.heap.size, data, none⟩ (.int .u64 255)).alloc o1).alloc o3).ownsRow 0 78 4 u2 k (flat P)) := fun o1 o3 => h.row3 o1 o3 data _
            have hdv : ((data : Int) * 64).tdiv 8 = (data : Int) * 8 := by rw [Int.tdiv_eq_ediv_of_nonneg (by omega)]; omega
            have hdw : IntKind.u16.wrap ((data : Int) * 8) = (data : Int) * 8 := wrapU16_in _ (by omega) (by omega)
            have s3 : Hid (∀ u ∈ ([.int .u8 8, .int .u16 ((data : Int) * 8), .int .u8 0, .bool false] : List Value), u.oneCell' = true) := by
              intro u hu; simp at hu; rcases hu with rfl | rfl | rfl | rfl <;> rfl
            clear h hX0
            go_wp2_with (at_builtin; refine append_step _ rfl (.tmp 73) (.tmp 80) 68 rfl 78 i78 _ 4 6 Faig.underlying68 hi hz0 hz1 hz2 rfl (by decide) u2 k (flat P) (by simp [Act.eval]) (R3.out _ _) ⟨wr.heap.size + 1, 0, none⟩ 1 1 (by decide) [.int .u8 8, .int .u16 ((data : Int) * 8), .int .u8 0, .bool false] (by simp [Act.eval]) rfl (fun j u hu => lay_temp wr _ _ _ _ _ j u hu) s3.out b1 b2 ?_)
            intro g' cap' w' r1 r2 r3
            have HL : Hid (LW w w' w0.heap.size (.slice (some ⟨g', 0, none⟩) (k + 1) cap') (k + 1) (data + 1) (P ++ [(8, 64 * data / 8)]) (U.set data 255)) := H.out.step _ _ data 255 g' cap' (8, 64 * data / 8) (by omega) HI.out 8 ((data : Int) * 8) rfl (by simp only; omega) r1 r2 r3
            clear r1 r2 r3 R3 s3 H HI
            go_wp2_with fail
            go_roundw
            case rel => exact ⟨k + 1, data + 1, _, _, by go_num, by omega, by go_num, rfl, HL.out⟩
            case measure => simp [intOf]; omega
        | true =>
          obtain ⟨A, rfl, hA, hAd, hz⟩ := FitP.plain h.inv.len h.inv.d8 h5 hfit
          have hA8 : A / 64 < 8 := by omega
          have hc := h.arr.cell (A / 64) hA8
          have hfz := h.arr.free (A / 64)
          have hXb := h.inv.bd (A / 64)
          obtain ⟨e1, e2⟩ := at_place h5 hA
          have ho := lay_or (U.getD (A / 64) 0) (A % 64) 8 255 (by decide) hXb e2
          skip
          have HI : Hid _ := lay_step (data' := data) h.inv h5 hA hAd (Nat.le_refl _) hd8 hz
          clear hfit hXb hz
          generalize hX' : (U.getD (A / 64) 0 ||| (2 ^ 8 - 1) * 2 ^ (A % 64)) = X' at *
          generalize hX : U.getD (A / 64) 0 = X at *
          have R3 : Hid (∀ o1 o3, (((wr.setCell ⟨w0.heap.size, A / 64, none⟩ (.int .u64 (X' : Int))).alloc o1).alloc o3).ownsRow 0 78 4 u2 k (flat P)) := fun o1 o3 => h.row3 o1 o3 (A / 64) _
          have s3 : Hid (∀ u ∈ ([.int .u8 8, .int .u16 ((A : Int) / 8), .int .u8 0, .bool false] : List Value), u.oneCell' = true) := by
            intro u hu; simp at hu; rcases hu with rfl | rfl | rfl | rfl <;> rfl
          have hA0 : 0 ≤ (A : Int) := by omega
          have hA1 : (A : Int) < 512 := by omega
          clear h hX hX' hA e1 e2 hAd
          go_wp2_with (at_builtin; refine append_step _ rfl (.tmp 73) (.tmp 80) 68 rfl 78 i78 _ 4 6 Faig.underlying68 hi hz0 hz1 hz2 rfl (by decide) u2 k (flat P) (by simp [Act.eval]) (R3.out _ _) ⟨wr.heap.size + 1, 0, none⟩ 1 1 (by decide) [.int .u8 8, .int .u16 ((A : Int) / 8), .int .u8 0, .bool false] (by simp [Act.eval]) rfl (fun j u hu => lay_temp wr _ _ _ _ _ j u hu) s3.out b1 b2 ?_)
          intro g' cap' w' r1 r2 r3
          have HL : Hid (LW w w' w0.heap.size (.slice (some ⟨g', 0, none⟩) (k + 1) cap') (k + 1) data (P ++ [(8, A / 8)]) (U.set (A / 64) X')) := H.out.step _ _ (A / 64) X' g' cap' (8, A / 8) hA8 HI.out 8 ((A : Int) / 8) rfl (by simp only; omega) r1 r2 r3
          clear r1 r2 r3 R3 s3 H HI
          go_wp2_with fail
          go_roundw
          case rel => exact ⟨k + 1, data, _, _, by go_num, by omega, rfl, rfl, HL.out⟩
          case measure => simp [intOf]; omega

      · -- 16
        have h5 : five 16 := by simp [five]
        go_wp2_with fail
        refine (fit_16 _ w0.heap.size data _ ((h.arr.keep (w' := _) (Below.heap_alloc _ _ _ h.arr.lt) (by simp)).row h.inv.len h.inv.bd data h.inv.d8) h.inv.d8).mono ?_
        rintro e w' ⟨hw', at_, fnd, rfl, hfit⟩
        subst w'
        have hd8 := h.inv.d8
        cases fnd with
        | false =>
          by_cases h8 : data = 8
          · subst h8
            have hbel : Hid (Below w.heap.size w wr) := h.below
            have hsl8 : ∀ w, (Instr.sliceAt 156 (.pointer (some ⟨w0.heap.size, 0, none⟩)) none (some (.int .u8 8)) (some (.int .u8 8))).run Faig.prog w = .ok (.slice (some ⟨w0.heap.size, 0, none⟩) 8 8) w := hsl
            clear hfit h H
            go_wp2_with fail
            refine bodyPost_ret (v := .tuple #[.slice none 0 0, .int .u8 0, .int .u8 0, .bool false]) (by simp [results, Faig.results28, go_sem]) rfl ?_
            exact ⟨hbel.out.alloc hbel.out.size _, Or.inl rfl⟩
          · have ht8 : decide ((data : Int) = 8) = false := by simp; omega
            rcases hfit with ⟨-, rfl⟩ | ⟨hh, -⟩
            rotate_left 1
            · cases hh
            have hc := h.arr.cell data (by omega)
            have hfz := h.arr.free data
            have hX0 := h.inv.zero data (Nat.le_refl _)
            have ho : bits .or .u64 0 65535 = 65535 := by decide
            rw [hX0] at hc
            have HI : Hid (LayInv (U.set data 65535) (data + 1) (P ++ [(16, 64 * data / 16)])) := lay_new h.inv h5 (by omega) (by decide)
            have R3 : Hid (∀ o1 o3, (((wr.setCell ⟨w0.heap.size, data, none⟩ (.int .u64 65535)).alloc o1).alloc o3).ownsRow 0 78 4 u2 k (flat P)) := fun o1 o3 => h.row3 o1 o3 data _
            have hdv : ((data : Int) * 64).tdiv 16 = (data : Int) * 4 := by rw [Int.tdiv_eq_ediv_of_nonneg (by omega)]; omega
            have hdw : IntKind.u16.wrap ((data : Int) * 4) = (data : Int) * 4 := wrapU16_in _ (by omega) (by omega)
            have s3 : Hid (∀ u ∈ ([.int .u8 16, .int .u16 ((data : Int) * 4), .int .u8 0, .bool false] : List Value), u.oneCell' = true) := by
              intro u hu; simp at hu; rcases hu with rfl | rfl | rfl | rfl <;> rfl
            clear h hX0
            go_wp2_with (at_builtin; refine append_step _ rfl (.tmp 73) (.tmp 80) 68 rfl 78 i78 _ 4 6 Faig.underlying68 hi hz0 hz1 hz2 rfl (by decide) u2 k (flat P) (by simp [Act.eval]) (R3.out _ _) ⟨wr.heap.size + 1, 0, none⟩ 1 1 (by decide) [.int .u8 16, .int .u16 ((data : Int) * 4), .int .u8 0, .bool false] (by simp [Act.eval]) rfl (fun j u hu => lay_temp wr _ _ _ _ _ j u hu) s3.out b1 b2 ?_)
            intro g' cap' w' r1 r2 r3
            have HL : Hid (LW w w' w0.heap.size (.slice (some ⟨g', 0, none⟩) (k + 1) cap') (k + 1) (data + 1) (P ++ [(16, 64 * data / 16)]) (U.set data 65535)) := H.out.step _ _ data 65535 g' cap' (16, 64 * data / 16) (by omega) HI.out 16 ((data : Int) * 4) rfl (by simp only; omega) r1 r2 r3
            clear r1 r2 r3 R3 s3 H HI
            go_wp2_with fail
            go_roundw
            case rel => exact ⟨k + 1, data + 1, _, _, by go_num, by omega, by go_num, rfl, HL.out⟩
            case measure => simp [intOf]; omega
        | true =>
          obtain ⟨A, rfl, hA, hAd, hz⟩ := FitP.plain h.inv.len h.inv.d8 h5 hfit
          have hA8 : A / 64 < 8 := by omega
          have hc := h.arr.cell (A / 64) hA8
          have hfz := h.arr.free (A / 64)
          have hXb := h.inv.bd (A / 64)
          obtain ⟨e1, e2⟩ := at_place h5 hA
          have ho := lay_or (U.getD (A / 64) 0) (A % 64) 16 65535 (by decide) hXb e2
          skip
          have HI : Hid _ := lay_step (data' := data) h.inv h5 hA hAd (Nat.le_refl _) hd8 hz
          clear hfit hXb hz
          generalize hX' : (U.getD (A / 64) 0 ||| (2 ^ 16 - 1) * 2 ^ (A % 64)) = X' at *
          generalize hX : U.getD (A / 64) 0 = X at *
          have R3 : Hid (∀ o1 o3, (((wr.setCell ⟨w0.heap.size, A / 64, none⟩ (.int .u64 (X' : Int))).alloc o1).alloc o3).ownsRow 0 78 4 u2 k (flat P)) := fun o1 o3 => h.row3 o1 o3 (A / 64) _
          have s3 : Hid (∀ u ∈ ([.int .u8 16, .int .u16 ((A : Int) / 16), .int .u8 0, .bool false] : List Value), u.oneCell' = true) := by
            intro u hu; simp at hu; rcases hu with rfl | rfl | rfl | rfl <;> rfl
          have hA0 : 0 ≤ (A : Int) := by omega
          have hA1 : (A : Int) < 512 := by omega
          clear h hX hX' hA e1 e2 hAd
          go_wp2_with (at_builtin; refine append_step _ rfl (.tmp 73) (.tmp 80) 68 rfl 78 i78 _ 4 6 Faig.underlying68 hi hz0 hz1 hz2 rfl (by decide) u2 k (flat P) (by simp [Act.eval]) (R3.out _ _) ⟨wr.heap.size + 1, 0, none⟩ 1 1 (by decide) [.int .u8 16, .int .u16 ((A : Int) / 16), .int .u8 0, .bool false] (by simp [Act.eval]) rfl (fun j u hu => lay_temp wr _ _ _ _ _ j u hu) s3.out b1 b2 ?_)
          intro g' cap' w' r1 r2 r3
          have HL : Hid (LW w w' w0.heap.size (.slice (some ⟨g', 0, none⟩) (k + 1) cap') (k + 1) data (P ++ [(16, A / 16)]) (U.set (A / 64) X')) := H.out.step _ _ (A / 64) X' g' cap' (16, A / 16) hA8 HI.out 16 ((A : Int) / 16) rfl (by simp only; omega) r1 r2 r3
          clear r1 r2 r3 R3 s3 H HI
          go_wp2_with fail
          go_roundw
          case rel => exact ⟨k + 1, data, _, _, by go_num, by omega, rfl, rfl, HL.out⟩
          case measure => simp [intOf]; omega

      · -- 32
        have h5 : five 32 := by simp [five]
        go_wp2_with fail
        refine (fit_32 _ w0.heap.size data _ ((h.arr.keep (w' := _) (Below.heap_alloc _ _ _ h.arr.lt) (by simp)).row h.inv.len h.inv.bd data h.inv.d8) h.inv.d8).mono ?_
        rintro e w' ⟨hw', at_, fnd, rfl, hfit⟩
        subst w'
        have hd8 := h.inv.d8
        cases fnd with
        | false =>
          by_cases h8 : data = 8
          · subst h8
            have hbel : Hid (Below w.heap.size w wr) := h.below
            have hsl8 : ∀ w, (Instr.sliceAt 156 (.pointer (some ⟨w0.heap.size, 0, none⟩)) none (some (.int .u8 8)) (some (.int .u8 8))).run Faig.prog w = .ok (.slice (some ⟨w0.heap.size, 0, none⟩) 8 8) w := hsl
            clear hfit h H
            go_wp2_with fail
            refine bodyPost_ret (v := .tuple #[.slice none 0 0, .int .u8 0, .int .u8 0, .bool false]) (by simp [results, Faig.results28, go_sem]) rfl ?_
            exact ⟨hbel.out.alloc hbel.out.size _, Or.inl rfl⟩
          · have ht8 : decide ((data : Int) = 8) = false := by simp; omega
            rcases hfit with ⟨-, rfl⟩ | ⟨hh, -⟩
            rotate_left 1
            · cases hh
            have hc := h.arr.cell data (by omega)
            have hfz := h.arr.free data
            have hX0 := h.inv.zero data (Nat.le_refl _)
            have ho : bits .or .u64 0 4294967295 = 4294967295 := by decide
            rw [hX0] at hc
            have HI : Hid (LayInv (U.set data 4294967295) (data + 1) (P ++ [(32, 64 * data / 32)])) := lay_new h.inv h5 (by omega) (by decide)
            have R3 : Hid (∀ o1 o3, (((wr.setCell ⟨w0.heap.size, data, none⟩ (.int .u64 4294967295)).alloc o1).alloc o3).ownsRow 0 78 4 u2 k (flat P)) := fun o1 o3 => h.row3 o1 o3 data _
            have hdv : ((data : Int) * 64).tdiv 32 = (data : Int) * 2 := by rw [Int.tdiv_eq_ediv_of_nonneg (by omega)]; omega
            have hdw : IntKind.u16.wrap ((data : Int) * 2) = (data : Int) * 2 := wrapU16_in _ (by omega) (by omega)
            have s3 : Hid (∀ u ∈ ([.int .u8 32, .int .u16 ((data : Int) * 2), .int .u8 0, .bool false] : List Value), u.oneCell' = true) := by
              intro u hu; simp at hu; rcases hu with rfl | rfl | rfl | rfl <;> rfl
            clear h hX0
            go_wp2_with (at_builtin; refine append_step _ rfl (.tmp 73) (.tmp 80) 68 rfl 78 i78 _ 4 6 Faig.underlying68 hi hz0 hz1 hz2 rfl (by decide) u2 k (flat P) (by simp [Act.eval]) (R3.out _ _) ⟨wr.heap.size + 1, 0, none⟩ 1 1 (by decide) [.int .u8 32, .int .u16 ((data : Int) * 2), .int .u8 0, .bool false] (by simp [Act.eval]) rfl (fun j u hu => lay_temp wr _ _ _ _ _ j u hu) s3.out b1 b2 ?_)
            intro g' cap' w' r1 r2 r3
            have HL : Hid (LW w w' w0.heap.size (.slice (some ⟨g', 0, none⟩) (k + 1) cap') (k + 1) (data + 1) (P ++ [(32, 64 * data / 32)]) (U.set data 4294967295)) := H.out.step _ _ data 4294967295 g' cap' (32, 64 * data / 32) (by omega) HI.out 32 ((data : Int) * 2) rfl (by simp only; omega) r1 r2 r3
            clear r1 r2 r3 R3 s3 H HI
            go_wp2_with fail
            go_roundw
            case rel => exact ⟨k + 1, data + 1, _, _, by go_num, by omega, by go_num, rfl, HL.out⟩
            case measure => simp [intOf]; omega
        | true =>
          obtain ⟨A, rfl, hA, hAd, hz⟩ := FitP.plain h.inv.len h.inv.d8 h5 hfit
          have hA8 : A / 64 < 8 := by omega
          have hc := h.arr.cell (A / 64) hA8
          have hfz := h.arr.free (A / 64)
          have hXb := h.inv.bd (A / 64)
          obtain ⟨e1, e2⟩ := at_place h5 hA
          have ho := lay_or (U.getD (A / 64) 0) (A % 64) 32 4294967295 (by decide) hXb e2
          skip
          have HI : Hid _ := lay_step (data' := data) h.inv h5 hA hAd (Nat.le_refl _) hd8 hz
          clear hfit hXb hz
          generalize hX' : (U.getD (A / 64) 0 ||| (2 ^ 32 - 1) * 2 ^ (A % 64)) = X' at *
          generalize hX : U.getD (A / 64) 0 = X at *
          have R3 : Hid (∀ o1 o3, (((wr.setCell ⟨w0.heap.size, A / 64, none⟩ (.int .u64 (X' : Int))).alloc o1).alloc o3).ownsRow 0 78 4 u2 k (flat P)) := fun o1 o3 => h.row3 o1 o3 (A / 64) _
          have s3 : Hid (∀ u ∈ ([.int .u8 32, .int .u16 ((A : Int) / 32), .int .u8 0, .bool false] : List Value), u.oneCell' = true) := by
            intro u hu; simp at hu; rcases hu with rfl | rfl | rfl | rfl <;> rfl
          have hA0 : 0 ≤ (A : Int) := by omega
          have hA1 : (A : Int) < 512 := by omega
          clear h hX hX' hA e1 e2 hAd
          go_wp2_with (at_builtin; refine append_step _ rfl (.tmp 73) (.tmp 80) 68 rfl 78 i78 _ 4 6 Faig.underlying68 hi hz0 hz1 hz2 rfl (by decide) u2 k (flat P) (by simp [Act.eval]) (R3.out _ _) ⟨wr.heap.size + 1, 0, none⟩ 1 1 (by decide) [.int .u8 32, .int .u16 ((A : Int) / 32), .int .u8 0, .bool false] (by simp [Act.eval]) rfl (fun j u hu => lay_temp wr _ _ _ _ _ j u hu) s3.out b1 b2 ?_)
          intro g' cap' w' r1 r2 r3
          have HL : Hid (LW w w' w0.heap.size (.slice (some ⟨g', 0, none⟩) (k + 1) cap') (k + 1) data (P ++ [(32, A / 32)]) (U.set (A / 64) X')) := H.out.step _ _ (A / 64) X' g' cap' (32, A / 32) hA8 HI.out 32 ((A : Int) / 32) rfl (by simp only; omega) r1 r2 r3
          clear r1 r2 r3 R3 s3 H HI
          go_wp2_with fail
          go_roundw
          case rel => exact ⟨k + 1, data, _, _, by go_num, by omega, rfl, rfl, HL.out⟩
          case measure => simp [intOf]; omega

      · -- 64
        have h5 : five 64 := by simp [five]
        go_wp2_with fail
        refine (fit_64 _ w0.heap.size data _ ((h.arr.keep (w' := _) (Below.heap_alloc _ _ _ h.arr.lt) (by simp)).row h.inv.len h.inv.bd data h.inv.d8) h.inv.d8).mono ?_
        rintro e w' ⟨hw', at_, fnd, rfl, hfit⟩
        subst w'
        have hd8 := h.inv.d8
        cases fnd with
        | false =>
          by_cases h8 : data = 8
          · subst h8
            have hbel : Hid (Below w.heap.size w wr) := h.below
            have hsl8 : ∀ w, (Instr.sliceAt 156 (.pointer (some ⟨w0.heap.size, 0, none⟩)) none (some (.int .u8 8)) (some (.int .u8 8))).run Faig.prog w = .ok (.slice (some ⟨w0.heap.size, 0, none⟩) 8 8) w := hsl
            clear hfit h H
            go_wp2_with fail
            refine bodyPost_ret (v := .tuple #[.slice none 0 0, .int .u8 0, .int .u8 0, .bool false]) (by simp [results, Faig.results28, go_sem]) rfl ?_
            exact ⟨hbel.out.alloc hbel.out.size _, Or.inl rfl⟩
          · have ht8 : decide ((data : Int) = 8) = false := by simp; omega
            rcases hfit with ⟨-, rfl⟩ | ⟨hh, -⟩
            rotate_left 1
            · cases hh
            have hc := h.arr.cell data (by omega)
            have hfz := h.arr.free data
            have hX0 := h.inv.zero data (Nat.le_refl _)
            have ho : bits .or .u64 0 18446744073709551615 = 18446744073709551615 := by decide
            rw [hX0] at hc
            have HI : Hid (LayInv (U.set data 18446744073709551615) (data + 1) (P ++ [(64, 64 * data / 64)])) := lay_new h.inv h5 (by omega) (by decide)
            have R3 : Hid (∀ o1 o3, (((wr.setCell ⟨w0.heap.size, data, none⟩ (.int .u64 18446744073709551615)).alloc o1).alloc o3).ownsRow 0 78 4 u2 k (flat P)) := fun o1 o3 => h.row3 o1 o3 data _
            have s3 : Hid (∀ u ∈ ([.int .u8 64, .int .u16 (data : Int), .int .u8 0, .bool false] : List Value), u.oneCell' = true) := by
              intro u hu; simp at hu; rcases hu with rfl | rfl | rfl | rfl <;> rfl
            clear h hX0
            go_wp2_with (at_builtin; refine append_step _ rfl (.tmp 73) (.tmp 80) 68 rfl 78 i78 _ 4 6 Faig.underlying68 hi hz0 hz1 hz2 rfl (by decide) u2 k (flat P) (by simp [Act.eval]) (R3.out _ _) ⟨wr.heap.size + 1, 0, none⟩ 1 1 (by decide) [.int .u8 64, .int .u16 (data : Int), .int .u8 0, .bool false] (by simp [Act.eval]) rfl (fun j u hu => lay_temp wr _ _ _ _ _ j u hu) s3.out b1 b2 ?_)
            intro g' cap' w' r1 r2 r3
            have HL : Hid (LW w w' w0.heap.size (.slice (some ⟨g', 0, none⟩) (k + 1) cap') (k + 1) (data + 1) (P ++ [(64, 64 * data / 64)]) (U.set data 18446744073709551615)) := H.out.step _ _ data 18446744073709551615 g' cap' (64, 64 * data / 64) (by omega) HI.out 64 (data : Int) rfl (by simp only; omega) r1 r2 r3
            clear r1 r2 r3 R3 s3 H HI
            go_wp2_with fail
            go_roundw
            case rel => exact ⟨k + 1, data + 1, _, _, by go_num, by omega, by go_num, rfl, HL.out⟩
            case measure => simp [intOf]; omega
        | true =>
          obtain ⟨A, rfl, hA, hAd, hz⟩ := FitP.plain h.inv.len h.inv.d8 h5 hfit
          have hA8 : A / 64 < 8 := by omega
          have hc := h.arr.cell (A / 64) hA8
          have hfz := h.arr.free (A / 64)
          have hXb := h.inv.bd (A / 64)
          obtain ⟨e1, e2⟩ := at_place h5 hA
          have ho := lay_or (U.getD (A / 64) 0) (A % 64) 64 18446744073709551615 (by decide) hXb e2
          skip
          have HI : Hid _ := lay_step (data' := data) h.inv h5 hA hAd (Nat.le_refl _) hd8 hz
          clear hfit hXb hz
          generalize hX' : (U.getD (A / 64) 0 ||| (2 ^ 64 - 1) * 2 ^ (A % 64)) = X' at *
          generalize hX : U.getD (A / 64) 0 = X at *
          have R3 : Hid (∀ o1 o3, (((wr.setCell ⟨w0.heap.size, A / 64, none⟩ (.int .u64 (X' : Int))).alloc o1).alloc o3).ownsRow 0 78 4 u2 k (flat P)) := fun o1 o3 => h.row3 o1 o3 (A / 64) _
          have s3 : Hid (∀ u ∈ ([.int .u8 64, .int .u16 ((A : Int) / 64), .int .u8 0, .bool false] : List Value), u.oneCell' = true) := by
            intro u hu; simp at hu; rcases hu with rfl | rfl | rfl | rfl <;> rfl
          have hA0 : 0 ≤ (A : Int) := by omega
          have hA1 : (A : Int) < 512 := by omega
          clear h hX hX' hA e1 e2 hAd
          go_wp2_with (at_builtin; refine append_step _ rfl (.tmp 73) (.tmp 80) 68 rfl 78 i78 _ 4 6 Faig.underlying68 hi hz0 hz1 hz2 rfl (by decide) u2 k (flat P) (by simp [Act.eval]) (R3.out _ _) ⟨wr.heap.size + 1, 0, none⟩ 1 1 (by decide) [.int .u8 64, .int .u16 ((A : Int) / 64), .int .u8 0, .bool false] (by simp [Act.eval]) rfl (fun j u hu => lay_temp wr _ _ _ _ _ j u hu) s3.out b1 b2 ?_)
          intro g' cap' w' r1 r2 r3
          have HL : Hid (LW w w' w0.heap.size (.slice (some ⟨g', 0, none⟩) (k + 1) cap') (k + 1) data (P ++ [(64, A / 64)]) (U.set (A / 64) X')) := H.out.step _ _ (A / 64) X' g' cap' (64, A / 64) hA8 HI.out 64 ((A : Int) / 64) rfl (by simp only; omega) r1 r2 r3
          clear r1 r2 r3 R3 s3 H HI
          go_wp2_with fail
          go_roundw
          case rel => exact ⟨k + 1, data, _, _, by go_num, by omega, rfl, rfl, HL.out⟩
          case measure => simp [intOf]; omega
    · have ht : decide ((k : Int) < (n : Int)) = false := by simp; omega
      have ek : k = n := by omega
      subst ek
      have HP : Hid (Below w.heap.size w wr ∧ wr.ownsRow 0 78 4 u2 k (flat P) ∧ (∀ b, u2.ownBlock = some b → w.heap.size ≤ b) ∧ LayInv U data P ∧ P.length = k) := ⟨h.below, h.own, fun b hb => (h.vN b hb).1, h.inv, h.len⟩
      clear h H
      go_wp2_with fail
      refine bodyPost_ret (v := .tuple #[u2, .int .u8 (data : Int), .int .u8 0, .bool true]) (by simp [results, Faig.results28, go_sem]) rfl ?_
      exact ⟨HP.out.1, Or.inr ⟨u2, data, P, U, rfl, HP.out.2⟩⟩
end Go.Proofs.Ygcfai

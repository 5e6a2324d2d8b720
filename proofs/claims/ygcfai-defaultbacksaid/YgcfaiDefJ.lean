/-
  DefaultBack: grow; a word of the arena stored.
-/
import Derived.Test.YgcfaiDefI
import Derived.LoopTactic
namespace Go.Proofs.Ygcfai
open Go.RowKit Go.Joins Plain
set_option linter.unusedVariables false
set_option linter.unusedSimpArgs false

theorem ownsRow_set {w : World} {e : TypeId} {z n cap ga : Nat} {xs : List Value} (h : w.ownsRow 0 e z (.slice (some ⟨ga, 0, none⟩) n cap) n xs) (j : Nat) (y : Value) : (w.setCell ⟨ga, j, none⟩ y).ownsRow 0 e z (.slice (some ⟨ga, 0, none⟩) n cap) n (xs.set j y) := by
  refine ⟨by rw [List.length_set]; exact h.1, ?_⟩
  rcases h.2 with ⟨h0, -⟩ | ⟨g', cap', cur, e1, hb, hh, q1, q2, q3, q4⟩
  · cases h0
  have eg : ga = g' := by injection e1 with h1; injection h1 with h1; injection h1 with h1
  subst eg
  refine Or.inr ⟨ga, cap', cur.setIfInBounds j y, e1, hb, block_setCell hh y, q1, q2, by simpa using q3, ?_⟩
  rw [Array.toList_setIfInBounds, List.take_set, q4]
theorem BW.put {w : World} {g i : Nat} {L : List BR} {r : BR} {ga cap : Nat} (h : BW w g L) (hi : L[i]? = some r) (hv : r.v = .slice (some ⟨ga, 0, none⟩) r.n cap) (j : Nat) (y : Value) :
    BW (w.setCell ⟨ga, j, none⟩ y) g (L.set i ⟨r.v, r.e, r.z, r.n, r.xs.set j y⟩) ∧ Fr w (w.setCell ⟨ga, j, none⟩ y) (Bl g L) ∧ ∀ k, Bl g (L.set i ⟨r.v, r.e, r.z, r.n, r.xs.set j y⟩) k → Bl g L k := by
  have hl : i < L.length := (List.getElem?_eq_some_iff.1 hi).1
  have hown : r.v.ownBlock = some ga := by rw [hv]; rfl
  have hne : ga ≠ g := fun e => h.apart.1 i r hi (by rw [hown, e])
  have back : ∀ (k : Nat) (t : BR), (L.set i ⟨r.v, r.e, r.z, r.n, r.xs.set j y⟩)[k]? = some t → ∃ t', L[k]? = some t' ∧ t'.v = t.v := by
    intro k t hk
    by_cases e : i = k
    · subst e; rw [List.getElem?_set_self hl] at hk; cases hk; exact ⟨r, hi, rfl⟩
    · rw [List.getElem?_set_ne e] at hk; exact ⟨t, hk, rfl⟩
  obtain ⟨cur, hb, hc⟩ := h.blk
  refine ⟨⟨⟨cur, by rw [Below.heap_setCell _ _ _ _ (fun e => hne e.symm)]; exact hb, fun k t hk => ?_⟩, fun k t hk => ?_, ⟨fun k t hk => ?_, fun a b t u hab ht hu c hc1 => ?_⟩⟩, ⟨rfl, rfl, rfl, by rw [size_setCell]; exact Nat.le_refl _, fun k hk hB => Below.heap_setCell _ _ _ _ (fun e => hB (Or.inr ⟨i, r, hi, by rw [hown, e]⟩))⟩, fun k hk => ?_⟩
  · obtain ⟨t', h1, h2⟩ := back k t hk
    rw [← h2]; exact hc k t' h1
  · by_cases e : i = k
    · subst e; rw [List.getElem?_set_self hl] at hk; cases hk
      have := h.own i r hi
      rw [hv] at this
      have h2 := ownsRow_set this j y
      show World.ownsRow _ 0 r.e r.z r.v r.n _
      rw [hv]; exact h2
    · rw [List.getElem?_set_ne e] at hk
      exact ownsRow_same (h.own k t hk) (fun b hb' => Below.heap_setCell _ _ _ _ (fun e' => by subst e'; exact h.apart.2 i k r t e hi hk b hown hb'))
  · obtain ⟨t', h1, h2⟩ := back k t hk
    rw [← h2]; exact h.apart.1 k t' h1
  · obtain ⟨t', h1, h2⟩ := back a t ht
    obtain ⟨u', h3, h4⟩ := back b u hu
    rw [← h4]; exact h.apart.2 a b t' u' hab h1 h3 c (by rw [h2]; exact hc1)
  · rcases hk with hk | ⟨a, t, ht, hk⟩
    · exact Or.inl hk
    · obtain ⟨t', h1, h2⟩ := back a t ht
      exact Or.inr ⟨a, t', h1, by rw [h2]; exact hk⟩

/-- i zero words appended to row 0. -/
def Grown (w W : World) (g m : Nat) (xs : List Value) (L : List BR) (i : Nat) (v : Value) : Prop :=
  BW W g (L.set 0 ⟨v, 49, 1, m + i, xs ++ List.replicate i (.int .u64 0)⟩) ∧ Fr w W (Bl g L) ∧ ∀ k, Bl g (L.set 0 ⟨v, 49, 1, m + i, xs ++ List.replicate i (.int .u64 0)⟩) k → Bl g L k ∨ w.heap.size ≤ k
set_option maxRecDepth 100000 in
set_option maxHeartbeats 1000000 in
theorem grow_any (w : World) (g m d : Nat) (v : Value) (xs : List Value) (L : List BR) (h : BW w g L) (h0 : L[0]? = some ⟨v, 49, 1, m, xs⟩) (hm : m + d ≤ 1000) :
    Calls Faig.prog 112 #[.pointer (some ⟨g, 0, none⟩), .int .u16 (d : Int)] w fun e w' => e = .returned (.tuple #[]) ∧ ∃ v', Grown w w' g m xs L d v' := by
  obtain ⟨i49, li, lz0, lz1, lz2⟩ := info_parts info49
  have hl : 0 < L.length := (List.getElem?_eq_some_iff.1 h0).1
  have e0 : L.set 0 ⟨v, 49, 1, m, xs⟩ = L := by
    apply List.ext_getElem?
    intro k
    by_cases e : 0 = k
    · subst e; rw [List.getElem?_set_self hl, h0]
    · rw [List.getElem?_set_ne e]
  have G0 : Grown w w g m xs L 0 v := by
    unfold Grown
    simp only [Nat.add_zero, List.replicate_zero, List.append_nil, e0]
    exact ⟨h, Fr.refl _ _, fun k hk => Or.inl hk⟩
  go_enter Faig.func112, Faig.ntmps112
  go_wp2_with fail
  go_loopw [1] (fun s W => ∃ (i : Nat) (v' : Value), i ≤ d ∧ s = .int .u16 ((d : Int) - i) ∧ Grown w W g m xs L i v') (fun s _ => (intOf s).toNat)
  case atStart => exact ⟨0, v, Nat.zero_le _, by go_num, G0⟩
  case round =>
    obtain ⟨i, v', hi, rfl, G⟩ := hrel
    have HG : Hid (Grown w wr g m xs L i v') := G
    clear G0
    by_cases hlt : i < d
    · have ht : decide (0 < (d : Int) - i) = true := by simp; omega
      have B := G.1
      have c0 : (L.set 0 ⟨v', 49, 1, m + i, xs ++ List.replicate i (.int .u64 0)⟩)[0]? = some ⟨v', 49, 1, m + i, xs ++ List.replicate i (.int .u64 0)⟩ := List.getElem?_set_self hl
      have C0 : Hid _ := c0
      have y0 : wr.cell? ⟨g, 0, none⟩ = some v' := B.cell c0
      have hg2 := B.lt
      have V : Hid (Below wr.heap.size wr (wr.alloc (.cells #[.int .u64 0] 49 (0, 0)))) := Below.alloc (Below.refl _ _) (Nat.le_refl _) _
      have u1 : Hid ((wr.alloc (.cells #[.int .u64 0] 49 (0, 0))).ownsRow 0 49 1 v' (m + i) (xs ++ List.replicate i (.int .u64 0))) := B.row c0 V.out
      have u2 : Hid (∀ j u, ([.int .u64 0] : List Value)[j]? = some u → (wr.alloc (.cells #[.int .u64 0] 49 (0, 0))).cell? ((⟨wr.heap.size, 0, none⟩ : Addr).add j) = some u) := fun j u hu => temp_cells wr #[.int .u64 0] 49 j u hu
      have u3 : Hid (∀ u ∈ ([.int .u64 0] : List Value), u.oneCell' = true) := by
        intro u hu; simp at hu; subst hu; rfl
      have b1 : m + i + 1 ≤ maxLen := by unfold maxLen; omega
      have b2 : (m + i + 1) * 8 ≤ 140737488355328 := by omega
      clear B G c0
      go_wp2_with (at_builtin; refine append_step _ rfl (.tmp 12) (.tmp 13) 22 rfl 49 i49 _ 1 8 Faig.underlying22 li lz0 lz1 lz2 rfl (by decide) v' (m + i) (xs ++ List.replicate i (.int .u64 0)) (by simp [Act.eval]) u1.out ⟨wr.heap.size, 0, none⟩ 1 1 (by decide) [.int .u64 0] (by simp [Act.eval]) rfl u2.out u3.out b1 b2 ?_)
      intro g2 cap2 w2 r1 r2 r3
      have q1 : w2.cell? ⟨g, 0, none⟩ = some v' := (HG.out.1.after C0.out V.out r2).1
      have q2 : w2.frozen? ⟨g, 0, none⟩ = false := (HG.out.1.after C0.out V.out r2).2
      obtain ⟨B2, F2, N2⟩ := HG.out.1.step (i := 0) (s := ⟨.slice (some ⟨g2, 0, none⟩) (m + i + 1) cap2, 49, 1, m + i + 1, (xs ++ List.replicate i (.int .u64 0)) ++ [.int .u64 0]⟩) C0.out V.out (by simpa [List.append_assoc] using r1) r2 (fun k hk => back_or (by simpa using r3) hk)
      have GN : Hid (Grown w (w2.setCell ⟨g, 0, none⟩ (.slice (some ⟨g2, 0, none⟩) (m + i + 1) cap2)) g m xs L (i + 1) (.slice (some ⟨g2, 0, none⟩) (m + i + 1) cap2)) := by
        rw [List.set_set] at B2 N2
        have ex : (xs ++ List.replicate i (Value.int .u64 0)) ++ [.int .u64 0] = xs ++ List.replicate (i + 1) (.int .u64 0) := by
          rw [List.append_assoc, ← List.replicate_succ']
        rw [ex] at B2 N2
        exact ⟨B2, HG.out.2.1.trans F2 HG.out.2.2, fun k hk => (N2 k hk).elim (HG.out.2.2 k) (fun h => Or.inr (Nat.le_trans HG.out.2.1.size h))⟩
      clear B2 F2 N2 r1 r2 r3 u1 u2 u3 V C0 HG
      go_wp2_with fail
      go_roundw
      case rel => exact ⟨i + 1, _, by omega, by go_num, GN.out⟩
      case measure => simp [intOf]; omega
    · have ht : decide (0 < (d : Int) - i) = false := by simp; omega
      have ei : i = d := by omega
      subst ei
      clear G
      go_wp2_with fail
      refine bodyPost_end (v := .tuple #[]) (by simp [results, Faig.f112]) rfl ?_
      exact ⟨rfl, v', HG.out⟩
end Go.Proofs.Ygcfai

/-
  DefaultBack: hang.
-/
import Derived.Test.YgcfaiDefF
namespace Go.Proofs.Ygcfai
open Go.RowKit Go.Joins Plain
set_option linter.unusedVariables false
set_option linter.unusedSimpArgs false
theorem info88 : (Faig.prog.info? 88).map (fun i => (i.zero, i.size, i.bytes)) = some (some (.agg #[.int .u8 0, .int .u16 0, .int .u8 0, .int .u8 0, .int .u8 0, .int .u16 0]), 6, 10) := by kernel_rfl
theorem info5 : (Faig.prog.info? 5).map (fun i => (i.zero, i.size, i.bytes)) = some (some (.int .u8 0), 1, 1) := by kernel_rfl
theorem info4 : (Faig.prog.info? 4).map (fun i => (i.zero, i.size, i.bytes)) = some (some (.bool false), 1, 1) := by kernel_rfl
theorem info49 : (Faig.prog.info? 49).map (fun i => (i.zero, i.size, i.bytes)) = some (some (.int .u64 0), 1, 8) := by kernel_rfl

/-- A builder's rows: the arena's, then Obj, Up, Via, Depth, Dead. -/
def BL (A : BR) (vO vU vV vD vE : Value) (n1 n2 n3 n4 n5 : Nat) (xO xU xV xD xE : List Value) : List BR := [A, ⟨vO, 88, 6, n1, xO⟩, ⟨vU, 5, 1, n2, xU⟩, ⟨vV, 5, 1, n3, xV⟩, ⟨vD, 5, 1, n4, xD⟩, ⟨vE, 4, 1, n5, xE⟩]

theorem temp_cells2 (w : World) (c c2 : Array Value) (e e2 : TypeId) (j : Nat) (u : Value) (h : c2.toList[j]? = some u) : ((w.alloc (.cells c e (0, 0))).alloc (.cells c2 e2 (0, 0))).drew.cell? ((⟨w.heap.size + 1, 0, none⟩ : Addr).add j) = some u := by
  rw [Go.WideShapes.add_plain]
  have hb : ((w.alloc (.cells c e (0, 0))).alloc (.cells c2 e2 (0, 0))).drew.heap[w.heap.size + 1]? = some (.cells c2 e2 (0, 0)) := by
    show ((w.heap.push _).push _)[w.heap.size + 1]? = _
    rw [Array.getElem?_push, if_pos (by simp)]
  rw [cell_of_block hb, Nat.zero_add, ← Array.getElem?_toList]; exact h
theorem temp_cells (w : World) (c : Array Value) (e : TypeId) (j : Nat) (u : Value) (h : c.toList[j]? = some u) : (w.alloc (.cells c e (0, 0))).cell? ((⟨w.heap.size, 0, none⟩ : Addr).add j) = some u := by
  rw [Go.WideShapes.add_plain]
  have hb : (w.alloc (.cells c e (0, 0))).heap[w.heap.size]? = some (.cells c e (0, 0)) := by
    show (w.heap.push _)[w.heap.size]? = _
    rw [Array.getElem?_push, if_pos rfl]
  rw [cell_of_block hb, Nat.zero_add, ← Array.getElem?_toList]; exact h
theorem BW.row {w W : World} {g i : Nat} {L : List BR} {r : BR} (h : BW w g L) (hi : L[i]? = some r) (hW : Below w.heap.size w W) : W.ownsRow 0 r.e r.z r.v r.n r.xs :=
  ownsRow_same (h.own i r hi) (fun k hk => hW.block k (ownsRow_lt (h.own i r hi) hk))
theorem BW.after {w W w' : World} {g i : Nat} {L : List BR} {r : BR} (h : BW w g L) (hi : L[i]? = some r) (hW : Below w.heap.size w W) (r2 : W.grownBy w' r.v.ownBlock) : w'.cell? ⟨g, fpos i, none⟩ = some r.v ∧ w'.frozen? ⟨g, fpos i, none⟩ = false := by
  have hb : w'.heap[g]? = w.heap[g]? := (r2.block g (Nat.lt_of_lt_of_le h.lt hW.size) (fun e => h.apart.1 i r hi e.symm)).trans (hW.block g h.lt)
  exact ⟨by rw [World.cell?_of_block (w := w) (a := ⟨g, fpos i, none⟩) hb]; exact h.cell hi, by rw [World.frozen?_of_block (w := w) (a := ⟨g, fpos i, none⟩) hb]; exact h.free _⟩
theorem back_or {v : Value} {g' n cap k N : Nat} (h : v.ownBlock = some g' ∨ N ≤ g') (hk : (Value.slice (some ⟨g', 0, none⟩) n cap).ownBlock = some k) : v.ownBlock = some k ∨ N ≤ k := by
  cases hk; exact h

def HangPost (w w' : World) (g n : Nat) (A : BR) (vO vU vV vD vE : Value) (xO xU xV xD xE yO : List Value) (up via dep : Int) : Prop :=
  ∃ vO' vU' vV' vD' vE' : Value, BW w' g (BL A vO' vU' vV' vD' vE' (n + 1) (n + 1) (n + 1) (n + 1) (n + 1) (xO ++ yO) (xU ++ [.int .u8 up]) (xV ++ [.int .u8 via]) (xD ++ [.int .u8 dep]) (xE ++ [.bool false])) ∧
    Fr w w' (Bl g (BL A vO vU vV vD vE n n n n n xO xU xV xD xE)) ∧
    ∀ k, Bl g (BL A vO' vU' vV' vD' vE' (n + 1) (n + 1) (n + 1) (n + 1) (n + 1) (xO ++ yO) (xU ++ [.int .u8 up]) (xV ++ [.int .u8 via]) (xD ++ [.int .u8 dep]) (xE ++ [.bool false])) k → Bl g (BL A vO vU vV vD vE n n n n n xO xU xV xD xE) k ∨ w.heap.size ≤ k

set_option maxRecDepth 100000 in
set_option maxHeartbeats 4000000 in
theorem hang_S (w : World) (g n : Nat) (A : BR) (vO vU vV vD vE : Value) (xO xU xV xD xE : List Value) (k t d p c m up via dep : Int)
    (h : BW w g (BL A vO vU vV vD vE n n n n n xO xU xV xD xE)) (hn : n ≤ 200) :
    Calls Faig.prog 71 #[.pointer (some ⟨g, 0, none⟩), .agg #[.int .u8 k, .int .u16 t, .int .u8 d, .int .u8 p, .int .u8 c, .int .u16 m], .int .u8 up, .int .u8 via, .int .u8 dep] w fun e w' => e = .returned (.tuple #[]) ∧ HangPost w w' g n A vO vU vV vD vE xO xU xV xD xE [.int .u8 k, .int .u16 t, .int .u8 d, .int .u8 p, .int .u8 c, .int .u16 m] up via dep := by
  obtain ⟨i88, hi, hz0, hz1, hz2⟩ := info_parts info88
  obtain ⟨i5, li, lz0, lz1, lz2⟩ := info_parts info5
  obtain ⟨i4, ki, kz0, kz1, kz2⟩ := info_parts info4
  have hg := h.lt
  have h5 : w.cell? ⟨g, 5, none⟩ = some vO := h.cell (i := 1) rfl
  have hW : Below w.heap.size w (((w.alloc (.cells #[.int .u8 k, .int .u16 t, .int .u8 d, .int .u8 p, .int .u8 c, .int .u16 m] 88 (0, 0))).alloc (.cells #[.int .u8 k, .int .u16 t, .int .u8 d, .int .u8 p, .int .u8 c, .int .u16 m] 88 (0, 0))).drew) := ((Below.alloc (Below.refl _ w) (Nat.le_refl _) _).alloc (by simp) _).drew
  have s1 : Hid ((((w.alloc (.cells #[.int .u8 k, .int .u16 t, .int .u8 d, .int .u8 p, .int .u8 c, .int .u16 m] 88 (0, 0))).alloc (.cells #[.int .u8 k, .int .u16 t, .int .u8 d, .int .u8 p, .int .u8 c, .int .u16 m] 88 (0, 0))).drew).ownsRow 0 88 6 vO n xO) := h.row (i := 1) rfl hW
  have s2 : Hid (∀ j u, ([.int .u8 k, .int .u16 t, .int .u8 d, .int .u8 p, .int .u8 c, .int .u16 m] : List Value)[j]? = some u → (((w.alloc (.cells #[.int .u8 k, .int .u16 t, .int .u8 d, .int .u8 p, .int .u8 c, .int .u16 m] 88 (0, 0))).alloc (.cells #[.int .u8 k, .int .u16 t, .int .u8 d, .int .u8 p, .int .u8 c, .int .u16 m] 88 (0, 0))).drew).cell? ((⟨w.heap.size + 1, 0, none⟩ : Addr).add j) = some u) := fun j u hu => temp_cells2 w _ _ _ _ j u hu
  have s3 : Hid (∀ u ∈ ([.int .u8 k, .int .u16 t, .int .u8 d, .int .u8 p, .int .u8 c, .int .u16 m] : List Value), u.oneCell' = true) := by
    intro u hu; simp at hu; rcases hu with rfl | rfl | rfl | rfl | rfl | rfl <;> rfl
  have s4 : Hid (∀ w', (((w.alloc (.cells #[.int .u8 k, .int .u16 t, .int .u8 d, .int .u8 p, .int .u8 c, .int .u16 m] 88 (0, 0))).alloc (.cells #[.int .u8 k, .int .u16 t, .int .u8 d, .int .u8 p, .int .u8 c, .int .u16 m] 88 (0, 0))).drew).grownBy w' vO.ownBlock → w'.cell? ⟨g, 5, none⟩ = some vO ∧ w'.frozen? ⟨g, 5, none⟩ = false) := fun w' r2 => h.after (i := 1) rfl hW r2
  have HH : Hid (BW w g (BL A vO vU vV vD vE n n n n n xO xU xV xD xE)) := h
  have HW : Hid (Below w.heap.size w (((w.alloc (.cells #[.int .u8 k, .int .u16 t, .int .u8 d, .int .u8 p, .int .u8 c, .int .u16 m] 88 (0, 0))).alloc (.cells #[.int .u8 k, .int .u16 t, .int .u8 d, .int .u8 p, .int .u8 c, .int .u16 m] 88 (0, 0))).drew)) := hW
  have b1 : n + 1 ≤ maxLen := by simp [maxLen]; omega
  have b2 : (n + 1) * 10 ≤ 140737488355328 := by omega
  have b3 : (n + 1) * 1 ≤ 140737488355328 := by omega
  clear h hW
  go_enter Faig.func71, Faig.ntmps71
  go_wp2
  go_region_law (
    refine append_drawn rfl (.tmp 14) (.tmp 16) 83 rfl 88 i88 _ 6 10 Faig.underlying83 hi hz0 hz1 hz2 rfl (by decide) vO n xO (by simp [Act.eval]) s1.out ⟨w.heap.size + 1, 0, none⟩ 1 1 (by decide) [.int .u8 k, .int .u16 t, .int .u8 d, .int .u8 p, .int .u8 c, .int .u16 m] (by simp [Act.eval]) rfl s2.out s3.out b1 b2 ?_
    intro g1 cap1 w1 r1 r2 r3
    have q1 := (s4.out w1 r2).1
    have q2 := (s4.out w1 r2).2)
  all_goals
    obtain ⟨B1, F1, N1⟩ := HH.out.step (i := 1) (s := ⟨.slice (some ⟨g1, 0, none⟩) (n + 1) cap1, 88, 6, n + 1, xO ++ [.int .u8 k, .int .u16 t, .int .u8 d, .int .u8 p, .int .u8 c, .int .u16 m]⟩) rfl HW.out r1 r2 (fun k hk => back_or r3 hk)
    change BW _ g (BL A _ vU vV vD vE (n + 1) n n n n _ xU xV xD xE) at B1
    clear s1 s2 s3 s4 q1 q2 r1 r2 r3 HW
    change BW (w1.setCell ⟨g, 5, none⟩ (.slice (some ⟨g1, 0, none⟩) (n + 1) cap1)) g _ at B1
    change Fr w (w1.setCell ⟨g, 5, none⟩ (.slice (some ⟨g1, 0, none⟩) (n + 1) cap1)) _ at F1
    generalize w1.setCell ⟨g, 5, none⟩ (.slice (some ⟨g1, 0, none⟩) (n + 1) cap1) = x1 at B1 F1 ⊢
    have y1 : x1.cell? ⟨g, 6, none⟩ = some vU := B1.cell (i := 2) rfl
    have hg2 := B1.lt
    have V2 : Hid (Below (x1).heap.size (x1) ((x1).alloc (.cells #[.int .u8 up] 5 (0, 0)))) := Below.alloc (Below.refl _ _) (Nat.le_refl _) _
    have u1 : Hid (((x1).alloc (.cells #[.int .u8 up] 5 (0, 0))).ownsRow 0 5 1 vU n xU) := B1.row (i := 2) rfl V2.out
    have u2 : Hid (∀ j u, ([.int .u8 up] : List Value)[j]? = some u → ((x1).alloc (.cells #[.int .u8 up] 5 (0, 0))).cell? ((⟨x1.heap.size, 0, none⟩ : Addr).add j) = some u) := fun j u hu => by
      have := temp_cells (x1) #[.int .u8 up] 5 j u hu
      simpa [size_setCell] using this
    have u3 : Hid (∀ u ∈ ([.int .u8 up] : List Value), u.oneCell' = true) := by
      intro u hu; simp at hu; subst hu; rfl
    have HB2 : Hid (BW (x1) g _) := B1
    clear B1
    try simp only [size_setCell] at hg2
    go_wp2_with (at_builtin; refine append_step _ rfl (.tmp 24) (.tmp 26) 65 rfl 5 i5 _ 1 1 Faig.underlying65 li lz0 lz1 lz2 rfl (by decide) vU n xU (by simp [Act.eval]) u1.out ⟨x1.heap.size, 0, none⟩ 1 1 (by decide) [.int .u8 up] (by simp [Act.eval]) rfl u2.out u3.out b1 b3 ?_)
    intro g2 cap2 w2 r1 r2 r3
    have q1 : w2.cell? ⟨g, 6, none⟩ = some vU := (HB2.out.after (i := 2) rfl V2.out r2).1
    have q2 : w2.frozen? ⟨g, 6, none⟩ = false := (HB2.out.after (i := 2) rfl V2.out r2).2
    obtain ⟨B2, F2, N2⟩ := HB2.out.step (i := 2) (s := ⟨(.slice (some ⟨g2, 0, none⟩) (n + 1) cap2), 5, 1, n + 1, xU ++ [.int .u8 up]⟩) rfl V2.out r1 r2 (fun k hk => back_or (by simpa [size_setCell] using r3) hk)
    clear u1 u2 u3 V2 HB2 r1 r2 r3
    change BW (w2.setCell ⟨g, 6, none⟩ (.slice (some ⟨g2, 0, none⟩) (n + 1) cap2)) g _ at B2
    change Fr _ (w2.setCell ⟨g, 6, none⟩ (.slice (some ⟨g2, 0, none⟩) (n + 1) cap2)) _ at F2
    have y2 : w2.cell? ⟨g, 7, none⟩ = some vV := by
      have := B2.cell (i := 3) rfl
      simpa [fpos, World.cell?_setCell_other] using this
    change BW _ g (BL A _ _ vV vD vE (n + 1) (n + 1) n n n _ _ xV xD xE) at B2
    have hg3 := B2.lt
    have V3 : Hid (Below (w2.setCell ⟨g, 6, none⟩ (.slice (some ⟨g2, 0, none⟩) (n + 1) cap2)).heap.size (w2.setCell ⟨g, 6, none⟩ (.slice (some ⟨g2, 0, none⟩) (n + 1) cap2)) ((w2.setCell ⟨g, 6, none⟩ (.slice (some ⟨g2, 0, none⟩) (n + 1) cap2)).alloc (.cells #[.int .u8 via] 5 (0, 0)))) := Below.alloc (Below.refl _ _) (Nat.le_refl _) _
    have u1 : Hid (((w2.setCell ⟨g, 6, none⟩ (.slice (some ⟨g2, 0, none⟩) (n + 1) cap2)).alloc (.cells #[.int .u8 via] 5 (0, 0))).ownsRow 0 5 1 vV n xV) := B2.row (i := 3) rfl V3.out
    have u2 : Hid (∀ j u, ([.int .u8 via] : List Value)[j]? = some u → ((w2.setCell ⟨g, 6, none⟩ (.slice (some ⟨g2, 0, none⟩) (n + 1) cap2)).alloc (.cells #[.int .u8 via] 5 (0, 0))).cell? ((⟨w2.heap.size, 0, none⟩ : Addr).add j) = some u) := fun j u hu => by
      have := temp_cells (w2.setCell ⟨g, 6, none⟩ (.slice (some ⟨g2, 0, none⟩) (n + 1) cap2)) #[.int .u8 via] 5 j u hu
      simpa [size_setCell] using this
    have u3 : Hid (∀ u ∈ ([.int .u8 via] : List Value), u.oneCell' = true) := by
      intro u hu; simp at hu; subst hu; rfl
    have HB3 : Hid (BW (w2.setCell ⟨g, 6, none⟩ (.slice (some ⟨g2, 0, none⟩) (n + 1) cap2)) g _) := B2
    clear B2
    try simp only [size_setCell] at hg3
    go_wp2_with (at_builtin; refine append_step _ rfl (.tmp 34) (.tmp 36) 65 rfl 5 i5 _ 1 1 Faig.underlying65 li lz0 lz1 lz2 rfl (by decide) vV n xV (by simp [Act.eval]) u1.out ⟨w2.heap.size, 0, none⟩ 1 1 (by decide) [.int .u8 via] (by simp [Act.eval]) rfl u2.out u3.out b1 b3 ?_)
    intro g3 cap3 w3 r1 r2 r3
    have q1 : w3.cell? ⟨g, 7, none⟩ = some vV := (HB3.out.after (i := 3) rfl V3.out r2).1
    have q2 : w3.frozen? ⟨g, 7, none⟩ = false := (HB3.out.after (i := 3) rfl V3.out r2).2
    obtain ⟨B3, F3, N3⟩ := HB3.out.step (i := 3) (s := ⟨(.slice (some ⟨g3, 0, none⟩) (n + 1) cap3), 5, 1, n + 1, xV ++ [.int .u8 via]⟩) rfl V3.out r1 r2 (fun k hk => back_or (by simpa [size_setCell] using r3) hk)
    clear u1 u2 u3 V3 HB3 r1 r2 r3
    change BW (w3.setCell ⟨g, 7, none⟩ (.slice (some ⟨g3, 0, none⟩) (n + 1) cap3)) g _ at B3
    change Fr _ (w3.setCell ⟨g, 7, none⟩ (.slice (some ⟨g3, 0, none⟩) (n + 1) cap3)) _ at F3
    have y3 : w3.cell? ⟨g, 8, none⟩ = some vD := by
      have := B3.cell (i := 4) rfl
      simpa [fpos, World.cell?_setCell_other] using this
    change BW _ g (BL A _ _ _ vD vE (n + 1) (n + 1) (n + 1) n n _ _ _ xD xE) at B3
    have hg4 := B3.lt
    have V4 : Hid (Below (w3.setCell ⟨g, 7, none⟩ (.slice (some ⟨g3, 0, none⟩) (n + 1) cap3)).heap.size (w3.setCell ⟨g, 7, none⟩ (.slice (some ⟨g3, 0, none⟩) (n + 1) cap3)) ((w3.setCell ⟨g, 7, none⟩ (.slice (some ⟨g3, 0, none⟩) (n + 1) cap3)).alloc (.cells #[.int .u8 dep] 5 (0, 0)))) := Below.alloc (Below.refl _ _) (Nat.le_refl _) _
    have u1 : Hid (((w3.setCell ⟨g, 7, none⟩ (.slice (some ⟨g3, 0, none⟩) (n + 1) cap3)).alloc (.cells #[.int .u8 dep] 5 (0, 0))).ownsRow 0 5 1 vD n xD) := B3.row (i := 4) rfl V4.out
    have u2 : Hid (∀ j u, ([.int .u8 dep] : List Value)[j]? = some u → ((w3.setCell ⟨g, 7, none⟩ (.slice (some ⟨g3, 0, none⟩) (n + 1) cap3)).alloc (.cells #[.int .u8 dep] 5 (0, 0))).cell? ((⟨w3.heap.size, 0, none⟩ : Addr).add j) = some u) := fun j u hu => by
      have := temp_cells (w3.setCell ⟨g, 7, none⟩ (.slice (some ⟨g3, 0, none⟩) (n + 1) cap3)) #[.int .u8 dep] 5 j u hu
      simpa [size_setCell] using this
    have u3 : Hid (∀ u ∈ ([.int .u8 dep] : List Value), u.oneCell' = true) := by
      intro u hu; simp at hu; subst hu; rfl
    have HB4 : Hid (BW (w3.setCell ⟨g, 7, none⟩ (.slice (some ⟨g3, 0, none⟩) (n + 1) cap3)) g _) := B3
    clear B3
    try simp only [size_setCell] at hg4
    go_wp2_with (at_builtin; refine append_step _ rfl (.tmp 44) (.tmp 46) 65 rfl 5 i5 _ 1 1 Faig.underlying65 li lz0 lz1 lz2 rfl (by decide) vD n xD (by simp [Act.eval]) u1.out ⟨w3.heap.size, 0, none⟩ 1 1 (by decide) [.int .u8 dep] (by simp [Act.eval]) rfl u2.out u3.out b1 b3 ?_)
    intro g4 cap4 w4 r1 r2 r3
    have q1 : w4.cell? ⟨g, 8, none⟩ = some vD := (HB4.out.after (i := 4) rfl V4.out r2).1
    have q2 : w4.frozen? ⟨g, 8, none⟩ = false := (HB4.out.after (i := 4) rfl V4.out r2).2
    obtain ⟨B4, F4, N4⟩ := HB4.out.step (i := 4) (s := ⟨(.slice (some ⟨g4, 0, none⟩) (n + 1) cap4), 5, 1, n + 1, xD ++ [.int .u8 dep]⟩) rfl V4.out r1 r2 (fun k hk => back_or (by simpa [size_setCell] using r3) hk)
    clear u1 u2 u3 V4 HB4 r1 r2 r3
    change BW (w4.setCell ⟨g, 8, none⟩ (.slice (some ⟨g4, 0, none⟩) (n + 1) cap4)) g _ at B4
    change Fr _ (w4.setCell ⟨g, 8, none⟩ (.slice (some ⟨g4, 0, none⟩) (n + 1) cap4)) _ at F4
    have y4 : w4.cell? ⟨g, 9, none⟩ = some vE := by
      have := B4.cell (i := 5) rfl
      simpa [fpos, World.cell?_setCell_other] using this
    change BW _ g (BL A _ _ _ _ vE (n + 1) (n + 1) (n + 1) (n + 1) n _ _ _ _ xE) at B4
    have hg5 := B4.lt
    have V5 : Hid (Below (w4.setCell ⟨g, 8, none⟩ (.slice (some ⟨g4, 0, none⟩) (n + 1) cap4)).heap.size (w4.setCell ⟨g, 8, none⟩ (.slice (some ⟨g4, 0, none⟩) (n + 1) cap4)) ((w4.setCell ⟨g, 8, none⟩ (.slice (some ⟨g4, 0, none⟩) (n + 1) cap4)).alloc (.cells #[.bool false] 4 (0, 0)))) := Below.alloc (Below.refl _ _) (Nat.le_refl _) _
    have u1 : Hid (((w4.setCell ⟨g, 8, none⟩ (.slice (some ⟨g4, 0, none⟩) (n + 1) cap4)).alloc (.cells #[.bool false] 4 (0, 0))).ownsRow 0 4 1 vE n xE) := B4.row (i := 5) rfl V5.out
    have u2 : Hid (∀ j u, ([.bool false] : List Value)[j]? = some u → ((w4.setCell ⟨g, 8, none⟩ (.slice (some ⟨g4, 0, none⟩) (n + 1) cap4)).alloc (.cells #[.bool false] 4 (0, 0))).cell? ((⟨w4.heap.size, 0, none⟩ : Addr).add j) = some u) := fun j u hu => by
      have := temp_cells (w4.setCell ⟨g, 8, none⟩ (.slice (some ⟨g4, 0, none⟩) (n + 1) cap4)) #[.bool false] 4 j u hu
      simpa [size_setCell] using this
    have u3 : Hid (∀ u ∈ ([.bool false] : List Value), u.oneCell' = true) := by
      intro u hu; simp at hu; subst hu; rfl
    have HB5 : Hid (BW (w4.setCell ⟨g, 8, none⟩ (.slice (some ⟨g4, 0, none⟩) (n + 1) cap4)) g _) := B4
    clear B4
    try simp only [size_setCell] at hg5
    go_wp2_with (at_builtin; refine append_step _ rfl (.tmp 54) (.tmp 55) 84 rfl 4 i4 _ 1 1 Faig.underlying84 ki kz0 kz1 kz2 rfl (by decide) vE n xE (by simp [Act.eval]) u1.out ⟨w4.heap.size, 0, none⟩ 1 1 (by decide) [.bool false] (by simp [Act.eval]) rfl u2.out u3.out b1 b3 ?_)
    intro g5 cap5 w5 r1 r2 r3
    have q1 : w5.cell? ⟨g, 9, none⟩ = some vE := (HB5.out.after (i := 5) rfl V5.out r2).1
    have q2 : w5.frozen? ⟨g, 9, none⟩ = false := (HB5.out.after (i := 5) rfl V5.out r2).2
    obtain ⟨B5, F5, N5⟩ := HB5.out.step (i := 5) (s := ⟨(.slice (some ⟨g5, 0, none⟩) (n + 1) cap5), 4, 1, n + 1, xE ++ [.bool false]⟩) rfl V5.out r1 r2 (fun k hk => back_or (by simpa [size_setCell] using r3) hk)
    clear u1 u2 u3 V5 HB5 r1 r2 r3
    change BW (w5.setCell ⟨g, 9, none⟩ (.slice (some ⟨g5, 0, none⟩) (n + 1) cap5)) g _ at B5
    change Fr _ (w5.setCell ⟨g, 9, none⟩ (.slice (some ⟨g5, 0, none⟩) (n + 1) cap5)) _ at F5
    change BW _ g (BL A _ _ _ _ _ (n + 1) (n + 1) (n + 1) (n + 1) (n + 1) _ _ _ _ _) at B5
    go_wp2_with fail
    refine bodyPost_end (v := .tuple #[]) (by simp [results, Faig.f71]) rfl ?_
    have G2 := F1.trans F2 N1
    have M2 := fun k hk => (N2 k hk).elim (N1 k) (fun h => Or.inr (Nat.le_trans F1.size h))
    have G3 := G2.trans F3 M2
    have M3 := fun k hk => (N3 k hk).elim (M2 k) (fun h => Or.inr (Nat.le_trans G2.size h))
    have G4 := G3.trans F4 M3
    have M4 := fun k hk => (N4 k hk).elim (M3 k) (fun h => Or.inr (Nat.le_trans G3.size h))
    have G5 := G4.trans F5 M4
    have M5 := fun k hk => (N5 k hk).elim (M4 k) (fun h => Or.inr (Nat.le_trans G4.size h))
    exact ⟨rfl, _, _, _, _, _, B5, G5, M5⟩
end Go.Proofs.Ygcfai

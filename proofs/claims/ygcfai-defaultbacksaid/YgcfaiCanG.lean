/-
  DefaultBack: codec.Canon.
-/
import Derived.Test.YgcfaiCanF
namespace Go.Proofs.Ygcfai
open Go.RowKit Go.Joins Plain
set_option linter.unusedVariables false
set_option linter.unusedSimpArgs false
def M16 : Array Value := Array.replicate 16 (.int .u64 0)
theorem make16 (W : World) : (Instr.makeSlice 22 (.int .i64 1) (.int .i64 16)).run Faig.prog W = .ok (.slice (some ⟨W.heap.size, 0, none⟩) 1 16) (W.alloc (.cells M16 49 (0, 0))) := by
  obtain ⟨i49, hi, hz0, hz1, hz2⟩ := info_parts info49
  have w1 : IntKind.i64.wrap 16 = 16 := by decide
  have w2 : IntKind.i64.wrap 1 = 1 := by decide
  simp [Instr.makeSlice, run_underlying Faig.underlying22, sizeOf, typeInfo, zeroValue, hi, hz0, hz1, hz2, go_sem, w1, w2]
  rfl
theorem z226_size : Faig.zeroCells226.size = 1027 := by kernel_rfl
theorem i226 : (Faig.prog.info? 226).map (·.size) = some 1027 := by kernel_rfl
theorem z226_one : Faig.zeroCells226.all (·.oneCell') = true := by
  rw [← Array.all_toList]
  kernel_rfl
/-- The canon variable with its tree and its arena. -/
noncomputable def CV (x y : Value) : Array Value := (Faig.zeroCells226.setIfInBounds 0 x).setIfInBounds 1 y
theorem store226 (W : World) (g : Nat) (x y : Value) (hx : x.oneCell' = true) (hy : y.oneCell' = true) (hb : W.heap[g]? = some (.cells Faig.zeroCells226 226 (0, 0))) :
    (storeCells ⟨g, 0, none⟩ ((Faig.zeroCells226.toList.set 0 x).set 1 y)).run Faig.prog W = .ok () (W.setRow g (CV x y)) := by
  have h := run_storeVar_row (P := Faig.prog) W g 226 226 Faig.zeroCells226 (CV x y) hb (by rw [show (CV x y).size = 1027 by unfold CV; simp [z226_size]]; exact i226) (by unfold CV; simp) (all_set (all_set z226_one _ _ hx) _ _ hy)
  cases hq : Faig.prog.info? 226 with
  | none => have := i226; simp [hq] at this
  | some i =>
    have hs : i.size = 1027 := by have := i226; simp [hq] at this; exact this
    simpa [storeVar, sizeOf, typeInfo, hq, Value.cells, hs, CV, z226_size] using h

theorem kal {w W : World} (h : Below w.heap.size w W) (o : Obj) : Below w.heap.size w (W.alloc o) := h.alloc h.size o
theorem bk1 (u : World) (o : Obj) : (u.alloc o).heap[u.heap.size]? = some o := by
  show (u.heap.push _)[u.heap.size]? = _
  rw [Array.getElem?_push, if_pos rfl]
theorem bk20 (u : World) (o1 o2 : Obj) : ((u.alloc o1).alloc o2).heap[u.heap.size]? = some o1 := by
  show ((u.heap.push _).push _)[u.heap.size]? = _
  rw [Array.getElem?_push, if_neg (by simp), Array.getElem?_push, if_pos rfl]
theorem bk21 (u : World) (o1 o2 : Obj) : ((u.alloc o1).alloc o2).heap[u.heap.size + 1]? = some o2 := by
  show ((u.heap.push _).push _)[u.heap.size + 1]? = _
  rw [Array.getElem?_push, if_pos (by simp)]
theorem lt1 (u : World) (o : Obj) : u.heap.size < (u.alloc o).heap.size := by simp
theorem lt20 (u : World) (o1 o2 : Obj) : u.heap.size < ((u.alloc o1).alloc o2).heap.size := by simp; omega
theorem lt21 (u : World) (o1 o2 : Obj) : u.heap.size + 1 < ((u.alloc o1).alloc o2).heap.size := by simp
theorem CV_0 (x y : Value) : (CV x y)[0]? = some x := by unfold CV; rw [Array.getElem?_setIfInBounds_ne (by decide), Array.getElem?_setIfInBounds_self_of_lt (by rw [z226_size]; decide)]
theorem CV_1 (x y : Value) : (CV x y)[1]? = some y := by unfold CV; rw [Array.getElem?_setIfInBounds_self_of_lt (by simp [z226_size])]
theorem CV_2 (x y : Value) : (CV x y)[2]? = some (.int .u16 0) := by unfold CV; rw [Array.getElem?_setIfInBounds_ne (by decide), Array.getElem?_setIfInBounds_ne (by decide)]; kernel_rfl
theorem CV_3 (x y : Value) : (CV x y)[3]? = some (.int .i16 0) := by unfold CV; rw [Array.getElem?_setIfInBounds_ne (by decide), Array.getElem?_setIfInBounds_ne (by decide)]; kernel_rfl
theorem CV_n (x y : Value) : (CV x y)[1026]? = some (.int .i64 0) := by unfold CV; rw [Array.getElem?_setIfInBounds_ne (by decide), Array.getElem?_setIfInBounds_ne (by decide)]; kernel_rfl
/-- store226 at a tree and an arena. -/
theorem st226 (W : World) (g gO ga : Nat) (hb : W.heap[g]? = some (.cells Faig.zeroCells226 226 (0, 0))) : (storeCells ⟨g, 0, none⟩ ((Faig.zeroCells226.toList.set 0 (.pointer (some ⟨gO, 0, none⟩))).set 1 (.slice (some ⟨ga, 0, none⟩) 1 16))).run Faig.prog W = .ok () (W.setRow g (CV (.pointer (some ⟨gO, 0, none⟩)) (.slice (some ⟨ga, 0, none⟩) 1 16))) := store226 W g _ _ rfl rfl hb
/-- Canon's variable c. -/
structure CW (w W : World) (gc ga gO gn : Nat) (o : Option Addr) (c n : Nat) (ws : List Int) : Prop where
  below : Below w.heap.size w W
  blk : W.heap[gc]? = some (.cells (CV (.pointer (some ⟨gO, 0, none⟩)) (.slice (some ⟨ga, 0, none⟩) 1 16)) 226 (0, 0))
  arena : W.heap[ga]? = some (.cells M16 49 (0, 0))
  td : Td W gO gn 1 o c n ws
  gcN : w.heap.size ≤ gc
  gaN : w.heap.size ≤ ga
  ne1 : ga ≠ gc
  ne2 : gn ≠ gc
  ne3 : gn ≠ ga
  ne4 : gO ≠ gc
  ne5 : gO ≠ ga
  hoa : ∀ b off, o = some ⟨b, off, none⟩ → n = 0 ∨ b ≠ ga ∧ b ≠ gc
theorem Td.setRow {W : World} {gt gN capN : Nat} {o : Option Addr} {c d : Nat} {ws : List Int} (h : Td W gt gN capN o c d ws) (g : Nat) (cs : Array Value) (h1 : gt ≠ g) (h2 : gN ≠ g) (h3 : ∀ b off, o = some ⟨b, off, none⟩ → d = 0 ∨ b ≠ g) : Td (W.setRow g cs) gt gN capN o c d ws := by
  have key : ∀ b i v, b ≠ g → W.cell? ⟨b, i, none⟩ = some v → (W.setRow g cs).cell? ⟨b, i, none⟩ = some v := fun b i v hb hv => (World.cell?_of_block (w := W) (a := ⟨b, i, none⟩) (setRow_other hb)).trans hv
  refine ⟨key _ _ _ h1 h.t0, key _ _ _ h1 h.t1, key _ _ _ h2 h.n0, key _ _ _ h2 h.n1, key _ _ _ h2 h.n2, key _ _ _ h2 h.n3, ?_, by rw [setRow_size]; exact h.lt, by rw [setRow_size]; exact h.ln⟩
  obtain ⟨r1, r2, r3, r4⟩ := h.row
  refine ⟨r1, r2, r3, ?_⟩
  rcases r4 with r4 | ⟨b, off, ha, hlt, hc⟩
  · exact Or.inl r4
  · rcases h3 b off ha with hb | hb
    · exact Or.inl hb
    · exact Or.inr ⟨b, off, ha, by rw [setRow_size]; exact hlt, fun i hi => key _ _ _ hb (hc i hi)⟩
theorem CW.of {w W : World} {gc ga gO gn : Nat} {o : Option Addr} {c n : Nat} {ws : List Int} (hB : Below w.heap.size w W) (hz : W.heap[gc]? = some (.cells Faig.zeroCells226 226 (0, 0))) (hm : W.heap[ga]? = some (.cells M16 49 (0, 0))) (ht : Td W gO gn 1 o c n ws) (n1 : w.heap.size ≤ gc) (n2 : w.heap.size ≤ ga) (e1 : ga ≠ gc) (e2 : gn ≠ gc) (e3 : gn ≠ ga) (e4 : gO ≠ gc) (e5 : gO ≠ ga) (e6 : ∀ b off, o = some ⟨b, off, none⟩ → n = 0 ∨ b ≠ ga ∧ b ≠ gc) :
    CW w (W.setRow gc (CV (.pointer (some ⟨gO, 0, none⟩)) (.slice (some ⟨ga, 0, none⟩) 1 16))) gc ga gO gn o c n ws :=
  ⟨setRow_below hB n1, setRow_block hz, (setRow_other e1).trans hm, ht.setRow gc _ e4 e2 (fun b off hb => (e6 b off hb).elim Or.inl (fun h => Or.inr h.2)), n1, n2, e1, e2, e3, e4, e5, e6⟩
theorem leaf_cma {w w1 w2 : World} {gO gn c n : Nat} {o : Option Addr} {ws : List Int} (hb1 : Below w.heap.size w w1) (hk2 : Below w1.heap.size w1 w2) (hT : Td w2 gO gn 1 o c n ws) (f1 : w1.heap.size ≤ gO) (f2 : w1.heap.size ≤ gn) (f3 : ∀ b off, o = some ⟨b, off, none⟩ → n = 0 ∨ w1.heap.size ≤ b) :
    CW w (((w2.alloc (.cells M16 49 (0, 0))).alloc (.cells Faig.zeroCells226 226 (0, 0))).setRow (w2.heap.size + 1) (CV (.pointer (some ⟨gO, 0, none⟩)) (.slice (some ⟨w2.heap.size, 0, none⟩) 1 16))) (w2.heap.size + 1) w2.heap.size gO gn o c n ws := by
  have z1 := hb1.size
  have z2 := hk2.size
  have l1 := hT.lt
  have l2 := hT.ln
  have l3 : ∀ b off, o = some ⟨b, off, none⟩ → n = 0 ∨ b < w2.heap.size := by
    intro b off hb
    obtain ⟨r1, r2, r3, r4⟩ := hT.row
    rcases r4 with r4 | ⟨b', off', ha, hlt, hc⟩
    · exact Or.inl r4
    · right; rw [hb] at ha; injection ha with ha; injection ha with ha; omega
  have su : w1.heap.size = w1.heap.size + 0 := by simp
  rw [su] at z2 f1 f2 f3
  have hB2 : Below w.heap.size w w2 := hb1.trans (hk2.mono (by rw [su]; omega))
  have hBW : Below w.heap.size w ((w2.alloc (.cells M16 49 (0, 0))).alloc (.cells Faig.zeroCells226 226 (0, 0))) := (kal (kal hB2 _) _)
  have hTW : Td ((w2.alloc (.cells M16 49 (0, 0))).alloc (.cells Faig.zeroCells226 226 (0, 0))) gO gn 1 o c n ws := hT.below (((Below.refl _ _).alloc (Nat.le_refl _) _).alloc (by simp) _)
  have hz : ((w2.alloc (.cells M16 49 (0, 0))).alloc (.cells Faig.zeroCells226 226 (0, 0))).heap[(w2.heap.size + 1)]? = some (.cells Faig.zeroCells226 226 (0, 0)) := bk21 w2 _ _
  have hm : ((w2.alloc (.cells M16 49 (0, 0))).alloc (.cells Faig.zeroCells226 226 (0, 0))).heap[w2.heap.size]? = some (.cells M16 49 (0, 0)) := bk20 w2 _ _
  refine CW.of hBW hz hm hTW (by omega) (by omega) (by omega) (by omega) (by omega) (by omega) (by omega) (fun b off hb => ?_)
  rcases f3 b off hb with h | h
  · exact Or.inl h
  · rcases l3 b off hb with h' | h'
    · exact Or.inl h'
    · exact Or.inr ⟨by omega, by omega⟩
theorem leaf_cam {w w1 w2 : World} {gO gn c n : Nat} {o : Option Addr} {ws : List Int} (hb1 : Below w.heap.size w w1) (hk2 : Below w1.heap.size w1 w2) (hT : Td w2 gO gn 1 o c n ws) (f1 : w1.heap.size ≤ gO) (f2 : w1.heap.size ≤ gn) (f3 : ∀ b off, o = some ⟨b, off, none⟩ → n = 0 ∨ w1.heap.size ≤ b) :
    CW w (((w2.alloc (.cells Faig.zeroCells226 226 (0, 0))).alloc (.cells M16 49 (0, 0))).setRow w2.heap.size (CV (.pointer (some ⟨gO, 0, none⟩)) (.slice (some ⟨(w2.heap.size + 1), 0, none⟩) 1 16))) w2.heap.size (w2.heap.size + 1) gO gn o c n ws := by
  have z1 := hb1.size
  have z2 := hk2.size
  have l1 := hT.lt
  have l2 := hT.ln
  have l3 : ∀ b off, o = some ⟨b, off, none⟩ → n = 0 ∨ b < w2.heap.size := by
    intro b off hb
    obtain ⟨r1, r2, r3, r4⟩ := hT.row
    rcases r4 with r4 | ⟨b', off', ha, hlt, hc⟩
    · exact Or.inl r4
    · right; rw [hb] at ha; injection ha with ha; injection ha with ha; omega
  have su : w1.heap.size = w1.heap.size + 0 := by simp
  rw [su] at z2 f1 f2 f3
  have hB2 : Below w.heap.size w w2 := hb1.trans (hk2.mono (by rw [su]; omega))
  have hBW : Below w.heap.size w ((w2.alloc (.cells Faig.zeroCells226 226 (0, 0))).alloc (.cells M16 49 (0, 0))) := (kal (kal hB2 _) _)
  have hTW : Td ((w2.alloc (.cells Faig.zeroCells226 226 (0, 0))).alloc (.cells M16 49 (0, 0))) gO gn 1 o c n ws := hT.below (((Below.refl _ _).alloc (Nat.le_refl _) _).alloc (by simp) _)
  have hz : ((w2.alloc (.cells Faig.zeroCells226 226 (0, 0))).alloc (.cells M16 49 (0, 0))).heap[w2.heap.size]? = some (.cells Faig.zeroCells226 226 (0, 0)) := bk20 w2 _ _
  have hm : ((w2.alloc (.cells Faig.zeroCells226 226 (0, 0))).alloc (.cells M16 49 (0, 0))).heap[(w2.heap.size + 1)]? = some (.cells M16 49 (0, 0)) := bk21 w2 _ _
  refine CW.of hBW hz hm hTW (by omega) (by omega) (by omega) (by omega) (by omega) (by omega) (by omega) (fun b off hb => ?_)
  rcases f3 b off hb with h | h
  · exact Or.inl h
  · rcases l3 b off hb with h' | h'
    · exact Or.inl h'
    · exact Or.inr ⟨by omega, by omega⟩
theorem leaf_mca {w w1 w2 : World} {gO gn c n : Nat} {o : Option Addr} {ws : List Int} (hb1 : Below w.heap.size w w1) (hk2 : Below (w1.alloc (.cells M16 49 (0, 0))).heap.size (w1.alloc (.cells M16 49 (0, 0))) w2) (hT : Td w2 gO gn 1 o c n ws) (f1 : (w1.alloc (.cells M16 49 (0, 0))).heap.size ≤ gO) (f2 : (w1.alloc (.cells M16 49 (0, 0))).heap.size ≤ gn) (f3 : ∀ b off, o = some ⟨b, off, none⟩ → n = 0 ∨ (w1.alloc (.cells M16 49 (0, 0))).heap.size ≤ b) :
    CW w ((w2.alloc (.cells Faig.zeroCells226 226 (0, 0))).setRow w2.heap.size (CV (.pointer (some ⟨gO, 0, none⟩)) (.slice (some ⟨w1.heap.size, 0, none⟩) 1 16))) w2.heap.size w1.heap.size gO gn o c n ws := by
  have z1 := hb1.size
  have z2 := hk2.size
  have l1 := hT.lt
  have l2 := hT.ln
  have l3 : ∀ b off, o = some ⟨b, off, none⟩ → n = 0 ∨ b < w2.heap.size := by
    intro b off hb
    obtain ⟨r1, r2, r3, r4⟩ := hT.row
    rcases r4 with r4 | ⟨b', off', ha, hlt, hc⟩
    · exact Or.inl r4
    · right; rw [hb] at ha; injection ha with ha; injection ha with ha; omega
  have su : (w1.alloc (.cells M16 49 (0, 0))).heap.size = w1.heap.size + 1 := by simp
  rw [su] at z2 f1 f2 f3
  have hB2 : Below w.heap.size w w2 := (kal hb1 _).trans (hk2.mono (by rw [su]; omega))
  have hBW : Below w.heap.size w (w2.alloc (.cells Faig.zeroCells226 226 (0, 0))) := (kal hB2 _)
  have hTW : Td (w2.alloc (.cells Faig.zeroCells226 226 (0, 0))) gO gn 1 o c n ws := hT.below ((Below.refl _ _).alloc (Nat.le_refl _) _)
  have hz : (w2.alloc (.cells Faig.zeroCells226 226 (0, 0))).heap[w2.heap.size]? = some (.cells Faig.zeroCells226 226 (0, 0)) := bk1 w2 _
  have hm : (w2.alloc (.cells Faig.zeroCells226 226 (0, 0))).heap[w1.heap.size]? = some (.cells M16 49 (0, 0)) := (Below.heap_alloc _ _ _ (Nat.lt_of_lt_of_le (lt1 w1 (.cells M16 49 (0, 0))) hk2.size)).trans ((hk2.block w1.heap.size (lt1 w1 _)).trans (bk1 w1 _))
  refine CW.of hBW hz hm hTW (by omega) (by omega) (by omega) (by omega) (by omega) (by omega) (by omega) (fun b off hb => ?_)
  rcases f3 b off hb with h | h
  · exact Or.inl h
  · rcases l3 b off hb with h' | h'
    · exact Or.inl h'
    · exact Or.inr ⟨by omega, by omega⟩
theorem leaf_acm {w w1 w2 : World} {gO gn c n : Nat} {o : Option Addr} {ws : List Int} (hb1 : Below w.heap.size w w1) (hk2 : Below (w1.alloc (.cells Faig.zeroCells226 226 (0, 0))).heap.size (w1.alloc (.cells Faig.zeroCells226 226 (0, 0))) w2) (hT : Td w2 gO gn 1 o c n ws) (f1 : (w1.alloc (.cells Faig.zeroCells226 226 (0, 0))).heap.size ≤ gO) (f2 : (w1.alloc (.cells Faig.zeroCells226 226 (0, 0))).heap.size ≤ gn) (f3 : ∀ b off, o = some ⟨b, off, none⟩ → n = 0 ∨ (w1.alloc (.cells Faig.zeroCells226 226 (0, 0))).heap.size ≤ b) :
    CW w ((w2.alloc (.cells M16 49 (0, 0))).setRow w1.heap.size (CV (.pointer (some ⟨gO, 0, none⟩)) (.slice (some ⟨w2.heap.size, 0, none⟩) 1 16))) w1.heap.size w2.heap.size gO gn o c n ws := by
  have z1 := hb1.size
  have z2 := hk2.size
  have l1 := hT.lt
  have l2 := hT.ln
  have l3 : ∀ b off, o = some ⟨b, off, none⟩ → n = 0 ∨ b < w2.heap.size := by
    intro b off hb
    obtain ⟨r1, r2, r3, r4⟩ := hT.row
    rcases r4 with r4 | ⟨b', off', ha, hlt, hc⟩
    · exact Or.inl r4
    · right; rw [hb] at ha; injection ha with ha; injection ha with ha; omega
  have su : (w1.alloc (.cells Faig.zeroCells226 226 (0, 0))).heap.size = w1.heap.size + 1 := by simp
  rw [su] at z2 f1 f2 f3
  have hB2 : Below w.heap.size w w2 := (kal hb1 _).trans (hk2.mono (by rw [su]; omega))
  have hBW : Below w.heap.size w (w2.alloc (.cells M16 49 (0, 0))) := (kal hB2 _)
  have hTW : Td (w2.alloc (.cells M16 49 (0, 0))) gO gn 1 o c n ws := hT.below ((Below.refl _ _).alloc (Nat.le_refl _) _)
  have hz : (w2.alloc (.cells M16 49 (0, 0))).heap[w1.heap.size]? = some (.cells Faig.zeroCells226 226 (0, 0)) := (Below.heap_alloc _ _ _ (Nat.lt_of_lt_of_le (lt1 w1 (.cells Faig.zeroCells226 226 (0, 0))) hk2.size)).trans ((hk2.block w1.heap.size (lt1 w1 _)).trans (bk1 w1 _))
  have hm : (w2.alloc (.cells M16 49 (0, 0))).heap[w2.heap.size]? = some (.cells M16 49 (0, 0)) := bk1 w2 _
  refine CW.of hBW hz hm hTW (by omega) (by omega) (by omega) (by omega) (by omega) (by omega) (by omega) (fun b off hb => ?_)
  rcases f3 b off hb with h | h
  · exact Or.inl h
  · rcases l3 b off hb with h' | h'
    · exact Or.inl h'
    · exact Or.inr ⟨by omega, by omega⟩
theorem leaf_mac {w w1 w2 : World} {gO gn c n : Nat} {o : Option Addr} {ws : List Int} (hb1 : Below w.heap.size w w1) (hk2 : Below ((w1.alloc (.cells M16 49 (0, 0))).alloc (.cells Faig.zeroCells226 226 (0, 0))).heap.size ((w1.alloc (.cells M16 49 (0, 0))).alloc (.cells Faig.zeroCells226 226 (0, 0))) w2) (hT : Td w2 gO gn 1 o c n ws) (f1 : ((w1.alloc (.cells M16 49 (0, 0))).alloc (.cells Faig.zeroCells226 226 (0, 0))).heap.size ≤ gO) (f2 : ((w1.alloc (.cells M16 49 (0, 0))).alloc (.cells Faig.zeroCells226 226 (0, 0))).heap.size ≤ gn) (f3 : ∀ b off, o = some ⟨b, off, none⟩ → n = 0 ∨ ((w1.alloc (.cells M16 49 (0, 0))).alloc (.cells Faig.zeroCells226 226 (0, 0))).heap.size ≤ b) :
    CW w (w2.setRow (w1.heap.size + 1) (CV (.pointer (some ⟨gO, 0, none⟩)) (.slice (some ⟨w1.heap.size, 0, none⟩) 1 16))) (w1.heap.size + 1) w1.heap.size gO gn o c n ws := by
  have z1 := hb1.size
  have z2 := hk2.size
  have l1 := hT.lt
  have l2 := hT.ln
  have l3 : ∀ b off, o = some ⟨b, off, none⟩ → n = 0 ∨ b < w2.heap.size := by
    intro b off hb
    obtain ⟨r1, r2, r3, r4⟩ := hT.row
    rcases r4 with r4 | ⟨b', off', ha, hlt, hc⟩
    · exact Or.inl r4
    · right; rw [hb] at ha; injection ha with ha; injection ha with ha; omega
  have su : ((w1.alloc (.cells M16 49 (0, 0))).alloc (.cells Faig.zeroCells226 226 (0, 0))).heap.size = w1.heap.size + 2 := by simp
  rw [su] at z2 f1 f2 f3
  have hB2 : Below w.heap.size w w2 := (kal (kal hb1 _) _).trans (hk2.mono (by rw [su]; omega))
  have hBW : Below w.heap.size w w2 := hB2
  have hTW : Td w2 gO gn 1 o c n ws := hT.below (Below.refl _ _)
  have hz : w2.heap[(w1.heap.size + 1)]? = some (.cells Faig.zeroCells226 226 (0, 0)) := (hk2.block (w1.heap.size + 1) (lt21 w1 _ _)).trans (bk21 w1 _ _)
  have hm : w2.heap[w1.heap.size]? = some (.cells M16 49 (0, 0)) := (hk2.block w1.heap.size (lt20 w1 _ _)).trans (bk20 w1 _ _)
  refine CW.of hBW hz hm hTW (by omega) (by omega) (by omega) (by omega) (by omega) (by omega) (by omega) (fun b off hb => ?_)
  rcases f3 b off hb with h | h
  · exact Or.inl h
  · rcases l3 b off hb with h' | h'
    · exact Or.inl h'
    · exact Or.inr ⟨by omega, by omega⟩
theorem leaf_amc {w w1 w2 : World} {gO gn c n : Nat} {o : Option Addr} {ws : List Int} (hb1 : Below w.heap.size w w1) (hk2 : Below ((w1.alloc (.cells Faig.zeroCells226 226 (0, 0))).alloc (.cells M16 49 (0, 0))).heap.size ((w1.alloc (.cells Faig.zeroCells226 226 (0, 0))).alloc (.cells M16 49 (0, 0))) w2) (hT : Td w2 gO gn 1 o c n ws) (f1 : ((w1.alloc (.cells Faig.zeroCells226 226 (0, 0))).alloc (.cells M16 49 (0, 0))).heap.size ≤ gO) (f2 : ((w1.alloc (.cells Faig.zeroCells226 226 (0, 0))).alloc (.cells M16 49 (0, 0))).heap.size ≤ gn) (f3 : ∀ b off, o = some ⟨b, off, none⟩ → n = 0 ∨ ((w1.alloc (.cells Faig.zeroCells226 226 (0, 0))).alloc (.cells M16 49 (0, 0))).heap.size ≤ b) :
    CW w (w2.setRow w1.heap.size (CV (.pointer (some ⟨gO, 0, none⟩)) (.slice (some ⟨(w1.heap.size + 1), 0, none⟩) 1 16))) w1.heap.size (w1.heap.size + 1) gO gn o c n ws := by
  have z1 := hb1.size
  have z2 := hk2.size
  have l1 := hT.lt
  have l2 := hT.ln
  have l3 : ∀ b off, o = some ⟨b, off, none⟩ → n = 0 ∨ b < w2.heap.size := by
    intro b off hb
    obtain ⟨r1, r2, r3, r4⟩ := hT.row
    rcases r4 with r4 | ⟨b', off', ha, hlt, hc⟩
    · exact Or.inl r4
    · right; rw [hb] at ha; injection ha with ha; injection ha with ha; omega
  have su : ((w1.alloc (.cells Faig.zeroCells226 226 (0, 0))).alloc (.cells M16 49 (0, 0))).heap.size = w1.heap.size + 2 := by simp
  rw [su] at z2 f1 f2 f3
  have hB2 : Below w.heap.size w w2 := (kal (kal hb1 _) _).trans (hk2.mono (by rw [su]; omega))
  have hBW : Below w.heap.size w w2 := hB2
  have hTW : Td w2 gO gn 1 o c n ws := hT.below (Below.refl _ _)
  have hz : w2.heap[w1.heap.size]? = some (.cells Faig.zeroCells226 226 (0, 0)) := (hk2.block w1.heap.size (lt20 w1 _ _)).trans (bk20 w1 _ _)
  have hm : w2.heap[(w1.heap.size + 1)]? = some (.cells M16 49 (0, 0)) := (hk2.block (w1.heap.size + 1) (lt21 w1 _ _)).trans (bk21 w1 _ _)
  refine CW.of hBW hz hm hTW (by omega) (by omega) (by omega) (by omega) (by omega) (by omega) (by omega) (fun b off hb => ?_)
  rcases f3 b off hb with h | h
  · exact Or.inl h
  · rcases l3 b off hb with h' | h'
    · exact Or.inl h'
    · exact Or.inr ⟨by omega, by omega⟩
def CanonP (w w' : World) (e : Ending) (n : Nat) (ws : List Int) : Prop := ∃ g cap, e = .returned (.tuple #[.slice (some ⟨g, 0, none⟩) (1 + n) cap, .bool true]) ∧ Below w.heap.size w w' ∧ w'.ownsRow 0 49 1 (.slice (some ⟨g, 0, none⟩) (1 + n) cap) (1 + n) (.int .u64 (msv 0 1 n 0) :: ws.map (Value.int .u64)) ∧ w.heap.size ≤ g
def nOf (w : World) (g : Nat) : Nat := match w.cell? ⟨g, 1026, none⟩ with | some (.int _ n) => n.toNat | _ => 0
def CanEnd (w W : World) (gc n : Nat) (ws : List Int) : Prop := ∃ g cap, W.cell? ⟨gc, 1, none⟩ = some (.slice (some ⟨g, 0, none⟩) (1 + n) cap) ∧ W.cell? ⟨gc, 1026, none⟩ = some (.int .i64 0) ∧ Below w.heap.size w W ∧ W.ownsRow 0 49 1 (.slice (some ⟨g, 0, none⟩) (1 + n) cap) (1 + n) (.int .u64 (msv 0 1 n 0) :: ws.map (Value.int .u64)) ∧ w.heap.size ≤ g
theorem own16 {W : World} {ga : Nat} (h : W.heap[ga]? = some (.cells M16 49 (0, 0))) : W.ownsRow 0 49 1 (.slice (some ⟨ga, 0, none⟩) 1 16) 1 [.int .u64 0] :=
  ⟨rfl, Or.inr ⟨ga, 16, M16, rfl, Nat.zero_le _, h, by decide, by decide, rfl, rfl⟩⟩
theorem Td.fr {W W' : World} {gt gN capN : Nat} {o : Option Addr} {c d : Nat} {ws : List Int} {B : Nat → Prop} (h : Td W gt gN capN o c d ws) (hF : Fr W W' B) (h1 : ¬ B gt) (h2 : ¬ B gN) (h3 : ∀ b off, o = some ⟨b, off, none⟩ → d = 0 ∨ ¬ B b) : Td W' gt gN capN o c d ws := by
  have k1 : ∀ i v, W.cell? ⟨gt, i, none⟩ = some v → W'.cell? ⟨gt, i, none⟩ = some v := fun i v hv => (World.cell?_of_block (w := W) (a := ⟨gt, i, none⟩) (hF.block gt h.lt h1)).trans hv
  have k2 : ∀ i v, W.cell? ⟨gN, i, none⟩ = some v → W'.cell? ⟨gN, i, none⟩ = some v := fun i v hv => (World.cell?_of_block (w := W) (a := ⟨gN, i, none⟩) (hF.block gN h.ln h2)).trans hv
  refine ⟨k1 _ _ h.t0, k1 _ _ h.t1, k2 _ _ h.n0, k2 _ _ h.n1, k2 _ _ h.n2, k2 _ _ h.n3, ?_, Nat.lt_of_lt_of_le h.lt hF.size, Nat.lt_of_lt_of_le h.ln hF.size⟩
  obtain ⟨r1, r2, r3, r4⟩ := h.row
  refine ⟨r1, r2, r3, ?_⟩
  rcases r4 with r4 | ⟨b, off, ha, hlt, hc⟩
  · exact Or.inl r4
  · rcases h3 b off ha with hb | hb
    · exact Or.inl hb
    · exact Or.inr ⟨b, off, ha, Nat.lt_of_lt_of_le hlt hF.size, fun i hi => (World.cell?_of_block (w := W) (a := ⟨b, off + i, none⟩) (hF.block b hlt hb)).trans (hc i hi)⟩
set_option maxRecDepth 100000 in
set_option maxHeartbeats 2000000 in
theorem canon_str (w : World) (gt gN capN : Nat) (o : Option Addr) (c d : Nat) (ws : List Int) (h : Td w gt gN capN o c d ws) (hd : d ≤ 8) :
    Calls Faig.prog 80 #[.pointer (some ⟨gt, 0, none⟩)] w fun e w' => CanonP w w' e (trimN ws d) (ws.take (trimN ws d)) := by
  have HC : Hid (Calls Faig.prog 121 #[.pointer (some ⟨gt, 0, none⟩)] w fun e w' => e = .returned (.bool true) ∧ Below w.heap.size w w') := check_str w gt gN capN o c d ws h hd
  have H : Hid (∀ w', Below w.heap.size w w' → Td w' gt gN capN o c d ws) := fun w' hb => h.below hb
  have hm16 := make16
  have s_cma : ∀ (u : World) (gO ga : Nat), (storeCells ⟨u.heap.size + 1, 0, none⟩ ((Faig.zeroCells226.toList.set 0 (.pointer (some ⟨gO, 0, none⟩))).set 1 (.slice (some ⟨ga, 0, none⟩) 1 16))).run Faig.prog ((u.alloc (.cells M16 49 (0, 0))).alloc (.cells Faig.zeroCells226 226 (0, 0))) = .ok () (((u.alloc (.cells M16 49 (0, 0))).alloc (.cells Faig.zeroCells226 226 (0, 0))).setRow (u.heap.size + 1) (CV (.pointer (some ⟨gO, 0, none⟩)) (.slice (some ⟨ga, 0, none⟩) 1 16))) := fun u gO ga => st226 _ _ _ _ (bk21 u _ _)
  have s_cam : ∀ (u : World) (gO ga : Nat), (storeCells ⟨u.heap.size, 0, none⟩ ((Faig.zeroCells226.toList.set 0 (.pointer (some ⟨gO, 0, none⟩))).set 1 (.slice (some ⟨ga, 0, none⟩) 1 16))).run Faig.prog ((u.alloc (.cells Faig.zeroCells226 226 (0, 0))).alloc (.cells M16 49 (0, 0))) = .ok () (((u.alloc (.cells Faig.zeroCells226 226 (0, 0))).alloc (.cells M16 49 (0, 0))).setRow u.heap.size (CV (.pointer (some ⟨gO, 0, none⟩)) (.slice (some ⟨ga, 0, none⟩) 1 16))) := fun u gO ga => st226 _ _ _ _ (bk20 u _ _)
  have s_mca : ∀ (u : World) (gO ga : Nat), (storeCells ⟨u.heap.size, 0, none⟩ ((Faig.zeroCells226.toList.set 0 (.pointer (some ⟨gO, 0, none⟩))).set 1 (.slice (some ⟨ga, 0, none⟩) 1 16))).run Faig.prog (u.alloc (.cells Faig.zeroCells226 226 (0, 0))) = .ok () ((u.alloc (.cells Faig.zeroCells226 226 (0, 0))).setRow u.heap.size (CV (.pointer (some ⟨gO, 0, none⟩)) (.slice (some ⟨ga, 0, none⟩) 1 16))) := fun u gO ga => st226 _ _ _ _ (bk1 u _)
  clear h
  have hle := trimN_le ws d
  have HQ0 : Hid (∀ u, Below w.heap.size w u → Calls Faig.prog 122 #[.pointer (some ⟨gt, 0, none⟩)] u.drew fun e w' => NormP u.drew w' e (trimN ws d) (ws.take (trimN ws d))) := fun u hu => norm_str u.drew gt gN capN o c d ws (H.out _ hu.drew) hd
  generalize hteq : trimN ws d = t at *
  have HT : Hid (trimN ws d = t) := hteq
  clear hteq
  have HQ := HQ0
  clear HQ0
  go_enter Faig.func80, Faig.ntmps80
  go_wp2_with fail
  refine HC.out.mono ?_
  rintro e w1 ⟨rfl, hb1⟩
  go_wp2_with fail
  go_cut [4] from 9 to 12 (fun s W => ∃ gc ga gO gn o c, s = .pointer (some ⟨gc, 0, none⟩) ∧ CW w W gc ga gO gn o c t (ws.take t))
  case first =>
    go_region_law (first
    | (refine call_drawn rfl 122 #[.tmp 9] #[24] rfl Faig.f122 _ Faig.func122 rfl rfl #[.pointer (some ⟨gt, 0, none⟩)] (by simp [Act.eval, Act.put]) _ (HQ.out w1 hb1) ?_
       rintro e w2 ⟨gO, gn, o', c', rfl, hb2, hT2, hf1, hf2, hf3⟩
       refine ⟨_, rfl, ?_⟩
       have hk2 := bdrew hb2
       have o0 := hk2.size)
    | (refine call_drawn rfl 122 #[.tmp 9] #[24] rfl Faig.f122 _ Faig.func122 rfl rfl #[.pointer (some ⟨gt, 0, none⟩)] (by simp [Act.eval, Act.put]) _ (HQ.out ((w1.alloc (.cells Faig.zeroCells226 226 (0, 0))).alloc (.cells M16 49 (0, 0))) (kal (kal hb1 (.cells Faig.zeroCells226 226 (0, 0))) (.cells M16 49 (0, 0)))) ?_
       rintro e w2 ⟨gO, gn, o', c', rfl, hb2, hT2, hf1, hf2, hf3⟩
       refine ⟨_, rfl, ?_⟩
       have hk2 := bdrew hb2
       have zA := (hk2.block w1.heap.size (lt20 w1 _ _)).trans (bk20 w1 _ _)
       have zM := (hk2.block (w1.heap.size + 1) (lt21 w1 _ _)).trans (bk21 w1 _ _)
       have sA := fun gO ga => st226 w2 w1.heap.size gO ga zA
       have oAM := hk2.size)
    | (refine call_drawn rfl 122 #[.tmp 9] #[24] rfl Faig.f122 _ Faig.func122 rfl rfl #[.pointer (some ⟨gt, 0, none⟩)] (by simp [Act.eval, Act.put]) _ (HQ.out ((w1.alloc (.cells M16 49 (0, 0))).alloc (.cells Faig.zeroCells226 226 (0, 0))) (kal (kal hb1 (.cells M16 49 (0, 0))) (.cells Faig.zeroCells226 226 (0, 0)))) ?_
       rintro e w2 ⟨gO, gn, o', c', rfl, hb2, hT2, hf1, hf2, hf3⟩
       refine ⟨_, rfl, ?_⟩
       have hk2 := bdrew hb2
       have zM := (hk2.block w1.heap.size (lt20 w1 _ _)).trans (bk20 w1 _ _)
       have zA := (hk2.block (w1.heap.size + 1) (lt21 w1 _ _)).trans (bk21 w1 _ _)
       have sA := fun gO ga => st226 w2 (w1.heap.size + 1) gO ga zA
       have oMA := hk2.size)
    | (refine call_drawn rfl 122 #[.tmp 9] #[24] rfl Faig.f122 _ Faig.func122 rfl rfl #[.pointer (some ⟨gt, 0, none⟩)] (by simp [Act.eval, Act.put]) _ (HQ.out (w1.alloc (.cells Faig.zeroCells226 226 (0, 0))) (kal hb1 (.cells Faig.zeroCells226 226 (0, 0)))) ?_
       rintro e w2 ⟨gO, gn, o', c', rfl, hb2, hT2, hf1, hf2, hf3⟩
       refine ⟨_, rfl, ?_⟩
       have hk2 := bdrew hb2
       have zA := (hk2.block w1.heap.size (lt1 w1 _)).trans (bk1 w1 _)
       have sA := fun gO ga => st226 (w2.alloc (.cells M16 49 (0, 0))) w1.heap.size gO ga ((Below.heap_alloc _ _ _ (Nat.lt_of_lt_of_le (lt1 w1 _) hk2.size)).trans zA)
       have oA := hk2.size)
    | (refine call_drawn rfl 122 #[.tmp 9] #[24] rfl Faig.f122 _ Faig.func122 rfl rfl #[.pointer (some ⟨gt, 0, none⟩)] (by simp [Act.eval, Act.put]) _ (HQ.out (w1.alloc (.cells M16 49 (0, 0))) (kal hb1 (.cells M16 49 (0, 0)))) ?_
       rintro e w2 ⟨gO, gn, o', c', rfl, hb2, hT2, hf1, hf2, hf3⟩
       refine ⟨_, rfl, ?_⟩
       have hk2 := bdrew hb2
       have zM := (hk2.block w1.heap.size (lt1 w1 _)).trans (bk1 w1 _)
       have oM := hk2.size)
    | fail)
    all_goals go_wp2_with fail
    all_goals go_meet
    all_goals
      case rel =>
        first
        | exact ⟨_, _, _, _, _, _, rfl, leaf_cma hb1 hk2 hT2 hf1 hf2 hf3⟩
        | exact ⟨_, _, _, _, _, _, rfl, leaf_cam hb1 hk2 hT2 hf1 hf2 hf3⟩
        | exact ⟨_, _, _, _, _, _, rfl, leaf_mca hb1 hk2 hT2 hf1 hf2 hf3⟩
        | exact ⟨_, _, _, _, _, _, rfl, leaf_acm hb1 hk2 hT2 hf1 hf2 hf3⟩
        | exact ⟨_, _, _, _, _, _, rfl, leaf_mac hb1 hk2 hT2 hf1 hf2 hf3⟩
        | exact ⟨_, _, _, _, _, _, rfl, leaf_amc hb1 hk2 hT2 hf1 hf2 hf3⟩
  case rest =>
    obtain ⟨gc, ga, gO, gn, o', c', rfl, C⟩ := hcut
    clear hm16 s_cma s_cam s_mca HQ H HC hb1
    have hf0 := unfrozen_of_block C.blk
    have c0 : wc.cell? ⟨gc, 0, none⟩ = some (.pointer (some ⟨gO, 0, none⟩)) := (cell_of_block C.blk 0).trans (CV_0 _ _)
    have c1 : wc.cell? ⟨gc, 1, none⟩ = some (.slice (some ⟨ga, 0, none⟩) 1 16) := (cell_of_block C.blk 1).trans (CV_1 _ _)
    have c2 : wc.cell? ⟨gc, 2, none⟩ = some (.int .u16 0) := (cell_of_block C.blk 2).trans (CV_2 _ _)
    have c3 : wc.cell? ⟨gc, 3, none⟩ = some (.int .i16 0) := (cell_of_block C.blk 3).trans (CV_3 _ _)
    have cn : wc.cell? ⟨gc, 1026, none⟩ = some (.int .i64 0) := (cell_of_block C.blk 1026).trans (CV_n _ _)
    have lc : gc < wc.heap.size := (Array.getElem?_eq_some_iff.1 C.blk).1
    have t1 := C.td.t1
    have HCC : Hid (CW w wc gc ga gO gn o' c' t (ws.take t)) := C
    have PC : Hid (Calls Faig.prog 123 #[.pointer (some ⟨gc, 0, none⟩), .int .u16 0, .int .i16 0] wc fun e w' => e = .returned (.tuple #[]) ∧ w' = (((wc.setCell ⟨gc, 2, none⟩ (.int .u16 0)).setCell ⟨gc, 3, none⟩ (.int .i16 0)).setCell ⟨gc, 1026, none⟩ (.int .i64 1)).drew) := canPush wc gc c2 c3 cn (hf0 2) (hf0 3) (hf0 1026) lc
    clear C hf0 c2 c3 cn
    go_wp2_with fail
    refine PC.out.mono ?_
    rintro e w3 ⟨rfl, hw3⟩
    have ob := ((HCC.out).blk)
    have b3 := block_setCell (i := 1026) (block_setCell (i := 3) (block_setCell (i := 2) ob (.int .u16 0)) (.int .i16 0)) (.int .i64 1)
    have b3' : w3.heap[gc]? = some (.cells ((((CV (.pointer (some ⟨gO, 0, none⟩)) (.slice (some ⟨ga, 0, none⟩) 1 16)).setIfInBounds 2 (.int .u16 0)).setIfInBounds 3 (.int .i16 0)).setIfInBounds 1026 (.int .i64 1)) 226 (0, 0)) := by rw [hw3]; exact b3
    have F3 : Fr wc w3 (fun k => k = gc) := by
      rw [hw3]
      exact (((fr_set wc gc 2 _).trans (fr_set _ gc 3 _) (fun i hi => Or.inl hi)).trans (fr_set _ gc 1026 _) (fun i hi => Or.inl hi)).trans (Fr.of_below (B := fun _ => False) (Below.refl _ _).drew) (fun i hi => hi.elim)
    have p0 : w3.cell? ⟨gc, 0, none⟩ = some (.pointer (some ⟨gO, 0, none⟩)) := by
      rw [cell_of_block b3', Array.getElem?_setIfInBounds_ne (by decide), Array.getElem?_setIfInBounds_ne (by decide), Array.getElem?_setIfInBounds_ne (by decide)]; exact CV_0 _ _
    have p1 : w3.cell? ⟨gc, 1, none⟩ = some (.slice (some ⟨ga, 0, none⟩) 1 16) := by
      rw [cell_of_block b3', Array.getElem?_setIfInBounds_ne (by decide), Array.getElem?_setIfInBounds_ne (by decide), Array.getElem?_setIfInBounds_ne (by decide)]; exact CV_1 _ _
    have csz : ∀ x y, (CV x y).size = 1027 := fun x y => by unfold CV; simp [z226_size]
    have p2 : w3.cell? ⟨gc, 2, none⟩ = some (.int .u16 0) := by
      rw [cell_of_block b3', Array.getElem?_setIfInBounds_ne (by decide), Array.getElem?_setIfInBounds_ne (by decide)]; exact Array.getElem?_setIfInBounds_self_of_lt (by rw [csz]; decide)
    have p3 : w3.cell? ⟨gc, 3, none⟩ = some (.int .i16 0) := by
      rw [cell_of_block b3', Array.getElem?_setIfInBounds_ne (by decide)]; exact Array.getElem?_setIfInBounds_self_of_lt (by rw [Array.size_setIfInBounds, csz]; decide)
    have pn : w3.cell? ⟨gc, 1026, none⟩ = some (.int .i64 1) := by
      rw [cell_of_block b3']; exact Array.getElem?_setIfInBounds_self_of_lt (by rw [Array.size_setIfInBounds, Array.size_setIfInBounds, csz]; decide)
    have pf := unfrozen_of_block b3' 1026
    have lc3 : gc < w3.heap.size := (Array.getElem?_eq_some_iff.1 b3').1
    have T3 : Td w3 gO gn 1 o' c' t (ws.take t) := HCC.out.td.fr F3 HCC.out.ne4 HCC.out.ne2 (fun b off hb => (HCC.out.hoa b off hb).elim Or.inl (fun h => Or.inr h.2))
    have A3 : w3.heap[ga]? = some (.cells M16 49 (0, 0)) := (F3.block ga (Array.getElem?_eq_some_iff.1 HCC.out.arena).1 HCC.out.ne1).trans HCC.out.arena
    have B3 : Below w.heap.size w w3 := HCC.out.below.trans (F3.below (n := w.heap.size) (fun k hk => by rw [hk]; exact HCC.out.gcN) HCC.out.below.size)
    have t0 := T3.t0
    have lO := T3.lt
    have ln3 := T3.ln
    -- the world of place
    have fr4 : Fr w3 ((w3.setCell ⟨gc, 1026, none⟩ (.int .i64 0)).alloc (.cells #[.int .u16 0, .int .i16 0] 223 (0, 0))).drew (fun k => k = gc) := (fr_set w3 gc 1026 _).trans (Fr.of_below (B := fun _ => False) ((Below.refl _ _).alloc (Nat.le_refl _) _).drew) (fun i hi => hi.elim)
    have b4 : ((w3.setCell ⟨gc, 1026, none⟩ (.int .i64 0)).alloc (.cells #[.int .u16 0, .int .i16 0] 223 (0, 0))).drew.heap[gc]? = some (.cells (((((CV (.pointer (some ⟨gO, 0, none⟩)) (.slice (some ⟨ga, 0, none⟩) 1 16)).setIfInBounds 2 (.int .u16 0)).setIfInBounds 3 (.int .i16 0)).setIfInBounds 1026 (.int .i64 1)).setIfInBounds 1026 (.int .i64 0)) 226 (0, 0)) := (Below.heap_alloc _ _ _ (by rw [size_setCell]; exact lc3)).trans (block_setCell (i := 1026) b3' (.int .i64 0))
    have q1 : ((w3.setCell ⟨gc, 1026, none⟩ (.int .i64 0)).alloc (.cells #[.int .u16 0, .int .i16 0] 223 (0, 0))).drew.cell? ⟨gc, 1, none⟩ = some (.slice (some ⟨ga, 0, none⟩) 1 16) := by
      rw [cell_of_block b4, Array.getElem?_setIfInBounds_ne (by decide)]; rw [← cell_of_block b3']; exact p1
    have qn : ((w3.setCell ⟨gc, 1026, none⟩ (.int .i64 0)).alloc (.cells #[.int .u16 0, .int .i16 0] 223 (0, 0))).drew.cell? ⟨gc, 1026, none⟩ = some (.int .i64 0) := by
      rw [cell_of_block b4]; exact Array.getElem?_setIfInBounds_self_of_lt (by rw [Array.size_setIfInBounds, Array.size_setIfInBounds, Array.size_setIfInBounds, csz]; decide)
    have T4 : Td ((w3.setCell ⟨gc, 1026, none⟩ (.int .i64 0)).alloc (.cells #[.int .u16 0, .int .i16 0] 223 (0, 0))).drew gO gn 1 o' c' t (ws.take t) := T3.fr fr4 HCC.out.ne4 HCC.out.ne2 (fun b off hb => (HCC.out.hoa b off hb).elim Or.inl (fun h => Or.inr h.2))
    have A4 : ((w3.setCell ⟨gc, 1026, none⟩ (.int .i64 0)).alloc (.cells #[.int .u16 0, .int .i16 0] 223 (0, 0))).drew.heap[ga]? = some (.cells M16 49 (0, 0)) := (fr4.block ga (Array.getElem?_eq_some_iff.1 A3).1 HCC.out.ne1).trans A3
    have B4 : Below w.heap.size w ((w3.setCell ⟨gc, 1026, none⟩ (.int .i64 0)).alloc (.cells #[.int .u16 0, .int .i16 0] 223 (0, 0))).drew := B3.trans (fr4.below (n := w.heap.size) (fun k hk => by rw [hk]; exact HCC.out.gcN) B3.size)
    have PL : Hid (Calls Faig.prog 124 #[.pointer (some ⟨gc, 0, none⟩), .int .u16 0, .pointer (some ⟨gn, 0, none⟩)] ((w3.setCell ⟨gc, 1026, none⟩ (.int .i64 0)).alloc (.cells #[.int .u16 0, .int .i16 0] 223 (0, 0))).drew fun e w' => e = .returned (.tuple #[]) ∧ CanEnd w w' gc t (ws.take t)) := by
      refine (place_str _ gc ga 16 gn t c' o' (ws.take t) _ b4 q1 HCC.out.ne1 (by decide) (own16 A4) T4.n0 T4.n2 T4.n3 T4.row (by omega) HCC.out.ne2 HCC.out.ne3 T4.ln (fun b off hb => (HCC.out.hoa b off hb).elim Or.inl (fun h => Or.inr h.1))).mono ?_
      rintro e w' ⟨rfl, g', cap', s1, s2, s3, s4, s5⟩
      refine ⟨rfl, g', cap', s1, (s2 1026 (by decide)).trans qn, B4.trans (s4.below (n := w.heap.size) (fun k hk => by rcases hk with hk | hk <;> rw [hk]; exact HCC.out.gcN; exact HCC.out.gaN) B4.size), s3, ?_⟩
      rcases s5 with s5 | s5
      · rw [s5]; exact HCC.out.gaN
      · exact Nat.le_trans B4.size s5
    clear hw3 ob b3 b3' F3 T3 A3 B3 fr4 b4 q1 qn T4 A4 B4 csz HCC PC c0 c1 lc t1
    go_wp2_with fail
    go_loopw [5] (fun _ W => W = w3 ∨ CanEnd w W gc t (ws.take t)) (fun _ W => nOf W gc)
    case atStart => exact Or.inl rfl
    case round =>
      rcases hrel with rfl | hE
      · go_wp2_with fail
        refine region_tail 10 (by kernel_rfl) (by kernel_rfl) ?_
        simp only [List.take_succ_cons, List.take_zero, List.drop_succ_cons, List.drop_zero]
        repeat still_step
        refine wpStill_nil ?_
        go_wp2_with fail
        refine PL.out.mono ?_
        rintro e w5 ⟨rfl, E5⟩
        have HE : Hid (CanEnd w w5 gc t (ws.take t)) := E5
        clear E5
        go_wp2_with fail
        go_roundw
        case rel => exact Or.inr HE.out
        case measure => obtain ⟨g5, k5, z1, z2, -⟩ := HE.out; unfold nOf; rw [z2, pn]; decide
      · obtain ⟨g5, k5, z1, z2, z3, z4, z5⟩ := hE
        have HP : Hid (CanonP w wr (.returned (.tuple #[.slice (some ⟨g5, 0, none⟩) (1 + t) k5, .bool true])) t (ws.take t)) := ⟨g5, k5, rfl, z3, z4, z5⟩
        clear z3 z4 z5
        go_wp2_with fail
        refine bodyPost_ret (v := .tuple #[.slice (some ⟨g5, 0, none⟩) (1 + t) k5, .bool true]) (by simp [results, Faig.results80, go_sem]) rfl ?_
        have hp := HP.out
        rw [← HT.out] at hp
        rw [← HT.out]
        exact hp
end Go.Proofs.Ygcfai

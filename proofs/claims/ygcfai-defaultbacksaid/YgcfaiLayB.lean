/-
  DefaultBack: law.typesOf.
-/
import Derived.Test.YgcfaiDefA
import Derived.Test.YgcfaiVec
import Derived.LoopTactic
namespace Go.Proofs.Ygcfai
open Go.RowKit Go.Joins Plain
set_option linter.unusedVariables false
set_option linter.unusedSimpArgs false
theorem info155 : (Faig.prog.info? 155).map (fun i => (i.zero, i.size, i.bytes)) = some (some (.agg #[.int .u8 0, .int .u8 0, .int .u8 0, .int .u8 0]), 4, 4) := by kernel_rfl

/-- A slice of bytes that came in. -/
def KRow (w : World) (a : Option Addr) (len : Nat) (ks : List Int) : Prop :=
  ks.length = len ∧ (∀ i, U8 (ks.getD i 0)) ∧ len ≤ maxLen ∧ (len = 0 ∨ ∃ b off, a = some ⟨b, off, none⟩ ∧ b < w.heap.size ∧ ∀ i, i < len → w.cell? ⟨b, off + i, none⟩ = some (.int .u8 (ks.getD i 0)))
/-- The kinds of the types at block g. -/
structure TS (w : World) (g n : Nat) (f : Nat → Int) : Prop where
  lt : g < w.heap.size
  kind : ∀ i, i < n → w.cell? ⟨g, i * 4, none⟩ = some (.int .u8 (f i))
  elem : ∀ i, i < n → w.cell? ⟨g, i * 4 + 1, none⟩ = some (.int .u8 0)
  ref : ∀ i, i < n → w.cell? ⟨g, i * 4 + 2, none⟩ = some (.int .u8 0)
  nest : ∀ i, i < n → w.cell? ⟨g, i * 4 + 3, none⟩ = some (.int .u8 0)
  free : ∀ i, w.frozen? ⟨g, i, none⟩ = false
theorem TS.below {w w' : World} {g n : Nat} {f : Nat → Int} (h : TS w g n f) (hb : Below w.heap.size w w') : TS w' g n f := by
  have key : ∀ i v, w.cell? ⟨g, i, none⟩ = some v → w'.cell? ⟨g, i, none⟩ = some v := fun i v hv => by rw [hb.cell (p := ⟨g, i, none⟩) h.lt]; exact hv
  exact ⟨Nat.lt_of_lt_of_le h.lt hb.size, fun i hi => key _ _ (h.kind i hi), fun i hi => key _ _ (h.elem i hi), fun i hi => key _ _ (h.ref i hi), fun i hi => key _ _ (h.nest i hi), fun i => by rw [hb.frozen (p := ⟨g, i, none⟩) h.lt]; exact h.free i⟩
theorem TS.same {w : World} {g n : Nat} {f f' : Nat → Int} (h : TS w g n f) (hf : ∀ i, i < n → f' i = f i) : TS w g n f' :=
  ⟨h.lt, fun i hi => by rw [hf i hi]; exact h.kind i hi, h.elem, h.ref, h.nest, h.free⟩
theorem TS.set {w : World} {g n : Nat} {f : Nat → Int} (h : TS w g n f) (k : Nat) (v : Int) (hk : k < n) : TS (w.setCell ⟨g, k * 4, none⟩ (.int .u8 v)) g n (fun i => if i = k then v else f i) := by
  have oth : ∀ i u, i ≠ k * 4 → w.cell? ⟨g, i, none⟩ = some u → (w.setCell ⟨g, k * 4, none⟩ (.int .u8 v)).cell? ⟨g, i, none⟩ = some u := fun i u hi hu => by
    rw [World.cell?_setCell_other _ _ _ _ (by simp <;> omega)]; exact hu
  refine ⟨by simpa [World.setCell] using h.lt, fun i hi => ?_, fun i hi => oth _ _ (by omega) (h.elem i hi), fun i hi => oth _ _ (by omega) (h.ref i hi), fun i hi => oth _ _ (by omega) (h.nest i hi), fun i => by rw [World.frozen?_setCell]; exact h.free i⟩
  by_cases e : i = k
  · subst e; simp only [if_true]; exact World.cell?_setCell_same _ _ _ (h.kind i hi)
  · simp only [if_neg e]; exact oth _ _ (by omega) (h.kind i hi)
theorem TS.made {w : World} {g n : Nat} (h : w.ownsRow 0 155 4 (.slice (some ⟨g, 0, none⟩) n n) n (madeCells (Value.agg #[.int .u8 0, .int .u8 0, .int .u8 0, .int .u8 0]).cells (n * 4)).toList) : TS w g n (fun _ => 0) := by
  rcases h.2 with ⟨h0, -⟩ | ⟨g', cap, cur, e, -, hh, q1, q2, q3, q4⟩
  · cases h0
  have e' : g = g' := by injection e with h1; injection h1 with h1; injection h1 with h1
  subst e'
  have ec : n = cap := by injection e
  subst ec
  have cell : ∀ i, i < n * 4 → w.cell? ⟨g, i, none⟩ = some (.int .u8 0) := by
    intro i hi
    rw [cell_of_block hh]
    have : cur.toList[i]? = (madeCells (Value.agg #[.int .u8 0, .int .u8 0, .int .u8 0, .int .u8 0]).cells (n * 4)).toList[i]? := by
      rw [← q4, List.getElem?_take]; simp [hi]
    rw [Array.getElem?_toList] at this
    rw [this]
    have hs : (Value.agg #[.int .u8 0, .int .u8 0, .int .u8 0, .int .u8 0]).cells.size = 4 := rfl
    simp only [madeCells, Array.toList_map, List.getElem?_map, Array.toList_range, List.getElem?_range hi, Option.map_some, hs]
    have h4 : i % 4 = 0 ∨ i % 4 = 1 ∨ i % 4 = 2 ∨ i % 4 = 3 := by omega
    rcases h4 with h4 | h4 | h4 | h4 <;> rw [h4] <;> rfl
  exact ⟨(Array.getElem?_eq_some_iff.1 hh).1, fun i hi => cell _ (by omega), fun i hi => cell _ (by omega), fun i hi => cell _ (by omega), fun i hi => cell _ (by omega), fun i => unfrozen_of_block hh i⟩
def TypesPost (w w' : World) (e : Ending) (len : Nat) (ks : List Int) : Prop :=
  ∃ g, e = .returned (.slice (some ⟨g, 0, none⟩) (min len 17) (min len 17)) ∧ w.heap.size ≤ g ∧ TS w' g (min len 17) (fun i => ks.getD i 0 % 11) ∧ Below w.heap.size w w'

theorem KRow.at {w : World} {a : Option Addr} {len : Nat} {l : List Int} (h : KRow w a len l) (i : Nat) (hi : i < len) : ∃ b off, a = some ⟨b, off, none⟩ ∧ b < w.heap.size ∧ w.cell? ⟨b, off + i, none⟩ = some (.int .u8 (l.getD i 0)) ∧ U8 (l.getD i 0) := by
  obtain ⟨h1, h2, h3, h4⟩ := h
  rcases h4 with h4 | ⟨b, off, ha, hlt, hc⟩
  · omega
  · exact ⟨b, off, ha, hlt, hc i hi, h2 i⟩

set_option maxRecDepth 100000 in
set_option maxHeartbeats 1000000 in
theorem typesOf_any (w : World) (a : Option Addr) (len cap : Nat) (ks : List Int) (hr : KRow w a len ks) (hc : len ≤ cap) :
    Calls Faig.prog 27 #[.slice a len cap, .int .u8 11] w fun e w' => TypesPost w w' e len ks := by
  obtain ⟨i155, hi, hz0, hz1, hz2⟩ := info_parts info155
  have hm := hr.2.2.1
  have b3 : min len 17 ≤ maxLen := by unfold maxLen; omega
  have b4 : i155.bytes * (min len 17) ≤ 281474976710656 := by rw [hz2]; omega
  unfold maxLen at hm
  by_cases h17 : len ≤ 17
  · have emin : min (len : Int) 17 = (len : Int) := by omega
    have emin' : min len 17 = len := by omega
    rw [emin'] at b3 b4
    go_enter Faig.func27, Faig.ntmps27
    go_wp2_with (first | (at_make; refine wpList_make_full _ rfl _ _ 66 rfl 0 155 i155 _ 4 Faig.underlying66 hi hz0 hz1 .i64 .i64 len len len rfl rfl (by omega) (by omega) b4 b3 (Nat.zero_le _) ?_; intro w0 r1 r2) | fail)
    have T0 := TS.made r1
    have B0 : Below w.heap.size w w0 := (Below.refl _ w).grown r2 (Nat.le_refl _) (fun k hk => by cases hk)
    clear r1 r2
    go_loopw [18, 6, 7] (fun i _ _ W => ∃ k : Nat, i = .int .i64 k ∧ k ≤ len ∧ TS W w.heap.size len (fun i => if i < k then ks.getD i 0 % 11 else 0) ∧ Below w.heap.size w W) (fun i _ _ _ => len - (intOf i).toNat)
    case atStart => exact ⟨0, by go_num, Nat.zero_le _, T0.same (fun i hi => by simp), B0⟩
    case round =>
      obtain ⟨k, rfl, hk, T1, B1⟩ := hrel
      by_cases hlt : k < len
      · have ht : decide ((k : Int) < (len : Int)) = true := by simp; omega
        obtain ⟨b, off, rfl, hbl, hcell, hU⟩ := hr.at k hlt
        have hcell1 : wr.cell? ⟨b, off + k, none⟩ = some (.int .u8 (ks.getD k 0)) := by rw [B1.cell (p := ⟨b, off + k, none⟩) hbl]; exact hcell
        have hkind := T1.kind k hlt
        simp only [Nat.lt_irrefl, if_false] at hkind
        have hfz := T1.free (k * 4)
        have hset := T1.set k (ks.getD k 0 % 11) hlt
        have T2 : TS _ w.heap.size len (fun i => if i < k + 1 then ks.getD i 0 % 11 else 0) := hset.same (fun i hi => by
          by_cases e : i = k
          · subst e; simp
          · simp only [if_neg e]
            by_cases e2 : i < k
            · simp [e2, show i < k + 1 by omega]
            · simp [e2, show ¬ i < k + 1 by omega])
        have B2 := B1.setCell (p := ⟨w.heap.size, k * 4, none⟩) (Nat.le_refl _) (.int .u8 (ks.getD k 0 % 11))
        have H2 : Hid (TS _ w.heap.size len (fun i => if i < k + 1 then ks.getD i 0 % 11 else 0)) := T2
        have HB2 : Hid (Below w.heap.size w (wr.setCell ⟨w.heap.size, k * 4, none⟩ (.int .u8 (ks.getD k 0 % 11)))) := B2
        clear hcell hset T2 B2 T1 B1 T0 B0
        obtain ⟨u0, u1⟩ := hU
        have htm : (ks.getD k 0).tmod 11 = ks.getD k 0 % 11 := Int.tmod_eq_emod_of_nonneg u0
        have hw8 : IntKind.u8.wrap (ks.getD k 0 % 11) = ks.getD k 0 % 11 := wrapU8_in _ (by omega) (by omega)
        generalize hx : ks.getD k 0 = x at *
        go_wp2_with fail
        go_roundw
        case rel => exact ⟨k + 1, by go_num, by omega, H2.out, HB2.out⟩
        case measure => simp [intOf]; omega
      · have ht : decide ((k : Int) < (len : Int)) = false := by simp; omega
        have ek : k = len := by omega
        subst ek
        have T2 : TS wr w.heap.size k (fun i => ks.getD i 0 % 11) := T1.same (fun i hi => by simp [hi])
        clear T1 T0 B0
        go_wp2_with fail
        go_ret
        exact ⟨w.heap.size, by rw [emin']; rfl, Nat.le_refl _, by rw [emin']; exact T2, B1⟩
  · have emin : min (len : Int) 17 = 17 := by omega
    have emin' : min len 17 = 17 := by omega
    rw [emin'] at b3 b4
    go_enter Faig.func27, Faig.ntmps27
    go_wp2_with (first | (at_make; refine wpList_make_full _ rfl _ _ 66 rfl 0 155 i155 _ 4 Faig.underlying66 hi hz0 hz1 .i64 .i64 17 17 17 rfl rfl rfl rfl b4 b3 (Nat.zero_le _) ?_; intro w0 r1 r2) | fail)
    have T0 := TS.made r1
    have B0 : Below w.heap.size w w0 := (Below.refl _ w).grown r2 (Nat.le_refl _) (fun k hk => by cases hk)
    clear r1 r2
    go_loopw [18, 6, 7] (fun i _ _ W => ∃ k : Nat, i = .int .i64 k ∧ k ≤ 17 ∧ TS W w.heap.size 17 (fun i => if i < k then ks.getD i 0 % 11 else 0) ∧ Below w.heap.size w W) (fun i _ _ _ => 17 - (intOf i).toNat)
    case atStart => exact ⟨0, by go_num, Nat.zero_le _, T0.same (fun i hi => by simp), B0⟩
    case round =>
      obtain ⟨k, rfl, hk, T1, B1⟩ := hrel
      by_cases hlt : k < 17
      · have ht : decide ((k : Int) < 17) = true := by simp; omega
        obtain ⟨b, off, rfl, hbl, hcell, hU⟩ := hr.at k (by omega)
        have hcell1 : wr.cell? ⟨b, off + k, none⟩ = some (.int .u8 (ks.getD k 0)) := by rw [B1.cell (p := ⟨b, off + k, none⟩) hbl]; exact hcell
        have hkind := T1.kind k hlt
        simp only [Nat.lt_irrefl, if_false] at hkind
        have hfz := T1.free (k * 4)
        have hset := T1.set k (ks.getD k 0 % 11) hlt
        have T2 : TS _ w.heap.size 17 (fun i => if i < k + 1 then ks.getD i 0 % 11 else 0) := hset.same (fun i hi => by
          by_cases e : i = k
          · subst e; simp
          · simp only [if_neg e]
            by_cases e2 : i < k
            · simp [e2, show i < k + 1 by omega]
            · simp [e2, show ¬ i < k + 1 by omega])
        have B2 := B1.setCell (p := ⟨w.heap.size, k * 4, none⟩) (Nat.le_refl _) (.int .u8 (ks.getD k 0 % 11))
        have H2 : Hid (TS _ w.heap.size 17 (fun i => if i < k + 1 then ks.getD i 0 % 11 else 0)) := T2
        have HB2 : Hid (Below w.heap.size w (wr.setCell ⟨w.heap.size, k * 4, none⟩ (.int .u8 (ks.getD k 0 % 11)))) := B2
        clear hcell hset T2 B2 T1 B1 T0 B0
        obtain ⟨u0, u1⟩ := hU
        have htm : (ks.getD k 0).tmod 11 = ks.getD k 0 % 11 := Int.tmod_eq_emod_of_nonneg u0
        have hw8 : IntKind.u8.wrap (ks.getD k 0 % 11) = ks.getD k 0 % 11 := wrapU8_in _ (by omega) (by omega)
        generalize hx : ks.getD k 0 = x at *
        go_wp2_with fail
        go_roundw
        case rel => exact ⟨k + 1, by go_num, by omega, H2.out, HB2.out⟩
        case measure => simp [intOf]; omega
      · have ht : decide ((k : Int) < 17) = false := by simp; omega
        have ek : k = 17 := by omega
        subst ek
        have T2 : TS wr w.heap.size 17 (fun i => ks.getD i 0 % 11) := T1.same (fun i hi => by simp [hi])
        clear T1 T0 B0
        go_wp2_with fail
        go_ret
        exact ⟨w.heap.size, by rw [emin']; rfl, Nat.le_refl _, by rw [emin']; exact T2, B1⟩
end Go.Proofs.Ygcfai

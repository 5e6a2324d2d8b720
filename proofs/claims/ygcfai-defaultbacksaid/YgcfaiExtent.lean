import Derived.Test.YgcfaiWords
import Derived.Test.YgcfaiAid2
import Derived.Deep.RegionHeld3
namespace Go.Proofs.Ygcfai
open Go.RowKit Plain

theorem first_any (k t d p c n : Int) (ht : U16 t) (w : World) :
    Calls Faig.prog 48 #[.agg #[.int .u8 k, .int .u16 t, .int .u8 d, .int .u8 p, .int .u8 c, .int .u16 n]] w fun e w' => e = .returned (.int .i64 (if k = 2 ∧ c = 7 then t - 1 else t)) ∧ Below w.heap.size w w' := by
  obtain ⟨t0, t1⟩ := ht
  by_cases h : k = 2
  · subst h
    by_cases h7 : c = 7
    · subst h7
      rw [if_pos ⟨rfl, rfl⟩]
      go_enter Faig.func48, Faig.ntmps48
      go_wp2
      go_ret
      exact ⟨rfl, (Below.refl _ _).alloc (Nat.le_refl _) _⟩
    · rw [if_neg (by omega)]
      have b7 : (c == 7) = false := by simp [h7]
      go_enter Faig.func48, Faig.ntmps48
      go_wp2
      go_ret
      exact ⟨rfl, (Below.refl _ _).alloc (Nat.le_refl _) _⟩
  · rw [if_neg (by omega)]
    have b7 : (k == 2) = false := by simp [h]
    go_enter Faig.func48, Faig.ntmps48
    go_wp2
    go_ret
    exact ⟨rfl, (Below.refl _ _).alloc (Nat.le_refl _) _⟩

/-- wire.Padded, plain. -/
def pad (l : List Int) (k t c n : Int) : Bool :=
  if k = 2 ∧ n * width c % 8 ≠ 0 then decide (t + n * width c / 8 < l.length) && (l.getD (t + n * width c / 8).toNat 0 / 2 ^ (n * width c % 8 * 8).toNat == 0) else true

set_option maxHeartbeats 1000000 in
theorem padded_any (a : Option Addr) (len cap : Nat) (l : List Int) (k t d p c n : Int) (w : World) (hr : Row w a len l) (ht : U16 t) (hc : U8 c) (hn : U16 n) :
    Calls Faig.prog 49 #[.slice a len cap, .agg #[.int .u8 k, .int .u16 t, .int .u8 d, .int .u8 p, .int .u8 c, .int .u16 n]] w fun e w' => e = .returned (.bool (pad l k t c n)) ∧ Below w.heap.size w w' := by
  have hcU := hc
  obtain ⟨t0, t1⟩ := ht; obtain ⟨n0, n1⟩ := hn
  obtain ⟨hl, hv, hm, hrow⟩ := hr
  unfold maxLen at hm
  by_cases h : k = 2
  · subst h
    obtain ⟨wb0, wb1⟩ := width_bd c
    obtain ⟨mb0, mb1⟩ := mul_bd n0 n1 wb0 wb1
    by_cases hb : n * width c % 8 = 0
    · have e : pad l 2 t c n = true := by unfold pad; rw [if_neg (by omega)]
      rw [e]
      have b0 : (n * width c % 8 == 0) = true := by simp [hb]
      go_enter Faig.func49, Faig.ntmps49
      go_wp2
      go_quiet ((go_at_call 86; exact Calls.quiet_of_same (width_any _ hcU _)))
      go_wp2
      go_ret
      exact ⟨rfl, below_drewN ((Below.refl _ _).alloc (Nat.le_refl _) _) _⟩
    · have e : pad l 2 t c n = (decide (t + n * width c / 8 < l.length) && (l.getD (t + n * width c / 8).toNat 0 / 2 ^ (n * width c % 8 * 8).toNat == 0)) := by unfold pad; rw [if_pos ⟨rfl, hb⟩]
      have b0 : (n * width c % 8 == 0) = false := by simp [hb]
      by_cases hat : t + n * width c / 8 < len
      · have hx : ∃ b off, a = some ⟨b, off, none⟩ ∧ w.cell? ⟨b, off + (t + n * width c / 8).toNat, none⟩ = some (.int .u64 (l.getD (t + n * width c / 8).toNat 0)) ∧ b < w.heap.size := by
          rcases hrow with h0 | ⟨b, off, rfl, hlt, hcell⟩
          · omega
          · exact ⟨b, off, rfl, hcell _ (by omega), hlt⟩
        obtain ⟨b, off, rfl, hcell, hlt⟩ := hx
        have e2 : pad l 2 t c n = (l.getD (t + n * width c / 8).toNat 0 / 2 ^ (n * width c % 8 * 8).toNat == 0) := by rw [e, hl]; simp [hat]
        rw [e2]
        clear e e2 hrow hv hl hb
        revert hcell
        generalize l.getD (t + n * width c / 8).toNat 0 = v
        intro hcell
        go_enter Faig.func49, Faig.ntmps49
        go_wp2
        go_quiet ((go_at_call 86; exact Calls.quiet_of_same (width_any _ hcU _)))
        go_wp2
        go_ret
        exact ⟨rfl, below_drewN ((Below.refl _ _).alloc (Nat.le_refl _) _) _⟩
      · have e2 : pad l 2 t c n = false := by rw [e, hl]; simp [hat]
        rw [e2]
        clear e e2 hrow hv hl hb
        go_enter Faig.func49, Faig.ntmps49
        go_wp2
        go_quiet ((go_at_call 86; exact Calls.quiet_of_same (width_any _ hcU _)))
        go_wp2
        go_ret
        exact ⟨rfl, below_drewN ((Below.refl _ _).alloc (Nat.le_refl _) _) _⟩
  · have e : pad l k t c n = true := by unfold pad; rw [if_neg (by omega)]
    rw [e]
    have b7 : (k != 2) = true := by simp [h]
    go_enter Faig.func49, Faig.ntmps49
    go_wp2
    go_ret
    exact ⟨rfl, (Below.refl _ _).alloc (Nat.le_refl _) _⟩

/-- What a region reads of a boxed wire.Ptr: the six cells, and that nothing old has turned. -/
theorem six_mono {B b : Nat} {W w1 w2 : World} {v0 v1 v2 v3 v4 v5 : Value}
    (h : Below B W w1 ∧ B ≤ b ∧ b < w1.heap.size ∧ w1.cell? ⟨b, 0, none⟩ = some v0 ∧ w1.cell? ⟨b, 1, none⟩ = some v1 ∧ w1.cell? ⟨b, 2, none⟩ = some v2 ∧ w1.cell? ⟨b, 3, none⟩ = some v3 ∧ w1.cell? ⟨b, 4, none⟩ = some v4 ∧ w1.cell? ⟨b, 5, none⟩ = some v5)
    (hb : Below w1.heap.size w1 w2) :
    Below B W w2 ∧ B ≤ b ∧ b < w2.heap.size ∧ w2.cell? ⟨b, 0, none⟩ = some v0 ∧ w2.cell? ⟨b, 1, none⟩ = some v1 ∧ w2.cell? ⟨b, 2, none⟩ = some v2 ∧ w2.cell? ⟨b, 3, none⟩ = some v3 ∧ w2.cell? ⟨b, 4, none⟩ = some v4 ∧ w2.cell? ⟨b, 5, none⟩ = some v5 := by
  obtain ⟨h1, h2, h3, c0, c1, c2, c3, c4, c5⟩ := h
  have hz := hb.size
  refine ⟨h1.trans (hb.mono (by omega)), h2, by omega, ?_, ?_, ?_, ?_, ?_, ?_⟩
  · rw [hb.cell (p := ⟨b, 0, none⟩) h3]; exact c0
  · rw [hb.cell (p := ⟨b, 1, none⟩) h3]; exact c1
  · rw [hb.cell (p := ⟨b, 2, none⟩) h3]; exact c2
  · rw [hb.cell (p := ⟨b, 3, none⟩) h3]; exact c3
  · rw [hb.cell (p := ⟨b, 4, none⟩) h3]; exact c4
  · rw [hb.cell (p := ⟨b, 5, none⟩) h3]; exact c5
theorem six_start {w : World} {v0 v1 v2 v3 v4 v5 : Value} {t : TypeId} :
    Below w.heap.size w (w.alloc (.cells #[v0, v1, v2, v3, v4, v5] t)).drew ∧ w.heap.size ≤ w.heap.size ∧ w.heap.size < (w.alloc (.cells #[v0, v1, v2, v3, v4, v5] t)).drew.heap.size ∧ (w.alloc (.cells #[v0, v1, v2, v3, v4, v5] t)).drew.cell? ⟨w.heap.size, 0, none⟩ = some v0 ∧ (w.alloc (.cells #[v0, v1, v2, v3, v4, v5] t)).drew.cell? ⟨w.heap.size, 1, none⟩ = some v1 ∧ (w.alloc (.cells #[v0, v1, v2, v3, v4, v5] t)).drew.cell? ⟨w.heap.size, 2, none⟩ = some v2 ∧ (w.alloc (.cells #[v0, v1, v2, v3, v4, v5] t)).drew.cell? ⟨w.heap.size, 3, none⟩ = some v3 ∧ (w.alloc (.cells #[v0, v1, v2, v3, v4, v5] t)).drew.cell? ⟨w.heap.size, 4, none⟩ = some v4 ∧ (w.alloc (.cells #[v0, v1, v2, v3, v4, v5] t)).drew.cell? ⟨w.heap.size, 5, none⟩ = some v5 := by
  refine ⟨((Below.refl _ _).alloc (Nat.le_refl _) _).drew, Nat.le_refl _, ?_, ?_, ?_, ?_, ?_, ?_, ?_⟩ <;> simp [go_sem]

/-- wire.Extent's first result. -/
def ext1 (k t c : Int) : Int := if k = 2 ∧ c = 7 then (t - 1) % 65536 else t

set_option maxHeartbeats 1000000 in
theorem extent_any (k t d p c n : Int) (hk : U8 k) (ht : U16 t) (hd : U8 d) (hp : U8 p) (hc : U8 c) (hn : U16 n) (w : World) :
    Calls Faig.prog 46 #[.agg #[.int .u8 k, .int .u16 t, .int .u8 d, .int .u8 p, .int .u8 c, .int .u16 n]] w fun e w' => e = .returned (.tuple #[.int .u16 (ext1 k t c), .int .u16 (words k d p c n)]) ∧ Below w.heap.size w w' := by
  have ht' := ht
  obtain ⟨t0, t1⟩ := ht'
  by_cases h : k = 2 ∧ c = 7
  · obtain ⟨rfl, rfl⟩ := h
    go_enter Faig.func46, Faig.ntmps46
    go_wp2
    go_region_held3 (fun w' => Below w.heap.size w w' ∧ w.heap.size ≤ w.heap.size ∧ w.heap.size < w'.heap.size ∧ w'.cell? ⟨w.heap.size, 0, none⟩ = some (.int .u8 2) ∧ w'.cell? ⟨w.heap.size, 1, none⟩ = some (.int .u16 t) ∧ w'.cell? ⟨w.heap.size, 2, none⟩ = some (.int .u8 d) ∧ w'.cell? ⟨w.heap.size, 3, none⟩ = some (.int .u8 p) ∧ w'.cell? ⟨w.heap.size, 4, none⟩ = some (.int .u8 7) ∧ w'.cell? ⟨w.heap.size, 5, none⟩ = some (.int .u16 n))
      (first | exact six_start | exact six_mono (by assumption) (by assumption))
      (first
        | (go_at_call 47; refine (words_any 2 t d p 7 n hk ht hd hp hc hn _).mono ?_; rintro e w1 ⟨rfl, hb1⟩))
    go_wp2
    go_ret2
    exact ⟨by simp [ext1, wrapU16], by rename_i hh; exact hh.1⟩
  · have e1 : ext1 k t c = t := by unfold ext1; rw [if_neg h]
    rw [e1]
    by_cases h2 : k = 2
    · have b7 : (c == 7) = false := by simp; omega
      subst h2
      clear h e1
      go_enter Faig.func46, Faig.ntmps46
      go_wp2
      go_region_held3 (fun w' => Below w.heap.size w w' ∧ w.heap.size ≤ w.heap.size ∧ w.heap.size < w'.heap.size ∧ w'.cell? ⟨w.heap.size, 0, none⟩ = some (.int .u8 2) ∧ w'.cell? ⟨w.heap.size, 1, none⟩ = some (.int .u16 t) ∧ w'.cell? ⟨w.heap.size, 2, none⟩ = some (.int .u8 d) ∧ w'.cell? ⟨w.heap.size, 3, none⟩ = some (.int .u8 p) ∧ w'.cell? ⟨w.heap.size, 4, none⟩ = some (.int .u8 c) ∧ w'.cell? ⟨w.heap.size, 5, none⟩ = some (.int .u16 n))
        (first | exact six_start | exact six_mono (by assumption) (by assumption))
        (first
          | (go_at_call 47; refine (words_any 2 t d p c n hk ht hd hp hc hn _).mono ?_; rintro e w1 ⟨rfl, hb1⟩))
      go_wp2
      go_ret2
      exact ⟨rfl, by rename_i hh; exact hh.1⟩
    · have b7 : (k == 2) = false := by simp; omega
      clear h e1
      go_enter Faig.func46, Faig.ntmps46
      go_wp2
      go_region_held3 (fun w' => Below w.heap.size w w' ∧ w.heap.size ≤ w.heap.size ∧ w.heap.size < w'.heap.size ∧ w'.cell? ⟨w.heap.size, 0, none⟩ = some (.int .u8 k) ∧ w'.cell? ⟨w.heap.size, 1, none⟩ = some (.int .u16 t) ∧ w'.cell? ⟨w.heap.size, 2, none⟩ = some (.int .u8 d) ∧ w'.cell? ⟨w.heap.size, 3, none⟩ = some (.int .u8 p) ∧ w'.cell? ⟨w.heap.size, 4, none⟩ = some (.int .u8 c) ∧ w'.cell? ⟨w.heap.size, 5, none⟩ = some (.int .u16 n))
        (first | exact six_start | exact six_mono (by assumption) (by assumption))
        (first
          | (go_at_call 47; refine (words_any k t d p c n hk ht hd hp hc hn _).mono ?_; rintro e w1 ⟨rfl, hb1⟩))
      go_wp2
      go_ret2
      exact ⟨rfl, by rename_i hh; exact hh.1⟩
end Go.Proofs.Ygcfai

import Derived.Test.YgcfaiExtent
import Derived.Test.YgcfaiPadPlain
import Derived.LoopTactic
namespace Go.Proofs.Ygcfai.extentRight
open Go.RowKit Plain

def fw1 (k t c : Int) : Int := if k = 2 ∧ c = 7 then t - 1 else t
theorem first_named (k t d p c n : Int) (ht : U16 t) (w : World) :
    Calls Faig.prog 48 #[.agg #[.int .u8 k, .int .u16 t, .int .u8 d, .int .u8 p, .int .u8 c, .int .u16 n]] w fun e w' => e = .returned (.int .i64 (fw1 k t c)) ∧ Below w.heap.size w w' := first_any k t d p c n ht w
theorem same16 (k t c : Int) (ht : U16 t) : (IntKind.i16.wrap (ext1 k t c) != IntKind.i16.wrap (fw1 k t c)) = false := by
  obtain ⟨t0, t1⟩ := ht
  have : IntKind.i16.wrap (ext1 k t c) = IntKind.i16.wrap (fw1 k t c) := by
    unfold ext1 fw1
    split
    · rw [wrapI16, wrapI16]; omega
    · rfl
  simp [this]
theorem six_start0 {w : World} {v0 v1 v2 v3 v4 v5 : Value} {t : TypeId} :
    Below w.heap.size w (w.alloc (.cells #[v0, v1, v2, v3, v4, v5] t)) ∧ w.heap.size ≤ w.heap.size ∧ w.heap.size < (w.alloc (.cells #[v0, v1, v2, v3, v4, v5] t)).heap.size ∧ (w.alloc (.cells #[v0, v1, v2, v3, v4, v5] t)).cell? ⟨w.heap.size, 0, none⟩ = some v0 ∧ (w.alloc (.cells #[v0, v1, v2, v3, v4, v5] t)).cell? ⟨w.heap.size, 1, none⟩ = some v1 ∧ (w.alloc (.cells #[v0, v1, v2, v3, v4, v5] t)).cell? ⟨w.heap.size, 2, none⟩ = some v2 ∧ (w.alloc (.cells #[v0, v1, v2, v3, v4, v5] t)).cell? ⟨w.heap.size, 3, none⟩ = some v3 ∧ (w.alloc (.cells #[v0, v1, v2, v3, v4, v5] t)).cell? ⟨w.heap.size, 4, none⟩ = some v4 ∧ (w.alloc (.cells #[v0, v1, v2, v3, v4, v5] t)).cell? ⟨w.heap.size, 5, none⟩ = some v5 := by
  refine ⟨((Below.refl _ _).alloc (Nat.le_refl _) _), Nat.le_refl _, ?_, ?_, ?_, ?_, ?_, ?_, ?_⟩ <;> simp [go_sem]


/-- The loop's end: what the law has found is what Padded answers. -/
theorem end_pad (L : List Int) (t c n B : Int) (j : Nat) (hL : ∀ i, U64 (L.getD i 0)) (hB : n * width c = B) (h8 : B % 8 + j ≤ 8) (h0 : B % 8 = 0 → j = 0) (he : (B + j) % 8 = 0) :
    okj (decide (t + B / 8 < L.length)) (L.getD (t + B / 8).toNat 0) (B % 8).toNat j = pad L 2 t c n := by
  unfold pad
  rw [hB]
  by_cases hb : B % 8 = 0
  · rw [h0 hb, okj_zero, if_neg (by omega)]
  · rw [if_pos ⟨rfl, hb⟩]
    obtain ⟨X, hX⟩ := Int.eq_ofNat_of_zero_le (hL (t + B / 8).toNat).1
    have hlt := (hL (t + B / 8).toNat).2
    rw [hX] at hlt ⊢
    rw [okj_end _ X (B % 8).toNat j (by omega) (by omega) (by omega), show (B % 8 * 8).toNat = (B % 8).toNat * 8 by omega]
/-- One round, the word there and all bytes so far zero. -/
theorem one_round (x B : Int) (j : Nat) (hx : U64 x) (h8 : B % 8 + j ≤ 8) (he : ¬ (B + j) % 8 = 0) (h : okj true x (B % 8).toNat j = true) :
    (IntKind.u8.wrap (x / 2 ^ ((B + j) % 8 * 8).toNat) == 0) = okj true x (B % 8).toNat (j + 1) := by
  obtain ⟨X, hX⟩ := Int.eq_ofNat_of_zero_le hx.1
  rw [hX] at h ⊢
  rw [okj_step X (B % 8).toNat j h, wrapU8, show ((B + j) % 8 * 8).toNat = ((B % 8).toNat + j) * 8 by omega]
theorem no_round (inn : Bool) (x B : Int) (j : Nat) (hx : U64 x) (h : okj inn x (B % 8).toNat j = false) : okj inn x (B % 8).toNat (j + 1) = false := by
  obtain ⟨X, hX⟩ := Int.eq_ofNat_of_zero_le hx.1
  rw [hX] at h ⊢
  exact okj_false inn X _ j h
theorem pad_true (L : List Int) (k t c n : Int) (h : ¬ (k = 2 ∧ 2 ≤ c ∧ c ≤ 5)) : pad L k t c n = true := by
  unfold pad
  rw [if_neg]
  rintro ⟨h1, h2⟩
  apply h2
  rw [show width c = 0 from by unfold width; repeat (first | rw [if_neg (by omega)])]
  simp


set_option maxHeartbeats 1000000 in
theorem walk_k (a : Option Addr) (len cap : Nat) (l : List Int) (k t d p c n : Int) (w : World) (hr : Row w a len l) (hcap : len ≤ cap) (hno : ¬ k = 2) (hkb : (k == 2) = false) (hk : U8 k) (ht : U16 t) (hd : U8 d) (hp : U8 p) (hc : U8 c) (hn : U16 n) :
    Calls Faig.prog 11 #[.slice a len cap, .agg #[.int .u8 k, .int .u16 t, .int .u8 d, .int .u8 p, .int .u8 c, .int .u16 n]] w fun e w' => e = .returned (.bool true) ∧ Below w.heap.size w w' := by
  have hm := hr.2.2.1
  unfold maxLen at hm
  have h16 := same16 k t c ht
  have hpt := fun L => pad_true L k t c n (by omega)
  by_cases h257 : len ≤ 257
  · have hrm := hr
    generalize l = L at hrm
    have hpL := hpt L
    clear hpt hr
    go_enter Faig.func11, Faig.ntmps11
    go_wp2_with fail
    refine (extent_any k t d p c n hk ht hd hp hc hn _).mono ?_
    rintro e w1 ⟨rfl, hb1⟩
    have s1 := six_mono six_start0 hb1
    have r1 := (hrm.alloc _).below hb1 (Nat.le_refl _)
    clear hb1
    have s1' := s1
    obtain ⟨B1, _, z1, c10, c11, c12, c13, c14, c15⟩ := s1'
    go_wp2_with fail
    refine (words_any k t d p c n hk ht hd hp hc hn _).mono ?_
    rintro e w2 ⟨rfl, hb2⟩
    have s2 := six_mono s1 hb2
    have r2 := r1.below hb2 (Nat.le_refl _)
    clear hb2 s1 B1 z1 c10 c11 c12 c13 c14 c15 r1
    have s2' := s2
    obtain ⟨B2, _, z2, c20, c21, c22, c23, c24, c25⟩ := s2'
    go_wp2_with fail
    refine (first_named k t d p c n ht _).mono ?_
    rintro e w3 ⟨rfl, hb3⟩
    have s3 := six_mono s2 hb3
    have r3 := r2.below hb3 (Nat.le_refl _)
    clear hb3 s2 B2 z2 c20 c21 c22 c23 c24 c25 r2
    have s3' := s3
    obtain ⟨B3, _, z3, c30, c31, c32, c33, c34, c35⟩ := s3'
    go_wp2_with fail
    refine (padded_any a len cap L k t d p c n _ r3 ht hc hn).mono ?_
    rintro e w4 ⟨rfl, hb4⟩
    have b4 := B3.trans (hb4.mono (by omega))
    clear hb4
    go_wp2_with fail
    go_ret
    exact ⟨ret_bool (by first | rfl | simp [hpL]), b4⟩
  · have hrm := hr.take 257 (by omega)
    generalize l.take 257 = L at hrm
    have hpL := hpt L
    clear hpt hr
    go_enter Faig.func11, Faig.ntmps11
    go_wp2_with fail
    refine (extent_any k t d p c n hk ht hd hp hc hn _).mono ?_
    rintro e w1 ⟨rfl, hb1⟩
    have s1 := six_mono six_start0 hb1
    have r1 := (hrm.alloc _).below hb1 (Nat.le_refl _)
    clear hb1
    have s1' := s1
    obtain ⟨B1, _, z1, c10, c11, c12, c13, c14, c15⟩ := s1'
    go_wp2_with fail
    refine (words_any k t d p c n hk ht hd hp hc hn _).mono ?_
    rintro e w2 ⟨rfl, hb2⟩
    have s2 := six_mono s1 hb2
    have r2 := r1.below hb2 (Nat.le_refl _)
    clear hb2 s1 B1 z1 c10 c11 c12 c13 c14 c15 r1
    have s2' := s2
    obtain ⟨B2, _, z2, c20, c21, c22, c23, c24, c25⟩ := s2'
    go_wp2_with fail
    refine (first_named k t d p c n ht _).mono ?_
    rintro e w3 ⟨rfl, hb3⟩
    have s3 := six_mono s2 hb3
    have r3 := r2.below hb3 (Nat.le_refl _)
    clear hb3 s2 B2 z2 c20 c21 c22 c23 c24 c25 r2
    have s3' := s3
    obtain ⟨B3, _, z3, c30, c31, c32, c33, c34, c35⟩ := s3'
    go_wp2_with fail
    refine (padded_any a 257 cap L k t d p c n _ r3 ht hc hn).mono ?_
    rintro e w4 ⟨rfl, hb4⟩
    have b4 := B3.trans (hb4.mono (by omega))
    clear hb4
    go_wp2_with fail
    go_ret
    exact ⟨ret_bool (by first | rfl | simp [hpL]), b4⟩

set_option maxHeartbeats 1000000 in
theorem walk_lo (a : Option Addr) (len cap : Nat) (l : List Int) (t d p c n : Int) (w : World) (hr : Row w a len l) (hcap : len ≤ cap) (hno : c < 2) (hk : U8 2) (ht : U16 t) (hd : U8 d) (hp : U8 p) (hc : U8 c) (hn : U16 n) :
    Calls Faig.prog 11 #[.slice a len cap, .agg #[.int .u8 2, .int .u16 t, .int .u8 d, .int .u8 p, .int .u8 c, .int .u16 n]] w fun e w' => e = .returned (.bool true) ∧ Below w.heap.size w w' := by
  have hm := hr.2.2.1
  unfold maxLen at hm
  have h16 := same16 2 t c ht
  have hpt := fun L => pad_true L 2 t c n (by omega)
  by_cases h257 : len ≤ 257
  · have hrm := hr
    generalize l = L at hrm
    have hpL := hpt L
    clear hpt hr
    go_enter Faig.func11, Faig.ntmps11
    go_wp2_with fail
    refine (extent_any 2 t d p c n hk ht hd hp hc hn _).mono ?_
    rintro e w1 ⟨rfl, hb1⟩
    have s1 := six_mono six_start0 hb1
    have r1 := (hrm.alloc _).below hb1 (Nat.le_refl _)
    clear hb1
    have s1' := s1
    obtain ⟨B1, _, z1, c10, c11, c12, c13, c14, c15⟩ := s1'
    go_wp2_with fail
    refine (words_any 2 t d p c n hk ht hd hp hc hn _).mono ?_
    rintro e w2 ⟨rfl, hb2⟩
    have s2 := six_mono s1 hb2
    have r2 := r1.below hb2 (Nat.le_refl _)
    clear hb2 s1 B1 z1 c10 c11 c12 c13 c14 c15 r1
    have s2' := s2
    obtain ⟨B2, _, z2, c20, c21, c22, c23, c24, c25⟩ := s2'
    go_wp2_with fail
    refine (first_named 2 t d p c n ht _).mono ?_
    rintro e w3 ⟨rfl, hb3⟩
    have s3 := six_mono s2 hb3
    have r3 := r2.below hb3 (Nat.le_refl _)
    clear hb3 s2 B2 z2 c20 c21 c22 c23 c24 c25 r2
    have s3' := s3
    obtain ⟨B3, _, z3, c30, c31, c32, c33, c34, c35⟩ := s3'
    go_wp2_with fail
    refine (padded_any a len cap L 2 t d p c n _ r3 ht hc hn).mono ?_
    rintro e w4 ⟨rfl, hb4⟩
    have b4 := B3.trans (hb4.mono (by omega))
    clear hb4
    go_wp2_with fail
    go_ret
    exact ⟨ret_bool (by first | rfl | simp [hpL]), b4⟩
  · have hrm := hr.take 257 (by omega)
    generalize l.take 257 = L at hrm
    have hpL := hpt L
    clear hpt hr
    go_enter Faig.func11, Faig.ntmps11
    go_wp2_with fail
    refine (extent_any 2 t d p c n hk ht hd hp hc hn _).mono ?_
    rintro e w1 ⟨rfl, hb1⟩
    have s1 := six_mono six_start0 hb1
    have r1 := (hrm.alloc _).below hb1 (Nat.le_refl _)
    clear hb1
    have s1' := s1
    obtain ⟨B1, _, z1, c10, c11, c12, c13, c14, c15⟩ := s1'
    go_wp2_with fail
    refine (words_any 2 t d p c n hk ht hd hp hc hn _).mono ?_
    rintro e w2 ⟨rfl, hb2⟩
    have s2 := six_mono s1 hb2
    have r2 := r1.below hb2 (Nat.le_refl _)
    clear hb2 s1 B1 z1 c10 c11 c12 c13 c14 c15 r1
    have s2' := s2
    obtain ⟨B2, _, z2, c20, c21, c22, c23, c24, c25⟩ := s2'
    go_wp2_with fail
    refine (first_named 2 t d p c n ht _).mono ?_
    rintro e w3 ⟨rfl, hb3⟩
    have s3 := six_mono s2 hb3
    have r3 := r2.below hb3 (Nat.le_refl _)
    clear hb3 s2 B2 z2 c20 c21 c22 c23 c24 c25 r2
    have s3' := s3
    obtain ⟨B3, _, z3, c30, c31, c32, c33, c34, c35⟩ := s3'
    go_wp2_with fail
    refine (padded_any a 257 cap L 2 t d p c n _ r3 ht hc hn).mono ?_
    rintro e w4 ⟨rfl, hb4⟩
    have b4 := B3.trans (hb4.mono (by omega))
    clear hb4
    go_wp2_with fail
    go_ret
    exact ⟨ret_bool (by first | rfl | simp [hpL]), b4⟩

set_option maxHeartbeats 1000000 in
theorem walk_hi (a : Option Addr) (len cap : Nat) (l : List Int) (t d p c n : Int) (w : World) (hr : Row w a len l) (hcap : len ≤ cap) (hno : 5 < c) (hk : U8 2) (ht : U16 t) (hd : U8 d) (hp : U8 p) (hc : U8 c) (hn : U16 n) :
    Calls Faig.prog 11 #[.slice a len cap, .agg #[.int .u8 2, .int .u16 t, .int .u8 d, .int .u8 p, .int .u8 c, .int .u16 n]] w fun e w' => e = .returned (.bool true) ∧ Below w.heap.size w w' := by
  have hm := hr.2.2.1
  unfold maxLen at hm
  have h16 := same16 2 t c ht
  have hpt := fun L => pad_true L 2 t c n (by omega)
  by_cases h257 : len ≤ 257
  · have hrm := hr
    generalize l = L at hrm
    have hpL := hpt L
    clear hpt hr
    go_enter Faig.func11, Faig.ntmps11
    go_wp2_with fail
    refine (extent_any 2 t d p c n hk ht hd hp hc hn _).mono ?_
    rintro e w1 ⟨rfl, hb1⟩
    have s1 := six_mono six_start0 hb1
    have r1 := (hrm.alloc _).below hb1 (Nat.le_refl _)
    clear hb1
    have s1' := s1
    obtain ⟨B1, _, z1, c10, c11, c12, c13, c14, c15⟩ := s1'
    go_wp2_with fail
    refine (words_any 2 t d p c n hk ht hd hp hc hn _).mono ?_
    rintro e w2 ⟨rfl, hb2⟩
    have s2 := six_mono s1 hb2
    have r2 := r1.below hb2 (Nat.le_refl _)
    clear hb2 s1 B1 z1 c10 c11 c12 c13 c14 c15 r1
    have s2' := s2
    obtain ⟨B2, _, z2, c20, c21, c22, c23, c24, c25⟩ := s2'
    go_wp2_with fail
    refine (first_named 2 t d p c n ht _).mono ?_
    rintro e w3 ⟨rfl, hb3⟩
    have s3 := six_mono s2 hb3
    have r3 := r2.below hb3 (Nat.le_refl _)
    clear hb3 s2 B2 z2 c20 c21 c22 c23 c24 c25 r2
    have s3' := s3
    obtain ⟨B3, _, z3, c30, c31, c32, c33, c34, c35⟩ := s3'
    go_wp2_with fail
    refine (padded_any a len cap L 2 t d p c n _ r3 ht hc hn).mono ?_
    rintro e w4 ⟨rfl, hb4⟩
    have b4 := B3.trans (hb4.mono (by omega))
    clear hb4
    go_wp2_with fail
    go_ret
    exact ⟨ret_bool (by first | rfl | simp [hpL]), b4⟩
  · have hrm := hr.take 257 (by omega)
    generalize l.take 257 = L at hrm
    have hpL := hpt L
    clear hpt hr
    go_enter Faig.func11, Faig.ntmps11
    go_wp2_with fail
    refine (extent_any 2 t d p c n hk ht hd hp hc hn _).mono ?_
    rintro e w1 ⟨rfl, hb1⟩
    have s1 := six_mono six_start0 hb1
    have r1 := (hrm.alloc _).below hb1 (Nat.le_refl _)
    clear hb1
    have s1' := s1
    obtain ⟨B1, _, z1, c10, c11, c12, c13, c14, c15⟩ := s1'
    go_wp2_with fail
    refine (words_any 2 t d p c n hk ht hd hp hc hn _).mono ?_
    rintro e w2 ⟨rfl, hb2⟩
    have s2 := six_mono s1 hb2
    have r2 := r1.below hb2 (Nat.le_refl _)
    clear hb2 s1 B1 z1 c10 c11 c12 c13 c14 c15 r1
    have s2' := s2
    obtain ⟨B2, _, z2, c20, c21, c22, c23, c24, c25⟩ := s2'
    go_wp2_with fail
    refine (first_named 2 t d p c n ht _).mono ?_
    rintro e w3 ⟨rfl, hb3⟩
    have s3 := six_mono s2 hb3
    have r3 := r2.below hb3 (Nat.le_refl _)
    clear hb3 s2 B2 z2 c20 c21 c22 c23 c24 c25 r2
    have s3' := s3
    obtain ⟨B3, _, z3, c30, c31, c32, c33, c34, c35⟩ := s3'
    go_wp2_with fail
    refine (padded_any a 257 cap L 2 t d p c n _ r3 ht hc hn).mono ?_
    rintro e w4 ⟨rfl, hb4⟩
    have b4 := B3.trans (hb4.mono (by omega))
    clear hb4
    go_wp2_with fail
    go_ret
    exact ⟨ret_bool (by first | rfl | simp [hpL]), b4⟩
end Go.Proofs.Ygcfai.extentRight

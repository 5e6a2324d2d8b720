import Derived.Test.YgcfaiWidth
namespace Go.Proofs.Ygcfai
open Go.RowKit Plain

set_option maxHeartbeats 1000000 in
theorem words_list (t d p c n : Int) (ht : U16 t) (hd : U8 d) (hp : U8 p) (hc : U8 c) (hn : U16 n) (w : World) :
    Calls Faig.prog 47 #[.agg #[.int .u8 2, .int .u16 t, .int .u8 d, .int .u8 p, .int .u8 c, .int .u16 n]] w fun e w' => e = .returned (.int .u16 (words 2 d p c n)) ∧ Below w.heap.size w w' := by
  have hcU := hc
  obtain ⟨t0, t1⟩ := ht; obtain ⟨d0, d1⟩ := hd; obtain ⟨p0, p1⟩ := hp; obtain ⟨c0, c1⟩ := hc; obtain ⟨n0, n1⟩ := hn
  by_cases hn8 : 128 < n
  · rw [show words 2 d p c n = 257 from by simp [words, hn8]]
    by_cases hd8 : d ≤ 8
    all_goals
      go_enter Faig.func47, Faig.ntmps47
      go_wp2
      go_ret
      exact ⟨rfl, (Below.refl _ _).alloc (Nat.le_refl _) _⟩
  by_cases hc1 : c < 2
  · rw [show words 2 d p c n = 257 from by unfold words; simp; omega]
    by_cases hd8 : d ≤ 8
    all_goals
      go_enter Faig.func47, Faig.ntmps47
      go_wp2
      go_ret
      exact ⟨rfl, (Below.refl _ _).alloc (Nat.le_refl _) _⟩
  by_cases hc5 : c ≤ 5
  · rw [show words 2 d p c n = (n * width c + 7) / 8 from by unfold words; simp [show ¬ 128 < n by omega]; omega]
    obtain ⟨wb0, wb1⟩ := width_bd c
    obtain ⟨mb0, mb1⟩ := mul_bd n0 (show n ≤ 128 by omega) wb0 wb1
    by_cases hd8 : d ≤ 8
    all_goals
      go_enter Faig.func47, Faig.ntmps47
      go_wp2
      go_quiet ((go_at_call 86; exact Calls.quiet_of_same (width_any _ hcU _)))
      go_wp2
      go_ret
      exact ⟨ret_int (wr16q _ _ (by omega) (by omega) (by omega)), below_drewN ((Below.refl _ _).alloc (Nat.le_refl _) _) _⟩
  by_cases hc6 : c = 6
  · subst hc6
    rw [show words 2 d p 6 n = n from by unfold words; simp; omega]
    by_cases hd8 : d ≤ 8
    all_goals
      go_enter Faig.func47, Faig.ntmps47
      go_wp2
      go_ret
      exact ⟨rfl, (Below.refl _ _).alloc (Nat.le_refl _) _⟩
  by_cases hc7 : c = 7
  · subst hc7
    by_cases hd8 : d ≤ 8
    · by_cases hp8 : p ≤ 8
      · obtain ⟨mb0, mb1⟩ := mul_bd n0 (show n ≤ 128 by omega) (show 0 ≤ d + p by omega) (show d + p ≤ 16 by omega)
        by_cases hm : 1 + n * (d + p) ≤ 257
        · rw [show words 2 d p 7 n = 1 + n * (d + p) from by unfold words; simp [hm, hd8, hp8]; omega]
          go_enter Faig.func47, Faig.ntmps47
          go_wp2
          go_ret
          exact ⟨rfl, (Below.refl _ _).alloc (Nat.le_refl _) _⟩
        · rw [show words 2 d p 7 n = 257 from by unfold words; simp [hm, hd8, hp8]]
          go_enter Faig.func47, Faig.ntmps47
          go_wp2
          go_ret
          exact ⟨rfl, (Below.refl _ _).alloc (Nat.le_refl _) _⟩
      · rw [show words 2 d p 7 n = 257 from by unfold words; simp [hp8]]
        go_enter Faig.func47, Faig.ntmps47
        go_wp2
        go_ret
        exact ⟨rfl, (Below.refl _ _).alloc (Nat.le_refl _) _⟩
    · rw [show words 2 d p 7 n = 257 from by unfold words; simp [hd8]]
      go_enter Faig.func47, Faig.ntmps47
      go_wp2
      go_ret
      exact ⟨rfl, (Below.refl _ _).alloc (Nat.le_refl _) _⟩
  · rw [show words 2 d p c n = 257 from by unfold words; simp [hc7, hc6, show ¬ c ≤ 5 by omega]]
    by_cases hd8 : d ≤ 8
    all_goals
      go_enter Faig.func47, Faig.ntmps47
      go_wp2
      go_ret
      exact ⟨rfl, (Below.refl _ _).alloc (Nat.le_refl _) _⟩

set_option maxHeartbeats 1000000 in
theorem words_any (k t d p c n : Int) (hk : U8 k) (ht : U16 t) (hd : U8 d) (hp : U8 p) (hc : U8 c) (hn : U16 n) (w : World) :
    Calls Faig.prog 47 #[.agg #[.int .u8 k, .int .u16 t, .int .u8 d, .int .u8 p, .int .u8 c, .int .u16 n]] w fun e w' => e = .returned (.int .u16 (words k d p c n)) ∧ Below w.heap.size w w' := by
  by_cases hk2 : k = 2
  · subst hk2
    exact words_list t d p c n ht hd hp hc hn w
  obtain ⟨k0, k1⟩ := hk; obtain ⟨t0, t1⟩ := ht; obtain ⟨d0, d1⟩ := hd; obtain ⟨p0, p1⟩ := hp; obtain ⟨c0, c1⟩ := hc; obtain ⟨n0, n1⟩ := hn
  by_cases hk0 : k = 0
  · subst hk0
    rw [show words 0 d p c n = 0 from by simp [words]]
    by_cases hd8 : d ≤ 8
    all_goals
      go_enter Faig.func47, Faig.ntmps47
      go_wp2
      go_ret
      exact ⟨rfl, (Below.refl _ _).alloc (Nat.le_refl _) _⟩
  by_cases hk1 : k = 1
  · subst hk1
    by_cases hd8 : d ≤ 8
    · by_cases hp8 : p ≤ 8
      · rw [show words 1 d p c n = d + p from by simp [words, hd8, hp8]]
        go_enter Faig.func47, Faig.ntmps47
        go_wp2
        go_ret
        exact ⟨rfl, (Below.refl _ _).alloc (Nat.le_refl _) _⟩
      · rw [show words 1 d p c n = 257 from by simp [words, hp8]]
        go_enter Faig.func47, Faig.ntmps47
        go_wp2
        go_ret
        exact ⟨rfl, (Below.refl _ _).alloc (Nat.le_refl _) _⟩
    · rw [show words 1 d p c n = 257 from by simp [words, hd8]]
      go_enter Faig.func47, Faig.ntmps47
      go_wp2
      go_ret
      exact ⟨rfl, (Below.refl _ _).alloc (Nat.le_refl _) _⟩
  · rw [show words k d p c n = 257 from by simp [words, hk0, hk1, hk2]]
    by_cases hd8 : d ≤ 8
    all_goals
      go_enter Faig.func47, Faig.ntmps47
      go_wp2
      go_ret
      exact ⟨rfl, (Below.refl _ _).alloc (Nat.le_refl _) _⟩
end Go.Proofs.Ygcfai

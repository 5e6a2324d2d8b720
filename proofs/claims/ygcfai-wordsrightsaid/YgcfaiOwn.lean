import Derived.Test.YgcfaiWidth
namespace Go.Proofs.Ygcfai
open Go.RowKit Plain

theorem own_arith (n z : Int) : ((n * z % 64 != 0) = false → n * z / 64 = (n * z + 63) / 64) ∧ ((n * z % 64 != 0) = true → n * z / 64 + 1 = (n * z + 63) / 64) := by
  generalize n * z = m
  constructor
  · intro h; simp at h; omega
  · intro h; simp at h; omega

theorem own64 (n : Int) : n = (n * 64 + 63) / 64 := by omega

set_option maxHeartbeats 1000000 in
theorem own_code (c z : Int) (hz : (c = 2 ∧ z = 8) ∨ (c = 3 ∧ z = 16) ∨ (c = 4 ∧ z = 32) ∨ (c = 5 ∧ z = 64)) (t d p n : Int) (ht : U16 t) (hd : U8 d) (hp : U8 p) (hn : 0 ≤ n ∧ n ≤ 128) (w : World) :
    Calls Faig.prog 45 #[.agg #[.int .u8 2, .int .u16 t, .int .u8 d, .int .u8 p, .int .u8 c, .int .u16 n]] w fun e w' => e = .returned (.int .i64 (words 2 d p c n)) ∧ Below w.heap.size w w' := by
  obtain ⟨t0, t1⟩ := ht; obtain ⟨d0, d1⟩ := hd; obtain ⟨p0, p1⟩ := hp; obtain ⟨n0, n1⟩ := hn
  have hw : words 2 d p c n = (n * z + 63) / 64 := by
    rcases hz with ⟨rfl, rfl⟩ | ⟨rfl, rfl⟩ | ⟨rfl, rfl⟩ | ⟨rfl, rfl⟩ <;> (unfold words width; simp; omega)
  rw [hw]
  clear hw
  have ha := own_arith n z
  obtain ⟨a1, a2⟩ := ha
  have A1 : Hid _ := a1
  have A2 : Hid _ := a2
  clear a1 a2
  have hi0 : ∀ w, (Instr.index 170 (.agg #[.int .i64 8, .int .i64 16, .int .i64 32, .int .i64 64]) (.int .u8 0)).run Faig.prog w = .ok (.int .i64 8) w := fun _ => by kernel_rfl
  have hi1 : ∀ w, (Instr.index 170 (.agg #[.int .i64 8, .int .i64 16, .int .i64 32, .int .i64 64]) (.int .u8 1)).run Faig.prog w = .ok (.int .i64 16) w := fun _ => by kernel_rfl
  have hi2 : ∀ w, (Instr.index 170 (.agg #[.int .i64 8, .int .i64 16, .int .i64 32, .int .i64 64]) (.int .u8 2)).run Faig.prog w = .ok (.int .i64 32) w := fun _ => by kernel_rfl
  have hi3 : ∀ w, (Instr.index 170 (.agg #[.int .i64 8, .int .i64 16, .int .i64 32, .int .i64 64]) (.int .u8 3)).run Faig.prog w = .ok (.int .i64 64) w := fun _ => by kernel_rfl
  rcases hz with ⟨rfl, rfl⟩ | ⟨rfl, rfl⟩ | ⟨rfl, rfl⟩ | ⟨rfl, rfl⟩
  all_goals
    by_cases hd8 : d ≤ 8
    all_goals
      go_enter Faig.func45, Faig.ntmps45
      go_wp2
      go_quiet (fail)
      go_wp2
      go_quiet (fail)
      go_wp2
      all_goals
        go_ret
        first
          | exact ⟨ret_int (A1.out ‹_›), below_drewN ((Below.refl _ _).alloc (Nat.le_refl _) _) _⟩
          | exact ⟨ret_int (A2.out ‹_›), below_drewN ((Below.refl _ _).alloc (Nat.le_refl _) _) _⟩
          | exact ⟨ret_int (own64 n), below_drewN ((Below.refl _ _).alloc (Nat.le_refl _) _) _⟩

set_option maxHeartbeats 1000000 in
theorem own_any (k t d p c n : Int) (hk : U8 k) (ht : U16 t) (hd : U8 d) (hp : U8 p) (hc : U8 c) (hn : U16 n) (w : World) :
    Calls Faig.prog 45 #[.agg #[.int .u8 k, .int .u16 t, .int .u8 d, .int .u8 p, .int .u8 c, .int .u16 n]] w fun e w' => e = .returned (.int .i64 (words k d p c n)) ∧ Below w.heap.size w w' := by
  obtain ⟨k0, k1⟩ := hk; obtain ⟨d0, d1⟩ := hd; obtain ⟨p0, p1⟩ := hp; obtain ⟨c0, c1⟩ := hc; obtain ⟨n0, n1⟩ := hn
  by_cases hk0 : k = 0
  · subst hk0
    rw [show words 0 d p c n = 0 from by simp [words]]
    by_cases hd8 : d ≤ 8
    all_goals
      go_enter Faig.func45, Faig.ntmps45
      go_wp2
      go_quiet (fail)
      go_wp2
      go_ret
      exact ⟨rfl, below_drewN ((Below.refl _ _).alloc (Nat.le_refl _) _) _⟩
  by_cases hk1 : k = 1
  · subst hk1
    by_cases hd8 : d ≤ 8
    · by_cases hp8 : p ≤ 8
      · rw [show words 1 d p c n = d + p from by simp [words, hd8, hp8]]
        go_enter Faig.func45, Faig.ntmps45
        go_wp2
        go_quiet (fail)
        go_wp2
        go_ret
        exact ⟨rfl, below_drewN ((Below.refl _ _).alloc (Nat.le_refl _) _) _⟩
      · rw [show words 1 d p c n = 257 from by simp [words, hp8]]
        go_enter Faig.func45, Faig.ntmps45
        go_wp2
        go_quiet (fail)
        go_wp2
        go_ret
        exact ⟨rfl, below_drewN ((Below.refl _ _).alloc (Nat.le_refl _) _) _⟩
    · rw [show words 1 d p c n = 257 from by simp [words, hd8]]
      go_enter Faig.func45, Faig.ntmps45
      go_wp2
      go_quiet (fail)
      go_wp2
      go_ret
      exact ⟨rfl, below_drewN ((Below.refl _ _).alloc (Nat.le_refl _) _) _⟩
  by_cases hk2 : k = 2
  · subst hk2
    clear hk0 hk1 k0 k1
    by_cases hn8 : 128 < n
    · rw [show words 2 d p c n = 257 from by simp [words, hn8]]
      by_cases hd8 : d ≤ 8
      all_goals
        go_enter Faig.func45, Faig.ntmps45
        go_wp2
        go_quiet (fail)
        go_wp2
        go_ret
        exact ⟨rfl, below_drewN ((Below.refl _ _).alloc (Nat.le_refl _) _) _⟩
    by_cases hc2 : c = 2
    · exact own_code c 8 (by omega) t d p n ht ⟨d0, d1⟩ ⟨p0, p1⟩ ⟨n0, by omega⟩ w
    by_cases hc3 : c = 3
    · exact own_code c 16 (by omega) t d p n ht ⟨d0, d1⟩ ⟨p0, p1⟩ ⟨n0, by omega⟩ w
    by_cases hc4 : c = 4
    · exact own_code c 32 (by omega) t d p n ht ⟨d0, d1⟩ ⟨p0, p1⟩ ⟨n0, by omega⟩ w
    by_cases hc5 : c = 5
    · exact own_code c 64 (by omega) t d p n ht ⟨d0, d1⟩ ⟨p0, p1⟩ ⟨n0, by omega⟩ w
    by_cases hc6 : c = 6
    · subst hc6
      clear hc2 hc3 hc4 hc5
      rw [show words 2 d p 6 n = n from by unfold words; simp; omega]
      by_cases hd8 : d ≤ 8
      all_goals
        go_enter Faig.func45, Faig.ntmps45
        go_wp2
        go_quiet (fail)
        go_wp2
        go_ret
        exact ⟨rfl, below_drewN ((Below.refl _ _).alloc (Nat.le_refl _) _) _⟩
    by_cases hc7 : c = 7
    · subst hc7
      clear hc2 hc3 hc4 hc5 hc6
      by_cases hd8 : d ≤ 8
      · by_cases hp8 : p ≤ 8
        · obtain ⟨mb0, mb1⟩ := mul_bd n0 (show n ≤ 128 by omega) (show 0 ≤ d + p by omega) (show d + p ≤ 16 by omega)
          by_cases hm : 1 + n * (d + p) ≤ 257
          · rw [show words 2 d p 7 n = 1 + n * (d + p) from by unfold words; simp [hm, hd8, hp8]; omega]
            go_enter Faig.func45, Faig.ntmps45
            go_wp2
            go_quiet (fail)
            go_wp2
            go_ret
            exact ⟨rfl, below_drewN ((Below.refl _ _).alloc (Nat.le_refl _) _) _⟩
          · rw [show words 2 d p 7 n = 257 from by unfold words; simp [hm, hd8, hp8]]
            go_enter Faig.func45, Faig.ntmps45
            go_wp2
            go_quiet (fail)
            go_wp2
            go_ret
            exact ⟨rfl, below_drewN ((Below.refl _ _).alloc (Nat.le_refl _) _) _⟩
        · rw [show words 2 d p 7 n = 257 from by unfold words; simp [hp8]]
          go_enter Faig.func45, Faig.ntmps45
          go_wp2
          go_quiet (fail)
          go_wp2
          go_ret
          exact ⟨rfl, below_drewN ((Below.refl _ _).alloc (Nat.le_refl _) _) _⟩
      · rw [show words 2 d p 7 n = 257 from by unfold words; simp [hd8]]
        go_enter Faig.func45, Faig.ntmps45
        go_wp2
        go_quiet (fail)
        go_wp2
        go_ret
        exact ⟨rfl, below_drewN ((Below.refl _ _).alloc (Nat.le_refl _) _) _⟩
    · rw [show words 2 d p c n = 257 from by unfold words; simp [hc7, hc6, show ¬ (2 ≤ c ∧ c ≤ 5) by omega]]
      have b2 : (c == 2) = false := by simp [hc2]
      have b3 : (c == 3) = false := by simp [hc3]
      have b4 : (c == 4) = false := by simp [hc4]
      have b5 : (c == 5) = false := by simp [hc5]
      have b6 : (c == 6) = false := by simp [hc6]
      have b7 : (c == 7) = false := by simp [hc7]
      by_cases hd8 : d ≤ 8
      all_goals
        go_enter Faig.func45, Faig.ntmps45
        go_wp2
        go_quiet (fail)
        go_wp2
        go_ret
        exact ⟨rfl, below_drewN ((Below.refl _ _).alloc (Nat.le_refl _) _) _⟩
  · rw [show words k d p c n = 257 from by simp [words, hk0, hk1, hk2]]
    have b0 : (k == 0) = false := by simp [hk0]
    have b1 : (k == 1) = false := by simp [hk1]
    have b2 : (k == 2) = false := by simp [hk2]
    by_cases hd8 : d ≤ 8
    all_goals
      go_enter Faig.func45, Faig.ntmps45
      go_wp2
      go_quiet (fail)
      go_wp2
      go_ret
      exact ⟨rfl, below_drewN ((Below.refl _ _).alloc (Nat.le_refl _) _) _⟩
end Go.Proofs.Ygcfai

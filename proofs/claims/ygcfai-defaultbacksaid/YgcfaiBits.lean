/-
  THE WALKS of package bitsx (at the numbers that package wire gives them) and of wire.offset, MakeStruct, MakeList.
-/
import Derived.Test.YgcfaiBitsPlain
namespace Go.Proofs.Ygcfai
open Go.RowKit Plain

theorem take_0_2 (x : Int) (hx : U64 x) (w : World) :
    Calls Faig.prog 68 #[.int .u64 x, .int .u8 0, .int .u8 2] w fun e w' => e = .returned (.int .u64 (x % 4)) ∧ w' = w := by
  go_enter Faig.func68, Faig.ntmps68
  go_wp2
  go_ret
  exact ⟨ret_int (band x 2 _ (by decide) (by decide) hx), rfl⟩
theorem take_2_30 (x : Int) (hx : U64 x) (w : World) :
    Calls Faig.prog 68 #[.int .u64 x, .int .u8 2, .int .u8 30] w fun e w' => e = .returned (.int .u64 (x / 4 % 1073741824)) ∧ w' = w := by
  go_enter Faig.func68, Faig.ntmps68
  go_wp2
  go_ret
  exact ⟨ret_int (band (x / 4) 30 _ (by decide) (by decide) (by obtain ⟨a, b⟩ := hx; exact ⟨by omega, by omega⟩)), rfl⟩
theorem take_32_3 (x : Int) (hx : U64 x) (w : World) :
    Calls Faig.prog 68 #[.int .u64 x, .int .u8 32, .int .u8 3] w fun e w' => e = .returned (.int .u64 (x / 4294967296 % 8)) ∧ w' = w := by
  go_enter Faig.func68, Faig.ntmps68
  go_wp2
  go_ret
  exact ⟨ret_int (band (x / 4294967296) 3 _ (by decide) (by decide) (by obtain ⟨a, b⟩ := hx; exact ⟨by omega, by omega⟩)), rfl⟩
theorem take_35_29 (x : Int) (hx : U64 x) (w : World) :
    Calls Faig.prog 68 #[.int .u64 x, .int .u8 35, .int .u8 29] w fun e w' => e = .returned (.int .u64 (x / 34359738368)) ∧ w' = w := by
  go_enter Faig.func68, Faig.ntmps68
  go_wp2
  go_ret
  exact ⟨ret_int ((band (x / 34359738368) 29 _ (by decide) (by decide) (by obtain ⟨a, b⟩ := hx; exact ⟨by omega, by omega⟩)).trans (by obtain ⟨a, b⟩ := hx; omega)), rfl⟩
theorem take_32_16 (x : Int) (hx : U64 x) (w : World) :
    Calls Faig.prog 68 #[.int .u64 x, .int .u8 32, .int .u8 16] w fun e w' => e = .returned (.int .u64 (x / 4294967296 % 65536)) ∧ w' = w := by
  go_enter Faig.func68, Faig.ntmps68
  go_wp2
  go_ret
  exact ⟨ret_int (band (x / 4294967296) 16 _ (by decide) (by decide) (by obtain ⟨a, b⟩ := hx; exact ⟨by omega, by omega⟩)), rfl⟩
theorem take_48_16 (x : Int) (hx : U64 x) (w : World) :
    Calls Faig.prog 68 #[.int .u64 x, .int .u8 48, .int .u8 16] w fun e w' => e = .returned (.int .u64 (x / 281474976710656)) ∧ w' = w := by
  go_enter Faig.func68, Faig.ntmps68
  go_wp2
  go_ret
  exact ⟨ret_int ((band (x / 281474976710656) 16 _ (by decide) (by decide) (by obtain ⟨a, b⟩ := hx; exact ⟨by omega, by omega⟩)).trans (by obtain ⟨a, b⟩ := hx; omega)), rfl⟩
theorem sign_30 (x : Int) (hx : U64 x) (w : World) :
    Calls Faig.prog 95 #[.int .u64 x, .int .u8 30] w fun e w' => e = .returned (.int .i64 (sgn30 x)) ∧ w' = w := by
  go_enter Faig.func95, Faig.ntmps95
  go_wp2
  go_ret
  exact ⟨ret_int (by unfold wrap64; exact (wrapI64 _).symm.trans (sign_plain x hx)), rfl⟩
theorem offset_any (f t : Int) (hf : U16 f) (ht : U16 t) (w : World) :
    Calls Faig.prog 83 #[.int .u16 f, .int .u16 t] w fun e w' => e = .returned (.int .u64 (offv f t)) ∧ w' = w := by
  have hp := off_plain f t hf ht
  have HP : Hid _ := hp
  clear hp
  obtain ⟨f0, f1⟩ := hf; obtain ⟨t0, t1⟩ := ht
  go_enter Faig.func83, Faig.ntmps83
  go_wp2
  go_ret
  exact ⟨ret_int HP.out, rfl⟩

def mkS (f t d p : Int) : Bool := decide (f < 256 ∧ t ≤ 256 ∧ d ≤ 8 ∧ p ≤ 8)
def mkL (f t c n : Int) : Bool := decide (f < 256 ∧ t ≤ 256 ∧ 2 ≤ c ∧ c ≤ 7 ∧ n ≤ (if c = 7 then 256 else 128))
def msv (f t d p : Int) : Int := if mkS f t d p = true then (if d = 0 ∧ p = 0 then 4294967292 else offv f t + d * 4294967296 + p * 281474976710656) else 0
def mlv (f t c n : Int) : Int := if mkL f t c n = true then 1 + offv f t + c * 4294967296 + n * 34359738368 else 0

theorem or_struct (f t d p : Int) (hd0 : 0 ≤ d) (hd : d ≤ 8) (hp0 : 0 ≤ p) (hp : p ≤ 8) : bits .or .u64 (bits .or .u64 (offv f t) (d * 4294967296)) (p * 281474976710656) = offv f t + d * 4294967296 + p * 281474976710656 := by
  obtain ⟨o0, o1⟩ := offv_bd f t
  have e1 : bits .or .u64 (offv f t) (d * 4294967296) = offv f t + d * 4294967296 := bor _ _ 32 d ⟨by omega, by omega⟩ (by simpa using o1) (by simp; omega) ⟨by omega, by omega⟩ hd0
  rw [e1]
  exact bor _ _ 48 p ⟨by omega, by omega⟩ (by simp; omega) (by simp; omega) ⟨by omega, by omega⟩ hp0
theorem or_list (f t c n : Int) (hc0 : 0 ≤ c) (hc : c ≤ 7) (hn0 : 0 ≤ n) (hn : n ≤ 256) : bits .or .u64 (bits .or .u64 (bits .or .u64 1 (offv f t)) (c * 4294967296)) (n * 34359738368) = 1 + offv f t + c * 4294967296 + n * 34359738368 := by
  obtain ⟨o0, o1⟩ := offv_bd f t
  have e0 : bits .or .u64 1 (offv f t) = 1 + offv f t := bor _ _ 2 ((t - f - 1) % 1073741824) ⟨by omega, by omega⟩ (by decide) (by unfold offv; simp; omega) ⟨by omega, by omega⟩ (by omega)
  rw [e0]
  have e1 : bits .or .u64 (1 + offv f t) (c * 4294967296) = 1 + offv f t + c * 4294967296 := bor _ _ 32 c ⟨by omega, by omega⟩ (by unfold offv at *; simp; omega) (by simp; omega) ⟨by omega, by omega⟩ hc0
  rw [e1]
  exact bor _ _ 35 n ⟨by omega, by omega⟩ (by unfold offv at *; simp; omega) (by simp; omega) ⟨by omega, by omega⟩ hn0
theorem offv_same (f : Int) : offv f f = 4294967292 := by unfold offv; omega

theorem makesStruct_any (f t d p : Int) (w : World) :
    Calls Faig.prog 41 #[.int .u16 f, .int .u16 t, .int .u8 d, .int .u8 p] w fun e w' => e = .returned (.bool (mkS f t d p)) ∧ w' = w := by
  by_cases h1 : f < 256
  · by_cases h2 : t ≤ 256
    · by_cases h3 : d ≤ 8
      · rw [show mkS f t d p = decide (p ≤ 8) from by simp [mkS, h1, h2, h3]]
        go_enter Faig.func41, Faig.ntmps41
        go_wp2
        go_ret
        exact ⟨rfl, rfl⟩
      · rw [show mkS f t d p = false from by simp [mkS, h3]]
        go_enter Faig.func41, Faig.ntmps41
        go_wp2
        go_ret
        exact ⟨rfl, rfl⟩
    · rw [show mkS f t d p = false from by simp [mkS, h2]]
      go_enter Faig.func41, Faig.ntmps41
      go_wp2
      go_ret
      exact ⟨rfl, rfl⟩
  · rw [show mkS f t d p = false from by simp [mkS, h1]]
    go_enter Faig.func41, Faig.ntmps41
    go_wp2
    go_ret
    exact ⟨rfl, rfl⟩

theorem makesList_any (f t c n : Int) (w : World) :
    Calls Faig.prog 38 #[.int .u16 f, .int .u16 t, .int .u8 c, .int .u32 n] w fun e w' => e = .returned (.bool (mkL f t c n)) ∧ w' = w := by
  by_cases h7 : c = 7
  · subst h7
    by_cases h1 : f < 256
    · by_cases h2 : t ≤ 256
      · rw [show mkL f t 7 n = decide (n ≤ 256) from by simp [mkL, h1, h2]]
        go_enter Faig.func38, Faig.ntmps38
        go_wp2
        go_ret
        exact ⟨rfl, rfl⟩
      · rw [show mkL f t 7 n = false from by simp [mkL, h2]]
        go_enter Faig.func38, Faig.ntmps38
        go_wp2
        go_ret
        exact ⟨rfl, rfl⟩
    · rw [show mkL f t 7 n = false from by simp [mkL, h1]]
      go_enter Faig.func38, Faig.ntmps38
      go_wp2
      go_ret
      exact ⟨rfl, rfl⟩
  · have b7 : (c == 7) = false := by simp [h7]
    by_cases h1 : f < 256
    · by_cases h2 : t ≤ 256
      · by_cases h3 : 2 ≤ c
        · by_cases h4 : c ≤ 7
          · rw [show mkL f t c n = decide (n ≤ 128) from by simp [mkL, h1, h2, h3, h4, h7]]
            go_enter Faig.func38, Faig.ntmps38
            go_wp2
            go_ret
            exact ⟨rfl, rfl⟩
          · rw [show mkL f t c n = false from by simp [mkL, h4]]
            go_enter Faig.func38, Faig.ntmps38
            go_wp2
            go_ret
            exact ⟨rfl, rfl⟩
        · rw [show mkL f t c n = false from by simp [mkL, h3]]
          go_enter Faig.func38, Faig.ntmps38
          go_wp2
          go_ret
          exact ⟨rfl, rfl⟩
      · rw [show mkL f t c n = false from by simp [mkL, h2]]
        go_enter Faig.func38, Faig.ntmps38
        go_wp2
        go_ret
        exact ⟨rfl, rfl⟩
    · rw [show mkL f t c n = false from by simp [mkL, h1]]
      go_enter Faig.func38, Faig.ntmps38
      go_wp2
      go_ret
      exact ⟨rfl, rfl⟩

set_option maxHeartbeats 400000 in
theorem makeStruct_any (f t d p : Int) (hf : U16 f) (ht : U16 t) (hd : U8 d) (hp : U8 p) (w : World) :
    Calls Faig.prog 42 #[.int .u16 f, .int .u16 t, .int .u8 d, .int .u8 p] w fun e w' => e = .returned (.int .u64 (msv f t d p)) ∧ w' = w := by
  have hfU := hf
  have htU := ht
  obtain ⟨f0, f1⟩ := hf; obtain ⟨t0, t1⟩ := ht; obtain ⟨d0, d1⟩ := hd; obtain ⟨p0, p1⟩ := hp
  by_cases h1 : f < 256
  · by_cases h2 : t ≤ 256
    · by_cases h3 : d ≤ 8
      · by_cases h4 : p ≤ 8
        · by_cases hd0 : d = 0
          · subst hd0
            by_cases hp0 : p = 0
            · subst hp0
              rw [show msv f t 0 0 = 4294967292 from by simp [msv, mkS, h1, h2]]
              go_enter Faig.func42, Faig.ntmps42
              go_wp2_with (go_at_call 83; refine (offset_any f f hfU hfU _).mono ?_; rintro e w' ⟨rfl, rfl⟩)
              go_ret
              exact ⟨ret_int (by have := or_struct f f 0 0 (by omega) (by omega) (by omega) (by omega); rw [offv_same] at this ⊢; simpa using this), rfl⟩
            · rw [show msv f t 0 p = offv f t + 0 * 4294967296 + p * 281474976710656 from by simp [msv, mkS, h1, h2, h4, hp0]]
              have bp : (p == 0) = false := by simp [hp0]
              clear hp0
              go_enter Faig.func42, Faig.ntmps42
              go_wp2_with (go_at_call 83; refine (offset_any f t hfU htU _).mono ?_; rintro e w' ⟨rfl, rfl⟩)
              go_ret
              exact ⟨ret_int (by have := or_struct f t 0 p (by omega) (by omega) p0 h4; simpa using this), rfl⟩
          · rw [show msv f t d p = offv f t + d * 4294967296 + p * 281474976710656 from by simp [msv, mkS, h1, h2, h3, h4, hd0]]
            have bd : (d == 0) = false := by simp [hd0]
            clear hd0
            go_enter Faig.func42, Faig.ntmps42
            go_wp2_with (go_at_call 83; refine (offset_any f t hfU htU _).mono ?_; rintro e w' ⟨rfl, rfl⟩)
            go_ret
            exact ⟨ret_int (or_struct f t d p d0 h3 p0 h4), rfl⟩
        · rw [show msv f t d p = 0 from by simp [msv, mkS, h4]]
          go_enter Faig.func42, Faig.ntmps42
          go_wp2
          go_ret
          exact ⟨rfl, rfl⟩
      · rw [show msv f t d p = 0 from by simp [msv, mkS, h3]]
        go_enter Faig.func42, Faig.ntmps42
        go_wp2
        go_ret
        exact ⟨rfl, rfl⟩
    · rw [show msv f t d p = 0 from by simp [msv, mkS, h2]]
      go_enter Faig.func42, Faig.ntmps42
      go_wp2
      go_ret
      exact ⟨rfl, rfl⟩
  · rw [show msv f t d p = 0 from by simp [msv, mkS, h1]]
    go_enter Faig.func42, Faig.ntmps42
    go_wp2
    go_ret
    exact ⟨rfl, rfl⟩

set_option maxHeartbeats 400000 in
theorem makeList_any (f t c n : Int) (hf : U16 f) (ht : U16 t) (hc : U8 c) (hn : 0 ≤ n ∧ n < 4294967296) (w : World) :
    Calls Faig.prog 37 #[.int .u16 f, .int .u16 t, .int .u8 c, .int .u32 n] w fun e w' => e = .returned (.int .u64 (mlv f t c n)) ∧ w' = w := by
  have hfU := hf
  have htU := ht
  obtain ⟨f0, f1⟩ := hf; obtain ⟨t0, t1⟩ := ht; obtain ⟨c0, c1⟩ := hc; obtain ⟨n0, n1⟩ := hn
  by_cases hok : mkL f t c n = true
  · rw [show mlv f t c n = 1 + offv f t + c * 4294967296 + n * 34359738368 from by simp [mlv, hok]]
    simp [mkL] at hok
    obtain ⟨g1, g2, g3, g4, g5⟩ := hok
    by_cases h7 : c = 7
    · subst h7
      simp at g5
      clear g3 g4
      go_enter Faig.func37, Faig.ntmps37
      go_wp2_with (go_at_call 83; refine (offset_any f t hfU htU _).mono ?_; rintro e w' ⟨rfl, rfl⟩)
      go_ret
      exact ⟨ret_int (or_list f t 7 n (by omega) (by omega) n0 g5), rfl⟩
    · have b7 : (c != 7) = true := by simp [h7]
      have g5' : n ≤ 128 := by simpa [h7] using g5
      clear g5
      go_enter Faig.func37, Faig.ntmps37
      go_wp2_with (go_at_call 83; refine (offset_any f t hfU htU _).mono ?_; rintro e w' ⟨rfl, rfl⟩)
      go_ret
      exact ⟨ret_int (or_list f t c n (by omega) (by omega) n0 (by omega)), rfl⟩
  · rw [show mlv f t c n = 0 from by simp [mlv, hok]]
    by_cases h1 : f < 256
    · by_cases h2 : t ≤ 256
      · by_cases h3 : 2 ≤ c
        · by_cases h4 : c ≤ 7
          · by_cases h5 : n ≤ 256
            · by_cases h7 : c = 7
              · subst h7; simp [mkL, h1, h2, h5] at hok
              · have b7 : (c != 7) = true := by simp [h7]
                have g : 128 < n := by simp [mkL, h1, h2, h3, h4, h7] at hok; omega
                clear hok
                go_enter Faig.func37, Faig.ntmps37
                go_wp2
                go_ret
                exact ⟨rfl, rfl⟩
            · clear hok
              go_enter Faig.func37, Faig.ntmps37
              go_wp2
              go_ret
              exact ⟨rfl, rfl⟩
          · clear hok
            go_enter Faig.func37, Faig.ntmps37
            go_wp2
            go_ret
            exact ⟨rfl, rfl⟩
        · clear hok
          go_enter Faig.func37, Faig.ntmps37
          go_wp2
          go_ret
          exact ⟨rfl, rfl⟩
      · clear hok
        go_enter Faig.func37, Faig.ntmps37
        go_wp2
        go_ret
        exact ⟨rfl, rfl⟩
    · clear hok
      go_enter Faig.func37, Faig.ntmps37
      go_wp2
      go_ret
      exact ⟨rfl, rfl⟩
end Go.Proofs.Ygcfai

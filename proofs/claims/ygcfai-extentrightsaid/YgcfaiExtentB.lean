import Derived.Test.YgcfaiExtentA
namespace Go.Proofs.Ygcfai.extentRight
open Go.RowKit Plain

set_option maxHeartbeats 2000000 in
theorem walk_2 (a : Option Addr) (len cap : Nat) (l : List Int) (t d p n : Int) (w : World) (hr : Row w a len l) (hcap : len ≤ cap) (hk : U8 2) (ht : U16 t) (hd : U8 d) (hp : U8 p) (hc : U8 2) (hn : U16 n) :
    Calls Faig.prog 11 #[.slice a len cap, .agg #[.int .u8 2, .int .u16 t, .int .u8 d, .int .u8 p, .int .u8 2, .int .u16 n]] w fun e w' => e = .returned (.bool true) ∧ Below w.heap.size w w' := by
  have hm := hr.2.2.1
  unfold maxLen at hm
  have h16 := same16 2 t 2 ht
  have hn' := hn
  have ht' := ht
  obtain ⟨n0, n1⟩ := hn'
  obtain ⟨t0, t1⟩ := ht'
  by_cases h257 : len ≤ 257
  · have hrm := hr
    generalize l = L at hrm
    have hLL := hrm.2.1
    have HLEN : Hid (L.length = len) := hrm.1
    clear hr
    go_enter Faig.func11, Faig.ntmps11
    go_wp2_with fail
    refine (extent_any 2 t d p 2 n hk ht hd hp hc hn _).mono ?_
    rintro e w1 ⟨rfl, hb1⟩
    have s1 := six_mono six_start0 hb1
    have r1 := (hrm.alloc _).below hb1 (Nat.le_refl _)
    clear hb1
    have s1' := s1
    obtain ⟨B1, _, z1, c10, c11, c12, c13, c14, c15⟩ := s1'
    go_wp2_with fail
    refine (words_any 2 t d p 2 n hk ht hd hp hc hn _).mono ?_
    rintro e w2 ⟨rfl, hb2⟩
    have s2 := six_mono s1 hb2
    have r2 := r1.below hb2 (Nat.le_refl _)
    clear hb2 s1 B1 z1 c10 c11 c12 c13 c14 c15 r1
    have s2' := s2
    obtain ⟨B2, _, z2, c20, c21, c22, c23, c24, c25⟩ := s2'
    go_wp2_with fail
    refine (first_named 2 t d p 2 n ht _).mono ?_
    rintro e w3 ⟨rfl, hb3⟩
    have s3 := six_mono s2 hb3
    have r3 := r2.below hb3 (Nat.le_refl _)
    clear hb3 s2 B2 z2 c20 c21 c22 c23 c24 c25 r2
    have s3' := s3
    obtain ⟨B3, _, z3, c30, c31, c32, c33, c34, c35⟩ := s3'
    go_wp2_with fail
    go_loop [7, 8] (fun want i => ∃ (j : Nat) (b : Bool), i = .int .i64 (n + j) ∧ want = .bool b ∧ Hid (b = okj (decide (t + (n) / 8 < (L.length : Int))) (L.getD (t + (n) / 8).toNat 0) ((n) % 8).toNat j) ∧ (n) % 8 + j ≤ 8 ∧ ((n) % 8 = 0 → j = 0)) (fun _ i => ((n) + 8 - intOf i).toNat)
    case atStart => exact ⟨0, true, by go_num, rfl, (okj_zero _ _ _).symm, by omega, fun _ => rfl⟩
    case round =>
      obtain ⟨j, b, rfl, rfl, hb, h8, h0⟩ := hrel
      have H0 : Hid ((n) % 8 = 0 → j = 0) := h0
      clear h0
      by_cases hz : (n + j) % 8 = 0
      · have hfin := end_pad L t 2 n (n) j hLL (by unfold width; simp) h8 H0.out hz
        have HF : Hid (b = pad L 2 t 2 n) := hb.out.trans hfin
        have hzb : ((n + (j : Int)) % 8 != 0) = false := by simp [hz]
        clear hfin hb hz H0
        go_wp2_with fail
        refine (padded_any a len cap L 2 t d p 2 n _ r3 ht hc hn).mono ?_
        rintro e w4 ⟨rfl, hb4⟩
        have b4 := B3.trans (hb4.mono (by omega))
        clear hb4
        go_wp2_with fail
        go_ret
        exact ⟨ret_bool (by rw [HF.out]; simp), b4⟩
      · have hzb : ((n + (j : Int)) % 8 != 0) = true := by simp [hz]
        have hq : (n + (j : Int)) / 8 = (n) / 8 := by omega
        have HQ : Hid _ := hq
        have HZ : Hid (¬ (n + (j : Int)) % 8 = 0) := hz
        clear hq hz
        have hxu : U64 (L.getD (t + (n) / 8).toNat 0) := hLL _
        cases b with
        | false =>
          have hnext := no_round _ _ (n) j hxu hb.out.symm
          have HN : Hid _ := hnext
          clear hnext hb hxu
          go_wp2
          go_round
          case rel => exact ⟨j + 1, false, by go_num, rfl, HN.out.symm, by have := HZ.out; omega, by have := HZ.out; have := H0.out; omega⟩
          case measure => have hz' := HZ.out; simp [intOf]; omega
        | true =>
          by_cases hin : t + (n + (j : Int)) / 8 < (len : Int)
          · have hin' : decide (t + (n) / 8 < (L.length : Int)) = true := by rw [HLEN.out]; have := HQ.out; simp; omega
            have hbo : okj true (L.getD (t + (n) / 8).toNat 0) ((n) % 8).toNat j = true := by have := hb.out.symm; rw [hin'] at this; exact this
            have hnext := one_round _ (n) j hxu h8 HZ.out hbo
            have HN : Hid _ := hnext
            obtain ⟨bb, off, hae, hlt, hcell, -⟩ := r3.at (t + (n) / 8).toNat (by have := HQ.out; omega)
            rw [← HQ.out] at hcell
            have HI : Hid _ := hin'
            have HA : Hid _ := hae
            clear hnext hb hin' hbo hae
            rw [← HQ.out] at HN hxu
            generalize hxx : L.getD (t + (n + (j : Int)) / 8).toNat 0 = x at HN hcell hxu
            have HX : Hid _ := hxx
            clear hxx
            rw [HA.out]
            go_wp2
            go_round
            case rel => exact ⟨j + 1, _, by go_num, rfl, by rw [HI.out, ← HQ.out, HX.out]; exact HN.out, by have := HZ.out; omega, by have := HZ.out; have := H0.out; omega⟩
            case measure => have hz' := HZ.out; simp [intOf]; omega
          · have hin' : decide (t + (n) / 8 < (L.length : Int)) = false := by rw [HLEN.out]; have := HQ.out; simp; omega
            have HI : Hid _ := hin'
            clear hb hin' hxu
            go_wp2
            go_round
            case rel => exact ⟨j + 1, false, by go_num, rfl, by rw [HI.out]; exact (okj_out _ _ _).symm, by have := HZ.out; omega, by have := HZ.out; have := H0.out; omega⟩
            case measure => have hz' := HZ.out; simp [intOf]; omega
  · have hrm := hr.take 257 (by omega)
    generalize l.take 257 = L at hrm
    have hLL := hrm.2.1
    have HLEN : Hid (L.length = 257) := hrm.1
    clear hr
    go_enter Faig.func11, Faig.ntmps11
    go_wp2_with fail
    refine (extent_any 2 t d p 2 n hk ht hd hp hc hn _).mono ?_
    rintro e w1 ⟨rfl, hb1⟩
    have s1 := six_mono six_start0 hb1
    have r1 := (hrm.alloc _).below hb1 (Nat.le_refl _)
    clear hb1
    have s1' := s1
    obtain ⟨B1, _, z1, c10, c11, c12, c13, c14, c15⟩ := s1'
    go_wp2_with fail
    refine (words_any 2 t d p 2 n hk ht hd hp hc hn _).mono ?_
    rintro e w2 ⟨rfl, hb2⟩
    have s2 := six_mono s1 hb2
    have r2 := r1.below hb2 (Nat.le_refl _)
    clear hb2 s1 B1 z1 c10 c11 c12 c13 c14 c15 r1
    have s2' := s2
    obtain ⟨B2, _, z2, c20, c21, c22, c23, c24, c25⟩ := s2'
    go_wp2_with fail
    refine (first_named 2 t d p 2 n ht _).mono ?_
    rintro e w3 ⟨rfl, hb3⟩
    have s3 := six_mono s2 hb3
    have r3 := r2.below hb3 (Nat.le_refl _)
    clear hb3 s2 B2 z2 c20 c21 c22 c23 c24 c25 r2
    have s3' := s3
    obtain ⟨B3, _, z3, c30, c31, c32, c33, c34, c35⟩ := s3'
    go_wp2_with fail
    go_loop [7, 8] (fun want i => ∃ (j : Nat) (b : Bool), i = .int .i64 (n + j) ∧ want = .bool b ∧ Hid (b = okj (decide (t + (n) / 8 < (L.length : Int))) (L.getD (t + (n) / 8).toNat 0) ((n) % 8).toNat j) ∧ (n) % 8 + j ≤ 8 ∧ ((n) % 8 = 0 → j = 0)) (fun _ i => ((n) + 8 - intOf i).toNat)
    case atStart => exact ⟨0, true, by go_num, rfl, (okj_zero _ _ _).symm, by omega, fun _ => rfl⟩
    case round =>
      obtain ⟨j, b, rfl, rfl, hb, h8, h0⟩ := hrel
      have H0 : Hid ((n) % 8 = 0 → j = 0) := h0
      clear h0
      by_cases hz : (n + j) % 8 = 0
      · have hfin := end_pad L t 2 n (n) j hLL (by unfold width; simp) h8 H0.out hz
        have HF : Hid (b = pad L 2 t 2 n) := hb.out.trans hfin
        have hzb : ((n + (j : Int)) % 8 != 0) = false := by simp [hz]
        clear hfin hb hz H0
        go_wp2_with fail
        refine (padded_any a 257 cap L 2 t d p 2 n _ r3 ht hc hn).mono ?_
        rintro e w4 ⟨rfl, hb4⟩
        have b4 := B3.trans (hb4.mono (by omega))
        clear hb4
        go_wp2_with fail
        go_ret
        exact ⟨ret_bool (by rw [HF.out]; simp), b4⟩
      · have hzb : ((n + (j : Int)) % 8 != 0) = true := by simp [hz]
        have hq : (n + (j : Int)) / 8 = (n) / 8 := by omega
        have HQ : Hid _ := hq
        have HZ : Hid (¬ (n + (j : Int)) % 8 = 0) := hz
        clear hq hz
        have hxu : U64 (L.getD (t + (n) / 8).toNat 0) := hLL _
        cases b with
        | false =>
          have hnext := no_round _ _ (n) j hxu hb.out.symm
          have HN : Hid _ := hnext
          clear hnext hb hxu
          go_wp2
          go_round
          case rel => exact ⟨j + 1, false, by go_num, rfl, HN.out.symm, by have := HZ.out; omega, by have := HZ.out; have := H0.out; omega⟩
          case measure => have hz' := HZ.out; simp [intOf]; omega
        | true =>
          by_cases hin : t + (n + (j : Int)) / 8 < (257 : Int)
          · have hin' : decide (t + (n) / 8 < (L.length : Int)) = true := by rw [HLEN.out]; have := HQ.out; simp; omega
            have hbo : okj true (L.getD (t + (n) / 8).toNat 0) ((n) % 8).toNat j = true := by have := hb.out.symm; rw [hin'] at this; exact this
            have hnext := one_round _ (n) j hxu h8 HZ.out hbo
            have HN : Hid _ := hnext
            obtain ⟨bb, off, hae, hlt, hcell, -⟩ := r3.at (t + (n) / 8).toNat (by have := HQ.out; omega)
            rw [← HQ.out] at hcell
            have HI : Hid _ := hin'
            have HA : Hid _ := hae
            clear hnext hb hin' hbo hae
            rw [← HQ.out] at HN hxu
            generalize hxx : L.getD (t + (n + (j : Int)) / 8).toNat 0 = x at HN hcell hxu
            have HX : Hid _ := hxx
            clear hxx
            rw [HA.out]
            go_wp2
            go_round
            case rel => exact ⟨j + 1, _, by go_num, rfl, by rw [HI.out, ← HQ.out, HX.out]; exact HN.out, by have := HZ.out; omega, by have := HZ.out; have := H0.out; omega⟩
            case measure => have hz' := HZ.out; simp [intOf]; omega
          · have hin' : decide (t + (n) / 8 < (L.length : Int)) = false := by rw [HLEN.out]; have := HQ.out; simp; omega
            have HI : Hid _ := hin'
            clear hb hin' hxu
            go_wp2
            go_round
            case rel => exact ⟨j + 1, false, by go_num, rfl, by rw [HI.out]; exact (okj_out _ _ _).symm, by have := HZ.out; omega, by have := HZ.out; have := H0.out; omega⟩
            case measure => have hz' := HZ.out; simp [intOf]; omega

set_option maxHeartbeats 2000000 in
theorem walk_3 (a : Option Addr) (len cap : Nat) (l : List Int) (t d p n : Int) (w : World) (hr : Row w a len l) (hcap : len ≤ cap) (hk : U8 2) (ht : U16 t) (hd : U8 d) (hp : U8 p) (hc : U8 3) (hn : U16 n) :
    Calls Faig.prog 11 #[.slice a len cap, .agg #[.int .u8 2, .int .u16 t, .int .u8 d, .int .u8 p, .int .u8 3, .int .u16 n]] w fun e w' => e = .returned (.bool true) ∧ Below w.heap.size w w' := by
  have hm := hr.2.2.1
  unfold maxLen at hm
  have h16 := same16 2 t 3 ht
  have hn' := hn
  have ht' := ht
  obtain ⟨n0, n1⟩ := hn'
  obtain ⟨t0, t1⟩ := ht'
  by_cases h257 : len ≤ 257
  · have hrm := hr
    generalize l = L at hrm
    have hLL := hrm.2.1
    have HLEN : Hid (L.length = len) := hrm.1
    clear hr
    go_enter Faig.func11, Faig.ntmps11
    go_wp2_with fail
    refine (extent_any 2 t d p 3 n hk ht hd hp hc hn _).mono ?_
    rintro e w1 ⟨rfl, hb1⟩
    have s1 := six_mono six_start0 hb1
    have r1 := (hrm.alloc _).below hb1 (Nat.le_refl _)
    clear hb1
    have s1' := s1
    obtain ⟨B1, _, z1, c10, c11, c12, c13, c14, c15⟩ := s1'
    go_wp2_with fail
    refine (words_any 2 t d p 3 n hk ht hd hp hc hn _).mono ?_
    rintro e w2 ⟨rfl, hb2⟩
    have s2 := six_mono s1 hb2
    have r2 := r1.below hb2 (Nat.le_refl _)
    clear hb2 s1 B1 z1 c10 c11 c12 c13 c14 c15 r1
    have s2' := s2
    obtain ⟨B2, _, z2, c20, c21, c22, c23, c24, c25⟩ := s2'
    go_wp2_with fail
    refine (first_named 2 t d p 3 n ht _).mono ?_
    rintro e w3 ⟨rfl, hb3⟩
    have s3 := six_mono s2 hb3
    have r3 := r2.below hb3 (Nat.le_refl _)
    clear hb3 s2 B2 z2 c20 c21 c22 c23 c24 c25 r2
    have s3' := s3
    obtain ⟨B3, _, z3, c30, c31, c32, c33, c34, c35⟩ := s3'
    go_wp2_with fail
    go_loop [7, 8] (fun want i => ∃ (j : Nat) (b : Bool), i = .int .i64 (n * 2 + j) ∧ want = .bool b ∧ Hid (b = okj (decide (t + (n * 2) / 8 < (L.length : Int))) (L.getD (t + (n * 2) / 8).toNat 0) ((n * 2) % 8).toNat j) ∧ (n * 2) % 8 + j ≤ 8 ∧ ((n * 2) % 8 = 0 → j = 0)) (fun _ i => ((n * 2) + 8 - intOf i).toNat)
    case atStart => exact ⟨0, true, by go_num, rfl, (okj_zero _ _ _).symm, by omega, fun _ => rfl⟩
    case round =>
      obtain ⟨j, b, rfl, rfl, hb, h8, h0⟩ := hrel
      have H0 : Hid ((n * 2) % 8 = 0 → j = 0) := h0
      clear h0
      by_cases hz : (n * 2 + j) % 8 = 0
      · have hfin := end_pad L t 3 n (n * 2) j hLL (by unfold width; simp) h8 H0.out hz
        have HF : Hid (b = pad L 2 t 3 n) := hb.out.trans hfin
        have hzb : ((n * 2 + (j : Int)) % 8 != 0) = false := by simp [hz]
        clear hfin hb hz H0
        go_wp2_with fail
        refine (padded_any a len cap L 2 t d p 3 n _ r3 ht hc hn).mono ?_
        rintro e w4 ⟨rfl, hb4⟩
        have b4 := B3.trans (hb4.mono (by omega))
        clear hb4
        go_wp2_with fail
        go_ret
        exact ⟨ret_bool (by rw [HF.out]; simp), b4⟩
      · have hzb : ((n * 2 + (j : Int)) % 8 != 0) = true := by simp [hz]
        have hq : (n * 2 + (j : Int)) / 8 = (n * 2) / 8 := by omega
        have HQ : Hid _ := hq
        have HZ : Hid (¬ (n * 2 + (j : Int)) % 8 = 0) := hz
        clear hq hz
        have hxu : U64 (L.getD (t + (n * 2) / 8).toNat 0) := hLL _
        cases b with
        | false =>
          have hnext := no_round _ _ (n * 2) j hxu hb.out.symm
          have HN : Hid _ := hnext
          clear hnext hb hxu
          go_wp2
          go_round
          case rel => exact ⟨j + 1, false, by go_num, rfl, HN.out.symm, by have := HZ.out; omega, by have := HZ.out; have := H0.out; omega⟩
          case measure => have hz' := HZ.out; simp [intOf]; omega
        | true =>
          by_cases hin : t + (n * 2 + (j : Int)) / 8 < (len : Int)
          · have hin' : decide (t + (n * 2) / 8 < (L.length : Int)) = true := by rw [HLEN.out]; have := HQ.out; simp; omega
            have hbo : okj true (L.getD (t + (n * 2) / 8).toNat 0) ((n * 2) % 8).toNat j = true := by have := hb.out.symm; rw [hin'] at this; exact this
            have hnext := one_round _ (n * 2) j hxu h8 HZ.out hbo
            have HN : Hid _ := hnext
            obtain ⟨bb, off, hae, hlt, hcell, -⟩ := r3.at (t + (n * 2) / 8).toNat (by have := HQ.out; omega)
            rw [← HQ.out] at hcell
            have HI : Hid _ := hin'
            have HA : Hid _ := hae
            clear hnext hb hin' hbo hae
            rw [← HQ.out] at HN hxu
            generalize hxx : L.getD (t + (n * 2 + (j : Int)) / 8).toNat 0 = x at HN hcell hxu
            have HX : Hid _ := hxx
            clear hxx
            rw [HA.out]
            go_wp2
            go_round
            case rel => exact ⟨j + 1, _, by go_num, rfl, by rw [HI.out, ← HQ.out, HX.out]; exact HN.out, by have := HZ.out; omega, by have := HZ.out; have := H0.out; omega⟩
            case measure => have hz' := HZ.out; simp [intOf]; omega
          · have hin' : decide (t + (n * 2) / 8 < (L.length : Int)) = false := by rw [HLEN.out]; have := HQ.out; simp; omega
            have HI : Hid _ := hin'
            clear hb hin' hxu
            go_wp2
            go_round
            case rel => exact ⟨j + 1, false, by go_num, rfl, by rw [HI.out]; exact (okj_out _ _ _).symm, by have := HZ.out; omega, by have := HZ.out; have := H0.out; omega⟩
            case measure => have hz' := HZ.out; simp [intOf]; omega
  · have hrm := hr.take 257 (by omega)
    generalize l.take 257 = L at hrm
    have hLL := hrm.2.1
    have HLEN : Hid (L.length = 257) := hrm.1
    clear hr
    go_enter Faig.func11, Faig.ntmps11
    go_wp2_with fail
    refine (extent_any 2 t d p 3 n hk ht hd hp hc hn _).mono ?_
    rintro e w1 ⟨rfl, hb1⟩
    have s1 := six_mono six_start0 hb1
    have r1 := (hrm.alloc _).below hb1 (Nat.le_refl _)
    clear hb1
    have s1' := s1
    obtain ⟨B1, _, z1, c10, c11, c12, c13, c14, c15⟩ := s1'
    go_wp2_with fail
    refine (words_any 2 t d p 3 n hk ht hd hp hc hn _).mono ?_
    rintro e w2 ⟨rfl, hb2⟩
    have s2 := six_mono s1 hb2
    have r2 := r1.below hb2 (Nat.le_refl _)
    clear hb2 s1 B1 z1 c10 c11 c12 c13 c14 c15 r1
    have s2' := s2
    obtain ⟨B2, _, z2, c20, c21, c22, c23, c24, c25⟩ := s2'
    go_wp2_with fail
    refine (first_named 2 t d p 3 n ht _).mono ?_
    rintro e w3 ⟨rfl, hb3⟩
    have s3 := six_mono s2 hb3
    have r3 := r2.below hb3 (Nat.le_refl _)
    clear hb3 s2 B2 z2 c20 c21 c22 c23 c24 c25 r2
    have s3' := s3
    obtain ⟨B3, _, z3, c30, c31, c32, c33, c34, c35⟩ := s3'
    go_wp2_with fail
    go_loop [7, 8] (fun want i => ∃ (j : Nat) (b : Bool), i = .int .i64 (n * 2 + j) ∧ want = .bool b ∧ Hid (b = okj (decide (t + (n * 2) / 8 < (L.length : Int))) (L.getD (t + (n * 2) / 8).toNat 0) ((n * 2) % 8).toNat j) ∧ (n * 2) % 8 + j ≤ 8 ∧ ((n * 2) % 8 = 0 → j = 0)) (fun _ i => ((n * 2) + 8 - intOf i).toNat)
    case atStart => exact ⟨0, true, by go_num, rfl, (okj_zero _ _ _).symm, by omega, fun _ => rfl⟩
    case round =>
      obtain ⟨j, b, rfl, rfl, hb, h8, h0⟩ := hrel
      have H0 : Hid ((n * 2) % 8 = 0 → j = 0) := h0
      clear h0
      by_cases hz : (n * 2 + j) % 8 = 0
      · have hfin := end_pad L t 3 n (n * 2) j hLL (by unfold width; simp) h8 H0.out hz
        have HF : Hid (b = pad L 2 t 3 n) := hb.out.trans hfin
        have hzb : ((n * 2 + (j : Int)) % 8 != 0) = false := by simp [hz]
        clear hfin hb hz H0
        go_wp2_with fail
        refine (padded_any a 257 cap L 2 t d p 3 n _ r3 ht hc hn).mono ?_
        rintro e w4 ⟨rfl, hb4⟩
        have b4 := B3.trans (hb4.mono (by omega))
        clear hb4
        go_wp2_with fail
        go_ret
        exact ⟨ret_bool (by rw [HF.out]; simp), b4⟩
      · have hzb : ((n * 2 + (j : Int)) % 8 != 0) = true := by simp [hz]
        have hq : (n * 2 + (j : Int)) / 8 = (n * 2) / 8 := by omega
        have HQ : Hid _ := hq
        have HZ : Hid (¬ (n * 2 + (j : Int)) % 8 = 0) := hz
        clear hq hz
        have hxu : U64 (L.getD (t + (n * 2) / 8).toNat 0) := hLL _
        cases b with
        | false =>
          have hnext := no_round _ _ (n * 2) j hxu hb.out.symm
          have HN : Hid _ := hnext
          clear hnext hb hxu
          go_wp2
          go_round
          case rel => exact ⟨j + 1, false, by go_num, rfl, HN.out.symm, by have := HZ.out; omega, by have := HZ.out; have := H0.out; omega⟩
          case measure => have hz' := HZ.out; simp [intOf]; omega
        | true =>
          by_cases hin : t + (n * 2 + (j : Int)) / 8 < (257 : Int)
          · have hin' : decide (t + (n * 2) / 8 < (L.length : Int)) = true := by rw [HLEN.out]; have := HQ.out; simp; omega
            have hbo : okj true (L.getD (t + (n * 2) / 8).toNat 0) ((n * 2) % 8).toNat j = true := by have := hb.out.symm; rw [hin'] at this; exact this
            have hnext := one_round _ (n * 2) j hxu h8 HZ.out hbo
            have HN : Hid _ := hnext
            obtain ⟨bb, off, hae, hlt, hcell, -⟩ := r3.at (t + (n * 2) / 8).toNat (by have := HQ.out; omega)
            rw [← HQ.out] at hcell
            have HI : Hid _ := hin'
            have HA : Hid _ := hae
            clear hnext hb hin' hbo hae
            rw [← HQ.out] at HN hxu
            generalize hxx : L.getD (t + (n * 2 + (j : Int)) / 8).toNat 0 = x at HN hcell hxu
            have HX : Hid _ := hxx
            clear hxx
            rw [HA.out]
            go_wp2
            go_round
            case rel => exact ⟨j + 1, _, by go_num, rfl, by rw [HI.out, ← HQ.out, HX.out]; exact HN.out, by have := HZ.out; omega, by have := HZ.out; have := H0.out; omega⟩
            case measure => have hz' := HZ.out; simp [intOf]; omega
          · have hin' : decide (t + (n * 2) / 8 < (L.length : Int)) = false := by rw [HLEN.out]; have := HQ.out; simp; omega
            have HI : Hid _ := hin'
            clear hb hin' hxu
            go_wp2
            go_round
            case rel => exact ⟨j + 1, false, by go_num, rfl, by rw [HI.out]; exact (okj_out _ _ _).symm, by have := HZ.out; omega, by have := HZ.out; have := H0.out; omega⟩
            case measure => have hz' := HZ.out; simp [intOf]; omega

set_option maxHeartbeats 2000000 in
theorem walk_4 (a : Option Addr) (len cap : Nat) (l : List Int) (t d p n : Int) (w : World) (hr : Row w a len l) (hcap : len ≤ cap) (hk : U8 2) (ht : U16 t) (hd : U8 d) (hp : U8 p) (hc : U8 4) (hn : U16 n) :
    Calls Faig.prog 11 #[.slice a len cap, .agg #[.int .u8 2, .int .u16 t, .int .u8 d, .int .u8 p, .int .u8 4, .int .u16 n]] w fun e w' => e = .returned (.bool true) ∧ Below w.heap.size w w' := by
  have hm := hr.2.2.1
  unfold maxLen at hm
  have h16 := same16 2 t 4 ht
  have hn' := hn
  have ht' := ht
  obtain ⟨n0, n1⟩ := hn'
  obtain ⟨t0, t1⟩ := ht'
  by_cases h257 : len ≤ 257
  · have hrm := hr
    generalize l = L at hrm
    have hLL := hrm.2.1
    have HLEN : Hid (L.length = len) := hrm.1
    clear hr
    go_enter Faig.func11, Faig.ntmps11
    go_wp2_with fail
    refine (extent_any 2 t d p 4 n hk ht hd hp hc hn _).mono ?_
    rintro e w1 ⟨rfl, hb1⟩
    have s1 := six_mono six_start0 hb1
    have r1 := (hrm.alloc _).below hb1 (Nat.le_refl _)
    clear hb1
    have s1' := s1
    obtain ⟨B1, _, z1, c10, c11, c12, c13, c14, c15⟩ := s1'
    go_wp2_with fail
    refine (words_any 2 t d p 4 n hk ht hd hp hc hn _).mono ?_
    rintro e w2 ⟨rfl, hb2⟩
    have s2 := six_mono s1 hb2
    have r2 := r1.below hb2 (Nat.le_refl _)
    clear hb2 s1 B1 z1 c10 c11 c12 c13 c14 c15 r1
    have s2' := s2
    obtain ⟨B2, _, z2, c20, c21, c22, c23, c24, c25⟩ := s2'
    go_wp2_with fail
    refine (first_named 2 t d p 4 n ht _).mono ?_
    rintro e w3 ⟨rfl, hb3⟩
    have s3 := six_mono s2 hb3
    have r3 := r2.below hb3 (Nat.le_refl _)
    clear hb3 s2 B2 z2 c20 c21 c22 c23 c24 c25 r2
    have s3' := s3
    obtain ⟨B3, _, z3, c30, c31, c32, c33, c34, c35⟩ := s3'
    go_wp2_with fail
    go_loop [7, 8] (fun want i => ∃ (j : Nat) (b : Bool), i = .int .i64 (n * 4 + j) ∧ want = .bool b ∧ Hid (b = okj (decide (t + (n * 4) / 8 < (L.length : Int))) (L.getD (t + (n * 4) / 8).toNat 0) ((n * 4) % 8).toNat j) ∧ (n * 4) % 8 + j ≤ 8 ∧ ((n * 4) % 8 = 0 → j = 0)) (fun _ i => ((n * 4) + 8 - intOf i).toNat)
    case atStart => exact ⟨0, true, by go_num, rfl, (okj_zero _ _ _).symm, by omega, fun _ => rfl⟩
    case round =>
      obtain ⟨j, b, rfl, rfl, hb, h8, h0⟩ := hrel
      have H0 : Hid ((n * 4) % 8 = 0 → j = 0) := h0
      clear h0
      by_cases hz : (n * 4 + j) % 8 = 0
      · have hfin := end_pad L t 4 n (n * 4) j hLL (by unfold width; simp) h8 H0.out hz
        have HF : Hid (b = pad L 2 t 4 n) := hb.out.trans hfin
        have hzb : ((n * 4 + (j : Int)) % 8 != 0) = false := by simp [hz]
        clear hfin hb hz H0
        go_wp2_with fail
        refine (padded_any a len cap L 2 t d p 4 n _ r3 ht hc hn).mono ?_
        rintro e w4 ⟨rfl, hb4⟩
        have b4 := B3.trans (hb4.mono (by omega))
        clear hb4
        go_wp2_with fail
        go_ret
        exact ⟨ret_bool (by rw [HF.out]; simp), b4⟩
      · have hzb : ((n * 4 + (j : Int)) % 8 != 0) = true := by simp [hz]
        have hq : (n * 4 + (j : Int)) / 8 = (n * 4) / 8 := by omega
        have HQ : Hid _ := hq
        have HZ : Hid (¬ (n * 4 + (j : Int)) % 8 = 0) := hz
        clear hq hz
        have hxu : U64 (L.getD (t + (n * 4) / 8).toNat 0) := hLL _
        cases b with
        | false =>
          have hnext := no_round _ _ (n * 4) j hxu hb.out.symm
          have HN : Hid _ := hnext
          clear hnext hb hxu
          go_wp2
          go_round
          case rel => exact ⟨j + 1, false, by go_num, rfl, HN.out.symm, by have := HZ.out; omega, by have := HZ.out; have := H0.out; omega⟩
          case measure => have hz' := HZ.out; simp [intOf]; omega
        | true =>
          by_cases hin : t + (n * 4 + (j : Int)) / 8 < (len : Int)
          · have hin' : decide (t + (n * 4) / 8 < (L.length : Int)) = true := by rw [HLEN.out]; have := HQ.out; simp; omega
            have hbo : okj true (L.getD (t + (n * 4) / 8).toNat 0) ((n * 4) % 8).toNat j = true := by have := hb.out.symm; rw [hin'] at this; exact this
            have hnext := one_round _ (n * 4) j hxu h8 HZ.out hbo
            have HN : Hid _ := hnext
            obtain ⟨bb, off, hae, hlt, hcell, -⟩ := r3.at (t + (n * 4) / 8).toNat (by have := HQ.out; omega)
            rw [← HQ.out] at hcell
            have HI : Hid _ := hin'
            have HA : Hid _ := hae
            clear hnext hb hin' hbo hae
            rw [← HQ.out] at HN hxu
            generalize hxx : L.getD (t + (n * 4 + (j : Int)) / 8).toNat 0 = x at HN hcell hxu
            have HX : Hid _ := hxx
            clear hxx
            rw [HA.out]
            go_wp2
            go_round
            case rel => exact ⟨j + 1, _, by go_num, rfl, by rw [HI.out, ← HQ.out, HX.out]; exact HN.out, by have := HZ.out; omega, by have := HZ.out; have := H0.out; omega⟩
            case measure => have hz' := HZ.out; simp [intOf]; omega
          · have hin' : decide (t + (n * 4) / 8 < (L.length : Int)) = false := by rw [HLEN.out]; have := HQ.out; simp; omega
            have HI : Hid _ := hin'
            clear hb hin' hxu
            go_wp2
            go_round
            case rel => exact ⟨j + 1, false, by go_num, rfl, by rw [HI.out]; exact (okj_out _ _ _).symm, by have := HZ.out; omega, by have := HZ.out; have := H0.out; omega⟩
            case measure => have hz' := HZ.out; simp [intOf]; omega
  · have hrm := hr.take 257 (by omega)
    generalize l.take 257 = L at hrm
    have hLL := hrm.2.1
    have HLEN : Hid (L.length = 257) := hrm.1
    clear hr
    go_enter Faig.func11, Faig.ntmps11
    go_wp2_with fail
    refine (extent_any 2 t d p 4 n hk ht hd hp hc hn _).mono ?_
    rintro e w1 ⟨rfl, hb1⟩
    have s1 := six_mono six_start0 hb1
    have r1 := (hrm.alloc _).below hb1 (Nat.le_refl _)
    clear hb1
    have s1' := s1
    obtain ⟨B1, _, z1, c10, c11, c12, c13, c14, c15⟩ := s1'
    go_wp2_with fail
    refine (words_any 2 t d p 4 n hk ht hd hp hc hn _).mono ?_
    rintro e w2 ⟨rfl, hb2⟩
    have s2 := six_mono s1 hb2
    have r2 := r1.below hb2 (Nat.le_refl _)
    clear hb2 s1 B1 z1 c10 c11 c12 c13 c14 c15 r1
    have s2' := s2
    obtain ⟨B2, _, z2, c20, c21, c22, c23, c24, c25⟩ := s2'
    go_wp2_with fail
    refine (first_named 2 t d p 4 n ht _).mono ?_
    rintro e w3 ⟨rfl, hb3⟩
    have s3 := six_mono s2 hb3
    have r3 := r2.below hb3 (Nat.le_refl _)
    clear hb3 s2 B2 z2 c20 c21 c22 c23 c24 c25 r2
    have s3' := s3
    obtain ⟨B3, _, z3, c30, c31, c32, c33, c34, c35⟩ := s3'
    go_wp2_with fail
    go_loop [7, 8] (fun want i => ∃ (j : Nat) (b : Bool), i = .int .i64 (n * 4 + j) ∧ want = .bool b ∧ Hid (b = okj (decide (t + (n * 4) / 8 < (L.length : Int))) (L.getD (t + (n * 4) / 8).toNat 0) ((n * 4) % 8).toNat j) ∧ (n * 4) % 8 + j ≤ 8 ∧ ((n * 4) % 8 = 0 → j = 0)) (fun _ i => ((n * 4) + 8 - intOf i).toNat)
    case atStart => exact ⟨0, true, by go_num, rfl, (okj_zero _ _ _).symm, by omega, fun _ => rfl⟩
    case round =>
      obtain ⟨j, b, rfl, rfl, hb, h8, h0⟩ := hrel
      have H0 : Hid ((n * 4) % 8 = 0 → j = 0) := h0
      clear h0
      by_cases hz : (n * 4 + j) % 8 = 0
      · have hfin := end_pad L t 4 n (n * 4) j hLL (by unfold width; simp) h8 H0.out hz
        have HF : Hid (b = pad L 2 t 4 n) := hb.out.trans hfin
        have hzb : ((n * 4 + (j : Int)) % 8 != 0) = false := by simp [hz]
        clear hfin hb hz H0
        go_wp2_with fail
        refine (padded_any a 257 cap L 2 t d p 4 n _ r3 ht hc hn).mono ?_
        rintro e w4 ⟨rfl, hb4⟩
        have b4 := B3.trans (hb4.mono (by omega))
        clear hb4
        go_wp2_with fail
        go_ret
        exact ⟨ret_bool (by rw [HF.out]; simp), b4⟩
      · have hzb : ((n * 4 + (j : Int)) % 8 != 0) = true := by simp [hz]
        have hq : (n * 4 + (j : Int)) / 8 = (n * 4) / 8 := by omega
        have HQ : Hid _ := hq
        have HZ : Hid (¬ (n * 4 + (j : Int)) % 8 = 0) := hz
        clear hq hz
        have hxu : U64 (L.getD (t + (n * 4) / 8).toNat 0) := hLL _
        cases b with
        | false =>
          have hnext := no_round _ _ (n * 4) j hxu hb.out.symm
          have HN : Hid _ := hnext
          clear hnext hb hxu
          go_wp2
          go_round
          case rel => exact ⟨j + 1, false, by go_num, rfl, HN.out.symm, by have := HZ.out; omega, by have := HZ.out; have := H0.out; omega⟩
          case measure => have hz' := HZ.out; simp [intOf]; omega
        | true =>
          by_cases hin : t + (n * 4 + (j : Int)) / 8 < (257 : Int)
          · have hin' : decide (t + (n * 4) / 8 < (L.length : Int)) = true := by rw [HLEN.out]; have := HQ.out; simp; omega
            have hbo : okj true (L.getD (t + (n * 4) / 8).toNat 0) ((n * 4) % 8).toNat j = true := by have := hb.out.symm; rw [hin'] at this; exact this
            have hnext := one_round _ (n * 4) j hxu h8 HZ.out hbo
            have HN : Hid _ := hnext
            obtain ⟨bb, off, hae, hlt, hcell, -⟩ := r3.at (t + (n * 4) / 8).toNat (by have := HQ.out; omega)
            rw [← HQ.out] at hcell
            have HI : Hid _ := hin'
            have HA : Hid _ := hae
            clear hnext hb hin' hbo hae
            rw [← HQ.out] at HN hxu
            generalize hxx : L.getD (t + (n * 4 + (j : Int)) / 8).toNat 0 = x at HN hcell hxu
            have HX : Hid _ := hxx
            clear hxx
            rw [HA.out]
            go_wp2
            go_round
            case rel => exact ⟨j + 1, _, by go_num, rfl, by rw [HI.out, ← HQ.out, HX.out]; exact HN.out, by have := HZ.out; omega, by have := HZ.out; have := H0.out; omega⟩
            case measure => have hz' := HZ.out; simp [intOf]; omega
          · have hin' : decide (t + (n * 4) / 8 < (L.length : Int)) = false := by rw [HLEN.out]; have := HQ.out; simp; omega
            have HI : Hid _ := hin'
            clear hb hin' hxu
            go_wp2
            go_round
            case rel => exact ⟨j + 1, false, by go_num, rfl, by rw [HI.out]; exact (okj_out _ _ _).symm, by have := HZ.out; omega, by have := HZ.out; have := H0.out; omega⟩
            case measure => have hz' := HZ.out; simp [intOf]; omega

set_option maxHeartbeats 2000000 in
theorem walk_5 (a : Option Addr) (len cap : Nat) (l : List Int) (t d p n : Int) (w : World) (hr : Row w a len l) (hcap : len ≤ cap) (hk : U8 2) (ht : U16 t) (hd : U8 d) (hp : U8 p) (hc : U8 5) (hn : U16 n) :
    Calls Faig.prog 11 #[.slice a len cap, .agg #[.int .u8 2, .int .u16 t, .int .u8 d, .int .u8 p, .int .u8 5, .int .u16 n]] w fun e w' => e = .returned (.bool true) ∧ Below w.heap.size w w' := by
  have hm := hr.2.2.1
  unfold maxLen at hm
  have h16 := same16 2 t 5 ht
  have hn' := hn
  have ht' := ht
  obtain ⟨n0, n1⟩ := hn'
  obtain ⟨t0, t1⟩ := ht'
  have hpt : ∀ L, pad L 2 t 5 n = true := fun L => by unfold pad width; simp
  by_cases h257 : len ≤ 257
  · have hrm := hr
    generalize l = L at hrm
    have hpL := hpt L
    clear hr hpt
    go_enter Faig.func11, Faig.ntmps11
    go_wp2_with fail
    refine (extent_any 2 t d p 5 n hk ht hd hp hc hn _).mono ?_
    rintro e w1 ⟨rfl, hb1⟩
    have s1 := six_mono six_start0 hb1
    have r1 := (hrm.alloc _).below hb1 (Nat.le_refl _)
    clear hb1
    have s1' := s1
    obtain ⟨B1, _, z1, c10, c11, c12, c13, c14, c15⟩ := s1'
    go_wp2_with fail
    refine (words_any 2 t d p 5 n hk ht hd hp hc hn _).mono ?_
    rintro e w2 ⟨rfl, hb2⟩
    have s2 := six_mono s1 hb2
    have r2 := r1.below hb2 (Nat.le_refl _)
    clear hb2 s1 B1 z1 c10 c11 c12 c13 c14 c15 r1
    have s2' := s2
    obtain ⟨B2, _, z2, c20, c21, c22, c23, c24, c25⟩ := s2'
    go_wp2_with fail
    refine (first_named 2 t d p 5 n ht _).mono ?_
    rintro e w3 ⟨rfl, hb3⟩
    have s3 := six_mono s2 hb3
    have r3 := r2.below hb3 (Nat.le_refl _)
    clear hb3 s2 B2 z2 c20 c21 c22 c23 c24 c25 r2
    have s3' := s3
    obtain ⟨B3, _, z3, c30, c31, c32, c33, c34, c35⟩ := s3'
    go_wp2_with fail
    go_loop [7, 8] (fun want i => i = .int .i64 (n * 8) ∧ want = .bool true) (fun _ _ => 0)
    case atStart => exact ⟨rfl, rfl⟩
    case round =>
      obtain ⟨rfl, rfl⟩ := hrel
      go_wp2_with fail
      refine (padded_any a len cap L 2 t d p 5 n _ r3 ht hc hn).mono ?_
      rintro e w4 ⟨rfl, hb4⟩
      have b4 := B3.trans (hb4.mono (by omega))
      clear hb4
      go_wp2_with fail
      go_ret
      exact ⟨ret_bool (by first | rfl | simp [hpL]), b4⟩
  · have hrm := hr.take 257 (by omega)
    generalize l.take 257 = L at hrm
    have hpL := hpt L
    clear hr hpt
    go_enter Faig.func11, Faig.ntmps11
    go_wp2_with fail
    refine (extent_any 2 t d p 5 n hk ht hd hp hc hn _).mono ?_
    rintro e w1 ⟨rfl, hb1⟩
    have s1 := six_mono six_start0 hb1
    have r1 := (hrm.alloc _).below hb1 (Nat.le_refl _)
    clear hb1
    have s1' := s1
    obtain ⟨B1, _, z1, c10, c11, c12, c13, c14, c15⟩ := s1'
    go_wp2_with fail
    refine (words_any 2 t d p 5 n hk ht hd hp hc hn _).mono ?_
    rintro e w2 ⟨rfl, hb2⟩
    have s2 := six_mono s1 hb2
    have r2 := r1.below hb2 (Nat.le_refl _)
    clear hb2 s1 B1 z1 c10 c11 c12 c13 c14 c15 r1
    have s2' := s2
    obtain ⟨B2, _, z2, c20, c21, c22, c23, c24, c25⟩ := s2'
    go_wp2_with fail
    refine (first_named 2 t d p 5 n ht _).mono ?_
    rintro e w3 ⟨rfl, hb3⟩
    have s3 := six_mono s2 hb3
    have r3 := r2.below hb3 (Nat.le_refl _)
    clear hb3 s2 B2 z2 c20 c21 c22 c23 c24 c25 r2
    have s3' := s3
    obtain ⟨B3, _, z3, c30, c31, c32, c33, c34, c35⟩ := s3'
    go_wp2_with fail
    go_loop [7, 8] (fun want i => i = .int .i64 (n * 8) ∧ want = .bool true) (fun _ _ => 0)
    case atStart => exact ⟨rfl, rfl⟩
    case round =>
      obtain ⟨rfl, rfl⟩ := hrel
      go_wp2_with fail
      refine (padded_any a 257 cap L 2 t d p 5 n _ r3 ht hc hn).mono ?_
      rintro e w4 ⟨rfl, hb4⟩
      have b4 := B3.trans (hb4.mono (by omega))
      clear hb4
      go_wp2_with fail
      go_ret
      exact ⟨ret_bool (by first | rfl | simp [hpL]), b4⟩
end Go.Proofs.Ygcfai.extentRight

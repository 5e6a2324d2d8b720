/-
  THE WALKS of law.structBack, law.structsBack and law.PtrBack.
-/
import Derived.Test.YgcfaiAnswers
namespace Go.Proofs.Ygcfai
open Go.RowKit Plain
set_option linter.unusedSimpArgs false
set_option linter.unusedVariables false

theorem msv_u64 (f t d p : Int) (d0 : 0 ≤ d) (p0 : 0 ≤ p) : U64 (msv f t d p) := by
  have hb := offv_bd f t
  unfold msv
  split
  · rename_i h
    simp [mkS] at h
    split
    · exact ⟨by omega, by omega⟩
    · exact ⟨by omega, by omega⟩
  · exact ⟨by omega, by omega⟩
theorem mlv_u64 (f t c n : Int) (n0 : 0 ≤ n) : U64 (mlv f t c n) := by
  have hb := offv_bd f t
  unfold mlv
  split
  · rename_i h
    have := mkL_bd h
    exact ⟨by omega, by omega⟩
  · exact ⟨by omega, by omega⟩
theorem below_new {w w1 w' : World} (h1 : Below w.heap.size w w1) (h2 : Below w.heap.size w1 w') : Below w.heap.size w w' := h1.trans h2

set_option maxHeartbeats 1000000 in
theorem structBack_no (f t d p : Int) (hf : U16 f) (ht : U16 t) (hd : U8 d) (hp : U8 p) (w : World) (hS : mkS f t d p = false) :
    Calls Faig.prog 36 #[.int .u16 f, .int .u16 t, .int .u8 d, .int .u8 p] w fun e w' => e = .returned (.bool true) ∧ Below w.heap.size w w' := by
  have hfU := hf
  have htU := ht
  have hdU := hd
  have hpU := hp
  obtain ⟨f0, f1⟩ := hf; obtain ⟨t0, t1⟩ := ht; obtain ⟨d0, d1⟩ := hd; obtain ⟨p0, p1⟩ := hp
  have hz : msv f t d p = 0 := by simp [msv, hS]
  go_enter Faig.func36, Faig.ntmps36
  go_wp2_with fail
  refine (makeStruct_any f t d p hfU htU hdU hpU _).mono ?_
  rintro e w' ⟨rfl, hw'⟩
  subst w'
  go_wp2_with fail
  refine (makesStruct_any f t d p _).mono ?_
  rintro e w' ⟨rfl, hw'⟩
  subst w'
  go_wp2_with fail
  go_ret
  exact ⟨rfl, Below.refl _ _⟩

set_option maxRecDepth 100000 in
set_option maxHeartbeats 1000000 in
theorem structBack_z (f t : Int) (hf : U16 f) (ht : U16 t) (hd : U8 0) (hp : U8 0) (w : World) (hS : mkS f t 0 0 = true) :
    Calls Faig.prog 36 #[.int .u16 f, .int .u16 t, .int .u8 0, .int .u8 0] w fun e w' => e = .returned (.bool true) ∧ Below w.heap.size w w' := by
  have hfU := hf
  have htU := ht
  have hdU := hd
  have hpU := hp
  obtain ⟨f0, f1⟩ := hf; obtain ⟨t0, t1⟩ := ht; obtain ⟨d0, d1⟩ := hd; obtain ⟨p0, p1⟩ := hp
  obtain ⟨s1, s2, s3, s4⟩ : f < 256 ∧ t ≤ 256 ∧ (0 : Int) ≤ 8 ∧ (0 : Int) ≤ 8 := by simpa [mkS] using hS
  have HB : Hid _ := struct_back0 (List.replicate 256 0) List.length_replicate f t f0 hS
  by_cases hlow : 1 ≤ t
  all_goals
    go_enter Faig.func36, Faig.ntmps36
    go_wp2_with fail
    refine (makeStruct_any f t 0 0 hfU htU hdU hpU _).mono ?_
    rintro e w' ⟨rfl, hw'⟩
    subst w'
    go_wp2_with fail
    refine (makesStruct_any f t 0 0 _).mono ?_
    rintro e w' ⟨rfl, hw'⟩
    subst w'
    go_wp2_with fail
    refine (answers_any w.heap.size (List.replicate 256 0) f (msv f t 0 0) 1 f 0 0 0 0 true _ ((Arr.zero w).alloc _) f0 s1 (msv_u64 f t 0 0 (by omega) (by omega)) HB.out).mono ?_
    rintro e w1 ⟨rfl, hb1⟩
    have b1 := below_new (((Below.refl w.heap.size w).alloc (Nat.le_refl _) (.cells Faig.zeroCells97 97)).alloc (by simp) _) hb1
    clear hb1
    go_wp2_with fail
    go_ret
    exact ⟨rfl, b1⟩

set_option maxRecDepth 100000 in
set_option maxHeartbeats 1000000 in
theorem structBack_da (f t d p : Int) (hf : U16 f) (ht : U16 t) (hd : U8 d) (hp : U8 p) (w : World) (hS : mkS f t d p = true) (hz : ¬ d = 0) (hlow : 1 ≤ t) :
    Calls Faig.prog 36 #[.int .u16 f, .int .u16 t, .int .u8 d, .int .u8 p] w fun e w' => e = .returned (.bool true) ∧ Below w.heap.size w w' := by
  have hfU := hf
  have htU := ht
  have hdU := hd
  have hpU := hp
  obtain ⟨f0, f1⟩ := hf; obtain ⟨t0, t1⟩ := ht; obtain ⟨d0, d1⟩ := hd; obtain ⟨p0, p1⟩ := hp
  obtain ⟨s1, s2, s3, s4⟩ : f < 256 ∧ t ≤ 256 ∧ d ≤ 8 ∧ p ≤ 8 := by simpa [mkS] using hS
  have hB0 := struct_back (List.replicate 256 0) List.length_replicate f t d p f0 t0 d0 p0 hS (by omega)
  have hB1 : resAt ((List.replicate 256 0).set f.toNat (msv f t d p)) f = wanted (decide (t + d + p ≤ 256)) 1 t d p 0 0 := by simpa [hlow] using hB0
  have HB : Hid _ := hB1
  have bz : (d == 0) = false := by simp [hz]
  clear hB0 hB1 hz
  go_enter Faig.func36, Faig.ntmps36
  go_wp2_with fail
  refine (makeStruct_any f t d p hfU htU hdU hpU _).mono ?_
  rintro e w' ⟨rfl, hw'⟩
  subst w'
  go_wp2_with fail
  refine (makesStruct_any f t d p _).mono ?_
  rintro e w' ⟨rfl, hw'⟩
  subst w'
  go_wp2_with fail
  refine (answers_any w.heap.size (List.replicate 256 0) f (msv f t d p) 1 t d p 0 0 (decide (t + d + p ≤ 256)) _ ((Arr.zero w).alloc _) f0 s1 (msv_u64 f t d p (by omega) (by omega)) HB.out).mono ?_
  rintro e w1 ⟨rfl, hb1⟩
  have b1 := below_new (((Below.refl w.heap.size w).alloc (Nat.le_refl _) (.cells Faig.zeroCells97 97)).alloc (by simp) _) hb1
  clear hb1
  go_wp2_with fail
  go_ret
  exact ⟨rfl, b1⟩

set_option maxRecDepth 100000 in
set_option maxHeartbeats 1000000 in
theorem structBack_db (f t d p : Int) (hf : U16 f) (ht : U16 t) (hd : U8 d) (hp : U8 p) (w : World) (hS : mkS f t d p = true) (hz : ¬ d = 0) (hlow : ¬ 1 ≤ t) :
    Calls Faig.prog 36 #[.int .u16 f, .int .u16 t, .int .u8 d, .int .u8 p] w fun e w' => e = .returned (.bool true) ∧ Below w.heap.size w w' := by
  have hfU := hf
  have htU := ht
  have hdU := hd
  have hpU := hp
  obtain ⟨f0, f1⟩ := hf; obtain ⟨t0, t1⟩ := ht; obtain ⟨d0, d1⟩ := hd; obtain ⟨p0, p1⟩ := hp
  obtain ⟨s1, s2, s3, s4⟩ : f < 256 ∧ t ≤ 256 ∧ d ≤ 8 ∧ p ≤ 8 := by simpa [mkS] using hS
  have hB0 := struct_back (List.replicate 256 0) List.length_replicate f t d p f0 t0 d0 p0 hS (by omega)
  have hB1 : resAt ((List.replicate 256 0).set f.toNat (msv f t d p)) f = wanted false 1 t d p 0 0 := by simpa [hlow] using hB0
  have HB : Hid _ := hB1
  have bz : (d == 0) = false := by simp [hz]
  clear hB0 hB1 hz
  go_enter Faig.func36, Faig.ntmps36
  go_wp2_with fail
  refine (makeStruct_any f t d p hfU htU hdU hpU _).mono ?_
  rintro e w' ⟨rfl, hw'⟩
  subst w'
  go_wp2_with fail
  refine (makesStruct_any f t d p _).mono ?_
  rintro e w' ⟨rfl, hw'⟩
  subst w'
  go_wp2_with fail
  refine (answers_any w.heap.size (List.replicate 256 0) f (msv f t d p) 1 t d p 0 0 false _ ((Arr.zero w).alloc _) f0 s1 (msv_u64 f t d p (by omega) (by omega)) HB.out).mono ?_
  rintro e w1 ⟨rfl, hb1⟩
  have b1 := below_new (((Below.refl w.heap.size w).alloc (Nat.le_refl _) (.cells Faig.zeroCells97 97)).alloc (by simp) _) hb1
  clear hb1
  go_wp2_with fail
  go_ret
  exact ⟨rfl, b1⟩

set_option maxRecDepth 100000 in
set_option maxHeartbeats 1000000 in
theorem structBack_pa (f t p : Int) (hf : U16 f) (ht : U16 t) (hd : U8 0) (hp : U8 p) (w : World) (hS : mkS f t 0 p = true) (hz : ¬ p = 0) (hlow : 1 ≤ t) :
    Calls Faig.prog 36 #[.int .u16 f, .int .u16 t, .int .u8 0, .int .u8 p] w fun e w' => e = .returned (.bool true) ∧ Below w.heap.size w w' := by
  have hfU := hf
  have htU := ht
  have hdU := hd
  have hpU := hp
  obtain ⟨f0, f1⟩ := hf; obtain ⟨t0, t1⟩ := ht; obtain ⟨d0, d1⟩ := hd; obtain ⟨p0, p1⟩ := hp
  obtain ⟨s1, s2, s3, s4⟩ : f < 256 ∧ t ≤ 256 ∧ (0 : Int) ≤ 8 ∧ p ≤ 8 := by simpa [mkS] using hS
  have hB0 := struct_back (List.replicate 256 0) List.length_replicate f t 0 p f0 t0 d0 p0 hS (by omega)
  have hB1 : resAt ((List.replicate 256 0).set f.toNat (msv f t 0 p)) f = wanted (decide (t + p ≤ 256)) 1 t 0 p 0 0 := by simpa [hlow] using hB0
  have HB : Hid _ := hB1
  have bz : (p == 0) = false := by simp [hz]
  clear hB0 hB1 hz
  go_enter Faig.func36, Faig.ntmps36
  go_wp2_with fail
  refine (makeStruct_any f t 0 p hfU htU hdU hpU _).mono ?_
  rintro e w' ⟨rfl, hw'⟩
  subst w'
  go_wp2_with fail
  refine (makesStruct_any f t 0 p _).mono ?_
  rintro e w' ⟨rfl, hw'⟩
  subst w'
  go_wp2_with fail
  refine (answers_any w.heap.size (List.replicate 256 0) f (msv f t 0 p) 1 t 0 p 0 0 (decide (t + p ≤ 256)) _ ((Arr.zero w).alloc _) f0 s1 (msv_u64 f t 0 p (by omega) (by omega)) HB.out).mono ?_
  rintro e w1 ⟨rfl, hb1⟩
  have b1 := below_new (((Below.refl w.heap.size w).alloc (Nat.le_refl _) (.cells Faig.zeroCells97 97)).alloc (by simp) _) hb1
  clear hb1
  go_wp2_with fail
  go_ret
  exact ⟨rfl, b1⟩

set_option maxRecDepth 100000 in
set_option maxHeartbeats 1000000 in
theorem structBack_pb (f t p : Int) (hf : U16 f) (ht : U16 t) (hd : U8 0) (hp : U8 p) (w : World) (hS : mkS f t 0 p = true) (hz : ¬ p = 0) (hlow : ¬ 1 ≤ t) :
    Calls Faig.prog 36 #[.int .u16 f, .int .u16 t, .int .u8 0, .int .u8 p] w fun e w' => e = .returned (.bool true) ∧ Below w.heap.size w w' := by
  have hfU := hf
  have htU := ht
  have hdU := hd
  have hpU := hp
  obtain ⟨f0, f1⟩ := hf; obtain ⟨t0, t1⟩ := ht; obtain ⟨d0, d1⟩ := hd; obtain ⟨p0, p1⟩ := hp
  obtain ⟨s1, s2, s3, s4⟩ : f < 256 ∧ t ≤ 256 ∧ (0 : Int) ≤ 8 ∧ p ≤ 8 := by simpa [mkS] using hS
  have hB0 := struct_back (List.replicate 256 0) List.length_replicate f t 0 p f0 t0 d0 p0 hS (by omega)
  have hB1 : resAt ((List.replicate 256 0).set f.toNat (msv f t 0 p)) f = wanted false 1 t 0 p 0 0 := by simpa [hlow] using hB0
  have HB : Hid _ := hB1
  have bz : (p == 0) = false := by simp [hz]
  clear hB0 hB1 hz
  go_enter Faig.func36, Faig.ntmps36
  go_wp2_with fail
  refine (makeStruct_any f t 0 p hfU htU hdU hpU _).mono ?_
  rintro e w' ⟨rfl, hw'⟩
  subst w'
  go_wp2_with fail
  refine (makesStruct_any f t 0 p _).mono ?_
  rintro e w' ⟨rfl, hw'⟩
  subst w'
  go_wp2_with fail
  refine (answers_any w.heap.size (List.replicate 256 0) f (msv f t 0 p) 1 t 0 p 0 0 false _ ((Arr.zero w).alloc _) f0 s1 (msv_u64 f t 0 p (by omega) (by omega)) HB.out).mono ?_
  rintro e w1 ⟨rfl, hb1⟩
  have b1 := below_new (((Below.refl w.heap.size w).alloc (Nat.le_refl _) (.cells Faig.zeroCells97 97)).alloc (by simp) _) hb1
  clear hb1
  go_wp2_with fail
  go_ret
  exact ⟨rfl, b1⟩

theorem structBack_any (f t d p : Int) (hf : U16 f) (ht : U16 t) (hd : U8 d) (hp : U8 p) (w : World) :
    Calls Faig.prog 36 #[.int .u16 f, .int .u16 t, .int .u8 d, .int .u8 p] w fun e w' => e = .returned (.bool true) ∧ Below w.heap.size w w' := by
  cases hS : mkS f t d p with
  | false => exact structBack_no f t d p hf ht hd hp w hS
  | true =>
    by_cases hd0 : d = 0
    · subst hd0
      by_cases hp0 : p = 0
      · subst hp0
        exact structBack_z f t hf ht hd hp w hS
      · by_cases hlow : 1 ≤ t
        · exact structBack_pa f t p hf ht hd hp w hS hp0 hlow
        · exact structBack_pb f t p hf ht hd hp w hS hp0 hlow
    · by_cases hlow : 1 ≤ t
      · exact structBack_da f t d p hf ht hd hp w hS hd0 hlow
      · exact structBack_db f t d p hf ht hd hp w hS hd0 hlow
end Go.Proofs.Ygcfai

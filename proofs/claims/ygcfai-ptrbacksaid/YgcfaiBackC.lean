/-
  THE WALK of law.PtrBack.
-/
import Derived.Test.YgcfaiBackB
namespace Go.Proofs.Ygcfai
open Go.RowKit Plain
set_option linter.unusedSimpArgs false
set_option linter.unusedVariables false

theorem ptrBack_struct (f t d p n : Int) (hf : U16 f) (ht : U16 t) (hd : U8 d) (hp : U8 p) (w : World) :
    Calls Faig.prog 8 #[.int .u16 f, .int .u16 t, .int .u8 d, .int .u8 p, .int .u8 0, .int .u32 n] w fun e w' => e = .returned (.bool true) ∧ Below w.heap.size w w' := by
  go_enter Faig.func8, Faig.ntmps8
  go_wp2_with fail
  refine (structBack_any f t d p hf ht hd hp _).mono ?_
  rintro e w1 ⟨rfl, hb1⟩
  go_wp2_with fail
  go_ret
  exact ⟨rfl, hb1⟩

set_option maxHeartbeats 1000000 in
theorem ptrBack_no (f t d p c n : Int) (hf : U16 f) (ht : U16 t) (hd : U8 d) (hp : U8 p) (hc : U8 c) (hn : 0 ≤ n ∧ n < 4294967296) (w : World) (h0 : (c == 0) = false) (hL : mkL f t c n = false) :
    Calls Faig.prog 8 #[.int .u16 f, .int .u16 t, .int .u8 d, .int .u8 p, .int .u8 c, .int .u32 n] w fun e w' => e = .returned (.bool true) ∧ Below w.heap.size w w' := by
  have hfU := hf
  have htU := ht
  have hcU := hc
  have hnU := hn
  obtain ⟨f0, f1⟩ := hf; obtain ⟨t0, t1⟩ := ht; obtain ⟨c0, c1⟩ := hc; obtain ⟨n0, n1⟩ := hn
  have hz : mlv f t c n = 0 := by simp [mlv, hL]
  go_enter Faig.func8, Faig.ntmps8
  go_wp2_with fail
  refine (makeList_any f t c n hfU htU hcU hnU _).mono ?_
  rintro e w' ⟨rfl, hw'⟩
  subst w'
  go_wp2_with fail
  refine (makesList_any f t c n _).mono ?_
  rintro e w' ⟨rfl, hw'⟩
  subst w'
  go_wp2_with fail
  go_ret
  exact ⟨rfl, Below.refl _ _⟩

set_option maxHeartbeats 1000000 in
theorem ptrBack_seven (f t d p n : Int) (hf : U16 f) (ht : U16 t) (hd : U8 d) (hp : U8 p) (hc : U8 7) (hn : 0 ≤ n ∧ n < 4294967296) (w : World) (hL : mkL f t 7 n = true) :
    Calls Faig.prog 8 #[.int .u16 f, .int .u16 t, .int .u8 d, .int .u8 p, .int .u8 7, .int .u32 n] w fun e w' => e = .returned (.bool true) ∧ Below w.heap.size w w' := by
  have hfU := hf
  have htU := ht
  have hcU := hc
  have hnU := hn
  obtain ⟨f0, f1⟩ := hf; obtain ⟨t0, t1⟩ := ht; obtain ⟨c0, c1⟩ := hc; obtain ⟨n0, n1⟩ := hn
  go_enter Faig.func8, Faig.ntmps8
  go_wp2_with fail
  refine (makeList_any f t 7 n hfU htU hcU hnU _).mono ?_
  rintro e w' ⟨rfl, hw'⟩
  subst w'
  go_wp2_with fail
  refine (makesList_any f t 7 n _).mono ?_
  rintro e w' ⟨rfl, hw'⟩
  subst w'
  go_wp2_with fail
  refine (structsBack_any f t d p n hfU htU hd hp n0 hL _).mono ?_
  rintro e w1 ⟨rfl, hb1⟩
  go_wp2_with fail
  go_ret
  exact ⟨rfl, hb1⟩

set_option maxRecDepth 100000 in
set_option maxHeartbeats 1000000 in
theorem ptrBack_2z (f t d p n : Int) (hf : U16 f) (ht : U16 t) (hd : U8 d) (hp : U8 p) (hc : U8 2) (hn : 0 ≤ n ∧ n < 4294967296) (w : World) (hL : mkL f t 2 n = true) (hw : (n + 7) / 8 = 0) :
    Calls Faig.prog 8 #[.int .u16 f, .int .u16 t, .int .u8 d, .int .u8 p, .int .u8 2, .int .u32 n] w fun e w' => e = .returned (.bool true) ∧ Below w.heap.size w w' := by
  have hfU := hf
  have htU := ht
  have hcU := hc
  have hnU := hn
  obtain ⟨f0, f1⟩ := hf; obtain ⟨t0, t1⟩ := ht; obtain ⟨c0, c1⟩ := hc; obtain ⟨n0, n1⟩ := hn
  obtain ⟨g1, g2, g3, g4, g5, g6⟩ := mkL_bd hL
  have g7 := g6 (by omega)
  have hlw : lawWords 2 n = (n + 7) / 8 := by unfold lawWords; simp
  have hlU := mlv_u64 f t 2 n n0
  have hB0 := list_back (List.replicate 256 0) List.length_replicate f t 2 n f0 t0 n0 hL (by omega)
  have hB1 : resAt ((List.replicate 256 0).set f.toNat (mlv f t 2 n)) f = wanted true 2 t 0 0 2 n := by
    rw [hB0, hlw]; congr 1; simp [hw]
  have HB : Hid _ := hB1
  clear hB0 hB1 hlw
  obtain rfl : n = 0 := by omega
  clear hw
  go_enter Faig.func8, Faig.ntmps8
  go_wp2_with fail
  refine (makeList_any f t 2 0 hfU htU hcU hnU _).mono ?_
  rintro e w' ⟨rfl, hw'⟩
  subst w'
  go_wp2_with fail
  refine (makesList_any f t 2 0 _).mono ?_
  rintro e w' ⟨rfl, hw'⟩
  subst w'
  go_wp2_with fail
  refine (answers_any w.heap.size (List.replicate 256 0) f (mlv f t 2 0) 2 t 0 0 2 0 true _ (Arr.zero w) f0 g1 hlU HB.out).mono ?_
  rintro e w1 ⟨rfl, hb1⟩
  have b1 := below_new ((Below.refl w.heap.size w).alloc (Nat.le_refl _) (.cells Faig.zeroCells97 97)) hb1
  clear hb1
  go_wp2_with fail
  go_ret
  exact ⟨rfl, b1⟩

set_option maxRecDepth 100000 in
set_option maxHeartbeats 1000000 in
theorem ptrBack_2a (f t d p n : Int) (hf : U16 f) (ht : U16 t) (hd : U8 d) (hp : U8 p) (hc : U8 2) (hn : 0 ≤ n ∧ n < 4294967296) (w : World) (hL : mkL f t 2 n = true) (hw : ¬ (n + 7) / 8 = 0) (hlow : 1 ≤ t) :
    Calls Faig.prog 8 #[.int .u16 f, .int .u16 t, .int .u8 d, .int .u8 p, .int .u8 2, .int .u32 n] w fun e w' => e = .returned (.bool true) ∧ Below w.heap.size w w' := by
  have hfU := hf
  have htU := ht
  have hcU := hc
  have hnU := hn
  obtain ⟨f0, f1⟩ := hf; obtain ⟨t0, t1⟩ := ht; obtain ⟨c0, c1⟩ := hc; obtain ⟨n0, n1⟩ := hn
  obtain ⟨g1, g2, g3, g4, g5, g6⟩ := mkL_bd hL
  have g7 := g6 (by omega)
  have hlw : lawWords 2 n = (n + 7) / 8 := by unfold lawWords; simp
  have hlU := mlv_u64 f t 2 n n0
  have hB0 := list_back (List.replicate 256 0) List.length_replicate f t 2 n f0 t0 n0 hL (by omega)
  have hB1 : resAt ((List.replicate 256 0).set f.toNat (mlv f t 2 n)) f = wanted (decide (t + (n + 7) / 8 ≤ 256)) 2 t 0 0 2 n := by
    rw [hB0, hlw]; congr 1; simp [hw, hlow]
  have HB : Hid _ := hB1
  clear hB0 hB1 hlw
  have bw : ((n + 7) / 8 == 0) = false := by simp only [beq_eq_false_iff_ne]; exact hw
  clear hw
  go_enter Faig.func8, Faig.ntmps8
  go_wp2_with fail
  refine (makeList_any f t 2 n hfU htU hcU hnU _).mono ?_
  rintro e w' ⟨rfl, hw'⟩
  subst w'
  go_wp2_with fail
  refine (makesList_any f t 2 n _).mono ?_
  rintro e w' ⟨rfl, hw'⟩
  subst w'
  go_wp2_with fail
  refine (answers_any w.heap.size (List.replicate 256 0) f (mlv f t 2 n) 2 t 0 0 2 n (decide (t + (n + 7) / 8 ≤ 256)) _ (Arr.zero w) f0 g1 hlU HB.out).mono ?_
  rintro e w1 ⟨rfl, hb1⟩
  have b1 := below_new ((Below.refl w.heap.size w).alloc (Nat.le_refl _) (.cells Faig.zeroCells97 97)) hb1
  clear hb1
  go_wp2_with fail
  go_ret
  exact ⟨rfl, b1⟩

set_option maxRecDepth 100000 in
set_option maxHeartbeats 1000000 in
theorem ptrBack_2b (f t d p n : Int) (hf : U16 f) (ht : U16 t) (hd : U8 d) (hp : U8 p) (hc : U8 2) (hn : 0 ≤ n ∧ n < 4294967296) (w : World) (hL : mkL f t 2 n = true) (hw : ¬ (n + 7) / 8 = 0) (hlow : ¬ 1 ≤ t) :
    Calls Faig.prog 8 #[.int .u16 f, .int .u16 t, .int .u8 d, .int .u8 p, .int .u8 2, .int .u32 n] w fun e w' => e = .returned (.bool true) ∧ Below w.heap.size w w' := by
  have hfU := hf
  have htU := ht
  have hcU := hc
  have hnU := hn
  obtain ⟨f0, f1⟩ := hf; obtain ⟨t0, t1⟩ := ht; obtain ⟨c0, c1⟩ := hc; obtain ⟨n0, n1⟩ := hn
  obtain ⟨g1, g2, g3, g4, g5, g6⟩ := mkL_bd hL
  have g7 := g6 (by omega)
  have hlw : lawWords 2 n = (n + 7) / 8 := by unfold lawWords; simp
  have hlU := mlv_u64 f t 2 n n0
  have hB0 := list_back (List.replicate 256 0) List.length_replicate f t 2 n f0 t0 n0 hL (by omega)
  have hB1 : resAt ((List.replicate 256 0).set f.toNat (mlv f t 2 n)) f = wanted false 2 t 0 0 2 n := by
    rw [hB0, hlw]; congr 1; simp [hw, hlow]
  have HB : Hid _ := hB1
  clear hB0 hB1 hlw
  have bw : ((n + 7) / 8 == 0) = false := by simp only [beq_eq_false_iff_ne]; exact hw
  clear hw
  go_enter Faig.func8, Faig.ntmps8
  go_wp2_with fail
  refine (makeList_any f t 2 n hfU htU hcU hnU _).mono ?_
  rintro e w' ⟨rfl, hw'⟩
  subst w'
  go_wp2_with fail
  refine (makesList_any f t 2 n _).mono ?_
  rintro e w' ⟨rfl, hw'⟩
  subst w'
  go_wp2_with fail
  refine (answers_any w.heap.size (List.replicate 256 0) f (mlv f t 2 n) 2 t 0 0 2 n false _ (Arr.zero w) f0 g1 hlU HB.out).mono ?_
  rintro e w1 ⟨rfl, hb1⟩
  have b1 := below_new ((Below.refl w.heap.size w).alloc (Nat.le_refl _) (.cells Faig.zeroCells97 97)) hb1
  clear hb1
  go_wp2_with fail
  go_ret
  exact ⟨rfl, b1⟩

set_option maxRecDepth 100000 in
set_option maxHeartbeats 1000000 in
theorem ptrBack_3z (f t d p n : Int) (hf : U16 f) (ht : U16 t) (hd : U8 d) (hp : U8 p) (hc : U8 3) (hn : 0 ≤ n ∧ n < 4294967296) (w : World) (hL : mkL f t 3 n = true) (hw : (n * 2 + 7) / 8 = 0) :
    Calls Faig.prog 8 #[.int .u16 f, .int .u16 t, .int .u8 d, .int .u8 p, .int .u8 3, .int .u32 n] w fun e w' => e = .returned (.bool true) ∧ Below w.heap.size w w' := by
  have hfU := hf
  have htU := ht
  have hcU := hc
  have hnU := hn
  obtain ⟨f0, f1⟩ := hf; obtain ⟨t0, t1⟩ := ht; obtain ⟨c0, c1⟩ := hc; obtain ⟨n0, n1⟩ := hn
  obtain ⟨g1, g2, g3, g4, g5, g6⟩ := mkL_bd hL
  have g7 := g6 (by omega)
  have hlw : lawWords 3 n = (n * 2 + 7) / 8 := by unfold lawWords; simp
  have hlU := mlv_u64 f t 3 n n0
  have hB0 := list_back (List.replicate 256 0) List.length_replicate f t 3 n f0 t0 n0 hL (by omega)
  have hB1 : resAt ((List.replicate 256 0).set f.toNat (mlv f t 3 n)) f = wanted true 2 t 0 0 3 n := by
    rw [hB0, hlw]; congr 1; simp [hw]
  have HB : Hid _ := hB1
  clear hB0 hB1 hlw
  obtain rfl : n = 0 := by omega
  clear hw
  go_enter Faig.func8, Faig.ntmps8
  go_wp2_with fail
  refine (makeList_any f t 3 0 hfU htU hcU hnU _).mono ?_
  rintro e w' ⟨rfl, hw'⟩
  subst w'
  go_wp2_with fail
  refine (makesList_any f t 3 0 _).mono ?_
  rintro e w' ⟨rfl, hw'⟩
  subst w'
  go_wp2_with fail
  refine (answers_any w.heap.size (List.replicate 256 0) f (mlv f t 3 0) 2 t 0 0 3 0 true _ (Arr.zero w) f0 g1 hlU HB.out).mono ?_
  rintro e w1 ⟨rfl, hb1⟩
  have b1 := below_new ((Below.refl w.heap.size w).alloc (Nat.le_refl _) (.cells Faig.zeroCells97 97)) hb1
  clear hb1
  go_wp2_with fail
  go_ret
  exact ⟨rfl, b1⟩

set_option maxRecDepth 100000 in
set_option maxHeartbeats 1000000 in
theorem ptrBack_3a (f t d p n : Int) (hf : U16 f) (ht : U16 t) (hd : U8 d) (hp : U8 p) (hc : U8 3) (hn : 0 ≤ n ∧ n < 4294967296) (w : World) (hL : mkL f t 3 n = true) (hw : ¬ (n * 2 + 7) / 8 = 0) (hlow : 1 ≤ t) :
    Calls Faig.prog 8 #[.int .u16 f, .int .u16 t, .int .u8 d, .int .u8 p, .int .u8 3, .int .u32 n] w fun e w' => e = .returned (.bool true) ∧ Below w.heap.size w w' := by
  have hfU := hf
  have htU := ht
  have hcU := hc
  have hnU := hn
  obtain ⟨f0, f1⟩ := hf; obtain ⟨t0, t1⟩ := ht; obtain ⟨c0, c1⟩ := hc; obtain ⟨n0, n1⟩ := hn
  obtain ⟨g1, g2, g3, g4, g5, g6⟩ := mkL_bd hL
  have g7 := g6 (by omega)
  have hlw : lawWords 3 n = (n * 2 + 7) / 8 := by unfold lawWords; simp
  have hlU := mlv_u64 f t 3 n n0
  have hB0 := list_back (List.replicate 256 0) List.length_replicate f t 3 n f0 t0 n0 hL (by omega)
  have hB1 : resAt ((List.replicate 256 0).set f.toNat (mlv f t 3 n)) f = wanted (decide (t + (n * 2 + 7) / 8 ≤ 256)) 2 t 0 0 3 n := by
    rw [hB0, hlw]; congr 1; simp [hw, hlow]
  have HB : Hid _ := hB1
  clear hB0 hB1 hlw
  have bw : ((n * 2 + 7) / 8 == 0) = false := by simp only [beq_eq_false_iff_ne]; exact hw
  clear hw
  go_enter Faig.func8, Faig.ntmps8
  go_wp2_with fail
  refine (makeList_any f t 3 n hfU htU hcU hnU _).mono ?_
  rintro e w' ⟨rfl, hw'⟩
  subst w'
  go_wp2_with fail
  refine (makesList_any f t 3 n _).mono ?_
  rintro e w' ⟨rfl, hw'⟩
  subst w'
  go_wp2_with fail
  refine (answers_any w.heap.size (List.replicate 256 0) f (mlv f t 3 n) 2 t 0 0 3 n (decide (t + (n * 2 + 7) / 8 ≤ 256)) _ (Arr.zero w) f0 g1 hlU HB.out).mono ?_
  rintro e w1 ⟨rfl, hb1⟩
  have b1 := below_new ((Below.refl w.heap.size w).alloc (Nat.le_refl _) (.cells Faig.zeroCells97 97)) hb1
  clear hb1
  go_wp2_with fail
  go_ret
  exact ⟨rfl, b1⟩

set_option maxRecDepth 100000 in
set_option maxHeartbeats 1000000 in
theorem ptrBack_3b (f t d p n : Int) (hf : U16 f) (ht : U16 t) (hd : U8 d) (hp : U8 p) (hc : U8 3) (hn : 0 ≤ n ∧ n < 4294967296) (w : World) (hL : mkL f t 3 n = true) (hw : ¬ (n * 2 + 7) / 8 = 0) (hlow : ¬ 1 ≤ t) :
    Calls Faig.prog 8 #[.int .u16 f, .int .u16 t, .int .u8 d, .int .u8 p, .int .u8 3, .int .u32 n] w fun e w' => e = .returned (.bool true) ∧ Below w.heap.size w w' := by
  have hfU := hf
  have htU := ht
  have hcU := hc
  have hnU := hn
  obtain ⟨f0, f1⟩ := hf; obtain ⟨t0, t1⟩ := ht; obtain ⟨c0, c1⟩ := hc; obtain ⟨n0, n1⟩ := hn
  obtain ⟨g1, g2, g3, g4, g5, g6⟩ := mkL_bd hL
  have g7 := g6 (by omega)
  have hlw : lawWords 3 n = (n * 2 + 7) / 8 := by unfold lawWords; simp
  have hlU := mlv_u64 f t 3 n n0
  have hB0 := list_back (List.replicate 256 0) List.length_replicate f t 3 n f0 t0 n0 hL (by omega)
  have hB1 : resAt ((List.replicate 256 0).set f.toNat (mlv f t 3 n)) f = wanted false 2 t 0 0 3 n := by
    rw [hB0, hlw]; congr 1; simp [hw, hlow]
  have HB : Hid _ := hB1
  clear hB0 hB1 hlw
  have bw : ((n * 2 + 7) / 8 == 0) = false := by simp only [beq_eq_false_iff_ne]; exact hw
  clear hw
  go_enter Faig.func8, Faig.ntmps8
  go_wp2_with fail
  refine (makeList_any f t 3 n hfU htU hcU hnU _).mono ?_
  rintro e w' ⟨rfl, hw'⟩
  subst w'
  go_wp2_with fail
  refine (makesList_any f t 3 n _).mono ?_
  rintro e w' ⟨rfl, hw'⟩
  subst w'
  go_wp2_with fail
  refine (answers_any w.heap.size (List.replicate 256 0) f (mlv f t 3 n) 2 t 0 0 3 n false _ (Arr.zero w) f0 g1 hlU HB.out).mono ?_
  rintro e w1 ⟨rfl, hb1⟩
  have b1 := below_new ((Below.refl w.heap.size w).alloc (Nat.le_refl _) (.cells Faig.zeroCells97 97)) hb1
  clear hb1
  go_wp2_with fail
  go_ret
  exact ⟨rfl, b1⟩

set_option maxRecDepth 100000 in
set_option maxHeartbeats 1000000 in
theorem ptrBack_4z (f t d p n : Int) (hf : U16 f) (ht : U16 t) (hd : U8 d) (hp : U8 p) (hc : U8 4) (hn : 0 ≤ n ∧ n < 4294967296) (w : World) (hL : mkL f t 4 n = true) (hw : (n * 4 + 7) / 8 = 0) :
    Calls Faig.prog 8 #[.int .u16 f, .int .u16 t, .int .u8 d, .int .u8 p, .int .u8 4, .int .u32 n] w fun e w' => e = .returned (.bool true) ∧ Below w.heap.size w w' := by
  have hfU := hf
  have htU := ht
  have hcU := hc
  have hnU := hn
  obtain ⟨f0, f1⟩ := hf; obtain ⟨t0, t1⟩ := ht; obtain ⟨c0, c1⟩ := hc; obtain ⟨n0, n1⟩ := hn
  obtain ⟨g1, g2, g3, g4, g5, g6⟩ := mkL_bd hL
  have g7 := g6 (by omega)
  have hlw : lawWords 4 n = (n * 4 + 7) / 8 := by unfold lawWords; simp
  have hlU := mlv_u64 f t 4 n n0
  have hB0 := list_back (List.replicate 256 0) List.length_replicate f t 4 n f0 t0 n0 hL (by omega)
  have hB1 : resAt ((List.replicate 256 0).set f.toNat (mlv f t 4 n)) f = wanted true 2 t 0 0 4 n := by
    rw [hB0, hlw]; congr 1; simp [hw]
  have HB : Hid _ := hB1
  clear hB0 hB1 hlw
  obtain rfl : n = 0 := by omega
  clear hw
  go_enter Faig.func8, Faig.ntmps8
  go_wp2_with fail
  refine (makeList_any f t 4 0 hfU htU hcU hnU _).mono ?_
  rintro e w' ⟨rfl, hw'⟩
  subst w'
  go_wp2_with fail
  refine (makesList_any f t 4 0 _).mono ?_
  rintro e w' ⟨rfl, hw'⟩
  subst w'
  go_wp2_with fail
  refine (answers_any w.heap.size (List.replicate 256 0) f (mlv f t 4 0) 2 t 0 0 4 0 true _ (Arr.zero w) f0 g1 hlU HB.out).mono ?_
  rintro e w1 ⟨rfl, hb1⟩
  have b1 := below_new ((Below.refl w.heap.size w).alloc (Nat.le_refl _) (.cells Faig.zeroCells97 97)) hb1
  clear hb1
  go_wp2_with fail
  go_ret
  exact ⟨rfl, b1⟩

set_option maxRecDepth 100000 in
set_option maxHeartbeats 1000000 in
theorem ptrBack_4a (f t d p n : Int) (hf : U16 f) (ht : U16 t) (hd : U8 d) (hp : U8 p) (hc : U8 4) (hn : 0 ≤ n ∧ n < 4294967296) (w : World) (hL : mkL f t 4 n = true) (hw : ¬ (n * 4 + 7) / 8 = 0) (hlow : 1 ≤ t) :
    Calls Faig.prog 8 #[.int .u16 f, .int .u16 t, .int .u8 d, .int .u8 p, .int .u8 4, .int .u32 n] w fun e w' => e = .returned (.bool true) ∧ Below w.heap.size w w' := by
  have hfU := hf
  have htU := ht
  have hcU := hc
  have hnU := hn
  obtain ⟨f0, f1⟩ := hf; obtain ⟨t0, t1⟩ := ht; obtain ⟨c0, c1⟩ := hc; obtain ⟨n0, n1⟩ := hn
  obtain ⟨g1, g2, g3, g4, g5, g6⟩ := mkL_bd hL
  have g7 := g6 (by omega)
  have hlw : lawWords 4 n = (n * 4 + 7) / 8 := by unfold lawWords; simp
  have hlU := mlv_u64 f t 4 n n0
  have hB0 := list_back (List.replicate 256 0) List.length_replicate f t 4 n f0 t0 n0 hL (by omega)
  have hB1 : resAt ((List.replicate 256 0).set f.toNat (mlv f t 4 n)) f = wanted (decide (t + (n * 4 + 7) / 8 ≤ 256)) 2 t 0 0 4 n := by
    rw [hB0, hlw]; congr 1; simp [hw, hlow]
  have HB : Hid _ := hB1
  clear hB0 hB1 hlw
  have bw : ((n * 4 + 7) / 8 == 0) = false := by simp only [beq_eq_false_iff_ne]; exact hw
  clear hw
  go_enter Faig.func8, Faig.ntmps8
  go_wp2_with fail
  refine (makeList_any f t 4 n hfU htU hcU hnU _).mono ?_
  rintro e w' ⟨rfl, hw'⟩
  subst w'
  go_wp2_with fail
  refine (makesList_any f t 4 n _).mono ?_
  rintro e w' ⟨rfl, hw'⟩
  subst w'
  go_wp2_with fail
  refine (answers_any w.heap.size (List.replicate 256 0) f (mlv f t 4 n) 2 t 0 0 4 n (decide (t + (n * 4 + 7) / 8 ≤ 256)) _ (Arr.zero w) f0 g1 hlU HB.out).mono ?_
  rintro e w1 ⟨rfl, hb1⟩
  have b1 := below_new ((Below.refl w.heap.size w).alloc (Nat.le_refl _) (.cells Faig.zeroCells97 97)) hb1
  clear hb1
  go_wp2_with fail
  go_ret
  exact ⟨rfl, b1⟩

set_option maxRecDepth 100000 in
set_option maxHeartbeats 1000000 in
theorem ptrBack_4b (f t d p n : Int) (hf : U16 f) (ht : U16 t) (hd : U8 d) (hp : U8 p) (hc : U8 4) (hn : 0 ≤ n ∧ n < 4294967296) (w : World) (hL : mkL f t 4 n = true) (hw : ¬ (n * 4 + 7) / 8 = 0) (hlow : ¬ 1 ≤ t) :
    Calls Faig.prog 8 #[.int .u16 f, .int .u16 t, .int .u8 d, .int .u8 p, .int .u8 4, .int .u32 n] w fun e w' => e = .returned (.bool true) ∧ Below w.heap.size w w' := by
  have hfU := hf
  have htU := ht
  have hcU := hc
  have hnU := hn
  obtain ⟨f0, f1⟩ := hf; obtain ⟨t0, t1⟩ := ht; obtain ⟨c0, c1⟩ := hc; obtain ⟨n0, n1⟩ := hn
  obtain ⟨g1, g2, g3, g4, g5, g6⟩ := mkL_bd hL
  have g7 := g6 (by omega)
  have hlw : lawWords 4 n = (n * 4 + 7) / 8 := by unfold lawWords; simp
  have hlU := mlv_u64 f t 4 n n0
  have hB0 := list_back (List.replicate 256 0) List.length_replicate f t 4 n f0 t0 n0 hL (by omega)
  have hB1 : resAt ((List.replicate 256 0).set f.toNat (mlv f t 4 n)) f = wanted false 2 t 0 0 4 n := by
    rw [hB0, hlw]; congr 1; simp [hw, hlow]
  have HB : Hid _ := hB1
  clear hB0 hB1 hlw
  have bw : ((n * 4 + 7) / 8 == 0) = false := by simp only [beq_eq_false_iff_ne]; exact hw
  clear hw
  go_enter Faig.func8, Faig.ntmps8
  go_wp2_with fail
  refine (makeList_any f t 4 n hfU htU hcU hnU _).mono ?_
  rintro e w' ⟨rfl, hw'⟩
  subst w'
  go_wp2_with fail
  refine (makesList_any f t 4 n _).mono ?_
  rintro e w' ⟨rfl, hw'⟩
  subst w'
  go_wp2_with fail
  refine (answers_any w.heap.size (List.replicate 256 0) f (mlv f t 4 n) 2 t 0 0 4 n false _ (Arr.zero w) f0 g1 hlU HB.out).mono ?_
  rintro e w1 ⟨rfl, hb1⟩
  have b1 := below_new ((Below.refl w.heap.size w).alloc (Nat.le_refl _) (.cells Faig.zeroCells97 97)) hb1
  clear hb1
  go_wp2_with fail
  go_ret
  exact ⟨rfl, b1⟩

set_option maxRecDepth 100000 in
set_option maxHeartbeats 1000000 in
theorem ptrBack_5z (f t d p n : Int) (hf : U16 f) (ht : U16 t) (hd : U8 d) (hp : U8 p) (hc : U8 5) (hn : 0 ≤ n ∧ n < 4294967296) (w : World) (hL : mkL f t 5 n = true) (hw : (n * 8 + 7) / 8 = 0) :
    Calls Faig.prog 8 #[.int .u16 f, .int .u16 t, .int .u8 d, .int .u8 p, .int .u8 5, .int .u32 n] w fun e w' => e = .returned (.bool true) ∧ Below w.heap.size w w' := by
  have hfU := hf
  have htU := ht
  have hcU := hc
  have hnU := hn
  obtain ⟨f0, f1⟩ := hf; obtain ⟨t0, t1⟩ := ht; obtain ⟨c0, c1⟩ := hc; obtain ⟨n0, n1⟩ := hn
  obtain ⟨g1, g2, g3, g4, g5, g6⟩ := mkL_bd hL
  have g7 := g6 (by omega)
  have hlw : lawWords 5 n = (n * 8 + 7) / 8 := by unfold lawWords; simp
  have hlU := mlv_u64 f t 5 n n0
  have hB0 := list_back (List.replicate 256 0) List.length_replicate f t 5 n f0 t0 n0 hL (by omega)
  have hB1 : resAt ((List.replicate 256 0).set f.toNat (mlv f t 5 n)) f = wanted true 2 t 0 0 5 n := by
    rw [hB0, hlw]; congr 1; simp [hw]
  have HB : Hid _ := hB1
  clear hB0 hB1 hlw
  obtain rfl : n = 0 := by omega
  clear hw
  go_enter Faig.func8, Faig.ntmps8
  go_wp2_with fail
  refine (makeList_any f t 5 0 hfU htU hcU hnU _).mono ?_
  rintro e w' ⟨rfl, hw'⟩
  subst w'
  go_wp2_with fail
  refine (makesList_any f t 5 0 _).mono ?_
  rintro e w' ⟨rfl, hw'⟩
  subst w'
  go_wp2_with fail
  refine (answers_any w.heap.size (List.replicate 256 0) f (mlv f t 5 0) 2 t 0 0 5 0 true _ (Arr.zero w) f0 g1 hlU HB.out).mono ?_
  rintro e w1 ⟨rfl, hb1⟩
  have b1 := below_new ((Below.refl w.heap.size w).alloc (Nat.le_refl _) (.cells Faig.zeroCells97 97)) hb1
  clear hb1
  go_wp2_with fail
  go_ret
  exact ⟨rfl, b1⟩

set_option maxRecDepth 100000 in
set_option maxHeartbeats 1000000 in
theorem ptrBack_5a (f t d p n : Int) (hf : U16 f) (ht : U16 t) (hd : U8 d) (hp : U8 p) (hc : U8 5) (hn : 0 ≤ n ∧ n < 4294967296) (w : World) (hL : mkL f t 5 n = true) (hw : ¬ (n * 8 + 7) / 8 = 0) (hlow : 1 ≤ t) :
    Calls Faig.prog 8 #[.int .u16 f, .int .u16 t, .int .u8 d, .int .u8 p, .int .u8 5, .int .u32 n] w fun e w' => e = .returned (.bool true) ∧ Below w.heap.size w w' := by
  have hfU := hf
  have htU := ht
  have hcU := hc
  have hnU := hn
  obtain ⟨f0, f1⟩ := hf; obtain ⟨t0, t1⟩ := ht; obtain ⟨c0, c1⟩ := hc; obtain ⟨n0, n1⟩ := hn
  obtain ⟨g1, g2, g3, g4, g5, g6⟩ := mkL_bd hL
  have g7 := g6 (by omega)
  have hlw : lawWords 5 n = (n * 8 + 7) / 8 := by unfold lawWords; simp
  have hlU := mlv_u64 f t 5 n n0
  have hB0 := list_back (List.replicate 256 0) List.length_replicate f t 5 n f0 t0 n0 hL (by omega)
  have hB1 : resAt ((List.replicate 256 0).set f.toNat (mlv f t 5 n)) f = wanted (decide (t + (n * 8 + 7) / 8 ≤ 256)) 2 t 0 0 5 n := by
    rw [hB0, hlw]; congr 1; simp [hw, hlow]
  have HB : Hid _ := hB1
  clear hB0 hB1 hlw
  have bw : ((n * 8 + 7) / 8 == 0) = false := by simp only [beq_eq_false_iff_ne]; exact hw
  clear hw
  go_enter Faig.func8, Faig.ntmps8
  go_wp2_with fail
  refine (makeList_any f t 5 n hfU htU hcU hnU _).mono ?_
  rintro e w' ⟨rfl, hw'⟩
  subst w'
  go_wp2_with fail
  refine (makesList_any f t 5 n _).mono ?_
  rintro e w' ⟨rfl, hw'⟩
  subst w'
  go_wp2_with fail
  refine (answers_any w.heap.size (List.replicate 256 0) f (mlv f t 5 n) 2 t 0 0 5 n (decide (t + (n * 8 + 7) / 8 ≤ 256)) _ (Arr.zero w) f0 g1 hlU HB.out).mono ?_
  rintro e w1 ⟨rfl, hb1⟩
  have b1 := below_new ((Below.refl w.heap.size w).alloc (Nat.le_refl _) (.cells Faig.zeroCells97 97)) hb1
  clear hb1
  go_wp2_with fail
  go_ret
  exact ⟨rfl, b1⟩

set_option maxRecDepth 100000 in
set_option maxHeartbeats 1000000 in
theorem ptrBack_5b (f t d p n : Int) (hf : U16 f) (ht : U16 t) (hd : U8 d) (hp : U8 p) (hc : U8 5) (hn : 0 ≤ n ∧ n < 4294967296) (w : World) (hL : mkL f t 5 n = true) (hw : ¬ (n * 8 + 7) / 8 = 0) (hlow : ¬ 1 ≤ t) :
    Calls Faig.prog 8 #[.int .u16 f, .int .u16 t, .int .u8 d, .int .u8 p, .int .u8 5, .int .u32 n] w fun e w' => e = .returned (.bool true) ∧ Below w.heap.size w w' := by
  have hfU := hf
  have htU := ht
  have hcU := hc
  have hnU := hn
  obtain ⟨f0, f1⟩ := hf; obtain ⟨t0, t1⟩ := ht; obtain ⟨c0, c1⟩ := hc; obtain ⟨n0, n1⟩ := hn
  obtain ⟨g1, g2, g3, g4, g5, g6⟩ := mkL_bd hL
  have g7 := g6 (by omega)
  have hlw : lawWords 5 n = (n * 8 + 7) / 8 := by unfold lawWords; simp
  have hlU := mlv_u64 f t 5 n n0
  have hB0 := list_back (List.replicate 256 0) List.length_replicate f t 5 n f0 t0 n0 hL (by omega)
  have hB1 : resAt ((List.replicate 256 0).set f.toNat (mlv f t 5 n)) f = wanted false 2 t 0 0 5 n := by
    rw [hB0, hlw]; congr 1; simp [hw, hlow]
  have HB : Hid _ := hB1
  clear hB0 hB1 hlw
  have bw : ((n * 8 + 7) / 8 == 0) = false := by simp only [beq_eq_false_iff_ne]; exact hw
  clear hw
  go_enter Faig.func8, Faig.ntmps8
  go_wp2_with fail
  refine (makeList_any f t 5 n hfU htU hcU hnU _).mono ?_
  rintro e w' ⟨rfl, hw'⟩
  subst w'
  go_wp2_with fail
  refine (makesList_any f t 5 n _).mono ?_
  rintro e w' ⟨rfl, hw'⟩
  subst w'
  go_wp2_with fail
  refine (answers_any w.heap.size (List.replicate 256 0) f (mlv f t 5 n) 2 t 0 0 5 n false _ (Arr.zero w) f0 g1 hlU HB.out).mono ?_
  rintro e w1 ⟨rfl, hb1⟩
  have b1 := below_new ((Below.refl w.heap.size w).alloc (Nat.le_refl _) (.cells Faig.zeroCells97 97)) hb1
  clear hb1
  go_wp2_with fail
  go_ret
  exact ⟨rfl, b1⟩

set_option maxRecDepth 100000 in
set_option maxHeartbeats 1000000 in
theorem ptrBack_6z (f t d p n : Int) (hf : U16 f) (ht : U16 t) (hd : U8 d) (hp : U8 p) (hc : U8 6) (hn : 0 ≤ n ∧ n < 4294967296) (w : World) (hL : mkL f t 6 n = true) (hw : n = 0) :
    Calls Faig.prog 8 #[.int .u16 f, .int .u16 t, .int .u8 d, .int .u8 p, .int .u8 6, .int .u32 n] w fun e w' => e = .returned (.bool true) ∧ Below w.heap.size w w' := by
  have hfU := hf
  have htU := ht
  have hcU := hc
  have hnU := hn
  obtain ⟨f0, f1⟩ := hf; obtain ⟨t0, t1⟩ := ht; obtain ⟨c0, c1⟩ := hc; obtain ⟨n0, n1⟩ := hn
  obtain ⟨g1, g2, g3, g4, g5, g6⟩ := mkL_bd hL
  have g7 := g6 (by omega)
  have hlw : lawWords 6 n = n := by unfold lawWords; simp
  have hlU := mlv_u64 f t 6 n n0
  have hB0 := list_back (List.replicate 256 0) List.length_replicate f t 6 n f0 t0 n0 hL (by omega)
  have hB1 : resAt ((List.replicate 256 0).set f.toNat (mlv f t 6 n)) f = wanted true 2 t 0 0 6 n := by
    rw [hB0, hlw]; congr 1; simp [hw]
  have HB : Hid _ := hB1
  clear hB0 hB1 hlw
  obtain rfl : n = 0 := by omega
  clear hw
  go_enter Faig.func8, Faig.ntmps8
  go_wp2_with fail
  refine (makeList_any f t 6 0 hfU htU hcU hnU _).mono ?_
  rintro e w' ⟨rfl, hw'⟩
  subst w'
  go_wp2_with fail
  refine (makesList_any f t 6 0 _).mono ?_
  rintro e w' ⟨rfl, hw'⟩
  subst w'
  go_wp2_with fail
  refine (answers_any w.heap.size (List.replicate 256 0) f (mlv f t 6 0) 2 t 0 0 6 0 true _ (Arr.zero w) f0 g1 hlU HB.out).mono ?_
  rintro e w1 ⟨rfl, hb1⟩
  have b1 := below_new ((Below.refl w.heap.size w).alloc (Nat.le_refl _) (.cells Faig.zeroCells97 97)) hb1
  clear hb1
  go_wp2_with fail
  go_ret
  exact ⟨rfl, b1⟩

set_option maxRecDepth 100000 in
set_option maxHeartbeats 1000000 in
theorem ptrBack_6a (f t d p n : Int) (hf : U16 f) (ht : U16 t) (hd : U8 d) (hp : U8 p) (hc : U8 6) (hn : 0 ≤ n ∧ n < 4294967296) (w : World) (hL : mkL f t 6 n = true) (hw : ¬ n = 0) (hlow : 1 ≤ t) :
    Calls Faig.prog 8 #[.int .u16 f, .int .u16 t, .int .u8 d, .int .u8 p, .int .u8 6, .int .u32 n] w fun e w' => e = .returned (.bool true) ∧ Below w.heap.size w w' := by
  have hfU := hf
  have htU := ht
  have hcU := hc
  have hnU := hn
  obtain ⟨f0, f1⟩ := hf; obtain ⟨t0, t1⟩ := ht; obtain ⟨c0, c1⟩ := hc; obtain ⟨n0, n1⟩ := hn
  obtain ⟨g1, g2, g3, g4, g5, g6⟩ := mkL_bd hL
  have g7 := g6 (by omega)
  have hlw : lawWords 6 n = n := by unfold lawWords; simp
  have hlU := mlv_u64 f t 6 n n0
  have hB0 := list_back (List.replicate 256 0) List.length_replicate f t 6 n f0 t0 n0 hL (by omega)
  have hB1 : resAt ((List.replicate 256 0).set f.toNat (mlv f t 6 n)) f = wanted (decide (t + n ≤ 256)) 2 t 0 0 6 n := by
    rw [hB0, hlw]; congr 1; simp [hw, hlow]
  have HB : Hid _ := hB1
  clear hB0 hB1 hlw
  have bw : (n == 0) = false := by simp only [beq_eq_false_iff_ne]; exact hw
  clear hw
  go_enter Faig.func8, Faig.ntmps8
  go_wp2_with fail
  refine (makeList_any f t 6 n hfU htU hcU hnU _).mono ?_
  rintro e w' ⟨rfl, hw'⟩
  subst w'
  go_wp2_with fail
  refine (makesList_any f t 6 n _).mono ?_
  rintro e w' ⟨rfl, hw'⟩
  subst w'
  go_wp2_with fail
  refine (answers_any w.heap.size (List.replicate 256 0) f (mlv f t 6 n) 2 t 0 0 6 n (decide (t + n ≤ 256)) _ (Arr.zero w) f0 g1 hlU HB.out).mono ?_
  rintro e w1 ⟨rfl, hb1⟩
  have b1 := below_new ((Below.refl w.heap.size w).alloc (Nat.le_refl _) (.cells Faig.zeroCells97 97)) hb1
  clear hb1
  go_wp2_with fail
  go_ret
  exact ⟨rfl, b1⟩

set_option maxRecDepth 100000 in
set_option maxHeartbeats 1000000 in
theorem ptrBack_6b (f t d p n : Int) (hf : U16 f) (ht : U16 t) (hd : U8 d) (hp : U8 p) (hc : U8 6) (hn : 0 ≤ n ∧ n < 4294967296) (w : World) (hL : mkL f t 6 n = true) (hw : ¬ n = 0) (hlow : ¬ 1 ≤ t) :
    Calls Faig.prog 8 #[.int .u16 f, .int .u16 t, .int .u8 d, .int .u8 p, .int .u8 6, .int .u32 n] w fun e w' => e = .returned (.bool true) ∧ Below w.heap.size w w' := by
  have hfU := hf
  have htU := ht
  have hcU := hc
  have hnU := hn
  obtain ⟨f0, f1⟩ := hf; obtain ⟨t0, t1⟩ := ht; obtain ⟨c0, c1⟩ := hc; obtain ⟨n0, n1⟩ := hn
  obtain ⟨g1, g2, g3, g4, g5, g6⟩ := mkL_bd hL
  have g7 := g6 (by omega)
  have hlw : lawWords 6 n = n := by unfold lawWords; simp
  have hlU := mlv_u64 f t 6 n n0
  have hB0 := list_back (List.replicate 256 0) List.length_replicate f t 6 n f0 t0 n0 hL (by omega)
  have hB1 : resAt ((List.replicate 256 0).set f.toNat (mlv f t 6 n)) f = wanted false 2 t 0 0 6 n := by
    rw [hB0, hlw]; congr 1; simp [hw, hlow]
  have HB : Hid _ := hB1
  clear hB0 hB1 hlw
  have bw : (n == 0) = false := by simp only [beq_eq_false_iff_ne]; exact hw
  clear hw
  go_enter Faig.func8, Faig.ntmps8
  go_wp2_with fail
  refine (makeList_any f t 6 n hfU htU hcU hnU _).mono ?_
  rintro e w' ⟨rfl, hw'⟩
  subst w'
  go_wp2_with fail
  refine (makesList_any f t 6 n _).mono ?_
  rintro e w' ⟨rfl, hw'⟩
  subst w'
  go_wp2_with fail
  refine (answers_any w.heap.size (List.replicate 256 0) f (mlv f t 6 n) 2 t 0 0 6 n false _ (Arr.zero w) f0 g1 hlU HB.out).mono ?_
  rintro e w1 ⟨rfl, hb1⟩
  have b1 := below_new ((Below.refl w.heap.size w).alloc (Nat.le_refl _) (.cells Faig.zeroCells97 97)) hb1
  clear hb1
  go_wp2_with fail
  go_ret
  exact ⟨rfl, b1⟩

theorem ptrBack_any (f t d p c n : Int) (hf : U16 f) (ht : U16 t) (hd : U8 d) (hp : U8 p) (hc : U8 c) (hn : 0 ≤ n ∧ n < 4294967296) (w : World) :
    Calls Faig.prog 8 #[.int .u16 f, .int .u16 t, .int .u8 d, .int .u8 p, .int .u8 c, .int .u32 n] w fun e w' => e = .returned (.bool true) ∧ Below w.heap.size w w' := by
  by_cases h0 : c = 0
  · subst h0
    exact ptrBack_struct f t d p n hf ht hd hp w
  cases hL : mkL f t c n with
  | false => exact ptrBack_no f t d p c n hf ht hd hp hc hn w (by simp [h0]) hL
  | true =>
    obtain ⟨g1, g2, g3, g4, g5, g6⟩ := mkL_bd hL
    by_cases h7 : c = 7
    · subst h7
      exact ptrBack_seven f t d p n hf ht hd hp hc hn w hL
    have h : c = 2 ∨ c = 3 ∨ c = 4 ∨ c = 5 ∨ c = 6 := by omega
    rcases h with rfl | rfl | rfl | rfl | rfl
    · by_cases hw : (n + 7) / 8 = 0
      · exact ptrBack_2z f t d p n hf ht hd hp hc hn w hL hw
      · by_cases hlow : 1 ≤ t
        · exact ptrBack_2a f t d p n hf ht hd hp hc hn w hL hw hlow
        · exact ptrBack_2b f t d p n hf ht hd hp hc hn w hL hw hlow
    · by_cases hw : (n * 2 + 7) / 8 = 0
      · exact ptrBack_3z f t d p n hf ht hd hp hc hn w hL hw
      · by_cases hlow : 1 ≤ t
        · exact ptrBack_3a f t d p n hf ht hd hp hc hn w hL hw hlow
        · exact ptrBack_3b f t d p n hf ht hd hp hc hn w hL hw hlow
    · by_cases hw : (n * 4 + 7) / 8 = 0
      · exact ptrBack_4z f t d p n hf ht hd hp hc hn w hL hw
      · by_cases hlow : 1 ≤ t
        · exact ptrBack_4a f t d p n hf ht hd hp hc hn w hL hw hlow
        · exact ptrBack_4b f t d p n hf ht hd hp hc hn w hL hw hlow
    · by_cases hw : (n * 8 + 7) / 8 = 0
      · exact ptrBack_5z f t d p n hf ht hd hp hc hn w hL hw
      · by_cases hlow : 1 ≤ t
        · exact ptrBack_5a f t d p n hf ht hd hp hc hn w hL hw hlow
        · exact ptrBack_5b f t d p n hf ht hd hp hc hn w hL hw hlow
    · by_cases hw : n = 0
      · exact ptrBack_6z f t d p n hf ht hd hp hc hn w hL hw
      · by_cases hlow : 1 ≤ t
        · exact ptrBack_6a f t d p n hf ht hd hp hc hn w hL hw hlow
        · exact ptrBack_6b f t d p n hf ht hd hp hc hn w hL hw hlow
end Go.Proofs.Ygcfai

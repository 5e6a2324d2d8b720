/-
  THE WALK of law.structsBack.
-/
import Derived.Test.YgcfaiBackA
namespace Go.Proofs.Ygcfai
open Go.RowKit Plain
set_option linter.unusedSimpArgs false
set_option linter.unusedVariables false

theorem or_tag (k d p : Int) (k0 : 0 ≤ k) (k1 : k ≤ 256) (d0 : 0 ≤ d) (d1 : d ≤ 255) (p0 : 0 ≤ p) (p1 : p ≤ 255) : bits .or .u64 (bits .or .u64 (k * 4) (d * 4294967296)) (p * 281474976710656) = k * 4 + d * 4294967296 + p * 281474976710656 := by
  have e1 : bits .or .u64 (k * 4) (d * 4294967296) = k * 4 + d * 4294967296 := bor _ _ 32 d ⟨by omega, by omega⟩ (by simp; omega) (by simp; omega) ⟨by omega, by omega⟩ d0
  rw [e1]
  exact bor _ _ 48 p ⟨by omega, by omega⟩ (by simp; omega) (by simp; omega) ⟨by omega, by omega⟩ p0
theorem Arr.zero_set (w : World) (i : Nat) (x : Int) (hx : U64 x) (hi : i < 256) : Arr (w.alloc (.cells (Faig.zeroCells97.setIfInBounds i (.int .u64 x)) 97)) w.heap.size ((List.replicate 256 0).set i x) := by
  have h := (Arr.zero w).set i x hx hi
  rw [World.setCell_alloc_at _ _ _ _ _ rfl] at h
  exact h

set_option maxRecDepth 100000 in
set_option maxHeartbeats 2000000 in
theorem structsBack_far (f t d p n : Int) (hf : U16 f) (ht : U16 t) (n0 : 0 ≤ n) (hL : mkL f t 7 n = true) (w : World) (h : 256 ≤ t) :
    Calls Faig.prog 39 #[.int .u16 f, .int .u16 t, .int .u8 d, .int .u8 p, .int .u32 n, .int .u64 (mlv f t 7 n)] w fun e w' => e = .returned (.bool true) ∧ Below w.heap.size w w' := by
  obtain ⟨f0, f1⟩ := hf; obtain ⟨t0, t1⟩ := ht
  obtain ⟨g1, g2, g3, g4, n1, g6⟩ := mkL_bd hL
  have hlU := mlv_u64 f t 7 n n0
  have HB : Hid (resAt ((List.replicate 256 0).set f.toNat (mlv f t 7 n)) f = wanted false 0 0 0 0 0 0) := structs_back_out (List.replicate 256 0) List.length_replicate f t n f0 t0 n0 hL (Or.inl h)
  go_enter Faig.func39, Faig.ntmps39
  go_wp2_with fail
  refine (answers_any w.heap.size (List.replicate 256 0) f (mlv f t 7 n) 0 0 0 0 0 0 false _ (Arr.zero w) f0 g1 hlU HB.out).mono ?_
  rintro e w1 ⟨rfl, hb1⟩
  have b1 := below_new ((Below.refl w.heap.size w).alloc (Nat.le_refl _) (.cells Faig.zeroCells97 97)) hb1
  clear hb1
  go_wp2_with fail
  go_ret
  exact ⟨rfl, b1⟩

set_option maxRecDepth 100000 in
set_option maxHeartbeats 2000000 in
theorem structsBack_same (f d p n : Int) (hf : U16 f) (n0 : 0 ≤ n) (hL : mkL f f 7 n = true) (w : World) (h : f < 256) :
    Calls Faig.prog 39 #[.int .u16 f, .int .u16 f, .int .u8 d, .int .u8 p, .int .u32 n, .int .u64 (mlv f f 7 n)] w fun e w' => e = .returned (.bool true) ∧ Below w.heap.size w w' := by
  obtain ⟨f0, f1⟩ := hf; skip
  obtain ⟨g1, g2, g3, g4, n1, g6⟩ := mkL_bd hL
  have hlU := mlv_u64 f f 7 n n0
  have HB : Hid (resAt ((List.replicate 256 0).set f.toNat (mlv f f 7 n)) f = wanted false 0 0 0 0 0 0) := structs_back_out (List.replicate 256 0) List.length_replicate f f n f0 f0 n0 hL (Or.inr rfl)
  go_enter Faig.func39, Faig.ntmps39
  go_wp2_with fail
  refine (answers_any w.heap.size (List.replicate 256 0) f (mlv f f 7 n) 0 0 0 0 0 0 false _ (Arr.zero w) f0 g1 hlU HB.out).mono ?_
  rintro e w1 ⟨rfl, hb1⟩
  have b1 := below_new ((Below.refl w.heap.size w).alloc (Nat.le_refl _) (.cells Faig.zeroCells97 97)) hb1
  clear hb1
  go_wp2_with fail
  go_ret
  exact ⟨rfl, b1⟩

set_option maxRecDepth 100000 in
set_option maxHeartbeats 2000000 in
theorem structsBack_z1 (f t n : Int) (hf : U16 f) (ht : U16 t) (n0 : 0 ≤ n) (hL : mkL f t 7 n = true) (w : World) (h256 : t < 256) (hne : t ≠ f) (hn : n = 0) (hlow : 1 ≤ t) :
    Calls Faig.prog 39 #[.int .u16 f, .int .u16 t, .int .u8 0, .int .u8 0, .int .u32 n, .int .u64 (mlv f t 7 n)] w fun e w' => e = .returned (.bool true) ∧ Below w.heap.size w w' := by
  obtain ⟨f0, f1⟩ := hf; obtain ⟨t0, t1⟩ := ht
  obtain ⟨g1, g2, g3, g4, n1, g6⟩ := mkL_bd hL
  have hlU := mlv_u64 f t 7 n n0
  have hB0 := structs_back (List.replicate 256 0) List.length_replicate f t n f0 t0 n0 hL h256 hne 0 0 0 (by omega) (by omega) (by omega) (by omega) (by omega) (by omega) (by rw [zerosGetD]; simp)
  simp only [Int.zero_mul, Int.add_zero] at hB0
  have hB1 : resAt ((List.replicate 256 0).set f.toNat (mlv f t 7 n)) f = wanted (decide (t + 1 ≤ 256)) 2 (t + 1) 0 0 7 0 := by subst hn; simpa [hlow] using hB0
  have HB : Hid _ := hB1
  have bne : (t == f) = false := by simp [hne]
  clear hB0 hB1 hne
  subst hn
  go_enter Faig.func39, Faig.ntmps39
  go_wp2_with fail
  refine (answers_any w.heap.size (List.replicate 256 0) f (mlv f t 7 0) 2 (t + 1) 0 0 7 0 (decide (t + 1 ≤ 256)) _ ((Arr.zero w).alloc _) f0 g1 hlU HB.out).mono ?_
  rintro e w1 ⟨rfl, hb1⟩
  have b1 := below_new (((Below.refl w.heap.size w).alloc (Nat.le_refl _) (.cells Faig.zeroCells97 97)).alloc (by simp) _) hb1
  clear hb1
  go_wp2_with fail
  go_ret
  exact ⟨rfl, b1⟩

set_option maxRecDepth 100000 in
set_option maxHeartbeats 2000000 in
theorem structsBack_z2 (f t n : Int) (hf : U16 f) (ht : U16 t) (n0 : 0 ≤ n) (hL : mkL f t 7 n = true) (w : World) (h256 : t < 256) (hne : t ≠ f) (hn : n = 0) (hlow : ¬ 1 ≤ t) :
    Calls Faig.prog 39 #[.int .u16 f, .int .u16 t, .int .u8 0, .int .u8 0, .int .u32 n, .int .u64 (mlv f t 7 n)] w fun e w' => e = .returned (.bool true) ∧ Below w.heap.size w w' := by
  obtain ⟨f0, f1⟩ := hf; obtain ⟨t0, t1⟩ := ht
  obtain ⟨g1, g2, g3, g4, n1, g6⟩ := mkL_bd hL
  have hlU := mlv_u64 f t 7 n n0
  have hB0 := structs_back (List.replicate 256 0) List.length_replicate f t n f0 t0 n0 hL h256 hne 0 0 0 (by omega) (by omega) (by omega) (by omega) (by omega) (by omega) (by rw [zerosGetD]; simp)
  simp only [Int.zero_mul, Int.add_zero] at hB0
  have hB1 : resAt ((List.replicate 256 0).set f.toNat (mlv f t 7 n)) f = wanted false 2 (t + 1) 0 0 7 0 := by subst hn; simpa [hlow] using hB0
  have HB : Hid _ := hB1
  have bne : (t == f) = false := by simp [hne]
  clear hB0 hB1 hne
  subst hn
  go_enter Faig.func39, Faig.ntmps39
  go_wp2_with fail
  refine (answers_any w.heap.size (List.replicate 256 0) f (mlv f t 7 0) 2 (t + 1) 0 0 7 0 false _ ((Arr.zero w).alloc _) f0 g1 hlU HB.out).mono ?_
  rintro e w1 ⟨rfl, hb1⟩
  have b1 := below_new (((Below.refl w.heap.size w).alloc (Nat.le_refl _) (.cells Faig.zeroCells97 97)).alloc (by simp) _) hb1
  clear hb1
  go_wp2_with fail
  go_ret
  exact ⟨rfl, b1⟩

set_option maxRecDepth 100000 in
set_option maxHeartbeats 2000000 in
theorem structsBack_z3 (f t n : Int) (hf : U16 f) (ht : U16 t) (n0 : 0 ≤ n) (hL : mkL f t 7 n = true) (w : World) (h256 : t < 256) (hne : t ≠ f) (hn : ¬ n = 0) :
    Calls Faig.prog 39 #[.int .u16 f, .int .u16 t, .int .u8 0, .int .u8 0, .int .u32 n, .int .u64 (mlv f t 7 n)] w fun e w' => e = .returned (.bool true) ∧ Below w.heap.size w w' := by
  obtain ⟨f0, f1⟩ := hf; obtain ⟨t0, t1⟩ := ht
  obtain ⟨g1, g2, g3, g4, n1, g6⟩ := mkL_bd hL
  have hlU := mlv_u64 f t 7 n n0
  have hB0 := structs_back (List.replicate 256 0) List.length_replicate f t n f0 t0 n0 hL h256 hne 0 0 0 (by omega) (by omega) (by omega) (by omega) (by omega) (by omega) (by rw [zerosGetD]; simp)
  simp only [Int.zero_mul, Int.add_zero] at hB0
  have hB1 : resAt ((List.replicate 256 0).set f.toNat (mlv f t 7 n)) f = wanted false 2 (t + 1) 0 0 7 0 := by simpa [Ne.symm hn] using hB0
  have HB : Hid _ := hB1
  have bne : (t == f) = false := by simp [hne]
  clear hB0 hB1 hne
  have bn : (n == 0) = false := by simp [hn]
  clear hn
  go_enter Faig.func39, Faig.ntmps39
  go_wp2_with fail
  refine (answers_any w.heap.size (List.replicate 256 0) f (mlv f t 7 n) 2 (t + 1) 0 0 7 0 false _ ((Arr.zero w).alloc _) f0 g1 hlU HB.out).mono ?_
  rintro e w1 ⟨rfl, hb1⟩
  have b1 := below_new (((Below.refl w.heap.size w).alloc (Nat.le_refl _) (.cells Faig.zeroCells97 97)).alloc (by simp) _) hb1
  clear hb1
  go_wp2_with fail
  go_ret
  exact ⟨rfl, b1⟩

set_option maxRecDepth 100000 in
set_option maxHeartbeats 2000000 in
theorem structsBack_rem (f t d p n : Int) (hf : U16 f) (ht : U16 t) (n0 : 0 ≤ n) (hL : mkL f t 7 n = true) (w : World) (hd : U8 d) (hp : U8 p) (h256 : t < 256) (hne : t ≠ f) (he : 0 < d + p) (hrem : ¬ n % (d + p) = 0) :
    Calls Faig.prog 39 #[.int .u16 f, .int .u16 t, .int .u8 d, .int .u8 p, .int .u32 n, .int .u64 (mlv f t 7 n)] w fun e w' => e = .returned (.bool true) ∧ Below w.heap.size w w' := by
  obtain ⟨f0, f1⟩ := hf; obtain ⟨t0, t1⟩ := ht
  obtain ⟨g1, g2, g3, g4, n1, g6⟩ := mkL_bd hL
  have hlU := mlv_u64 f t 7 n n0
  have hB0 := structs_back (List.replicate 256 0) List.length_replicate f t n f0 t0 n0 hL h256 hne 0 0 0 (by omega) (by omega) (by omega) (by omega) (by omega) (by omega) (by rw [zerosGetD]; simp)
  simp only [Int.zero_mul, Int.add_zero] at hB0
  have hn0 : ¬ n = 0 := by intro hh; subst hh; exact hrem (by simp)
  have hB1 : resAt ((List.replicate 256 0).set f.toNat (mlv f t 7 n)) f = wanted false 2 (t + 1) 0 0 7 0 := by simpa [Ne.symm hn0] using hB0
  have HB : Hid _ := hB1
  have bne : (t == f) = false := by simp [hne]
  have be : (d + p != 0) = true := by simp; omega
  have bm : (n % (d + p) == 0) = false := by simp [hrem]
  have bn : (n == 0) = false := by simp [hn0]
  obtain ⟨d0, d1⟩ := hd; obtain ⟨p0, p1⟩ := hp
  clear hB0 hB1 hne hn0 hrem
  go_enter Faig.func39, Faig.ntmps39
  go_wp2_with fail
  refine (answers_any w.heap.size (List.replicate 256 0) f (mlv f t 7 n) 2 (t + 1) 0 0 7 0 false _ ((Arr.zero w).alloc _) f0 g1 hlU HB.out).mono ?_
  rintro e w1 ⟨rfl, hb1⟩
  have b1 := below_new (((Below.refl w.heap.size w).alloc (Nat.le_refl _) (.cells Faig.zeroCells97 97)).alloc (by simp) _) hb1
  clear hb1
  go_wp2_with fail
  go_ret
  exact ⟨rfl, b1⟩

set_option maxRecDepth 100000 in
set_option maxHeartbeats 2000000 in
theorem structsBack_yes (f t d p n k : Int) (hf : U16 f) (ht : U16 t) (n0 : 0 ≤ n) (hL : mkL f t 7 n = true) (w : World) (hd : U8 d) (hp : U8 p) (h256 : t < 256) (hne : t ≠ f) (he : 0 < d + p) (hrem : n % (d + p) = 0) (hdiv : n / (d + p) = k) (hk : k * (d + p) = n) (k0 : 0 ≤ k) (k1 : k ≤ 256) (y1 : k ≤ 128) (y2 : d ≤ 8) (y3 : p ≤ 8) (y4 : 1 ≤ t) :
    Calls Faig.prog 39 #[.int .u16 f, .int .u16 t, .int .u8 d, .int .u8 p, .int .u32 n, .int .u64 (mlv f t 7 n)] w fun e w' => e = .returned (.bool true) ∧ Below w.heap.size w w' := by
  obtain ⟨f0, f1⟩ := hf; obtain ⟨t0, t1⟩ := ht
  obtain ⟨g1, g2, g3, g4, n1, g6⟩ := mkL_bd hL
  have hlU := mlv_u64 f t 7 n n0
  obtain ⟨d0, d1⟩ := hd; obtain ⟨p0, p1⟩ := hp
  have hB0 := structs_back ((List.replicate 256 0).set t.toNat (k * 4 + d * 4294967296 + p * 281474976710656)) (by rw [List.length_set]; exact List.length_replicate) f t n f0 t0 n0 hL h256 hne d p k d0 d1 p0 p1 k0 k1 (getD_set_same _ _ _ (by rw [List.length_replicate]; omega))
  have eor := or_tag k d p k0 k1 d0 d1 p0 p1
  have zt := zerosAt 256 t.toNat (by omega)
  rw [← zeros97] at zt
  have be : (d + p != 0) = true := by simp; omega
  have bm : (n % (d + p) == 0) = true := by simp [hrem]
  have hB1 : resAt (((List.replicate 256 0).set t.toNat (k * 4 + d * 4294967296 + p * 281474976710656)).set f.toNat (mlv f t 7 n)) f = wanted (decide (t + 1 + n ≤ 256)) 2 (t + 1) d p 7 k := by
    rw [hB0]; congr 1; simp [y1, y2, y3, y4, hk]; omega
  have HB : Hid _ := hB1
  have bne : (t == f) = false := by simp [hne]
  have HK : Hid (k * (d + p) = n) := hk
  clear hB0 hB1 hne hrem hk
  go_enter Faig.func39, Faig.ntmps39
  go_wp2_with fail
  refine (answers_any w.heap.size ((List.replicate 256 0).set t.toNat (k * 4 + d * 4294967296 + p * 281474976710656)) f (mlv f t 7 n) 2 (t + 1) d p 7 k (decide (t + 1 + n ≤ 256)) _ ((Arr.zero_set w t.toNat (k * 4 + d * 4294967296 + p * 281474976710656) ⟨by omega, by omega⟩ (by omega)).alloc _) f0 g1 hlU HB.out).mono ?_
  rintro e w1 ⟨rfl, hb1⟩
  have b1 := below_new (((Below.refl w.heap.size w).alloc (Nat.le_refl _) (.cells (Faig.zeroCells97.setIfInBounds t.toNat (.int .u64 (k * 4 + d * 4294967296 + p * 281474976710656))) 97)).alloc (by simp) _) hb1
  clear hb1
  go_wp2_with fail
  go_ret
  exact ⟨rfl, b1⟩

set_option maxRecDepth 100000 in
set_option maxHeartbeats 2000000 in
theorem structsBack_n1 (f t d p n k : Int) (hf : U16 f) (ht : U16 t) (n0 : 0 ≤ n) (hL : mkL f t 7 n = true) (w : World) (hd : U8 d) (hp : U8 p) (h256 : t < 256) (hne : t ≠ f) (he : 0 < d + p) (hrem : n % (d + p) = 0) (hdiv : n / (d + p) = k) (hk : k * (d + p) = n) (k0 : 0 ≤ k) (k1 : k ≤ 256) (y1 : 128 < k) :
    Calls Faig.prog 39 #[.int .u16 f, .int .u16 t, .int .u8 d, .int .u8 p, .int .u32 n, .int .u64 (mlv f t 7 n)] w fun e w' => e = .returned (.bool true) ∧ Below w.heap.size w w' := by
  obtain ⟨f0, f1⟩ := hf; obtain ⟨t0, t1⟩ := ht
  obtain ⟨g1, g2, g3, g4, n1, g6⟩ := mkL_bd hL
  have hlU := mlv_u64 f t 7 n n0
  obtain ⟨d0, d1⟩ := hd; obtain ⟨p0, p1⟩ := hp
  have hB0 := structs_back ((List.replicate 256 0).set t.toNat (k * 4 + d * 4294967296 + p * 281474976710656)) (by rw [List.length_set]; exact List.length_replicate) f t n f0 t0 n0 hL h256 hne d p k d0 d1 p0 p1 k0 k1 (getD_set_same _ _ _ (by rw [List.length_replicate]; omega))
  have eor := or_tag k d p k0 k1 d0 d1 p0 p1
  have zt := zerosAt 256 t.toNat (by omega)
  rw [← zeros97] at zt
  have be : (d + p != 0) = true := by simp; omega
  have bm : (n % (d + p) == 0) = true := by simp [hrem]
  have hB1 : resAt (((List.replicate 256 0).set t.toNat (k * 4 + d * 4294967296 + p * 281474976710656)).set f.toNat (mlv f t 7 n)) f = wanted false 2 (t + 1) d p 7 k := by
    rw [hB0]; congr 1; simp; omega
  have HB : Hid _ := hB1
  have bne : (t == f) = false := by simp [hne]
  have HK : Hid (k * (d + p) = n) := hk
  clear hB0 hB1 hne hrem hk
  go_enter Faig.func39, Faig.ntmps39
  go_wp2_with fail
  refine (answers_any w.heap.size ((List.replicate 256 0).set t.toNat (k * 4 + d * 4294967296 + p * 281474976710656)) f (mlv f t 7 n) 2 (t + 1) d p 7 k false _ ((Arr.zero_set w t.toNat (k * 4 + d * 4294967296 + p * 281474976710656) ⟨by omega, by omega⟩ (by omega)).alloc _) f0 g1 hlU HB.out).mono ?_
  rintro e w1 ⟨rfl, hb1⟩
  have b1 := below_new (((Below.refl w.heap.size w).alloc (Nat.le_refl _) (.cells (Faig.zeroCells97.setIfInBounds t.toNat (.int .u64 (k * 4 + d * 4294967296 + p * 281474976710656))) 97)).alloc (by simp) _) hb1
  clear hb1
  go_wp2_with fail
  go_ret
  exact ⟨rfl, b1⟩

set_option maxRecDepth 100000 in
set_option maxHeartbeats 2000000 in
theorem structsBack_n2 (f t d p n k : Int) (hf : U16 f) (ht : U16 t) (n0 : 0 ≤ n) (hL : mkL f t 7 n = true) (w : World) (hd : U8 d) (hp : U8 p) (h256 : t < 256) (hne : t ≠ f) (he : 0 < d + p) (hrem : n % (d + p) = 0) (hdiv : n / (d + p) = k) (hk : k * (d + p) = n) (k0 : 0 ≤ k) (k1 : k ≤ 256) (y1 : k ≤ 128) (y2 : 8 < d) :
    Calls Faig.prog 39 #[.int .u16 f, .int .u16 t, .int .u8 d, .int .u8 p, .int .u32 n, .int .u64 (mlv f t 7 n)] w fun e w' => e = .returned (.bool true) ∧ Below w.heap.size w w' := by
  obtain ⟨f0, f1⟩ := hf; obtain ⟨t0, t1⟩ := ht
  obtain ⟨g1, g2, g3, g4, n1, g6⟩ := mkL_bd hL
  have hlU := mlv_u64 f t 7 n n0
  obtain ⟨d0, d1⟩ := hd; obtain ⟨p0, p1⟩ := hp
  have hB0 := structs_back ((List.replicate 256 0).set t.toNat (k * 4 + d * 4294967296 + p * 281474976710656)) (by rw [List.length_set]; exact List.length_replicate) f t n f0 t0 n0 hL h256 hne d p k d0 d1 p0 p1 k0 k1 (getD_set_same _ _ _ (by rw [List.length_replicate]; omega))
  have eor := or_tag k d p k0 k1 d0 d1 p0 p1
  have zt := zerosAt 256 t.toNat (by omega)
  rw [← zeros97] at zt
  have be : (d + p != 0) = true := by simp; omega
  have bm : (n % (d + p) == 0) = true := by simp [hrem]
  have hB1 : resAt (((List.replicate 256 0).set t.toNat (k * 4 + d * 4294967296 + p * 281474976710656)).set f.toNat (mlv f t 7 n)) f = wanted false 2 (t + 1) d p 7 k := by
    rw [hB0]; congr 1; simp; omega
  have HB : Hid _ := hB1
  have bne : (t == f) = false := by simp [hne]
  have HK : Hid (k * (d + p) = n) := hk
  clear hB0 hB1 hne hrem hk
  go_enter Faig.func39, Faig.ntmps39
  go_wp2_with fail
  refine (answers_any w.heap.size ((List.replicate 256 0).set t.toNat (k * 4 + d * 4294967296 + p * 281474976710656)) f (mlv f t 7 n) 2 (t + 1) d p 7 k false _ ((Arr.zero_set w t.toNat (k * 4 + d * 4294967296 + p * 281474976710656) ⟨by omega, by omega⟩ (by omega)).alloc _) f0 g1 hlU HB.out).mono ?_
  rintro e w1 ⟨rfl, hb1⟩
  have b1 := below_new (((Below.refl w.heap.size w).alloc (Nat.le_refl _) (.cells (Faig.zeroCells97.setIfInBounds t.toNat (.int .u64 (k * 4 + d * 4294967296 + p * 281474976710656))) 97)).alloc (by simp) _) hb1
  clear hb1
  go_wp2_with fail
  go_ret
  exact ⟨rfl, b1⟩

set_option maxRecDepth 100000 in
set_option maxHeartbeats 2000000 in
theorem structsBack_n3 (f t d p n k : Int) (hf : U16 f) (ht : U16 t) (n0 : 0 ≤ n) (hL : mkL f t 7 n = true) (w : World) (hd : U8 d) (hp : U8 p) (h256 : t < 256) (hne : t ≠ f) (he : 0 < d + p) (hrem : n % (d + p) = 0) (hdiv : n / (d + p) = k) (hk : k * (d + p) = n) (k0 : 0 ≤ k) (k1 : k ≤ 256) (y1 : k ≤ 128) (y2 : d ≤ 8) (y3 : 8 < p) :
    Calls Faig.prog 39 #[.int .u16 f, .int .u16 t, .int .u8 d, .int .u8 p, .int .u32 n, .int .u64 (mlv f t 7 n)] w fun e w' => e = .returned (.bool true) ∧ Below w.heap.size w w' := by
  obtain ⟨f0, f1⟩ := hf; obtain ⟨t0, t1⟩ := ht
  obtain ⟨g1, g2, g3, g4, n1, g6⟩ := mkL_bd hL
  have hlU := mlv_u64 f t 7 n n0
  obtain ⟨d0, d1⟩ := hd; obtain ⟨p0, p1⟩ := hp
  have hB0 := structs_back ((List.replicate 256 0).set t.toNat (k * 4 + d * 4294967296 + p * 281474976710656)) (by rw [List.length_set]; exact List.length_replicate) f t n f0 t0 n0 hL h256 hne d p k d0 d1 p0 p1 k0 k1 (getD_set_same _ _ _ (by rw [List.length_replicate]; omega))
  have eor := or_tag k d p k0 k1 d0 d1 p0 p1
  have zt := zerosAt 256 t.toNat (by omega)
  rw [← zeros97] at zt
  have be : (d + p != 0) = true := by simp; omega
  have bm : (n % (d + p) == 0) = true := by simp [hrem]
  have hB1 : resAt (((List.replicate 256 0).set t.toNat (k * 4 + d * 4294967296 + p * 281474976710656)).set f.toNat (mlv f t 7 n)) f = wanted false 2 (t + 1) d p 7 k := by
    rw [hB0]; congr 1; simp; omega
  have HB : Hid _ := hB1
  have bne : (t == f) = false := by simp [hne]
  have HK : Hid (k * (d + p) = n) := hk
  clear hB0 hB1 hne hrem hk
  go_enter Faig.func39, Faig.ntmps39
  go_wp2_with fail
  refine (answers_any w.heap.size ((List.replicate 256 0).set t.toNat (k * 4 + d * 4294967296 + p * 281474976710656)) f (mlv f t 7 n) 2 (t + 1) d p 7 k false _ ((Arr.zero_set w t.toNat (k * 4 + d * 4294967296 + p * 281474976710656) ⟨by omega, by omega⟩ (by omega)).alloc _) f0 g1 hlU HB.out).mono ?_
  rintro e w1 ⟨rfl, hb1⟩
  have b1 := below_new (((Below.refl w.heap.size w).alloc (Nat.le_refl _) (.cells (Faig.zeroCells97.setIfInBounds t.toNat (.int .u64 (k * 4 + d * 4294967296 + p * 281474976710656))) 97)).alloc (by simp) _) hb1
  clear hb1
  go_wp2_with fail
  go_ret
  exact ⟨rfl, b1⟩

set_option maxRecDepth 100000 in
set_option maxHeartbeats 2000000 in
theorem structsBack_n4 (f t d p n k : Int) (hf : U16 f) (ht : U16 t) (n0 : 0 ≤ n) (hL : mkL f t 7 n = true) (w : World) (hd : U8 d) (hp : U8 p) (h256 : t < 256) (hne : t ≠ f) (he : 0 < d + p) (hrem : n % (d + p) = 0) (hdiv : n / (d + p) = k) (hk : k * (d + p) = n) (k0 : 0 ≤ k) (k1 : k ≤ 256) (y1 : k ≤ 128) (y2 : d ≤ 8) (y3 : p ≤ 8) (y4 : t < 1) :
    Calls Faig.prog 39 #[.int .u16 f, .int .u16 t, .int .u8 d, .int .u8 p, .int .u32 n, .int .u64 (mlv f t 7 n)] w fun e w' => e = .returned (.bool true) ∧ Below w.heap.size w w' := by
  obtain ⟨f0, f1⟩ := hf; obtain ⟨t0, t1⟩ := ht
  obtain ⟨g1, g2, g3, g4, n1, g6⟩ := mkL_bd hL
  have hlU := mlv_u64 f t 7 n n0
  obtain ⟨d0, d1⟩ := hd; obtain ⟨p0, p1⟩ := hp
  have hB0 := structs_back ((List.replicate 256 0).set t.toNat (k * 4 + d * 4294967296 + p * 281474976710656)) (by rw [List.length_set]; exact List.length_replicate) f t n f0 t0 n0 hL h256 hne d p k d0 d1 p0 p1 k0 k1 (getD_set_same _ _ _ (by rw [List.length_replicate]; omega))
  have eor := or_tag k d p k0 k1 d0 d1 p0 p1
  have zt := zerosAt 256 t.toNat (by omega)
  rw [← zeros97] at zt
  have be : (d + p != 0) = true := by simp; omega
  have bm : (n % (d + p) == 0) = true := by simp [hrem]
  have hB1 : resAt (((List.replicate 256 0).set t.toNat (k * 4 + d * 4294967296 + p * 281474976710656)).set f.toNat (mlv f t 7 n)) f = wanted false 2 (t + 1) d p 7 k := by
    rw [hB0]; congr 1; simp; omega
  have HB : Hid _ := hB1
  have bne : (t == f) = false := by simp [hne]
  have HK : Hid (k * (d + p) = n) := hk
  clear hB0 hB1 hne hrem hk
  go_enter Faig.func39, Faig.ntmps39
  go_wp2_with fail
  refine (answers_any w.heap.size ((List.replicate 256 0).set t.toNat (k * 4 + d * 4294967296 + p * 281474976710656)) f (mlv f t 7 n) 2 (t + 1) d p 7 k false _ ((Arr.zero_set w t.toNat (k * 4 + d * 4294967296 + p * 281474976710656) ⟨by omega, by omega⟩ (by omega)).alloc _) f0 g1 hlU HB.out).mono ?_
  rintro e w1 ⟨rfl, hb1⟩
  have b1 := below_new (((Below.refl w.heap.size w).alloc (Nat.le_refl _) (.cells (Faig.zeroCells97.setIfInBounds t.toNat (.int .u64 (k * 4 + d * 4294967296 + p * 281474976710656))) 97)).alloc (by simp) _) hb1
  clear hb1
  go_wp2_with fail
  go_ret
  exact ⟨rfl, b1⟩

theorem structsBack_any (f t d p n : Int) (hf : U16 f) (ht : U16 t) (hd : U8 d) (hp : U8 p) (n0 : 0 ≤ n) (hL : mkL f t 7 n = true) (w : World) :
    Calls Faig.prog 39 #[.int .u16 f, .int .u16 t, .int .u8 d, .int .u8 p, .int .u32 n, .int .u64 (mlv f t 7 n)] w fun e w' => e = .returned (.bool true) ∧ Below w.heap.size w w' := by
  by_cases h256 : 256 ≤ t
  · exact structsBack_far f t d p n hf ht n0 hL w h256
  by_cases hne : t = f
  · subst hne
    exact structsBack_same t d p n hf n0 hL w (by omega)
  by_cases he : d + p = 0
  · obtain ⟨d0, d1⟩ := hd; obtain ⟨p0, p1⟩ := hp
    obtain rfl : d = 0 := by omega
    obtain rfl : p = 0 := by omega
    by_cases hn : n = 0
    · by_cases hlow : 1 ≤ t
      · exact structsBack_z1 f t n hf ht n0 hL w (by omega) hne hn hlow
      · exact structsBack_z2 f t n hf ht n0 hL w (by omega) hne hn hlow
    · exact structsBack_z3 f t n hf ht n0 hL w (by omega) hne hn
  have he' : 0 < d + p := by have := hd.1; have := hp.1; omega
  by_cases hrem : n % (d + p) = 0
  · have hk : n / (d + p) * (d + p) = n := by have := Int.mul_ediv_add_emod n (d + p); rw [hrem] at this; rw [Int.mul_comm]; omega
    have k0 : 0 ≤ n / (d + p) := Int.ediv_nonneg n0 (by omega)
    have k1 : n / (d + p) ≤ 256 := by have := Int.ediv_le_self (d + p) n0; have := (mkL_bd hL).2.2.2.2.1; omega
    by_cases y1 : n / (d + p) ≤ 128
    · by_cases y2 : d ≤ 8
      · by_cases y3 : p ≤ 8
        · by_cases y4 : 1 ≤ t
          · exact structsBack_yes f t d p n _ hf ht n0 hL w hd hp (by omega) hne he' hrem rfl hk k0 k1 y1 y2 y3 y4
          · exact structsBack_n4 f t d p n _ hf ht n0 hL w hd hp (by omega) hne he' hrem rfl hk k0 k1 y1 y2 y3 (by omega)
        · exact structsBack_n3 f t d p n _ hf ht n0 hL w hd hp (by omega) hne he' hrem rfl hk k0 k1 y1 y2 (by omega)
      · exact structsBack_n2 f t d p n _ hf ht n0 hL w hd hp (by omega) hne he' hrem rfl hk k0 k1 y1 (by omega)
    · exact structsBack_n1 f t d p n _ hf ht n0 hL w hd hp (by omega) hne he' hrem rfl hk k0 k1 (by omega)
  · exact structsBack_rem f t d p n hf ht n0 hL w hd hp (by omega) hne he' hrem
end Go.Proofs.Ygcfai

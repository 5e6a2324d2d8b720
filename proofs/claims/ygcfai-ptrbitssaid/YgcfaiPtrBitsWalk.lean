/-
  THE WALK of law.PtrBits.
-/
import Derived.Test.YgcfaiReadC
namespace Go.Proofs.Ygcfai
open Go.RowKit Plain

theorem zero97 : Faig.zeroCells97 = Array.replicate 256 (.int .u64 0) := by kernel_rfl
/-- An arena of m words, all zero but two. -/
def arenaN (m i : Nat) (v : Int) (j : Nat) (x : Int) : List Int := ((List.replicate m 0).set i v).set j x
theorem arenaN_cells (m i : Nat) (v : Int) (j : Nat) (x : Int) : ((Array.replicate m (Value.int .u64 0)).setIfInBounds i (.int .u64 v)).setIfInBounds j (.int .u64 x) = ((arenaN m i v j x).map (Value.int .u64)).toArray := by
  rw [arenaN, List.map_set, List.map_set, List.map_replicate]
  apply Array.ext'
  simp
theorem arenaN_len (m i : Nat) (v : Int) (j : Nat) (x : Int) : (arenaN m i v j x).length = m := by simp [arenaN]
theorem arenaN_at (m i : Nat) (v : Int) (j : Nat) (x : Int) (hj : j < m) : (arenaN m i v j x).getD j 0 = x := by
  simp [arenaN, List.getD_eq_getElem?_getD, hj]
theorem arenaN_other (m i : Nat) (v : Int) (j : Nat) (x : Int) (hi : i < m) (hij : i ≠ j) : (arenaN m i v j x).getD i 0 = v := by
  simp [arenaN, List.getD_eq_getElem?_getD, hi, hij.symm]
theorem arenaN_bd (m i : Nat) (v : Int) (j : Nat) (x : Int) (hv : U64 v) (hx : U64 x) (k : Nat) : U64 ((arenaN m i v j x).getD k 0) := by
  have h : ∀ (l : List Int) (m : Nat) (y : Int), (∀ k, U64 (l.getD k 0)) → U64 y → ∀ k, U64 ((l.set m y).getD k 0) := by
    intro l m y hl hy k
    rw [List.getD_eq_getElem?_getD, List.getElem?_set]
    split
    · split
      · exact hy
      · exact ⟨by simp, by simp⟩
    · have := hl k; rw [List.getD_eq_getElem?_getD] at this; exact this
  refine h _ _ _ (h _ _ _ (fun k => ?_) hv) hx k
  rw [List.getD_eq_getElem?_getD, List.getElem?_replicate]
  split <;> exact ⟨by simp, by simp⟩
theorem arenaN_row (m : Nat) (hm : m ≤ maxLen) (W : World) (i : Nat) (v : Int) (j : Nat) (x : Int) (hv : U64 v) (hx : U64 x) :
    Row (W.alloc (.cells (((Array.replicate m (Value.int .u64 0)).setIfInBounds i (.int .u64 v)).setIfInBounds j (.int .u64 x)) 97)) (some ⟨W.heap.size, 0, none⟩) m (arenaN m i v j x) := by
  refine ⟨arenaN_len m i v j x, arenaN_bd m i v j x hv hx, hm, Or.inr ⟨W.heap.size, 0, rfl, by simp, fun k hk => ?_⟩⟩
  rw [arenaN_cells]
  have hl := arenaN_len m i v j x
  have e : (W.alloc (.cells ((arenaN m i v j x).map (Value.int .u64)).toArray 97)).cell? ⟨W.heap.size, 0 + k, none⟩ = ((arenaN m i v j x).map (Value.int .u64)).toArray[0 + k]? := by simp [go_sem]
  rw [e]
  simp [List.getD_eq_getElem?_getD, hl, hk]
theorem zeroN_at (m i : Nat) (h : i < m) : (Array.replicate m (Value.int .u64 0))[i]? = some (.int .u64 0) := by simp [h]
theorem setN_at (m i j : Nat) (v : Value) (h : j < m) : ∃ u, ((Array.replicate m (Value.int .u64 0)).setIfInBounds i v)[j]? = some u :=
  ⟨_, Array.getElem?_eq_getElem (by simp [h])⟩
/-- The arena of the laws: 256 words. -/
def arena (i : Nat) (v : Int) (j : Nat) (x : Int) : List Int := arenaN 256 i v j x
theorem arena_len (i : Nat) (v : Int) (j : Nat) (x : Int) : (arena i v j x).length = 256 := arenaN_len 256 i v j x
theorem arena_at (i : Nat) (v : Int) (j : Nat) (x : Int) (hj : j < 256) : (arena i v j x).getD j 0 = x := arenaN_at 256 i v j x hj
theorem arena_row (W : World) (i : Nat) (v : Int) (j : Nat) (x : Int) (hv : U64 v) (hx : U64 x) :
    Row (W.alloc (.cells ((Faig.zeroCells97.setIfInBounds i (.int .u64 v)).setIfInBounds j (.int .u64 x)) 97)) (some ⟨W.heap.size, 0, none⟩) 256 (arena i v j x) := by
  rw [zero97]; exact arenaN_row 256 (by unfold maxLen; omega) W i v j x hv hx
theorem zero97_at (i : Nat) (h : i < 256) : Faig.zeroCells97[i]? = some (.int .u64 0) := by rw [zero97]; exact zeroN_at 256 i h
theorem set97_at (i j : Nat) (v : Value) (h : j < 256) : ∃ u, (Faig.zeroCells97.setIfInBounds i v)[j]? = some u := by rw [zero97]; exact setN_at 256 i j v h

namespace ptrBits
set_option linter.unusedVariables false
set_option linter.unusedSimpArgs false

set_option maxRecDepth 100000 in
set_option maxHeartbeats 2000000 in
theorem walk_ff (w v f t d p c n : Int) (hw : U64 w) (hv : U64 v) (hf : U16 f) (ht : U16 t) (hd : U8 d) (hp : U8 p) (hc : U8 c) (hn : 0 ≤ n ∧ n < 4294967296) (W : World) (hS : mkS f t d p = false) (hL : mkL f t c n = false) :
    Calls Faig.prog 9 #[.int .u64 w, .int .u64 v, .int .u16 f, .int .u16 t, .int .u8 d, .int .u8 p, .int .u8 c, .int .u32 n] W fun e w' => e = .returned (.bool true) ∧ Below W.heap.size W w' := by
  have hfU := hf
  have htU := ht
  have hdU := hd
  have hpU := hp
  have hcU := hc
  have hnU := hn
  obtain ⟨f0, f1⟩ := hf; obtain ⟨t0, t1⟩ := ht; obtain ⟨d0, d1⟩ := hd; obtain ⟨p0, p1⟩ := hp; obtain ⟨c0, c1⟩ := hc; obtain ⟨n0, n1⟩ := hn
  have zt := zero97_at (t % 256).toNat (by omega)
  obtain ⟨u, zf⟩ := set97_at (t % 256).toNat (f % 256).toNat (.int .u64 v) (by omega)
  have eOff := off_plain2 f t hfU htU
  go_enter Faig.func9, Faig.ntmps9
  go_wp2_with fail
  refine (makesStruct_any f t d p _).mono ?_
  rintro e w' ⟨rfl, hw'⟩
  subst w'
  go_wp2_with fail
  refine (makesList_any f t c n _).mono ?_
  rintro e w' ⟨rfl, hw'⟩
  subst w'
  go_wp2_with fail
  refine (readWord_any (some ⟨W.heap.size, 0, none⟩) 256 256 (arena (t % 256).toNat v (f % 256).toNat w) w (f % 256 + 1) (by omega) hw (by omega) (by omega) _ (arena_row _ _ _ _ _ hv hw)).mono ?_
  rintro e w1 ⟨rfl, hb1⟩
  have hr1 := (arena_row W (t % 256).toNat v (f % 256).toNat w hv hw).below hb1 (Nat.le_refl _)
  have b1 : Below W.heap.size W w1 := below1 (hb1.mono (by simp))
  have z1 : W.heap.size < w1.heap.size := by have := hb1.size; simp at this; omega
  clear hb1
  have hres : resAt (arena (t % 256).toNat v (f % 256).toNat w) (f % 256) = resW (arena (t % 256).toNat v (f % 256).toNat w) w (f % 256 + 1) 1 := by
    unfold resAt; rw [arena_len, if_neg (by omega), arena_at _ _ _ _ (by omega)]
  have HRES : Hid _ := hres
  clear hres
  unfold PV.ptr
  go_wp2_with fail
  refine (resolve_any (some ⟨W.heap.size, 0, none⟩) 256 256 (arena (t % 256).toNat v (f % 256).toNat w) (f % 256) ⟨by omega, by omega⟩ _ (hr1.alloc _)).mono ?_
  rw [HRES.out]
  rintro e w2 ⟨rfl, hb2⟩
  generalize resW (arena (t % 256).toNat v (f % 256).toNat w) w (f % 256 + 1) 1 = r at hb2 ⊢
  have hh : w2.cell? ⟨w1.heap.size, 0, none⟩ = some (.int .u8 r.k) ∧ w2.cell? ⟨w1.heap.size, 1, none⟩ = some (.int .u16 r.t) ∧ w2.cell? ⟨w1.heap.size, 2, none⟩ = some (.int .u8 r.d) ∧ w2.cell? ⟨w1.heap.size, 3, none⟩ = some (.int .u8 r.p) ∧ w2.cell? ⟨w1.heap.size, 4, none⟩ = some (.int .u8 r.c) ∧ w2.cell? ⟨w1.heap.size, 5, none⟩ = some (.int .u16 r.n) := by
    refine ⟨?_, ?_, ?_, ?_, ?_, ?_⟩ <;> (rw [hb2.cell (by simp)]; simp [go_sem])
  have b2 : Below W.heap.size W w2 := (b1.alloc (by omega) _).trans (hb2.mono (by simp; omega))
  have z2 : W.heap.size ≤ w2.heap.size := b2.size
  have z12 : w1.heap.size < w2.heap.size := by have := hb2.size; simp at this; omega
  clear hb2
  unfold PV.ptr
  obtain ⟨rk, rt, rd, rp, rc, rn, rok⟩ := r
  go_wp2_with fail
  go_ret
  exact ⟨ret_bool (by simp), b2.alloc z2 _⟩

set_option maxRecDepth 100000 in
set_option maxHeartbeats 2000000 in
theorem walk_df (w v f t d p c n : Int) (hw : U64 w) (hv : U64 v) (hf : U16 f) (ht : U16 t) (hd : U8 d) (hp : U8 p) (hc : U8 c) (hn : 0 ≤ n ∧ n < 4294967296) (W : World) (hS : mkS f t d p = true) (hz : ¬ d = 0) (hL : mkL f t c n = false) :
    Calls Faig.prog 9 #[.int .u64 w, .int .u64 v, .int .u16 f, .int .u16 t, .int .u8 d, .int .u8 p, .int .u8 c, .int .u32 n] W fun e w' => e = .returned (.bool true) ∧ Below W.heap.size W w' := by
  have hfU := hf
  have htU := ht
  have hdU := hd
  have hpU := hp
  have hcU := hc
  have hnU := hn
  obtain ⟨f0, f1⟩ := hf; obtain ⟨t0, t1⟩ := ht; obtain ⟨d0, d1⟩ := hd; obtain ⟨p0, p1⟩ := hp; obtain ⟨c0, c1⟩ := hc; obtain ⟨n0, n1⟩ := hn
  have zt := zero97_at (t % 256).toNat (by omega)
  obtain ⟨u, zf⟩ := set97_at (t % 256).toNat (f % 256).toNat (.int .u64 v) (by omega)
  have eOff := off_plain2 f t hfU htU
  obtain ⟨s1, s2, s3, s4⟩ : f < 256 ∧ t ≤ 256 ∧ d ≤ 8 ∧ p ≤ 8 := by simpa [mkS] using hS
  have eos := or_struct f t d p d0 s3 p0 s4
  have hms : (msv f t d p != offv f t + d * 4294967296 + p * 281474976710656) = false := by simp [msv, hS, hz]
  have bd : (d == 0) = false := by simp [hz]
  clear hz
  go_enter Faig.func9, Faig.ntmps9
  go_wp2_with fail
  refine (makesStruct_any f t d p _).mono ?_
  rintro e w' ⟨rfl, hw'⟩
  subst w'
  go_wp2_with fail
  refine (makeStruct_any f t d p hfU htU hdU hpU _).mono ?_
  rintro e w' ⟨rfl, hw'⟩
  subst w'
  go_wp2_with fail
  refine (makesList_any f t c n _).mono ?_
  rintro e w' ⟨rfl, hw'⟩
  subst w'
  go_wp2_with fail
  refine (readWord_any (some ⟨W.heap.size, 0, none⟩) 256 256 (arena (t % 256).toNat v (f % 256).toNat w) w (f % 256 + 1) (by omega) hw (by omega) (by omega) _ (arena_row _ _ _ _ _ hv hw)).mono ?_
  rintro e w1 ⟨rfl, hb1⟩
  have hr1 := (arena_row W (t % 256).toNat v (f % 256).toNat w hv hw).below hb1 (Nat.le_refl _)
  have b1 : Below W.heap.size W w1 := below1 (hb1.mono (by simp))
  have z1 : W.heap.size < w1.heap.size := by have := hb1.size; simp at this; omega
  clear hb1
  have hres : resAt (arena (t % 256).toNat v (f % 256).toNat w) (f % 256) = resW (arena (t % 256).toNat v (f % 256).toNat w) w (f % 256 + 1) 1 := by
    unfold resAt; rw [arena_len, if_neg (by omega), arena_at _ _ _ _ (by omega)]
  have HRES : Hid _ := hres
  clear hres
  unfold PV.ptr
  go_wp2_with fail
  refine (resolve_any (some ⟨W.heap.size, 0, none⟩) 256 256 (arena (t % 256).toNat v (f % 256).toNat w) (f % 256) ⟨by omega, by omega⟩ _ (hr1.alloc _)).mono ?_
  rw [HRES.out]
  rintro e w2 ⟨rfl, hb2⟩
  generalize resW (arena (t % 256).toNat v (f % 256).toNat w) w (f % 256 + 1) 1 = r at hb2 ⊢
  have hh : w2.cell? ⟨w1.heap.size, 0, none⟩ = some (.int .u8 r.k) ∧ w2.cell? ⟨w1.heap.size, 1, none⟩ = some (.int .u16 r.t) ∧ w2.cell? ⟨w1.heap.size, 2, none⟩ = some (.int .u8 r.d) ∧ w2.cell? ⟨w1.heap.size, 3, none⟩ = some (.int .u8 r.p) ∧ w2.cell? ⟨w1.heap.size, 4, none⟩ = some (.int .u8 r.c) ∧ w2.cell? ⟨w1.heap.size, 5, none⟩ = some (.int .u16 r.n) := by
    refine ⟨?_, ?_, ?_, ?_, ?_, ?_⟩ <;> (rw [hb2.cell (by simp)]; simp [go_sem])
  have b2 : Below W.heap.size W w2 := (b1.alloc (by omega) _).trans (hb2.mono (by simp; omega))
  have z2 : W.heap.size ≤ w2.heap.size := b2.size
  have z12 : w1.heap.size < w2.heap.size := by have := hb2.size; simp at this; omega
  clear hb2
  unfold PV.ptr
  obtain ⟨rk, rt, rd, rp, rc, rn, rok⟩ := r
  go_wp2_with fail
  go_ret
  exact ⟨ret_bool (by simp), b2.alloc z2 _⟩

set_option maxRecDepth 100000 in
set_option maxHeartbeats 2000000 in
theorem walk_pf (w v f t p c n : Int) (hw : U64 w) (hv : U64 v) (hf : U16 f) (ht : U16 t) (hd : U8 0) (hp : U8 p) (hc : U8 c) (hn : 0 ≤ n ∧ n < 4294967296) (W : World) (hS : mkS f t 0 p = true) (hz : ¬ p = 0) (hL : mkL f t c n = false) :
    Calls Faig.prog 9 #[.int .u64 w, .int .u64 v, .int .u16 f, .int .u16 t, .int .u8 0, .int .u8 p, .int .u8 c, .int .u32 n] W fun e w' => e = .returned (.bool true) ∧ Below W.heap.size W w' := by
  have hfU := hf
  have htU := ht
  have hdU := hd
  have hpU := hp
  have hcU := hc
  have hnU := hn
  obtain ⟨f0, f1⟩ := hf; obtain ⟨t0, t1⟩ := ht; obtain ⟨d0, d1⟩ := hd; obtain ⟨p0, p1⟩ := hp; obtain ⟨c0, c1⟩ := hc; obtain ⟨n0, n1⟩ := hn
  have zt := zero97_at (t % 256).toNat (by omega)
  obtain ⟨u, zf⟩ := set97_at (t % 256).toNat (f % 256).toNat (.int .u64 v) (by omega)
  have eOff := off_plain2 f t hfU htU
  obtain ⟨s1, s2, s3, s4⟩ : f < 256 ∧ t ≤ 256 ∧ (0 : Int) ≤ 8 ∧ p ≤ 8 := by simpa [mkS] using hS
  have eos := or_struct f t 0 p d0 s3 p0 s4
  have hms : (msv f t 0 p != offv f t + 0 * 4294967296 + p * 281474976710656) = false := by simp [msv, hS, hz]
  simp at hms eos
  have bp : (p == 0) = false := by simp [hz]
  clear hz
  go_enter Faig.func9, Faig.ntmps9
  go_wp2_with fail
  refine (makesStruct_any f t 0 p _).mono ?_
  rintro e w' ⟨rfl, hw'⟩
  subst w'
  go_wp2_with fail
  refine (makeStruct_any f t 0 p hfU htU hdU hpU _).mono ?_
  rintro e w' ⟨rfl, hw'⟩
  subst w'
  go_wp2_with fail
  refine (makesList_any f t c n _).mono ?_
  rintro e w' ⟨rfl, hw'⟩
  subst w'
  go_wp2_with fail
  refine (readWord_any (some ⟨W.heap.size, 0, none⟩) 256 256 (arena (t % 256).toNat v (f % 256).toNat w) w (f % 256 + 1) (by omega) hw (by omega) (by omega) _ (arena_row _ _ _ _ _ hv hw)).mono ?_
  rintro e w1 ⟨rfl, hb1⟩
  have hr1 := (arena_row W (t % 256).toNat v (f % 256).toNat w hv hw).below hb1 (Nat.le_refl _)
  have b1 : Below W.heap.size W w1 := below1 (hb1.mono (by simp))
  have z1 : W.heap.size < w1.heap.size := by have := hb1.size; simp at this; omega
  clear hb1
  have hres : resAt (arena (t % 256).toNat v (f % 256).toNat w) (f % 256) = resW (arena (t % 256).toNat v (f % 256).toNat w) w (f % 256 + 1) 1 := by
    unfold resAt; rw [arena_len, if_neg (by omega), arena_at _ _ _ _ (by omega)]
  have HRES : Hid _ := hres
  clear hres
  unfold PV.ptr
  go_wp2_with fail
  refine (resolve_any (some ⟨W.heap.size, 0, none⟩) 256 256 (arena (t % 256).toNat v (f % 256).toNat w) (f % 256) ⟨by omega, by omega⟩ _ (hr1.alloc _)).mono ?_
  rw [HRES.out]
  rintro e w2 ⟨rfl, hb2⟩
  generalize resW (arena (t % 256).toNat v (f % 256).toNat w) w (f % 256 + 1) 1 = r at hb2 ⊢
  have hh : w2.cell? ⟨w1.heap.size, 0, none⟩ = some (.int .u8 r.k) ∧ w2.cell? ⟨w1.heap.size, 1, none⟩ = some (.int .u16 r.t) ∧ w2.cell? ⟨w1.heap.size, 2, none⟩ = some (.int .u8 r.d) ∧ w2.cell? ⟨w1.heap.size, 3, none⟩ = some (.int .u8 r.p) ∧ w2.cell? ⟨w1.heap.size, 4, none⟩ = some (.int .u8 r.c) ∧ w2.cell? ⟨w1.heap.size, 5, none⟩ = some (.int .u16 r.n) := by
    refine ⟨?_, ?_, ?_, ?_, ?_, ?_⟩ <;> (rw [hb2.cell (by simp)]; simp [go_sem])
  have b2 : Below W.heap.size W w2 := (b1.alloc (by omega) _).trans (hb2.mono (by simp; omega))
  have z2 : W.heap.size ≤ w2.heap.size := b2.size
  have z12 : w1.heap.size < w2.heap.size := by have := hb2.size; simp at this; omega
  clear hb2
  unfold PV.ptr
  obtain ⟨rk, rt, rd, rp, rc, rn, rok⟩ := r
  go_wp2_with fail
  go_ret
  exact ⟨ret_bool (by simp), b2.alloc z2 _⟩

set_option maxRecDepth 100000 in
set_option maxHeartbeats 2000000 in
theorem walk_zf (w v f t c n : Int) (hw : U64 w) (hv : U64 v) (hf : U16 f) (ht : U16 t) (hd : U8 0) (hp : U8 0) (hc : U8 c) (hn : 0 ≤ n ∧ n < 4294967296) (W : World) (hS : mkS f t 0 0 = true) (hL : mkL f t c n = false) :
    Calls Faig.prog 9 #[.int .u64 w, .int .u64 v, .int .u16 f, .int .u16 t, .int .u8 0, .int .u8 0, .int .u8 c, .int .u32 n] W fun e w' => e = .returned (.bool true) ∧ Below W.heap.size W w' := by
  have hfU := hf
  have htU := ht
  have hdU := hd
  have hpU := hp
  have hcU := hc
  have hnU := hn
  obtain ⟨f0, f1⟩ := hf; obtain ⟨t0, t1⟩ := ht; obtain ⟨d0, d1⟩ := hd; obtain ⟨p0, p1⟩ := hp; obtain ⟨c0, c1⟩ := hc; obtain ⟨n0, n1⟩ := hn
  have zt := zero97_at (t % 256).toNat (by omega)
  obtain ⟨u, zf⟩ := set97_at (t % 256).toNat (f % 256).toNat (.int .u64 v) (by omega)
  have eOff := off_plain2 f t hfU htU
  obtain ⟨s1, s2, s3, s4⟩ : f < 256 ∧ t ≤ 256 ∧ (0 : Int) ≤ 8 ∧ (0 : Int) ≤ 8 := by simpa [mkS] using hS
  have eos := or_struct f t 0 0 d0 s3 p0 s4
  have hms : (msv f t 0 0 != 4294967292) = false := by simp [msv, hS]
  simp at eos
  go_enter Faig.func9, Faig.ntmps9
  go_wp2_with fail
  refine (makesStruct_any f t 0 0 _).mono ?_
  rintro e w' ⟨rfl, hw'⟩
  subst w'
  go_wp2_with fail
  refine (makeStruct_any f t 0 0 hfU htU hdU hpU _).mono ?_
  rintro e w' ⟨rfl, hw'⟩
  subst w'
  go_wp2_with fail
  refine (makesList_any f t c n _).mono ?_
  rintro e w' ⟨rfl, hw'⟩
  subst w'
  go_wp2_with fail
  refine (readWord_any (some ⟨W.heap.size, 0, none⟩) 256 256 (arena (t % 256).toNat v (f % 256).toNat w) w (f % 256 + 1) (by omega) hw (by omega) (by omega) _ (arena_row _ _ _ _ _ hv hw)).mono ?_
  rintro e w1 ⟨rfl, hb1⟩
  have hr1 := (arena_row W (t % 256).toNat v (f % 256).toNat w hv hw).below hb1 (Nat.le_refl _)
  have b1 : Below W.heap.size W w1 := below1 (hb1.mono (by simp))
  have z1 : W.heap.size < w1.heap.size := by have := hb1.size; simp at this; omega
  clear hb1
  have hres : resAt (arena (t % 256).toNat v (f % 256).toNat w) (f % 256) = resW (arena (t % 256).toNat v (f % 256).toNat w) w (f % 256 + 1) 1 := by
    unfold resAt; rw [arena_len, if_neg (by omega), arena_at _ _ _ _ (by omega)]
  have HRES : Hid _ := hres
  clear hres
  unfold PV.ptr
  go_wp2_with fail
  refine (resolve_any (some ⟨W.heap.size, 0, none⟩) 256 256 (arena (t % 256).toNat v (f % 256).toNat w) (f % 256) ⟨by omega, by omega⟩ _ (hr1.alloc _)).mono ?_
  rw [HRES.out]
  rintro e w2 ⟨rfl, hb2⟩
  generalize resW (arena (t % 256).toNat v (f % 256).toNat w) w (f % 256 + 1) 1 = r at hb2 ⊢
  have hh : w2.cell? ⟨w1.heap.size, 0, none⟩ = some (.int .u8 r.k) ∧ w2.cell? ⟨w1.heap.size, 1, none⟩ = some (.int .u16 r.t) ∧ w2.cell? ⟨w1.heap.size, 2, none⟩ = some (.int .u8 r.d) ∧ w2.cell? ⟨w1.heap.size, 3, none⟩ = some (.int .u8 r.p) ∧ w2.cell? ⟨w1.heap.size, 4, none⟩ = some (.int .u8 r.c) ∧ w2.cell? ⟨w1.heap.size, 5, none⟩ = some (.int .u16 r.n) := by
    refine ⟨?_, ?_, ?_, ?_, ?_, ?_⟩ <;> (rw [hb2.cell (by simp)]; simp [go_sem])
  have b2 : Below W.heap.size W w2 := (b1.alloc (by omega) _).trans (hb2.mono (by simp; omega))
  have z2 : W.heap.size ≤ w2.heap.size := b2.size
  have z12 : w1.heap.size < w2.heap.size := by have := hb2.size; simp at this; omega
  clear hb2
  unfold PV.ptr
  obtain ⟨rk, rt, rd, rp, rc, rn, rok⟩ := r
  go_wp2_with fail
  go_ret
  exact ⟨ret_bool (by simp), b2.alloc z2 _⟩

set_option maxRecDepth 100000 in
set_option maxHeartbeats 2000000 in
theorem walk_ft (w v f t d p c n : Int) (hw : U64 w) (hv : U64 v) (hf : U16 f) (ht : U16 t) (hd : U8 d) (hp : U8 p) (hc : U8 c) (hn : 0 ≤ n ∧ n < 4294967296) (W : World) (hS : mkS f t d p = false) (hL : mkL f t c n = true) :
    Calls Faig.prog 9 #[.int .u64 w, .int .u64 v, .int .u16 f, .int .u16 t, .int .u8 d, .int .u8 p, .int .u8 c, .int .u32 n] W fun e w' => e = .returned (.bool true) ∧ Below W.heap.size W w' := by
  have hfU := hf
  have htU := ht
  have hdU := hd
  have hpU := hp
  have hcU := hc
  have hnU := hn
  obtain ⟨f0, f1⟩ := hf; obtain ⟨t0, t1⟩ := ht; obtain ⟨d0, d1⟩ := hd; obtain ⟨p0, p1⟩ := hp; obtain ⟨c0, c1⟩ := hc; obtain ⟨n0, n1⟩ := hn
  have zt := zero97_at (t % 256).toNat (by omega)
  obtain ⟨u, zf⟩ := set97_at (t % 256).toNat (f % 256).toNat (.int .u64 v) (by omega)
  have eOff := off_plain2 f t hfU htU
  obtain ⟨g1, g2, g3, g4, g5⟩ : f < 256 ∧ t ≤ 256 ∧ 2 ≤ c ∧ c ≤ 7 ∧ n ≤ 256 := by simp [mkL] at hL; obtain ⟨a1, a2, a3, a4, a5⟩ := hL; refine ⟨a1, a2, a3, a4, ?_⟩; split at a5 <;> omega
  have eor := or_list f t c n c0 g4 n0 g5
  have hml : (mlv f t c n != 1 + offv f t + c * 4294967296 + n * 34359738368) = false := by simp [mlv, hL]
  go_enter Faig.func9, Faig.ntmps9
  go_wp2_with fail
  refine (makesStruct_any f t d p _).mono ?_
  rintro e w' ⟨rfl, hw'⟩
  subst w'
  go_wp2_with fail
  refine (makesList_any f t c n _).mono ?_
  rintro e w' ⟨rfl, hw'⟩
  subst w'
  go_wp2_with fail
  refine (makeList_any f t c n hfU htU hcU hnU _).mono ?_
  rintro e w' ⟨rfl, hw'⟩
  subst w'
  go_wp2_with fail
  refine (readWord_any (some ⟨W.heap.size, 0, none⟩) 256 256 (arena (t % 256).toNat v (f % 256).toNat w) w (f % 256 + 1) (by omega) hw (by omega) (by omega) _ (arena_row _ _ _ _ _ hv hw)).mono ?_
  rintro e w1 ⟨rfl, hb1⟩
  have hr1 := (arena_row W (t % 256).toNat v (f % 256).toNat w hv hw).below hb1 (Nat.le_refl _)
  have b1 : Below W.heap.size W w1 := below1 (hb1.mono (by simp))
  have z1 : W.heap.size < w1.heap.size := by have := hb1.size; simp at this; omega
  clear hb1
  have hres : resAt (arena (t % 256).toNat v (f % 256).toNat w) (f % 256) = resW (arena (t % 256).toNat v (f % 256).toNat w) w (f % 256 + 1) 1 := by
    unfold resAt; rw [arena_len, if_neg (by omega), arena_at _ _ _ _ (by omega)]
  have HRES : Hid _ := hres
  clear hres
  unfold PV.ptr
  go_wp2_with fail
  refine (resolve_any (some ⟨W.heap.size, 0, none⟩) 256 256 (arena (t % 256).toNat v (f % 256).toNat w) (f % 256) ⟨by omega, by omega⟩ _ (hr1.alloc _)).mono ?_
  rw [HRES.out]
  rintro e w2 ⟨rfl, hb2⟩
  generalize resW (arena (t % 256).toNat v (f % 256).toNat w) w (f % 256 + 1) 1 = r at hb2 ⊢
  have hh : w2.cell? ⟨w1.heap.size, 0, none⟩ = some (.int .u8 r.k) ∧ w2.cell? ⟨w1.heap.size, 1, none⟩ = some (.int .u16 r.t) ∧ w2.cell? ⟨w1.heap.size, 2, none⟩ = some (.int .u8 r.d) ∧ w2.cell? ⟨w1.heap.size, 3, none⟩ = some (.int .u8 r.p) ∧ w2.cell? ⟨w1.heap.size, 4, none⟩ = some (.int .u8 r.c) ∧ w2.cell? ⟨w1.heap.size, 5, none⟩ = some (.int .u16 r.n) := by
    refine ⟨?_, ?_, ?_, ?_, ?_, ?_⟩ <;> (rw [hb2.cell (by simp)]; simp [go_sem])
  have b2 : Below W.heap.size W w2 := (b1.alloc (by omega) _).trans (hb2.mono (by simp; omega))
  have z2 : W.heap.size ≤ w2.heap.size := b2.size
  have z12 : w1.heap.size < w2.heap.size := by have := hb2.size; simp at this; omega
  clear hb2
  unfold PV.ptr
  obtain ⟨rk, rt, rd, rp, rc, rn, rok⟩ := r
  go_wp2_with fail
  go_ret
  exact ⟨ret_bool (by simp), b2.alloc z2 _⟩

set_option maxRecDepth 100000 in
set_option maxHeartbeats 2000000 in
theorem walk_dt (w v f t d p c n : Int) (hw : U64 w) (hv : U64 v) (hf : U16 f) (ht : U16 t) (hd : U8 d) (hp : U8 p) (hc : U8 c) (hn : 0 ≤ n ∧ n < 4294967296) (W : World) (hS : mkS f t d p = true) (hz : ¬ d = 0) (hL : mkL f t c n = true) :
    Calls Faig.prog 9 #[.int .u64 w, .int .u64 v, .int .u16 f, .int .u16 t, .int .u8 d, .int .u8 p, .int .u8 c, .int .u32 n] W fun e w' => e = .returned (.bool true) ∧ Below W.heap.size W w' := by
  have hfU := hf
  have htU := ht
  have hdU := hd
  have hpU := hp
  have hcU := hc
  have hnU := hn
  obtain ⟨f0, f1⟩ := hf; obtain ⟨t0, t1⟩ := ht; obtain ⟨d0, d1⟩ := hd; obtain ⟨p0, p1⟩ := hp; obtain ⟨c0, c1⟩ := hc; obtain ⟨n0, n1⟩ := hn
  have zt := zero97_at (t % 256).toNat (by omega)
  obtain ⟨u, zf⟩ := set97_at (t % 256).toNat (f % 256).toNat (.int .u64 v) (by omega)
  have eOff := off_plain2 f t hfU htU
  obtain ⟨s1, s2, s3, s4⟩ : f < 256 ∧ t ≤ 256 ∧ d ≤ 8 ∧ p ≤ 8 := by simpa [mkS] using hS
  have eos := or_struct f t d p d0 s3 p0 s4
  have hms : (msv f t d p != offv f t + d * 4294967296 + p * 281474976710656) = false := by simp [msv, hS, hz]
  have bd : (d == 0) = false := by simp [hz]
  clear hz
  obtain ⟨g1, g2, g3, g4, g5⟩ : f < 256 ∧ t ≤ 256 ∧ 2 ≤ c ∧ c ≤ 7 ∧ n ≤ 256 := by simp [mkL] at hL; obtain ⟨a1, a2, a3, a4, a5⟩ := hL; refine ⟨a1, a2, a3, a4, ?_⟩; split at a5 <;> omega
  have eor := or_list f t c n c0 g4 n0 g5
  have hml : (mlv f t c n != 1 + offv f t + c * 4294967296 + n * 34359738368) = false := by simp [mlv, hL]
  go_enter Faig.func9, Faig.ntmps9
  go_wp2_with fail
  refine (makesStruct_any f t d p _).mono ?_
  rintro e w' ⟨rfl, hw'⟩
  subst w'
  go_wp2_with fail
  refine (makeStruct_any f t d p hfU htU hdU hpU _).mono ?_
  rintro e w' ⟨rfl, hw'⟩
  subst w'
  go_wp2_with fail
  refine (makesList_any f t c n _).mono ?_
  rintro e w' ⟨rfl, hw'⟩
  subst w'
  go_wp2_with fail
  refine (makeList_any f t c n hfU htU hcU hnU _).mono ?_
  rintro e w' ⟨rfl, hw'⟩
  subst w'
  go_wp2_with fail
  refine (readWord_any (some ⟨W.heap.size, 0, none⟩) 256 256 (arena (t % 256).toNat v (f % 256).toNat w) w (f % 256 + 1) (by omega) hw (by omega) (by omega) _ (arena_row _ _ _ _ _ hv hw)).mono ?_
  rintro e w1 ⟨rfl, hb1⟩
  have hr1 := (arena_row W (t % 256).toNat v (f % 256).toNat w hv hw).below hb1 (Nat.le_refl _)
  have b1 : Below W.heap.size W w1 := below1 (hb1.mono (by simp))
  have z1 : W.heap.size < w1.heap.size := by have := hb1.size; simp at this; omega
  clear hb1
  have hres : resAt (arena (t % 256).toNat v (f % 256).toNat w) (f % 256) = resW (arena (t % 256).toNat v (f % 256).toNat w) w (f % 256 + 1) 1 := by
    unfold resAt; rw [arena_len, if_neg (by omega), arena_at _ _ _ _ (by omega)]
  have HRES : Hid _ := hres
  clear hres
  unfold PV.ptr
  go_wp2_with fail
  refine (resolve_any (some ⟨W.heap.size, 0, none⟩) 256 256 (arena (t % 256).toNat v (f % 256).toNat w) (f % 256) ⟨by omega, by omega⟩ _ (hr1.alloc _)).mono ?_
  rw [HRES.out]
  rintro e w2 ⟨rfl, hb2⟩
  generalize resW (arena (t % 256).toNat v (f % 256).toNat w) w (f % 256 + 1) 1 = r at hb2 ⊢
  have hh : w2.cell? ⟨w1.heap.size, 0, none⟩ = some (.int .u8 r.k) ∧ w2.cell? ⟨w1.heap.size, 1, none⟩ = some (.int .u16 r.t) ∧ w2.cell? ⟨w1.heap.size, 2, none⟩ = some (.int .u8 r.d) ∧ w2.cell? ⟨w1.heap.size, 3, none⟩ = some (.int .u8 r.p) ∧ w2.cell? ⟨w1.heap.size, 4, none⟩ = some (.int .u8 r.c) ∧ w2.cell? ⟨w1.heap.size, 5, none⟩ = some (.int .u16 r.n) := by
    refine ⟨?_, ?_, ?_, ?_, ?_, ?_⟩ <;> (rw [hb2.cell (by simp)]; simp [go_sem])
  have b2 : Below W.heap.size W w2 := (b1.alloc (by omega) _).trans (hb2.mono (by simp; omega))
  have z2 : W.heap.size ≤ w2.heap.size := b2.size
  have z12 : w1.heap.size < w2.heap.size := by have := hb2.size; simp at this; omega
  clear hb2
  unfold PV.ptr
  obtain ⟨rk, rt, rd, rp, rc, rn, rok⟩ := r
  go_wp2_with fail
  go_ret
  exact ⟨ret_bool (by simp), b2.alloc z2 _⟩

set_option maxRecDepth 100000 in
set_option maxHeartbeats 2000000 in
theorem walk_pt (w v f t p c n : Int) (hw : U64 w) (hv : U64 v) (hf : U16 f) (ht : U16 t) (hd : U8 0) (hp : U8 p) (hc : U8 c) (hn : 0 ≤ n ∧ n < 4294967296) (W : World) (hS : mkS f t 0 p = true) (hz : ¬ p = 0) (hL : mkL f t c n = true) :
    Calls Faig.prog 9 #[.int .u64 w, .int .u64 v, .int .u16 f, .int .u16 t, .int .u8 0, .int .u8 p, .int .u8 c, .int .u32 n] W fun e w' => e = .returned (.bool true) ∧ Below W.heap.size W w' := by
  have hfU := hf
  have htU := ht
  have hdU := hd
  have hpU := hp
  have hcU := hc
  have hnU := hn
  obtain ⟨f0, f1⟩ := hf; obtain ⟨t0, t1⟩ := ht; obtain ⟨d0, d1⟩ := hd; obtain ⟨p0, p1⟩ := hp; obtain ⟨c0, c1⟩ := hc; obtain ⟨n0, n1⟩ := hn
  have zt := zero97_at (t % 256).toNat (by omega)
  obtain ⟨u, zf⟩ := set97_at (t % 256).toNat (f % 256).toNat (.int .u64 v) (by omega)
  have eOff := off_plain2 f t hfU htU
  obtain ⟨s1, s2, s3, s4⟩ : f < 256 ∧ t ≤ 256 ∧ (0 : Int) ≤ 8 ∧ p ≤ 8 := by simpa [mkS] using hS
  have eos := or_struct f t 0 p d0 s3 p0 s4
  have hms : (msv f t 0 p != offv f t + 0 * 4294967296 + p * 281474976710656) = false := by simp [msv, hS, hz]
  simp at hms eos
  have bp : (p == 0) = false := by simp [hz]
  clear hz
  obtain ⟨g1, g2, g3, g4, g5⟩ : f < 256 ∧ t ≤ 256 ∧ 2 ≤ c ∧ c ≤ 7 ∧ n ≤ 256 := by simp [mkL] at hL; obtain ⟨a1, a2, a3, a4, a5⟩ := hL; refine ⟨a1, a2, a3, a4, ?_⟩; split at a5 <;> omega
  have eor := or_list f t c n c0 g4 n0 g5
  have hml : (mlv f t c n != 1 + offv f t + c * 4294967296 + n * 34359738368) = false := by simp [mlv, hL]
  go_enter Faig.func9, Faig.ntmps9
  go_wp2_with fail
  refine (makesStruct_any f t 0 p _).mono ?_
  rintro e w' ⟨rfl, hw'⟩
  subst w'
  go_wp2_with fail
  refine (makeStruct_any f t 0 p hfU htU hdU hpU _).mono ?_
  rintro e w' ⟨rfl, hw'⟩
  subst w'
  go_wp2_with fail
  refine (makesList_any f t c n _).mono ?_
  rintro e w' ⟨rfl, hw'⟩
  subst w'
  go_wp2_with fail
  refine (makeList_any f t c n hfU htU hcU hnU _).mono ?_
  rintro e w' ⟨rfl, hw'⟩
  subst w'
  go_wp2_with fail
  refine (readWord_any (some ⟨W.heap.size, 0, none⟩) 256 256 (arena (t % 256).toNat v (f % 256).toNat w) w (f % 256 + 1) (by omega) hw (by omega) (by omega) _ (arena_row _ _ _ _ _ hv hw)).mono ?_
  rintro e w1 ⟨rfl, hb1⟩
  have hr1 := (arena_row W (t % 256).toNat v (f % 256).toNat w hv hw).below hb1 (Nat.le_refl _)
  have b1 : Below W.heap.size W w1 := below1 (hb1.mono (by simp))
  have z1 : W.heap.size < w1.heap.size := by have := hb1.size; simp at this; omega
  clear hb1
  have hres : resAt (arena (t % 256).toNat v (f % 256).toNat w) (f % 256) = resW (arena (t % 256).toNat v (f % 256).toNat w) w (f % 256 + 1) 1 := by
    unfold resAt; rw [arena_len, if_neg (by omega), arena_at _ _ _ _ (by omega)]
  have HRES : Hid _ := hres
  clear hres
  unfold PV.ptr
  go_wp2_with fail
  refine (resolve_any (some ⟨W.heap.size, 0, none⟩) 256 256 (arena (t % 256).toNat v (f % 256).toNat w) (f % 256) ⟨by omega, by omega⟩ _ (hr1.alloc _)).mono ?_
  rw [HRES.out]
  rintro e w2 ⟨rfl, hb2⟩
  generalize resW (arena (t % 256).toNat v (f % 256).toNat w) w (f % 256 + 1) 1 = r at hb2 ⊢
  have hh : w2.cell? ⟨w1.heap.size, 0, none⟩ = some (.int .u8 r.k) ∧ w2.cell? ⟨w1.heap.size, 1, none⟩ = some (.int .u16 r.t) ∧ w2.cell? ⟨w1.heap.size, 2, none⟩ = some (.int .u8 r.d) ∧ w2.cell? ⟨w1.heap.size, 3, none⟩ = some (.int .u8 r.p) ∧ w2.cell? ⟨w1.heap.size, 4, none⟩ = some (.int .u8 r.c) ∧ w2.cell? ⟨w1.heap.size, 5, none⟩ = some (.int .u16 r.n) := by
    refine ⟨?_, ?_, ?_, ?_, ?_, ?_⟩ <;> (rw [hb2.cell (by simp)]; simp [go_sem])
  have b2 : Below W.heap.size W w2 := (b1.alloc (by omega) _).trans (hb2.mono (by simp; omega))
  have z2 : W.heap.size ≤ w2.heap.size := b2.size
  have z12 : w1.heap.size < w2.heap.size := by have := hb2.size; simp at this; omega
  clear hb2
  unfold PV.ptr
  obtain ⟨rk, rt, rd, rp, rc, rn, rok⟩ := r
  go_wp2_with fail
  go_ret
  exact ⟨ret_bool (by simp), b2.alloc z2 _⟩

set_option maxRecDepth 100000 in
set_option maxHeartbeats 2000000 in
theorem walk_zt (w v f t c n : Int) (hw : U64 w) (hv : U64 v) (hf : U16 f) (ht : U16 t) (hd : U8 0) (hp : U8 0) (hc : U8 c) (hn : 0 ≤ n ∧ n < 4294967296) (W : World) (hS : mkS f t 0 0 = true) (hL : mkL f t c n = true) :
    Calls Faig.prog 9 #[.int .u64 w, .int .u64 v, .int .u16 f, .int .u16 t, .int .u8 0, .int .u8 0, .int .u8 c, .int .u32 n] W fun e w' => e = .returned (.bool true) ∧ Below W.heap.size W w' := by
  have hfU := hf
  have htU := ht
  have hdU := hd
  have hpU := hp
  have hcU := hc
  have hnU := hn
  obtain ⟨f0, f1⟩ := hf; obtain ⟨t0, t1⟩ := ht; obtain ⟨d0, d1⟩ := hd; obtain ⟨p0, p1⟩ := hp; obtain ⟨c0, c1⟩ := hc; obtain ⟨n0, n1⟩ := hn
  have zt := zero97_at (t % 256).toNat (by omega)
  obtain ⟨u, zf⟩ := set97_at (t % 256).toNat (f % 256).toNat (.int .u64 v) (by omega)
  have eOff := off_plain2 f t hfU htU
  obtain ⟨s1, s2, s3, s4⟩ : f < 256 ∧ t ≤ 256 ∧ (0 : Int) ≤ 8 ∧ (0 : Int) ≤ 8 := by simpa [mkS] using hS
  have eos := or_struct f t 0 0 d0 s3 p0 s4
  have hms : (msv f t 0 0 != 4294967292) = false := by simp [msv, hS]
  simp at eos
  obtain ⟨g1, g2, g3, g4, g5⟩ : f < 256 ∧ t ≤ 256 ∧ 2 ≤ c ∧ c ≤ 7 ∧ n ≤ 256 := by simp [mkL] at hL; obtain ⟨a1, a2, a3, a4, a5⟩ := hL; refine ⟨a1, a2, a3, a4, ?_⟩; split at a5 <;> omega
  have eor := or_list f t c n c0 g4 n0 g5
  have hml : (mlv f t c n != 1 + offv f t + c * 4294967296 + n * 34359738368) = false := by simp [mlv, hL]
  go_enter Faig.func9, Faig.ntmps9
  go_wp2_with fail
  refine (makesStruct_any f t 0 0 _).mono ?_
  rintro e w' ⟨rfl, hw'⟩
  subst w'
  go_wp2_with fail
  refine (makeStruct_any f t 0 0 hfU htU hdU hpU _).mono ?_
  rintro e w' ⟨rfl, hw'⟩
  subst w'
  go_wp2_with fail
  refine (makesList_any f t c n _).mono ?_
  rintro e w' ⟨rfl, hw'⟩
  subst w'
  go_wp2_with fail
  refine (makeList_any f t c n hfU htU hcU hnU _).mono ?_
  rintro e w' ⟨rfl, hw'⟩
  subst w'
  go_wp2_with fail
  refine (readWord_any (some ⟨W.heap.size, 0, none⟩) 256 256 (arena (t % 256).toNat v (f % 256).toNat w) w (f % 256 + 1) (by omega) hw (by omega) (by omega) _ (arena_row _ _ _ _ _ hv hw)).mono ?_
  rintro e w1 ⟨rfl, hb1⟩
  have hr1 := (arena_row W (t % 256).toNat v (f % 256).toNat w hv hw).below hb1 (Nat.le_refl _)
  have b1 : Below W.heap.size W w1 := below1 (hb1.mono (by simp))
  have z1 : W.heap.size < w1.heap.size := by have := hb1.size; simp at this; omega
  clear hb1
  have hres : resAt (arena (t % 256).toNat v (f % 256).toNat w) (f % 256) = resW (arena (t % 256).toNat v (f % 256).toNat w) w (f % 256 + 1) 1 := by
    unfold resAt; rw [arena_len, if_neg (by omega), arena_at _ _ _ _ (by omega)]
  have HRES : Hid _ := hres
  clear hres
  unfold PV.ptr
  go_wp2_with fail
  refine (resolve_any (some ⟨W.heap.size, 0, none⟩) 256 256 (arena (t % 256).toNat v (f % 256).toNat w) (f % 256) ⟨by omega, by omega⟩ _ (hr1.alloc _)).mono ?_
  rw [HRES.out]
  rintro e w2 ⟨rfl, hb2⟩
  generalize resW (arena (t % 256).toNat v (f % 256).toNat w) w (f % 256 + 1) 1 = r at hb2 ⊢
  have hh : w2.cell? ⟨w1.heap.size, 0, none⟩ = some (.int .u8 r.k) ∧ w2.cell? ⟨w1.heap.size, 1, none⟩ = some (.int .u16 r.t) ∧ w2.cell? ⟨w1.heap.size, 2, none⟩ = some (.int .u8 r.d) ∧ w2.cell? ⟨w1.heap.size, 3, none⟩ = some (.int .u8 r.p) ∧ w2.cell? ⟨w1.heap.size, 4, none⟩ = some (.int .u8 r.c) ∧ w2.cell? ⟨w1.heap.size, 5, none⟩ = some (.int .u16 r.n) := by
    refine ⟨?_, ?_, ?_, ?_, ?_, ?_⟩ <;> (rw [hb2.cell (by simp)]; simp [go_sem])
  have b2 : Below W.heap.size W w2 := (b1.alloc (by omega) _).trans (hb2.mono (by simp; omega))
  have z2 : W.heap.size ≤ w2.heap.size := b2.size
  have z12 : w1.heap.size < w2.heap.size := by have := hb2.size; simp at this; omega
  clear hb2
  unfold PV.ptr
  obtain ⟨rk, rt, rd, rp, rc, rn, rok⟩ := r
  go_wp2_with fail
  go_ret
  exact ⟨ret_bool (by simp), b2.alloc z2 _⟩
end ptrBits
end Go.Proofs.Ygcfai

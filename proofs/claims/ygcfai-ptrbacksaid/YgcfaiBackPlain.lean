/-
  THE PLAIN LAW of PtrBack: what the words that MakeStruct and MakeList give resolve to.
-/
import Derived.Test.YgcfaiResolveC
namespace Go.Proofs.Ygcfai
open Go.RowKit Plain
set_option linter.unusedVariables false

/-- What 'answers' asks of a word x at index f of the arena L: the Ptr that is wanted, where ok. -/
def wanted (ok : Bool) (k t d p c n : Int) : PV := if ok = true then ⟨k, t, d, p, c, n, true⟩ else PV.no

theorem getD_set_same (L : List Int) (i : Nat) (x : Int) (h : i < L.length) : (L.set i x).getD i 0 = x := by
  simp [List.getD_eq_getElem?_getD, h]
theorem getD_set_other (L : List Int) (i j : Nat) (x : Int) (h : i ≠ j) : (L.set i x).getD j 0 = L.getD j 0 := by
  simp [List.getD_eq_getElem?_getD, h]

/-- Resolve at an index of an arena of 256 words whose word there is x. -/
theorem resAt_set (L : List Int) (f x : Int) (hL : L.length = 256) (f0 : 0 ≤ f) (f1 : f < 256) : resAt (L.set f.toNat x) f = resW (L.set f.toNat x) x (f + 1) 1 := by
  unfold resAt
  rw [List.length_set, hL, if_neg (by omega), getD_set_same _ _ _ (by omega)]

/-! ### The word of a struct -/
theorem msv_word (f t d p : Int) (f0 : 0 ≤ f) (f1 : f < 256) (t0 : 0 ≤ t) (t1 : t ≤ 256) (d0 : 0 ≤ d) (d1 : d ≤ 8) (p0 : 0 ≤ p) (p1 : p ≤ 8) (x : Int) (hx : x = offv f t + d * 4294967296 + p * 281474976710656) :
    x % 4 = 0 ∧ sgn30 (x / 4) = t - f - 1 ∧ secD x = d ∧ secP x = p := by
  have ho : offv f t = (t - f - 1) % 1073741824 * 4 := rfl
  refine ⟨by omega, ?_, by unfold secD; omega, by unfold secP; omega⟩
  have hm : x / 4 % 1073741824 = (t - f - 1) % 1073741824 := by omega
  unfold sgn30
  rw [hm]
  split <;> omega

theorem struct_back (L : List Int) (hL : L.length = 256) (f t d p : Int) (f0 : 0 ≤ f) (t0 : 0 ≤ t) (d0 : 0 ≤ d) (p0 : 0 ≤ p) (h : mkS f t d p = true) (hz : ¬ (d = 0 ∧ p = 0)) :
    resAt (L.set f.toNat (msv f t d p)) f = wanted (decide (1 ≤ t ∧ t + d + p ≤ 256)) 1 t d p 0 0 := by
  obtain ⟨f1, t1, d1, p1⟩ : f < 256 ∧ t ≤ 256 ∧ d ≤ 8 ∧ p ≤ 8 := by simpa [mkS] using h
  rw [resAt_set L f _ hL f0 f1]
  have hx : msv f t d p = offv f t + d * 4294967296 + p * 281474976710656 := by simp [msv, h, hz]
  generalize msv f t d p = x at hx ⊢
  obtain ⟨e1, e2, e3, e4⟩ := msv_word f t d p f0 f1 t0 t1 d0 d1 p0 p1 x hx
  have hb := offv_bd f t
  have hx0 : ¬ x = 0 := by omega
  unfold resW
  rw [List.length_set, hL, if_neg (by omega), if_neg hx0, if_pos e1, e2, e3, e4, show f + 1 + (t - f - 1) = t by omega]
  have hs : secOk x = true := by simp [secOk, e3, e4, d1, p1]
  have hsp : spn t (d + p) 1 ((256 : Nat) : Int) = decide (1 ≤ t ∧ t + d + p ≤ 256) := by
    unfold spn; rw [if_neg (by omega)]; congr 1; simp; omega
  rw [hsp, hs]
  unfold wanted
  simp

theorem struct_back0 (L : List Int) (hL : L.length = 256) (f t : Int) (f0 : 0 ≤ f) (h : mkS f t 0 0 = true) :
    resAt (L.set f.toNat (msv f t 0 0)) f = wanted true 1 f 0 0 0 0 := by
  obtain ⟨f1, t1⟩ : f < 256 ∧ t ≤ 256 := by simpa [mkS] using h
  rw [resAt_set L f _ hL f0 f1]
  have hx : msv f t 0 0 = 4294967292 := by simp [msv, h]
  rw [hx]
  unfold resW
  rw [List.length_set, hL, if_neg (by omega), if_neg (by omega), if_pos (by omega)]
  have e : sgn30 (4294967292 / 4) = -1 := by unfold sgn30; simp
  have e3 : secD 4294967292 = 0 := by unfold secD; omega
  have e4 : secP 4294967292 = 0 := by unfold secP; omega
  rw [e, e3, e4]
  have hs : secOk 4294967292 = true := by simp [secOk, e3, e4]
  have hsp : spn (f + 1 + -1) (0 + 0) 1 ((256 : Nat) : Int) = true := by
    unfold spn; rw [if_pos (by omega)]; simp; omega
  rw [hsp, hs, if_pos ⟨rfl, rfl⟩, show f + 1 + -1 = f by omega]
  unfold wanted
  simp

/-! ### The word of a list -/
theorem mlv_word (f t c n : Int) (f0 : 0 ≤ f) (f1 : f < 256) (t0 : 0 ≤ t) (t1 : t ≤ 256) (c0 : 0 ≤ c) (c1 : c ≤ 7) (n0 : 0 ≤ n) (n1 : n ≤ 256) (x : Int) (hx : x = 1 + offv f t + c * 4294967296 + n * 34359738368) :
    x % 4 = 1 ∧ sgn30 (x / 4) = t - f - 1 ∧ wcode x = c ∧ wcnt x = n := by
  have ho : offv f t = (t - f - 1) % 1073741824 * 4 := rfl
  refine ⟨by omega, ?_, by unfold wcode; omega, by unfold wcnt; omega⟩
  have hm : x / 4 % 1073741824 = (t - f - 1) % 1073741824 := by omega
  unfold sgn30
  rw [hm]
  split <;> omega

theorem mkL_bd {f t c n : Int} (h : mkL f t c n = true) : f < 256 ∧ t ≤ 256 ∧ 2 ≤ c ∧ c ≤ 7 ∧ n ≤ 256 ∧ (c ≠ 7 → n ≤ 128) := by
  simp [mkL] at h
  obtain ⟨a1, a2, a3, a4, a5⟩ := h
  refine ⟨a1, a2, a3, a4, ?_, ?_⟩ <;> (split at a5 <;> omega)

theorem list_word (L : List Int) (hL : L.length = 256) (f t c n : Int) (f0 : 0 ≤ f) (t0 : 0 ≤ t) (n0 : 0 ≤ n) (h : mkL f t c n = true) :
    resAt (L.set f.toNat (mlv f t c n)) f = (if c = 7 then resStructs (L.set f.toNat (mlv f t c n)) 1 t n else resPlain 256 1 t c n) := by
  obtain ⟨f1, t1, c2, c7, n1, n2⟩ := mkL_bd h
  rw [resAt_set L f _ hL f0 f1]
  have hx : mlv f t c n = 1 + offv f t + c * 4294967296 + n * 34359738368 := by simp [mlv, h]
  generalize mlv f t c n = x at hx ⊢
  obtain ⟨e1, e2, e3, e4⟩ := mlv_word f t c n f0 f1 t0 t1 (by omega) c7 n0 n1 x hx
  have hb := offv_bd f t
  unfold resW
  rw [List.length_set, hL, if_neg (by omega), if_neg (by omega), if_neg (by omega), if_pos e1, e2, e3, e4, show f + 1 + (t - f - 1) = t by omega]
  rfl

/-- The words of a list of code 2 to 6, as the law reckons them. -/
def lawWords (c n : Int) : Int := if c < 6 then (n * 2 ^ (c - 2).toNat + 7) / 8 else n
theorem lawWords_eq (c n : Int) (c2 : 2 ≤ c) (c6 : c ≤ 6) (n1 : n ≤ 128) : lawWords c n = words 2 0 0 c n := by
  have h : c = 2 ∨ c = 3 ∨ c = 4 ∨ c = 5 ∨ c = 6 := by omega
  rcases h with rfl | rfl | rfl | rfl | rfl <;> (unfold lawWords words width; simp; omega)
theorem list_back (L : List Int) (hL : L.length = 256) (f t c n : Int) (f0 : 0 ≤ f) (t0 : 0 ≤ t) (n0 : 0 ≤ n) (h : mkL f t c n = true) (h7 : c ≠ 7) :
    resAt (L.set f.toNat (mlv f t c n)) f = wanted (decide (lawWords c n = 0 ∨ 1 ≤ t ∧ t + lawWords c n ≤ 256)) 2 t 0 0 c n := by
  rw [list_word L hL f t c n f0 t0 n0 h, if_neg h7]
  obtain ⟨f1, t1, c2, c7, n1, n2⟩ := mkL_bd h
  rw [lawWords_eq c n c2 (by omega) (n2 h7)]
  unfold resPlain
  generalize words 2 0 0 c n = m
  have hsp : spn t m 1 256 = decide (m = 0 ∨ 1 ≤ t ∧ t + m ≤ 256) := by
    unfold spn
    split
    · rename_i hm; simp [hm]; omega
    · rename_i hm; simp [hm]
  rw [hsp]
  unfold wanted
  by_cases hok : decide (m = 0 ∨ 1 ≤ t ∧ t + m ≤ 256) = true
  · rw [if_pos hok, if_pos ⟨c2, by omega, n2 h7, hok⟩]
  · rw [if_neg hok, if_neg (fun hh => hok hh.2.2.2)]

/-! ### The word of a list of structs -/
theorem structs_back_out (L : List Int) (hL : L.length = 256) (f t n : Int) (f0 : 0 ≤ f) (t0 : 0 ≤ t) (n0 : 0 ≤ n) (h : mkL f t 7 n = true) (hto : 256 ≤ t ∨ t = f) :
    resAt (L.set f.toNat (mlv f t 7 n)) f = PV.no := by
  rw [list_word L hL f t 7 n f0 t0 n0 h, if_pos rfl]
  obtain ⟨f1, t1, c2, c7, n1, n2⟩ := mkL_bd h
  unfold resStructs
  rw [if_neg]
  rintro ⟨h1, h2, h3, -⟩
  rw [List.length_set, hL] at h1
  unfold spn at h1
  rw [if_neg (by omega)] at h1
  simp at h1
  rcases hto with hto | hto
  · omega
  · subst hto
    rw [getD_set_same _ _ _ (by omega)] at h3
    have hx : mlv t t 7 n = 1 + offv t t + 7 * 4294967296 + n * 34359738368 := by simp [mlv, h]
    have ho : offv t t = 4294967292 := offv_same t
    omega

theorem structs_back (L : List Int) (hL : L.length = 256) (f t n : Int) (f0 : 0 ≤ f) (t0 : 0 ≤ t) (n0 : 0 ≤ n) (h : mkL f t 7 n = true) (ht : t < 256) (hne : t ≠ f) (d p k : Int) (d0 : 0 ≤ d) (d1 : d ≤ 255) (p0 : 0 ≤ p) (p1 : p ≤ 255) (k0 : 0 ≤ k) (k1 : k ≤ 256)
    (htag : L.getD t.toNat 0 = k * 4 + d * 4294967296 + p * 281474976710656) :
    resAt (L.set f.toNat (mlv f t 7 n)) f = wanted (decide ((k ≤ 128 ∧ d ≤ 8 ∧ p ≤ 8 ∧ ¬ (d + p = 0 ∧ k ≠ 0) ∧ k * (d + p) = n) ∧ 1 ≤ t ∧ t + 1 + n ≤ 256)) 2 (t + 1) d p 7 k := by
  rw [list_word L hL f t 7 n f0 t0 n0 h, if_pos rfl]
  have hg : (L.set f.toNat (mlv f t 7 n)).getD t.toNat 0 = k * 4 + d * 4294967296 + p * 281474976710656 := by
    rw [getD_set_other _ _ _ _ (by omega), htag]
  unfold resStructs
  rw [hg, List.length_set, hL]
  generalize hxx : k * 4 + d * 4294967296 + p * 281474976710656 = x
  have e3 : secD x = d := by unfold secD; omega
  have e4 : secP x = p := by unfold secP; omega
  have e5 : tagN x = k := by unfold tagN; omega
  have e6 : x % 4 = 0 := by omega
  rw [e3, e4, e5]
  have hs : secOk x = decide (d ≤ 8 ∧ p ≤ 8) := by unfold secOk; rw [e3, e4]
  have hsp : spn t (n + 1) 1 ((256 : Nat) : Int) = decide (1 ≤ t ∧ t + 1 + n ≤ 256) := by
    unfold spn; rw [if_neg (by omega)]; congr 1; simp; omega
  rw [hs, hsp]
  unfold wanted
  by_cases hc : (k ≤ 128 ∧ d ≤ 8 ∧ p ≤ 8 ∧ ¬ (d + p = 0 ∧ k ≠ 0) ∧ k * (d + p) = n) ∧ 1 ≤ t ∧ t + 1 + n ≤ 256
  · obtain ⟨⟨a1, a2, a3, a4, a5⟩, a6⟩ := hc
    rw [if_pos ⟨decide_eq_true a6, decide_eq_true ⟨a2, a3⟩, e6, a1, a4, a5⟩, if_pos (decide_eq_true ⟨⟨a1, a2, a3, a4, a5⟩, a6⟩)]
  · rw [if_neg (fun hh => hc ⟨⟨hh.2.2.2.1, (of_decide_eq_true hh.2.1).1, (of_decide_eq_true hh.2.1).2, hh.2.2.2.2.1, hh.2.2.2.2.2⟩, of_decide_eq_true hh.1⟩), if_neg (fun hh => hc (of_decide_eq_true hh))]
end Go.Proofs.Ygcfai

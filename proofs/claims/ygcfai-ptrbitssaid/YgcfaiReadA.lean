/-
  THE WALKS of the law's own reading of a pointer word: readStructs, readWord: they come to the same plain functions.
-/
import Derived.Test.YgcfaiResolveC
namespace Go.Proofs.Ygcfai
open Go.RowKit Plain
set_option linter.unusedSimpArgs false

theorem and3 (x : Int) (hx : U64 x) : bits .and .u64 x 3 = x % 4 := band x 2 _ (by decide) (by decide) hx
theorem and16 (x : Int) (hx : U64 x) : bits .and .u64 (x / 4294967296) 65535 = secD x :=
  band (x / 4294967296) 16 _ (by decide) (by decide) (by obtain ⟨a, b⟩ := hx; exact ⟨by omega, by omega⟩)
theorem and7 (x : Int) (hx : U64 x) : bits .and .u64 (x / 4294967296) 7 = wcode x :=
  band (x / 4294967296) 3 _ (by decide) (by decide) (by obtain ⟨a, b⟩ := hx; exact ⟨by omega, by omega⟩)
theorem and32 (x : Int) (hx : U64 x) : bits .and .u64 x 4294967295 / 4 = tagN x := by
  rw [band x 32 _ (by decide) (by decide) hx]
  unfold tagN
  simp only [Int.reducePow]
  omega
theorem andOff (x : Int) (hx : U64 x) : bits .and .u64 x 4294967292 / 4 = x / 4 % 1073741824 := by
  obtain ⟨X, rfl⟩ := Int.eq_ofNat_of_zero_le hx.1
  have h := u64_and_nat X 4294967292 (by have := hx.2; omega) (by omega)
  have h' : bits .and .u64 (X : Int) 4294967292 = ((X &&& 4294967292 : Nat) : Int) := h
  have e : (X &&& 4294967292) / 4 = X / 4 % 1073741824 := by
    have e1 := Nat.shiftRight_and_distrib (a := X) (b := 4294967292) (i := 2)
    simp only [Nat.shiftRight_eq_div_pow] at e1
    have e2 : (4294967292 / 2 ^ 2 : Nat) = 2 ^ 30 - 1 := by decide
    rw [e2, Nat.and_two_pow_sub_one_eq_mod] at e1
    simpa using e1
  rw [h']
  omega
/-- A tag that names n words of elements. -/
def tagGood (x n : Int) : Prop := secOk x = true ∧ x % 4 = 0 ∧ tagN x ≤ 128 ∧ ¬ (secD x + secP x = 0 ∧ tagN x ≠ 0) ∧ tagN x * (secD x + secP x) = n

set_option maxRecDepth 100000 in
set_option maxHeartbeats 1000000 in
theorem readStructs_out (a : Option Addr) (len cap : Nat) (l : List Int) (F n : Int) (hlen : len ≤ 256) (hF : -1000000000 ≤ F ∧ F ≤ 1000000000) (hn : 0 ≤ n ∧ n < 536870912) (w : World) (hL : l.length = len) (hs : spn F (n + 1) 1 len = false) :
    Calls Faig.prog 84 #[.slice a len cap, .int .i64 F, .int .i64 n, .int .i64 1] w fun e w' => e = .returned (.tuple #[(resStructs l 1 F n).ptr, .bool (resStructs l 1 F n).ok]) ∧ Below w.heap.size w w' := by
  obtain ⟨t0, t1⟩ := hF; obtain ⟨n0, n1⟩ := hn
  rw [show resStructs l 1 F n = PV.no from by unfold resStructs; rw [hL, if_neg (by simp [hs])]]
  have hh : F < 1 ∨ ¬ F < 1 ∧ (len : Int) < F + 1 + n := by
    unfold spn at hs
    rw [if_neg (by omega)] at hs
    simp at hs
    omega
  clear hs hL
  rcases hh with h1 | ⟨h1, h2⟩
  all_goals
    go_enter Faig.func84, Faig.ntmps84
    go_wp2
    exact bodyPost_ret (v := .tuple #[PV.no.ptr, .bool PV.no.ok]) (by simp [results, Faig.results84, go_sem, PV.no, PV.null, PV.ptr]) rfl ⟨rfl, by go_light; repeat (first | exact Below.refl _ _ | (refine Below.setCell ?_ (by simp) _) | (refine Below.alloc ?_ (by simp) _))⟩

set_option maxRecDepth 100000 in
set_option maxHeartbeats 2000000 in
theorem readStructs_in (bb off : Nat) (len cap : Nat) (x F n : Int) (hlen : len ≤ 256) (hF : 1 ≤ F ∧ F + 1 + n ≤ len) (hn : 0 ≤ n ∧ n < 536870912) (w : World) (hx : U64 x) (hlt : bb < w.heap.size)
    (hcell : w.cell? ⟨bb, off + F.toNat, none⟩ = some (.int .u64 x)) :
    Calls Faig.prog 84 #[.slice (some ⟨bb, off, none⟩) len cap, .int .i64 F, .int .i64 n, .int .i64 1] w fun e w' =>
      (e = .returned (.tuple #[PV.no.ptr, .bool false]) ∧ ¬ tagGood x n ∨ e = .returned (.tuple #[PV.ptr ⟨2, F + 1, secD x, secP x, 7, tagN x, true⟩, .bool true]) ∧ tagGood x n) ∧ Below w.heap.size w w' := by
  obtain ⟨t0, t1⟩ := hF; obtain ⟨n0, n1⟩ := hn
  obtain ⟨d0, d1⟩ := secD_bd x
  obtain ⟨p0, p1⟩ := secP_bd x hx
  obtain ⟨c0, c1⟩ := tagN_bd x
  have e3 := and3 x hx
  have e16 := and16 x hx
  have e32 := and32 x hx
  have eP : x / 281474976710656 = secP x := rfl
  by_cases h4 : x % 4 = 0
  · have b4 : (x % 4 != 0) = false := by simp [h4]
    by_cases h128 : tagN x ≤ 128
    · by_cases hd8 : secD x ≤ 8
      · by_cases hp8 : secP x ≤ 8
        · have hsec : secOk x = true := by simp [secOk, hd8, hp8]
          have HSEC : Hid (secOk x = true) := hsec
          obtain ⟨m0, m1⟩ := mul_bd c0 h128 (show 0 ≤ secD x + secP x by omega) (show secD x + secP x ≤ 16 by omega)
          by_cases hm : tagN x * (secD x + secP x) = n
          · have bm : (tagN x * (secD x + secP x) != n) = false := by simp [hm]
            by_cases he : secD x + secP x = 0
            · have be : (secD x + secP x == 0) = true := by simp [he]
              by_cases hc : 0 < tagN x
              · have HN : Hid (secD x + secP x = 0 ∧ tagN x ≠ 0) := ⟨he, by omega⟩
                clear h4 hm he hsec
                go_enter Faig.func84, Faig.ntmps84
                go_wp2
                exact bodyPost_ret (v := .tuple #[PV.no.ptr, .bool false]) (by simp [results, Faig.results84, go_sem, PV.no, PV.null, PV.ptr]) rfl ⟨Or.inl ⟨rfl, fun hx => hx.2.2.2.1 HN.out⟩, by go_light; repeat (first | exact Below.refl _ _ | (refine Below.setCell ?_ (by simp) _) | (refine Below.alloc ?_ (by simp) _))⟩
              · have HC : Hid (tagGood x n) := ⟨hsec, h4, h128, by omega, hm⟩
                clear h4 hm he hsec
                go_enter Faig.func84, Faig.ntmps84
                go_wp2
                exact bodyPost_ret (v := .tuple #[PV.ptr ⟨2, F + 1, secD x, secP x, 7, tagN x, true⟩, .bool true]) (by simp [results, Faig.results84, go_sem, PV.no, PV.null, PV.ptr]) rfl ⟨Or.inr ⟨rfl, HC.out⟩, by go_light; repeat (first | exact Below.refl _ _ | (refine Below.setCell ?_ (by simp) _) | (refine Below.alloc ?_ (by simp) _))⟩
            · have be : (secD x + secP x == 0) = false := by simp [he]
              have HC : Hid (tagGood x n) := ⟨hsec, h4, h128, by omega, hm⟩
              clear h4 hm he hsec
              go_enter Faig.func84, Faig.ntmps84
              go_wp2
              exact bodyPost_ret (v := .tuple #[PV.ptr ⟨2, F + 1, secD x, secP x, 7, tagN x, true⟩, .bool true]) (by simp [results, Faig.results84, go_sem, PV.no, PV.null, PV.ptr]) rfl ⟨Or.inr ⟨rfl, HC.out⟩, by go_light; repeat (first | exact Below.refl _ _ | (refine Below.setCell ?_ (by simp) _) | (refine Below.alloc ?_ (by simp) _))⟩
          · have bm : (tagN x * (secD x + secP x) != n) = true := by simp [hm]
            have HN : Hid (¬ tagN x * (secD x + secP x) = n) := hm
            clear h4 hm hsec
            go_enter Faig.func84, Faig.ntmps84
            go_wp2
            exact bodyPost_ret (v := .tuple #[PV.no.ptr, .bool false]) (by simp [results, Faig.results84, go_sem, PV.no, PV.null, PV.ptr]) rfl ⟨Or.inl ⟨rfl, fun hx => HN.out hx.2.2.2.2⟩, by go_light; repeat (first | exact Below.refl _ _ | (refine Below.setCell ?_ (by simp) _) | (refine Below.alloc ?_ (by simp) _))⟩
        · have HN : Hid (¬ secOk x = true) := by simp [Hid, secOk, hp8]
          clear h4
          go_enter Faig.func84, Faig.ntmps84
          go_wp2
          exact bodyPost_ret (v := .tuple #[PV.no.ptr, .bool false]) (by simp [results, Faig.results84, go_sem, PV.no, PV.null, PV.ptr]) rfl ⟨Or.inl ⟨rfl, fun hx => HN.out hx.1⟩, by go_light; repeat (first | exact Below.refl _ _ | (refine Below.setCell ?_ (by simp) _) | (refine Below.alloc ?_ (by simp) _))⟩
      · have HN : Hid (¬ secOk x = true) := by simp [Hid, secOk, hd8]
        clear h4
        go_enter Faig.func84, Faig.ntmps84
        go_wp2
        exact bodyPost_ret (v := .tuple #[PV.no.ptr, .bool false]) (by simp [results, Faig.results84, go_sem, PV.no, PV.null, PV.ptr]) rfl ⟨Or.inl ⟨rfl, fun hx => HN.out hx.1⟩, by go_light; repeat (first | exact Below.refl _ _ | (refine Below.setCell ?_ (by simp) _) | (refine Below.alloc ?_ (by simp) _))⟩
    · clear h4
      go_enter Faig.func84, Faig.ntmps84
      go_wp2
      exact bodyPost_ret (v := .tuple #[PV.no.ptr, .bool false]) (by simp [results, Faig.results84, go_sem, PV.no, PV.null, PV.ptr]) rfl ⟨Or.inl ⟨rfl, fun hx => by have := hx.2.2.1; omega⟩, by go_light; repeat (first | exact Below.refl _ _ | (refine Below.setCell ?_ (by simp) _) | (refine Below.alloc ?_ (by simp) _))⟩
  · have b4 : (x % 4 != 0) = true := by simp [h4]
    have HN : Hid (¬ x % 4 = 0) := h4
    clear h4
    go_enter Faig.func84, Faig.ntmps84
    go_wp2
    exact bodyPost_ret (v := .tuple #[PV.no.ptr, .bool false]) (by simp [results, Faig.results84, go_sem, PV.no, PV.null, PV.ptr]) rfl ⟨Or.inl ⟨rfl, fun hx => HN.out hx.2.1⟩, by go_light; repeat (first | exact Below.refl _ _ | (refine Below.setCell ?_ (by simp) _) | (refine Below.alloc ?_ (by simp) _))⟩

theorem readStructs_any (a : Option Addr) (len cap : Nat) (l : List Int) (F n : Int) (hlen : len ≤ 256) (hF : -1000000000 ≤ F ∧ F ≤ 1000000000) (hn : 0 ≤ n ∧ n < 536870912) (w : World) (hr : Row w a len l) :
    Calls Faig.prog 84 #[.slice a len cap, .int .i64 F, .int .i64 n, .int .i64 1] w fun e w' => e = .returned (.tuple #[(resStructs l 1 F n).ptr, .bool (resStructs l 1 F n).ok]) ∧ Below w.heap.size w w' := by
  cases hs : spn F (n + 1) 1 len with
  | false => exact readStructs_out a len cap l F n hlen hF hn w hr.1 hs
  | true =>
    have hin : 1 ≤ F ∧ F + 1 + n ≤ len := by
      have hs' := hs
      unfold spn at hs'
      rw [if_neg (by omega)] at hs'
      simp at hs'
      omega
    obtain ⟨bb, off, rfl, hlt, hcell, hxU⟩ := hr.at F.toNat (by omega)
    refine (readStructs_in bb off len cap (l.getD F.toNat 0) F n hlen hin hn w hxU hlt hcell).mono ?_
    rintro e w' ⟨h, hb⟩
    refine ⟨?_, hb⟩
    unfold resStructs
    rw [hr.1]
    rcases h with ⟨rfl, hno⟩ | ⟨rfl, hyes⟩
    · rw [if_neg (fun hh => hno hh.2)]; rfl
    · rw [if_pos ⟨hs, hyes⟩]
end Go.Proofs.Ygcfai

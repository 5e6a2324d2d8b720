/-
  THE WALK of the law's own reading of a pointer word: readWord.
-/
import Derived.Test.YgcfaiReadA
namespace Go.Proofs.Ygcfai
open Go.RowKit Plain
set_option linter.unusedSimpArgs false

theorem spn0 (F low len : Int) : spn F (0 + 0) low len = decide (0 ≤ F ∧ F ≤ len) := by simp [spn]
def resS (len low F d p : Int) : PV := if d ≤ 8 ∧ p ≤ 8 ∧ spn F (d + p) low len = true then ⟨1, F, d, p, 0, 0, true⟩ else PV.no

set_option maxRecDepth 100000 in
set_option maxHeartbeats 4000000 in
theorem readStruct (a : Option Addr) (len cap : Nat) (x base o F : Int) (hlen : len ≤ 256) (hx : U64 x) (hx0 : (x == 0) = false) (hb0 : 0 ≤ base) (hb1 : base ≤ 65536) (ho0 : 0 ≤ o) (ho1 : o < 1073741824) (eOff : bits .and .u64 x 4294967292 / 4 = o) (hF : (o < 536870912 ∧ base + o = F) ∨ (¬ o < 536870912 ∧ base + (o - 1073741824) = F)) (w : World) (h4 : (x % 4 == 0) = true) :
    Calls Faig.prog 43 #[.slice a len cap, .int .u64 x, .int .i64 base, .int .i64 1] w fun e w' => e = .returned (.tuple #[(resS len 1 F (secD x) (secP x)).ptr, .bool (resS len 1 F (secD x) (secP x)).ok]) ∧ Below w.heap.size w w' := by
  have e3 := and3 x hx
  have e16 := and16 x hx
  have eP : x / 281474976710656 = secP x := rfl
  obtain ⟨d0, d1⟩ := secD_bd x
  obtain ⟨p0, p1⟩ := secP_bd x hx
  have hFb : -1000000000 ≤ F ∧ F ≤ 1000000000 := by omega
  obtain ⟨f0, f1⟩ := hFb
  generalize secD x = d at *
  generalize secP x = p at *
  by_cases he : d + p = 0
  · obtain rfl : d = 0 := by omega
    obtain rfl : p = 0 := by omega
    by_cases hn : F < 0
    · rw [show resS len 1 F 0 0 = PV.no from by unfold resS; rw [spn0, if_neg (by simp; omega)]]
      clear he
      rcases hF with ⟨g1, g2⟩ | ⟨g1, g2⟩
      all_goals
        go_enter Faig.func43, Faig.ntmps43
        go_wp2
        all_goals exact bodyPost_ret (v := .tuple #[PV.no.ptr, .bool PV.no.ok]) (by simp [results, Faig.results43, go_sem, PV.no, PV.null, PV.ptr]) rfl ⟨rfl, by go_light; repeat (first | exact Below.refl _ _ | (refine Below.setCell ?_ (by simp) _) | (refine Below.alloc ?_ (by simp) _))⟩
    by_cases hm : F ≤ len
    · rw [show resS len 1 F 0 0 = ⟨1, F, 0, 0, 0, 0, true⟩ from by unfold resS; rw [spn0, if_pos (by simp; omega)]]
      clear he
      rcases hF with ⟨g1, g2⟩ | ⟨g1, g2⟩
      all_goals
        go_enter Faig.func43, Faig.ntmps43
        go_wp2
        exact bodyPost_ret (v := .tuple #[PV.ptr ⟨1, F, 0, 0, 0, 0, true⟩, .bool true]) (by simp [results, Faig.results43, go_sem, PV.no, PV.null, PV.ptr]) rfl ⟨rfl, by go_light; repeat (first | exact Below.refl _ _ | (refine Below.setCell ?_ (by simp) _) | (refine Below.alloc ?_ (by simp) _))⟩
    · rw [show resS len 1 F 0 0 = PV.no from by unfold resS; rw [spn0, if_neg (by simp; omega)]]
      clear he
      rcases hF with ⟨g1, g2⟩ | ⟨g1, g2⟩
      all_goals
        go_enter Faig.func43, Faig.ntmps43
        go_wp2
        all_goals exact bodyPost_ret (v := .tuple #[PV.no.ptr, .bool PV.no.ok]) (by simp [results, Faig.results43, go_sem, PV.no, PV.null, PV.ptr]) rfl ⟨rfl, by go_light; repeat (first | exact Below.refl _ _ | (refine Below.setCell ?_ (by simp) _) | (refine Below.alloc ?_ (by simp) _))⟩
  · have be : (d + p == 0) = false := by simp [he]
    have hpos : 0 < d + p := by omega
    by_cases hd8 : d ≤ 8
    · by_cases hp8 : p ≤ 8
      · by_cases hn : F < 1
        · rw [show resS len 1 F d p = PV.no from by unfold resS spn; rw [if_neg he, if_neg (by simp; omega)]]
          clear he
          rcases hF with ⟨g1, g2⟩ | ⟨g1, g2⟩
          all_goals
            go_enter Faig.func43, Faig.ntmps43
            go_wp2
            all_goals exact bodyPost_ret (v := .tuple #[PV.no.ptr, .bool PV.no.ok]) (by simp [results, Faig.results43, go_sem, PV.no, PV.null, PV.ptr]) rfl ⟨rfl, by go_light; repeat (first | exact Below.refl _ _ | (refine Below.setCell ?_ (by simp) _) | (refine Below.alloc ?_ (by simp) _))⟩
        by_cases hm : F + d + p ≤ len
        · rw [show resS len 1 F d p = ⟨1, F, d, p, 0, 0, true⟩ from by unfold resS spn; rw [if_neg he, if_pos (by simp; omega)]]
          clear he
          rcases hF with ⟨g1, g2⟩ | ⟨g1, g2⟩
          all_goals
            go_enter Faig.func43, Faig.ntmps43
            go_wp2
            exact bodyPost_ret (v := .tuple #[PV.ptr ⟨1, F, d, p, 0, 0, true⟩, .bool true]) (by simp [results, Faig.results43, go_sem, PV.no, PV.null, PV.ptr]) rfl ⟨rfl, by go_light; repeat (first | exact Below.refl _ _ | (refine Below.setCell ?_ (by simp) _) | (refine Below.alloc ?_ (by simp) _))⟩
        · rw [show resS len 1 F d p = PV.no from by unfold resS spn; rw [if_neg he, if_neg (by simp; omega)]]
          clear he
          rcases hF with ⟨g1, g2⟩ | ⟨g1, g2⟩
          all_goals
            go_enter Faig.func43, Faig.ntmps43
            go_wp2
            all_goals exact bodyPost_ret (v := .tuple #[PV.no.ptr, .bool PV.no.ok]) (by simp [results, Faig.results43, go_sem, PV.no, PV.null, PV.ptr]) rfl ⟨rfl, by go_light; repeat (first | exact Below.refl _ _ | (refine Below.setCell ?_ (by simp) _) | (refine Below.alloc ?_ (by simp) _))⟩
      · rw [show resS len 1 F d p = PV.no from by unfold resS; rw [if_neg (by omega)]]
        clear he
        rcases hF with ⟨g1, g2⟩ | ⟨g1, g2⟩
        all_goals
          go_enter Faig.func43, Faig.ntmps43
          go_wp2
          all_goals exact bodyPost_ret (v := .tuple #[PV.no.ptr, .bool PV.no.ok]) (by simp [results, Faig.results43, go_sem, PV.no, PV.null, PV.ptr]) rfl ⟨rfl, by go_light; repeat (first | exact Below.refl _ _ | (refine Below.setCell ?_ (by simp) _) | (refine Below.alloc ?_ (by simp) _))⟩
    · rw [show resS len 1 F d p = PV.no from by unfold resS; rw [if_neg (by omega)]]
      clear he
      rcases hF with ⟨g1, g2⟩ | ⟨g1, g2⟩
      all_goals
        go_enter Faig.func43, Faig.ntmps43
        go_wp2
        all_goals exact bodyPost_ret (v := .tuple #[PV.no.ptr, .bool PV.no.ok]) (by simp [results, Faig.results43, go_sem, PV.no, PV.null, PV.ptr]) rfl ⟨rfl, by go_light; repeat (first | exact Below.refl _ _ | (refine Below.setCell ?_ (by simp) _) | (refine Below.alloc ?_ (by simp) _))⟩
end Go.Proofs.Ygcfai

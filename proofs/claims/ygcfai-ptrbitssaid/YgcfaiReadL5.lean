/-
  THE WALK of the law's own reading of a pointer word: readWord, lists of code 5.
-/
import Derived.Test.YgcfaiReadA
namespace Go.Proofs.Ygcfai
open Go.RowKit Plain
set_option linter.unusedSimpArgs false

theorem wz5 (n : Int) (h0 : 0 ≤ n) (h1 : n ≤ 128) : words 2 0 0 5 n = (n * 8 + 7) / 8 := by unfold words width; simp; omega

set_option maxRecDepth 100000 in
set_option maxHeartbeats 4000000 in
theorem readList5_nil (a : Option Addr) (len cap : Nat) (x base o F : Int) (hlen : len ≤ 256) (hx : U64 x) (hx0 : (x == 0) = false) (hb0 : 0 ≤ base) (hb1 : base ≤ 65536) (ho0 : 0 ≤ o) (ho1 : o < 1073741824) (eOff : bits .and .u64 x 4294967292 / 4 = o) (hF : (o < 536870912 ∧ base + o = F) ∨ (¬ o < 536870912 ∧ base + (o - 1073741824) = F)) (w : World) (h4 : (x % 4 == 0) = false) (h41 : (x % 4 != 1) = false) (e7 : bits .and .u64 (x / 4294967296) 7 = 5) (eN : x / 34359738368 = 0) :
    Calls Faig.prog 43 #[.slice a len cap, .int .u64 x, .int .i64 base, .int .i64 1] w fun e w' => e = .returned (.tuple #[(resPlain len 1 F 5 0).ptr, .bool (resPlain len 1 F 5 0).ok]) ∧ Below w.heap.size w w' := by
  have e3 := and3 x hx
  have hi : ∀ w, (Instr.index 168 (.agg #[.int .i64 0, .int .i64 0, .int .i64 1, .int .i64 2, .int .i64 4, .int .i64 8, .int .i64 8, .int .i64 0]) (.int .u64 5)).run Faig.prog w = .ok (.int .i64 8) w := fun _ => by kernel_rfl
  have hFb : -1000000000 ≤ F ∧ F ≤ 1000000000 := by omega
  obtain ⟨f0, f1⟩ := hFb
  have hwz := wz5 0 (by omega) (by omega)
  simp at hwz
  by_cases hneg : F < 0
  · rw [show resPlain len 1 F 5 0 = PV.no from by unfold resPlain spn; rw [hwz]; rw [if_neg (by simp; omega)]]
    clear hwz
    rcases hF with ⟨g1, g2⟩ | ⟨g1, g2⟩
    all_goals
      go_enter Faig.func43, Faig.ntmps43
      go_wp2
      all_goals exact bodyPost_ret (v := .tuple #[PV.no.ptr, .bool PV.no.ok]) (by simp [results, Faig.results43, go_sem, PV.no, PV.null, PV.ptr]) rfl ⟨rfl, by go_light; repeat (first | exact Below.refl _ _ | (refine Below.setCell ?_ (by simp) _) | (refine Below.alloc ?_ (by simp) _))⟩
  by_cases hbig : F ≤ len
  · rw [show resPlain len 1 F 5 0 = ⟨2, F, 0, 0, 5, 0, true⟩ from by unfold resPlain spn; rw [hwz]; rw [if_pos (by simp; omega)]]
    clear hwz
    rcases hF with ⟨g1, g2⟩ | ⟨g1, g2⟩
    all_goals
      go_enter Faig.func43, Faig.ntmps43
      go_wp2
      exact bodyPost_ret (v := .tuple #[PV.ptr ⟨2, F, 0, 0, 5, 0, true⟩, .bool true]) (by simp [results, Faig.results43, go_sem, PV.no, PV.null, PV.ptr]) rfl ⟨rfl, by go_light; repeat (first | exact Below.refl _ _ | (refine Below.setCell ?_ (by simp) _) | (refine Below.alloc ?_ (by simp) _))⟩
  · rw [show resPlain len 1 F 5 0 = PV.no from by unfold resPlain spn; rw [hwz]; rw [if_neg (by simp; omega)]]
    clear hwz
    rcases hF with ⟨g1, g2⟩ | ⟨g1, g2⟩
    all_goals
      go_enter Faig.func43, Faig.ntmps43
      go_wp2
      all_goals exact bodyPost_ret (v := .tuple #[PV.no.ptr, .bool PV.no.ok]) (by simp [results, Faig.results43, go_sem, PV.no, PV.null, PV.ptr]) rfl ⟨rfl, by go_light; repeat (first | exact Below.refl _ _ | (refine Below.setCell ?_ (by simp) _) | (refine Below.alloc ?_ (by simp) _))⟩

set_option maxRecDepth 100000 in
set_option maxHeartbeats 4000000 in
theorem readList5_some (a : Option Addr) (len cap : Nat) (x base o F : Int) (hlen : len ≤ 256) (hx : U64 x) (hx0 : (x == 0) = false) (hb0 : 0 ≤ base) (hb1 : base ≤ 65536) (ho0 : 0 ≤ o) (ho1 : o < 1073741824) (eOff : bits .and .u64 x 4294967292 / 4 = o) (hF : (o < 536870912 ∧ base + o = F) ∨ (¬ o < 536870912 ∧ base + (o - 1073741824) = F)) (w : World) (n : Int) (h4 : (x % 4 == 0) = false) (h41 : (x % 4 != 1) = false) (e7 : bits .and .u64 (x / 4294967296) 7 = 5) (eN : x / 34359738368 = n) (n0 : 0 < n) (n1 : n < 536870912) :
    Calls Faig.prog 43 #[.slice a len cap, .int .u64 x, .int .i64 base, .int .i64 1] w fun e w' => e = .returned (.tuple #[(resPlain len 1 F 5 n).ptr, .bool (resPlain len 1 F 5 n).ok]) ∧ Below w.heap.size w w' := by
  have e3 := and3 x hx
  have hi : ∀ w, (Instr.index 168 (.agg #[.int .i64 0, .int .i64 0, .int .i64 1, .int .i64 2, .int .i64 4, .int .i64 8, .int .i64 8, .int .i64 0]) (.int .u64 5)).run Faig.prog w = .ok (.int .i64 8) w := fun _ => by kernel_rfl
  have hFb : -1000000000 ≤ F ∧ F ≤ 1000000000 := by omega
  obtain ⟨f0, f1⟩ := hFb
  have bn : (n == 0) = false := by simp; omega
  by_cases h128 : 128 < n
  · rw [show resPlain len 1 F 5 n = PV.no from by unfold resPlain; rw [if_neg (by omega)]]
    rcases hF with ⟨g1, g2⟩ | ⟨g1, g2⟩
    all_goals
      go_enter Faig.func43, Faig.ntmps43
      go_wp2
      all_goals exact bodyPost_ret (v := .tuple #[PV.no.ptr, .bool PV.no.ok]) (by simp [results, Faig.results43, go_sem, PV.no, PV.null, PV.ptr]) rfl ⟨rfl, by go_light; repeat (first | exact Below.refl _ _ | (refine Below.setCell ?_ (by simp) _) | (refine Below.alloc ?_ (by simp) _))⟩
  have hwz := wz5 n (by omega) (by omega)
  have hnz : ¬ (n * 8 + 7) / 8 = 0 := by omega
  by_cases hneg : F < 1
  · rw [show resPlain len 1 F 5 n = PV.no from by unfold resPlain spn; rw [hwz]; rw [if_neg hnz, if_neg (by simp; omega)]]
    clear hwz hnz
    rcases hF with ⟨g1, g2⟩ | ⟨g1, g2⟩
    all_goals
      go_enter Faig.func43, Faig.ntmps43
      go_wp2
      all_goals exact bodyPost_ret (v := .tuple #[PV.no.ptr, .bool PV.no.ok]) (by simp [results, Faig.results43, go_sem, PV.no, PV.null, PV.ptr]) rfl ⟨rfl, by go_light; repeat (first | exact Below.refl _ _ | (refine Below.setCell ?_ (by simp) _) | (refine Below.alloc ?_ (by simp) _))⟩
  by_cases hbig : 8 * F + 8 * n ≤ 8 * (len : Int)
  · rw [show resPlain len 1 F 5 n = ⟨2, F, 0, 0, 5, n, true⟩ from by unfold resPlain spn; rw [hwz]; rw [if_neg hnz, if_pos (by simp; omega)]]
    clear hwz hnz
    rcases hF with ⟨g1, g2⟩ | ⟨g1, g2⟩
    all_goals
      go_enter Faig.func43, Faig.ntmps43
      go_wp2
      exact bodyPost_ret (v := .tuple #[PV.ptr ⟨2, F, 0, 0, 5, n, true⟩, .bool true]) (by simp [results, Faig.results43, go_sem, PV.no, PV.null, PV.ptr]) rfl ⟨rfl, by go_light; repeat (first | exact Below.refl _ _ | (refine Below.setCell ?_ (by simp) _) | (refine Below.alloc ?_ (by simp) _))⟩
  · rw [show resPlain len 1 F 5 n = PV.no from by unfold resPlain spn; rw [hwz]; rw [if_neg hnz, if_neg (by simp; omega)]]
    clear hwz hnz
    rcases hF with ⟨g1, g2⟩ | ⟨g1, g2⟩
    all_goals
      go_enter Faig.func43, Faig.ntmps43
      go_wp2
      all_goals exact bodyPost_ret (v := .tuple #[PV.no.ptr, .bool PV.no.ok]) (by simp [results, Faig.results43, go_sem, PV.no, PV.null, PV.ptr]) rfl ⟨rfl, by go_light; repeat (first | exact Below.refl _ _ | (refine Below.setCell ?_ (by simp) _) | (refine Below.alloc ?_ (by simp) _))⟩
end Go.Proofs.Ygcfai

/-
  THE WALK of the law's own reading of a pointer word, joined: readWord comes to the plain function of wire.ResolveWord.
-/
import Derived.Test.YgcfaiReadB
import Derived.Test.YgcfaiReadL2
import Derived.Test.YgcfaiReadL3
import Derived.Test.YgcfaiReadL4
import Derived.Test.YgcfaiReadL5
import Derived.Test.YgcfaiReadL6
namespace Go.Proofs.Ygcfai
open Go.RowKit Plain
set_option linter.unusedSimpArgs false
set_option linter.unusedVariables false

set_option maxRecDepth 100000 in
set_option maxHeartbeats 2000000 in
theorem readSeven (a : Option Addr) (len cap : Nat) (x base o F : Int) (hlen : len ≤ 256) (hx : U64 x) (hx0 : (x == 0) = false) (hb0 : 0 ≤ base) (hb1 : base ≤ 65536) (ho0 : 0 ≤ o) (ho1 : o < 1073741824) (eOff : bits .and .u64 x 4294967292 / 4 = o) (hF : (o < 536870912 ∧ base + o = F) ∨ (¬ o < 536870912 ∧ base + (o - 1073741824) = F)) (l : List Int) (n : Int) (h4 : (x % 4 == 0) = false) (h41 : (x % 4 != 1) = false) (e7 : bits .and .u64 (x / 4294967296) 7 = 7) (eN : x / 34359738368 = n) (n0 : 0 ≤ n) (n1 : n < 536870912) (w : World) (hr : Row w a len l) :
    Calls Faig.prog 43 #[.slice a len cap, .int .u64 x, .int .i64 base, .int .i64 1] w fun e w' => e = .returned (.tuple #[(resStructs l 1 F n).ptr, .bool (resStructs l 1 F n).ok]) ∧ Below w.heap.size w w' := by
  have e3 := and3 x hx
  have hFb : -1000000000 ≤ F ∧ F ≤ 1000000000 := by omega
  rcases hF with ⟨g1, g2⟩ | ⟨g1, g2⟩
  all_goals
    go_enter Faig.func43, Faig.ntmps43
    go_wp2_with fail
    refine (readStructs_any a len cap l F n hlen hFb ⟨n0, n1⟩ _ (hr.alloc _)).mono ?_
    rintro e w1 ⟨rfl, hb1⟩
    unfold PV.ptr
    have hh : w1.cell? ⟨w.heap.size, 0, none⟩ = some (.int .u8 0) ∧ w1.cell? ⟨w.heap.size, 1, none⟩ = some (.int .u16 0) ∧ w1.cell? ⟨w.heap.size, 2, none⟩ = some (.int .u8 0) ∧ w1.cell? ⟨w.heap.size, 3, none⟩ = some (.int .u8 0) ∧ w1.cell? ⟨w.heap.size, 4, none⟩ = some (.int .u8 0) ∧ w1.cell? ⟨w.heap.size, 5, none⟩ = some (.int .u16 0) ∧ w1.frozen? ⟨w.heap.size, 0, none⟩ = false ∧ w1.frozen? ⟨w.heap.size, 1, none⟩ = false ∧ w1.frozen? ⟨w.heap.size, 2, none⟩ = false ∧ w1.frozen? ⟨w.heap.size, 3, none⟩ = false ∧ w1.frozen? ⟨w.heap.size, 4, none⟩ = false ∧ w1.frozen? ⟨w.heap.size, 5, none⟩ = false := by
      refine ⟨?_, ?_, ?_, ?_, ?_, ?_, ?_, ?_, ?_, ?_, ?_, ?_⟩ <;> (first | (rw [hb1.cell (by simp <;> omega)]; simp [go_sem]) | (rw [hb1.frozen (by simp <;> omega)]; simp [go_sem]))
    have hb : Below w.heap.size w w1 := below1 (hb1.mono (by simp <;> omega))
    clear hb1
    go_wp2_with fail
    exact bodyPost_ret (v := .tuple #[(resStructs l 1 F n).ptr, .bool (resStructs l 1 F n).ok]) (by simp [results, Faig.results43, go_sem, PV.no, PV.null, PV.ptr, hh]) rfl ⟨rfl, by go_light; repeat (first | (refine Below.setCell ?_ (by first | omega | (simp <;> omega)) _) | exact hb)⟩

set_option maxRecDepth 100000 in
set_option maxHeartbeats 2000000 in
theorem readBad (a : Option Addr) (len cap : Nat) (x base o F : Int) (hlen : len ≤ 256) (hx : U64 x) (hx0 : (x == 0) = false) (hb0 : 0 ≤ base) (hb1 : base ≤ 65536) (ho0 : 0 ≤ o) (ho1 : o < 1073741824) (eOff : bits .and .u64 x 4294967292 / 4 = o) (hF : (o < 536870912 ∧ base + o = F) ∨ (¬ o < 536870912 ∧ base + (o - 1073741824) = F)) (w : World) (h4 : (x % 4 == 0) = false) (h41 : (x % 4 != 1) = true ∨ (x % 4 != 1) = false ∧ bits .and .u64 (x / 4294967296) 7 < 2) :
    Calls Faig.prog 43 #[.slice a len cap, .int .u64 x, .int .i64 base, .int .i64 1] w fun e w' => e = .returned (.tuple #[PV.no.ptr, .bool PV.no.ok]) ∧ Below w.heap.size w w' := by
  have e3 := and3 x hx
  rcases h41 with h41 | ⟨h41, h42⟩
  all_goals
    rcases hF with ⟨g1, g2⟩ | ⟨g1, g2⟩
    all_goals
      go_enter Faig.func43, Faig.ntmps43
      go_wp2
      exact bodyPost_ret (v := .tuple #[PV.no.ptr, .bool PV.no.ok]) (by simp [results, Faig.results43, go_sem, PV.no, PV.null, PV.ptr]) rfl ⟨rfl, by go_light; repeat (first | exact Below.refl _ _ | (refine Below.setCell ?_ (by simp) _) | (refine Below.alloc ?_ (by simp) _))⟩

set_option maxRecDepth 100000 in
theorem readZero (a : Option Addr) (len cap : Nat) (base : Int) (hlen : len ≤ 256) (w : World) :
    Calls Faig.prog 43 #[.slice a len cap, .int .u64 0, .int .i64 base, .int .i64 1] w fun e w' => e = .returned (.tuple #[PV.null.ptr, .bool PV.null.ok]) ∧ Below w.heap.size w w' := by
  go_enter Faig.func43, Faig.ntmps43
  go_wp2
  exact bodyPost_ret (v := .tuple #[PV.null.ptr, .bool PV.null.ok]) (by simp [results, Faig.results43, go_sem, PV.no, PV.null, PV.ptr]) rfl ⟨rfl, by go_light; repeat (first | exact Below.refl _ _ | (refine Below.setCell ?_ (by simp) _) | (refine Below.alloc ?_ (by simp) _))⟩

/-- law.readWord, at its own low bound 1, comes to what wire.ResolveWord comes to. -/
theorem readWord_any (a : Option Addr) (len cap : Nat) (l : List Int) (x base : Int) (hlen : len ≤ 256) (hx : U64 x) (hb0 : 0 ≤ base) (hb1 : base ≤ 65536) (w : World) (hr : Row w a len l) :
    Calls Faig.prog 43 #[.slice a len cap, .int .u64 x, .int .i64 base, .int .i64 1] w fun e w' => e = .returned (.tuple #[(resW l x base 1).ptr, .bool (resW l x base 1).ok]) ∧ Below w.heap.size w w' := by
  have hL := hr.1
  have h256 : ¬ 256 < l.length := by omega
  by_cases hx0 : x = 0
  · subst hx0
    rw [show resW l 0 base 1 = PV.null from by unfold resW; rw [if_neg h256, if_pos rfl]]
    exact readZero a len cap base hlen w
  have bx0 : (x == 0) = false := by simp [hx0]
  have hF : (x / 4 % 1073741824 < 536870912 ∧ base + x / 4 % 1073741824 = base + sgn30 (x / 4)) ∨ (¬ x / 4 % 1073741824 < 536870912 ∧ base + (x / 4 % 1073741824 - 1073741824) = base + sgn30 (x / 4)) := by
    unfold sgn30
    by_cases h : x / 4 % 1073741824 < 536870912
    · rw [if_pos h]; exact Or.inl ⟨h, rfl⟩
    · rw [if_neg h]; exact Or.inr ⟨h, rfl⟩
  have eOff := andOff x hx
  have ho0 : 0 ≤ x / 4 % 1073741824 := by omega
  have ho1 : x / 4 % 1073741824 < 1073741824 := by omega
  unfold resW
  rw [if_neg h256, if_neg hx0, hL]
  generalize base + sgn30 (x / 4) = F at hF ⊢
  generalize x / 4 % 1073741824 = o at hF eOff ho0 ho1
  by_cases h0 : x % 4 = 0
  · rw [if_pos h0]
    have := readStruct a len cap x base o F hlen hx bx0 hb0 hb1 ho0 ho1 eOff hF w (by simp [h0])
    have e : resS len 1 F (secD x) (secP x) = (if secOk x = true ∧ spn F (secD x + secP x) 1 len = true then ⟨1, F, secD x, secP x, 0, 0, true⟩ else PV.no) := by
      unfold resS secOk
      simp only [decide_eq_true_eq, and_assoc]
    rw [← e]
    exact this
  have b0 : (x % 4 == 0) = false := by simp [h0]
  rw [if_neg h0]
  by_cases h1 : x % 4 = 1
  · have b1 : (x % 4 != 1) = false := by simp [h1]
    rw [if_pos h1]
    obtain ⟨n0, n1⟩ := wcnt_bd x hx
    obtain ⟨c0, c1⟩ := wcode_bd x
    have e7 := and7 x hx
    by_cases h7 : wcode x = 7
    · rw [if_pos h7]
      exact readSeven a len cap x base o F hlen hx bx0 hb0 hb1 ho0 ho1 eOff hF l (wcnt x) b0 b1 (e7.trans h7) rfl n0 n1 w hr
    rw [if_neg h7]
    by_cases h2 : wcode x < 2
    · rw [show resPlain len 1 F (wcode x) (wcnt x) = PV.no from by unfold resPlain; rw [if_neg (by omega)]]
      exact readBad a len cap x base o F hlen hx bx0 hb0 hb1 ho0 ho1 eOff hF w b0 (Or.inr ⟨b1, by rw [e7]; exact h2⟩)
    have hc : wcode x = 2 ∨ wcode x = 3 ∨ wcode x = 4 ∨ wcode x = 5 ∨ wcode x = 6 := by omega
    by_cases hn : wcnt x = 0
    · rw [hn]
      have eN : x / 34359738368 = 0 := hn
      rcases hc with h | h | h | h | h
      · rw [h]; exact readList2_nil a len cap x base o F hlen hx bx0 hb0 hb1 ho0 ho1 eOff hF w b0 b1 (e7.trans h) eN
      · rw [h]; exact readList3_nil a len cap x base o F hlen hx bx0 hb0 hb1 ho0 ho1 eOff hF w b0 b1 (e7.trans h) eN
      · rw [h]; exact readList4_nil a len cap x base o F hlen hx bx0 hb0 hb1 ho0 ho1 eOff hF w b0 b1 (e7.trans h) eN
      · rw [h]; exact readList5_nil a len cap x base o F hlen hx bx0 hb0 hb1 ho0 ho1 eOff hF w b0 b1 (e7.trans h) eN
      · rw [h]; exact readList6_nil a len cap x base o F hlen hx bx0 hb0 hb1 ho0 ho1 eOff hF w b0 b1 (e7.trans h) eN
    · rcases hc with h | h | h | h | h
      · rw [h]; exact readList2_some a len cap x base o F hlen hx bx0 hb0 hb1 ho0 ho1 eOff hF w (wcnt x) b0 b1 (e7.trans h) rfl (by omega) n1
      · rw [h]; exact readList3_some a len cap x base o F hlen hx bx0 hb0 hb1 ho0 ho1 eOff hF w (wcnt x) b0 b1 (e7.trans h) rfl (by omega) n1
      · rw [h]; exact readList4_some a len cap x base o F hlen hx bx0 hb0 hb1 ho0 ho1 eOff hF w (wcnt x) b0 b1 (e7.trans h) rfl (by omega) n1
      · rw [h]; exact readList5_some a len cap x base o F hlen hx bx0 hb0 hb1 ho0 ho1 eOff hF w (wcnt x) b0 b1 (e7.trans h) rfl (by omega) n1
      · rw [h]; exact readList6_some a len cap x base o F hlen hx bx0 hb0 hb1 ho0 ho1 eOff hF w (wcnt x) b0 b1 (e7.trans h) rfl (by omega) n1
  · have b1 : (x % 4 != 1) = true := by simp [h1]
    rw [if_neg h1]
    exact readBad a len cap x base o F hlen hx bx0 hb0 hb1 ho0 ho1 eOff hF w b0 (Or.inl b1)
end Go.Proofs.Ygcfai

/-
  THE WALKS of wire.sections, room.spans, room.plain, and the plain functions behind wire.Resolve.
-/
import Derived.Test.YgcfaiBits
import Derived.Test.YgcfaiWords
import Derived.Deep.Light
import Derived.Deep.RegionHeld3
namespace Go.Proofs.Ygcfai
open Go.RowKit Plain

structure PV where
  k : Int
  t : Int
  d : Int
  p : Int
  c : Int
  n : Int
  ok : Bool
def PV.no : PV := ⟨0, 0, 0, 0, 0, 0, false⟩
def PV.null : PV := ⟨0, 0, 0, 0, 0, 0, true⟩
def PV.ptr (r : PV) : Value := .agg #[.int .u8 r.k, .int .u16 r.t, .int .u8 r.d, .int .u8 r.p, .int .u8 r.c, .int .u16 r.n]

/-- room.spans. -/
def spn (to n low len : Int) : Bool := if n = 0 then decide (0 ≤ to ∧ to ≤ len) else decide (low ≤ to ∧ to + n ≤ len)
def secD (w : Int) : Int := w / 4294967296 % 65536
def secP (w : Int) : Int := w / 281474976710656
def secOk (w : Int) : Bool := decide (secD w ≤ 8 ∧ secP w ≤ 8)

theorem sections_yes (x : Int) (hx : U64 x) (h : secOk x = true) (w : World) :
    Calls Faig.prog 129 #[.int .u64 x] w fun e w' => e = .returned (.tuple #[.int .u8 (secD x), .int .u8 (secP x), .bool true]) ∧ w' = w := by
  simp [secOk] at h
  obtain ⟨h1, h2⟩ := h
  have g1 : x / 4294967296 % 65536 ≤ 8 := h1
  have g2 : x / 281474976710656 ≤ 8 := h2
  have hx' := hx
  obtain ⟨x0, x1⟩ := hx'
  clear h1 h2
  go_enter Faig.func129, Faig.ntmps129
  go_wp2_with fail
  refine (take_32_16 x hx _).mono ?_
  rintro e w' ⟨rfl, rfl⟩
  go_wp2_with fail
  refine (take_48_16 x hx _).mono ?_
  rintro e w' ⟨rfl, rfl⟩
  go_wp2_with fail
  go_ret3
  exact ⟨rfl, rfl⟩
theorem sections_no (x : Int) (hx : U64 x) (h : secOk x = false) (w : World) :
    Calls Faig.prog 129 #[.int .u64 x] w fun e w' => e = .returned (.tuple #[.int .u8 0, .int .u8 0, .bool false]) ∧ w' = w := by
  have g : ¬ (x / 4294967296 % 65536 ≤ 8 ∧ x / 281474976710656 ≤ 8) := by
    intro hh
    have h2 : secOk x = true := decide_eq_true hh
    rw [h] at h2
    cases h2
  clear h
  by_cases g1 : x / 4294967296 % 65536 ≤ 8
  · have g2 : ¬ x / 281474976710656 ≤ 8 := fun h2 => g ⟨g1, h2⟩
    clear g
    go_enter Faig.func129, Faig.ntmps129
    go_wp2_with fail
    refine (take_32_16 x hx _).mono ?_
    rintro e w' ⟨rfl, rfl⟩
    go_wp2_with fail
    refine (take_48_16 x hx _).mono ?_
    rintro e w' ⟨rfl, rfl⟩
    go_wp2_with fail
    go_ret3
    exact ⟨rfl, rfl⟩
  · clear g
    go_enter Faig.func129, Faig.ntmps129
    go_wp2_with fail
    refine (take_32_16 x hx _).mono ?_
    rintro e w' ⟨rfl, rfl⟩
    go_wp2_with fail
    refine (take_48_16 x hx _).mono ?_
    rintro e w' ⟨rfl, rfl⟩
    go_wp2_with fail
    go_ret3
    exact ⟨rfl, rfl⟩

theorem spans_any (a : Option Addr) (len cap : Nat) (low to n : Int) (hlen : len ≤ 256) (hlow : U16 low) (hto : -1000000000 ≤ to ∧ to ≤ 1000000000) (hn : 0 ≤ n ∧ n ≤ 1000000000) (w : World) :
    Calls Faig.prog 130 #[.agg #[.slice a len cap, .int .u16 low], .int .i32 to, .int .i32 n] w fun e w' => e = .returned (.bool (spn to n low len)) ∧ Below w.heap.size w w' := by
  obtain ⟨l0, l1⟩ := hlow; obtain ⟨t0, t1⟩ := hto; obtain ⟨n0, n1⟩ := hn
  by_cases hn0 : n = 0
  · subst hn0
    by_cases h : 0 ≤ to
    · rw [show spn to 0 low len = decide (to ≤ (len : Int)) from by simp [spn, h]]
      go_enter Faig.func130, Faig.ntmps130
      go_wp2
      go_ret
      exact ⟨rfl, (Below.refl _ _).alloc (Nat.le_refl _) _⟩
    · rw [show spn to 0 low len = false from by simp [spn, h]]
      go_enter Faig.func130, Faig.ntmps130
      go_wp2
      go_ret
      exact ⟨rfl, (Below.refl _ _).alloc (Nat.le_refl _) _⟩
  · have b0 : (n == 0) = false := by simp [hn0]
    by_cases h : low ≤ to
    · rw [show spn to n low len = decide (to + n ≤ (len : Int)) from by simp [spn, h, hn0]]
      clear hn0
      go_enter Faig.func130, Faig.ntmps130
      go_wp2
      go_ret
      exact ⟨rfl, (Below.refl _ _).alloc (Nat.le_refl _) _⟩
    · rw [show spn to n low len = false from by simp [spn, h, hn0]]
      clear hn0
      go_enter Faig.func130, Faig.ntmps130
      go_wp2
      go_ret
      exact ⟨rfl, (Below.refl _ _).alloc (Nat.le_refl _) _⟩

/-- room.plain. -/
def resPlain (len low to c n : Int) : PV :=
  if 2 ≤ c ∧ c ≤ 6 ∧ n ≤ 128 ∧ spn to (words 2 0 0 c n) low len = true then ⟨2, to, 0, 0, c, n, true⟩ else PV.no


theorem held {B : Nat} {W w1 w2 : World} (h : Below B W w1) (hb : Below w1.heap.size w1 w2) (hB : B ≤ W.heap.size) : Below B W w2 := h.trans (hb.mono (Nat.le_trans hB h.size))

theorem below3 {w w1 : World} {o1 o2 o3 : Obj} (h : Below (w.heap.size + 3) (((w.alloc o1).alloc o2).alloc o3) w1) : Below w.heap.size w w1 :=
  ((((Below.refl _ _).alloc (Nat.le_refl _) _).alloc (by simp) _).alloc (by simp; omega) _).trans (h.mono (by omega))
theorem spn_true {to n low : Int} {len : Nat} (hl : 0 ≤ low) (h : spn to n low len = true) (hlen : len ≤ 256) (hn : 0 ≤ n) : 0 ≤ to ∧ to ≤ 256 := by
  unfold spn at h
  split at h
  · simp at h; omega
  · simp at h; omega

set_option maxRecDepth 100000 in
set_option maxHeartbeats 1000000 in
theorem plain_any (a : Option Addr) (len cap : Nat) (low to c n : Int) (hlen : len ≤ 256) (hlow : U16 low) (hto : -1000000000 ≤ to ∧ to ≤ 1000000000) (hc : U8 c) (hn : 0 ≤ n ∧ n < 536870912) (w : World) :
    Calls Faig.prog 132 #[.agg #[.slice a len cap, .int .u16 low], .int .i32 to, .int .u8 c, .int .i32 n] w fun e w' => e = .returned (.tuple #[(resPlain len low to c n).ptr, .bool (resPlain len low to c n).ok]) ∧ Below w.heap.size w w' := by
  have hlowU := hlow
  have hcU := hc
  have htoU := hto
  obtain ⟨l0, l1⟩ := hlow; obtain ⟨t0, t1⟩ := hto; obtain ⟨n0, n1⟩ := hn; obtain ⟨c0, c1⟩ := hc
  by_cases h1 : c < 2
  · rw [show resPlain len low to c n = PV.no from by unfold resPlain; rw [if_neg (by omega)]]
    go_enter Faig.func132, Faig.ntmps132
    go_wp2
    exact bodyPost_ret (v := .tuple #[PV.no.ptr, .bool PV.no.ok]) (by simp [results, Faig.results132, go_sem, PV.no, PV.ptr]) rfl ⟨rfl, (by go_light; repeat (first | exact Below.refl _ _ | (refine Below.setCell ?_ (by simp) _) | (refine Below.alloc ?_ (by simp) _)))⟩
  by_cases h2 : 6 < c
  · rw [show resPlain len low to c n = PV.no from by unfold resPlain; rw [if_neg (by omega)]]
    go_enter Faig.func132, Faig.ntmps132
    go_wp2
    exact bodyPost_ret (v := .tuple #[PV.no.ptr, .bool PV.no.ok]) (by simp [results, Faig.results132, go_sem, PV.no, PV.ptr]) rfl ⟨rfl, (by go_light; repeat (first | exact Below.refl _ _ | (refine Below.setCell ?_ (by simp) _) | (refine Below.alloc ?_ (by simp) _)))⟩
  by_cases h3 : 128 < n
  · rw [show resPlain len low to c n = PV.no from by unfold resPlain; rw [if_neg (by omega)]]
    go_enter Faig.func132, Faig.ntmps132
    go_wp2
    exact bodyPost_ret (v := .tuple #[PV.no.ptr, .bool PV.no.ok]) (by simp [results, Faig.results132, go_sem, PV.no, PV.ptr]) rfl ⟨rfl, (by go_light; repeat (first | exact Below.refl _ _ | (refine Below.setCell ?_ (by simp) _) | (refine Below.alloc ?_ (by simp) _)))⟩
  have wb := words_bd 2 0 0 c n ⟨by omega, by omega⟩ ⟨by omega, by omega⟩ ⟨n0, by omega⟩
  obtain ⟨wb0, wb1⟩ := wb
  have hwi : IntKind.i32.wrap (words 2 0 0 c n) = words 2 0 0 c n := wrapI32_in _ (by omega) (by omega)
  have HS : Hid (∀ w', Below (w.heap.size + 3) (((w.alloc (.cells #[.slice a len cap, .int .u16 low] 234)).alloc (.cells #[.int .u8 0, .int .u16 0, .int .u8 0, .int .u8 0, .int .u8 0, .int .u16 0] 88)).alloc (.cells #[.int .u8 2, .int .u16 0, .int .u8 0, .int .u8 0, .int .u8 c, .int .u16 n] 88)) w' → (Below (w.heap.size + 3) (((w.alloc (.cells #[.slice a len cap, .int .u16 low] 234)).alloc (.cells #[.int .u8 0, .int .u16 0, .int .u8 0, .int .u8 0, .int .u8 0, .int .u16 0] 88)).alloc (.cells #[.int .u8 2, .int .u16 0, .int .u8 0, .int .u8 0, .int .u8 c, .int .u16 n] 88)) w' ∧ w'.cell? ⟨w.heap.size, 0, none⟩ = some (.slice a len cap) ∧ w'.cell? ⟨w.heap.size, 1, none⟩ = some (.int .u16 low) ∧ w'.cell? ⟨w.heap.size + 1, 0, none⟩ = some (.int .u8 0) ∧ w'.cell? ⟨w.heap.size + 1, 1, none⟩ = some (.int .u16 0) ∧ w'.cell? ⟨w.heap.size + 1, 2, none⟩ = some (.int .u8 0) ∧ w'.cell? ⟨w.heap.size + 1, 3, none⟩ = some (.int .u8 0) ∧ w'.cell? ⟨w.heap.size + 1, 4, none⟩ = some (.int .u8 0) ∧ w'.cell? ⟨w.heap.size + 1, 5, none⟩ = some (.int .u16 0) ∧ w'.frozen? ⟨w.heap.size + 1, 0, none⟩ = false ∧ w'.frozen? ⟨w.heap.size + 1, 1, none⟩ = false ∧ w'.frozen? ⟨w.heap.size + 1, 2, none⟩ = false ∧ w'.frozen? ⟨w.heap.size + 1, 3, none⟩ = false ∧ w'.frozen? ⟨w.heap.size + 1, 4, none⟩ = false ∧ w'.frozen? ⟨w.heap.size + 1, 5, none⟩ = false ∧ w'.cell? ⟨w.heap.size + 1 + 1, 0, none⟩ = some (.int .u8 2) ∧ w'.cell? ⟨w.heap.size + 1 + 1, 1, none⟩ = some (.int .u16 0) ∧ w'.cell? ⟨w.heap.size + 1 + 1, 2, none⟩ = some (.int .u8 0) ∧ w'.cell? ⟨w.heap.size + 1 + 1, 3, none⟩ = some (.int .u8 0) ∧ w'.cell? ⟨w.heap.size + 1 + 1, 4, none⟩ = some (.int .u8 c) ∧ w'.cell? ⟨w.heap.size + 1 + 1, 5, none⟩ = some (.int .u16 n) ∧ w'.frozen? ⟨w.heap.size + 1 + 1, 1, none⟩ = false)) := by
    intro w' h
    refine ⟨h, ?_, ?_, ?_, ?_, ?_, ?_, ?_, ?_, ?_, ?_, ?_, ?_, ?_, ?_, ?_, ?_, ?_, ?_, ?_, ?_, ?_⟩ <;> (first | (rw [h.cell (by simp)]; simp [go_sem]) | (rw [h.frozen (by simp)]; simp [go_sem]))
  cases hs : spn to (words 2 0 0 c n) low len with
  | false =>
    rw [show resPlain len low to c n = PV.no from by unfold resPlain; rw [if_neg (by simp [hs])]]
    go_enter Faig.func132, Faig.ntmps132
    go_wp2
    go_region_held3 (fun w' => Below (w.heap.size + 3) (((w.alloc (.cells #[.slice a len cap, .int .u16 low] 234)).alloc (.cells #[.int .u8 0, .int .u16 0, .int .u8 0, .int .u8 0, .int .u8 0, .int .u16 0] 88)).alloc (.cells #[.int .u8 2, .int .u16 0, .int .u8 0, .int .u8 0, .int .u8 c, .int .u16 n] 88)) w' ∧ w'.cell? ⟨w.heap.size, 0, none⟩ = some (.slice a len cap) ∧ w'.cell? ⟨w.heap.size, 1, none⟩ = some (.int .u16 low) ∧ w'.cell? ⟨w.heap.size + 1, 0, none⟩ = some (.int .u8 0) ∧ w'.cell? ⟨w.heap.size + 1, 1, none⟩ = some (.int .u16 0) ∧ w'.cell? ⟨w.heap.size + 1, 2, none⟩ = some (.int .u8 0) ∧ w'.cell? ⟨w.heap.size + 1, 3, none⟩ = some (.int .u8 0) ∧ w'.cell? ⟨w.heap.size + 1, 4, none⟩ = some (.int .u8 0) ∧ w'.cell? ⟨w.heap.size + 1, 5, none⟩ = some (.int .u16 0) ∧ w'.frozen? ⟨w.heap.size + 1, 0, none⟩ = false ∧ w'.frozen? ⟨w.heap.size + 1, 1, none⟩ = false ∧ w'.frozen? ⟨w.heap.size + 1, 2, none⟩ = false ∧ w'.frozen? ⟨w.heap.size + 1, 3, none⟩ = false ∧ w'.frozen? ⟨w.heap.size + 1, 4, none⟩ = false ∧ w'.frozen? ⟨w.heap.size + 1, 5, none⟩ = false ∧ w'.cell? ⟨w.heap.size + 1 + 1, 0, none⟩ = some (.int .u8 2) ∧ w'.cell? ⟨w.heap.size + 1 + 1, 1, none⟩ = some (.int .u16 0) ∧ w'.cell? ⟨w.heap.size + 1 + 1, 2, none⟩ = some (.int .u8 0) ∧ w'.cell? ⟨w.heap.size + 1 + 1, 3, none⟩ = some (.int .u8 0) ∧ w'.cell? ⟨w.heap.size + 1 + 1, 4, none⟩ = some (.int .u8 c) ∧ w'.cell? ⟨w.heap.size + 1 + 1, 5, none⟩ = some (.int .u16 n) ∧ w'.frozen? ⟨w.heap.size + 1 + 1, 1, none⟩ = false)
      (first | exact HS.out _ (Below.refl _ _).drew | exact HS.out _ (held (And.left (by assumption)) (by assumption) (by simp)))
      (first
        | (go_at_call 47; refine (words_any 2 0 0 0 c n ⟨by omega, by omega⟩ ⟨by omega, by omega⟩ ⟨by omega, by omega⟩ ⟨by omega, by omega⟩ hcU ⟨n0, by omega⟩ _).mono ?_; rintro e w1 ⟨rfl, hb1⟩)
        | (go_at_call 130; refine (spans_any a len cap low to (words 2 0 0 c n) hlen hlowU htoU ⟨wb0, by omega⟩ _).mono ?_; rintro e w1 ⟨rfl, hb1⟩))
    go_wp2
    rename_i hh
    have h3' := below3 hh.1
    exact bodyPost_ret (v := .tuple #[PV.no.ptr, .bool PV.no.ok]) (by simp [results, Faig.results132, go_sem, PV.no, PV.ptr, hh]) rfl ⟨rfl, by go_light; repeat (first | (refine Below.setCell ?_ (by first | omega | (simp <;> omega)) _) | exact h3')⟩
  | true =>
    rw [show resPlain len low to c n = ⟨2, to, 0, 0, c, n, true⟩ from by unfold resPlain; rw [if_pos ⟨by omega, by omega, by omega, hs⟩]]
    obtain ⟨to0, to1⟩ := spn_true l0 hs hlen (by omega)
    go_enter Faig.func132, Faig.ntmps132
    go_wp2
    go_region_held3 (fun w' => Below (w.heap.size + 3) (((w.alloc (.cells #[.slice a len cap, .int .u16 low] 234)).alloc (.cells #[.int .u8 0, .int .u16 0, .int .u8 0, .int .u8 0, .int .u8 0, .int .u16 0] 88)).alloc (.cells #[.int .u8 2, .int .u16 0, .int .u8 0, .int .u8 0, .int .u8 c, .int .u16 n] 88)) w' ∧ w'.cell? ⟨w.heap.size, 0, none⟩ = some (.slice a len cap) ∧ w'.cell? ⟨w.heap.size, 1, none⟩ = some (.int .u16 low) ∧ w'.cell? ⟨w.heap.size + 1, 0, none⟩ = some (.int .u8 0) ∧ w'.cell? ⟨w.heap.size + 1, 1, none⟩ = some (.int .u16 0) ∧ w'.cell? ⟨w.heap.size + 1, 2, none⟩ = some (.int .u8 0) ∧ w'.cell? ⟨w.heap.size + 1, 3, none⟩ = some (.int .u8 0) ∧ w'.cell? ⟨w.heap.size + 1, 4, none⟩ = some (.int .u8 0) ∧ w'.cell? ⟨w.heap.size + 1, 5, none⟩ = some (.int .u16 0) ∧ w'.frozen? ⟨w.heap.size + 1, 0, none⟩ = false ∧ w'.frozen? ⟨w.heap.size + 1, 1, none⟩ = false ∧ w'.frozen? ⟨w.heap.size + 1, 2, none⟩ = false ∧ w'.frozen? ⟨w.heap.size + 1, 3, none⟩ = false ∧ w'.frozen? ⟨w.heap.size + 1, 4, none⟩ = false ∧ w'.frozen? ⟨w.heap.size + 1, 5, none⟩ = false ∧ w'.cell? ⟨w.heap.size + 1 + 1, 0, none⟩ = some (.int .u8 2) ∧ w'.cell? ⟨w.heap.size + 1 + 1, 1, none⟩ = some (.int .u16 0) ∧ w'.cell? ⟨w.heap.size + 1 + 1, 2, none⟩ = some (.int .u8 0) ∧ w'.cell? ⟨w.heap.size + 1 + 1, 3, none⟩ = some (.int .u8 0) ∧ w'.cell? ⟨w.heap.size + 1 + 1, 4, none⟩ = some (.int .u8 c) ∧ w'.cell? ⟨w.heap.size + 1 + 1, 5, none⟩ = some (.int .u16 n) ∧ w'.frozen? ⟨w.heap.size + 1 + 1, 1, none⟩ = false)
      (first | exact HS.out _ (Below.refl _ _).drew | exact HS.out _ (held (And.left (by assumption)) (by assumption) (by simp)))
      (first
        | (go_at_call 47; refine (words_any 2 0 0 0 c n ⟨by omega, by omega⟩ ⟨by omega, by omega⟩ ⟨by omega, by omega⟩ ⟨by omega, by omega⟩ hcU ⟨n0, by omega⟩ _).mono ?_; rintro e w1 ⟨rfl, hb1⟩)
        | (go_at_call 130; refine (spans_any a len cap low to (words 2 0 0 c n) hlen hlowU htoU ⟨wb0, by omega⟩ _).mono ?_; rintro e w1 ⟨rfl, hb1⟩))
    go_wp2
    rename_i hh
    have h3' := below3 hh.1
    exact bodyPost_ret (v := .tuple #[PV.ptr ⟨2, to, 0, 0, c, n, true⟩, .bool true]) (by simp [results, Faig.results132, go_sem, PV.ptr, hh]) rfl ⟨rfl, by go_light; repeat (first | (refine Below.setCell ?_ (by first | omega | (simp <;> omega)) _) | exact h3')⟩
end Go.Proofs.Ygcfai

/-
  THE WALKS of wire.ResolveWord and wire.Resolve.
-/
import Derived.Test.YgcfaiResolveB
namespace Go.Proofs.Ygcfai
open Go.RowKit Plain
set_option linter.unusedSimpArgs false

def wcode (x : Int) : Int := x / 4294967296 % 8
def wcnt (x : Int) : Int := x / 34359738368
/-- wire.ResolveWord. -/
def resW (l : List Int) (x base low : Int) : PV :=
  if 256 < l.length then PV.no
  else if x = 0 then PV.null
  else if x % 4 = 0 then (if secOk x = true ∧ spn (base + sgn30 (x / 4)) (secD x + secP x) low l.length = true then ⟨1, base + sgn30 (x / 4), secD x, secP x, 0, 0, true⟩ else PV.no)
  else if x % 4 = 1 then (if wcode x = 7 then resStructs l low (base + sgn30 (x / 4)) (wcnt x) else resPlain l.length low (base + sgn30 (x / 4)) (wcode x) (wcnt x))
  else PV.no
/-- wire.Resolve. -/
def resAt (l : List Int) (t : Int) : PV :=
  if 256 < l.length ∨ (l.length : Int) ≤ t then PV.no else resW l (l.getD t.toNat 0) (t + 1) 1

theorem take_code (x : Int) (hx : U64 x) (w : World) :
    Calls Faig.prog 68 #[.int .u64 x, .int .u8 32, .int .u8 3] w fun e w' => e = .returned (.int .u64 (wcode x)) ∧ w' = w := take_32_3 x hx w
theorem take_cnt (x : Int) (hx : U64 x) (w : World) :
    Calls Faig.prog 68 #[.int .u64 x, .int .u8 35, .int .u8 29] w fun e w' => e = .returned (.int .u64 (wcnt x)) ∧ w' = w := take_35_29 x hx w
theorem wcode_bd (x : Int) : 0 ≤ wcode x ∧ wcode x ≤ 7 := by unfold wcode; omega
theorem wcnt_bd (x : Int) (hx : U64 x) : 0 ≤ wcnt x ∧ wcnt x < 536870912 := by obtain ⟨a, b⟩ := hx; unfold wcnt; omega
theorem below1 {w w1 : World} {o1 : Obj} (h : Below (w.heap.size + 1) (w.alloc o1) w1) : Below w.heap.size w w1 :=
  ((Below.refl _ _).alloc (Nat.le_refl _) _).trans (h.mono (by omega))

set_option maxRecDepth 100000 in
set_option maxHeartbeats 2000000 in
theorem word_any (a : Option Addr) (len cap : Nat) (l : List Int) (x base low : Int) (hx : U64 x) (hbase : U16 base) (hlow : U16 low) (w : World) (hr : Row w a len l) :
    Calls Faig.prog 85 #[.slice a len cap, .int .u64 x, .int .u16 base, .int .u16 low] w fun e w' => e = .returned (.tuple #[(resW l x base low).ptr, .bool (resW l x base low).ok]) ∧ Below w.heap.size w w' := by
  have hm := hr.2.2.1
  unfold maxLen at hm
  have hL := hr.1
  have HL : Hid (l.length = len) := hL
  have hlowU := hlow
  have hbaseU := hbase
  obtain ⟨x0, x1⟩ := hx
  have hx : U64 x := ⟨x0, x1⟩
  obtain ⟨l0, l1⟩ := hlow; obtain ⟨b0, b1⟩ := hbase
  by_cases h256 : 256 < len
  · rw [show resW l x base low = PV.no from by unfold resW; rw [hL, if_pos h256]]
    clear hL
    go_enter Faig.func85, Faig.ntmps85
    go_wp2
    exact bodyPost_ret (v := .tuple #[PV.no.ptr, .bool (PV.no.ok)]) (by simp [results, Faig.results85, go_sem, PV.no, PV.null, PV.ptr]) rfl ⟨rfl, by go_light; repeat (first | exact Below.refl _ _ | (refine Below.setCell ?_ (by simp) _) | (refine Below.alloc ?_ (by simp) _))⟩
  have h256' : len ≤ 256 := by omega
  by_cases hx0 : x = 0
  · subst hx0
    rw [show resW l 0 base low = PV.null from by unfold resW; rw [hL, if_neg h256, if_pos rfl]]
    clear hL
    go_enter Faig.func85, Faig.ntmps85
    go_wp2
    exact bodyPost_ret (v := .tuple #[PV.null.ptr, .bool (PV.null.ok)]) (by simp [results, Faig.results85, go_sem, PV.no, PV.null, PV.ptr]) rfl ⟨rfl, by go_light; repeat (first | exact Below.refl _ _ | (refine Below.setCell ?_ (by simp) _) | (refine Below.alloc ?_ (by simp) _))⟩
  have bx0 : (x == 0) = false := by simp [hx0]
  have hx4 : U64 (x / 4) := ⟨by omega, by omega⟩
  have hsg := sgn30_bd (x / 4)
  obtain ⟨s0, s1⟩ := hsg
  have hres : resW l x base low = (if x % 4 = 0 then (if secOk x = true ∧ spn (base + sgn30 (x / 4)) (secD x + secP x) low l.length = true then ⟨1, base + sgn30 (x / 4), secD x, secP x, 0, 0, true⟩ else PV.no)
      else if x % 4 = 1 then (if wcode x = 7 then resStructs l low (base + sgn30 (x / 4)) (wcnt x) else resPlain l.length low (base + sgn30 (x / 4)) (wcode x) (wcnt x)) else PV.no) := by
    unfold resW; rw [if_neg (by omega), if_neg hx0]
  rw [hres]
  clear hres hx0 h256
  obtain ⟨d0, d1⟩ := secD_bd x
  obtain ⟨p0, p1⟩ := secP_bd x hx
  by_cases h0 : x % 4 = 0
  · have bz : (x % 4 == 0) = true := by simp [h0]
    rw [if_pos h0]
    clear h0
    cases hsec : secOk x with
    | false =>
      rw [if_neg (by simp)]
      clear hL
      go_enter Faig.func85, Faig.ntmps85
      go_wp2_with fail
      refine (sign_30 (x / 4) hx4 _).mono ?_
      rintro e w' ⟨rfl, rfl⟩
      go_wp2_with fail
      refine (take_0_2 x hx _).mono ?_
      rintro e w' ⟨rfl, rfl⟩
      go_wp2_with fail
      refine (sections_no x hx hsec _).mono ?_
      rintro e w' ⟨rfl, rfl⟩
      go_wp2_with fail
      exact bodyPost_ret (v := .tuple #[PV.no.ptr, .bool (PV.no.ok)]) (by simp [results, Faig.results85, go_sem, PV.no, PV.null, PV.ptr]) rfl ⟨rfl, by go_light; repeat (first | exact Below.refl _ _ | (refine Below.setCell ?_ (by simp) _) | (refine Below.alloc ?_ (by simp) _))⟩
    | true =>
      obtain ⟨d8, p8⟩ := secOk_bd hsec
      cases hs : spn (base + sgn30 (x / 4)) (secD x + secP x) low l.length with
      | false =>
        rw [if_neg (by simp)]
        rw [hL] at hs
        clear hL
        go_enter Faig.func85, Faig.ntmps85
        go_wp2_with fail
        refine (sign_30 (x / 4) hx4 _).mono ?_
        rintro e w' ⟨rfl, rfl⟩
        go_wp2_with fail
        refine (take_0_2 x hx _).mono ?_
        rintro e w' ⟨rfl, rfl⟩
        go_wp2_with fail
        refine (sections_yes x hx hsec _).mono ?_
        rintro e w' ⟨rfl, rfl⟩
        go_wp2_with fail
        refine (spans_any a len cap low (base + sgn30 (x / 4)) (secD x + secP x) h256' hlowU ⟨by omega, by omega⟩ ⟨by omega, by omega⟩ _).mono ?_
        rintro e w1 ⟨rfl, hb1⟩
        have hh : w1.cell? ⟨w.heap.size, 0, none⟩ = some (.int .u8 0) ∧ w1.cell? ⟨w.heap.size, 1, none⟩ = some (.int .u16 0) ∧ w1.cell? ⟨w.heap.size, 2, none⟩ = some (.int .u8 0) ∧ w1.cell? ⟨w.heap.size, 3, none⟩ = some (.int .u8 0) ∧ w1.cell? ⟨w.heap.size, 4, none⟩ = some (.int .u8 0) ∧ w1.cell? ⟨w.heap.size, 5, none⟩ = some (.int .u16 0) ∧ w1.frozen? ⟨w.heap.size, 0, none⟩ = false ∧ w1.frozen? ⟨w.heap.size, 1, none⟩ = false ∧ w1.frozen? ⟨w.heap.size, 2, none⟩ = false ∧ w1.frozen? ⟨w.heap.size, 3, none⟩ = false ∧ w1.frozen? ⟨w.heap.size, 4, none⟩ = false ∧ w1.frozen? ⟨w.heap.size, 5, none⟩ = false := by
          refine ⟨?_, ?_, ?_, ?_, ?_, ?_, ?_, ?_, ?_, ?_, ?_, ?_⟩ <;> (first | (rw [hb1.cell (by simp <;> omega)]; simp [go_sem]) | (rw [hb1.frozen (by simp <;> omega)]; simp [go_sem]))
        have hb : Below w.heap.size w w1 := below2 (hb1.mono (by simp <;> omega))
        clear hb1
        go_wp2_with fail
        exact bodyPost_ret (v := .tuple #[PV.no.ptr, .bool (PV.no.ok)]) (by simp [results, Faig.results85, go_sem, PV.no, PV.null, PV.ptr, hh]) rfl ⟨rfl, by go_light; repeat (first | (refine Below.setCell ?_ (by first | omega | (simp <;> omega)) _) | exact hb)⟩
      | true =>
        rw [if_pos ⟨rfl, rfl⟩]
        rw [hL] at hs
        clear hL
        obtain ⟨to0, to1⟩ := spn_true l0 hs h256' (by omega)
        go_enter Faig.func85, Faig.ntmps85
        go_wp2_with fail
        refine (sign_30 (x / 4) hx4 _).mono ?_
        rintro e w' ⟨rfl, rfl⟩
        go_wp2_with fail
        refine (take_0_2 x hx _).mono ?_
        rintro e w' ⟨rfl, rfl⟩
        go_wp2_with fail
        refine (sections_yes x hx hsec _).mono ?_
        rintro e w' ⟨rfl, rfl⟩
        go_wp2_with fail
        refine (spans_any a len cap low (base + sgn30 (x / 4)) (secD x + secP x) h256' hlowU ⟨by omega, by omega⟩ ⟨by omega, by omega⟩ _).mono ?_
        rintro e w1 ⟨rfl, hb1⟩
        have hh : w1.cell? ⟨w.heap.size, 0, none⟩ = some (.int .u8 0) ∧ w1.cell? ⟨w.heap.size, 1, none⟩ = some (.int .u16 0) ∧ w1.cell? ⟨w.heap.size, 2, none⟩ = some (.int .u8 0) ∧ w1.cell? ⟨w.heap.size, 3, none⟩ = some (.int .u8 0) ∧ w1.cell? ⟨w.heap.size, 4, none⟩ = some (.int .u8 0) ∧ w1.cell? ⟨w.heap.size, 5, none⟩ = some (.int .u16 0) ∧ w1.frozen? ⟨w.heap.size, 0, none⟩ = false ∧ w1.frozen? ⟨w.heap.size, 1, none⟩ = false ∧ w1.frozen? ⟨w.heap.size, 2, none⟩ = false ∧ w1.frozen? ⟨w.heap.size, 3, none⟩ = false ∧ w1.frozen? ⟨w.heap.size, 4, none⟩ = false ∧ w1.frozen? ⟨w.heap.size, 5, none⟩ = false := by
          refine ⟨?_, ?_, ?_, ?_, ?_, ?_, ?_, ?_, ?_, ?_, ?_, ?_⟩ <;> (first | (rw [hb1.cell (by simp <;> omega)]; simp [go_sem]) | (rw [hb1.frozen (by simp <;> omega)]; simp [go_sem]))
        have hb : Below w.heap.size w w1 := below2 (hb1.mono (by simp <;> omega))
        clear hb1
        go_wp2_with fail
        exact bodyPost_ret (v := .tuple #[PV.ptr ⟨1, base + sgn30 (x / 4), secD x, secP x, 0, 0, true⟩, .bool true]) (by simp [results, Faig.results85, go_sem, PV.no, PV.null, PV.ptr, hh]) rfl ⟨rfl, by go_light; repeat (first | (refine Below.setCell ?_ (by first | omega | (simp <;> omega)) _) | exact hb)⟩
  rw [if_neg h0]
  have bz : (x % 4 == 0) = false := by simp [h0]
  by_cases h1 : x % 4 = 1
  · rw [if_pos h1]
    have bo : (x % 4 == 1) = true := by simp [h1]
    clear h0 h1
    obtain ⟨cd0, cd1⟩ := wcode_bd x
    obtain ⟨cn0, cn1⟩ := wcnt_bd x hx
    by_cases h7 : wcode x = 7
    · rw [if_pos h7]
      have b7 : (wcode x == 7) = true := by simp [h7]
      clear h7 hL
      go_enter Faig.func85, Faig.ntmps85
      go_wp2_with fail
      refine (sign_30 (x / 4) hx4 _).mono ?_
      rintro e w' ⟨rfl, rfl⟩
      go_wp2_with fail
      refine (take_0_2 x hx _).mono ?_
      rintro e w' ⟨rfl, rfl⟩
      go_wp2_with fail
      refine (take_code x hx _).mono ?_
      rintro e w' ⟨rfl, rfl⟩
      go_wp2_with fail
      refine (take_cnt x hx _).mono ?_
      rintro e w' ⟨rfl, rfl⟩
      go_wp2_with fail
      refine (structs_any a len cap l low (base + sgn30 (x / 4)) (wcnt x) h256' hlowU ⟨by omega, by omega⟩ ⟨by omega, by omega⟩ _ ((hr.alloc _).alloc _)).mono ?_
      rintro e w1 ⟨rfl, hb1⟩
      unfold PV.ptr
      have hh : w1.cell? ⟨w.heap.size, 0, none⟩ = some (.int .u8 0) ∧ w1.cell? ⟨w.heap.size, 1, none⟩ = some (.int .u16 0) ∧ w1.cell? ⟨w.heap.size, 2, none⟩ = some (.int .u8 0) ∧ w1.cell? ⟨w.heap.size, 3, none⟩ = some (.int .u8 0) ∧ w1.cell? ⟨w.heap.size, 4, none⟩ = some (.int .u8 0) ∧ w1.cell? ⟨w.heap.size, 5, none⟩ = some (.int .u16 0) ∧ w1.frozen? ⟨w.heap.size, 0, none⟩ = false ∧ w1.frozen? ⟨w.heap.size, 1, none⟩ = false ∧ w1.frozen? ⟨w.heap.size, 2, none⟩ = false ∧ w1.frozen? ⟨w.heap.size, 3, none⟩ = false ∧ w1.frozen? ⟨w.heap.size, 4, none⟩ = false ∧ w1.frozen? ⟨w.heap.size, 5, none⟩ = false := by
        refine ⟨?_, ?_, ?_, ?_, ?_, ?_, ?_, ?_, ?_, ?_, ?_, ?_⟩ <;> (first | (rw [hb1.cell (by simp <;> omega)]; simp [go_sem]) | (rw [hb1.frozen (by simp <;> omega)]; simp [go_sem]))
      have hb : Below w.heap.size w w1 := below2 (hb1.mono (by simp <;> omega))
      clear hb1
      go_wp2_with fail
      exact bodyPost_ret (v := .tuple #[(resStructs l low (base + sgn30 (x / 4)) (wcnt x)).ptr, .bool ((resStructs l low (base + sgn30 (x / 4)) (wcnt x)).ok)]) (by simp [results, Faig.results85, go_sem, PV.no, PV.null, PV.ptr, hh]) rfl ⟨rfl, by go_light; repeat (first | (refine Below.setCell ?_ (by first | omega | (simp <;> omega)) _) | exact hb)⟩
    · rw [if_neg h7]
      have b7 : (wcode x == 7) = false := by simp [h7]
      rw [hL]
      clear h7 hL
      go_enter Faig.func85, Faig.ntmps85
      go_wp2_with fail
      refine (sign_30 (x / 4) hx4 _).mono ?_
      rintro e w' ⟨rfl, rfl⟩
      go_wp2_with fail
      refine (take_0_2 x hx _).mono ?_
      rintro e w' ⟨rfl, rfl⟩
      go_wp2_with fail
      refine (take_code x hx _).mono ?_
      rintro e w' ⟨rfl, rfl⟩
      go_wp2_with fail
      refine (take_cnt x hx _).mono ?_
      rintro e w' ⟨rfl, rfl⟩
      go_wp2_with fail
      refine (plain_any a len cap low (base + sgn30 (x / 4)) (wcode x) (wcnt x) h256' hlowU ⟨by omega, by omega⟩ ⟨by omega, by omega⟩ ⟨by omega, by omega⟩ _).mono ?_
      rintro e w1 ⟨rfl, hb1⟩
      unfold PV.ptr
      have hh : w1.cell? ⟨w.heap.size, 0, none⟩ = some (.int .u8 0) ∧ w1.cell? ⟨w.heap.size, 1, none⟩ = some (.int .u16 0) ∧ w1.cell? ⟨w.heap.size, 2, none⟩ = some (.int .u8 0) ∧ w1.cell? ⟨w.heap.size, 3, none⟩ = some (.int .u8 0) ∧ w1.cell? ⟨w.heap.size, 4, none⟩ = some (.int .u8 0) ∧ w1.cell? ⟨w.heap.size, 5, none⟩ = some (.int .u16 0) ∧ w1.frozen? ⟨w.heap.size, 0, none⟩ = false ∧ w1.frozen? ⟨w.heap.size, 1, none⟩ = false ∧ w1.frozen? ⟨w.heap.size, 2, none⟩ = false ∧ w1.frozen? ⟨w.heap.size, 3, none⟩ = false ∧ w1.frozen? ⟨w.heap.size, 4, none⟩ = false ∧ w1.frozen? ⟨w.heap.size, 5, none⟩ = false := by
        refine ⟨?_, ?_, ?_, ?_, ?_, ?_, ?_, ?_, ?_, ?_, ?_, ?_⟩ <;> (first | (rw [hb1.cell (by simp <;> omega)]; simp [go_sem]) | (rw [hb1.frozen (by simp <;> omega)]; simp [go_sem]))
      have hb : Below w.heap.size w w1 := below2 (hb1.mono (by simp <;> omega))
      clear hb1
      go_wp2_with fail
      exact bodyPost_ret (v := .tuple #[(resPlain len low (base + sgn30 (x / 4)) (wcode x) (wcnt x)).ptr, .bool ((resPlain len low (base + sgn30 (x / 4)) (wcode x) (wcnt x)).ok)]) (by simp [results, Faig.results85, go_sem, PV.no, PV.null, PV.ptr, hh]) rfl ⟨rfl, by go_light; repeat (first | (refine Below.setCell ?_ (by first | omega | (simp <;> omega)) _) | exact hb)⟩
  · rw [if_neg h1]
    have bo : (x % 4 == 1) = false := by simp [h1]
    clear h0 h1 hL
    go_enter Faig.func85, Faig.ntmps85
    go_wp2_with fail
    refine (sign_30 (x / 4) hx4 _).mono ?_
    rintro e w' ⟨rfl, rfl⟩
    go_wp2_with fail
    refine (take_0_2 x hx _).mono ?_
    rintro e w' ⟨rfl, rfl⟩
    go_wp2_with fail
    exact bodyPost_ret (v := .tuple #[PV.no.ptr, .bool (PV.no.ok)]) (by simp [results, Faig.results85, go_sem, PV.no, PV.null, PV.ptr]) rfl ⟨rfl, by go_light; repeat (first | exact Below.refl _ _ | (refine Below.setCell ?_ (by simp) _) | (refine Below.alloc ?_ (by simp) _))⟩

set_option maxRecDepth 100000 in
set_option maxHeartbeats 2000000 in
theorem resolve_any (a : Option Addr) (len cap : Nat) (l : List Int) (t : Int) (ht : U16 t) (w : World) (hr : Row w a len l) :
    Calls Faig.prog 44 #[.slice a len cap, .int .u16 t] w fun e w' => e = .returned (.tuple #[(resAt l t).ptr, .bool (resAt l t).ok]) ∧ Below w.heap.size w w' := by
  have hm := hr.2.2.1
  unfold maxLen at hm
  have hL := hr.1
  obtain ⟨t0, t1⟩ := ht
  by_cases h256 : 256 < len
  · rw [show resAt l t = PV.no from by unfold resAt; rw [hL, if_pos (Or.inl h256)]]
    clear hL
    go_enter Faig.func44, Faig.ntmps44
    go_wp2
    exact bodyPost_ret (v := .tuple #[PV.no.ptr, .bool (PV.no.ok)]) (by simp [results, Faig.results44, go_sem, PV.no, PV.null, PV.ptr]) rfl ⟨rfl, by go_light; repeat (first | exact Below.refl _ _ | (refine Below.setCell ?_ (by simp) _) | (refine Below.alloc ?_ (by simp) _))⟩
  by_cases hlt : t < len
  · rw [show resAt l t = resW l (l.getD t.toNat 0) (t + 1) 1 from by unfold resAt; rw [hL, if_neg (by omega)]]
    clear hL
    obtain ⟨bb, off, rfl, hblt, hcell, hxU⟩ := hr.at t.toNat (by omega)
    revert hcell hxU
    generalize l.getD t.toNat 0 = x
    intro hcell hxU
    go_enter Faig.func44, Faig.ntmps44
    go_wp2_with fail
    refine (word_any (some ⟨bb, off, none⟩) len cap l x (t + 1) 1 hxU ⟨by omega, by omega⟩ ⟨by omega, by omega⟩ _ (hr.alloc _)).mono ?_
    rintro e w1 ⟨rfl, hb1⟩
    unfold PV.ptr
    have hh : w1.cell? ⟨w.heap.size, 0, none⟩ = some (.int .u8 0) ∧ w1.cell? ⟨w.heap.size, 1, none⟩ = some (.int .u16 0) ∧ w1.cell? ⟨w.heap.size, 2, none⟩ = some (.int .u8 0) ∧ w1.cell? ⟨w.heap.size, 3, none⟩ = some (.int .u8 0) ∧ w1.cell? ⟨w.heap.size, 4, none⟩ = some (.int .u8 0) ∧ w1.cell? ⟨w.heap.size, 5, none⟩ = some (.int .u16 0) ∧ w1.frozen? ⟨w.heap.size, 0, none⟩ = false ∧ w1.frozen? ⟨w.heap.size, 1, none⟩ = false ∧ w1.frozen? ⟨w.heap.size, 2, none⟩ = false ∧ w1.frozen? ⟨w.heap.size, 3, none⟩ = false ∧ w1.frozen? ⟨w.heap.size, 4, none⟩ = false ∧ w1.frozen? ⟨w.heap.size, 5, none⟩ = false := by
      refine ⟨?_, ?_, ?_, ?_, ?_, ?_, ?_, ?_, ?_, ?_, ?_, ?_⟩ <;> (first | (rw [hb1.cell (by simp <;> omega)]; simp [go_sem]) | (rw [hb1.frozen (by simp <;> omega)]; simp [go_sem]))
    have hb : Below w.heap.size w w1 := below1 (hb1.mono (by simp <;> omega))
    clear hb1
    go_wp2_with fail
    exact bodyPost_ret (v := .tuple #[(resW l x (t + 1) 1).ptr, .bool ((resW l x (t + 1) 1).ok)]) (by simp [results, Faig.results44, go_sem, PV.no, PV.null, PV.ptr, hh]) rfl ⟨rfl, by go_light; repeat (first | (refine Below.setCell ?_ (by first | omega | (simp <;> omega)) _) | exact hb)⟩
  · rw [show resAt l t = PV.no from by unfold resAt; rw [hL, if_pos (Or.inr (by omega))]]
    clear hL
    go_enter Faig.func44, Faig.ntmps44
    go_wp2
    exact bodyPost_ret (v := .tuple #[PV.no.ptr, .bool (PV.no.ok)]) (by simp [results, Faig.results44, go_sem, PV.no, PV.null, PV.ptr]) rfl ⟨rfl, by go_light; repeat (first | exact Below.refl _ _ | (refine Below.setCell ?_ (by simp) _) | (refine Below.alloc ?_ (by simp) _))⟩
end Go.Proofs.Ygcfai

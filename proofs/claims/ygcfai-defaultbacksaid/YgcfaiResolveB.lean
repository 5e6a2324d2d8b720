/-
  THE WALK of room.structs: a list of structs behind its tag.
-/
import Derived.Test.YgcfaiResolveA
namespace Go.Proofs.Ygcfai
open Go.RowKit Plain

/-- The count that a tag names. -/
def tagN (x : Int) : Int := x / 4 % 1073741824
/-- room.structs. -/
def resStructs (l : List Int) (low to n : Int) : PV :=
  if spn to (n + 1) low l.length = true ∧ secOk (l.getD to.toNat 0) = true ∧ (l.getD to.toNat 0) % 4 = 0 ∧ tagN (l.getD to.toNat 0) ≤ 128 ∧ ¬ (secD (l.getD to.toNat 0) + secP (l.getD to.toNat 0) = 0 ∧ tagN (l.getD to.toNat 0) ≠ 0) ∧ tagN (l.getD to.toNat 0) * (secD (l.getD to.toNat 0) + secP (l.getD to.toNat 0)) = n
  then ⟨2, to + 1, secD (l.getD to.toNat 0), secP (l.getD to.toNat 0), 7, tagN (l.getD to.toNat 0), true⟩ else PV.no

theorem below2 {w w1 : World} {o1 o2 : Obj} (h : Below (w.heap.size + 2) ((w.alloc o1).alloc o2) w1) : Below w.heap.size w w1 :=
  (((Below.refl _ _).alloc (Nat.le_refl _) _).alloc (by simp) _).trans (h.mono (by omega))
theorem secD_bd (x : Int) : 0 ≤ secD x ∧ secD x < 65536 := by unfold secD; omega
theorem secP_bd (x : Int) (hx : U64 x) : 0 ≤ secP x ∧ secP x < 65536 := by obtain ⟨a, b⟩ := hx; unfold secP; omega
theorem secOk_bd {x : Int} (h : secOk x = true) : secD x ≤ 8 ∧ secP x ≤ 8 := by simpa [secOk] using h
theorem take_tag (x : Int) (hx : U64 x) (w : World) :
    Calls Faig.prog 68 #[.int .u64 x, .int .u8 2, .int .u8 30] w fun e w' => e = .returned (.int .u64 (tagN x)) ∧ w' = w := take_2_30 x hx w
theorem tagN_bd (x : Int) : 0 ≤ tagN x ∧ tagN x < 1073741824 := by unfold tagN; omega

set_option maxRecDepth 100000 in
set_option maxHeartbeats 1000000 in
theorem structs_out (a : Option Addr) (len cap : Nat) (l : List Int) (low to n : Int) (hlen : len ≤ 256) (hlow : U16 low) (hto : -1000000000 ≤ to ∧ to ≤ 1000000000) (hn : 0 ≤ n ∧ n < 536870912) (w : World) (hL : l.length = len) (hs : spn to (n + 1) low len = false) :
    Calls Faig.prog 131 #[.agg #[.slice a len cap, .int .u16 low], .int .i32 to, .int .i32 n] w fun e w' => e = .returned (.tuple #[(resStructs l low to n).ptr, .bool (resStructs l low to n).ok]) ∧ Below w.heap.size w w' := by
  have hlowU := hlow
  have htoU := hto
  obtain ⟨l0, l1⟩ := hlow; obtain ⟨t0, t1⟩ := hto; obtain ⟨n0, n1⟩ := hn
  rw [show resStructs l low to n = PV.no from by unfold resStructs; rw [hL, if_neg (by simp [hs])]]
  go_enter Faig.func131, Faig.ntmps131
  go_wp2_with fail
  refine (spans_any a len cap low to (n + 1) hlen hlowU htoU ⟨by omega, by omega⟩ _).mono ?_
  rintro e w1 ⟨rfl, hb1⟩
  have hh : w1.cell? ⟨w.heap.size, 0, none⟩ = some (.slice a len cap) ∧ w1.cell? ⟨w.heap.size, 1, none⟩ = some (.int .u16 low) ∧ w1.cell? ⟨w.heap.size + 1, 0, none⟩ = some (.int .u8 0) ∧ w1.cell? ⟨w.heap.size + 1, 1, none⟩ = some (.int .u16 0) ∧ w1.cell? ⟨w.heap.size + 1, 2, none⟩ = some (.int .u8 0) ∧ w1.cell? ⟨w.heap.size + 1, 3, none⟩ = some (.int .u8 0) ∧ w1.cell? ⟨w.heap.size + 1, 4, none⟩ = some (.int .u8 0) ∧ w1.cell? ⟨w.heap.size + 1, 5, none⟩ = some (.int .u16 0) ∧ w1.frozen? ⟨w.heap.size + 1, 0, none⟩ = false ∧ w1.frozen? ⟨w.heap.size + 1, 1, none⟩ = false ∧ w1.frozen? ⟨w.heap.size + 1, 2, none⟩ = false ∧ w1.frozen? ⟨w.heap.size + 1, 3, none⟩ = false ∧ w1.frozen? ⟨w.heap.size + 1, 4, none⟩ = false ∧ w1.frozen? ⟨w.heap.size + 1, 5, none⟩ = false := by
    refine ⟨?_, ?_, ?_, ?_, ?_, ?_, ?_, ?_, ?_, ?_, ?_, ?_, ?_, ?_⟩ <;> (first | (rw [hb1.cell (by simp <;> omega)]; simp [go_sem]) | (rw [hb1.frozen (by simp <;> omega)]; simp [go_sem]))
  have hb : Below w.heap.size w w1 := below2 (hb1.mono (by simp <;> omega))
  clear hb1
  go_wp2
  exact bodyPost_ret (v := .tuple #[PV.no.ptr, .bool PV.no.ok]) (by simp [results, Faig.results131, go_sem, PV.no, PV.ptr, hh]) rfl ⟨rfl, by go_light; repeat (first | (refine Below.setCell ?_ (by first | omega | (simp <;> omega)) _) | exact hb)⟩

set_option maxRecDepth 100000 in
set_option maxHeartbeats 2000000 in
theorem structs_in (bb off : Nat) (len cap : Nat) (x low to n : Int) (hlen : len ≤ 256) (hlow : U16 low) (hto : 0 ≤ to ∧ to < len) (hn : 0 ≤ n ∧ n < 536870912) (w : World) (hs : spn to (n + 1) low len = true) (hx : U64 x) (hlt : bb < w.heap.size)
    (hcell0 : w.cell? ⟨bb, off + to.toNat, none⟩ = some (.int .u64 x)) :
    Calls Faig.prog 131 #[.agg #[.slice (some ⟨bb, off, none⟩) len cap, .int .u16 low], .int .i32 to, .int .i32 n] w fun e w' =>
      (e = .returned (.tuple #[PV.no.ptr, .bool false]) ∧ ¬ (secOk x = true ∧ x % 4 = 0 ∧ tagN x ≤ 128 ∧ ¬ (secD x + secP x = 0 ∧ tagN x ≠ 0) ∧ tagN x * (secD x + secP x) = n) ∨
       e = .returned (.tuple #[PV.ptr ⟨2, to + 1, secD x, secP x, 7, tagN x, true⟩, .bool true]) ∧ (secOk x = true ∧ x % 4 = 0 ∧ tagN x ≤ 128 ∧ ¬ (secD x + secP x = 0 ∧ tagN x ≠ 0) ∧ tagN x * (secD x + secP x) = n)) ∧ Below w.heap.size w w' := by
  have hlowU := hlow
  have htoU : -1000000000 ≤ to ∧ to ≤ 1000000000 := by omega
  obtain ⟨l0, l1⟩ := hlow; obtain ⟨t0, t1⟩ := hto; obtain ⟨n0, n1⟩ := hn
  obtain ⟨d0, d1⟩ := secD_bd x
  obtain ⟨p0, p1⟩ := secP_bd x hx
  obtain ⟨c0, c1⟩ := tagN_bd x
  generalize ha : (some ⟨bb, off, none⟩ : Option Addr) = a
  have HA : Hid _ := ha
  clear ha
  cases hsec : secOk x with
  | false =>
    go_enter Faig.func131, Faig.ntmps131
    go_wp2_with fail
    refine (spans_any a len cap low to (n + 1) hlen hlowU htoU ⟨by omega, by omega⟩ _).mono ?_
    rintro e w1 ⟨rfl, hb1⟩
    have hh : w1.cell? ⟨w.heap.size, 0, none⟩ = some (.slice a len cap) ∧ w1.cell? ⟨w.heap.size, 1, none⟩ = some (.int .u16 low) ∧ w1.cell? ⟨w.heap.size + 1, 0, none⟩ = some (.int .u8 0) ∧ w1.cell? ⟨w.heap.size + 1, 1, none⟩ = some (.int .u16 0) ∧ w1.cell? ⟨w.heap.size + 1, 2, none⟩ = some (.int .u8 0) ∧ w1.cell? ⟨w.heap.size + 1, 3, none⟩ = some (.int .u8 0) ∧ w1.cell? ⟨w.heap.size + 1, 4, none⟩ = some (.int .u8 0) ∧ w1.cell? ⟨w.heap.size + 1, 5, none⟩ = some (.int .u16 0) ∧ w1.frozen? ⟨w.heap.size + 1, 0, none⟩ = false ∧ w1.frozen? ⟨w.heap.size + 1, 1, none⟩ = false ∧ w1.frozen? ⟨w.heap.size + 1, 2, none⟩ = false ∧ w1.frozen? ⟨w.heap.size + 1, 3, none⟩ = false ∧ w1.frozen? ⟨w.heap.size + 1, 4, none⟩ = false ∧ w1.frozen? ⟨w.heap.size + 1, 5, none⟩ = false := by
      refine ⟨?_, ?_, ?_, ?_, ?_, ?_, ?_, ?_, ?_, ?_, ?_, ?_, ?_, ?_⟩ <;> (first | (rw [hb1.cell (by simp <;> omega)]; simp [go_sem]) | (rw [hb1.frozen (by simp <;> omega)]; simp [go_sem]))
    have hb : Below w.heap.size w w1 := below2 (hb1.mono (by simp <;> omega))
    clear hb1
    have hcell : w1.cell? ⟨bb, off + to.toNat, none⟩ = some (.int .u64 x) := by rw [hb.cell (by exact hlt)]; exact hcell0
    rw [← HA.out] at hh ⊢
    go_wp2_with fail
    refine (take_tag x hx _).mono ?_
    rintro e w' ⟨rfl, rfl⟩
    go_wp2_with fail
    refine (sections_no x hx hsec _).mono ?_
    rintro e w' ⟨rfl, rfl⟩
    go_wp2_with fail
    exact bodyPost_ret (v := .tuple #[PV.no.ptr, .bool false]) (by simp [results, Faig.results131, go_sem, PV.no, PV.ptr, hh]) rfl ⟨Or.inl ⟨rfl, by simp⟩, by go_light; repeat (first | (refine Below.setCell ?_ (by first | omega | (simp <;> omega)) _) | exact hb)⟩
  | true =>
    obtain ⟨d8, p8⟩ := secOk_bd hsec
    have hor : ¬ (secD x + secP x = 0 ∧ tagN x ≠ 0) ∨ (secD x + secP x = 0 ∧ tagN x ≠ 0) := by omega
    by_cases h4 : x % 4 = 0
    · have b4 : (x % 4 != 0) = false := by simp [h4]
      by_cases h128 : tagN x ≤ 128
      · obtain ⟨m0, m1⟩ := mul_bd c0 h128 (show 0 ≤ secD x + secP x by omega) (show secD x + secP x ≤ 16 by omega)
        by_cases he : secD x + secP x = 0
        · have be : (secD x + secP x == 0) = true := by simp [he]
          by_cases hc : tagN x = 0
          · have bc : (tagN x != 0) = false := by simp [hc]
            by_cases hm : tagN x * (secD x + secP x) = n
            · have HC : Hid (true = true ∧ x % 4 = 0 ∧ tagN x ≤ 128 ∧ ¬ (secD x + secP x = 0 ∧ tagN x ≠ 0) ∧ tagN x * (secD x + secP x) = n) := ⟨rfl, h4, h128, by simp [hc], hm⟩
              have bm : (tagN x * (secD x + secP x) != n) = false := by simp [hm]
              clear h4 he hc hm hor
              go_enter Faig.func131, Faig.ntmps131
              go_wp2_with fail
              refine (spans_any a len cap low to (n + 1) hlen hlowU htoU ⟨by omega, by omega⟩ _).mono ?_
              rintro e w1 ⟨rfl, hb1⟩
              have hh : w1.cell? ⟨w.heap.size, 0, none⟩ = some (.slice a len cap) ∧ w1.cell? ⟨w.heap.size, 1, none⟩ = some (.int .u16 low) ∧ w1.cell? ⟨w.heap.size + 1, 0, none⟩ = some (.int .u8 0) ∧ w1.cell? ⟨w.heap.size + 1, 1, none⟩ = some (.int .u16 0) ∧ w1.cell? ⟨w.heap.size + 1, 2, none⟩ = some (.int .u8 0) ∧ w1.cell? ⟨w.heap.size + 1, 3, none⟩ = some (.int .u8 0) ∧ w1.cell? ⟨w.heap.size + 1, 4, none⟩ = some (.int .u8 0) ∧ w1.cell? ⟨w.heap.size + 1, 5, none⟩ = some (.int .u16 0) ∧ w1.frozen? ⟨w.heap.size + 1, 0, none⟩ = false ∧ w1.frozen? ⟨w.heap.size + 1, 1, none⟩ = false ∧ w1.frozen? ⟨w.heap.size + 1, 2, none⟩ = false ∧ w1.frozen? ⟨w.heap.size + 1, 3, none⟩ = false ∧ w1.frozen? ⟨w.heap.size + 1, 4, none⟩ = false ∧ w1.frozen? ⟨w.heap.size + 1, 5, none⟩ = false := by
                refine ⟨?_, ?_, ?_, ?_, ?_, ?_, ?_, ?_, ?_, ?_, ?_, ?_, ?_, ?_⟩ <;> (first | (rw [hb1.cell (by simp <;> omega)]; simp [go_sem]) | (rw [hb1.frozen (by simp <;> omega)]; simp [go_sem]))
              have hb : Below w.heap.size w w1 := below2 (hb1.mono (by simp <;> omega))
              clear hb1
              have hcell : w1.cell? ⟨bb, off + to.toNat, none⟩ = some (.int .u64 x) := by rw [hb.cell (by exact hlt)]; exact hcell0
              rw [← HA.out] at hh ⊢
              go_wp2_with fail
              refine (take_tag x hx _).mono ?_
              rintro e w' ⟨rfl, rfl⟩
              go_wp2_with fail
              refine (sections_yes x hx hsec _).mono ?_
              rintro e w' ⟨rfl, rfl⟩
              go_wp2_with fail
              refine (take_0_2 x hx _).mono ?_
              rintro e w' ⟨rfl, rfl⟩
              go_wp2_with fail
              exact bodyPost_ret (v := .tuple #[PV.ptr ⟨2, to + 1, secD x, secP x, 7, tagN x, true⟩, .bool true]) (by simp [results, Faig.results131, go_sem, PV.ptr, hh]) rfl ⟨Or.inr ⟨rfl, HC.out⟩, by go_light; repeat (first | (refine Below.setCell ?_ (by first | omega | (simp <;> omega)) _) | exact hb)⟩
            · have HN : Hid (¬ tagN x * (secD x + secP x) = n) := hm
              have bm : (tagN x * (secD x + secP x) != n) = true := by simp [hm]
              clear h4 he hc hm hor
              go_enter Faig.func131, Faig.ntmps131
              go_wp2_with fail
              refine (spans_any a len cap low to (n + 1) hlen hlowU htoU ⟨by omega, by omega⟩ _).mono ?_
              rintro e w1 ⟨rfl, hb1⟩
              have hh : w1.cell? ⟨w.heap.size, 0, none⟩ = some (.slice a len cap) ∧ w1.cell? ⟨w.heap.size, 1, none⟩ = some (.int .u16 low) ∧ w1.cell? ⟨w.heap.size + 1, 0, none⟩ = some (.int .u8 0) ∧ w1.cell? ⟨w.heap.size + 1, 1, none⟩ = some (.int .u16 0) ∧ w1.cell? ⟨w.heap.size + 1, 2, none⟩ = some (.int .u8 0) ∧ w1.cell? ⟨w.heap.size + 1, 3, none⟩ = some (.int .u8 0) ∧ w1.cell? ⟨w.heap.size + 1, 4, none⟩ = some (.int .u8 0) ∧ w1.cell? ⟨w.heap.size + 1, 5, none⟩ = some (.int .u16 0) ∧ w1.frozen? ⟨w.heap.size + 1, 0, none⟩ = false ∧ w1.frozen? ⟨w.heap.size + 1, 1, none⟩ = false ∧ w1.frozen? ⟨w.heap.size + 1, 2, none⟩ = false ∧ w1.frozen? ⟨w.heap.size + 1, 3, none⟩ = false ∧ w1.frozen? ⟨w.heap.size + 1, 4, none⟩ = false ∧ w1.frozen? ⟨w.heap.size + 1, 5, none⟩ = false := by
                refine ⟨?_, ?_, ?_, ?_, ?_, ?_, ?_, ?_, ?_, ?_, ?_, ?_, ?_, ?_⟩ <;> (first | (rw [hb1.cell (by simp <;> omega)]; simp [go_sem]) | (rw [hb1.frozen (by simp <;> omega)]; simp [go_sem]))
              have hb : Below w.heap.size w w1 := below2 (hb1.mono (by simp <;> omega))
              clear hb1
              have hcell : w1.cell? ⟨bb, off + to.toNat, none⟩ = some (.int .u64 x) := by rw [hb.cell (by exact hlt)]; exact hcell0
              rw [← HA.out] at hh ⊢
              go_wp2_with fail
              refine (take_tag x hx _).mono ?_
              rintro e w' ⟨rfl, rfl⟩
              go_wp2_with fail
              refine (sections_yes x hx hsec _).mono ?_
              rintro e w' ⟨rfl, rfl⟩
              go_wp2_with fail
              refine (take_0_2 x hx _).mono ?_
              rintro e w' ⟨rfl, rfl⟩
              go_wp2_with fail
              exact bodyPost_ret (v := .tuple #[PV.no.ptr, .bool false]) (by simp [results, Faig.results131, go_sem, PV.no, PV.ptr, hh]) rfl ⟨Or.inl ⟨rfl, fun hx => HN.out hx.2.2.2.2⟩, by go_light; repeat (first | (refine Below.setCell ?_ (by first | omega | (simp <;> omega)) _) | exact hb)⟩
          · have bc : (tagN x != 0) = true := by simp [hc]
            have HN : Hid (secD x + secP x = 0 ∧ tagN x ≠ 0) := ⟨he, hc⟩
            clear h4 he hc hor
            go_enter Faig.func131, Faig.ntmps131
            go_wp2_with fail
            refine (spans_any a len cap low to (n + 1) hlen hlowU htoU ⟨by omega, by omega⟩ _).mono ?_
            rintro e w1 ⟨rfl, hb1⟩
            have hh : w1.cell? ⟨w.heap.size, 0, none⟩ = some (.slice a len cap) ∧ w1.cell? ⟨w.heap.size, 1, none⟩ = some (.int .u16 low) ∧ w1.cell? ⟨w.heap.size + 1, 0, none⟩ = some (.int .u8 0) ∧ w1.cell? ⟨w.heap.size + 1, 1, none⟩ = some (.int .u16 0) ∧ w1.cell? ⟨w.heap.size + 1, 2, none⟩ = some (.int .u8 0) ∧ w1.cell? ⟨w.heap.size + 1, 3, none⟩ = some (.int .u8 0) ∧ w1.cell? ⟨w.heap.size + 1, 4, none⟩ = some (.int .u8 0) ∧ w1.cell? ⟨w.heap.size + 1, 5, none⟩ = some (.int .u16 0) ∧ w1.frozen? ⟨w.heap.size + 1, 0, none⟩ = false ∧ w1.frozen? ⟨w.heap.size + 1, 1, none⟩ = false ∧ w1.frozen? ⟨w.heap.size + 1, 2, none⟩ = false ∧ w1.frozen? ⟨w.heap.size + 1, 3, none⟩ = false ∧ w1.frozen? ⟨w.heap.size + 1, 4, none⟩ = false ∧ w1.frozen? ⟨w.heap.size + 1, 5, none⟩ = false := by
              refine ⟨?_, ?_, ?_, ?_, ?_, ?_, ?_, ?_, ?_, ?_, ?_, ?_, ?_, ?_⟩ <;> (first | (rw [hb1.cell (by simp <;> omega)]; simp [go_sem]) | (rw [hb1.frozen (by simp <;> omega)]; simp [go_sem]))
            have hb : Below w.heap.size w w1 := below2 (hb1.mono (by simp <;> omega))
            clear hb1
            have hcell : w1.cell? ⟨bb, off + to.toNat, none⟩ = some (.int .u64 x) := by rw [hb.cell (by exact hlt)]; exact hcell0
            rw [← HA.out] at hh ⊢
            go_wp2_with fail
            refine (take_tag x hx _).mono ?_
            rintro e w' ⟨rfl, rfl⟩
            go_wp2_with fail
            refine (sections_yes x hx hsec _).mono ?_
            rintro e w' ⟨rfl, rfl⟩
            go_wp2_with fail
            refine (take_0_2 x hx _).mono ?_
            rintro e w' ⟨rfl, rfl⟩
            go_wp2_with fail
            exact bodyPost_ret (v := .tuple #[PV.no.ptr, .bool false]) (by simp [results, Faig.results131, go_sem, PV.no, PV.ptr, hh]) rfl ⟨Or.inl ⟨rfl, fun hx => hx.2.2.2.1 HN.out⟩, by go_light; repeat (first | (refine Below.setCell ?_ (by first | omega | (simp <;> omega)) _) | exact hb)⟩
        · have be : (secD x + secP x == 0) = false := by simp [he]
          by_cases hm : tagN x * (secD x + secP x) = n
          · have HC : Hid (true = true ∧ x % 4 = 0 ∧ tagN x ≤ 128 ∧ ¬ (secD x + secP x = 0 ∧ tagN x ≠ 0) ∧ tagN x * (secD x + secP x) = n) := ⟨rfl, h4, h128, fun hh => he hh.1, hm⟩
            have bm : (tagN x * (secD x + secP x) != n) = false := by simp [hm]
            clear h4 he hm hor
            go_enter Faig.func131, Faig.ntmps131
            go_wp2_with fail
            refine (spans_any a len cap low to (n + 1) hlen hlowU htoU ⟨by omega, by omega⟩ _).mono ?_
            rintro e w1 ⟨rfl, hb1⟩
            have hh : w1.cell? ⟨w.heap.size, 0, none⟩ = some (.slice a len cap) ∧ w1.cell? ⟨w.heap.size, 1, none⟩ = some (.int .u16 low) ∧ w1.cell? ⟨w.heap.size + 1, 0, none⟩ = some (.int .u8 0) ∧ w1.cell? ⟨w.heap.size + 1, 1, none⟩ = some (.int .u16 0) ∧ w1.cell? ⟨w.heap.size + 1, 2, none⟩ = some (.int .u8 0) ∧ w1.cell? ⟨w.heap.size + 1, 3, none⟩ = some (.int .u8 0) ∧ w1.cell? ⟨w.heap.size + 1, 4, none⟩ = some (.int .u8 0) ∧ w1.cell? ⟨w.heap.size + 1, 5, none⟩ = some (.int .u16 0) ∧ w1.frozen? ⟨w.heap.size + 1, 0, none⟩ = false ∧ w1.frozen? ⟨w.heap.size + 1, 1, none⟩ = false ∧ w1.frozen? ⟨w.heap.size + 1, 2, none⟩ = false ∧ w1.frozen? ⟨w.heap.size + 1, 3, none⟩ = false ∧ w1.frozen? ⟨w.heap.size + 1, 4, none⟩ = false ∧ w1.frozen? ⟨w.heap.size + 1, 5, none⟩ = false := by
              refine ⟨?_, ?_, ?_, ?_, ?_, ?_, ?_, ?_, ?_, ?_, ?_, ?_, ?_, ?_⟩ <;> (first | (rw [hb1.cell (by simp <;> omega)]; simp [go_sem]) | (rw [hb1.frozen (by simp <;> omega)]; simp [go_sem]))
            have hb : Below w.heap.size w w1 := below2 (hb1.mono (by simp <;> omega))
            clear hb1
            have hcell : w1.cell? ⟨bb, off + to.toNat, none⟩ = some (.int .u64 x) := by rw [hb.cell (by exact hlt)]; exact hcell0
            rw [← HA.out] at hh ⊢
            go_wp2_with fail
            refine (take_tag x hx _).mono ?_
            rintro e w' ⟨rfl, rfl⟩
            go_wp2_with fail
            refine (sections_yes x hx hsec _).mono ?_
            rintro e w' ⟨rfl, rfl⟩
            go_wp2_with fail
            refine (take_0_2 x hx _).mono ?_
            rintro e w' ⟨rfl, rfl⟩
            go_wp2_with fail
            exact bodyPost_ret (v := .tuple #[PV.ptr ⟨2, to + 1, secD x, secP x, 7, tagN x, true⟩, .bool true]) (by simp [results, Faig.results131, go_sem, PV.ptr, hh]) rfl ⟨Or.inr ⟨rfl, HC.out⟩, by go_light; repeat (first | (refine Below.setCell ?_ (by first | omega | (simp <;> omega)) _) | exact hb)⟩
          · have HN : Hid (¬ tagN x * (secD x + secP x) = n) := hm
            have bm : (tagN x * (secD x + secP x) != n) = true := by simp [hm]
            clear h4 he hm hor
            go_enter Faig.func131, Faig.ntmps131
            go_wp2_with fail
            refine (spans_any a len cap low to (n + 1) hlen hlowU htoU ⟨by omega, by omega⟩ _).mono ?_
            rintro e w1 ⟨rfl, hb1⟩
            have hh : w1.cell? ⟨w.heap.size, 0, none⟩ = some (.slice a len cap) ∧ w1.cell? ⟨w.heap.size, 1, none⟩ = some (.int .u16 low) ∧ w1.cell? ⟨w.heap.size + 1, 0, none⟩ = some (.int .u8 0) ∧ w1.cell? ⟨w.heap.size + 1, 1, none⟩ = some (.int .u16 0) ∧ w1.cell? ⟨w.heap.size + 1, 2, none⟩ = some (.int .u8 0) ∧ w1.cell? ⟨w.heap.size + 1, 3, none⟩ = some (.int .u8 0) ∧ w1.cell? ⟨w.heap.size + 1, 4, none⟩ = some (.int .u8 0) ∧ w1.cell? ⟨w.heap.size + 1, 5, none⟩ = some (.int .u16 0) ∧ w1.frozen? ⟨w.heap.size + 1, 0, none⟩ = false ∧ w1.frozen? ⟨w.heap.size + 1, 1, none⟩ = false ∧ w1.frozen? ⟨w.heap.size + 1, 2, none⟩ = false ∧ w1.frozen? ⟨w.heap.size + 1, 3, none⟩ = false ∧ w1.frozen? ⟨w.heap.size + 1, 4, none⟩ = false ∧ w1.frozen? ⟨w.heap.size + 1, 5, none⟩ = false := by
              refine ⟨?_, ?_, ?_, ?_, ?_, ?_, ?_, ?_, ?_, ?_, ?_, ?_, ?_, ?_⟩ <;> (first | (rw [hb1.cell (by simp <;> omega)]; simp [go_sem]) | (rw [hb1.frozen (by simp <;> omega)]; simp [go_sem]))
            have hb : Below w.heap.size w w1 := below2 (hb1.mono (by simp <;> omega))
            clear hb1
            have hcell : w1.cell? ⟨bb, off + to.toNat, none⟩ = some (.int .u64 x) := by rw [hb.cell (by exact hlt)]; exact hcell0
            rw [← HA.out] at hh ⊢
            go_wp2_with fail
            refine (take_tag x hx _).mono ?_
            rintro e w' ⟨rfl, rfl⟩
            go_wp2_with fail
            refine (sections_yes x hx hsec _).mono ?_
            rintro e w' ⟨rfl, rfl⟩
            go_wp2_with fail
            refine (take_0_2 x hx _).mono ?_
            rintro e w' ⟨rfl, rfl⟩
            go_wp2_with fail
            exact bodyPost_ret (v := .tuple #[PV.no.ptr, .bool false]) (by simp [results, Faig.results131, go_sem, PV.no, PV.ptr, hh]) rfl ⟨Or.inl ⟨rfl, fun hx => HN.out hx.2.2.2.2⟩, by go_light; repeat (first | (refine Below.setCell ?_ (by first | omega | (simp <;> omega)) _) | exact hb)⟩
      · clear h4 hor
        go_enter Faig.func131, Faig.ntmps131
        go_wp2_with fail
        refine (spans_any a len cap low to (n + 1) hlen hlowU htoU ⟨by omega, by omega⟩ _).mono ?_
        rintro e w1 ⟨rfl, hb1⟩
        have hh : w1.cell? ⟨w.heap.size, 0, none⟩ = some (.slice a len cap) ∧ w1.cell? ⟨w.heap.size, 1, none⟩ = some (.int .u16 low) ∧ w1.cell? ⟨w.heap.size + 1, 0, none⟩ = some (.int .u8 0) ∧ w1.cell? ⟨w.heap.size + 1, 1, none⟩ = some (.int .u16 0) ∧ w1.cell? ⟨w.heap.size + 1, 2, none⟩ = some (.int .u8 0) ∧ w1.cell? ⟨w.heap.size + 1, 3, none⟩ = some (.int .u8 0) ∧ w1.cell? ⟨w.heap.size + 1, 4, none⟩ = some (.int .u8 0) ∧ w1.cell? ⟨w.heap.size + 1, 5, none⟩ = some (.int .u16 0) ∧ w1.frozen? ⟨w.heap.size + 1, 0, none⟩ = false ∧ w1.frozen? ⟨w.heap.size + 1, 1, none⟩ = false ∧ w1.frozen? ⟨w.heap.size + 1, 2, none⟩ = false ∧ w1.frozen? ⟨w.heap.size + 1, 3, none⟩ = false ∧ w1.frozen? ⟨w.heap.size + 1, 4, none⟩ = false ∧ w1.frozen? ⟨w.heap.size + 1, 5, none⟩ = false := by
          refine ⟨?_, ?_, ?_, ?_, ?_, ?_, ?_, ?_, ?_, ?_, ?_, ?_, ?_, ?_⟩ <;> (first | (rw [hb1.cell (by simp <;> omega)]; simp [go_sem]) | (rw [hb1.frozen (by simp <;> omega)]; simp [go_sem]))
        have hb : Below w.heap.size w w1 := below2 (hb1.mono (by simp <;> omega))
        clear hb1
        have hcell : w1.cell? ⟨bb, off + to.toNat, none⟩ = some (.int .u64 x) := by rw [hb.cell (by exact hlt)]; exact hcell0
        rw [← HA.out] at hh ⊢
        go_wp2_with fail
        refine (take_tag x hx _).mono ?_
        rintro e w' ⟨rfl, rfl⟩
        go_wp2_with fail
        refine (sections_yes x hx hsec _).mono ?_
        rintro e w' ⟨rfl, rfl⟩
        go_wp2_with fail
        refine (take_0_2 x hx _).mono ?_
        rintro e w' ⟨rfl, rfl⟩
        go_wp2_with fail
        exact bodyPost_ret (v := .tuple #[PV.no.ptr, .bool false]) (by simp [results, Faig.results131, go_sem, PV.no, PV.ptr, hh]) rfl ⟨Or.inl ⟨rfl, fun hx => by have := hx.2.2.1; omega⟩, by go_light; repeat (first | (refine Below.setCell ?_ (by first | omega | (simp <;> omega)) _) | exact hb)⟩
    · have b4 : (x % 4 != 0) = true := by simp [h4]
      have HN : Hid (¬ x % 4 = 0) := h4
      clear h4 hor
      go_enter Faig.func131, Faig.ntmps131
      go_wp2_with fail
      refine (spans_any a len cap low to (n + 1) hlen hlowU htoU ⟨by omega, by omega⟩ _).mono ?_
      rintro e w1 ⟨rfl, hb1⟩
      have hh : w1.cell? ⟨w.heap.size, 0, none⟩ = some (.slice a len cap) ∧ w1.cell? ⟨w.heap.size, 1, none⟩ = some (.int .u16 low) ∧ w1.cell? ⟨w.heap.size + 1, 0, none⟩ = some (.int .u8 0) ∧ w1.cell? ⟨w.heap.size + 1, 1, none⟩ = some (.int .u16 0) ∧ w1.cell? ⟨w.heap.size + 1, 2, none⟩ = some (.int .u8 0) ∧ w1.cell? ⟨w.heap.size + 1, 3, none⟩ = some (.int .u8 0) ∧ w1.cell? ⟨w.heap.size + 1, 4, none⟩ = some (.int .u8 0) ∧ w1.cell? ⟨w.heap.size + 1, 5, none⟩ = some (.int .u16 0) ∧ w1.frozen? ⟨w.heap.size + 1, 0, none⟩ = false ∧ w1.frozen? ⟨w.heap.size + 1, 1, none⟩ = false ∧ w1.frozen? ⟨w.heap.size + 1, 2, none⟩ = false ∧ w1.frozen? ⟨w.heap.size + 1, 3, none⟩ = false ∧ w1.frozen? ⟨w.heap.size + 1, 4, none⟩ = false ∧ w1.frozen? ⟨w.heap.size + 1, 5, none⟩ = false := by
        refine ⟨?_, ?_, ?_, ?_, ?_, ?_, ?_, ?_, ?_, ?_, ?_, ?_, ?_, ?_⟩ <;> (first | (rw [hb1.cell (by simp <;> omega)]; simp [go_sem]) | (rw [hb1.frozen (by simp <;> omega)]; simp [go_sem]))
      have hb : Below w.heap.size w w1 := below2 (hb1.mono (by simp <;> omega))
      clear hb1
      have hcell : w1.cell? ⟨bb, off + to.toNat, none⟩ = some (.int .u64 x) := by rw [hb.cell (by exact hlt)]; exact hcell0
      rw [← HA.out] at hh ⊢
      go_wp2_with fail
      refine (take_tag x hx _).mono ?_
      rintro e w' ⟨rfl, rfl⟩
      go_wp2_with fail
      refine (sections_yes x hx hsec _).mono ?_
      rintro e w' ⟨rfl, rfl⟩
      go_wp2_with fail
      refine (take_0_2 x hx _).mono ?_
      rintro e w' ⟨rfl, rfl⟩
      go_wp2_with fail
      exact bodyPost_ret (v := .tuple #[PV.no.ptr, .bool false]) (by simp [results, Faig.results131, go_sem, PV.no, PV.ptr, hh]) rfl ⟨Or.inl ⟨rfl, fun hx => HN.out hx.2.1⟩, by go_light; repeat (first | (refine Below.setCell ?_ (by first | omega | (simp <;> omega)) _) | exact hb)⟩

theorem structs_any (a : Option Addr) (len cap : Nat) (l : List Int) (low to n : Int) (hlen : len ≤ 256) (hlow : U16 low) (hto : -1000000000 ≤ to ∧ to ≤ 1000000000) (hn : 0 ≤ n ∧ n < 536870912) (w : World) (hr : Row w a len l) :
    Calls Faig.prog 131 #[.agg #[.slice a len cap, .int .u16 low], .int .i32 to, .int .i32 n] w fun e w' => e = .returned (.tuple #[(resStructs l low to n).ptr, .bool (resStructs l low to n).ok]) ∧ Below w.heap.size w w' := by
  cases hs : spn to (n + 1) low len with
  | false => exact structs_out a len cap l low to n hlen hlow hto hn w hr.1 hs
  | true =>
    have hin : 0 ≤ to ∧ to < len := by
      have hs' := hs
      unfold spn at hs'
      rw [if_neg (by omega)] at hs'
      simp at hs'
      have := hlow.1
      omega
    obtain ⟨bb, off, rfl, hlt, hcell, hxU⟩ := hr.at to.toNat (by omega)
    refine (structs_in bb off len cap (l.getD to.toNat 0) low to n hlen hlow hin hn w hs hxU hlt hcell).mono ?_
    rintro e w' ⟨h, hb⟩
    refine ⟨?_, hb⟩
    unfold resStructs
    rw [hr.1]
    rcases h with ⟨rfl, hno⟩ | ⟨rfl, hyes⟩
    · rw [if_neg (fun hh => hno hh.2)]; rfl
    · rw [if_pos ⟨hs, hyes⟩]
end Go.Proofs.Ygcfai

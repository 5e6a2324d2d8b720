/-
  DefaultBack: the walk of the law.
-/
import Derived.Test.YgcfaiLawD
namespace Go.Proofs.Ygcfai
open Go.RowKit Go.Joins Plain
set_option linter.unusedVariables false
set_option linter.unusedSimpArgs false
/-- A guarded call that is wanted, by its contract, as one step of a region that draws. -/
theorem call_drawn_g {P : Program} {w : World} {ops : Array Oper} {o : Oper} {a : Act} {K : Act → World → Prop} {Q : Exit → Act → World → Prop} {E : Prop}
    (hw : Region.wanted o (yielded ops a.tmps) = true) (f : Nat) (args : Array Operand) (ts : Array TypeId) (hop : o.op = Op.call { callee := Callee.value (Operand.func f), args := args, argTypes := ts })
    (fn : Func) (c : Code) (hf : P.funcs[f]? = some fn) (hname : (fn.name == "runtime.NumGoroutine") = false) (hb : fn.body = some c)
    (vs : Array Value) (hvs : args.map a.eval = vs) (post : Ending → World → Prop) (hc : Calls P f vs w post)
    (h : ∀ e w', post e w' → ∃ v, e = .returned v ∧ K (a.put o.dst v) w') :
    if Region.wanted o (yielded ops a.tmps) = true then Oper.wp P o a w K Q else E := by
  have h1 : fn.name ≠ "runtime.NumGoroutine" := by simpa using hname
  rw [if_pos hw]
  unfold Oper.wp
  simp [execOp, hop, resolve, invoke, Result.andThen, Act.eval, Deferred.ofValue, callFunc, hf, h1, hb, Oper.upon_enter]
  rw [hvs]
  exact hc.mono (fun e w' hp => by obtain ⟨v, rfl, hk⟩ := h e w' hp; exact hk)
theorem bdrew2 {n : Nat} {w w1 : World} {a : Addr} {v : Value} (h : Below n (w.drew.setCell a v) w1) : Below n (w.setCell a v) w1 := ⟨h.os, h.tape, h.output, h.size, h.block⟩
theorem Bld.row {w : World} {g ga ca go co gu cu gv cv gd cd ge ce d : Nat} {la : List Int} (h : Bld w g ga ca go co gu cu gv cv gd cd ge ce d la) : Row w (some ⟨ga, 0, none⟩) (1 + d) la := by
  have hl : la.length = 1 + d := by have := h.len; omega
  exact ⟨hl, h.bd, by have := h.d8; unfold maxLen; omega, Or.inr ⟨ga, 0, rfl, h.l1, fun i hi => by rw [Nat.zero_add]; exact h.words i (by omega)⟩⟩
theorem Bld.arena {w : World} {g ga ca go co gu cu gv cv gd cd ge ce d : Nat} {la : List Int} (h : Bld w g ga ca go co gu cu gv cv gd cd ge ce d la) : w.cell? ⟨g, 0, none⟩ = some (.slice (some ⟨ga, 0, none⟩) (1 + d) ca) := by
  have hl : la.length = 1 + d := by have := h.len; omega
  have := h.gA
  rw [hl] at this; exact this
theorem trim_la0 (d : Nat) : trimN ((la0 d).drop 1) d = 0 := by
  have key : ∀ k, trimN ((la0 d).drop 1) k = 0 := by
    intro k
    induction k with
    | zero => rfl
    | succ k ih =>
      have hz : ((la0 d).drop 1).getD k 0 = 0 := by
        rw [List.getD_eq_getElem?_getD, List.getElem?_drop, ← List.getD_eq_getElem?_getD]; exact la0_word d k
      rw [trimN_z hz]; exact ih
  exact key d
/-- What CanonP leaves, as a row. -/
theorem canon_row {W : World} {g cap n : Nat} {ws : List Int} (h : W.ownsRow 0 49 1 (.slice (some ⟨g, 0, none⟩) (1 + n) cap) (1 + n) (.int .u64 (msv 0 1 n 0) :: ws.map (Value.int .u64))) (hn : n ≤ 8) (hb : ∀ i, U64 (ws.getD i 0)) : Row W (some ⟨g, 0, none⟩) (1 + n) (msv 0 1 n 0 :: ws) := by
  refine row_of_own (c := cap) (by rw [List.map_cons]; exact h) (fun i => ?_)
  cases i with
  | zero => exact msv_u64 n hn
  | succ i => exact hb i
theorem fits_root (d : Nat) (hd : d ≤ 8) : Fits 1 (rootT d) d (1 + d) := by
  unfold rootT
  split
  · exact ⟨⟨by omega, by omega⟩, ⟨by omega, by omega⟩, by omega, by omega, Or.inl (by omega)⟩
  · exact ⟨⟨by omega, by omega⟩, ⟨by omega, by omega⟩, by omega, by omega, Or.inr ⟨rfl, by omega, by omega⟩⟩
theorem la0_put (d : Nat) (p : Nat × Nat) (x : Int) (hx : U64 x) (hin : pW p < d) : (la0 d).set (1 + pW p) (putv ((la0 d).getD (1 + pW p) 0) (bits .xor .u64 x x) (pB p) p.1) = la0 d := by
  have h := list_set_same (la0 d) (1 + pW p) (by rw [la0_len]; omega)
  rw [xor_same x hx, la0_word] at *
  have e : putv 0 0 (pB p) p.1 = 0 := by unfold putv; simp [putN_zero]
  rw [e]; exact h
def PCs (W : World) (o : Option Addr) (P : List (Nat × Nat)) (b : Nat) : Prop := 0 < P.length → ∃ gp, o = some ⟨gp, 0, none⟩ ∧ PC W gp P ∧ b ≤ gp
theorem PCs.below {w2 W : World} {o : Option Addr} {P : List (Nat × Nat)} {b : Nat} (h : PCs w2 o P b) (hB : Below w2.heap.size w2 W) : PCs W o P b := fun h0 => by
  obtain ⟨gp, e, hp, hb⟩ := h h0
  exact ⟨gp, e, hp.keep (hB.block gp hp.lt) hB.size, hb⟩
theorem idx73 (g1 g2 : Nat) (w : World) : (Instr.index 73 (.agg #[.pointer (some ⟨g1, 0, none⟩), .pointer (some ⟨g2, 0, none⟩)]) (.int .i64 0)).run Faig.prog w = .ok (.pointer (some ⟨g1, 0, none⟩)) w := by kernel_rfl
theorem idx73' (g1 g2 : Nat) (w : World) : (Instr.index 73 (.agg #[.pointer (some ⟨g1, 0, none⟩), .pointer (some ⟨g2, 0, none⟩)]) (.int .i64 1)).run Faig.prog w = .ok (.pointer (some ⟨g2, 0, none⟩)) w := by kernel_rfl
set_option maxRecDepth 100000 in
set_option maxHeartbeats 4000000 in
theorem walk7 (w : World) (a0 a1 a2 : Option Addr) (len0 cap0 len1 cap1 len2 cap2 : Nat) (ks l1 l2 : List Int) (hk : KRow w a0 len0 ks) (hc0 : len0 ≤ cap0) (hr1 : Row w a1 len1 l1) (hr2 : Row w a2 len2 l2) :
    Calls Faig.prog 7 #[.slice a0 len0 cap0, .slice a1 len1 cap1, .slice a2 len2 cap2] w fun e w' => e = .returned (.bool true) ∧ Below w.heap.size w w' := by
  have HT : Hid (Calls Faig.prog 27 #[.slice a0 len0 cap0, .int .u8 11] w fun e w' => TypesPost w w' e len0 ks) := typesOf_any w a0 len0 cap0 ks hk hc0
  have hkU : Hid (∀ i, U8 (ks.getD i 0)) := hk.2.1
  have R1 : Hid (∀ W, Below w.heap.size w W → Row W a1 len1 l1) := fun W hB => hr1.below hB (Nat.le_refl _)
  have R2 : Hid (∀ W, Below w.heap.size w W → Row W a2 len2 l2) := fun W hB => hr2.below hB (Nat.le_refl _)
  clear hk hr1 hr2
  go_enter Faig.func7, Faig.ntmps7
  go_wp2_with fail
  refine HT.out.mono ?_
  rintro e w1 ⟨gt, rfl, hgt, hTS, hB1⟩
  have hn17 : min len0 17 ≤ 17 := by omega
  generalize min len0 17 = n at *
  have HL : Hid (Calls Faig.prog 28 #[.slice (some ⟨gt, 0, none⟩) n n] w1 fun e w' => LayPost w1 w' e n) := layout_all w1 gt n _ hTS (fun i => by have := hkU.out i; obtain ⟨h0, h1⟩ := this; constructor <;> omega) hn17
  clear hTS HT
  go_wp2_with fail
  refine HL.out.mono ?_
  rintro e w2 ⟨hB2, hlay⟩
  have B2 : Below w.heap.size w w2 := hB1.trans (hB2.mono hB1.size)
  rcases hlay with rfl | ⟨v, data, P, U, rfl, hO, hvN, hInv, hPn⟩
  · clear HL
    go_wp2_with fail
    go_ret
    exact ⟨rfl, B2⟩
  · obtain ⟨o, c, rfl⟩ := own_shape hO
    have hP0 : PCs w2 o P w1.heap.size := fun h => by
      obtain ⟨gp, cp, e, hpc⟩ := PC.of hO hPn (by omega)
      injection e with e1 e2 e3
      exact ⟨gp, e1, hpc, hvN gp (by rw [e1]; rfl)⟩
    have hd8 := hInv.d8
    have HI : Hid (LayInv U data P) := hInv
    have HPC : Hid (PCs w2 o P w1.heap.size) := hP0
    have HB2 : Hid (Below w.heap.size w w2) := B2
    have HB1 : Hid (Below w.heap.size w w1) := hB1
    have hPlt : Hid (∀ gp, o = some ⟨gp, 0, none⟩ → 0 < P.length → gp < w2.heap.size) := fun gp he h0 => by obtain ⟨g', e', hpc, -⟩ := hP0 h0; rw [he] at e'; injection e' with e'; injection e' with e'; rw [e']; exact hpc.lt
    clear HL hO hvN hInv hP0 B2 hB1 hB2 hgt
    go_wp2_with fail
    refine (new_any w2).mono ?_
    rintro e w3 ⟨g1, rfl, ga1, vO1, vU1, vV1, vD1, vE1, B3, hb3, N3⟩
    have HB3 : Hid (BW w3 g1 (newL ga1 vO1 vU1 vV1 vD1 vE1)) := B3
    have Hb3 : Hid (Below w2.heap.size w2 w3) := hb3
    have HN3 : Hid (∀ k, Bl g1 (newL ga1 vO1 vU1 vV1 vD1 vE1) k → w2.heap.size ≤ k) := N3
    clear B3 hb3 N3
    go_wp2_with fail
    refine (new_any w3).mono ?_
    rintro e w4 ⟨g2, rfl, ga2, vO2, vU2, vV2, vD2, vE2, B4, hb4, N4⟩
    have HB4 : Hid (BW w4 g2 (newL ga2 vO2 vU2 vV2 vD2 vE2)) := B4
    have Hb4 : Hid (Below w3.heap.size w3 w4) := hb4
    have HN4 : Hid (∀ k, Bl g2 (newL ga2 vO2 vU2 vV2 vD2 vE2) k → w3.heap.size ≤ k) := N4
    clear B4 hb4 N4
    have i0 := idx73 g1 g2
    have i1 := idx73' g1 g2
    go_wp2_with fail
    go_loopw [52, 15] (fun i _ W => (i = .int .i64 0 ∧ W = w4) ∨ (i = .int .i64 1 ∧ NSPost w4 W g1 data (newL ga1 vO1 vU1 vV1 vD1 vE1)) ∨ (i = .int .i64 2 ∧ ∃ ga1 ca1 ga2 ca2, LawS w2 W g1 g2 ga1 ca1 ga2 ca2 data (la0 data) (la0 data))) (fun i _ _ => 2 - (intOf i).toNat)
    case atStart => exact Or.inl ⟨rfl, rfl⟩
    case round =>
      rcases hrel with ⟨rfl, rfl⟩ | ⟨rfl, hS⟩ | ⟨rfl, hS⟩
      · have DC : Hid (∀ sv, Calls Faig.prog 30 #[.pointer (some ⟨g1, 0, none⟩), .agg #[.int .u8 0, .int .u8 0, .int .u8 0, .int .u8 data, .int .u8 0, .int .u16 0, .int .u64 0, sv]] wr fun e w' => e = .returned (.bool true) ∧ NSPost wr w' g1 data (newL ga1 vO1 vU1 vV1 vD1 vE1)) := fun sv => doNew wr g1 ga1 data _ _ _ _ _ sv (HB3.out.keep (fun k hk _ => Hb4.out.block k hk)) hd8
        go_wp2_with fail
        refine (DC.out _).mono ?_
        rintro e w5 ⟨rfl, S5⟩
        have HS5 : Hid (NSPost wr w5 g1 data (newL ga1 vO1 vU1 vV1 vD1 vE1)) := S5
        clear S5
        go_wp2_with fail
        go_roundw
        case rel => exact Or.inr (Or.inl ⟨rfl, HS5.out⟩)
        case measure => simp [intOf]
      · have HS : Hid (NSPost w4 wr g1 data (newL ga1 vO1 vU1 vV1 vD1 vE1)) := hS
        clear hS
        have DC : Hid (∀ sv, Calls Faig.prog 30 #[.pointer (some ⟨g2, 0, none⟩), .agg #[.int .u8 0, .int .u8 0, .int .u8 0, .int .u8 data, .int .u8 0, .int .u16 0, .int .u64 0, sv]] wr fun e w' => e = .returned (.bool true) ∧ NSPost wr w' g2 data (newL ga2 vO2 vU2 vV2 vD2 vE2)) := fun sv => by
          obtain ⟨-, -, -, -, -, -, -, F5, -⟩ := HS.out
          exact doNew wr g2 ga2 data _ _ _ _ _ sv (HB4.out.keep (fun k hk hb => F5.block k hk (fun h1 => by have := Bl.lt HB3.out h1; have := HN4.out k hb; omega))) hd8
        go_wp2_with fail
        refine (DC.out _).mono ?_
        rintro e w6 ⟨rfl, S6⟩
        have HS6 : Hid (∃ ga1 ca1 ga2 ca2, LawS w2 w6 g1 g2 ga1 ca1 ga2 ca2 data (la0 data) (la0 data)) := by
          refine two_law (w3 := w3) (w4 := w4) (w5 := wr) (Hb3.out.trans (Hb4.out.mono Hb3.out.size)) (fun k hk => ⟨HN3.out k hk, Bl.lt HB3.out hk⟩) (fun k hk => ⟨HN4.out k hk, Bl.lt HB4.out hk⟩) Hb3.out.size Hb4.out.size HS.out S6 hd8
        clear S6
        go_wp2_with fail
        go_roundw
        case rel => exact Or.inr (Or.inr ⟨rfl, HS6.out⟩)
        case measure => simp [intOf]
      · obtain ⟨xa1, xc1, xa2, xc2, hLS⟩ := hS
        have HLS : Hid (LawS w2 wr g1 g2 xa1 xc1 xa2 xc2 data (la0 data) (la0 data)) := hLS
        clear hLS HB3 Hb3 HN3 HB4 Hb4 HN4 i0 i1
        have hn16 : n ≤ 17 := hn17
        have VU1 : Hid (∀ i, U64 (l1.getD i 0)) := (R1.out w (Below.refl _ _)).2.1
        have VU2 : Hid (∀ i, U64 (l2.getD i 0)) := (R2.out w (Below.refl _ _)).2.1
        go_wp2_with fail
        go_loopw [64, 16, 17, 18] (fun i _ _ _ W => ∃ k : Nat, k ≤ n ∧ i = .int .i64 k ∧ LawS w2 W g1 g2 xa1 xc1 xa2 xc2 data (putsN (la0 data) P (fun i => bits .xor .u64 (l1.getD i 0) (l2.getD i 0)) k) (la0 data)) (fun i _ _ _ _ => n - (intOf i).toNat)
        case atStart => exact ⟨0, Nat.zero_le _, rfl, HLS.out⟩
        case round =>
          obtain ⟨k, hk, rfl, hS⟩ := hrel
          have HS : Hid (LawS w2 wr g1 g2 xa1 xc1 xa2 xc2 data (putsN (la0 data) P (fun i => bits .xor .u64 (l1.getD i 0) (l2.getD i 0)) k) (la0 data)) := hS
          clear hS HLS
          by_cases hlt : k < n
          · have htt : decide ((k : Int) < (n : Int)) = true := by simp; omega
            obtain ⟨gp, rfl, hpc, hgp⟩ := (HPC.out.below HS.out.below) (by omega)
            have c0 := hpc.c0 k (by omega); have c1 := hpc.c1 k (by omega); have c2 := hpc.c2 k (by omega); have c3 := hpc.c3 k (by omega)
            have lgp := hpc.lt
            have hmem := getD_mem (show k < P.length by omega)
            have h5 := HI.out.s5 _ hmem
            have hin := HI.out.ins _ hmem
            have HN : Hid (putsN (la0 data) P (fun i => bits .xor .u64 (l1.getD i 0) (l2.getD i 0)) (k + 1) = putP (putsN (la0 data) P (fun i => bits .xor .u64 (l1.getD i 0) (l2.getD i 0)) k) (P.getD k (1, 0)) (bits .xor .u64 (l1.getD k 0) (l2.getD k 0))) := rfl
            have hlen : (putsN (la0 data) P (fun i => bits .xor .u64 (l1.getD i 0) (l2.getD i 0)) k).length = 1 + data := by rw [putsN_length, la0_len]
            have hu64 := putsN_u64 HI.out (la0 data) (fun i => bits .xor .u64 (l1.getD i 0) (l2.getD i 0)) (la0_u64 data hd8) (la0_len data) k (by omega)
            clear hmem hpc
            generalize hLk : putsN (la0 data) P (fun i => bits .xor .u64 (l1.getD i 0) (l2.getD i 0)) k = Lk at *
            generalize hLk1 : putsN (la0 data) P (fun i => bits .xor .u64 (l1.getD i 0) (l2.getD i 0)) (k + 1) = Lk1 at *
            generalize P.getD k (1, 0) = p at *
            have hV1 := VU1.out k
            have hV2 := VU2.out k
            have VC1 : Hid (∀ W, Below w.heap.size w W → Calls Faig.prog 31 #[.slice a1 len1 cap1, .int .i64 k] W fun e w' => e = .returned (.int .u64 (l1.getD k 0)) ∧ w' = W) := fun W hB => value_any a1 len1 cap1 l1 k (by omega) (by omega) W (R1.out W hB)
            have VC2 : Hid (∀ W, Below w.heap.size w W → Calls Faig.prog 31 #[.slice a2 len2 cap2, .int .i64 k] W fun e w' => e = .returned (.int .u64 (l2.getD k 0)) ∧ w' = W) := fun W hB => value_any a2 len2 cap2 l2 k (by omega) (by omega) W (R2.out W hB)
            generalize l1.getD k 0 = x1 at *
            generalize l2.getD k 0 = x2 at *
            have hBr : Hid (Below w.heap.size w wr) := HB2.out.trans (HS.out.below.mono HB2.out.size)
            go_wp2_with fail
            refine (VC2.out _ (hBr.out.alloc hBr.out.size _)).mono ?_
            rintro e w' ⟨rfl, hw'⟩
            subst w'
            have S7 := HS.out.next (W' := wr.alloc (.cells #[.int .u8 p.1, .int .u16 p.2, .int .u8 0, .bool false] 78 (0, 0))) ((Below.refl _ _).alloc (Nat.le_refl _) _)
            have pb7 : (wr.alloc (.cells #[.int .u8 p.1, .int .u16 p.2, .int .u8 0, .bool false] 78 (0, 0))).heap[wr.heap.size]? = some (.cells #[.int .u8 p.1, .int .u16 p.2, .int .u8 0, .bool false] 78 (0, 0)) := bk1 wr _
            go_wp2_with fail
            generalize wr.alloc (.cells #[.int .u8 p.1, .int .u16 p.2, .int .u8 0, .bool false] 78 (0, 0)) = w7 at S7 pb7 ⊢
            have hxa1 : xa1 < wr.heap.size := by obtain ⟨_, _, _, _, _, _, _, _, _, _, hB, _, _⟩ := HS.out.b1; exact hB.l1
            have hxa2 : xa2 < wr.heap.size := by obtain ⟨_, _, _, _, _, _, _, _, _, _, hB, _, _⟩ := HS.out.b2; exact hB.l1
            generalize wr.heap.size = pv at pb7 hxa1 hxa2 ⊢
            have q0 : w7.cell? ⟨pv, 0, none⟩ = some (.int .u8 p.1) := cell_of_block pb7 0
            have q1 : w7.cell? ⟨pv, 1, none⟩ = some (.int .u16 p.2) := cell_of_block pb7 1
            have q2 : w7.cell? ⟨pv, 2, none⟩ = some (.int .u8 0) := cell_of_block pb7 2
            have q3 : w7.cell? ⟨pv, 3, none⟩ = some (.bool false) := cell_of_block pb7 3
            have hB7 : Hid (Below w.heap.size w w7.drew) := (HB2.out.trans (S7.below.mono HB2.out.size)).drew
            have HS7 : Hid (LawS w2 w7 g1 g2 xa1 xc1 xa2 xc2 data Lk (la0 data)) := S7
            have PUT1 : Hid (Calls Faig.prog 32 #[.pointer (some ⟨g1, 0, none⟩), .int .u8 1, .agg #[.int .u8 p.1, .int .u16 p.2, .int .u8 0, .bool false], .int .u64 x1, .int .u64 x2] w7.drew fun e w' => e = .returned (.bool true) ∧ Below w7.drew.heap.size (w7.drew.setCell ⟨xa1, 1 + pW p, none⟩ (.int .u64 (putv (Lk.getD (1 + pW p) 0) (bits .xor .u64 x1 x2) (pB p) p.1))) w') := by
              obtain ⟨go, co, gu, cu, gv, cv, gd, cd, ge, ce, hB, _, _⟩ := (S7.next (W' := w7.drew) (Below.refl _ _).drew).b1
              exact put_place w7.drew g1 xa1 xc1 go co gu cu gv cv gd cd ge ce data Lk hB p h5 hin.1 x1 x2 hV1 hV2
            have PUT2 : Hid (∀ w8, LawS w2 w8 g1 g2 xa1 xc1 xa2 xc2 data (Lk.set (1 + pW p) (putv (Lk.getD (1 + pW p) 0) (bits .xor .u64 x1 x2) (pB p) p.1)) (la0 data) → Calls Faig.prog 32 #[.pointer (some ⟨g2, 0, none⟩), .int .u8 1, .agg #[.int .u8 p.1, .int .u16 p.2, .int .u8 0, .bool false], .int .u64 x2, .int .u64 x2] w8 fun e w' => e = .returned (.bool true) ∧ Below w8.heap.size (w8.setCell ⟨xa2, 1 + pW p, none⟩ (.int .u64 (putv ((la0 data).getD (1 + pW p) 0) (bits .xor .u64 x2 x2) (pB p) p.1))) w') := by
              intro w8 S8
              obtain ⟨go, co, gu, cu, gv, cv, gd, cd, ge, ce, hB, _, _⟩ := S8.b2
              exact put_place w8 g2 xa2 xc2 go co gu cu gv cv gd cd ge ce data (la0 data) hB p h5 hin.1 x2 x2 hV2 hV2
            have hy1 : Hid (U64 (putv (Lk.getD (1 + pW p) 0) (bits .xor .u64 x1 x2) (pB p) p.1)) := putv_u64 _ _ _ _ (hu64 _) hin.2
            have hj1 : Hid (1 + pW p < Lk.length) := by unfold Hid; rw [hlen]; have := hin.1; omega
            have K8 : Hid (∀ w8, Below w7.heap.size (w7.setCell ⟨xa1, 1 + pW p, none⟩ (.int .u64 (putv (Lk.getD (1 + pW p) 0) (bits .xor .u64 x1 x2) (pB p) p.1))) w8 → w8.cell? ⟨pv, 0, none⟩ = some (.int .u8 p.1) ∧ w8.cell? ⟨pv, 1, none⟩ = some (.int .u16 p.2) ∧ w8.cell? ⟨pv, 2, none⟩ = some (.int .u8 0) ∧ w8.cell? ⟨pv, 3, none⟩ = some (.bool false)) := by
              intro w8 hb
              have hbk : w8.heap[pv]? = w7.heap[pv]? := (hb.block pv (Array.getElem?_eq_some_iff.1 pb7).1).trans (Below.heap_setCell _ _ _ _ (by show pv ≠ xa1; omega))
              have hb8 := hbk.trans pb7
              exact ⟨cell_of_block hb8 0, cell_of_block hb8 1, cell_of_block hb8 2, cell_of_block hb8 3⟩
            have FIN : Hid (∀ w8 w9, LawS w2 w8 g1 g2 xa1 xc1 xa2 xc2 data (Lk.set (1 + pW p) (putv (Lk.getD (1 + pW p) 0) (bits .xor .u64 x1 x2) (pB p) p.1)) (la0 data) → Below w8.heap.size (w8.setCell ⟨xa2, 1 + pW p, none⟩ (.int .u64 (putv ((la0 data).getD (1 + pW p) 0) (bits .xor .u64 x2 x2) (pB p) p.1))) w9 → LawS w2 w9 g1 g2 xa1 xc1 xa2 xc2 data Lk1 (la0 data)) := by
              intro w8 w9 S8 hb
              have h2 := S8.put2 (1 + pW p) (putv ((la0 data).getD (1 + pW p) 0) (bits .xor .u64 x2 x2) (pB p) p.1) (by rw [la0_len]; have := hin.1; omega) (putv_u64 _ _ _ _ (la0_u64 data hd8 _) hin.2) hb
              rw [la0_put data p x2 hV2 hin.1] at h2
              rw [HN.out]; exact h2
            clear S7 pb7 hin h5 hlen hu64
            go_region_law (first
              | (refine call_drawn rfl 31 #[.tmp 74, .tmp 75] #[22, 3] rfl Faig.f31 _ Faig.func31 rfl rfl #[.slice a1 len1 cap1, .int .i64 k] (by simp [Act.eval, Act.put]) _ (VC1.out _ hB7.out) ?_
                 rintro e w9 ⟨rfl, hw9⟩
                 subst w9
                 refine ⟨_, rfl, ?_⟩)
              | (refine call_drawn rfl 32 #[.tmp 72, .const (.int .u8 1), .tmp 73, .tmp 76, .tmp 77] #[71, 5, 78, 49, 49] rfl Faig.f32 _ Faig.func32 rfl rfl #[.pointer (some ⟨g1, 0, none⟩), .int .u8 1, .agg #[.int .u8 p.1, .int .u16 p.2, .int .u8 0, .bool false], .int .u64 x1, .int .u64 x2] (by simp [Act.eval, Act.put]) _ PUT1.out ?_
                 rintro e w8 ⟨rfl, hb8⟩
                 refine ⟨_, rfl, ?_⟩
                 have S8 := HS7.out.put1 (1 + pW p) (putv (Lk.getD (1 + pW p) 0) (bits .xor .u64 x1 x2) (pB p) p.1) hj1.out hy1.out (bdrew2 hb8)
                 have r0 := (K8.out w8 (bdrew2 hb8)).1
                 have r1 := (K8.out w8 (bdrew2 hb8)).2.1
                 have r2 := (K8.out w8 (bdrew2 hb8)).2.2.1
                 have r3 := (K8.out w8 (bdrew2 hb8)).2.2.2)
              | (refine call_drawn_g (by simp [Region.wanted, yielded, Act.put, go_sem]) 32 #[.tmp 81, .const (.int .u8 1), .tmp 82, .tmp 83, .tmp 84] #[71, 5, 78, 49, 49] rfl Faig.f32 _ Faig.func32 rfl rfl #[.pointer (some ⟨g2, 0, none⟩), .int .u8 1, .agg #[.int .u8 p.1, .int .u16 p.2, .int .u8 0, .bool false], .int .u64 x2, .int .u64 x2] (by simp [Act.eval, Act.put]) _ (PUT2.out w8 S8) ?_
                 rintro e w9 ⟨rfl, hb9⟩
                 refine ⟨_, rfl, ?_⟩)
              | fail)
            all_goals
              have HF : Hid (LawS w2 w9 g1 g2 xa1 xc1 xa2 xc2 data Lk1 (la0 data)) := FIN.out w8 w9 S8 hb9
              clear S8 hb9 hb8 r0 r1 r2 r3 FIN K8 PUT1 PUT2
              go_wp2_with fail
              go_roundw
              case rel => exact ⟨k + 1, by omega, by go_num, by rw [hLk1]; exact HF.out⟩
              case measure => simp [intOf]; omega
          · have htt : decide ((k : Int) < (n : Int)) = false := by simp; omega
            have ek : k = n := by omega
            subst ek
            have hu64 := putsN_u64 HI.out (la0 data) (fun i => bits .xor .u64 (l1.getD i 0) (l2.getD i 0)) (la0_u64 data hd8) (la0_len data) k (by omega)
            have hhead : (putsN (la0 data) P (fun i => bits .xor .u64 (l1.getD i 0) (l2.getD i 0)) k).getD 0 0 = msv 0 1 data 0 := putsN_head _ _ _ _
            have hSf : ∀ i, 0 ≤ bits .xor .u64 (l1.getD i 0) (l2.getD i 0) := fun i => (xor_u64 _ _ (VU1.out i) (VU2.out i)).1
            have GS : Hid (∀ i, i < k → fv (putsN (la0 data) P (fun i => bits .xor .u64 (l1.getD i 0) (l2.getD i 0)) k) (rootT data) data (P.getD i (1, 0)).1 ((P.getD i (1, 0)).2 : Int) = bits .xor .u64 (l1.getD i 0) (l2.getD i 0) % 2 ^ (P.getD i (1, 0)).1) := fun i hi => by
              have := set_fv HI.out (la0 data) (fun i => bits .xor .u64 (l1.getD i 0) (l2.getD i 0)) (la0_u64 data hd8) (la0_len data) hSf i (by omega)
              rw [hPn] at this; exact this
            obtain ⟨t1, ht1⟩ : ∃ t1, t1 = trimN ((putsN (la0 data) P (fun i => bits .xor .u64 (l1.getD i 0) (l2.getD i 0)) k).drop 1) data := ⟨_, rfl⟩
            have GC : Hid (∀ i, i < k → fv (msv 0 1 t1 0 :: ((putsN (la0 data) P (fun i => bits .xor .u64 (l1.getD i 0) (l2.getD i 0)) k).drop 1).take t1) (rootT t1) t1 (P.getD i (1, 0)).1 ((P.getD i (1, 0)).2 : Int) = bits .xor .u64 (l1.getD i 0) (l2.getD i 0) % 2 ^ (P.getD i (1, 0)).1) := fun i hi => by
              have := copy_fv HI.out (la0 data) (fun i => bits .xor .u64 (l1.getD i 0) (l2.getD i 0)) (la0_u64 data hd8) (la0_len data) hSf (msv 0 1 t1 0) i (by omega) t1 (by rw [hPn]; exact ht1)
              rw [hPn] at this; exact this
            have ht8 : t1 ≤ 8 := by have := trimN_le ((putsN (la0 data) P (fun i => bits .xor .u64 (l1.getD i 0) (l2.getD i 0)) k).drop 1) data; omega
            generalize putsN (la0 data) P (fun i => bits .xor .u64 (l1.getD i 0) (l2.getD i 0)) k = LN at *
            obtain ⟨ws1, hws1⟩ : ∃ ws1, ws1 = (LN.drop 1).take t1 := ⟨_, rfl⟩
            rw [← hws1] at GC
            have hwsU : ∀ i, U64 (ws1.getD i 0) := fun i => by
              rw [hws1]
              by_cases hi : i < t1
              · have e : ((LN.drop 1).take t1).getD i 0 = LN.getD (1 + i) 0 := by rw [List.getD_eq_getElem?_getD, List.getElem?_take, if_pos hi, List.getElem?_drop, List.getD_eq_getElem?_getD]
                rw [e]; exact hu64 _
              · have e : ((LN.drop 1).take t1).getD i 0 = 0 := by rw [List.getD_eq_getElem?_getD, List.getElem?_take, if_neg hi]; rfl
                rw [e]; exact ⟨by omega, by omega⟩
            have HT1 : Hid (t1 = trimN (LN.drop 1) data) := ht1
            have HW1 : Hid (ws1 = (LN.drop 1).take t1) := hws1
            have HWU : Hid (∀ i, U64 (ws1.getD i 0)) := hwsU
            have Hhead : Hid (LN.getD 0 0 = msv 0 1 data 0) := hhead
            have gA1 : wr.cell? ⟨g1, 0, none⟩ = some (.slice (some ⟨xa1, 0, none⟩) (1 + data) xc1) := by obtain ⟨_, _, _, _, _, _, _, _, _, _, hB, _, _⟩ := HS.out.b1; exact hB.arena
            have CP1 : Hid (Calls Faig.prog 33 #[.slice (some ⟨xa1, 0, none⟩) (1 + data) xc1] wr fun e w' => CanonP wr w' e t1 ws1) := by
              obtain ⟨_, _, _, _, _, _, _, _, _, _, hB, _, _⟩ := HS.out.b1
              exact copyOf_str wr data _ xc1 LN hd8 hB.row hhead t1 HT1 ws1 HW1
            clear ht1 hws1 hwsU hhead hu64 hSf
            go_wp2_with fail
            refine CP1.out.mono ?_
            rintro e w8 ⟨gC, capC, rfl, hb8, hO8, hgC⟩
            have S8 := HS.out.next hb8
            have RC8 : Row w8 (some ⟨gC, 0, none⟩) (1 + t1) (msv 0 1 t1 0 :: ws1) := canon_row hO8 ht8 HWU.out
            have gA2 : w8.cell? ⟨g2, 0, none⟩ = some (.slice (some ⟨xa2, 0, none⟩) (1 + data) xc2) := by obtain ⟨_, _, _, _, _, _, _, _, _, _, hB, _, _⟩ := S8.b2; exact hB.arena
            have CP2 : Hid (Calls Faig.prog 33 #[.slice (some ⟨xa2, 0, none⟩) (1 + data) xc2] w8 fun e w' => CanonP w8 w' e 0 []) := by
              obtain ⟨_, _, _, _, _, _, _, _, _, _, hB, _, _⟩ := S8.b2
              exact copyOf_str w8 data _ xc2 (la0 data) hd8 hB.row rfl 0 (trim_la0 data).symm [] (by simp [Hid])
            have HS8 : Hid (LawS w2 w8 g1 g2 xa1 xc1 xa2 xc2 data LN (la0 data)) := S8
            have HRC8 : Hid (Row w8 (some ⟨gC, 0, none⟩) (1 + t1) (msv 0 1 t1 0 :: ws1)) := RC8
            clear S8 RC8 hb8 hO8 hgC CP1 gA1
            go_wp2_with fail
            refine CP2.out.mono ?_
            rintro e w9 ⟨gE, capE, rfl, hb9, hO9, hgE⟩
            have S9 := HS8.out.next hb9
            have RC9 := HRC8.out.below hb9 (Nat.le_refl _)
            have RE9 : Row w9 (some ⟨gE, 0, none⟩) (1 + 0) [msv 0 1 0 0] := canon_row hO9 (by omega) (fun i => by simp; exact ⟨by omega, by omega⟩)
            have em : msv 0 1 0 0 = 4294967292 := by decide
            have RE9' : Row w9 (some ⟨gE, 0, none⟩) 1 [4294967292] := by rw [em] at RE9; exact RE9
            have HS9 : Hid (LawS w2 w9 g1 g2 xa1 xc1 xa2 xc2 data LN (la0 data)) := S9
            have HRC9 : Hid (Row w9 (some ⟨gC, 0, none⟩) (1 + t1) (msv 0 1 t1 0 :: ws1)) := RC9
            have HRE9 : Hid (Row w9 (some ⟨gE, 0, none⟩) 1 [4294967292]) := RE9'
            clear S9 RC9 RE9 RE9' hb9 hO9 hgE CP2 gA2 em HRC8 HS8
            have SW : Hid (Calls Faig.prog 16 #[.slice (some ⟨gE, 0, none⟩) 1 capE, .slice (some ⟨w9.heap.size, 0, none⟩) 1 1] (w9.alloc (.cells #[.int .u64 4294967292] 49 (0, 0))) fun e w' => e = .returned (.bool true) ∧ Below (w9.alloc (.cells #[.int .u64 4294967292] 49 (0, 0))).heap.size (w9.alloc (.cells #[.int .u64 4294967292] 49 (0, 0))) w') := by
              refine same_any _ _ _ 1 capE 1 [4294967292] (HRE9.out.alloc _) ⟨rfl, fun i => ?_, by decide, Or.inr ⟨w9.heap.size, 0, rfl, by simp, fun i hi => ?_⟩⟩ (by decide)
              · cases i with
                | zero => exact ⟨by decide, by decide⟩
                | succ i => exact ⟨by simp, by simp⟩
              · have : i = 0 := by omega
                subst this
                exact cell_of_block (bk1 w9 _) 0
            go_wp2_with fail
            refine SW.out.mono ?_
            rintro e w10 ⟨rfl, hb10⟩
            have B10 : Below w9.heap.size w9 w10 := ((Below.refl _ _).alloc (Nat.le_refl _) _).trans (hb10.mono (by simp))
            have HS10 : Hid (LawS w2 w10 g1 g2 xa1 xc1 xa2 xc2 data LN (la0 data)) := HS9.out.next B10
            have HRC10 : Hid (Row w10 (some ⟨gC, 0, none⟩) (1 + t1) (msv 0 1 t1 0 :: ws1)) := HRC9.out.below B10 (Nat.le_refl _)
            have HRE10 : Hid (Row w10 (some ⟨gE, 0, none⟩) 1 [4294967292]) := HRE9.out.below B10 (Nat.le_refl _)
            have HRS10 : Hid (Row w10 (some ⟨xa1, 0, none⟩) (1 + data) LN) := by obtain ⟨_, _, _, _, _, _, _, _, _, _, hB, _, _⟩ := HS10.out.b1; exact hB.row
            have gA1 : w10.cell? ⟨g1, 0, none⟩ = some (.slice (some ⟨xa1, 0, none⟩) (1 + data) xc1) := by obtain ⟨_, _, _, _, _, _, _, _, _, _, hB, _, _⟩ := HS10.out.b1; exact hB.arena
            have lg1 : g1 < w10.heap.size := by obtain ⟨_, _, _, _, _, _, _, _, _, _, hB, _, _⟩ := HS10.out.b1; exact hB.l0
            have HgA1 : Hid (w10.cell? ⟨g1, 0, none⟩ = some (.slice (some ⟨xa1, 0, none⟩) (1 + data) xc1)) := gA1
            clear hb10 B10 SW HS9 HRC9 HRE9
            have RX : Hid (∀ W, Below w10.heap.size w10 W → Calls Faig.prog 34 #[.slice (some ⟨xa1, 0, none⟩) (1 + data) xc1] W fun e w' => e = .returned (.tuple #[.agg #[.int .u8 1, .int .u16 (rootT data), .int .u8 data, .int .u8 0, .int .u8 0, .int .u16 0], .bool true]) ∧ Below W.heap.size W w') := fun W hB => root_any _ _ _ LN W (HRS10.out.below hB (Nat.le_refl _)) ⟨1, rootT data, data, 0, 0, 0, true⟩ (res_msv data hd8 LN HRS10.out.1 Hhead.out)
            have RY : Hid (∀ W, Below w10.heap.size w10 W → Calls Faig.prog 34 #[.slice (some ⟨gC, 0, none⟩) (1 + t1) capC] W fun e w' => e = .returned (.tuple #[.agg #[.int .u8 1, .int .u16 (rootT t1), .int .u8 t1, .int .u8 0, .int .u8 0, .int .u16 0], .bool true]) ∧ Below W.heap.size W w') := fun W hB => root_any _ _ _ _ W (HRC10.out.below hB (Nat.le_refl _)) ⟨1, rootT t1, t1, 0, 0, 0, true⟩ (res_msv t1 ht8 _ HRC10.out.1 rfl)
            have RZ : Hid (∀ W, Below w10.heap.size w10 W → Calls Faig.prog 34 #[.slice (some ⟨gE, 0, none⟩) 1 capE] W fun e w' => e = .returned (.tuple #[.agg #[.int .u8 1, .int .u16 0, .int .u8 0, .int .u8 0, .int .u8 0, .int .u16 0], .bool true]) ∧ Below W.heap.size W w') := fun W hB => root_any _ _ _ _ W (HRE10.out.below hB (Nat.le_refl _)) ⟨1, 0, 0, 0, 0, 0, true⟩ (res_msv 0 (by omega) _ rfl (by decide))
            go_wp2_with fail
            refine (RX.out w10 (Below.refl _ _)).mono ?_
            rintro e w11 ⟨rfl, hb11⟩
            have B12 : Below w10.heap.size w10 (w11.alloc (.cells #[.int .u8 1, .int .u16 (rootT data), .int .u8 data, .int .u8 0, .int .u8 0, .int .u16 0] 88 (0, 0))) := kal hb11 _
            have bx : (w11.alloc (.cells #[.int .u8 1, .int .u16 (rootT data), .int .u8 data, .int .u8 0, .int .u8 0, .int .u16 0] 88 (0, 0))).heap[w11.heap.size]? = some (.cells #[.int .u8 1, .int .u16 (rootT data), .int .u8 data, .int .u8 0, .int .u8 0, .int .u16 0] 88 (0, 0)) := bk1 w11 _
            clear hb11
            go_wp2_with fail
            generalize w11.alloc (.cells #[.int .u8 1, .int .u16 (rootT data), .int .u8 data, .int .u8 0, .int .u8 0, .int .u16 0] 88 (0, 0)) = w12 at B12 bx ⊢
            generalize w11.heap.size = ax at bx ⊢
            refine (RY.out w12 B12).mono ?_
            rintro e w13 ⟨rfl, hb13⟩
            have B14 : Below w12.heap.size w12 (w13.alloc (.cells #[.int .u8 1, .int .u16 (rootT t1), .int .u8 t1, .int .u8 0, .int .u8 0, .int .u16 0] 88 (0, 0))) := kal hb13 _
            have by_ : (w13.alloc (.cells #[.int .u8 1, .int .u16 (rootT t1), .int .u8 t1, .int .u8 0, .int .u8 0, .int .u16 0] 88 (0, 0))).heap[w13.heap.size]? = some (.cells #[.int .u8 1, .int .u16 (rootT t1), .int .u8 t1, .int .u8 0, .int .u8 0, .int .u16 0] 88 (0, 0)) := bk1 w13 _
            have bx' : (w13.alloc (.cells #[.int .u8 1, .int .u16 (rootT t1), .int .u8 t1, .int .u8 0, .int .u8 0, .int .u16 0] 88 (0, 0))).heap[ax]? = some (.cells #[.int .u8 1, .int .u16 (rootT data), .int .u8 data, .int .u8 0, .int .u8 0, .int .u16 0] 88 (0, 0)) := (B14.block ax (Array.getElem?_eq_some_iff.1 bx).1).trans bx
            clear hb13
            go_wp2_with fail
            generalize w13.alloc (.cells #[.int .u8 1, .int .u16 (rootT t1), .int .u8 t1, .int .u8 0, .int .u8 0, .int .u16 0] 88 (0, 0)) = w14 at B14 by_ bx' ⊢
            generalize w13.heap.size = ay at by_ ⊢
            have B14' : Below w10.heap.size w10 w14 := B12.trans (B14.mono B12.size)
            refine (RZ.out w14 B14').mono ?_
            rintro e w15 ⟨rfl, hb15⟩
            have B16 : Below w14.heap.size w14 (w15.alloc (.cells #[.int .u8 1, .int .u16 0, .int .u8 0, .int .u8 0, .int .u8 0, .int .u16 0] 88 (0, 0))) := kal hb15 _
            have bz : (w15.alloc (.cells #[.int .u8 1, .int .u16 0, .int .u8 0, .int .u8 0, .int .u8 0, .int .u16 0] 88 (0, 0))).heap[w15.heap.size]? = some (.cells #[.int .u8 1, .int .u16 0, .int .u8 0, .int .u8 0, .int .u8 0, .int .u16 0] 88 (0, 0)) := bk1 w15 _
            have bx2 : (w15.alloc (.cells #[.int .u8 1, .int .u16 0, .int .u8 0, .int .u8 0, .int .u8 0, .int .u16 0] 88 (0, 0))).heap[ax]? = some (.cells #[.int .u8 1, .int .u16 (rootT data), .int .u8 data, .int .u8 0, .int .u8 0, .int .u16 0] 88 (0, 0)) := (B16.block ax (Array.getElem?_eq_some_iff.1 bx').1).trans bx'
            have by2 : (w15.alloc (.cells #[.int .u8 1, .int .u16 0, .int .u8 0, .int .u8 0, .int .u8 0, .int .u16 0] 88 (0, 0))).heap[ay]? = some (.cells #[.int .u8 1, .int .u16 (rootT t1), .int .u8 t1, .int .u8 0, .int .u8 0, .int .u16 0] 88 (0, 0)) := (B16.block ay (Array.getElem?_eq_some_iff.1 by_).1).trans by_
            clear hb15
            go_wp2_with fail
            generalize w15.alloc (.cells #[.int .u8 1, .int .u16 0, .int .u8 0, .int .u8 0, .int .u8 0, .int .u16 0] 88 (0, 0)) = wB at B16 bz bx2 by2 ⊢
            generalize w15.heap.size = az at bz ⊢
            have HBB : Hid (Below w10.heap.size w10 wB) := B14'.trans (B16.mono B14'.size)
            have HSB : Hid (LawS w2 wB g1 g2 xa1 xc1 xa2 xc2 data LN (la0 data)) := HS10.out.next HBB.out
            have HRCB : Hid (Row wB (some ⟨gC, 0, none⟩) (1 + t1) (msv 0 1 t1 0 :: ws1)) := HRC10.out.below HBB.out (Nat.le_refl _)
            have HREB : Hid (Row wB (some ⟨gE, 0, none⟩) 1 [4294967292]) := HRE10.out.below HBB.out (Nat.le_refl _)
            have HRSB : Hid (Row wB (some ⟨xa1, 0, none⟩) (1 + data) LN) := HRS10.out.below HBB.out (Nat.le_refl _)
            have HgAB : Hid (wB.cell? ⟨g1, 0, none⟩ = some (.slice (some ⟨xa1, 0, none⟩) (1 + data) xc1)) := (HBB.out.cell (p := ⟨g1, 0, none⟩) lg1).trans HgA1.out
            have lgB : g1 < wB.heap.size := Nat.lt_of_lt_of_le lg1 HBB.out.size
            have HX : Hid (wB.heap[ax]? = some (.cells #[.int .u8 1, .int .u16 (rootT data), .int .u8 data, .int .u8 0, .int .u8 0, .int .u16 0] 88 (0, 0))) := bx2
            have HY : Hid (wB.heap[ay]? = some (.cells #[.int .u8 1, .int .u16 (rootT t1), .int .u8 t1, .int .u8 0, .int .u8 0, .int .u16 0] 88 (0, 0))) := by2
            have HZ : Hid (wB.heap[az]? = some (.cells #[.int .u8 1, .int .u16 0, .int .u8 0, .int .u8 0, .int .u8 0, .int .u16 0] 88 (0, 0))) := bz
            clear B12 bx B14 by_ bx' B14' B16 bz bx2 by2 RX RY RZ HS10 HRC10 HRE10 HRS10 gA1 HgA1 lg1 HS HT1 HW1 HWU
            go_loopw [137, 29, 30, 31, 32, 33, 34] (fun i _ _ _ _ _ _ W => ∃ j : Nat, j ≤ k ∧ i = .int .i64 j ∧ Below wB.heap.size wB W) (fun i _ _ _ _ _ _ _ => k - (intOf i).toNat)
            case atStart => exact ⟨0, Nat.zero_le _, rfl, Below.refl _ _⟩
            case round =>
              obtain ⟨j, hj, rfl, hBW⟩ := hrel
              have HBW : Hid (Below wB.heap.size wB wr) := hBW
              by_cases hlt2 : j < k
              · have htt2 : decide ((j : Int) < (k : Int)) = true := by simp; omega
                obtain ⟨gp, rfl, hpc, hgp⟩ := (HPC.out.below (HSB.out.below.trans (hBW.mono HSB.out.below.size))) (by omega)
                have c0 := hpc.c0 j (by omega); have c1 := hpc.c1 j (by omega); have c2 := hpc.c2 j (by omega); have c3 := hpc.c3 j (by omega)
                have lgp := hpc.lt
                have hmem := getD_mem (show j < P.length by omega)
                have h5 := HI.out.s5 _ hmem
                have hin := HI.out.ins _ hmem
                have gs := GS.out j hlt2
                have gc := GC.out j hlt2
                have hV1 := VU1.out j
                have hV2 := VU2.out j
                have hBw : Below w.heap.size w wr := HB2.out.trans ((HSB.out.below.trans (hBW.mono HSB.out.below.size)).mono HB2.out.size)
                have VC1 : Hid (∀ W, Below w.heap.size w W → Calls Faig.prog 31 #[.slice a1 len1 cap1, .int .i64 j] W fun e w' => e = .returned (.int .u64 (l1.getD j 0)) ∧ w' = W) := fun W hB => value_any a1 len1 cap1 l1 j (by omega) (by omega) W (R1.out W hB)
                have VC2 : Hid (∀ W, Below w.heap.size w W → Calls Faig.prog 31 #[.slice a2 len2 cap2, .int .i64 j] W fun e w' => e = .returned (.int .u64 (l2.getD j 0)) ∧ w' = W) := fun W hB => value_any a2 len2 cap2 l2 j (by omega) (by omega) W (R2.out W hB)
                generalize l1.getD j 0 = x1 at *
                generalize l2.getD j 0 = x2 at *
                clear hmem hpc hBW
                generalize P.getD j (1, 0) = p at *
                obtain ⟨S, off⟩ := p
                simp only at c0 c1 c2 c3 h5 hin gs gc
                have hS1 : 1 ≤ S := five_pos h5
                have hS64 : S ≤ 64 := by rcases h5 with h | h | h | h | h <;> omega
                obtain ⟨C, hC⟩ : ∃ C, C = 64 - S := ⟨_, rfl⟩
                have hcw : IntKind.u8.wrap (64 - (S : Int)) = (C : Int) := by rw [wrapU8_in _ (by omega) (by omega)]; omega
                have hc63 : (C : Int) < 64 := by omega
                have hc0 : (0 : Int) ≤ (C : Int) := by omega
                have hv1 : IntKind.u64.wrap (x1 * 2 ^ C) / 2 ^ C = x1 % 2 ^ S := by rw [hC]; exact shl_shr x1 S hS64 hV1
                have hv2 : IntKind.u64.wrap (x2 * 2 ^ C) / 2 ^ C = x2 % 2 ^ S := by rw [hC]; exact shl_shr x2 S hS64 hV2
                have hV1m := mod_u64 x1 S hV1
                have hV2m := mod_u64 x2 S hV2
                have r1 := xor_cut x1 x2 S hV1 hV2
                have hpw8 : pW (S, off) < 8 := by have := hin.1; omega
                generalize hV1e : x1 % 2 ^ S = V1 at *
                generalize hV2e : x2 % 2 ^ S = V2 at *
                have G1 : Hid (∀ W, Below wB.heap.size wB W → Calls Faig.prog 35 #[.slice (some ⟨xa1, 0, none⟩) (1 + data) xc1, .agg #[.int .u8 1, .int .u16 (rootT data), .int .u8 data, .int .u8 0, .int .u8 0, .int .u16 0], .agg #[.int .u8 (S : Int), .int .u16 (off : Int), .int .u8 0, .bool false], .int .u64 x2] W fun e w' => e = .returned (.int .u64 V1) ∧ Below W.heap.size W w') := fun W hB => by
                  have := get_place (some ⟨xa1, 0, none⟩) (1 + data) xc1 LN 1 (rootT data) data x2 (S, off) h5 hpw8 (by omega) (fits_root data hd8) hV2 W (HRSB.out.below hB (Nat.le_refl _))
                  simp only at this
                  rw [gs, hV2e, r1] at this
                  exact this
                have G2 : Hid (∀ W, Below wB.heap.size wB W → Calls Faig.prog 35 #[.slice (some ⟨gC, 0, none⟩) (1 + t1) capC, .agg #[.int .u8 1, .int .u16 (rootT t1), .int .u8 t1, .int .u8 0, .int .u8 0, .int .u16 0], .agg #[.int .u8 (S : Int), .int .u16 (off : Int), .int .u8 0, .bool false], .int .u64 x2] W fun e w' => e = .returned (.int .u64 V1) ∧ Below W.heap.size W w') := fun W hB => by
                  have := get_place (some ⟨gC, 0, none⟩) (1 + t1) capC (msv 0 1 t1 0 :: ws1) 1 (rootT t1) t1 x2 (S, off) h5 hpw8 (by omega) (fits_root t1 ht8) hV2 W (HRCB.out.below hB (Nat.le_refl _))
                  simp only at this
                  rw [gc, hV2e, r1] at this
                  exact this
                have G3 : Hid (∀ W, Below wB.heap.size wB W → Calls Faig.prog 35 #[.slice (some ⟨gE, 0, none⟩) 1 capE, .agg #[.int .u8 1, .int .u16 0, .int .u8 0, .int .u8 0, .int .u8 0, .int .u16 0], .agg #[.int .u8 (S : Int), .int .u16 (off : Int), .int .u8 0, .bool false], .int .u64 x2] W fun e w' => e = .returned (.int .u64 V2) ∧ Below W.heap.size W w') := fun W hB => by
                  have := get_place (some ⟨gE, 0, none⟩) 1 capE [4294967292] 1 0 0 x2 (S, off) h5 hpw8 (by omega) ⟨⟨by omega, by omega⟩, ⟨by omega, by omega⟩, by omega, by omega, Or.inl rfl⟩ hV2 W (HREB.out.below hB (Nat.le_refl _))
                  have h0 : fv [4294967292] 0 0 S (off : Int) = 0 := fv_out [4294967292] 0 0 (S, off) (Nat.zero_le _)
                  simp only at this
                  rw [h0, hV2e, xor_zero_left V2 hV2m] at this
                  exact this
                have G4 : Hid (∀ W, Below wB.heap.size wB W → Calls Faig.prog 35 #[.slice none 0 0, .agg #[.int .u8 0, .int .u16 0, .int .u8 0, .int .u8 0, .int .u8 0, .int .u16 0], .agg #[.int .u8 (S : Int), .int .u16 (off : Int), .int .u8 0, .bool false], .int .u64 x2] W fun e w' => e = .returned (.int .u64 V2) ∧ Below W.heap.size W w') := fun W hB => by
                  have := get_place none 0 0 [] 0 0 0 x2 (S, off) h5 hpw8 (by omega) ⟨⟨by omega, by omega⟩, ⟨by omega, by omega⟩, by omega, by omega, Or.inl rfl⟩ hV2 W ⟨rfl, fun i => by simp; exact ⟨by omega, by omega⟩, by decide, Or.inl rfl⟩
                  have h0 : fv [] 0 0 S (off : Int) = 0 := fv_out [] 0 0 (S, off) (Nat.zero_le _)
                  simp only at this
                  rw [h0, hV2e, xor_zero_left V2 hV2m] at this
                  exact this
                clear gs gc r1 hV1e hV2e h5 hin hC
                go_wp2_with fail
                refine (VC1.out _ (hBw.alloc hBw.size _)).mono ?_
                rintro e w' ⟨rfl, hw'⟩
                subst w'
                go_wp2_with fail
                refine (VC2.out _ (hBw.alloc hBw.size _)).mono ?_
                rintro e w' ⟨rfl, hw'⟩
                subst w'
                go_wp2_with fail
                refine (VC2.out _ (hBw.alloc hBw.size _)).mono ?_
                rintro e w' ⟨rfl, hw'⟩
                subst w'
                have B17 : Below wB.heap.size wB (wr.alloc (.cells #[.int .u8 (S : Int), .int .u16 (off : Int), .int .u8 0, .bool false] 78 (0, 0))) := kal HBW.out _
                have pb17 : (wr.alloc (.cells #[.int .u8 (S : Int), .int .u16 (off : Int), .int .u8 0, .bool false] 78 (0, 0))).heap[wr.heap.size]? = some (.cells #[.int .u8 (S : Int), .int .u16 (off : Int), .int .u8 0, .bool false] 78 (0, 0)) := bk1 wr _
                go_wp2_with fail
                generalize wr.alloc (.cells #[.int .u8 (S : Int), .int .u16 (off : Int), .int .u8 0, .bool false] 78 (0, 0)) = w17 at B17 pb17 ⊢
                generalize wr.heap.size = pv at pb17 ⊢
                have HB17 : Hid (Below wB.heap.size wB w17) := B17
                have HSt : Hid (∀ w' : World, Below w17.heap.size w17 w' → (Below w17.heap.size w17 w' ∧ w'.cell? ⟨g1, 0, none⟩ = some (.slice (some ⟨xa1, 0, none⟩) (1 + data) xc1) ∧ w'.cell? ⟨ax, 0, none⟩ = some (.int .u8 1) ∧ w'.cell? ⟨ax, 1, none⟩ = some (.int .u16 (rootT data)) ∧ w'.cell? ⟨ax, 2, none⟩ = some (.int .u8 data) ∧ w'.cell? ⟨ax, 3, none⟩ = some (.int .u8 0) ∧ w'.cell? ⟨ax, 4, none⟩ = some (.int .u8 0) ∧ w'.cell? ⟨ax, 5, none⟩ = some (.int .u16 0) ∧ w'.cell? ⟨ay, 0, none⟩ = some (.int .u8 1) ∧ w'.cell? ⟨ay, 1, none⟩ = some (.int .u16 (rootT t1)) ∧ w'.cell? ⟨ay, 2, none⟩ = some (.int .u8 t1) ∧ w'.cell? ⟨ay, 3, none⟩ = some (.int .u8 0) ∧ w'.cell? ⟨ay, 4, none⟩ = some (.int .u8 0) ∧ w'.cell? ⟨ay, 5, none⟩ = some (.int .u16 0) ∧ w'.cell? ⟨az, 0, none⟩ = some (.int .u8 1) ∧ w'.cell? ⟨az, 1, none⟩ = some (.int .u16 0) ∧ w'.cell? ⟨az, 2, none⟩ = some (.int .u8 0) ∧ w'.cell? ⟨az, 3, none⟩ = some (.int .u8 0) ∧ w'.cell? ⟨az, 4, none⟩ = some (.int .u8 0) ∧ w'.cell? ⟨az, 5, none⟩ = some (.int .u16 0) ∧ w'.cell? ⟨pv, 0, none⟩ = some (.int .u8 (S : Int)) ∧ w'.cell? ⟨pv, 1, none⟩ = some (.int .u16 (off : Int)) ∧ w'.cell? ⟨pv, 2, none⟩ = some (.int .u8 0) ∧ w'.cell? ⟨pv, 3, none⟩ = some (.bool false))) := by
                  intro w' hb
                  have B' : Below wB.heap.size wB w' := B17.trans (hb.mono B17.size)
                  have bX := (B'.block ax (Array.getElem?_eq_some_iff.1 HX.out).1).trans HX.out
                  have bY := (B'.block ay (Array.getElem?_eq_some_iff.1 HY.out).1).trans HY.out
                  have bZ := (B'.block az (Array.getElem?_eq_some_iff.1 HZ.out).1).trans HZ.out
                  have bP := (hb.block pv (Array.getElem?_eq_some_iff.1 pb17).1).trans pb17
                  exact ⟨hb, (B'.cell (p := ⟨g1, 0, none⟩) lgB).trans HgAB.out, cell_of_block bX 0, cell_of_block bX 1, cell_of_block bX 2, cell_of_block bX 3, cell_of_block bX 4, cell_of_block bX 5, cell_of_block bY 0, cell_of_block bY 1, cell_of_block bY 2, cell_of_block bY 3, cell_of_block bY 4, cell_of_block bY 5, cell_of_block bZ 0, cell_of_block bZ 1, cell_of_block bZ 2, cell_of_block bZ 3, cell_of_block bZ 4, cell_of_block bZ 5, cell_of_block bP 0, cell_of_block bP 1, cell_of_block bP 2, cell_of_block bP 3⟩
                have GB : Hid (∀ w', Below w17.heap.size w17 w' → Below wB.heap.size wB w') := fun w' hb => HB17.out.trans (hb.mono HB17.out.size)
                clear B17 pb17 c0 c1 c2 c3 lgp
                go_region_held3 (fun w' => Below w17.heap.size w17 w' ∧ w'.cell? ⟨g1, 0, none⟩ = some (.slice (some ⟨xa1, 0, none⟩) (1 + data) xc1) ∧ w'.cell? ⟨ax, 0, none⟩ = some (.int .u8 1) ∧ w'.cell? ⟨ax, 1, none⟩ = some (.int .u16 (rootT data)) ∧ w'.cell? ⟨ax, 2, none⟩ = some (.int .u8 data) ∧ w'.cell? ⟨ax, 3, none⟩ = some (.int .u8 0) ∧ w'.cell? ⟨ax, 4, none⟩ = some (.int .u8 0) ∧ w'.cell? ⟨ax, 5, none⟩ = some (.int .u16 0) ∧ w'.cell? ⟨ay, 0, none⟩ = some (.int .u8 1) ∧ w'.cell? ⟨ay, 1, none⟩ = some (.int .u16 (rootT t1)) ∧ w'.cell? ⟨ay, 2, none⟩ = some (.int .u8 t1) ∧ w'.cell? ⟨ay, 3, none⟩ = some (.int .u8 0) ∧ w'.cell? ⟨ay, 4, none⟩ = some (.int .u8 0) ∧ w'.cell? ⟨ay, 5, none⟩ = some (.int .u16 0) ∧ w'.cell? ⟨az, 0, none⟩ = some (.int .u8 1) ∧ w'.cell? ⟨az, 1, none⟩ = some (.int .u16 0) ∧ w'.cell? ⟨az, 2, none⟩ = some (.int .u8 0) ∧ w'.cell? ⟨az, 3, none⟩ = some (.int .u8 0) ∧ w'.cell? ⟨az, 4, none⟩ = some (.int .u8 0) ∧ w'.cell? ⟨az, 5, none⟩ = some (.int .u16 0) ∧ w'.cell? ⟨pv, 0, none⟩ = some (.int .u8 (S : Int)) ∧ w'.cell? ⟨pv, 1, none⟩ = some (.int .u16 (off : Int)) ∧ w'.cell? ⟨pv, 2, none⟩ = some (.int .u8 0) ∧ w'.cell? ⟨pv, 3, none⟩ = some (.bool false))
                  (first | exact HSt.out _ (Below.refl _ _).drew | exact HSt.out _ (held2 (And.left (by assumption)) (by assumption) (Nat.le_refl _)) | assumption)
                  (first
                    | (go_at_call 35; with_reducible refine (G1.out _ (GB.out _ (And.left (by assumption)))).mono ?_; rintro e w1 ⟨rfl, hb1⟩)
                    | (go_at_call 35; with_reducible refine (G2.out _ (GB.out _ (And.left (by assumption)))).mono ?_; rintro e w1 ⟨rfl, hb1⟩)
                    | (go_at_call 35; with_reducible refine (G3.out _ (GB.out _ (And.left (by assumption)))).mono ?_; rintro e w1 ⟨rfl, hb1⟩)
                    | (go_at_call 35; with_reducible refine (G4.out _ (GB.out _ (And.left (by assumption)))).mono ?_; rintro e w1 ⟨rfl, hb1⟩))
                all_goals
                  have HW : Hid (∀ w', Below w17.heap.size w17 w' → Below wB.heap.size wB w') := GB
                  clear G1 G2 G3 G4 HSt VC1 VC2
                  go_wp2_with fail
                  go_roundw
                  case rel => exact ⟨j + 1, by omega, by go_num, HW.out _ (And.left (by assumption))⟩
                  case measure => simp [intOf]; omega
              · have htt2 : decide ((j : Int) < (k : Int)) = false := by simp; omega
                clear hBW
                have B18 : Below wB.heap.size wB (wr.alloc (.cells #[.int .u8 0, .int .u16 0, .int .u8 0, .bool true] 78 (0, 0))) := kal HBW.out _
                have pb18 : (wr.alloc (.cells #[.int .u8 0, .int .u16 0, .int .u8 0, .bool true] 78 (0, 0))).heap[wr.heap.size]? = some (.cells #[.int .u8 0, .int .u16 0, .int .u8 0, .bool true] 78 (0, 0)) := bk1 wr _
                go_wp2_with fail
                generalize wr.alloc (.cells #[.int .u8 0, .int .u16 0, .int .u8 0, .bool true] 78 (0, 0)) = w18 at B18 pb18 ⊢
                generalize wr.heap.size = pv at pb18 ⊢
                have HSt : Hid (∀ w' : World, Below w18.heap.size w18 w' → (Below w18.heap.size w18 w' ∧ w'.cell? ⟨g1, 0, none⟩ = some (.slice (some ⟨xa1, 0, none⟩) (1 + data) xc1) ∧ w'.cell? ⟨ax, 0, none⟩ = some (.int .u8 1) ∧ w'.cell? ⟨ax, 1, none⟩ = some (.int .u16 (rootT data)) ∧ w'.cell? ⟨ax, 2, none⟩ = some (.int .u8 data) ∧ w'.cell? ⟨ax, 3, none⟩ = some (.int .u8 0) ∧ w'.cell? ⟨ax, 4, none⟩ = some (.int .u8 0) ∧ w'.cell? ⟨ax, 5, none⟩ = some (.int .u16 0) ∧ w'.cell? ⟨pv, 0, none⟩ = some (.int .u8 0) ∧ w'.cell? ⟨pv, 1, none⟩ = some (.int .u16 0) ∧ w'.cell? ⟨pv, 2, none⟩ = some (.int .u8 0) ∧ w'.cell? ⟨pv, 3, none⟩ = some (.bool true))) := by
                  intro w' hb
                  have B' : Below wB.heap.size wB w' := B18.trans (hb.mono B18.size)
                  have bX := (B'.block ax (Array.getElem?_eq_some_iff.1 HX.out).1).trans HX.out
                  have bP := (hb.block pv (Array.getElem?_eq_some_iff.1 pb18).1).trans pb18
                  exact ⟨hb, (B'.cell (p := ⟨g1, 0, none⟩) lgB).trans HgAB.out, cell_of_block bX 0, cell_of_block bX 1, cell_of_block bX 2, cell_of_block bX 3, cell_of_block bX 4, cell_of_block bX 5, cell_of_block bP 0, cell_of_block bP 1, cell_of_block bP 2, cell_of_block bP 3⟩
                have END : Hid (∀ w', Below w18.heap.size w18 w' → Below w.heap.size w w') := fun w' hb => by
                  have b1 : Below wB.heap.size wB w' := B18.trans (hb.mono B18.size)
                  have b2 : Below w2.heap.size w2 w' := HSB.out.below.trans (b1.mono HSB.out.below.size)
                  exact HB2.out.trans (b2.mono HB2.out.size)
                clear B18 pb18
                go_region_held3 (fun w' => Below w18.heap.size w18 w' ∧ w'.cell? ⟨g1, 0, none⟩ = some (.slice (some ⟨xa1, 0, none⟩) (1 + data) xc1) ∧ w'.cell? ⟨ax, 0, none⟩ = some (.int .u8 1) ∧ w'.cell? ⟨ax, 1, none⟩ = some (.int .u16 (rootT data)) ∧ w'.cell? ⟨ax, 2, none⟩ = some (.int .u8 data) ∧ w'.cell? ⟨ax, 3, none⟩ = some (.int .u8 0) ∧ w'.cell? ⟨ax, 4, none⟩ = some (.int .u8 0) ∧ w'.cell? ⟨ax, 5, none⟩ = some (.int .u16 0) ∧ w'.cell? ⟨pv, 0, none⟩ = some (.int .u8 0) ∧ w'.cell? ⟨pv, 1, none⟩ = some (.int .u16 0) ∧ w'.cell? ⟨pv, 2, none⟩ = some (.int .u8 0) ∧ w'.cell? ⟨pv, 3, none⟩ = some (.bool true))
                  (first | exact HSt.out _ (Below.refl _ _).drew | exact HSt.out _ (held2 (And.left (by assumption)) (by assumption) (Nat.le_refl _)) | assumption)
                  (first
                    | (go_at_call 32; refine (putPtr _ _ _ _).mono ?_; rintro e w1 ⟨rfl, hb1⟩)
                    | (go_at_call 35; refine (getPtr _ _ _ _ _ _ _ _ _).mono ?_; rintro e w1 ⟨rfl, hb1⟩))
                all_goals
                  go_wp2_with fail
                  go_ret
                  exact ⟨rfl, END.out _ (And.left (by assumption))⟩
end Go.Proofs.Ygcfai

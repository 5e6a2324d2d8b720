/-
  DefaultBack: PutDefault and GetDefault at a place, whatever its width; the builder of one struct.
-/
import Derived.Test.YgcfaiLawA
import Derived.Test.YgcfaiLawP
import Derived.Test.YgcfaiDefK
namespace Go.Proofs.Ygcfai
open Go.RowKit Go.Joins Plain
set_option linter.unusedVariables false
set_option linter.unusedSimpArgs false
theorem put_place (w : World) (g ga ca go co gu cu gv cv gd cd ge ce d : Nat) (la : List Int) (h : Bld w g ga ca go co gu cu gv cv gd cd ge ce d la) (p : Nat × Nat) (h5 : five p.1) (hin : pW p < d) (v df : Int) (hv : U64 v) (hdf : U64 df) :
    Calls Faig.prog 32 #[.pointer (some ⟨g, 0, none⟩), .int .u8 1, .agg #[.int .u8 p.1, .int .u16 p.2, .int .u8 0, .bool false], .int .u64 v, .int .u64 df] w fun e w' => e = .returned (.bool true) ∧
      Below w.heap.size (w.setCell ⟨ga, 1 + pW p, none⟩ (.int .u64 (putv (la.getD (1 + pW p) 0) (bits .xor .u64 v df) (pB p) p.1))) w' := by
  obtain ⟨S, off⟩ := p
  have hx := xor_u64 v df hv hdf
  simp only at h5
  unfold pW pB at *
  simp only at *
  rcases h5 with rfl | rfl | rfl | rfl | rfl
  · have := putDefault_1 w g ga ca go co gu cu gv cv gd cd ge ce d la h off v df (by omega) (by omega) hx
    have e1 : (1 + (off : Int) / 64).toNat = 1 + off * 1 / 64 := by omega
    have e2 : ((off : Int) % 64).toNat = off * 1 % 64 := by omega
    rw [e1, e2] at this; exact this
  · have := putDefault_8 w g ga ca go co gu cu gv cv gd cd ge ce d la h off v df (by omega) (by omega) hx
    have e1 : (1 + (off : Int) * 8 / 64).toNat = 1 + off * 8 / 64 := by omega
    have e2 : ((off : Int) * 8 % 64).toNat = off * 8 % 64 := by omega
    rw [e1, e2] at this; exact this
  · have := putDefault_16 w g ga ca go co gu cu gv cv gd cd ge ce d la h off v df (by omega) (by omega) hx
    have e1 : (1 + (off : Int) * 16 / 64).toNat = 1 + off * 16 / 64 := by omega
    have e2 : ((off : Int) * 16 % 64).toNat = off * 16 % 64 := by omega
    rw [e1, e2] at this; exact this
  · have := putDefault_32 w g ga ca go co gu cu gv cv gd cd ge ce d la h off v df (by omega) (by omega) hx
    have e1 : (1 + (off : Int) * 32 / 64).toNat = 1 + off * 32 / 64 := by omega
    have e2 : ((off : Int) * 32 % 64).toNat = off * 32 % 64 := by omega
    rw [e1, e2] at this; exact this
  · have := putDefault_64 w g ga ca go co gu cu gv cv gd cd ge ce d la h off v df (by omega) (by omega) hx
    have e1 : (1 + (off : Int)).toNat = 1 + off * 64 / 64 := by omega
    have e2 : (0 : Nat) = off * 64 % 64 := by omega
    rw [e1] at this
    rw [← e2]; exact this
theorem get_place (a : Option Addr) (len cap : Nat) (l : List Int) (k T dd df : Int) (p : Nat × Nat) (h5 : five p.1) (hin : pW p < 8) (hlen : len ≤ 256) (hf : Fits k T dd len) (hd : U64 df) (w : World) (hr : Row w a len l) :
    Calls Faig.prog 35 #[.slice a len cap, .agg #[.int .u8 k, .int .u16 T, .int .u8 dd, .int .u8 0, .int .u8 0, .int .u16 0], .agg #[.int .u8 p.1, .int .u16 p.2, .int .u8 0, .bool false], .int .u64 df] w fun e w' => e = .returned (.int .u64 (bits .xor .u64 (fv l T dd p.1 p.2) (df % 2 ^ p.1))) ∧ Below w.heap.size w w' := by
  obtain ⟨S, off⟩ := p
  simp only at h5
  unfold pW at *
  simp only at *
  rcases h5 with rfl | rfl | rfl | rfl | rfl
  · exact getDefault_1 a len cap l k T dd off df hlen hf (by omega) (by omega) hd w hr
  · exact getDefault_8 a len cap l k T dd off df hlen hf (by omega) (by omega) hd w hr
  · exact getDefault_16 a len cap l k T dd off df hlen hf (by omega) (by omega) hd w hr
  · exact getDefault_32 a len cap l k T dd off df hlen hf (by omega) (by omega) hd w hr
  · exact getDefault_64 a len cap l k T dd off df hlen hf (by omega) (by omega) hd w hr
/-- The builder of one struct, spelt out. -/
theorem Bld.of {w : World} {g d : Nat} {vA vO vU vV vD vE : Value} {la : List Int} (h : BW w g (strL d vA vO vU vV vD vE (la.map (Value.int .u64)))) (hl : la.length = 1 + d) (hd : d ≤ 8) (hb : ∀ i, U64 (la.getD i 0)) :
    ∃ ga ca go co gu cu gv cv gd cd ge ce, vA = .slice (some ⟨ga, 0, none⟩) (1 + d) ca ∧ vO = .slice (some ⟨go, 0, none⟩) 2 co ∧ vE = .slice (some ⟨ge, 0, none⟩) 2 ce ∧ Bld w g ga ca go co gu cu gv cv gd cd ge ce d la := by
  obtain ⟨ga, ca, e0, l0, c0, f0⟩ := row_cells (h.own 0 _ rfl) (show 0 < 1 + d by omega)
  obtain ⟨go, co, e1, l1, c1, -⟩ := row_cells (h.own 1 _ rfl) (show 0 < 2 by omega)
  obtain ⟨gu, cu, e2, l2, c2, -⟩ := row_cells (h.own 2 _ rfl) (show 0 < 2 by omega)
  obtain ⟨gv, cv, e3, l3, c3, -⟩ := row_cells (h.own 3 _ rfl) (show 0 < 2 by omega)
  obtain ⟨gd, cd, e4, l4, c4, -⟩ := row_cells (h.own 4 _ rfl) (show 0 < 2 by omega)
  obtain ⟨ge, ce, e5, l5, c5, -⟩ := row_cells (h.own 5 _ rfl) (show 0 < 2 by omega)
  simp only at e0 e1 e2 e3 e4 e5
  have r0 := h.cell (i := 0) rfl; have r1 := h.cell (i := 1) rfl; have r2 := h.cell (i := 2) rfl; have r3 := h.cell (i := 3) rfl; have r4 := h.cell (i := 4) rfl; have r5 := h.cell (i := 5) rfl
  have a0 := h.apart.1 0 _ rfl
  have a1 := h.apart.2 0 1 _ _ (by decide) rfl rfl ga (by simp only [e0]; rfl)
  have a5 := h.apart.2 0 5 _ _ (by decide) rfl rfl ga (by simp only [e0]; rfl)
  refine ⟨ga, ca, go, co, gu, cu, gv, cv, gd, cd, ge, ce, e0, e1, e5, ?_⟩
  subst e0 e1 e2 e3 e4 e5
  refine ⟨by rw [hl]; exact r0, r1, r2, r3, r4, r5, c1 6 _ rfl, c1 7 _ rfl, c1 8 _ rfl, c1 9 _ rfl, c1 10 _ rfl, c1 11 _ rfl, c5 1 _ rfl, fun i hi => c0 i _ ?_, f0, by rw [hl]; omega, by omega, by omega, hb, ?_, ?_, ?_, h.lt, l0, l1, l5⟩
  · simp [List.getD_eq_getElem?_getD, hi]
  · intro e; subst e; exact a0 rfl
  · intro e; subst e; exact a1 rfl
  · intro e; subst e; exact a5 rfl
end Go.Proofs.Ygcfai

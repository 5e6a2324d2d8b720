/-
  'Rows.ExtentRightSaid' ('wordview/law.ExtentRight'): THE PROOF. After the guide's shell for a slice of integers; the second argument is a struct by value.
-/
import Derived.Test.YgcfaiExtentB
import Derived.Test.YgcfaiAgg
import Derived.ShutString
import Derived.ChangeOld
namespace Go.Proofs.Ygcfai
open Go.ChangeShapes Go.WideShapes Go.ChangeAt Go.RowKit Plain

/-- A slice of words that came in, as the walks want it. -/
theorem row_of_ints {W : World} {x : Addr} {len cap : Nat} {zs : List Int} (hl : len ≤ cap) (hm : cap ≤ maxLen) (hz : zs.length = cap) (hcell : ∀ i, i < zs.length → W.cell? (x.add i) = some (.int .u64 (zs.getD i 0)))
    (hw : ∀ n ∈ zs, (Lit.int .u64 n).wf = true) : Row W (some x) len (zs.take len) := by
  refine Row.take ⟨hz, fun i => ?_, hm, ?_⟩ len hl
  · have := range_u64 hw i
    simp only [← List.getD_eq_getElem?_getD] at this
    exact ⟨this.1, by omega⟩
  · by_cases h0 : cap = 0
    · exact Or.inl h0
    · obtain ⟨b, off, rfl, hc⟩ := ints_at hcell (by omega)
      refine Or.inr ⟨b, off, rfl, ?_, fun i hi => hc i (by omega)⟩
      exact World.block_lt_of_cell? W _ (hc 0 (by omega))

namespace extentRight
set_option linter.unusedVariables false

theorem own : ownKnob Faig.prog.godebug = none := by kernel_rfl
theorem laidOut : laidOutB Faig.prog = true := by kernel_rfl

theorem walk (a : Option Addr) (len cap : Nat) (l : List Int) (k t d p c n : Int) (w : World) (hr : Row w a len l) (hcap : len ≤ cap) (hk : U8 k) (ht : U16 t) (hd : U8 d) (hp : U8 p) (hc : U8 c) (hn : U16 n) :
    Calls Faig.prog 11 #[.slice a len cap, .agg #[.int .u8 k, .int .u16 t, .int .u8 d, .int .u8 p, .int .u8 c, .int .u16 n]] w fun e w' => e = .returned (.bool true) ∧ Below w.heap.size w w' := by
  by_cases hk2 : k = 2
  · subst hk2
    by_cases h2 : c < 2
    · exact walk_lo a len cap l t d p c n w hr hcap h2 hk ht hd hp hc hn
    by_cases h5 : 5 < c
    · exact walk_hi a len cap l t d p c n w hr hcap h5 hk ht hd hp hc hn
    have h : c = 2 ∨ c = 3 ∨ c = 4 ∨ c = 5 := by omega
    rcases h with rfl | rfl | rfl | rfl
    · exact walk_2 a len cap l t d p n w hr hcap hk ht hd hp hc hn
    · exact walk_3 a len cap l t d p n w hr hcap hk ht hd hp hc hn
    · exact walk_4 a len cap l t d p n w hr hcap hk ht hd hp hc hn
    · exact walk_5 a len cap l t d p n w hr hcap hk ht hd hp hc hn
  · exact walk_k a len cap l k t d p c n w hr hcap hk2 (by simp [hk2]) hk ht hd hp hc hn

/-! ### THE ROW's STEP -/
set_option maxRecDepth 100000 in
theorem lifted (os : Os) (started : os.Started) (H : Type) (enc : TypeId × Value → H) :
    ReturnsInHanded {} Faig.checked os 11 .any (Rows.extentRightSpec.pre6 enc Faig.prog Faig.f11 Rows.extentRightRow.domain false) (Rows.extentRightSpec.post enc Faig.prog Faig.f11 false true false false) := by
  refine returnsInHanded_of_change (C := Faig.checked) own started (by kernel_rfl) Faig.func11
    (ChangeSpec.witness6 (enc := enc) (C := Faig.checked) false ⟨#[], #[.slice none 0 0, .agg #[.int .u8 0, .int .u16 0, .int .u8 0, .int .u8 0, .int .u8 0, .int .u16 0]], []⟩ 8 (by kernel_rfl) (by kernel_rfl) (by kernel_rfl) (by kernel_rfl)) ?_
  intro W base args ds gs before hval0 hW hcnd _
  have hval : ∀ (j : Nat) t v, Faig.f11.params[j]? = some t → args[j]? = some v → Value.okWide Faig.prog W .any base t v := hval0
  have hW' := hW
  obtain ⟨p, q, hA0, hV, rfl, hfz, hnd⟩ := hW
  have hA : DataW.TrodAll enc Faig.prog W 0 (fun _ => true) true Faig.f11.params.toList args.toList ds p := hA0
  rw [Faig.params11] at hA hval
  obtain ⟨v0, vs0, d0, ds0, p0, q0, hargs, rfl, rfl, h0, r0⟩ := trodAll_cons hA
  obtain ⟨v1, vs1, d1, ds1, p1, q1, rfl, rfl, rfl, h1, r1⟩ := trodAll_cons r0
  obtain ⟨rfl, rfl, rfl⟩ := trodAll_nil r1
  obtain rfl : args = #[v0, v1] := by cases args; simp_all
  obtain ⟨rfl, rfl⟩ := trodVars_none hV
  obtain ⟨a0, len0, cap0, rfl⟩ := okWide_slice Faig.underlying22 (hval 0 22 v0 rfl rfl)
  have k0 := h0
  have lt0 : ∀ x ∈ p0, x.block < W.heap.size := by obtain ⟨m, hm⟩ := k0; exact DataW.trod_lt m _ _ _ hm
  obtain ⟨l, hcap, hrow⟩ : ∃ l, len0 ≤ cap0 ∧ Row W a0 len0 l := by
    obtain ⟨fuel, hf⟩ := h0
    rcases open_ints Faig.underlying22 Faig.underlying49 (by kernel_rfl) hf with ⟨hcs, _⟩ | ⟨x, l, c, zs, hcs, _, hl, hm, hz, _, hcell, hwz⟩
    · simp [Value.cells] at hcs
      obtain ⟨rfl, rfl, rfl⟩ := hcs
      exact ⟨[], Nat.le_refl _, rfl, fun i => ⟨by simp, by simp⟩, Nat.zero_le _, Or.inl rfl⟩
    · simp [Value.cells] at hcs
      obtain ⟨rfl, rfl, rfl⟩ := hcs
      exact ⟨zs.take len0, hl, row_of_ints hl hm (by simpa using hz) hcell hwz⟩
  have k1 := h1
  have lt1 : ∀ x ∈ p1, x.block < W.heap.size := by obtain ⟨m, hm⟩ := k1; exact DataW.trod_lt m _ _ _ hm
  obtain ⟨k, t, da, pt, c, n, rfl, rfl, hk, ht, hd, hp, hc, hn⟩ := open_ptr88 (hval 1 88 v1 rfl rfl) h1
  clear hA0 hval0
  refine (walk a0 len0 cap0 l k t da pt c n W hrow hcap hk ht hd hp hc hn).mono fun e W' ⟨he, bel⟩ => ?_
  subst he
  exact ⟨_, rfl, _, _, _, [], _, [], hW', trodAll_mk1 (shut_bool Faig.underlying4 _), (trodAll_cons_mk (Below.trod laidOut (by kernel_rfl) (of_decide_eq_true (by kernel_rfl)) k0 bel lt0) (trodAll_cons_mk (Below.trod laidOut (by kernel_rfl) (of_decide_eq_true (by kernel_rfl)) k1 bel lt1) trodAll_mk0)), rfl, bel.frame _, fun h => by cases h⟩

theorem over : Rows.extentRightRow.holds Faig.pinned (OpenSpec.ofChange Rows.extentRightSpec) :=
  OpenClaim.holds_of_wide 11 Faig.f11 rfl rfl rfl rfl rfl rfl rfl ⟨rfl, rfl, rfl, rfl, rfl⟩ rfl rfl rfl rfl rfl (by kernel_rfl) Faig.func11 (by kernel_rfl)
    (of_decide_eq_true (by kernel_rfl)) (by unfold Func.isWrapper; first | (rw [if_pos (by decide +kernel)]; kernel_rfl) | (rw [if_neg (by decide +kernel)]; exact ⟨rfl, rfl⟩))
    (fun os started H enc _ => lifted os started H enc)

/-- THE STATEMENT -/
theorem proved : Rows.ExtentRightSaid := over
#print axioms proved
end extentRight
end Go.Proofs.Ygcfai

/-
  'Rows.WordsRightSaid' ('wordview/law.WordsRight'): THE PROOF. After the guide's shell (howto/shells): one struct by value, one bool back.
-/
import Derived.Test.YgcfaiWords
import Derived.Test.YgcfaiOwn
import Derived.Test.YgcfaiAgg
import Derived.Test.YgcfaiAid2
import Derived.ShutString
import Derived.ChangeOld
import Derived.Deep.RegionHeld3
namespace Go.Proofs.Ygcfai.wordsRight
open Go.ChangeShapes Go.WideShapes Go.ChangeAt Go.RowKit Plain
set_option linter.unusedVariables false

theorem own : ownKnob Faig.prog.godebug = none := by kernel_rfl
theorem laidOut : laidOutB Faig.prog = true := by kernel_rfl

/-- What the region of 'WordsRight' reads: the box of the parameter. -/
theorem six_mono {B b : Nat} {W w1 w2 : World} {v0 v1 v2 v3 v4 v5 : Value}
    (h : Below B W w1 ∧ B ≤ b ∧ b < w1.heap.size ∧ w1.cell? ⟨b, 0, none⟩ = some v0 ∧ w1.cell? ⟨b, 1, none⟩ = some v1 ∧ w1.cell? ⟨b, 2, none⟩ = some v2 ∧ w1.cell? ⟨b, 3, none⟩ = some v3 ∧ w1.cell? ⟨b, 4, none⟩ = some v4 ∧ w1.cell? ⟨b, 5, none⟩ = some v5)
    (hb : Below w1.heap.size w1 w2) :
    Below B W w2 ∧ B ≤ b ∧ b < w2.heap.size ∧ w2.cell? ⟨b, 0, none⟩ = some v0 ∧ w2.cell? ⟨b, 1, none⟩ = some v1 ∧ w2.cell? ⟨b, 2, none⟩ = some v2 ∧ w2.cell? ⟨b, 3, none⟩ = some v3 ∧ w2.cell? ⟨b, 4, none⟩ = some v4 ∧ w2.cell? ⟨b, 5, none⟩ = some v5 := by
  obtain ⟨h1, h2, h3, c0, c1, c2, c3, c4, c5⟩ := h
  have hz := hb.size
  refine ⟨h1.trans (hb.mono (by omega)), h2, by omega, ?_, ?_, ?_, ?_, ?_, ?_⟩
  · rw [hb.cell (p := ⟨b, 0, none⟩) h3]; exact c0
  · rw [hb.cell (p := ⟨b, 1, none⟩) h3]; exact c1
  · rw [hb.cell (p := ⟨b, 2, none⟩) h3]; exact c2
  · rw [hb.cell (p := ⟨b, 3, none⟩) h3]; exact c3
  · rw [hb.cell (p := ⟨b, 4, none⟩) h3]; exact c4
  · rw [hb.cell (p := ⟨b, 5, none⟩) h3]; exact c5
theorem six_start {w : World} {v0 v1 v2 v3 v4 v5 : Value} {t : TypeId} :
    Below w.heap.size w (w.alloc (.cells #[v0, v1, v2, v3, v4, v5] t)).drew ∧ w.heap.size ≤ w.heap.size ∧ w.heap.size < (w.alloc (.cells #[v0, v1, v2, v3, v4, v5] t)).drew.heap.size ∧ (w.alloc (.cells #[v0, v1, v2, v3, v4, v5] t)).drew.cell? ⟨w.heap.size, 0, none⟩ = some v0 ∧ (w.alloc (.cells #[v0, v1, v2, v3, v4, v5] t)).drew.cell? ⟨w.heap.size, 1, none⟩ = some v1 ∧ (w.alloc (.cells #[v0, v1, v2, v3, v4, v5] t)).drew.cell? ⟨w.heap.size, 2, none⟩ = some v2 ∧ (w.alloc (.cells #[v0, v1, v2, v3, v4, v5] t)).drew.cell? ⟨w.heap.size, 3, none⟩ = some v3 ∧ (w.alloc (.cells #[v0, v1, v2, v3, v4, v5] t)).drew.cell? ⟨w.heap.size, 4, none⟩ = some v4 ∧ (w.alloc (.cells #[v0, v1, v2, v3, v4, v5] t)).drew.cell? ⟨w.heap.size, 5, none⟩ = some v5 := by
  refine ⟨((Below.refl _ _).alloc (Nat.le_refl _) _).drew, Nat.le_refl _, ?_, ?_, ?_, ?_, ?_, ?_, ?_⟩ <;> simp [go_sem]

set_option maxHeartbeats 1000000 in
theorem walk (k t d p c n : Int) (hk : U8 k) (ht : U16 t) (hd : U8 d) (hp : U8 p) (hc : U8 c) (hn : U16 n) (w : World) :
    Calls Faig.prog 12 #[.agg #[.int .u8 k, .int .u16 t, .int .u8 d, .int .u8 p, .int .u8 c, .int .u16 n]] w fun e w' => e = .returned (.bool true) ∧ Below w.heap.size w w' := by
  obtain ⟨wb0, wb1⟩ := words_bd k d p c n hd hp hn
  go_enter Faig.func12, Faig.ntmps12
  go_wp2
  go_region_held3 (fun w' => Below w.heap.size w w' ∧ w.heap.size ≤ w.heap.size ∧ w.heap.size < w'.heap.size ∧ w'.cell? ⟨w.heap.size, 0, none⟩ = some (.int .u8 k) ∧ w'.cell? ⟨w.heap.size, 1, none⟩ = some (.int .u16 t) ∧ w'.cell? ⟨w.heap.size, 2, none⟩ = some (.int .u8 d) ∧ w'.cell? ⟨w.heap.size, 3, none⟩ = some (.int .u8 p) ∧ w'.cell? ⟨w.heap.size, 4, none⟩ = some (.int .u8 c) ∧ w'.cell? ⟨w.heap.size, 5, none⟩ = some (.int .u16 n))
    (first | exact six_start | exact six_mono (by assumption) (by assumption))
    (first
      | (go_at_call 47; refine (words_any k t d p c n hk ht hd hp hc hn _).mono ?_; rintro e w1 ⟨rfl, hb1⟩)
      | (go_at_call 45; refine (own_any k t d p c n hk ht hd hp hc hn _).mono ?_; rintro e w1 ⟨rfl, hb1⟩))
  go_wp2
  go_ret
  exact ⟨ret_bool (by rw [wrapI64_in _ (by omega) (by omega)]; simp), by rename_i hh; exact hh.1⟩

/-! ### THE ROW's STEP -/
set_option maxRecDepth 100000 in
theorem lifted (os : Os) (started : os.Started) (H : Type) (enc : TypeId × Value → H) :
    ReturnsInHanded {} Faig.checked os 12 .any (Rows.wordsRightSpec.pre6 enc Faig.prog Faig.f12 Rows.wordsRightRow.domain false) (Rows.wordsRightSpec.post enc Faig.prog Faig.f12 false true false false) := by
  refine returnsInHanded_of_change (C := Faig.checked) own started (by kernel_rfl) Faig.func12
    (ChangeSpec.witness6 (enc := enc) (C := Faig.checked) false ⟨#[], #[.agg #[.int .u8 0, .int .u16 0, .int .u8 0, .int .u8 0, .int .u8 0, .int .u16 0]], []⟩ 8 (by kernel_rfl) (by kernel_rfl) (by kernel_rfl) (by kernel_rfl)) ?_
  intro W base args ds gs before hval0 hW hcnd _
  have hval : ∀ (j : Nat) t v, Faig.f12.params[j]? = some t → args[j]? = some v → Value.okWide Faig.prog W .any base t v := hval0
  have hW' := hW
  obtain ⟨p, q, hA0, hV, rfl, hfz, hnd⟩ := hW
  have hA : DataW.TrodAll enc Faig.prog W 0 (fun _ => true) true Faig.f12.params.toList args.toList ds p := hA0
  rw [Faig.params12] at hA hval
  obtain ⟨v0, vs0, d0, ds0, p0, q0, hargs, rfl, rfl, h0, r0⟩ := trodAll_cons hA
  obtain ⟨rfl, rfl, rfl⟩ := trodAll_nil r0
  obtain rfl : args = #[v0] := by cases args; simp_all
  obtain ⟨rfl, rfl⟩ := trodVars_none hV
  have k0 := h0
  have lt0 : ∀ x ∈ p0, x.block < W.heap.size := by obtain ⟨m, hm⟩ := k0; exact DataW.trod_lt m _ _ _ hm
  obtain ⟨k, t, da, pt, c, n, rfl, rfl, hk, ht, hd, hp, hc, hn⟩ := open_ptr88 (hval 0 88 v0 rfl rfl) h0
  clear hA0 hval0
  refine (walk k t da pt c n hk ht hd hp hc hn W).mono fun e W' ⟨he, bel⟩ => ?_
  subst he
  exact ⟨_, rfl, _, _, _, [], _, [], hW', trodAll_mk1 (shut_bool Faig.underlying4 _), (trodAll_cons_mk (Below.trod laidOut (by kernel_rfl) (of_decide_eq_true (by kernel_rfl)) k0 bel lt0) trodAll_mk0), rfl, bel.frame _, fun h => by cases h⟩

theorem over : Rows.wordsRightRow.holds Faig.pinned (OpenSpec.ofChange Rows.wordsRightSpec) :=
  OpenClaim.holds_of_wide 12 Faig.f12 rfl rfl rfl rfl rfl rfl rfl ⟨rfl, rfl, rfl, rfl, rfl⟩ rfl rfl rfl rfl rfl (by kernel_rfl) Faig.func12 (by kernel_rfl)
    (of_decide_eq_true (by kernel_rfl)) (by unfold Func.isWrapper; first | (rw [if_pos (by decide +kernel)]; kernel_rfl) | (rw [if_neg (by decide +kernel)]; exact ⟨rfl, rfl⟩))
    (fun os started H enc _ => lifted os started H enc)

/-- THE STATEMENT -/
theorem proved : Rows.WordsRightSaid := over
#print axioms proved
end Go.Proofs.Ygcfai.wordsRight

/-
  'Rows.PtrBackSaid' ('wordview/law.PtrBack'): THE PROOF: the given shell, its walk filled; the world's word is 'Below' in the place of 'Grown'.
-/
import Derived.Test.YgcfaiRows
import Derived.WalkKit
import Derived.ProofKit
import Derived.OpenShut
import Derived.ShutString
import Derived.ChangeOld
import Derived.Test.YgcfaiBackC
namespace Go.Proofs.Ygcfai.ptrBack
open Go.ChangeShapes Go.WideShapes Go.ChangeAt Go.RowKit Plain
open Go.ChangeMaps (open_string shut_string)
set_option linter.unusedVariables false      -- a walk need not use every 'w<i>' (that an integer argument fits its kind)

theorem own : ownKnob Faig.prog.godebug = none := by kernel_rfl

theorem u32_of_wf {x : Int} (h : (Lit.int .u32 x).wf = true) : 0 ≤ x ∧ x < 4294967296 := by
  simp [Lit.wf, IntKind.min, IntKind.max, IntKind.signed, IntKind.bits] at h
  exact ⟨by omega, by omega⟩

/-! ### THE ROW's STEP: WRITTEN OUT: LEAVE IT -/
set_option maxRecDepth 100000 in
theorem lifted (os : Os) (started : os.Started) (H : Type) (enc : TypeId × Value → H) :
    ReturnsInHanded {} Faig.checked os 8 .any (Rows.ptrBackSpec.pre6 enc Faig.prog Faig.f8 Rows.ptrBackRow.domain false) (Rows.ptrBackSpec.post enc Faig.prog Faig.f8 false true false false) := by
  refine returnsInHanded_of_change (C := Faig.checked) own started (by kernel_rfl) Faig.func8
    (ChangeSpec.witness6 (enc := enc) (C := Faig.checked) false ⟨#[], #[.int .u16 0, .int .u16 0, .int .u8 0, .int .u8 0, .int .u8 0, .int .u32 0], []⟩ 8 (by kernel_rfl) (by kernel_rfl) (by kernel_rfl) (by kernel_rfl)) ?_
  intro W base args ds gs before hval0 hW hcnd _
  have hval : ∀ (j : Nat) t v, Faig.f8.params[j]? = some t → args[j]? = some v → Value.okWide Faig.prog W .any base t v := hval0
  have hW' := hW
  obtain ⟨p, q, hA0, hV, rfl, hfz, hnd⟩ := hW
  have hA : DataW.TrodAll enc Faig.prog W 0 (fun _ => true) true Faig.f8.params.toList args.toList ds p := hA0
  rw [Faig.params8] at hA hval
  obtain ⟨v0, vs0, d0, ds0, p0, q0, hargs, rfl, rfl, h0, r0⟩ := trodAll_cons hA
  obtain ⟨v1, vs1, d1, ds1, p1, q1, rfl, rfl, rfl, h1, r1⟩ := trodAll_cons r0
  obtain ⟨v2, vs2, d2, ds2, p2, q2, rfl, rfl, rfl, h2, r2⟩ := trodAll_cons r1
  obtain ⟨v3, vs3, d3, ds3, p3, q3, rfl, rfl, rfl, h3, r3⟩ := trodAll_cons r2
  obtain ⟨v4, vs4, d4, ds4, p4, q4, rfl, rfl, rfl, h4, r4⟩ := trodAll_cons r3
  obtain ⟨v5, vs5, d5, ds5, p5, q5, rfl, rfl, rfl, h5, r5⟩ := trodAll_cons r4
  obtain ⟨rfl, rfl, rfl⟩ := trodAll_nil r5
  obtain rfl : args = #[v0, v1, v2, v3, v4, v5] := by cases args; simp_all
  obtain ⟨rfl, rfl⟩ := trodVars_none hV
  obtain ⟨a0, rfl, rfl, rfl, w0⟩ := open_int Faig.underlying56 (hval 0 56 v0 rfl rfl) h0
  obtain ⟨a1, rfl, rfl, rfl, w1⟩ := open_int Faig.underlying56 (hval 1 56 v1 rfl rfl) h1
  obtain ⟨a2, rfl, rfl, rfl, w2⟩ := open_int Faig.underlying5 (hval 2 5 v2 rfl rfl) h2
  obtain ⟨a3, rfl, rfl, rfl, w3⟩ := open_int Faig.underlying5 (hval 3 5 v3 rfl rfl) h3
  obtain ⟨a4, rfl, rfl, rfl, w4⟩ := open_int Faig.underlying5 (hval 4 5 v4 rfl rfl) h4
  obtain ⟨a5, rfl, rfl, rfl, w5⟩ := open_int Faig.underlying30 (hval 5 30 v5 rfl rfl) h5
  clear hA0 hval0
  refine (ptrBack_any a0 a1 a2 a3 a4 a5 (bounds_u16 w0) (bounds_u16 w1) (bounds_u8 w2) (bounds_u8 w3) (bounds_u8 w4) (u32_of_wf w5) W).mono fun e W' ⟨he, bel⟩ => ?_
  subst he
  exact ⟨_, rfl, _, _, _, [], _, [], hW', trodAll_mk1 (shut_bool Faig.underlying4 _), (trodAll_cons_mk (shut_int Faig.underlying56 w0) (trodAll_cons_mk (shut_int Faig.underlying56 w1) (trodAll_cons_mk (shut_int Faig.underlying5 w2) (trodAll_cons_mk (shut_int Faig.underlying5 w3) (trodAll_cons_mk (shut_int Faig.underlying5 w4) (trodAll_cons_mk (shut_int Faig.underlying30 w5) trodAll_mk0)))))), rfl, bel.frame _, fun h => by cases h⟩

theorem over : Rows.ptrBackRow.holds Faig.pinned (OpenSpec.ofChange Rows.ptrBackSpec) :=
  OpenClaim.holds_of_wide 8 Faig.f8 rfl rfl rfl rfl rfl rfl rfl ⟨rfl, rfl, rfl, rfl, rfl⟩ rfl rfl rfl rfl rfl (by kernel_rfl) Faig.func8 (by kernel_rfl)
    (of_decide_eq_true (by kernel_rfl)) (by unfold Func.isWrapper; first | (rw [if_pos (by decide +kernel)]; kernel_rfl) | (rw [if_neg (by decide +kernel)]; exact ⟨rfl, rfl⟩))
    (fun os started H enc _ => lifted os started H enc)

/-- THE STATEMENT -/
theorem proved : Rows.PtrBackSaid :=
  over
#print axioms proved
end Go.Proofs.Ygcfai.ptrBack

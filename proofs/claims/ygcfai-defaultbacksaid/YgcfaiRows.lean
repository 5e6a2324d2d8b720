/-
  No cell of these rows narrows 'for every input' (looked for: loops, veiled, ifaces, maps, wideKeys, modest, calm, conditions, laid).
  DERIVED. THE GIVEN ROWS OF THIS SEAT. 10 by the template 'for every input the law returns true; each argument reads behind the call as it read before'; 0 by the template 'total and deterministic' (their statements: YgcfaiTotals.lean).
  GIVEN WITH THE SEED: the statements are not yours to turn. If you find one false, say at which input.
  Laid BY PROGRAM, IN A SANDBOX (cutbox-rows.mjs): the forced cells as the released guide's own fill.sh prints them over the translation 6048466580422b9e… (all of the seat's roots in one cut). By AI agents, Wed Nov 11 2026. No macro, syntax, notation, axiom, sorry.
-/
import Derived.Test.YgcfaiChecked
import GoSem.Claim
import GoSem.ClaimJoined
import GoSem.ClaimMapViews
import Derived.JoinedTies
import Derived.KernelRfl
namespace Go.Proofs.Ygcfai
/- THE CELL 'sum', in the pinned program and in every row, IS THE sha256 OF THE DUMP (.gsa) THAT YgcfaiProg.lean LOADS. Nothing in Lean hashes anything: it is a label: what it is worth is what the hold of that sum in a sandbox is worth. -/
noncomputable def Faig.pinned : Pinned := { name := "ygcfai", sum := "6048466580422b9ed559d2a990cd1412b4ce2132d7616684737ac3a7d09c4463", checked := Faig.checked }
namespace Rows
def none {H : Type} : Left H := { results := [], args := [] }

/-- 'law.WideOld': WHATEVER THE INPUT: true; the input reads as it did. -/
def wideOldSpec : ChangeSpec := { name := "wideOld", fn := fun _ => fun
  | [d] => { results := [.lit (.bool true)], args := [d] }
  | _ => none }
def wideOldRow : OpenClaim := { program := "ygcfai", sum := "6048466580422b9ed559d2a990cd1412b4ce2132d7616684737ac3a7d09c4463", func := "wordview/law.WideOld", spec := "wideOld", apart := false }
def WideOldSaid : Prop := wideOldRow.holds Faig.pinned (OpenSpec.ofChange wideOldSpec)

/-- ITS FALSE NEIGHBOUR: 'it returns false'. Refute it at one input. -/
def wideOldWrong : ChangeSpec := { name := "wideOld", fn := fun _ => fun
  | [d] => { results := [.lit (.bool false)], args := [d] }
  | _ => none }
def WideOldWrongFalsely : Prop := wideOldRow.holds Faig.pinned (OpenSpec.ofChange wideOldWrong)

/-- 'law.WideBack': WHATEVER THE INPUT: true; the input reads as it did. -/
def wideBackSpec : ChangeSpec := { name := "wideBack", fn := fun _ => fun
  | [d] => { results := [.lit (.bool true)], args := [d] }
  | _ => none }
def wideBackRow : OpenClaim := { program := "ygcfai", sum := "6048466580422b9ed559d2a990cd1412b4ce2132d7616684737ac3a7d09c4463", func := "wordview/law.WideBack", spec := "wideBack", recurses := true, apart := false }
def WideBackSaid : Prop := wideBackRow.holds Faig.pinned (OpenSpec.ofChange wideBackSpec)

/-- ITS FALSE NEIGHBOUR: 'it returns false'. Refute it at one input. -/
def wideBackWrong : ChangeSpec := { name := "wideBack", fn := fun _ => fun
  | [d] => { results := [.lit (.bool false)], args := [d] }
  | _ => none }
def WideBackWrongFalsely : Prop := wideBackRow.holds Faig.pinned (OpenSpec.ofChange wideBackWrong)

/-- 'law.WideDecode': WHATEVER THE INPUT: true; the input reads as it did. -/
def wideDecodeSpec : ChangeSpec := { name := "wideDecode", fn := fun _ => fun
  | [d1, d2] => { results := [.lit (.bool true)], args := [d1, d2] }
  | _ => none }
def wideDecodeRow : OpenClaim := { program := "ygcfai", sum := "6048466580422b9ed559d2a990cd1412b4ce2132d7616684737ac3a7d09c4463", func := "wordview/law.WideDecode", spec := "wideDecode", recurses := true, apart := false }
def WideDecodeSaid : Prop := wideDecodeRow.holds Faig.pinned (OpenSpec.ofChange wideDecodeSpec)

/-- ITS FALSE NEIGHBOUR: 'it returns false'. Refute it at one input. -/
def wideDecodeWrong : ChangeSpec := { name := "wideDecode", fn := fun _ => fun
  | [d1, d2] => { results := [.lit (.bool false)], args := [d1, d2] }
  | _ => none }
def WideDecodeWrongFalsely : Prop := wideDecodeRow.holds Faig.pinned (OpenSpec.ofChange wideDecodeWrong)

/-- 'law.WideBudget': WHATEVER THE INPUT: true; the input reads as it did. -/
def wideBudgetSpec : ChangeSpec := { name := "wideBudget", fn := fun _ => fun
  | [d1, d2] => { results := [.lit (.bool true)], args := [d1, d2] }
  | _ => none }
def wideBudgetRow : OpenClaim := { program := "ygcfai", sum := "6048466580422b9ed559d2a990cd1412b4ce2132d7616684737ac3a7d09c4463", func := "wordview/law.WideBudget", spec := "wideBudget", apart := false }
def WideBudgetSaid : Prop := wideBudgetRow.holds Faig.pinned (OpenSpec.ofChange wideBudgetSpec)

/-- ITS FALSE NEIGHBOUR: 'it returns false'. Refute it at one input. -/
def wideBudgetWrong : ChangeSpec := { name := "wideBudget", fn := fun _ => fun
  | [d1, d2] => { results := [.lit (.bool false)], args := [d1, d2] }
  | _ => none }
def WideBudgetWrongFalsely : Prop := wideBudgetRow.holds Faig.pinned (OpenSpec.ofChange wideBudgetWrong)

/-- 'law.DefaultBack': WHATEVER THE INPUT: true; the input reads as it did. -/
def defaultBackSpec : ChangeSpec := { name := "defaultBack", fn := fun _ => fun
  | [d1, d2, d3] => { results := [.lit (.bool true)], args := [d1, d2, d3] }
  | _ => none }
def defaultBackRow : OpenClaim := { program := "ygcfai", sum := "6048466580422b9ed559d2a990cd1412b4ce2132d7616684737ac3a7d09c4463", func := "wordview/law.DefaultBack", spec := "defaultBack", apart := false }
def DefaultBackSaid : Prop := defaultBackRow.holds Faig.pinned (OpenSpec.ofChange defaultBackSpec)

/-- ITS FALSE NEIGHBOUR: 'it returns false'. Refute it at one input. -/
def defaultBackWrong : ChangeSpec := { name := "defaultBack", fn := fun _ => fun
  | [d1, d2, d3] => { results := [.lit (.bool false)], args := [d1, d2, d3] }
  | _ => none }
def DefaultBackWrongFalsely : Prop := defaultBackRow.holds Faig.pinned (OpenSpec.ofChange defaultBackWrong)

/-- 'law.PtrBack': WHATEVER THE INPUT: true; the input reads as it did. -/
def ptrBackSpec : ChangeSpec := { name := "ptrBack", fn := fun _ => fun
  | [d1, d2, d3, d4, d5, d6] => { results := [.lit (.bool true)], args := [d1, d2, d3, d4, d5, d6] }
  | _ => none }
def ptrBackRow : OpenClaim := { program := "ygcfai", sum := "6048466580422b9ed559d2a990cd1412b4ce2132d7616684737ac3a7d09c4463", func := "wordview/law.PtrBack", spec := "ptrBack", apart := false }
def PtrBackSaid : Prop := ptrBackRow.holds Faig.pinned (OpenSpec.ofChange ptrBackSpec)

/-- ITS FALSE NEIGHBOUR: 'it returns false'. Refute it at one input. -/
def ptrBackWrong : ChangeSpec := { name := "ptrBack", fn := fun _ => fun
  | [d1, d2, d3, d4, d5, d6] => { results := [.lit (.bool false)], args := [d1, d2, d3, d4, d5, d6] }
  | _ => none }
def PtrBackWrongFalsely : Prop := ptrBackRow.holds Faig.pinned (OpenSpec.ofChange ptrBackWrong)

/-- 'law.PtrBits': WHATEVER THE INPUT: true; the input reads as it did. -/
def ptrBitsSpec : ChangeSpec := { name := "ptrBits", fn := fun _ => fun
  | [d1, d2, d3, d4, d5, d6, d7, d8] => { results := [.lit (.bool true)], args := [d1, d2, d3, d4, d5, d6, d7, d8] }
  | _ => none }
def ptrBitsRow : OpenClaim := { program := "ygcfai", sum := "6048466580422b9ed559d2a990cd1412b4ce2132d7616684737ac3a7d09c4463", func := "wordview/law.PtrBits", spec := "ptrBits", apart := false }
def PtrBitsSaid : Prop := ptrBitsRow.holds Faig.pinned (OpenSpec.ofChange ptrBitsSpec)

/-- ITS FALSE NEIGHBOUR: 'it returns false'. Refute it at one input. -/
def ptrBitsWrong : ChangeSpec := { name := "ptrBits", fn := fun _ => fun
  | [d1, d2, d3, d4, d5, d6, d7, d8] => { results := [.lit (.bool false)], args := [d1, d2, d3, d4, d5, d6, d7, d8] }
  | _ => none }
def PtrBitsWrongFalsely : Prop := ptrBitsRow.holds Faig.pinned (OpenSpec.ofChange ptrBitsWrong)

/-- 'law.ResolveInside': WHATEVER THE INPUT: true; the input reads as it did. -/
def resolveInsideSpec : ChangeSpec := { name := "resolveInside", fn := fun _ => fun
  | [d1, d2] => { results := [.lit (.bool true)], args := [d1, d2] }
  | _ => none }
def resolveInsideRow : OpenClaim := { program := "ygcfai", sum := "6048466580422b9ed559d2a990cd1412b4ce2132d7616684737ac3a7d09c4463", func := "wordview/law.ResolveInside", spec := "resolveInside", apart := false }
def ResolveInsideSaid : Prop := resolveInsideRow.holds Faig.pinned (OpenSpec.ofChange resolveInsideSpec)

/-- ITS FALSE NEIGHBOUR: 'it returns false'. Refute it at one input. -/
def resolveInsideWrong : ChangeSpec := { name := "resolveInside", fn := fun _ => fun
  | [d1, d2] => { results := [.lit (.bool false)], args := [d1, d2] }
  | _ => none }
def ResolveInsideWrongFalsely : Prop := resolveInsideRow.holds Faig.pinned (OpenSpec.ofChange resolveInsideWrong)

/-- 'law.ExtentRight': WHATEVER THE INPUT: true; the input reads as it did. -/
def extentRightSpec : ChangeSpec := { name := "extentRight", fn := fun _ => fun
  | [d1, d2] => { results := [.lit (.bool true)], args := [d1, d2] }
  | _ => none }
def extentRightRow : OpenClaim := { program := "ygcfai", sum := "6048466580422b9ed559d2a990cd1412b4ce2132d7616684737ac3a7d09c4463", func := "wordview/law.ExtentRight", spec := "extentRight", apart := false }
def ExtentRightSaid : Prop := extentRightRow.holds Faig.pinned (OpenSpec.ofChange extentRightSpec)

/-- ITS FALSE NEIGHBOUR: 'it returns false'. Refute it at one input. -/
def extentRightWrong : ChangeSpec := { name := "extentRight", fn := fun _ => fun
  | [d1, d2] => { results := [.lit (.bool false)], args := [d1, d2] }
  | _ => none }
def ExtentRightWrongFalsely : Prop := extentRightRow.holds Faig.pinned (OpenSpec.ofChange extentRightWrong)

/-- 'law.WordsRight': WHATEVER THE INPUT: true; the input reads as it did. -/
def wordsRightSpec : ChangeSpec := { name := "wordsRight", fn := fun _ => fun
  | [d] => { results := [.lit (.bool true)], args := [d] }
  | _ => none }
def wordsRightRow : OpenClaim := { program := "ygcfai", sum := "6048466580422b9ed559d2a990cd1412b4ce2132d7616684737ac3a7d09c4463", func := "wordview/law.WordsRight", spec := "wordsRight", apart := false }
def WordsRightSaid : Prop := wordsRightRow.holds Faig.pinned (OpenSpec.ofChange wordsRightSpec)

/-- ITS FALSE NEIGHBOUR: 'it returns false'. Refute it at one input. -/
def wordsRightWrong : ChangeSpec := { name := "wordsRight", fn := fun _ => fun
  | [d] => { results := [.lit (.bool false)], args := [d] }
  | _ => none }
def WordsRightWrongFalsely : Prop := wordsRightRow.holds Faig.pinned (OpenSpec.ofChange wordsRightWrong)

end Rows
end Go.Proofs.Ygcfai

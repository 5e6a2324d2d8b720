/-
  SMALL AIDS for the walks over 'wordview': wraps inside their range, and the closing of 'Below'.
-/
import Derived.Test.YgcfaiRows
import Derived.Test.YgcfaiPlain
import Derived.WalkKit
import Derived.WalkSpells
import Derived.WalkLawsBesides
import Derived.Below
import Derived.Outline
import Derived.BigQuiet
import Derived.Deep.QuietTactic
namespace Go.Proofs.Ygcfai
open Go.RowKit Plain

theorem wr16 (n : Int) (h0 : 0 ≤ n) (h1 : n ≤ 65535) : IntKind.u16.wrap n = n := by
  have e : IntKind.u16.wrap n = n % 65536 := by simp [IntKind.wrap, IntKind.bits, IntKind.signed]
  rw [e]; omega
theorem wr16q (n m : Int) (h0 : 0 ≤ n) (h1 : n ≤ 65535) (hm : 0 < m) : IntKind.u16.wrap (n.tdiv m) = n / m := by
  rw [Int.tdiv_eq_ediv_of_nonneg h0]
  have a := Int.ediv_nonneg h0 (Int.le_of_lt hm)
  have b : n / m ≤ n := Int.ediv_le_self _ h0
  exact wr16 _ a (by omega)
theorem ret_int {k : IntKind} {a b : Int} (h : a = b) : Ending.returned (.int k a) = .returned (.int k b) := by rw [h]
theorem ret_bool {a b : Bool} (h : a = b) : Ending.returned (.bool a) = .returned (.bool b) := by rw [h]
theorem below_drewN {B : Nat} {a w : World} (h : Below B a w) (n : Nat) : Below B a (w.drewN n) := ⟨h.os, h.tape, h.output, h.size, h.block⟩
theorem width_bd (c : Int) : 0 ≤ width c ∧ width c ≤ 8 := by unfold width; split <;> (try split) <;> (try split) <;> (try split) <;> omega
theorem mul_bd {a b A B : Int} (h0 : 0 ≤ a) (h1 : a ≤ A) (h2 : 0 ≤ b) (h3 : b ≤ B) : 0 ≤ a * b ∧ a * b ≤ A * B :=
  ⟨Int.mul_nonneg h0 h2, Int.mul_le_mul h1 h3 h2 (by omega)⟩
end Go.Proofs.Ygcfai

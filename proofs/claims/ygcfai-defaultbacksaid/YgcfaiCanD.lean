/-
  DefaultBack: codec.canon: push, kids.
-/
import Derived.Test.YgcfaiCanC
namespace Go.Proofs.Ygcfai
open Go.RowKit Go.Joins Plain
set_option linter.unusedVariables false
set_option linter.unusedSimpArgs false
set_option maxHeartbeats 1000000 in
theorem canPush (w : World) (gc : Nat) (h2 : w.cell? ⟨gc, 2, none⟩ = some (.int .u16 0)) (h3 : w.cell? ⟨gc, 3, none⟩ = some (.int .i16 0)) (hn : w.cell? ⟨gc, 1026, none⟩ = some (.int .i64 0)) (f2 : w.frozen? ⟨gc, 2, none⟩ = false) (f3 : w.frozen? ⟨gc, 3, none⟩ = false) (fn : w.frozen? ⟨gc, 1026, none⟩ = false) (hl : gc < w.heap.size) :
    Calls Faig.prog 123 #[.pointer (some ⟨gc, 0, none⟩), .int .u16 0, .int .i16 0] w fun e w' => e = .returned (.tuple #[]) ∧ w' = (((w.setCell ⟨gc, 2, none⟩ (.int .u16 0)).setCell ⟨gc, 3, none⟩ (.int .i16 0)).setCell ⟨gc, 1026, none⟩ (.int .i64 1)).drew := by
  go_enter Faig.func123, Faig.ntmps123
  go_wp2_with fail
  go_region
  go_wp2_with fail
  refine bodyPost_end (v := .tuple #[]) (by simp [results, Faig.f123]) rfl ?_
  exact ⟨rfl, rfl⟩
set_option maxHeartbeats 1000000 in
theorem canKids (w : World) (gc gn n c : Nat) (o : Option Addr) (n2 : w.cell? ⟨gn, 2, none⟩ = some (.slice o n c)) (n3 : w.cell? ⟨gn, 3, none⟩ = some (.slice none 0 0)) (hn : n ≤ 8) :
    Calls Faig.prog 148 #[.pointer (some ⟨gc, 0, none⟩), .int .u16 1, .pointer (some ⟨gn, 0, none⟩)] w fun e w' => e = .returned (.tuple #[]) ∧ w' = w := by
  have e1 : IntKind.u16.wrap (n : Int) = n := wrapU16_in _ (by omega) (by omega)
  have e2 : IntKind.u16.wrap (1 + (n : Int)) = 1 + n := wrapU16_in _ (by omega) (by omega)
  go_enter Faig.func148, Faig.ntmps148
  go_wp2_with fail
  go_loop [7] (fun s => s = .int .i64 (-1)) (fun _ => 0)
  case atStart => rfl
  case round =>
    subst hrel
    go_wp2_with fail
    refine bodyPost_end (v := .tuple #[]) (by simp [results, Faig.f148]) rfl ?_
    exact ⟨rfl, rfl⟩
end Go.Proofs.Ygcfai

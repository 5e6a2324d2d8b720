/-
  A WHOLE VARIABLE OF MANY CELLS, LOADED AND STORED IN ONE STEP OF THE WALK.
-/
import Derived.Test.YgcfaiDefC
import Derived.Test.YgcfaiDefD
import Derived.LoopTactic
import Derived.Laws.Rows
import Derived.Laws.Tables
namespace Go.Proofs.Ygcfai
open Go.RowKit Plain
set_option linter.unusedVariables false
set_option linter.unusedSimpArgs false
theorem load_row {P : Program} {w : World} {ops : Array Oper} {rest : List Oper} {a : Act} {Q : Exit → Act → World → Prop} {t : TypeId} {p : Operand} {d : Nat} {ty : TypeId} {ps : String} {af : Array Edge}
    (g : Nat) (c : Array Value) (tt : TypeId) (fr : Nat × Nat) (dd : TypeDesc) (hp : a.eval p = .pointer (some ⟨g, 0, none⟩)) (hb : w.heap[g]? = some (.cells c tt fr)) (hu : P.underlying t = some dd) (hd : (match dd with | .struct _ | .array _ _ => true | _ => false) = true) (hi : (P.info? t).map (·.size) = some c.size)
    (h : wpList P ops Q rest (a.put (some d) (.agg c)) w) :
    wpList P ops Q ({ dst := some d, op := Op.load t p, type := ty, pos := ps, after := af, guard := none } :: rest) a w := by
  refine wpList_plain rfl fun K hK => ?_
  have hrun : (Instr.loadAt t (.pointer (some ⟨g, 0, none⟩))).run P w = .ok (.agg c) w := by
    simp only [Instr.loadAt, Instr.sureAddr, Sem.run_bind, Sem.run_pure, Result.andThen]
    exact run_loadVar_row w g tt t c fr dd hb hu hd hi
  unfold Oper.wp
  simp [execOp, hp, hrun, Result.andThen]
  exact hK _ _ h
theorem store_row {P : Program} {w : World} {ops : Array Oper} {rest : List Oper} {a : Act} {Q : Exit → Act → World → Prop} {t : TypeId} {p v : Operand} {ty : TypeId} {ps : String} {af : Array Edge}
    (g : Nat) (c c' : Array Value) (tt : TypeId) (hp : a.eval p = .pointer (some ⟨g, 0, none⟩)) (hv : a.eval v = .agg c') (hb : w.heap[g]? = some (.cells c tt (0, 0))) (hi : (P.info? t).map (·.size) = some c'.size) (ho : c.size = c'.size) (h1 : c'.all (·.oneCell') = true)
    (h : wpList P ops Q rest a (w.setRow g c')) :
    wpList P ops Q ({ dst := none, op := Op.store t p v, type := ty, pos := ps, after := af, guard := none } :: rest) a w := by
  refine wpList_plain rfl fun K hK => ?_
  have hrun : (Instr.storeAt t (.pointer (some ⟨g, 0, none⟩)) (.agg c')).run P w = .ok () (w.setRow g c') := by
    simp only [Instr.storeAt, Instr.sureAddr, Sem.run_bind, Sem.run_pure, Result.andThen]
    exact run_storeVar_row w g tt t c c' hb hi ho h1
  unfold Oper.wp
  simp [execOp, hp, hv, hrun, Result.andThen]
  exact hK _ _ h
theorem setRow_block {w : World} {g : Nat} {c c' : Array Value} {tt : TypeId} (hb : w.heap[g]? = some (.cells c tt (0, 0))) : (w.setRow g c').heap[g]? = some (.cells c' tt (0, 0)) := by
  simp [World.setRow, Array.getElem?_modify, hb]
theorem setRow_other {w : World} {g k : Nat} {c' : Array Value} (h : k ≠ g) : (w.setRow g c').heap[k]? = w.heap[k]? := by
  have : ¬ g = k := fun e => h e.symm
  simp [World.setRow, Array.getElem?_modify, this]
theorem setRow_size {w : World} {g : Nat} {c' : Array Value} : (w.setRow g c').heap.size = w.heap.size := by simp [World.setRow]
theorem setRow_below {w W : World} {n g : Nat} {c' : Array Value} (h : Below n w W) (hg : n ≤ g) : Below n w (W.setRow g c') :=
  ⟨h.os, h.tape, h.output, by rw [setRow_size]; exact h.size, fun k hk => by rw [setRow_other (by omega)]; exact h.block k hk⟩
end Go.Proofs.Ygcfai

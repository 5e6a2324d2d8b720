/-
  DefaultBack: codec.canon: sections, place.
-/
import Derived.Test.YgcfaiCanD
namespace Go.Proofs.Ygcfai
open Go.RowKit Go.Joins Plain
set_option linter.unusedVariables false
set_option linter.unusedSimpArgs false
/-- append of nothing, as one step of a region that draws. -/
theorem append0_drawn {P : Program} {w : World} {ops : Array Oper} {o : Oper} {a : Act} {K : Act → World → Prop} {Q : Exit → Act → World → Prop} {E : Prop}
    (hg : o.guard = none) (s x : Operand) (t : TypeId) (hop : o.op = Op.call { callee := Callee.builtin Builtin.append, args := #[s, x], argTypes := #[t, t] })
    (e : TypeId) (i : TypeInfo) (h1 : P.underlying t = some (.slice e)) (h2 : P.info? e = some i)
    (b : Option Addr) (n cap : Nat) (hle : n ≤ cap) (hs : a.eval s = .slice b n cap) (b2 : Option Addr) (c2 : Nat) (hx : a.eval x = .slice b2 0 c2)
    (h : K (a.put o.dst (.slice b n cap)) w) :
    if Region.wanted o (yielded ops a.tmps) = true then Oper.wp P o a w K Q else E := by
  have hw : Region.wanted o (yielded ops a.tmps) = true := by simp [Region.wanted, hg]
  rw [if_pos hw]
  have hrun : ∀ ty, (Builtin.append_ #[t, t] ty #[.slice b n cap, .slice b2 0 c2]).run P w = .ok (.slice b n cap) w := by
    intro ty
    cases b <;> cases b2 <;> simp [Builtin.append_, run_underlying h1, sizeOf, typeInfo, h2, hle, storeCells, loadCells, loadCellsFrom, Builtin.lenOf, Builtin.firstCells]
  unfold Oper.wp
  simp [execOp, hop, resolve, invoke, builtin, hs, hx, hrun, Result.andThen]
  exact h
def SecP (w w' : World) (gc ga n : Nat) (xs : List Value) : Prop := ∃ g' cap', w'.cell? ⟨gc, 1, none⟩ = some (.slice (some ⟨g', 0, none⟩) (1 + n) cap') ∧ (∀ i, i ≠ 1 → w'.cell? ⟨gc, i, none⟩ = w.cell? ⟨gc, i, none⟩) ∧ w'.ownsRow 0 49 1 (.slice (some ⟨g', 0, none⟩) (1 + n) cap') (1 + n) xs ∧ Fr w w' (fun k => k = gc ∨ k = ga) ∧ (g' = ga ∨ w.heap.size ≤ g')
theorem SecP.of {w w3 : World} {gc ga ca n g' cap' : Nat} {xs : List Value} {cg : Array Value} (hgc : w.heap[gc]? = some (.cells cg 226 (0, 0))) (h1 : w.cell? ⟨gc, 1, none⟩ = some (.slice (some ⟨ga, 0, none⟩) 1 ca)) (hne : ga ≠ gc)
    (r1 : w3.ownsRow 0 49 1 (.slice (some ⟨g', 0, none⟩) (1 + n) cap') (1 + n) xs) (r2 : w.drew.grownBy w3 (Value.slice (some ⟨ga, 0, none⟩) 1 ca).ownBlock) (r3 : (Value.slice (some ⟨ga, 0, none⟩) 1 ca).ownBlock = some g' ∨ w.heap.size ≤ g') :
    SecP w (w3.setCell ⟨gc, 1, none⟩ (.slice (some ⟨g', 0, none⟩) (1 + n) cap')) gc ga n xs := by
  have hlt : gc < w.heap.size := (Array.getElem?_eq_some_iff.1 hgc).1
  have hb : w3.heap[gc]? = w.heap[gc]? := r2.block gc hlt (fun e => hne (by cases e; rfl))
  have hg' : g' = ga ∨ w.heap.size ≤ g' := by
    rcases r3 with r3 | r3
    · cases r3; exact Or.inl rfl
    · exact Or.inr r3
  have hgne : g' ≠ gc := by rcases hg' with h | h <;> omega
  refine ⟨g', cap', World.cell?_setCell_same _ _ _ (by rw [World.cell?_of_block (w := w) (a := ⟨gc, 1, none⟩) hb]; exact h1), fun i hi => ?_, ownsRow_same r1 (fun b hb' => Below.heap_setCell _ _ _ _ (by cases hb'; exact hgne)), ?_, hg'⟩
  · rw [World.cell?_setCell_other _ _ _ _ (by simp <;> omega), World.cell?_of_block (w := w) (a := ⟨gc, i, none⟩) hb]
  · refine ⟨r2.os, r2.tape, r2.output, by rw [size_setCell]; exact r2.size, fun k hk hB => ?_⟩
    have n1 : k ≠ gc := fun e => hB (Or.inl e)
    rw [Below.heap_setCell _ _ _ _ n1]
    exact r2.block k hk (fun e => hB (Or.inr (by cases e; rfl)))
set_option maxRecDepth 100000 in
set_option maxHeartbeats 1000000 in
theorem sections_str (w : World) (gc ga ca gn n c : Nat) (o : Option Addr) (ws : List Int) (x : Value) (cg : Array Value) (hgc : w.heap[gc]? = some (.cells cg 226 (0, 0))) (h1 : w.cell? ⟨gc, 1, none⟩ = some (.slice (some ⟨ga, 0, none⟩) 1 ca)) (hne : ga ≠ gc) (hca : 1 ≤ ca)
    (hO : w.ownsRow 0 49 1 (.slice (some ⟨ga, 0, none⟩) 1 ca) 1 [x]) (n2 : w.cell? ⟨gn, 2, none⟩ = some (.slice o n c)) (n3 : w.cell? ⟨gn, 3, none⟩ = some (.slice none 0 0)) (hr : Row w o n ws) (hn : n ≤ 8) (hgn : gn ≠ gc) (hga : gn ≠ ga) (hln : gn < w.heap.size) :
    Calls Faig.prog 147 #[.pointer (some ⟨gc, 0, none⟩), .pointer (some ⟨gn, 0, none⟩)] w fun e w' => e = .returned (.tuple #[]) ∧ SecP w w' gc ga n (x :: ws.map (Value.int .u64)) := by
  obtain ⟨i49, li, lz0, lz1, lz2⟩ := info_parts info49
  have hf1 := unfrozen_of_block hgc 1
  have hlc : gc < w.heap.size := (Array.getElem?_eq_some_iff.1 hgc).1
  by_cases h0 : n = 0
  · subst h0
    have hws : ws = [] := by have := hr.1; simpa using this
    subst hws
    have HS : Hid (SecP w (w.drew.setCell ⟨gc, 1, none⟩ (.slice (some ⟨ga, 0, none⟩) (1 + 0) ca)) gc ga 0 [x]) := SecP.of hgc h1 hne (w3 := w.drew) (ownsRow_same hO (fun _ _ => rfl)) ⟨rfl, rfl, rfl, Nat.le_refl _, fun _ _ _ => rfl⟩ (Or.inl rfl)
    clear hO hr
    go_enter Faig.func147, Faig.ntmps147
    go_wp2_with fail
    go_region_law (refine append0_drawn rfl (.tmp 8) (.tmp 12) 22 rfl 49 i49 Faig.underlying22 li (some ⟨ga, 0, none⟩) 1 ca hca (by simp [Act.eval, Act.put]) o c (by simp [Act.eval, Act.put]) ?_)
    all_goals
      go_wp2_with fail
      go_loop [21] (fun s => s = .int .i64 0) (fun _ => 0)
      case atStart => rfl
      case round =>
        subst hrel
        go_wp2_with fail
        refine bodyPost_end (v := .tuple #[]) (by simp [results, Faig.f147]) rfl ?_
        exact ⟨rfl, HS.out⟩
  · obtain ⟨b, off, rfl, hbl, -, -⟩ := hr.at 0 (by omega)
    have hll := hr.1
    have hcells : ∀ j, j < n → w.cell? ⟨b, off + j, none⟩ = some (.int .u64 (ws.getD j 0)) := fun j hj => by
      obtain ⟨b', off', e, -, hc, -⟩ := hr.at j hj
      have e' : b' = b ∧ off' = off := by simp at e; exact ⟨e.1.symm, e.2.symm⟩
      rw [← e'.1, ← e'.2]; exact hc
    have u0 : 0 < n := by omega
    have u1 : Hid (w.drew.ownsRow 0 49 1 (.slice (some ⟨ga, 0, none⟩) 1 ca) 1 [x]) := ownsRow_same hO (fun _ _ => rfl)
    have u2 : Hid (∀ j u, (ws.map (Value.int .u64))[j]? = some u → w.drew.cell? ((⟨b, off, none⟩ : Addr).add j) = some u) := by
      intro j u hj
      have hjn : j < n := by have := (List.getElem?_eq_some_iff.1 hj).1; simp at this; omega
      rw [Go.WideShapes.add_plain]
      have h2 : w.drew.cell? ⟨b, off + j, none⟩ = w.cell? ⟨b, off + j, none⟩ := rfl
      rw [h2, hcells j hjn, ← hj]
      have : j < ws.length := by omega
      simp [List.getD_eq_getElem?_getD, this]
    have u3 : Hid (∀ u ∈ ws.map (Value.int .u64), u.oneCell' = true) := by
      intro u hu; obtain ⟨z, -, rfl⟩ := List.mem_map.1 hu; rfl
    have u4 : Hid ((ws.map (Value.int .u64)).length = n * 1) := by simp [Hid]; omega
    have b1 : 1 + n ≤ maxLen := by unfold maxLen; omega
    have b2 : (1 + n) * 8 ≤ 140737488355328 := by omega
    have N3 : Hid (∀ w3, w.drew.grownBy w3 (Value.slice (some ⟨ga, 0, none⟩) 1 ca).ownBlock → w3.cell? ⟨gc, 1, none⟩ = some (.slice (some ⟨ga, 0, none⟩) 1 ca) ∧ w3.frozen? ⟨gc, 1, none⟩ = false ∧ w3.cell? ⟨gn, 3, none⟩ = some (.slice none 0 0)) := by
      intro w3 r2
      have hb : w3.heap[gc]? = w.heap[gc]? := r2.block gc hlc (fun e => hne (by cases e; rfl))
      have hb2 : w3.heap[gn]? = w.heap[gn]? := r2.block gn hln (fun e => hga (by cases e; rfl))
      exact ⟨by rw [World.cell?_of_block (w := w) (a := ⟨gc, 1, none⟩) hb]; exact h1, by rw [World.frozen?_of_block (w := w) (a := ⟨gc, 1, none⟩) hb]; exact hf1, by rw [World.cell?_of_block (w := w) (a := ⟨gn, 3, none⟩) hb2]; exact n3⟩
    have HG : Hid (w.heap[gc]? = some (.cells cg 226 (0, 0))) := hgc
    clear hO hr hcells hgc
    generalize hxs : ws.map (Value.int .u64) = xs at *
    clear hxs
    go_enter Faig.func147, Faig.ntmps147
    go_wp2_with fail
    go_region_law (
      refine append_drawn rfl (.tmp 8) (.tmp 12) 22 rfl 49 i49 _ 1 8 Faig.underlying22 li lz0 lz1 lz2 rfl (by decide) (.slice (some ⟨ga, 0, none⟩) 1 ca) 1 [x] (by simp [Act.eval, Act.put]) u1.out ⟨b, off, none⟩ n c u0 xs (by simp [Act.eval, Act.put]) u4.out u2.out u3.out b1 b2 ?_
      intro g' cap' w3 r1 r2 r3
      have q1 := (N3.out w3 r2).1
      have q2 := (N3.out w3 r2).2.1
      have q3 := (N3.out w3 r2).2.2)
    all_goals
      have HS : Hid (SecP w (w3.setCell ⟨gc, 1, none⟩ (.slice (some ⟨g', 0, none⟩) (1 + n) cap')) gc ga n (x :: xs)) := SecP.of HG.out h1 hne r1 r2 r3
      clear r1 r2 r3 N3 u1 u2 u3 u4
      go_wp2_with fail
      go_loop [21] (fun s => s = .int .i64 0) (fun _ => 0)
      case atStart => rfl
      case round =>
        subst hrel
        go_wp2_with fail
        refine bodyPost_end (v := .tuple #[]) (by simp [results, Faig.f147]) rfl ?_
        exact ⟨rfl, HS.out⟩
end Go.Proofs.Ygcfai

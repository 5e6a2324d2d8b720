/-
  DefaultBack: tree.sized.
-/
import Derived.Test.YgcfaiCanB
import Derived.Laws.CopyOwn
namespace Go.Proofs.Ygcfai
open Go.RowKit Go.Joins Plain
set_option linter.unusedVariables false
set_option linter.unusedSimpArgs false
theorem copy_row {P : Program} {w : World} {ops : Array Oper} {rest : List Oper} {a : Act} {Q : Exit → Act → World → Prop} {k : Nat} {d s : Operand} {dT sT : TypeId} {ty : TypeId} {ps : String} {af : Array Edge}
    (elem : TypeId) (hu : P.underlying dT = some (.slice elem)) (hsz : (P.info? elem).map (·.size) = some 1)
    (g off dLen dCap : Nat) (ad : Addr) (sLen sCap : Nat) (hd : a.eval d = .slice (some ⟨g, off, none⟩) dLen dCap) (hs : a.eval s = .slice (some ad) sLen sCap)
    (cur : Array Value) (t : TypeId) (hg : w.heap[g]? = some (.cells cur t (0, 0))) (cs : List Value) (hn : cs.length = Nat.min sLen dLen)
    (hsrc : ∀ j v, cs[j]? = some v → w.cell? (ad.add j) = some v) (hfit : off + cs.length ≤ cur.size) (h1 : ∀ v ∈ cs, v.oneCell' = true)
    (h : wpList P ops Q rest (a.put (some k) (goInt cs.length)) (w.setRow g (cur.toList.take off ++ (cs ++ cur.toList.drop (off + cs.length))).toArray)) :
    wpList P ops Q ({ dst := some k, op := Op.call { callee := Callee.builtin Builtin.copy, args := #[d, s], argTypes := #[dT, sT] }, type := ty, pos := ps, after := af, guard := none } :: rest) a w :=
  wpList_copy_own rfl d s dT sT rfl elem hu hsz g off dLen dCap ad sLen sCap hd hs cur t hg cs hn hsrc hfit h1 h
theorem i49s : (Faig.prog.info? 49).map (·.size) = some 1 := by kernel_rfl
theorem made_block {w : World} {g n : Nat} {xs : List Value} (h : w.ownsRow 0 49 1 (.slice (some ⟨g, 0, none⟩) n n) n xs) : ∃ cur, w.heap[g]? = some (.cells cur 49 (0, 0)) ∧ cur.size = n ∧ n ≤ maxLen := by
  rcases h.2 with ⟨h0, -⟩ | ⟨g', cap, cur, e, -, hh, q1, q2, q3, q4⟩
  · cases h0
  have eg : g = g' := by injection e with h1; injection h1 with h1; injection h1 with h1
  subst eg
  have ec : n = cap := by injection e
  subst ec
  exact ⟨cur, hh, by simpa using q3, q2⟩
theorem cells_in {w w0 : World} {b off : Nat} (hB : Below w.heap.size w w0) (hb : b < w.heap.size) (j : Nat) : w0.cell? ((⟨b, off, none⟩ : Addr).add j) = w.cell? ((⟨b, off, none⟩ : Addr).add j) := by
  rw [Go.WideShapes.add_plain]
  exact hB.cell (p := ⟨b, off + j, none⟩) hb
def SizedP (w w' : World) (e : Ending) (n : Nat) (xs : List Value) : Prop := ∃ o c, e = .returned (.slice o n c) ∧ Below w.heap.size w w' ∧ w'.ownsRow 0 49 1 (.slice o n c) n xs ∧ ∀ b, (Value.slice o n c).ownBlock = some b → w.heap.size ≤ b
set_option maxRecDepth 100000 in
set_option maxHeartbeats 1000000 in
theorem sized_any (w : World) (o : Option Addr) (c d n : Nat) (ws : List Int) (hr : Row w o d ws) (hn : n ≤ d) (hd : d ≤ 8) :
    Calls Faig.prog 145 #[.slice o d c, .int .i64 n] w fun e w' => SizedP w w' e n ((ws.take n).map (Value.int .u64)) := by
  obtain ⟨i49, hi, hz0, hz1, hz2⟩ := info_parts info49
  by_cases h0 : n = 0
  · subst h0
    go_enter Faig.func145, Faig.ntmps145
    go_wp2_with fail
    go_ret
    exact ⟨_, _, rfl, Below.refl _ _, ⟨by simp, Or.inl ⟨rfl, rfl⟩⟩, fun b hb => by cases hb⟩
  · have ht : decide ((n : Int) = 0) = false := by simp; omega
    have b3 : n ≤ maxLen := by unfold maxLen; omega
    have b4 : i49.bytes * n ≤ 281474976710656 := by rw [hz2]; omega
    obtain ⟨b, off, rfl, hbl, -, -⟩ := hr.at 0 (by omega)
    have hl := hr.1
    have hcells : ∀ j, j < d → w.cell? ⟨b, off + j, none⟩ = some (.int .u64 (ws.getD j 0)) := fun j hj => by
      obtain ⟨b', off', e, -, hc, -⟩ := hr.at j hj
      have e' : b' = b ∧ off' = off := by simp at e; exact ⟨e.1.symm, e.2.symm⟩
      rw [← e'.1, ← e'.2]; exact hc
    have HX : Hid (∀ xs : List Value, ∀ w' e, SizedP w w' e n xs ↔ SizedP w w' e n xs) := fun _ _ _ => Iff.rfl
    generalize hxs : (ws.take n).map (Value.int .u64) = xs
    have hxl : xs.length = n := by rw [← hxs]; simp; omega
    have hx1 : ∀ v ∈ xs, v.oneCell' = true := by
      intro v hv; rw [← hxs] at hv; obtain ⟨x, -, rfl⟩ := List.mem_map.1 hv; rfl
    have hxc : ∀ j v, xs[j]? = some v → w.cell? ((⟨b, off, none⟩ : Addr).add j) = some v := by
      intro j v hj
      have hjn : j < n := by rw [← hxl]; exact (List.getElem?_eq_some_iff.1 hj).1
      rw [Go.WideShapes.add_plain, hcells j (by omega)]
      rw [← hxs, List.getElem?_map, List.getElem?_take, if_pos hjn] at hj
      have : j < ws.length := by omega
      rw [List.getElem?_eq_getElem this] at hj
      simp at hj
      rw [← hj]; simp [List.getD_eq_getElem?_getD, this]
    clear hxs HX hcells hr
    go_enter Faig.func145, Faig.ntmps145
    go_wp2_with (first | (with_reducible refine copy_row (dT := 22) 49 Faig.underlying22 i49s w.heap.size 0 n n ⟨b, off, none⟩ d c (by simp [Act.eval, Act.put]) (by simp [Act.eval, Act.put]) cur 49 hcur xs (by rw [hxl]; exact (Nat.min_eq_right hn).symm) hxc0 (by omega) hx1 ?_) | (at_make; refine wpList_make_full _ rfl _ _ 22 rfl 0 49 i49 _ 1 Faig.underlying22 hi hz0 hz1 .i64 .i64 n n n rfl rfl rfl rfl b4 b3 (Nat.zero_le _) ?_; intro w0 r1 r2; obtain ⟨cur, hcur, hcs, hcm⟩ := made_block r1; have B0 := (Below.refl w.heap.size w).grown r2 (Nat.le_refl _) (fun k hk => by cases hk); have hxc0 := fun j v hj => (cells_in B0 hbl j).trans (hxc j v hj)) | fail)
    have hdrop : List.drop n cur.toList = [] := List.drop_eq_nil_of_le (by simp; omega)
    rw [hdrop, List.append_nil]
    have hs := setRow_block (c' := xs.toArray) hcur
    have Bs := setRow_below (c' := xs.toArray) B0 (Nat.le_refl w.heap.size)
    clear r1 r2
    go_ret
    exact ⟨some ⟨w.heap.size, 0, none⟩, n, rfl, Bs, ⟨by rw [hxl]; omega, Or.inr ⟨w.heap.size, n, xs.toArray, rfl, Nat.zero_le _, hs, Nat.le_refl _, hcm, by simp [hxl], by simp; exact List.take_of_length_le (by omega)⟩⟩, fun b' hb' => by cases hb'; exact Nat.le_refl _⟩
end Go.Proofs.Ygcfai

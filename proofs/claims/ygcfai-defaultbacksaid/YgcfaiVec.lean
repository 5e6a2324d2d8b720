/-
  A SLICE OF THE CALL's OWN, APPENDED TO: it stays in its block or goes to a new one.
-/
import Derived.Test.YgcfaiRows
import Derived.WalkKit
import Derived.ArgAppend
import Derived.Deep.RegionLawGrows
import Derived.Lib.SmallJoins
namespace Go.Proofs.Ygcfai
open Go.RowKit Go.Joins

theorem setCells_block : ∀ (vs : List Value) (w : World) (g o : Nat) (xs : List Value) (cur : Array Value) (e : TypeId), w.heap[g]? = some (.cells cur e (0, 0)) → xs.length = o → cur.toList.take o = xs → o + vs.length ≤ cur.size →
    ∃ cur', (w.setCells g o vs).heap[g]? = some (.cells cur' e (0, 0)) ∧ cur'.size = cur.size ∧ cur'.toList.take (o + vs.length) = xs ++ vs
  | [], w, g, o, xs, cur, e, h, hx, ht, hl => ⟨cur, by simpa [World.setCells] using h, rfl, by simpa using ht⟩
  | v :: r, w, g, o, xs, cur, e, h, hx, ht, hl => by
    have hb := block_setCell (i := o) h v
    have hlt : o < cur.size := by simp at hl; omega
    obtain ⟨cur', a1, a2, a3⟩ := setCells_block r (w.setCell ⟨g, o, none⟩ v) g (o + 1) (xs ++ [v]) (cur.setIfInBounds o v) e hb (by simp [hx]) (by
      rw [Array.toList_setIfInBounds, List.take_add_one]
      have e1 : (cur.toList.set o v).take o = xs := by rw [List.take_set_of_le (Nat.le_refl _)]; exact ht
      rw [e1]
      simp [hlt]) (by simp at hl ⊢; omega)
    refine ⟨cur', by simpa [World.setCells] using a1, by simpa using a2, ?_⟩
    rw [show o + (v :: r).length = o + 1 + r.length by simp; omega, a3]
    simp
theorem setCells_other : ∀ (vs : List Value) (w : World) (g o k : Nat), k ≠ g → (w.setCells g o vs).heap[k]? = w.heap[k]?
  | [], w, g, o, k, _ => by simp [World.setCells]
  | v :: r, w, g, o, k, h => by
    have := setCells_other r (w.setCell ⟨g, o, none⟩ v) g (o + 1) k h
    rw [show w.setCells g o (v :: r) = (w.setCell ⟨g, o, none⟩ v).setCells g (o + 1) r from rfl, this]
    exact Below.heap_setCell _ _ _ _ h
theorem setCells_rest : ∀ (vs : List Value) (w : World) (g o : Nat), (w.setCells g o vs).os = w.os ∧ (w.setCells g o vs).tape = w.tape ∧ (w.setCells g o vs).output = w.output ∧ (w.setCells g o vs).heap.size = w.heap.size
  | [], w, g, o => ⟨rfl, rfl, rfl, rfl⟩
  | v :: r, w, g, o => by
    obtain ⟨a, b, c, d⟩ := setCells_rest r (w.setCell ⟨g, o, none⟩ v) g (o + 1)
    exact ⟨a, b, c, by rw [show w.setCells g o (v :: r) = (w.setCell ⟨g, o, none⟩ v).setCells g (o + 1) r from rfl, d]; simp [World.setCell]⟩

/-- append to a slice of the call's own: one law for nil, for room and for growth; where the new slice lies is said. -/
theorem append_step {P : Program} (w : World) {ops : Array Oper} {rest : List Oper} {o : Oper} {a : Act} {Q : Exit → Act → World → Prop}
    (hg : o.guard = none) (s x : Operand) (t : TypeId) (hop : o.op = Op.call { callee := Callee.builtin Builtin.append, args := #[s, x], argTypes := #[t, t] })
    (e : TypeId) (i : TypeInfo) (z : Value) (size bytes : Nat) (h1 : P.underlying t = some (.slice e)) (h2 : P.info? e = some i) (h3 : i.zero = some z) (h4 : i.size = size) (h5 : i.bytes = bytes) (h6 : z.cells.size = size) (h7 : 0 < size)
    (v : Value) (n : Nat) (xs : List Value) (hs : a.eval s = v) (hv : w.ownsRow 0 e size v n xs)
    (ad : Addr) (m c : Nat) (hm : 0 < m) (news : List Value) (hx : a.eval x = .slice (some ad) m c) (hn : news.length = m * size) (hc : ∀ j u, news[j]? = some u → w.cell? (ad.add j) = some u) (h1c : ∀ u ∈ news, u.oneCell' = true)
    (b1 : n + m ≤ maxLen) (b2 : (n + m) * bytes ≤ 140737488355328)
    (h : ∀ g' cap' w', w'.ownsRow 0 e size (.slice (some ⟨g', 0, none⟩) (n + m) cap') (n + m) (xs ++ news) → w.grownBy w' v.ownBlock → (v.ownBlock = some g' ∨ w.heap.size ≤ g') → wpList P ops Q rest (a.put o.dst (.slice (some ⟨g', 0, none⟩) (n + m) cap')) w') :
    wpList P ops Q (o :: rest) a w := by
  have grown : ∀ v' w', w'.ownsRow w.heap.size e size v' (n + m) (xs ++ news) → w.grownBy w' none → wpList P ops Q rest (a.put o.dst v') w' := by
    intro v' w' r1 r2
    have r1' := ownsRow_le r1 (Nat.zero_le _)
    rcases r1.2 with ⟨-, h0⟩ | ⟨g', cap', cur, rfl, hb, hh, q1, q2, q3, q4⟩
    · omega
    · exact h g' cap' w' r1' ⟨r2.os, r2.tape, r2.output, r2.size, fun k hk _ => r2.block k hk (by simp)⟩ (Or.inr hb)
  have hlen := hv.1
  rcases hv.2 with ⟨rfl, rfl⟩ | ⟨g, cap, cur, rfl, -, hh, q1, q2, q3, q4⟩
  · have hxs : xs = [] := by simpa using hlen
    subst hxs
    exact wpList_append_grows w hg s x t hop e i z size bytes h1 h2 h3 h4 h5 h6 h7 none 0 0 [] hs (fun _ => ⟨rfl, rfl⟩) (by simp) (fun b hb => by cases hb) ad m c news hx hn hc h1c (by omega) b1 b2 grown
  · have hcs : cur.size = cap * size := q3
    refine wpList_append_arg w hg s x t hop e i z size bytes h1 h2 h3 h4 h5 h6 h7 g 0 n cap xs hs hlen ?_ ad m c news hx hn hc h1c ?_ b1 b2 ?_ (fun _ => grown)
    · intro j u hu
      have hj : j < xs.length := (List.getElem?_eq_some_iff.1 hu).1
      rw [cell_of_block hh, Nat.zero_add]
      rw [← q4, List.getElem?_take] at hu
      split at hu
      · rw [Array.getElem?_toList] at hu; exact hu
      · cases hu
    · intro hr j hj
      have hle : (n + m) * size ≤ cap * size := Nat.mul_le_mul_right _ hr
      have hlt : 0 + n * size + j < cur.size := by rw [hcs]; rw [Nat.add_mul] at hle; omega
      rw [cell_of_block hh, unfrozen_of_block hh]
      exact ⟨by rw [Array.getElem?_eq_getElem hlt]; rfl, rfl⟩
    · intro hr
      have hle : (n + m) * size ≤ cap * size := Nat.mul_le_mul_right _ hr
      obtain ⟨cur', a1, a2, a3⟩ := setCells_block news w g (0 + n * size) xs cur e hh (by omega) (by rw [Nat.zero_add]; exact q4) (by rw [hcs, hn]; rw [Nat.add_mul] at hle; omega)
      obtain ⟨s1, s2, s3, s4⟩ := setCells_rest news w g (0 + n * size)
      refine h g cap _ ⟨by simp [hlen, hn, Nat.add_mul], Or.inr ⟨g, cap, cur', rfl, Nat.zero_le _, a1, hr, q2, by rw [a2]; exact q3, ?_⟩⟩ ⟨s1, s2, s3, by rw [s4]; exact Nat.le_refl _, fun k hk hne => setCells_other _ _ _ _ _ (by intro hkg; apply hne; rw [hkg]; rfl)⟩ (Or.inl rfl)
      rw [show (n + m) * size = 0 + n * size + news.length by rw [hn, Nat.add_mul]; omega]
      exact a3

/-- The same, as one step of a region that draws. -/
theorem append_drawn {P : Program} {w : World} {ops : Array Oper} {o : Oper} {a : Act} {K : Act → World → Prop} {Q : Exit → Act → World → Prop} {E : Prop}
    (hg : o.guard = none) (s x : Operand) (t : TypeId) (hop : o.op = Op.call { callee := Callee.builtin Builtin.append, args := #[s, x], argTypes := #[t, t] })
    (e : TypeId) (i : TypeInfo) (z : Value) (size bytes : Nat) (h1 : P.underlying t = some (.slice e)) (h2 : P.info? e = some i) (h3 : i.zero = some z) (h4 : i.size = size) (h5 : i.bytes = bytes) (h6 : z.cells.size = size) (h7 : 0 < size)
    (v : Value) (n : Nat) (xs : List Value) (hs : a.eval s = v) (hv : w.ownsRow 0 e size v n xs)
    (ad : Addr) (m c : Nat) (hm : 0 < m) (news : List Value) (hx : a.eval x = .slice (some ad) m c) (hn : news.length = m * size) (hc : ∀ j u, news[j]? = some u → w.cell? (ad.add j) = some u) (h1c : ∀ u ∈ news, u.oneCell' = true)
    (b1 : n + m ≤ maxLen) (b2 : (n + m) * bytes ≤ 140737488355328)
    (h : ∀ g' cap' w', w'.ownsRow 0 e size (.slice (some ⟨g', 0, none⟩) (n + m) cap') (n + m) (xs ++ news) → w.grownBy w' v.ownBlock → (v.ownBlock = some g' ∨ w.heap.size ≤ g') → K (a.put o.dst (.slice (some ⟨g', 0, none⟩) (n + m) cap')) w') :
    if Region.wanted o (yielded ops a.tmps) = true then Oper.wp P o a w K Q else E := by
  have grown : ∀ v' w', w'.ownsRow w.heap.size e size v' (n + m) (xs ++ news) → w.grownBy w' none → K (a.put o.dst v') w' := by
    intro v' w' r1 r2
    have r1' := ownsRow_le r1 (Nat.zero_le _)
    rcases r1.2 with ⟨-, h0⟩ | ⟨g', cap', cur, rfl, hb, hh, q1, q2, q3, q4⟩
    · omega
    · exact h g' cap' w' r1' ⟨r2.os, r2.tape, r2.output, r2.size, fun k hk _ => r2.block k hk (by simp)⟩ (Or.inr hb)
  have hlen := hv.1
  rcases hv.2 with ⟨rfl, rfl⟩ | ⟨g, cap, cur, rfl, -, hh, q1, q2, q3, q4⟩
  · have hxs : xs = [] := by simpa using hlen
    subst hxs
    exact step_append_grows hg s x t hop e i z size bytes h1 h2 h3 h4 h5 h6 h7 none 0 0 [] hs (fun _ => ⟨rfl, rfl⟩) (by simp) (fun b hb => by cases hb) ad m c news hx hn hc h1c (by omega) b1 b2 grown
  · have hcs : cur.size = cap * size := q3
    have hcells : ∀ j u, xs[j]? = some u → w.cell? ⟨g, 0 + j, none⟩ = some u := by
      intro j u hu
      have hj : j < xs.length := (List.getElem?_eq_some_iff.1 hu).1
      rw [cell_of_block hh, Nat.zero_add]
      rw [← q4, List.getElem?_take] at hu
      split at hu
      · rw [Array.getElem?_toList] at hu; exact hu
      · cases hu
    by_cases hr : n + m ≤ cap
    · have hspare : ∀ j, j < news.length → (w.cell? ⟨g, 0 + n * size + j, none⟩).isSome = true ∧ w.frozen? ⟨g, 0 + n * size + j, none⟩ = false := by
        intro j hj
        have hle : (n + m) * size ≤ cap * size := Nat.mul_le_mul_right _ hr
        have hlt : 0 + n * size + j < cur.size := by rw [hcs]; rw [Nat.add_mul] at hle; omega
        rw [cell_of_block hh, unfrozen_of_block hh]
        exact ⟨by rw [Array.getElem?_eq_getElem hlt]; rfl, rfl⟩
      refine step_append_room hg s x t hop e i size h1 h2 h4 g 0 n cap hs ad m c news hx hn hc h1c hr hspare ?_
      have hle : (n + m) * size ≤ cap * size := Nat.mul_le_mul_right _ hr
      obtain ⟨cur', a1, a2, a3⟩ := setCells_block news w g (0 + n * size) xs cur e hh (by omega) (by rw [Nat.zero_add]; exact q4) (by rw [hcs, hn]; rw [Nat.add_mul] at hle; omega)
      obtain ⟨s1, s2, s3, s4⟩ := setCells_rest news w g (0 + n * size)
      refine h g cap _ ⟨by simp [hlen, hn, Nat.add_mul], Or.inr ⟨g, cap, cur', rfl, Nat.zero_le _, a1, hr, q2, by rw [a2]; exact q3, ?_⟩⟩ ⟨s1, s2, s3, by rw [s4]; exact Nat.le_refl _, fun k hk hne => setCells_other _ _ _ _ _ (by intro hkg; apply hne; rw [hkg]; rfl)⟩ (Or.inl rfl)
      rw [show (n + m) * size = 0 + n * size + news.length by rw [hn, Nat.add_mul]; omega]
      exact a3
    · exact step_append_grows hg s x t hop e i z size bytes h1 h2 h3 h4 h5 h6 h7 (some ⟨g, 0, none⟩) n cap xs hs (fun hh => by cases hh) hlen (fun b hb j u hu => by cases hb; rw [Go.WideShapes.add_plain]; exact hcells j u hu) ad m c news hx hn hc h1c (by omega) b1 b2 grown
end Go.Proofs.Ygcfai

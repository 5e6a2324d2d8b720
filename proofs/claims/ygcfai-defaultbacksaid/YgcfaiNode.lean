/-
  DefaultBack: codec.words, kids, node.
-/
import Derived.Test.YgcfaiValD
import Derived.Test.YgcfaiDefG
import Derived.Deep.CutRange
namespace Go.Proofs.Ygcfai
open Go.RowKit Go.Joins Plain
set_option linter.unusedVariables false
set_option linter.unusedSimpArgs false
theorem kids_0 (w : World) : Calls Faig.prog 90 #[.int .i64 0] w fun e w' => e = .returned (.slice none 0 0) ∧ w' = w := by
  go_enter Faig.func90, Faig.ntmps90
  go_wp2
  go_ret
  exact ⟨rfl, rfl⟩
/-- A list just made: of the call's own, empty. -/
def WordsP (w w' : World) (v : Value) : Prop := Below w.heap.size w w' ∧ w'.ownsRow 0 49 1 v 0 [] ∧ ∀ b, v.ownBlock = some b → w.heap.size ≤ b
set_option maxRecDepth 100000 in
theorem words89 (w : World) (d : Nat) (hd : d ≤ 8) : Calls Faig.prog 89 #[.int .i64 d] w fun e w' => ∃ o c, e = .returned (.slice o 0 c) ∧ WordsP w w' (.slice o 0 c) := by
  obtain ⟨i49, hi, hz0, hz1, hz2⟩ := info_parts info49
  by_cases h0 : d = 0
  · subst h0
    go_enter Faig.func89, Faig.ntmps89
    go_wp2
    go_ret
    exact ⟨_, _, rfl, Below.refl _ _, ⟨by simp, Or.inl ⟨rfl, rfl⟩⟩, fun b hb => by cases hb⟩
  · have ht : decide ((d : Int) = 0) = false := by simp; omega
    have b3 : d ≤ maxLen := by unfold maxLen; omega
    have b4 : i49.bytes * d ≤ 281474976710656 := by rw [hz2]; omega
    go_enter Faig.func89, Faig.ntmps89
    go_wp2_with (first | (at_make; refine wpList_make_own _ rfl _ _ 22 rfl 0 49 i49 _ 1 Faig.underlying22 hi hz0 hz1 .i64 .i64 d d rfl rfl rfl b4 b3 (Nat.zero_le _) ?_; intro w0 r1 r2) | fail)
    have P : WordsP w w0 (.slice (some ⟨w.heap.size, 0, none⟩) 0 d) := ⟨(Below.refl _ w).grown r2 (Nat.le_refl _) (fun k hk => by cases hk), r1, fun b hb => by cases hb; exact Nat.le_refl _⟩
    clear r1 r2
    go_ret
    exact ⟨_, _, rfl, P⟩
theorem fv64 (l : List Int) (d i : Nat) (hi : i < d) (hb : ∀ j, U64 (l.getD j 0)) : fv l 1 d 64 i = l.getD (1 + i) 0 := by
  unfold fv getv
  have e1 : ((i : Int) * ((64 : Nat) : Int)) / 64 = i := by omega
  have e2 : ((i : Int) * ((64 : Nat) : Int)) % 64 = 0 := by omega
  rw [if_neg (by omega), e1, e2, show (1 + (i : Int)).toNat = 1 + i by omega]
  have := hb (1 + i)
  obtain ⟨h0, h1⟩ := this
  rw [show (0 : Int).toNat = 0 from rfl]
  simp only [Int.pow_zero, Int.ediv_one]
  exact Int.emod_eq_of_lt h0 (by simpa using h1)

/-- A node of a struct being read: block gn; k of its words are there. -/
structure NI (w W : World) (gn : Nat) (v : Value) (k : Nat) (xs : List Value) : Prop where
  below : Below w.heap.size w W
  gnN : w.heap.size ≤ gn
  blk : W.heap[gn]? = some (.cells #[.int .u8 1, .int .u8 0, v, .slice none 0 0] 41 (0, 0))
  own : W.ownsRow 0 49 1 v k xs
  vN : ∀ b, v.ownBlock = some b → w.heap.size ≤ b ∧ b ≠ gn
def NodeP (w w' : World) (e : Ending) (d : Nat) (xs : List Value) : Prop := ∃ v, e = .returned (.agg #[.int .u8 1, .int .u8 0, v, .slice none 0 0]) ∧ Below w.heap.size w w' ∧ w'.ownsRow 0 49 1 v d xs ∧ ∀ b, v.ownBlock = some b → w.heap.size ≤ b

theorem sz3 (w : World) (o1 o2 o3 : Obj) : w.heap.size + 2 < (((w.alloc o1).alloc o2).alloc o3).heap.size := by simp
theorem bk3 (w : World) (o1 o2 : Obj) (c : Array Value) (t : TypeId) : (((w.alloc o1).alloc o2).alloc (.cells c t (0, 0))).heap[w.heap.size + 2]? = some (.cells c t (0, 0)) := by
  show (((w.heap.push _).push _).push _)[w.heap.size + 2]? = _
  rw [Array.getElem?_push, if_pos (by simp)]
theorem pk3 (w : World) (o1 o2 : Obj) (c : Array Value) (t : TypeId) (i : Nat) : (((w.alloc o1).alloc o2).alloc (.cells c t (0, 0))).cell? ⟨w.heap.size + 2, i, none⟩ = c[i]? := cell_of_block (bk3 w o1 o2 c t) i
theorem pf3 (w : World) (o1 o2 : Obj) (c : Array Value) (t : TypeId) (i : Nat) : (((w.alloc o1).alloc o2).alloc (.cells c t (0, 0))).frozen? ⟨w.heap.size + 2, i, none⟩ = false := unfrozen_of_block (bk3 w o1 o2 c t) i
theorem ka {n : Nat} {w W : World} (o : Obj) (h : Below n w W) (hn : n ≤ w.heap.size) : Below n w (W.alloc o) := h.alloc (Nat.le_trans hn h.size) o
theorem ks4 {n g : Nat} {w W : World} {a b c d : Value} (h : Below n w W) (hn : n ≤ g) : Below n w ((((W.setCell ⟨g, 0, none⟩ a).setCell ⟨g, 1, none⟩ b).setCell ⟨g, 2, none⟩ c).setCell ⟨g, 3, none⟩ d) :=
  (((h.setCell (p := ⟨g, 0, none⟩) hn _).setCell (p := ⟨g, 1, none⟩) hn _).setCell (p := ⟨g, 2, none⟩) hn _).setCell (p := ⟨g, 3, none⟩) hn _
theorem NI.new {w w1 : World} {v : Value} (hk : Below w.heap.size w w1) (ho : w1.ownsRow 0 49 1 v 0 []) (hv : ∀ b, v.ownBlock = some b → w.heap.size ≤ b) : NI w (w1.alloc (.cells #[.int .u8 1, .int .u8 0, v, .slice none 0 0] 41 (0, 0))) w1.heap.size v 0 [] := by
  refine ⟨hk.alloc hk.size _, hk.size, ?_, ownsRow_same ho (fun b hb => Below.heap_alloc _ _ _ (ownsRow_lt ho hb)), fun b hb => ⟨hv b hb, Nat.ne_of_lt (ownsRow_lt ho hb)⟩⟩
  show (w1.heap.push _)[w1.heap.size]? = _
  rw [Array.getElem?_push, if_pos rfl]
theorem NI.old {w w1 : World} {v : Value} {gn : Nat} (hk : Below w.heap.size w w1) (hg : w.heap.size ≤ gn) (hb : w1.heap[gn]? = some (.cells #[.int .u8 0, .int .u8 0, .slice none 0 0, .slice none 0 0] 41 (0, 0))) (ho : w1.ownsRow 0 49 1 v 0 []) (hv : ∀ b, v.ownBlock = some b → w.heap.size ≤ b ∧ b ≠ gn) :
    NI w ((((w1.setCell ⟨gn, 0, none⟩ (.int .u8 1)).setCell ⟨gn, 1, none⟩ (.int .u8 0)).setCell ⟨gn, 2, none⟩ v).setCell ⟨gn, 3, none⟩ (.slice none 0 0)) gn v 0 [] := by
  refine ⟨ks4 hk hg, hg, ?_, ownsRow_same ho (fun b hb' => ?_), hv⟩
  · have h4 := block_setCell (i := 3) (block_setCell (i := 2) (block_setCell (i := 1) (block_setCell (i := 0) hb (.int .u8 1)) (.int .u8 0)) v) (.slice none 0 0)
    exact h4
  · have hne := (hv b hb').2
    rw [Below.heap_setCell _ _ _ _ hne, Below.heap_setCell _ _ _ _ hne, Below.heap_setCell _ _ _ _ hne, Below.heap_setCell _ _ _ _ hne]
/-- A call of a Go function by its contract, as one step of a region that draws. -/
theorem call_drawn {P : Program} {w : World} {ops : Array Oper} {o : Oper} {a : Act} {K : Act → World → Prop} {Q : Exit → Act → World → Prop} {E : Prop}
    (hg : o.guard = none) (f : Nat) (args : Array Operand) (ts : Array TypeId) (hop : o.op = Op.call { callee := Callee.value (Operand.func f), args := args, argTypes := ts })
    (fn : Func) (c : Code) (hf : P.funcs[f]? = some fn) (hname : (fn.name == "runtime.NumGoroutine") = false) (hb : fn.body = some c)
    (vs : Array Value) (hvs : args.map a.eval = vs) (post : Ending → World → Prop) (hc : Calls P f vs w post)
    (h : ∀ e w', post e w' → ∃ v, e = .returned v ∧ K (a.put o.dst v) w') :
    if Region.wanted o (yielded ops a.tmps) = true then Oper.wp P o a w K Q else E := by
  have hw : Region.wanted o (yielded ops a.tmps) = true := by simp [Region.wanted, hg]
  have h1 : fn.name ≠ "runtime.NumGoroutine" := by simpa using hname
  rw [if_pos hw]
  unfold Oper.wp
  have ha : ∀ x : Array Value, x ++ #[] = x := fun x => by simp
  simp [execOp, hop, resolve, invoke, Result.andThen, Act.eval, Deferred.ofValue, callFunc, hf, h1, hb, Oper.upon_enter]
  rw [hvs]
  exact hc.mono (fun e w' hp => by obtain ⟨v, rfl, hk⟩ := h e w' hp; exact hk)
theorem sz2 (w : World) (o1 o2 : Obj) : ((w.alloc o1).alloc o2).heap.size = w.heap.size + 2 := by simp
theorem kA {W w1 : World} {o : Obj} (h : Below (W.alloc o).drew.heap.size (W.alloc o).drew w1) : Below W.heap.size W w1 := (((Below.refl _ W).alloc (Nat.le_refl _) o).drew).trans (h.mono (by show W.heap.size ≤ (W.alloc o).heap.size; simp))
theorem vA {w : World} {o1 o2 o3 : Obj} {v : Value} (hv : ∀ b, v.ownBlock = some b → (((w.alloc o1).alloc o2).alloc o3).drew.heap.size ≤ b) : ∀ b, v.ownBlock = some b → ((w.alloc o1).alloc o2).heap.size ≤ b ∧ b ≠ w.heap.size + 2 := by
  intro b hb
  have h1 : (((w.alloc o1).alloc o2).alloc o3).heap.size ≤ b := hv b hb
  have h2 : (((w.alloc o1).alloc o2).alloc o3).heap.size = w.heap.size + 3 := by simp
  rw [sz2]; omega
theorem bdrew {n : Nat} {w w1 : World} (h : Below n w.drew w1) : Below n w w1 := ⟨h.os, h.tape, h.output, h.size, h.block⟩
theorem NI.step {w W w1 w3 : World} {gn i g' cap' : Nat} {v : Value} {xs : List Value} {x : Value} {o : Obj} (h : NI w W gn v i xs) (hk : Below W.heap.size W w1)
    (r1 : w3.ownsRow 0 49 1 (.slice (some ⟨g', 0, none⟩) (i + 1) cap') (i + 1) (xs ++ [x])) (r2 : (w1.alloc o).grownBy w3 v.ownBlock) (r3 : v.ownBlock = some g' ∨ w1.heap.size + 1 ≤ g') :
    NI w (w3.setCell ⟨gn, 2, none⟩ (.slice (some ⟨g', 0, none⟩) (i + 1) cap')) gn (.slice (some ⟨g', 0, none⟩) (i + 1) cap') (i + 1) (xs ++ [x]) := by
  have hz := h.below.size
  have hgn : gn < W.heap.size := (Array.getElem?_eq_some_iff.1 h.blk).1
  have hk2 : Below W.heap.size W (w1.alloc o) := hk.alloc hk.size o
  have e : ∀ (u : World) (o : Obj), (u.alloc o).heap.size = u.heap.size + 1 := fun u o => by simp
  have hvn : ∀ b, (Value.slice (some ⟨g', 0, none⟩) (i + 1) cap').ownBlock = some b → w.heap.size ≤ b ∧ b ≠ gn := by
    intro b hb; cases hb
    rcases r3 with r3 | r3
    · exact h.vN g' r3
    · have := hk.size; show w.heap.size ≤ g' ∧ g' ≠ gn; exact ⟨by omega, by omega⟩
  have hblk : w3.heap[gn]? = some (.cells #[.int .u8 1, .int .u8 0, v, .slice none 0 0] 41 (0, 0)) := by
    rw [r2.block gn (by rw [e]; have := hk.size; omega) (fun e => (h.vN gn e.symm).2 rfl), hk2.block gn hgn]; exact h.blk
  refine ⟨?_, h.gnN, ?_, ownsRow_same r1 (fun b hb => Below.heap_setCell _ _ _ _ (hvn b hb).2), hvn⟩
  · have B1 : Below w.heap.size w (w1.alloc o) := h.below.trans (hk2.mono hz)
    exact (B1.grown r2 (by have := hk2.size; omega) (fun b hb => (h.vN b hb).1)).setCell (p := ⟨gn, 2, none⟩) h.gnN _
  · exact block_setCell (i := 2) hblk _
theorem own_shape {w : World} {e : TypeId} {z n : Nat} {v : Value} {xs : List Value} (h : w.ownsRow 0 e z v n xs) : ∃ o c, v = .slice o n c := by
  rcases h.2 with ⟨rfl, rfl⟩ | ⟨g, cap, cur, rfl, -⟩
  · exact ⟨_, _, rfl⟩
  · exact ⟨_, _, rfl⟩
theorem take_next (l : List Int) (d i : Nat) (hl : l.length = 1 + d) (hi : i < d) : ((l.drop 1).map (Value.int .u64)).take (i + 1) = ((l.drop 1).map (Value.int .u64)).take i ++ [.int .u64 (l.getD (1 + i) 0)] := by
  rw [List.take_add_one]
  congr 1
  have : 1 + i < l.length := by omega
  rw [List.getElem?_map, List.getElem?_drop, List.getD_eq_getElem?_getD, List.getElem?_eq_getElem this]; rfl
set_option maxRecDepth 100000 in
set_option maxHeartbeats 2000000 in
theorem node_str (w : World) (gd d : Nat) (a : Option Addr) (cap : Nat) (l : List Int) (T : Int) (hd : d ≤ 8) (hr : Row w a (1 + d) l) (hT : U16 T) (hT1 : d = 0 ∨ T = 1) :
    Calls Faig.prog 52 #[.pointer (some ⟨gd, 0, none⟩), .slice a (1 + d) cap, .agg #[.int .u8 1, .int .u16 T, .int .u8 d, .int .u8 0, .int .u8 0, .int .u16 0]] w fun e w' => NodeP w w' e d ((l.drop 1).map (.int .u64)) := by
  have hwd : IntKind.i64.wrap (d : Int) = d := wrapI64_in _ (by omega) (by omega)
  have hw0 : IntKind.i64.wrap 0 = 0 := by decide
  have P3 : Hid (∀ w1, Below ((w.alloc (.cells #[.int .u8 1, .int .u16 T, .int .u8 d, .int .u8 0, .int .u8 0, .int .u16 0] 88 (0, 0))).alloc (.cells #[.int .u8 0, .int .u8 0, .slice none 0 0, .slice none 0 0] 41 (0, 0))).heap.size ((w.alloc (.cells #[.int .u8 1, .int .u16 T, .int .u8 d, .int .u8 0, .int .u8 0, .int .u16 0] 88 (0, 0))).alloc (.cells #[.int .u8 0, .int .u8 0, .slice none 0 0, .slice none 0 0] 41 (0, 0))) w1 → w1.cell? ⟨w.heap.size, 2, none⟩ = some (.int .u8 d) ∧ w1.cell? ⟨w.heap.size, 3, none⟩ = some (.int .u8 0) ∧ w.heap.size < w1.heap.size) := by
    intro w' h
    refine ⟨?_, ?_, by have := h.size; rw [sz2] at this; omega⟩ <;> (rw [h.cell (by simp <;> omega)]; simp [go_sem])
  go_enter Faig.func52, Faig.ntmps52
  go_wp2_with fail
  go_cut [7] from 19 to 27 (fun s W => ∃ gn v, s = .pointer (some ⟨gn, 0, none⟩) ∧ NI ((w.alloc (.cells #[.int .u8 1, .int .u16 T, .int .u8 d, .int .u8 0, .int .u8 0, .int .u16 0] 88 (0, 0))).alloc (.cells #[.int .u8 0, .int .u8 0, .slice none 0 0, .slice none 0 0] 41 (0, 0))) W gn v 0 [])
  case first =>
    go_region_law (first
      | (refine call_drawn rfl 90 #[.tmp 25] #[3] rfl Faig.f90 _ Faig.func90 rfl rfl #[.int .i64 0] (by simp [Act.eval, Act.put]) _ (kids_0 _) ?_
         rintro e w9 ⟨rfl, hw9⟩
         subst w9
         refine ⟨_, rfl, ?_⟩)
      | (refine call_drawn rfl 89 #[.tmp 21] #[3] rfl Faig.f89 _ Faig.func89 rfl rfl #[.int .i64 d] (by simp [Act.eval, Act.put]) _ (words89 _ d hd) ?_
         rintro e w1 ⟨o1, c1, rfl, hb1, ho1, hv1⟩
         refine ⟨_, rfl, ?_⟩
         have hbA : w1.heap[w.heap.size + 2]? = some (.cells #[.int .u8 0, .int .u8 0, .slice none 0 0, .slice none 0 0] 41 (0, 0)) := (hb1.block (w.heap.size + 2) (sz3 w _ _ _)).trans (bk3 w _ _ _ _)
         have hkA := kA hb1
         have pp2 := (P3.out w1 hkA).1
         have pp3 := (P3.out w1 hkA).2.1
         have pp4 := (P3.out w1 hkA).2.2
         have hvA := vA hv1
         have cc0 : w1.cell? ⟨w.heap.size + 2, 0, none⟩ = some (.int .u8 0) := cell_of_block hbA 0
         have cc1 : w1.cell? ⟨w.heap.size + 2, 1, none⟩ = some (.int .u8 0) := cell_of_block hbA 1
         have cc2 : w1.cell? ⟨w.heap.size + 2, 2, none⟩ = some (.slice none 0 0) := cell_of_block hbA 2
         have cc3 : w1.cell? ⟨w.heap.size + 2, 3, none⟩ = some (.slice none 0 0) := cell_of_block hbA 3
         have ff0 := unfrozen_of_block hbA 0
         have ff1 := unfrozen_of_block hbA 1
         have ff2 := unfrozen_of_block hbA 2
         have ff3 := unfrozen_of_block hbA 3)
      | (refine call_drawn rfl 89 #[.tmp 21] #[3] rfl Faig.f89 _ Faig.func89 rfl rfl #[.int .i64 d] (by simp [Act.eval, Act.put]) _ (words89 _ d hd) ?_
         rintro e w1 ⟨o1, c1, rfl, hb1, ho1, hv1⟩
         refine ⟨_, rfl, ?_⟩
         have hkB := bdrew hb1
         have pp2 := (P3.out w1 hkB).1
         have pp3 := (P3.out w1 hkB).2.1
         have pp4 := (P3.out w1 hkB).2.2
         have hvB := hv1))
    all_goals go_wp2_with fail
    all_goals go_meet
    all_goals
      case rel =>
        first
        | exact ⟨_, _, rfl, NI.old hkA (Nat.le_of_eq (sz2 w _ _)) hbA ho1 hvA⟩
        | exact ⟨_, _, rfl, NI.new hkB ho1 hvB⟩
  case rest =>
    obtain ⟨gn, v, rfl, h⟩ := hcut
    have hRow : Hid (Row ((w.alloc (.cells #[.int .u8 1, .int .u16 T, .int .u8 d, .int .u8 0, .int .u8 0, .int .u16 0] 88 (0, 0))).alloc (.cells #[.int .u8 0, .int .u8 0, .slice none 0 0, .slice none 0 0] 41 (0, 0))) a (1 + d) l) := (hr.alloc _).alloc _
    have hB0 : Hid (Below w.heap.size w ((w.alloc (.cells #[.int .u8 1, .int .u16 T, .int .u8 d, .int .u8 0, .int .u8 0, .int .u16 0] 88 (0, 0))).alloc (.cells #[.int .u8 0, .int .u8 0, .slice none 0 0, .slice none 0 0] 41 (0, 0)))) := ((Below.refl _ w).alloc (Nat.le_refl _) _).alloc (by simp) _
    have hpb : ((w.alloc (.cells #[.int .u8 1, .int .u16 T, .int .u8 d, .int .u8 0, .int .u8 0, .int .u16 0] 88 (0, 0))).alloc (.cells #[.int .u8 0, .int .u8 0, .slice none 0 0, .slice none 0 0] 41 (0, 0))).heap[w.heap.size]? = some (.cells #[.int .u8 1, .int .u16 T, .int .u8 d, .int .u8 0, .int .u8 0, .int .u16 0] 88 (0, 0)) := by
      show ((w.heap.push _).push _)[w.heap.size]? = _
      rw [Array.getElem?_push, if_neg (by simp), Array.getElem?_push, if_pos rfl]
    have hrb : ((w.alloc (.cells #[.int .u8 1, .int .u16 T, .int .u8 d, .int .u8 0, .int .u8 0, .int .u16 0] 88 (0, 0))).alloc (.cells #[.int .u8 0, .int .u8 0, .slice none 0 0, .slice none 0 0] 41 (0, 0))).heap[w.heap.size + 1]? = some (.cells #[.int .u8 0, .int .u8 0, .slice none 0 0, .slice none 0 0] 41 (0, 0)) := by
      show ((w.heap.push _).push _)[w.heap.size + 1]? = _
      rw [Array.getElem?_push, if_pos (by simp)]
    have hz2 : ((w.alloc (.cells #[.int .u8 1, .int .u16 T, .int .u8 d, .int .u8 0, .int .u8 0, .int .u16 0] 88 (0, 0))).alloc (.cells #[.int .u8 0, .int .u8 0, .slice none 0 0, .slice none 0 0] 41 (0, 0))).heap.size = w.heap.size + 2 := by simp
    clear P3
    generalize ((w.alloc (.cells #[.int .u8 1, .int .u16 T, .int .u8 d, .int .u8 0, .int .u8 0, .int .u16 0] 88 (0, 0))).alloc (.cells #[.int .u8 0, .int .u8 0, .slice none 0 0, .slice none 0 0] 41 (0, 0))) = w2 at h hRow hB0 hpb hrb hz2
    have HP : Hid (w2.heap[w.heap.size]? = some (.cells #[.int .u8 1, .int .u16 T, .int .u8 d, .int .u8 0, .int .u8 0, .int .u16 0] 88 (0, 0))) := hpb
    have HRb : Hid (w2.heap[w.heap.size + 1]? = some (.cells #[.int .u8 0, .int .u8 0, .slice none 0 0, .slice none 0 0] 41 (0, 0))) := hrb
    clear hpb hrb hr
    have hll := hRow.out.1
    have hbb := hRow.out.2.1
    have hFit : Hid (Fits 1 T d (1 + d)) := by
      rcases hT1 with h0 | h0
      · subst h0; exact ⟨⟨by omega, by omega⟩, hT, by omega, by omega, Or.inl rfl⟩
      · subst h0; exact ⟨⟨by omega, by omega⟩, hT, by omega, by omega, Or.inr ⟨rfl, by omega, by omega⟩⟩
    obtain ⟨i49, li, lz0, lz1, lz2⟩ := info_parts info49
    go_wp2_with fail
    go_loopw [8] (fun s W => ∃ (i : Nat) (v : Value), i ≤ d ∧ s = .int .u8 (i : Int) ∧ NI w2 W gn v i (((l.drop 1).map (Value.int .u64)).take i)) (fun s _ => d - (intOf s).toNat)
    case atStart => exact ⟨0, v, Nat.zero_le _, by go_num, h⟩
    case round =>
      clear h
      obtain ⟨i, v, hi, rfl, h⟩ := hrel
      have H : Hid (NI w2 wr gn v i (((l.drop 1).map (Value.int .u64)).take i)) := h
      have hpw : wr.heap[w.heap.size]? = some (.cells #[.int .u8 1, .int .u16 T, .int .u8 d, .int .u8 0, .int .u8 0, .int .u16 0] 88 (0, 0)) := (h.below.block _ (by omega)).trans HP.out
      have p0 : wr.cell? ⟨w.heap.size, 0, none⟩ = some (.int .u8 1) := by rw [cell_of_block hpw]; rfl
      have p1 : wr.cell? ⟨w.heap.size, 1, none⟩ = some (.int .u16 T) := by rw [cell_of_block hpw]; rfl
      have p2 : wr.cell? ⟨w.heap.size, 2, none⟩ = some (.int .u8 d) := by rw [cell_of_block hpw]; rfl
      have p3 : wr.cell? ⟨w.heap.size, 3, none⟩ = some (.int .u8 0) := by rw [cell_of_block hpw]; rfl
      have p4 : wr.cell? ⟨w.heap.size, 4, none⟩ = some (.int .u8 0) := by rw [cell_of_block hpw]; rfl
      have p5 : wr.cell? ⟨w.heap.size, 5, none⟩ = some (.int .u16 0) := by rw [cell_of_block hpw]; rfl
      have n2 : wr.cell? ⟨gn, 2, none⟩ = some v := by rw [cell_of_block h.blk]; rfl
      by_cases hlt : i < d
      · have ht : decide ((i : Int) < (d : Int)) = true := by simp; omega
        have HT1 : Hid (d = 0 ∨ T = 1) := hT1
        have hgn : gn < wr.heap.size := (Array.getElem?_eq_some_iff.1 h.blk).1
        have S1 : Hid (∀ w1, Below wr.heap.size wr w1 → (w1.alloc (.cells #[.int .u64 (fv l T d 64 i)] 49 (0, 0))).ownsRow 0 49 1 v i (((l.drop 1).map (Value.int .u64)).take i)) := fun w1 hk => ownsRow_same h.own (fun b hb => (hk.alloc hk.size _).block b (ownsRow_lt h.own hb))
        have N2 : Hid (∀ w1, Below wr.heap.size wr w1 → w1.cell? ⟨gn, 2, none⟩ = some v) := fun w1 hk => (hk.cell (p := ⟨gn, 2, none⟩) hgn).trans n2
        have N3 : Hid (∀ w1 w3, Below wr.heap.size wr w1 → (w1.alloc (.cells #[.int .u64 (fv l T d 64 i)] 49 (0, 0))).grownBy w3 v.ownBlock → w3.cell? ⟨gn, 2, none⟩ = some v ∧ w3.frozen? ⟨gn, 2, none⟩ = false) := by
          intro w1 w3 hk r2
          have hb : w3.heap[gn]? = some (.cells #[.int .u8 1, .int .u8 0, v, .slice none 0 0] 41 (0, 0)) := by
            rw [r2.block gn (by have := hk.size; simp; omega) (fun e => (h.vN gn e.symm).2 rfl), (hk.alloc hk.size _).block gn hgn]; exact h.blk
          exact ⟨by rw [cell_of_block hb]; rfl, unfrozen_of_block hb 2⟩
        have hPlt : Hid (w.heap.size < wr.heap.size) := (Array.getElem?_eq_some_iff.1 hpw).1
        have hPne : Hid (w.heap.size ≠ gn) := by have := h.gnN; unfold Hid; omega
        have PS : Hid (∀ w' : World, w'.heap[w.heap.size]? = wr.heap[w.heap.size]? → w'.cell? ⟨w.heap.size, 0, none⟩ = some (.int .u8 1) ∧ w'.cell? ⟨w.heap.size, 1, none⟩ = some (.int .u16 T) ∧ w'.cell? ⟨w.heap.size, 2, none⟩ = some (.int .u8 d) ∧ w'.cell? ⟨w.heap.size, 3, none⟩ = some (.int .u8 0) ∧ w'.cell? ⟨w.heap.size, 4, none⟩ = some (.int .u8 0) ∧ w'.cell? ⟨w.heap.size, 5, none⟩ = some (.int .u16 0)) := by
          intro w' he
          have hb := he.trans hpw
          refine ⟨?_, ?_, ?_, ?_, ?_, ?_⟩ <;> (rw [cell_of_block hb]; rfl)
        have N5 : Hid (∀ w1 w3, Below wr.heap.size wr w1 → (w1.alloc (.cells #[.int .u64 (fv l T d 64 i)] 49 (0, 0))).grownBy w3 v.ownBlock → w3.heap[w.heap.size]? = wr.heap[w.heap.size]?) := by
          intro w1 w3 hk r2
          rw [r2.block w.heap.size (by have := hk.size; have := hPlt.out; simp; omega) (fun e => by have := (h.vN w.heap.size e.symm).1; omega)]
          exact (hk.alloc hk.size _).block w.heap.size hPlt.out
        have N4 : Hid (∀ w1, Below wr.heap.size wr w1 → gn < w1.heap.size) := fun w1 hk => Nat.lt_of_lt_of_le hgn hk.size
        have HR : Hid (Row wr.drew a (1 + d) l) := (hRow.out.below h.below (Nat.le_refl _)).drew
        have s3 : Hid (∀ u ∈ ([.int .u64 (fv l T d 64 i)] : List Value), u.oneCell' = true) := by
          intro u hu; simp at hu; subst hu; rfl
        have b1 : i + 1 ≤ maxLen := by unfold maxLen; omega
        have b2 : (i + 1) * 8 ≤ 140737488355328 := by omega
        have hi8 : Hid (U8 (i : Int)) := ⟨by omega, by omega⟩
        have hl256 : Hid (1 + d ≤ 256) := by unfold Hid; omega
        clear h hpw hT1
        go_wp2_with fail
        go_region_law (first
          | (refine call_drawn rfl 91 #[.tmp 36, .tmp 37, .tmp 38] #[22, 88, 5] rfl Faig.f91 _ Faig.func91 rfl rfl #[.slice a (1 + d) cap, .agg #[.int .u8 1, .int .u16 T, .int .u8 d, .int .u8 0, .int .u8 0, .int .u16 0], .int .u8 i] (by simp [Act.eval, Act.put]) _ (readU64_any a (1 + d) cap l 1 T d i hl256.out hFit.out hi8.out _ HR.out) ?_
             rintro e w1 ⟨rfl, hb1⟩
             refine ⟨_, rfl, ?_⟩
             have hk1 := bdrew hb1
             have nn2 := N2.out w1 hk1
             have nn4 := N4.out w1 hk1)
          | (refine append_drawn rfl (.tmp 35) (.tmp 40) 22 rfl 49 i49 _ 1 8 Faig.underlying22 li lz0 lz1 lz2 rfl (by decide) v i (((l.drop 1).map (Value.int .u64)).take i) (by simp [Act.eval, Act.put]) (S1.out _ hk1) ⟨w1.heap.size, 0, none⟩ 1 1 (by decide) [.int .u64 (fv l T d 64 i)] (by simp [Act.eval, Act.put]) rfl (fun j u hu => temp_cells w1 #[.int .u64 (fv l T d 64 i)] 49 j u hu) s3.out b1 b2 ?_
             intro g' cap' w3 r1 r2 r3
             have q1 := (N3.out w1 w3 hk1 r2).1
             have q2 := (N3.out w1 w3 hk1 r2).2))
        all_goals
          have HN : Hid (NI w2 (w3.setCell ⟨gn, 2, none⟩ (.slice (some ⟨g', 0, none⟩) (i + 1) cap')) gn (.slice (some ⟨g', 0, none⟩) (i + 1) cap') (i + 1) (((l.drop 1).map (Value.int .u64)).take (i + 1))) := by
            rw [take_next l d i hll hlt]
            rcases HT1.out with h0 | h0
            · omega
            · subst h0
              rw [fv64 l d i hlt hbb] at r1 r2
              exact H.out.step hk1 r1 r2 (by simpa using r3)
          clear r1 r2 r3 q1 q2 hk1 hb1 nn2 nn4 S1 N2 N3 N4 N5 HR H PS
          go_wp2_with fail
          go_roundw
          case rel => exact ⟨i + 1, _, by omega, by go_num, HN.out⟩
          case measure => simp [intOf]; omega
      · have ht : decide ((i : Int) < (d : Int)) = false := by simp; omega
        have ei : i = d := by omega
        subst ei
        have hown := h.own
        obtain ⟨o, c, rfl⟩ := own_shape hown
        have hfull : ((l.drop 1).map (Value.int .u64)).take i = (l.drop 1).map (Value.int .u64) := List.take_of_length_le (by simp; omega)
        have m0 : wr.cell? ⟨gn, 0, none⟩ = some (.int .u8 1) := by rw [cell_of_block h.blk]; rfl
        have m1 : wr.cell? ⟨gn, 1, none⟩ = some (.int .u8 0) := by rw [cell_of_block h.blk]; rfl
        have m3 : wr.cell? ⟨gn, 3, none⟩ = some (.slice none 0 0) := by rw [cell_of_block h.blk]; rfl
        have hrw : wr.heap[w.heap.size + 1]? = some (.cells #[.int .u8 0, .int .u8 0, .slice none 0 0, .slice none 0 0] 41 (0, 0)) := (h.below.block _ (by omega)).trans HRb.out
        have s0 : wr.cell? ⟨w.heap.size + 1, 0, none⟩ = some (.int .u8 0) := by rw [cell_of_block hrw]; rfl
        have s1 : wr.cell? ⟨w.heap.size + 1, 1, none⟩ = some (.int .u8 0) := by rw [cell_of_block hrw]; rfl
        have s2 : wr.cell? ⟨w.heap.size + 1, 2, none⟩ = some (.slice none 0 0) := by rw [cell_of_block hrw]; rfl
        have s3 : wr.cell? ⟨w.heap.size + 1, 3, none⟩ = some (.slice none 0 0) := by rw [cell_of_block hrw]; rfl
        have z0 := unfrozen_of_block hrw 0; have z1 := unfrozen_of_block hrw 1; have z2 := unfrozen_of_block hrw 2; have z3 := unfrozen_of_block hrw 3
        have HQ : Hid (Below w.heap.size w ((((wr.setCell ⟨w.heap.size + 1, 0, none⟩ (.int .u8 1)).setCell ⟨w.heap.size + 1, 1, none⟩ (.int .u8 0)).setCell ⟨w.heap.size + 1, 2, none⟩ (.slice o i c)).setCell ⟨w.heap.size + 1, 3, none⟩ (.slice none 0 0)) ∧ World.ownsRow ((((wr.setCell ⟨w.heap.size + 1, 0, none⟩ (.int .u8 1)).setCell ⟨w.heap.size + 1, 1, none⟩ (.int .u8 0)).setCell ⟨w.heap.size + 1, 2, none⟩ (.slice o i c)).setCell ⟨w.heap.size + 1, 3, none⟩ (.slice none 0 0)) 0 49 1 (.slice o i c) i ((l.drop 1).map (Value.int .u64)) ∧ ∀ b, (Value.slice o i c).ownBlock = some b → w.heap.size ≤ b) := by
          refine ⟨ks4 (hB0.out.trans (h.below.mono (by omega))) (by omega), ?_, fun b hb => by have := (h.vN b hb).1; omega⟩
          rw [hfull] at hown
          refine ownsRow_same hown (fun b hb => ?_)
          have hne : b ≠ w.heap.size + 1 := by have := (h.vN b hb).1; omega
          rw [Below.heap_setCell _ _ _ _ hne, Below.heap_setCell _ _ _ _ hne, Below.heap_setCell _ _ _ _ hne, Below.heap_setCell _ _ _ _ hne]
        clear h H hpw hrw hown hfull
        go_wp2_with fail
        go_loop [9] (fun s => s = .int .u8 0) (fun _ => 0)
        case atStart => rfl
        case round =>
          subst hrel
          go_wp2_with fail
          refine bodyPost_ret (v := .agg #[.int .u8 1, .int .u8 0, .slice o i c, .slice none 0 0]) (by simp [results, Faig.results52, go_sem, s0, s1, s2, s3, World.cell?_setCell_other, World.cell?_setCell_same]) rfl ?_
          exact ⟨_, rfl, by simpa only [List.drop_one, List.map_tail] using HQ.out⟩
end Go.Proofs.Ygcfai

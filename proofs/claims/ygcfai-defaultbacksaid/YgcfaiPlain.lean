/-
  THE PLAIN FUNCTIONS of package wire's reckonings, over Int: no Go in sight.
-/
namespace Go.Proofs.Ygcfai.Plain

/-- wire.Width: the bytes of one element. -/
def width (c : Int) : Int := if c = 2 then 1 else if c = 3 then 2 else if c = 4 then 4 else if c = 5 then 8 else 0

/-- wire.Words: the words that an object takes. -/
def words (k d p c n : Int) : Int :=
  if k = 0 then 0
  else if k = 1 ∧ d ≤ 8 ∧ p ≤ 8 then d + p
  else if k ≠ 2 ∨ 128 < n then 257
  else if 2 ≤ c ∧ c ≤ 5 then (n * width c + 7) / 8
  else if c = 6 then n
  else if c = 7 ∧ d ≤ 8 ∧ p ≤ 8 then (if 1 + n * (d + p) ≤ 257 then 1 + n * (d + p) else 257)
  else 257

/-- A byte, a half word, and so on: what an unsigned number of a kind may be. -/
def U8 (x : Int) : Prop := 0 ≤ x ∧ x ≤ 255
def U16 (x : Int) : Prop := 0 ≤ x ∧ x ≤ 65535

theorem words_bd (k d p c n : Int) (hd : U8 d) (hp : U8 p) (hn : U16 n) : 0 ≤ words k d p c n ∧ words k d p c n ≤ 257 := by
  obtain ⟨d0, d1⟩ := hd; obtain ⟨p0, p1⟩ := hp; obtain ⟨n0, n1⟩ := hn
  have hm : 0 ≤ n * (d + p) := Int.mul_nonneg n0 (by omega)
  have hw : 0 ≤ width c ∧ width c ≤ 8 := by unfold width; split <;> (try split) <;> (try split) <;> (try split) <;> omega
  have hq : 0 ≤ n * width c := Int.mul_nonneg n0 hw.1
  unfold words
  split
  · omega
  split
  · omega
  split
  · omega
  rename_i h1
  have hn8 : n ≤ 128 := by omega
  have hq2 : n * width c ≤ 128 * 8 := Int.mul_le_mul hn8 hw.2 hw.1 (by omega)
  split
  · omega
  split
  · omega
  split
  · split <;> omega
  · omega

end Go.Proofs.Ygcfai.Plain

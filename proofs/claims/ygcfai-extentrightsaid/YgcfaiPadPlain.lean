/-
  THE PLAIN LAW of ExtentRight's loop: byte by byte is the same as one shift. No Go in sight.
-/
namespace Go.Proofs.Ygcfai.Plain

theorem nat_mod_mul (y m b : Nat) : (y % (m * b) = 0) ↔ (y % m = 0 ∧ y / m % b = 0) := by
  rw [Nat.mod_mul]
  constructor
  · intro h
    have h1 : y % m = 0 := by omega
    refine ⟨h1, ?_⟩
    have h2 : m * (y / m % b) = 0 := by omega
    rcases Nat.mul_eq_zero.1 h2 with h3 | h3
    · subst h3; simp at h1; subst h1; simp
    · exact h3
  · rintro ⟨h1, h2⟩
    rw [h1, h2]; simp

/-- What the law has found behind j rounds: 'inn': is the word there; x: the word; r: the bytes of it that elements take. -/
def okj (inn : Bool) (x : Int) (r : Nat) (j : Nat) : Bool := decide (j = 0) || (inn && (x / 2 ^ (r * 8) % 2 ^ (8 * j) == 0))

theorem okj_zero (inn : Bool) (x : Int) (r : Nat) : okj inn x r 0 = true := by simp [okj]
theorem okj_out (x : Int) (r j : Nat) : okj false x r (j + 1) = false := by simp [okj]

theorem cast_div (X k : Nat) : ((X : Int) / 2 ^ k) = ((X / 2 ^ k : Nat) : Int) := by
  rw [Int.natCast_ediv, Int.natCast_pow]; rfl
theorem cast_mod (X k : Nat) : ((X : Int) % 2 ^ k) = ((X % 2 ^ k : Nat) : Int) := by
  rw [Int.natCast_emod, Int.natCast_pow]; rfl

theorem okj_succ (X r j : Nat) : (okj true (X : Int) r (j + 1) = true) ↔ (okj true (X : Int) r j = true ∧ (X : Int) / 2 ^ ((r + j) * 8) % 256 = 0) := by
  have e1 : (X : Int) / 2 ^ ((r + j) * 8) % 256 = ((X / 2 ^ (r * 8) / 2 ^ (8 * j) % 256 : Nat) : Int) := by
    rw [cast_div, show (r + j) * 8 = r * 8 + 8 * j by omega, Nat.pow_add, ← Nat.div_div_eq_div_mul]; omega
  have e2 : ∀ i : Nat, (okj true (X : Int) r (i + 1) = true) ↔ X / 2 ^ (r * 8) % 2 ^ (8 * (i + 1)) = 0 := fun i => by
    simp only [okj, cast_div, cast_mod]
    generalize X / 2 ^ (r * 8) % 2 ^ (8 * (i + 1)) = z
    simp
  have e3 : (okj true (X : Int) r j = true) ↔ X / 2 ^ (r * 8) % 2 ^ (8 * j) = 0 := by
    cases j with
    | zero => simp [okj, Nat.mod_one]
    | succ i => exact e2 i
  rw [e2, e3, e1, show 2 ^ (8 * (j + 1)) = 2 ^ (8 * j) * 256 from by rw [show 8 * (j + 1) = 8 * j + 8 by omega, Nat.pow_add], nat_mod_mul]
  omega

theorem okj_false (inn : Bool) (X r j : Nat) (h : okj inn (X : Int) r j = false) : okj inn (X : Int) r (j + 1) = false := by
  cases inn with
  | false => exact okj_out _ _ _
  | true =>
    cases hh : okj true (X : Int) r (j + 1) with
    | false => rfl
    | true => rw [((okj_succ X r j).1 hh).1] at h; cases h

theorem okj_step (X r j : Nat) (h : okj true (X : Int) r j = true) : okj true (X : Int) r (j + 1) = ((X : Int) / 2 ^ ((r + j) * 8) % 256 == 0) := by
  have := okj_succ X r j
  cases hh : okj true (X : Int) r (j + 1) with
  | false =>
    cases hb : ((X : Int) / 2 ^ ((r + j) * 8) % 256 == 0) with
    | false => rfl
    | true => rw [this.2 ⟨h, by simpa using hb⟩] at hh; cases hh
  | true => have := (this.1 hh).2; simp [this]

theorem okj_end (inn : Bool) (X r j : Nat) (hX : X < 18446744073709551616) (hr : r + j = 8) (hj : 0 < j) : okj inn (X : Int) r j = (inn && ((X : Int) / 2 ^ (r * 8) == 0)) := by
  have hlt : X / 2 ^ (r * 8) < 2 ^ (8 * j) := by
    rw [Nat.div_lt_iff_lt_mul (Nat.pow_pos (by omega)), ← Nat.pow_add, show 8 * j + r * 8 = 64 by omega]; omega
  have e : (X : Int) / 2 ^ (r * 8) % 2 ^ (8 * j) = (X : Int) / 2 ^ (r * 8) := by
    rw [cast_div, cast_mod, Nat.mod_eq_of_lt hlt]
  unfold okj
  rw [e]
  simp [show ¬ j = 0 by omega]

end Go.Proofs.Ygcfai.Plain

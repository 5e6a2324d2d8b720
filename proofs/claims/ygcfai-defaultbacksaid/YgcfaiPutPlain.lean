/-
  BIT FIELDS OF A WORD, PUT AND GOT: plain facts by the single bits.
-/
namespace Go.Proofs.Ygcfai.Plain

/-- The word X with S bits from bit b on replaced by the low S bits of V. -/
def putN (X V b S : Nat) : Nat := 2 ^ b * (2 ^ S * (X / 2 ^ (b + S)) + V % 2 ^ S) + X % 2 ^ b
/-- S bits from bit b on. -/
def getN (X b S : Nat) : Nat := X / 2 ^ b % 2 ^ S

theorem getN_bit (X b S j : Nat) : (getN X b S).testBit j = (decide (j < S) && X.testBit (b + j)) := by
  unfold getN
  rw [Nat.testBit_mod_two_pow, Nat.testBit_div_two_pow, Nat.add_comm]
theorem putN_bit (X V b S j : Nat) : (putN X V b S).testBit j = if b ≤ j ∧ j < b + S then V.testBit (j - b) else X.testBit j := by
  unfold putN
  rw [Nat.testBit_two_pow_mul_add _ (Nat.mod_lt _ (Nat.pow_pos (by omega)))]
  split
  · rename_i h
    rw [if_neg (by omega), Nat.testBit_mod_two_pow]; simp [h]
  · rename_i h
    rw [Nat.testBit_two_pow_mul_add _ (Nat.mod_lt _ (Nat.pow_pos (by omega)))]
    split
    · rename_i h2
      rw [if_pos (by omega), Nat.testBit_mod_two_pow]; simp [h2]
    · rename_i h2
      rw [if_neg (by omega), Nat.testBit_div_two_pow, show j - b - S + (b + S) = j by omega]
theorem get_put_same (X V b S : Nat) : getN (putN X V b S) b S = V % 2 ^ S := by
  apply Nat.eq_of_testBit_eq
  intro j
  rw [getN_bit, putN_bit, Nat.testBit_mod_two_pow]
  by_cases h : j < S
  · rw [if_pos (by omega), show b + j - b = j by omega]
  · simp [h]
theorem get_put_other (X V b S b' S' : Nat) (h : b + S ≤ b' ∨ b' + S' ≤ b) : getN (putN X V b S) b' S' = getN X b' S' := by
  apply Nat.eq_of_testBit_eq
  intro j
  rw [getN_bit, getN_bit, putN_bit]
  by_cases hj : j < S'
  · rw [if_neg (by omega)]
  · simp [hj]
theorem putN_lt (X V b S : Nat) (hX : X < 2 ^ 64) (h : b + S ≤ 64) : putN X V b S < 2 ^ 64 := by
  apply Nat.lt_pow_two_of_testBit
  intro j hj
  rw [putN_bit, if_neg (by omega)]
  exact Nat.testBit_lt_two_pow (Nat.lt_of_lt_of_le hX (Nat.pow_le_pow_right (by omega) hj))
theorem putN_zero (b S : Nat) : putN 0 0 b S = 0 := by
  apply Nat.eq_of_testBit_eq
  intro j
  rw [putN_bit]; simp
/-- '(X &^ (m << b)) | ((V & m) << b)', m all ones in S bits. -/
theorem putN_ops (X V b S : Nat) (hX : X < 2 ^ 64) (h : b + S ≤ 64) : (X &&& (2 ^ 64 - 1 - (2 ^ S - 1) * 2 ^ b)) ||| (V % 2 ^ S * 2 ^ b) = putN X V b S := by
  apply Nat.eq_of_testBit_eq
  intro j
  have hM : (2 ^ S - 1) * 2 ^ b < 2 ^ 64 := by
    have h0 : 0 < 2 ^ S := Nat.pow_pos (by omega)
    have h2 : 0 < 2 ^ b := Nat.pow_pos (by omega)
    have h1 : (2 ^ S - 1) * 2 ^ b < 2 ^ S * 2 ^ b := Nat.mul_lt_mul_of_pos_right (by omega) h2
    rw [← Nat.pow_add] at h1
    exact Nat.lt_of_lt_of_le h1 (Nat.pow_le_pow_right (by omega) (by omega))
  have e : 2 ^ 64 - 1 - (2 ^ S - 1) * 2 ^ b = 2 ^ 64 - ((2 ^ S - 1) * 2 ^ b + 1) := by omega
  rw [Nat.testBit_or, Nat.testBit_and, e, Nat.testBit_two_pow_sub_succ hM, putN_bit, Nat.testBit_mul_two_pow, Nat.testBit_mul_two_pow, Nat.testBit_two_pow_sub_one, Nat.testBit_mod_two_pow]
  by_cases h1 : b ≤ j
  · by_cases h2 : j < b + S
    · rw [if_pos ⟨h1, h2⟩]
      simp [h1, show j - b < S by omega]
    · rw [if_neg (by omega)]
      by_cases h3 : j < 64
      · simp [show ¬ j - b < S by omega, h3]
      · have : X.testBit j = false := Nat.testBit_lt_two_pow (Nat.lt_of_lt_of_le hX (Nat.pow_le_pow_right (by omega) (by omega)))
        simp [this, show ¬ j - b < S by omega]
  · rw [if_neg (by omega)]
    simp [h1, show j < 64 by omega]
/-- Two ranges of a word of which one is all ones and the other all zeros in U share no bit. -/
theorem apart_of (U b S b' S' : Nat) (h1 : getN U b S = 2 ^ S - 1) (h2 : getN U b' S' = 0) (hS : 0 < S) (hS' : 0 < S') : b + S ≤ b' ∨ b' + S' ≤ b := by
  rcases Nat.lt_or_ge b' (b + S) with h3 | h3
  · rcases Nat.lt_or_ge b (b' + S') with h4 | h4
    · exfalso
      have key : ∀ m, b ≤ m → m < b + S → b' ≤ m → m < b' + S' → False := by
        intro m a1 a2 a3 a4
        have e1 := congrArg (fun z => z.testBit (m - b)) h1
        have e2 := congrArg (fun z => z.testBit (m - b')) h2
        simp only [getN_bit, Nat.testBit_two_pow_sub_one, Nat.zero_testBit] at e1 e2
        rw [show b + (m - b) = m by omega] at e1
        rw [show b' + (m - b') = m by omega] at e2
        simp [show m - b < S by omega] at e1
        simp [show m - b' < S' by omega] at e2
        rw [e1] at e2
        cases e2
      rcases Nat.le_total b b' with h5 | h5
      · exact key b' h5 h3 (Nat.le_refl _) (by omega)
      · exact key b (Nat.le_refl _) (by omega) h5 h4
    · exact Or.inr h4
  · exact Or.inl h3
/-- Setting S bits from b on keeps ones, and makes ones. -/
theorem ones_self (U b S : Nat) : getN (U ||| (2 ^ S - 1) * 2 ^ b) b S = 2 ^ S - 1 := by
  apply Nat.eq_of_testBit_eq
  intro j
  rw [getN_bit, Nat.testBit_or, Nat.testBit_mul_two_pow, Nat.testBit_two_pow_sub_one, Nat.testBit_two_pow_sub_one]
  by_cases h : j < S
  · simp [h]
  · simp [h]
theorem ones_keep (U b S b' S' : Nat) (h : getN U b' S' = 2 ^ S' - 1) : getN (U ||| (2 ^ S - 1) * 2 ^ b) b' S' = 2 ^ S' - 1 := by
  apply Nat.eq_of_testBit_eq
  intro j
  have e := congrArg (fun z => z.testBit j) h
  simp only [getN_bit, Nat.testBit_two_pow_sub_one] at e
  rw [getN_bit, Nat.testBit_or, Nat.testBit_two_pow_sub_one]
  by_cases hj : j < S'
  · simp [hj] at e ⊢; exact Or.inl e
  · simp [hj]
end Go.Proofs.Ygcfai.Plain

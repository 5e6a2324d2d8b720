/-
  DefaultBack: the plain law: what is put is got, also in the trimmed copy.
-/
import Derived.Test.YgcfaiLayC
import Derived.Test.YgcfaiCanA
import Derived.Test.YgcfaiValC
namespace Go.Proofs.Ygcfai
open Go.RowKit Plain
set_option linter.unusedVariables false
set_option linter.unusedSimpArgs false

def putP (la : List Int) (p : Nat × Nat) (x : Int) : List Int := la.set (1 + pW p) (putv (la.getD (1 + pW p) 0) x (pB p) p.1)
def putsN (la : List Int) (P : List (Nat × Nat)) (f : Nat → Int) : Nat → List Int
  | 0 => la
  | k + 1 => putP (putsN la P f k) (P.getD k (1, 0)) (f k)
theorem putsN_length (la : List Int) (P : List (Nat × Nat)) (f : Nat → Int) : ∀ k, (putsN la P f k).length = la.length
  | 0 => rfl
  | k + 1 => by unfold putsN putP; rw [List.length_set]; exact putsN_length la P f k
theorem putsN_head (la : List Int) (P : List (Nat × Nat)) (f : Nat → Int) : ∀ k, (putsN la P f k).getD 0 0 = la.getD 0 0
  | 0 => rfl
  | k + 1 => by unfold putsN putP; rw [getD_set_else _ _ _ _ (by omega)]; exact putsN_head la P f k
theorem getv_put_same (x v : Int) (b S : Nat) (hx : 0 ≤ x) (hv : 0 ≤ v) : getv (putv x v b S) b S = v % 2 ^ S := by
  unfold putv
  rw [getv_nat, get_put_same]
  have : ((v.toNat : Nat) : Int) = v := Int.toNat_of_nonneg hv
  rw [Int.natCast_emod, this, Int.natCast_pow]; rfl
theorem getv_put_other (x v : Int) (b S b' S' : Nat) (hx : 0 ≤ x) (h : b + S ≤ b' ∨ b' + S' ≤ b) : getv (putv x v b S) b' S' = getv x b' S' := by
  unfold putv
  rw [getv_nat, get_put_other _ _ _ _ _ _ h, ← getv_nat, Int.toNat_of_nonneg hx]
theorem putsN_u64 {U : List Nat} {data : Nat} {P : List (Nat × Nat)} (hL : LayInv U data P) (la : List Int) (f : Nat → Int) (hla : ∀ i, U64 (la.getD i 0)) (hl : la.length = 1 + data) : ∀ k, k ≤ P.length → ∀ i, U64 ((putsN la P f k).getD i 0)
  | 0, _ => hla
  | k + 1, hk => by
    intro i
    have ih := putsN_u64 hL la f hla hl k (by omega)
    have hp : P.getD k (1, 0) ∈ P := by
      rw [List.getD_eq_getElem?_getD, List.getElem?_eq_getElem (by omega)]; exact List.getElem_mem _
    obtain ⟨h1, h2⟩ := hL.ins _ hp
    unfold putsN putP
    by_cases e : 1 + pW (P.getD k (1, 0)) = i
    · subst e
      rw [getD_set_self _ _ _ (by rw [putsN_length]; omega)]
      exact putv_u64 _ _ _ _ (ih _) h2
    · rw [getD_set_else _ _ _ _ e]; exact ih i
theorem getD_mem {P : List (Nat × Nat)} {k : Nat} (hk : k < P.length) : P.getD k (1, 0) ∈ P := by
  rw [List.getD_eq_getElem?_getD, List.getElem?_eq_getElem hk]; exact List.getElem_mem _
theorem putsN_got {U : List Nat} {data : Nat} {P : List (Nat × Nat)} (hL : LayInv U data P) (la : List Int) (f : Nat → Int) (hla : ∀ i, U64 (la.getD i 0)) (hl : la.length = 1 + data) (hf : ∀ i, 0 ≤ f i) : ∀ k, k ≤ P.length → ∀ i, i < k → getv ((putsN la P f k).getD (1 + pW (P.getD i (1, 0))) 0) (pB (P.getD i (1, 0))) (P.getD i (1, 0)).1 = f i % 2 ^ (P.getD i (1, 0)).1
  | 0, _ => fun i hi => absurd hi (by omega)
  | k + 1, hk => by
    intro i hi
    have hu := putsN_u64 hL la f hla hl k (by omega)
    have ih := putsN_got hL la f hla hl hf k (by omega)
    obtain ⟨h1, h2⟩ := hL.ins _ (getD_mem (show k < P.length by omega))
    unfold putsN putP
    by_cases e : i = k
    · subst e
      rw [getD_set_self _ _ _ (by rw [putsN_length]; omega), getv_put_same _ _ _ _ (hu _).1 (hf i)]
    · have hik : i < k := by omega
      have hap : pApart (P.getD i (1, 0)) (P.getD k (1, 0)) := by
        have := List.pairwise_iff_getElem.1 hL.apart i k (by omega) (by omega) hik
        rw [List.getD_eq_getElem?_getD, List.getElem?_eq_getElem (show i < P.length by omega), List.getD_eq_getElem?_getD, List.getElem?_eq_getElem (show k < P.length by omega)]
        exact this
      by_cases e2 : pW (P.getD k (1, 0)) = pW (P.getD i (1, 0))
      · rw [e2, getD_set_self _ _ _ (by rw [putsN_length]; omega)]
        rcases hap with h | h | h
        · exact absurd e2.symm h
        · rw [getv_put_other _ _ _ _ _ _ (hu _).1 (Or.inr h)]; exact ih i hik
        · rw [getv_put_other _ _ _ _ _ _ (hu _).1 (Or.inl h)]; exact ih i hik
      · rw [getD_set_else _ _ _ _ (by omega)]; exact ih i hik
theorem list_set_same (l : List Int) (i : Nat) (h : i < l.length) : l.set i (l.getD i 0) = l := by
  rw [List.getD_eq_getElem?_getD, List.getElem?_eq_getElem h]
  exact List.set_getElem_self h
theorem putsN_zero {P : List (Nat × Nat)} (la : List Int) (f : Nat → Int) (hf : ∀ i, f i = 0) (hz : ∀ j, la.getD (1 + j) 0 = 0) : ∀ k, putsN la P f k = la
  | 0 => rfl
  | k + 1 => by
    unfold putsN putP
    rw [putsN_zero la f hf hz k, hf k, hz]
    have e : putv 0 0 (pB (P.getD k (1, 0))) (P.getD k (1, 0)).1 = 0 := by unfold putv; simp [putN_zero]
    rw [e]
    by_cases h : 1 + pW (P.getD k (1, 0)) < la.length
    · have := list_set_same la _ h
      rw [hz] at this; exact this
    · exact List.set_eq_of_length_le (by omega)
theorem trimN_above (ws : List Int) : ∀ d j, trimN ws d ≤ j → j < d → ws.getD j 0 = 0
  | 0, j, _, h => absurd h (by omega)
  | d + 1, j, h1, h2 => by
    by_cases hz : ws.getD d 0 = 0
    · rw [trimN_z hz] at h1
      by_cases e : j = d
      · subst e; exact hz
      · exact trimN_above ws d j h1 (by omega)
    · have : trimN ws (d + 1) = d + 1 := by
        show (if ws.getD d 0 = 0 then trimN ws d else d + 1) = _
        rw [if_neg hz]
      omega
theorem fv_in (l : List Int) (d : Nat) (p : Nat × Nat) (h : pW p < d) : fv l 1 d p.1 (p.2 : Int) = getv (l.getD (1 + pW p) 0) (pB p) p.1 := by
  unfold fv
  have e : (p.2 : Int) * (p.1 : Int) = ((p.2 * p.1 : Nat) : Int) := by simp
  have hw : pW p = p.2 * p.1 / 64 := rfl
  have hb : pB p = p.2 * p.1 % 64 := rfl
  rw [e, if_neg (by rw [hw] at h; omega), hw, hb]
  congr 2
theorem fv_out (l : List Int) (T : Int) (d : Nat) (p : Nat × Nat) (h : d ≤ pW p) : fv l T d p.1 (p.2 : Int) = 0 := by
  unfold fv
  have e : (p.2 : Int) * (p.1 : Int) = ((p.2 * p.1 : Nat) : Int) := by simp
  have hw : pW p = p.2 * p.1 / 64 := rfl
  rw [e, if_pos (by rw [hw] at h; omega)]
theorem xor_u64 (a b : Int) (ha : U64 a) (hb : U64 b) : U64 (bits .xor .u64 a b) := by
  obtain ⟨A, rfl⟩ := Int.eq_ofNat_of_zero_le ha.1
  obtain ⟨B, rfl⟩ := Int.eq_ofNat_of_zero_le hb.1
  have h1 := ha.2; have h2 := hb.2
  rw [u64_xor_nat A B (by omega) (by omega)]
  have : A ^^^ B < 2 ^ 64 := Nat.xor_lt_two_pow (by simp only [Nat.reducePow]; omega) (by simp only [Nat.reducePow]; omega)
  simp only [Nat.reducePow] at this
  exact ⟨by omega, by omega⟩
theorem xor_same (a : Int) (ha : U64 a) : bits .xor .u64 a a = 0 := by
  obtain ⟨A, rfl⟩ := Int.eq_ofNat_of_zero_le ha.1
  have h1 := ha.2
  rw [u64_xor_nat A A (by omega) (by omega), Nat.xor_self]; rfl
theorem mod_u64 (a : Int) (S : Nat) (ha : U64 a) : U64 (a % 2 ^ S) := by
  have hp : (0 : Int) < 2 ^ S := Int.pow_pos (by omega)
  have h1 := Int.emod_nonneg a (Int.ne_of_gt hp)
  have h2 : a % 2 ^ S ≤ a := by
    obtain ⟨A, rfl⟩ := Int.eq_ofNat_of_zero_le ha.1
    have e : ((A : Int)) % 2 ^ S = ((A % 2 ^ S : Nat) : Int) := by rw [Int.natCast_emod, Int.natCast_pow]; rfl
    rw [e]; exact_mod_cast Nat.mod_le _ _
  exact ⟨h1, by have := ha.2; omega⟩
theorem xor_zero_left (a : Int) (ha : U64 a) : bits .xor .u64 0 a = a := by
  obtain ⟨A, rfl⟩ := Int.eq_ofNat_of_zero_le ha.1
  have h1 := ha.2
  have := u64_xor_nat 0 A (by omega) (by omega)
  rw [Nat.zero_xor] at this
  exact this
theorem xor_cut (v d : Int) (S : Nat) (hv : U64 v) (hd : U64 d) : bits .xor .u64 (bits .xor .u64 v d % 2 ^ S) (d % 2 ^ S) = v % 2 ^ S := by
  obtain ⟨V, rfl⟩ := Int.eq_ofNat_of_zero_le hv.1
  obtain ⟨D, rfl⟩ := Int.eq_ofNat_of_zero_le hd.1
  have h1 := hv.2; have h2 := hd.2
  have e : ∀ A : Nat, ((A : Int)) % 2 ^ S = ((A % 2 ^ S : Nat) : Int) := fun A => by rw [Int.natCast_emod, Int.natCast_pow]; rfl
  have hx : V ^^^ D < 2 ^ 64 := Nat.xor_lt_two_pow (by simp only [Nat.reducePow]; omega) (by simp only [Nat.reducePow]; omega)
  simp only [Nat.reducePow] at hx
  have m1 := Nat.mod_le (V ^^^ D) (2 ^ S)
  have m2 := Nat.mod_le D (2 ^ S)
  rw [u64_xor_nat V D (by omega) (by omega), e, e, e, u64_xor_nat _ _ (by omega) (by omega), Nat.xor_mod_two_pow, Nat.xor_assoc, Nat.xor_self, Nat.xor_zero]
theorem shl_shr (v : Int) (S : Nat) (hS : S ≤ 64) (hv : U64 v) : IntKind.u64.wrap (v * 2 ^ (64 - S)) / 2 ^ (64 - S) = v % 2 ^ S := by
  obtain ⟨V, rfl⟩ := Int.eq_ofNat_of_zero_le hv.1
  rw [wrapU64]
  have e1 : ((V : Int) * 2 ^ (64 - S)) % 18446744073709551616 / 2 ^ (64 - S) = ((V * 2 ^ (64 - S) % 18446744073709551616 / 2 ^ (64 - S) : Nat) : Int) := by
    rw [Int.natCast_ediv, Int.natCast_emod, Int.natCast_mul, Int.natCast_pow]; rfl
  have e2 : ((V : Int)) % 2 ^ S = ((V % 2 ^ S : Nat) : Int) := by rw [Int.natCast_emod, Int.natCast_pow]; rfl
  rw [e1, e2]
  congr 1
  have h64 : (18446744073709551616 : Nat) = 2 ^ S * 2 ^ (64 - S) := by rw [← Nat.pow_add, show S + (64 - S) = 64 by omega]
  rw [h64, Nat.mul_mod_mul_right]
  exact Nat.mul_div_cancel _ (Nat.pow_pos (by omega))
theorem rootT_pos {d : Nat} (h : 0 < d) : rootT d = 1 := by unfold rootT; rw [if_neg (by omega)]
/-- Field i of the arena. -/
theorem set_fv {U : List Nat} {data : Nat} {P : List (Nat × Nat)} (hL : LayInv U data P) (la : List Int) (f : Nat → Int) (hla : ∀ i, U64 (la.getD i 0)) (hl : la.length = 1 + data) (hf : ∀ i, 0 ≤ f i) (i : Nat) (hi : i < P.length) :
    fv (putsN la P f P.length) (rootT data) data (P.getD i (1, 0)).1 ((P.getD i (1, 0)).2 : Int) = f i % 2 ^ (P.getD i (1, 0)).1 := by
  obtain ⟨h1, h2⟩ := hL.ins _ (getD_mem hi)
  rw [rootT_pos (by omega), fv_in _ _ _ h1]
  exact putsN_got hL la f hla hl hf _ (Nat.le_refl _) i hi
/-- Field i of the trimmed copy. -/
theorem copy_fv {U : List Nat} {data : Nat} {P : List (Nat × Nat)} (hL : LayInv U data P) (la : List Int) (f : Nat → Int) (hla : ∀ i, U64 (la.getD i 0)) (hl : la.length = 1 + data) (hf : ∀ i, 0 ≤ f i) (x : Int) (i : Nat) (hi : i < P.length) (t : Nat) (ht : t = trimN ((putsN la P f P.length).drop 1) data) :
    fv (x :: ((putsN la P f P.length).drop 1).take t) (rootT t) t (P.getD i (1, 0)).1 ((P.getD i (1, 0)).2 : Int) = f i % 2 ^ (P.getD i (1, 0)).1 := by
  obtain ⟨h1, h2⟩ := hL.ins _ (getD_mem hi)
  have hg := putsN_got hL la f hla hl hf _ (Nat.le_refl _) i hi
  clear hi
  generalize P.getD i (1, 0) = q at *
  generalize putsN la P f P.length = lz at *
  by_cases h : pW q < t
  · rw [rootT_pos (by omega), fv_in _ _ _ h, ← hg]
    congr 1
    rw [Nat.add_comm 1, List.getD_eq_getElem?_getD, List.getElem?_cons_succ, List.getElem?_take, if_pos h, List.getElem?_drop, List.getD_eq_getElem?_getD, Nat.add_comm 1]
  · rw [fv_out _ _ _ _ (by omega), ← hg]
    have hz := trimN_above (lz.drop 1) data (pW q) (by omega) h1
    have e : lz.getD (1 + pW q) 0 = (lz.drop 1).getD (pW q) 0 := by
      rw [List.getD_eq_getElem?_getD, List.getD_eq_getElem?_getD, List.getElem?_drop]
    rw [e, hz]
    simp [getv]
end Go.Proofs.Ygcfai

/-
  DefaultBack: schema.widthOf, fit.
-/
import Derived.Test.YgcfaiDefA
import Derived.LoopTactic
namespace Go.Proofs.Ygcfai
open Go.RowKit Plain
set_option linter.unusedVariables false
set_option linter.unusedSimpArgs false

/-- The bits of a scalar kind. -/
def wd (k : Int) : Nat := if k = 0 then 1 else if k = 1 ∨ k = 5 then 8 else if k = 2 ∨ k = 6 then 16 else if k = 3 ∨ k = 7 ∨ k = 9 then 32 else 64
theorem wd_five (k : Int) : wd k = 1 ∨ wd k = 8 ∨ wd k = 16 ∨ wd k = 32 ∨ wd k = 64 := by
  unfold wd; split <;> (try split) <;> (try split) <;> (try split) <;> simp
theorem widthOf_0 (w : World) : Calls Faig.prog 69 #[.int .u8 0] w fun e w' => e = .returned (.int .u8 1) ∧ w' = w := by
  have i0 : ∀ w, (Instr.index 210 (.agg #[.int .u8 1, .int .u8 8, .int .u8 16, .int .u8 32, .int .u8 64, .int .u8 8, .int .u8 16, .int .u8 32, .int .u8 64, .int .u8 32, .int .u8 64]) (.int .u8 0)).run Faig.prog w = .ok (.int .u8 1) w := fun _ => by kernel_rfl
  go_enter Faig.func69, Faig.ntmps69
  go_wp2
  go_ret
  exact ⟨rfl, rfl⟩
theorem widthOf_1 (w : World) : Calls Faig.prog 69 #[.int .u8 1] w fun e w' => e = .returned (.int .u8 8) ∧ w' = w := by
  have i0 : ∀ w, (Instr.index 210 (.agg #[.int .u8 1, .int .u8 8, .int .u8 16, .int .u8 32, .int .u8 64, .int .u8 8, .int .u8 16, .int .u8 32, .int .u8 64, .int .u8 32, .int .u8 64]) (.int .u8 1)).run Faig.prog w = .ok (.int .u8 8) w := fun _ => by kernel_rfl
  go_enter Faig.func69, Faig.ntmps69
  go_wp2
  go_ret
  exact ⟨rfl, rfl⟩
theorem widthOf_2 (w : World) : Calls Faig.prog 69 #[.int .u8 2] w fun e w' => e = .returned (.int .u8 16) ∧ w' = w := by
  have i0 : ∀ w, (Instr.index 210 (.agg #[.int .u8 1, .int .u8 8, .int .u8 16, .int .u8 32, .int .u8 64, .int .u8 8, .int .u8 16, .int .u8 32, .int .u8 64, .int .u8 32, .int .u8 64]) (.int .u8 2)).run Faig.prog w = .ok (.int .u8 16) w := fun _ => by kernel_rfl
  go_enter Faig.func69, Faig.ntmps69
  go_wp2
  go_ret
  exact ⟨rfl, rfl⟩
theorem widthOf_3 (w : World) : Calls Faig.prog 69 #[.int .u8 3] w fun e w' => e = .returned (.int .u8 32) ∧ w' = w := by
  have i0 : ∀ w, (Instr.index 210 (.agg #[.int .u8 1, .int .u8 8, .int .u8 16, .int .u8 32, .int .u8 64, .int .u8 8, .int .u8 16, .int .u8 32, .int .u8 64, .int .u8 32, .int .u8 64]) (.int .u8 3)).run Faig.prog w = .ok (.int .u8 32) w := fun _ => by kernel_rfl
  go_enter Faig.func69, Faig.ntmps69
  go_wp2
  go_ret
  exact ⟨rfl, rfl⟩
theorem widthOf_4 (w : World) : Calls Faig.prog 69 #[.int .u8 4] w fun e w' => e = .returned (.int .u8 64) ∧ w' = w := by
  have i0 : ∀ w, (Instr.index 210 (.agg #[.int .u8 1, .int .u8 8, .int .u8 16, .int .u8 32, .int .u8 64, .int .u8 8, .int .u8 16, .int .u8 32, .int .u8 64, .int .u8 32, .int .u8 64]) (.int .u8 4)).run Faig.prog w = .ok (.int .u8 64) w := fun _ => by kernel_rfl
  go_enter Faig.func69, Faig.ntmps69
  go_wp2
  go_ret
  exact ⟨rfl, rfl⟩
theorem widthOf_5 (w : World) : Calls Faig.prog 69 #[.int .u8 5] w fun e w' => e = .returned (.int .u8 8) ∧ w' = w := by
  have i0 : ∀ w, (Instr.index 210 (.agg #[.int .u8 1, .int .u8 8, .int .u8 16, .int .u8 32, .int .u8 64, .int .u8 8, .int .u8 16, .int .u8 32, .int .u8 64, .int .u8 32, .int .u8 64]) (.int .u8 5)).run Faig.prog w = .ok (.int .u8 8) w := fun _ => by kernel_rfl
  go_enter Faig.func69, Faig.ntmps69
  go_wp2
  go_ret
  exact ⟨rfl, rfl⟩
theorem widthOf_6 (w : World) : Calls Faig.prog 69 #[.int .u8 6] w fun e w' => e = .returned (.int .u8 16) ∧ w' = w := by
  have i0 : ∀ w, (Instr.index 210 (.agg #[.int .u8 1, .int .u8 8, .int .u8 16, .int .u8 32, .int .u8 64, .int .u8 8, .int .u8 16, .int .u8 32, .int .u8 64, .int .u8 32, .int .u8 64]) (.int .u8 6)).run Faig.prog w = .ok (.int .u8 16) w := fun _ => by kernel_rfl
  go_enter Faig.func69, Faig.ntmps69
  go_wp2
  go_ret
  exact ⟨rfl, rfl⟩
theorem widthOf_7 (w : World) : Calls Faig.prog 69 #[.int .u8 7] w fun e w' => e = .returned (.int .u8 32) ∧ w' = w := by
  have i0 : ∀ w, (Instr.index 210 (.agg #[.int .u8 1, .int .u8 8, .int .u8 16, .int .u8 32, .int .u8 64, .int .u8 8, .int .u8 16, .int .u8 32, .int .u8 64, .int .u8 32, .int .u8 64]) (.int .u8 7)).run Faig.prog w = .ok (.int .u8 32) w := fun _ => by kernel_rfl
  go_enter Faig.func69, Faig.ntmps69
  go_wp2
  go_ret
  exact ⟨rfl, rfl⟩
theorem widthOf_8 (w : World) : Calls Faig.prog 69 #[.int .u8 8] w fun e w' => e = .returned (.int .u8 64) ∧ w' = w := by
  have i0 : ∀ w, (Instr.index 210 (.agg #[.int .u8 1, .int .u8 8, .int .u8 16, .int .u8 32, .int .u8 64, .int .u8 8, .int .u8 16, .int .u8 32, .int .u8 64, .int .u8 32, .int .u8 64]) (.int .u8 8)).run Faig.prog w = .ok (.int .u8 64) w := fun _ => by kernel_rfl
  go_enter Faig.func69, Faig.ntmps69
  go_wp2
  go_ret
  exact ⟨rfl, rfl⟩
theorem widthOf_9 (w : World) : Calls Faig.prog 69 #[.int .u8 9] w fun e w' => e = .returned (.int .u8 32) ∧ w' = w := by
  have i0 : ∀ w, (Instr.index 210 (.agg #[.int .u8 1, .int .u8 8, .int .u8 16, .int .u8 32, .int .u8 64, .int .u8 8, .int .u8 16, .int .u8 32, .int .u8 64, .int .u8 32, .int .u8 64]) (.int .u8 9)).run Faig.prog w = .ok (.int .u8 32) w := fun _ => by kernel_rfl
  go_enter Faig.func69, Faig.ntmps69
  go_wp2
  go_ret
  exact ⟨rfl, rfl⟩
theorem widthOf_10 (w : World) : Calls Faig.prog 69 #[.int .u8 10] w fun e w' => e = .returned (.int .u8 64) ∧ w' = w := by
  have i0 : ∀ w, (Instr.index 210 (.agg #[.int .u8 1, .int .u8 8, .int .u8 16, .int .u8 32, .int .u8 64, .int .u8 8, .int .u8 16, .int .u8 32, .int .u8 64, .int .u8 32, .int .u8 64]) (.int .u8 10)).run Faig.prog w = .ok (.int .u8 64) w := fun _ => by kernel_rfl
  go_enter Faig.func69, Faig.ntmps69
  go_wp2
  go_ret
  exact ⟨rfl, rfl⟩
theorem widthOf_any (k : Int) (h0 : 0 ≤ k) (h1 : k ≤ 10) (w : World) :
    Calls Faig.prog 69 #[.int .u8 k] w fun e w' => e = .returned (.int .u8 (wd k)) ∧ w' = w := by
  have hk : k = 0 ∨ k = 1 ∨ k = 2 ∨ k = 3 ∨ k = 4 ∨ k = 5 ∨ k = 6 ∨ k = 7 ∨ k = 8 ∨ k = 9 ∨ k = 10 := by omega
  rcases hk with rfl | rfl | rfl | rfl | rfl | rfl | rfl | rfl | rfl | rfl | rfl
  · exact widthOf_0 w
  · exact widthOf_1 w
  · exact widthOf_2 w
  · exact widthOf_3 w
  · exact widthOf_4 w
  · exact widthOf_5 w
  · exact widthOf_6 w
  · exact widthOf_7 w
  · exact widthOf_8 w
  · exact widthOf_9 w
  · exact widthOf_10 w
/-- What fit answers. -/
def FitP (L : List Int) (data S : Nat) (at_ : Int) (f : Bool) : Prop :=
  (f = false ∧ at_ = 0) ∨ (f = true ∧ ∃ j b : Nat, at_ = 64 * j + b ∧ j < data ∧ b % S = 0 ∧ b + S ≤ 64 ∧ getv (L.getD j 0) b S = 0)
def FitE (L : List Int) (data S : Nat) (e : Ending) : Prop := ∃ (at_ : Int) (f : Bool), e = .returned (.tuple #[.int .u16 at_, .bool f]) ∧ FitP L data S at_ f

set_option maxHeartbeats 1000000 in
theorem fit_1 (w : World) (g data : Nat) (L : List Int) (hr : Row w (some ⟨g, 0, none⟩) data L) (hd : data ≤ 8) :
    Calls Faig.prog 70 #[.slice (some ⟨g, 0, none⟩) data data, .int .u8 1] w fun e w' => w' = w ∧ FitE L data 1 e := by
  go_enter Faig.func70, Faig.ntmps70
  go_wp2_with fail
  go_loop [14, 7, 8] (fun i _ _ => ∃ j : Nat, i = .int .i64 j ∧ j ≤ data) (fun i _ _ => data - (intOf i).toNat)
  case atStart => exact ⟨0, by go_num, Nat.zero_le _⟩
  case round =>
    obtain ⟨j, rfl, hj⟩ := hrel
    by_cases hlt : j < data
    · have ht : decide ((j : Int) < (data : Int)) = true := by simp; omega
      obtain ⟨bb, off, hae, hbl, hcell, hU⟩ := hr.at j hlt
      have hae' : bb = g ∧ off = 0 := by simp at hae; exact ⟨hae.1.symm, hae.2.symm⟩
      obtain ⟨rfl, rfl⟩ := hae'
      rw [Nat.zero_add] at hcell
      generalize hx : L.getD j 0 = x at hcell hU
      have HX : Hid _ := hx
      clear hx hae
      go_wp2_with fail
      go_loop [8] (fun b => ∃ m : Nat, b = .int .u16 ((1 * m : Nat) : Int) ∧ m ≤ 64) (fun b => 64 - (intOf b).toNat)
      case atStart => exact ⟨0, by go_num, Nat.zero_le _⟩
      case round =>
        obtain ⟨m, rfl, hm⟩ := hrel
        by_cases hb : 1 * m < 64
        · have hbm : 1 * m + 1 ≤ 64 := by omega
          have ht2 : decide ((((1 * m : Nat) : Int)) < 64) = true := by simp; omega
          have hand := band (x / 2 ^ (1 * m)) 1 1 (by decide) (by decide) (shr_u64 x _ hU)
          by_cases hz : x / 2 ^ (1 * m) % 2 ^ 1 = 0
          · have hz' : bits .and .u64 (x / 2 ^ (1 * m)) 1 = 0 := hand.trans hz
            have HZ : Hid _ := hz
            clear hz hand
            generalize hbb : 1 * m = b at *
            have HM : Hid _ := hbb
            clear hbb
            go_wp2_with fail
            refine bodyPost_ret (v := .tuple #[.int .u16 (64 * j + b), .bool true]) (by simp [results, Faig.results70, go_sem]; try omega) rfl ?_
            exact ⟨rfl, _, _, rfl, Or.inr ⟨rfl, j, b, by omega, hlt, by have := HM.out; omega, hbm, by rw [HX.out]; exact HZ.out⟩⟩
          · have hz' : bits .and .u64 (x / 2 ^ (1 * m)) 1 ≠ 0 := by rw [hand]; exact hz
            clear hz hand
            generalize hbb : 1 * m = b at *
            have HM : Hid _ := hbb
            clear hbb
            go_wp2_with fail
            go_round
            case rel => exact ⟨m + 1, by have := HM.out; go_num, by have := HM.out; omega⟩
            case measure => simp [intOf]; omega
        · have ht2 : decide ((((1 * m : Nat) : Int)) < 64) = false := by simp; omega
          clear HX
          go_wp2_with fail
          go_round
          case rel => exact ⟨j + 1, by go_num, by omega⟩
          case measure => simp [intOf]; omega
    · have ht : decide ((j : Int) < (data : Int)) = false := by simp; omega
      go_wp2_with fail
      refine bodyPost_ret (v := .tuple #[.int .u16 0, .bool false]) (by simp [results, Faig.results70, go_sem]) rfl ?_
      exact ⟨rfl, _, _, rfl, Or.inl ⟨rfl, rfl⟩⟩

set_option maxHeartbeats 1000000 in
theorem fit_8 (w : World) (g data : Nat) (L : List Int) (hr : Row w (some ⟨g, 0, none⟩) data L) (hd : data ≤ 8) :
    Calls Faig.prog 70 #[.slice (some ⟨g, 0, none⟩) data data, .int .u8 8] w fun e w' => w' = w ∧ FitE L data 8 e := by
  go_enter Faig.func70, Faig.ntmps70
  go_wp2_with fail
  go_loop [14, 7, 8] (fun i _ _ => ∃ j : Nat, i = .int .i64 j ∧ j ≤ data) (fun i _ _ => data - (intOf i).toNat)
  case atStart => exact ⟨0, by go_num, Nat.zero_le _⟩
  case round =>
    obtain ⟨j, rfl, hj⟩ := hrel
    by_cases hlt : j < data
    · have ht : decide ((j : Int) < (data : Int)) = true := by simp; omega
      obtain ⟨bb, off, hae, hbl, hcell, hU⟩ := hr.at j hlt
      have hae' : bb = g ∧ off = 0 := by simp at hae; exact ⟨hae.1.symm, hae.2.symm⟩
      obtain ⟨rfl, rfl⟩ := hae'
      rw [Nat.zero_add] at hcell
      generalize hx : L.getD j 0 = x at hcell hU
      have HX : Hid _ := hx
      clear hx hae
      go_wp2_with fail
      go_loop [8] (fun b => ∃ m : Nat, b = .int .u16 ((8 * m : Nat) : Int) ∧ m ≤ 8) (fun b => 64 - (intOf b).toNat)
      case atStart => exact ⟨0, by go_num, Nat.zero_le _⟩
      case round =>
        obtain ⟨m, rfl, hm⟩ := hrel
        by_cases hb : 8 * m < 64
        · have hbm : 8 * m + 8 ≤ 64 := by omega
          have ht2 : decide ((((8 * m : Nat) : Int)) < 64) = true := by simp; omega
          have hand := band (x / 2 ^ (8 * m)) 8 255 (by decide) (by decide) (shr_u64 x _ hU)
          by_cases hz : x / 2 ^ (8 * m) % 2 ^ 8 = 0
          · have hz' : bits .and .u64 (x / 2 ^ (8 * m)) 255 = 0 := hand.trans hz
            have HZ : Hid _ := hz
            clear hz hand
            generalize hbb : 8 * m = b at *
            have HM : Hid _ := hbb
            clear hbb
            go_wp2_with fail
            refine bodyPost_ret (v := .tuple #[.int .u16 (64 * j + b), .bool true]) (by simp [results, Faig.results70, go_sem]; try omega) rfl ?_
            exact ⟨rfl, _, _, rfl, Or.inr ⟨rfl, j, b, by omega, hlt, by have := HM.out; omega, hbm, by rw [HX.out]; exact HZ.out⟩⟩
          · have hz' : bits .and .u64 (x / 2 ^ (8 * m)) 255 ≠ 0 := by rw [hand]; exact hz
            clear hz hand
            generalize hbb : 8 * m = b at *
            have HM : Hid _ := hbb
            clear hbb
            go_wp2_with fail
            go_round
            case rel => exact ⟨m + 1, by have := HM.out; go_num, by have := HM.out; omega⟩
            case measure => simp [intOf]; omega
        · have ht2 : decide ((((8 * m : Nat) : Int)) < 64) = false := by simp; omega
          clear HX
          go_wp2_with fail
          go_round
          case rel => exact ⟨j + 1, by go_num, by omega⟩
          case measure => simp [intOf]; omega
    · have ht : decide ((j : Int) < (data : Int)) = false := by simp; omega
      go_wp2_with fail
      refine bodyPost_ret (v := .tuple #[.int .u16 0, .bool false]) (by simp [results, Faig.results70, go_sem]) rfl ?_
      exact ⟨rfl, _, _, rfl, Or.inl ⟨rfl, rfl⟩⟩

set_option maxHeartbeats 1000000 in
theorem fit_16 (w : World) (g data : Nat) (L : List Int) (hr : Row w (some ⟨g, 0, none⟩) data L) (hd : data ≤ 8) :
    Calls Faig.prog 70 #[.slice (some ⟨g, 0, none⟩) data data, .int .u8 16] w fun e w' => w' = w ∧ FitE L data 16 e := by
  go_enter Faig.func70, Faig.ntmps70
  go_wp2_with fail
  go_loop [14, 7, 8] (fun i _ _ => ∃ j : Nat, i = .int .i64 j ∧ j ≤ data) (fun i _ _ => data - (intOf i).toNat)
  case atStart => exact ⟨0, by go_num, Nat.zero_le _⟩
  case round =>
    obtain ⟨j, rfl, hj⟩ := hrel
    by_cases hlt : j < data
    · have ht : decide ((j : Int) < (data : Int)) = true := by simp; omega
      obtain ⟨bb, off, hae, hbl, hcell, hU⟩ := hr.at j hlt
      have hae' : bb = g ∧ off = 0 := by simp at hae; exact ⟨hae.1.symm, hae.2.symm⟩
      obtain ⟨rfl, rfl⟩ := hae'
      rw [Nat.zero_add] at hcell
      generalize hx : L.getD j 0 = x at hcell hU
      have HX : Hid _ := hx
      clear hx hae
      go_wp2_with fail
      go_loop [8] (fun b => ∃ m : Nat, b = .int .u16 ((16 * m : Nat) : Int) ∧ m ≤ 4) (fun b => 64 - (intOf b).toNat)
      case atStart => exact ⟨0, by go_num, Nat.zero_le _⟩
      case round =>
        obtain ⟨m, rfl, hm⟩ := hrel
        by_cases hb : 16 * m < 64
        · have hbm : 16 * m + 16 ≤ 64 := by omega
          have ht2 : decide ((((16 * m : Nat) : Int)) < 64) = true := by simp; omega
          have hand := band (x / 2 ^ (16 * m)) 16 65535 (by decide) (by decide) (shr_u64 x _ hU)
          by_cases hz : x / 2 ^ (16 * m) % 2 ^ 16 = 0
          · have hz' : bits .and .u64 (x / 2 ^ (16 * m)) 65535 = 0 := hand.trans hz
            have HZ : Hid _ := hz
            clear hz hand
            generalize hbb : 16 * m = b at *
            have HM : Hid _ := hbb
            clear hbb
            go_wp2_with fail
            refine bodyPost_ret (v := .tuple #[.int .u16 (64 * j + b), .bool true]) (by simp [results, Faig.results70, go_sem]; try omega) rfl ?_
            exact ⟨rfl, _, _, rfl, Or.inr ⟨rfl, j, b, by omega, hlt, by have := HM.out; omega, hbm, by rw [HX.out]; exact HZ.out⟩⟩
          · have hz' : bits .and .u64 (x / 2 ^ (16 * m)) 65535 ≠ 0 := by rw [hand]; exact hz
            clear hz hand
            generalize hbb : 16 * m = b at *
            have HM : Hid _ := hbb
            clear hbb
            go_wp2_with fail
            go_round
            case rel => exact ⟨m + 1, by have := HM.out; go_num, by have := HM.out; omega⟩
            case measure => simp [intOf]; omega
        · have ht2 : decide ((((16 * m : Nat) : Int)) < 64) = false := by simp; omega
          clear HX
          go_wp2_with fail
          go_round
          case rel => exact ⟨j + 1, by go_num, by omega⟩
          case measure => simp [intOf]; omega
    · have ht : decide ((j : Int) < (data : Int)) = false := by simp; omega
      go_wp2_with fail
      refine bodyPost_ret (v := .tuple #[.int .u16 0, .bool false]) (by simp [results, Faig.results70, go_sem]) rfl ?_
      exact ⟨rfl, _, _, rfl, Or.inl ⟨rfl, rfl⟩⟩

set_option maxHeartbeats 1000000 in
theorem fit_32 (w : World) (g data : Nat) (L : List Int) (hr : Row w (some ⟨g, 0, none⟩) data L) (hd : data ≤ 8) :
    Calls Faig.prog 70 #[.slice (some ⟨g, 0, none⟩) data data, .int .u8 32] w fun e w' => w' = w ∧ FitE L data 32 e := by
  go_enter Faig.func70, Faig.ntmps70
  go_wp2_with fail
  go_loop [14, 7, 8] (fun i _ _ => ∃ j : Nat, i = .int .i64 j ∧ j ≤ data) (fun i _ _ => data - (intOf i).toNat)
  case atStart => exact ⟨0, by go_num, Nat.zero_le _⟩
  case round =>
    obtain ⟨j, rfl, hj⟩ := hrel
    by_cases hlt : j < data
    · have ht : decide ((j : Int) < (data : Int)) = true := by simp; omega
      obtain ⟨bb, off, hae, hbl, hcell, hU⟩ := hr.at j hlt
      have hae' : bb = g ∧ off = 0 := by simp at hae; exact ⟨hae.1.symm, hae.2.symm⟩
      obtain ⟨rfl, rfl⟩ := hae'
      rw [Nat.zero_add] at hcell
      generalize hx : L.getD j 0 = x at hcell hU
      have HX : Hid _ := hx
      clear hx hae
      go_wp2_with fail
      go_loop [8] (fun b => ∃ m : Nat, b = .int .u16 ((32 * m : Nat) : Int) ∧ m ≤ 2) (fun b => 64 - (intOf b).toNat)
      case atStart => exact ⟨0, by go_num, Nat.zero_le _⟩
      case round =>
        obtain ⟨m, rfl, hm⟩ := hrel
        by_cases hb : 32 * m < 64
        · have hbm : 32 * m + 32 ≤ 64 := by omega
          have ht2 : decide ((((32 * m : Nat) : Int)) < 64) = true := by simp; omega
          have hand := band (x / 2 ^ (32 * m)) 32 4294967295 (by decide) (by decide) (shr_u64 x _ hU)
          by_cases hz : x / 2 ^ (32 * m) % 2 ^ 32 = 0
          · have hz' : bits .and .u64 (x / 2 ^ (32 * m)) 4294967295 = 0 := hand.trans hz
            have HZ : Hid _ := hz
            clear hz hand
            generalize hbb : 32 * m = b at *
            have HM : Hid _ := hbb
            clear hbb
            go_wp2_with fail
            refine bodyPost_ret (v := .tuple #[.int .u16 (64 * j + b), .bool true]) (by simp [results, Faig.results70, go_sem]; try omega) rfl ?_
            exact ⟨rfl, _, _, rfl, Or.inr ⟨rfl, j, b, by omega, hlt, by have := HM.out; omega, hbm, by rw [HX.out]; exact HZ.out⟩⟩
          · have hz' : bits .and .u64 (x / 2 ^ (32 * m)) 4294967295 ≠ 0 := by rw [hand]; exact hz
            clear hz hand
            generalize hbb : 32 * m = b at *
            have HM : Hid _ := hbb
            clear hbb
            go_wp2_with fail
            go_round
            case rel => exact ⟨m + 1, by have := HM.out; go_num, by have := HM.out; omega⟩
            case measure => simp [intOf]; omega
        · have ht2 : decide ((((32 * m : Nat) : Int)) < 64) = false := by simp; omega
          clear HX
          go_wp2_with fail
          go_round
          case rel => exact ⟨j + 1, by go_num, by omega⟩
          case measure => simp [intOf]; omega
    · have ht : decide ((j : Int) < (data : Int)) = false := by simp; omega
      go_wp2_with fail
      refine bodyPost_ret (v := .tuple #[.int .u16 0, .bool false]) (by simp [results, Faig.results70, go_sem]) rfl ?_
      exact ⟨rfl, _, _, rfl, Or.inl ⟨rfl, rfl⟩⟩

set_option maxHeartbeats 1000000 in
theorem fit_64 (w : World) (g data : Nat) (L : List Int) (hr : Row w (some ⟨g, 0, none⟩) data L) (hd : data ≤ 8) :
    Calls Faig.prog 70 #[.slice (some ⟨g, 0, none⟩) data data, .int .u8 64] w fun e w' => w' = w ∧ FitE L data 64 e := by
  go_enter Faig.func70, Faig.ntmps70
  go_wp2_with fail
  go_loop [14, 7, 8] (fun i _ _ => ∃ j : Nat, i = .int .i64 j ∧ j ≤ data) (fun i _ _ => data - (intOf i).toNat)
  case atStart => exact ⟨0, by go_num, Nat.zero_le _⟩
  case round =>
    obtain ⟨j, rfl, hj⟩ := hrel
    by_cases hlt : j < data
    · have ht : decide ((j : Int) < (data : Int)) = true := by simp; omega
      obtain ⟨bb, off, hae, hbl, hcell, hU⟩ := hr.at j hlt
      have hae' : bb = g ∧ off = 0 := by simp at hae; exact ⟨hae.1.symm, hae.2.symm⟩
      obtain ⟨rfl, rfl⟩ := hae'
      rw [Nat.zero_add] at hcell
      generalize hx : L.getD j 0 = x at hcell hU
      have HX : Hid _ := hx
      clear hx hae
      go_wp2_with fail
      go_loop [8] (fun b => ∃ m : Nat, b = .int .u16 ((64 * m : Nat) : Int) ∧ m ≤ 1) (fun b => 64 - (intOf b).toNat)
      case atStart => exact ⟨0, by go_num, Nat.zero_le _⟩
      case round =>
        obtain ⟨m, rfl, hm⟩ := hrel
        by_cases hb : 64 * m < 64
        · have hbm : 64 * m + 64 ≤ 64 := by omega
          have ht2 : decide ((((64 * m : Nat) : Int)) < 64) = true := by simp; omega
          have hand := band (x / 2 ^ (64 * m)) 64 18446744073709551615 (by decide) (by decide) (shr_u64 x _ hU)
          by_cases hz : x / 2 ^ (64 * m) % 2 ^ 64 = 0
          · have hz' : bits .and .u64 (x / 2 ^ (64 * m)) 18446744073709551615 = 0 := hand.trans hz
            have HZ : Hid _ := hz
            clear hz hand
            generalize hbb : 64 * m = b at *
            have HM : Hid _ := hbb
            clear hbb
            go_wp2_with fail
            refine bodyPost_ret (v := .tuple #[.int .u16 (64 * j + b), .bool true]) (by simp [results, Faig.results70, go_sem]; try omega) rfl ?_
            exact ⟨rfl, _, _, rfl, Or.inr ⟨rfl, j, b, by omega, hlt, by have := HM.out; omega, hbm, by rw [HX.out]; exact HZ.out⟩⟩
          · have hz' : bits .and .u64 (x / 2 ^ (64 * m)) 18446744073709551615 ≠ 0 := by rw [hand]; exact hz
            clear hz hand
            generalize hbb : 64 * m = b at *
            have HM : Hid _ := hbb
            clear hbb
            go_wp2_with fail
            go_round
            case rel => exact ⟨m + 1, by have := HM.out; go_num, by have := HM.out; omega⟩
            case measure => simp [intOf]; omega
        · have ht2 : decide ((((64 * m : Nat) : Int)) < 64) = false := by simp; omega
          clear HX
          go_wp2_with fail
          go_round
          case rel => exact ⟨j + 1, by go_num, by omega⟩
          case measure => simp [intOf]; omega
    · have ht : decide ((j : Int) < (data : Int)) = false := by simp; omega
      go_wp2_with fail
      refine bodyPost_ret (v := .tuple #[.int .u16 0, .bool false]) (by simp [results, Faig.results70, go_sem]) rfl ?_
      exact ⟨rfl, _, _, rfl, Or.inl ⟨rfl, rfl⟩⟩
end Go.Proofs.Ygcfai

import Derived.Test.YgcfaiAid
namespace Go.Proofs.Ygcfai
open Go.RowKit Plain

theorem width_any (c : Int) (hc : U8 c) (w : World) :
    Calls Faig.prog 86 #[.int .u8 c] w fun e w' => e = .returned (.int .u8 (width c)) ∧ w' = w := by
  obtain ⟨c0, c1⟩ := hc
  by_cases h1 : c < 2
  · have e : width c = 0 := by unfold width; repeat (first | rw [if_neg (by omega)])
    rw [e]
    go_enter Faig.func86, Faig.ntmps86
    go_wp2
    go_ret
    exact ⟨rfl, rfl⟩
  by_cases h2 : 5 < c
  · have e : width c = 0 := by unfold width; repeat (first | rw [if_neg (by omega)])
    rw [e]
    go_enter Faig.func86, Faig.ntmps86
    go_wp2
    go_ret
    exact ⟨rfl, rfl⟩
  have h3 : c = 2 ∨ c = 3 ∨ c = 4 ∨ c = 5 := by omega
  clear c0 c1 h1 h2
  rcases h3 with rfl | rfl | rfl | rfl
  all_goals
    go_enter Faig.func86, Faig.ntmps86
    go_wp2
    go_ret
    exact ⟨rfl, rfl⟩
end Go.Proofs.Ygcfai

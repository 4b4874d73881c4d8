/- The law's Go function answers true for every input, and leaves its arguments as they were: its parts, the plain law, the row, the card. Joined by wip/pack.py. -/
import Derived.Test.YtbjimmemcmjpcabGreatDoorB4
import Derived.Test.YtbjimmemcmjpcabGreatDoorLR1
import Derived.Test.YtbjimmemcmjpcabGreatDoorB3
section
set_option linter.unusedVariables false
set_option linter.unusedSimpArgs false
namespace Go.Proofs.YtbjimmemcmjpcabGreatDoor.Print
open Go.RowKit Go.Proofs.YtbjimmemcmjpcabGreatDoorW.PrintWords Go.Proofs.YtbjimmemcmjpcabGreatDoorW.PrintLast Go.Proofs.YtbjimmemcmjpcabGreatDoorW.PrintMore
theorem w64 (n : Int) (h : -9223372036854775808 ≤ n ∧ n ≤ 9223372036854775807) : wrap64 n = n := IntWalk.wrap64_in n h
theorem refIn_f (a b c : Int) : tellurionref04_in.f a b c = some (decide (b ≤ a) && decide (a ≤ c)) := by
  unfold tellurionref04_in.f
  by_cases h1 : b ≤ a <;> by_cases h2 : a ≤ c <;> simp [h1, h2]
end Go.Proofs.YtbjimmemcmjpcabGreatDoor.Print
end
section
set_option linter.unusedVariables false
set_option linter.unusedSimpArgs false
namespace Go.Proofs.YtbjimmemcmjpcabGreatDoor.Print
open Go.RowKit Go.Proofs.YtbjimmemcmjpcabGreatDoorW.PrintWords Go.Proofs.YtbjimmemcmjpcabGreatDoorW.PrintLast Go.Proofs.YtbjimmemcmjpcabGreatDoorW.PrintMore
def nums : Int → Nat → List Int
  | _, 0 => []
  | a, d + 1 => a :: nums (a + 1) d
theorem nums_len : ∀ (d : Nat) (a : Int), (nums a d).length = d
  | 0, _ => rfl
  | d + 1, a => by simp [nums, nums_len d]
theorem mem_nums : ∀ (d : Nat) (a x : Int), x ∈ nums a d ↔ a ≤ x ∧ x < a + d
  | 0, a, x => by simp [nums] <;> omega
  | d + 1, a, x => by
    rw [nums, List.mem_cons, mem_nums d]
    constructor
    · rintro (rfl | h) <;> omega
    · intro h
      by_cases he : x = a
      · exact .inl he
      · exact .inr (by omega)
end Go.Proofs.YtbjimmemcmjpcabGreatDoor.Print
end

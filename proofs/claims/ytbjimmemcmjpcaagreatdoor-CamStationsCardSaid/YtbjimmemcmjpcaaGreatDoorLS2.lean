/- The law's Go function answers true for every input, and leaves its arguments as they were: its parts, the plain law, the row, the card. Joined by wip/pack.py. -/
import Derived.Test.YtbjimmemcmjpcaaGreatDoorB4
import Derived.Test.YtbjimmemcmjpcaaGreatDoorLS1
import Derived.Test.YtbjimmemcmjpcaaGreatDoorB3
section
set_option linter.unusedVariables false
set_option linter.unusedSimpArgs false
namespace Go.Proofs.YtbjimmemcmjpcaaGreatDoor.Print
open Go.RowKit Go.Proofs.YtbjimmemcmjpcaaGreatDoorW.PrintWords Go.Proofs.YtbjimmemcmjpcaaGreatDoorW.PrintLast Go.Proofs.YtbjimmemcmjpcaaGreatDoorW.PrintMore
theorem w64 (n : Int) (h : -9223372036854775808 ≤ n ∧ n ≤ 9223372036854775807) : wrap64 n = n := IntWalk.wrap64_in n h
theorem refIn_f (a b c : Int) : tellurionref04_in.f a b c = some (decide (b ≤ a) && decide (a ≤ c)) := by
  unfold tellurionref04_in.f
  by_cases h1 : b ≤ a <;> by_cases h2 : a ≤ c <;> simp [h1, h2]
theorem refSame_l (x y : List Int) (hxy : x.length = y.length) (hl : x.length ≤ 1000000000000) : ∀ (q j k : Nat), j ≤ x.length → q = x.length - j → q < k → tellurionref04_Same.l0 k x y (j : Int) = some (decide (x.drop j = y.drop j))
  | q, j, 0, _, _, h => by omega
  | 0, j, k + 1, hj, hq, _ => by
    obtain rfl : j = x.length := by omega
    unfold tellurionref04_Same.l0
    rw [if_neg (by omega), List.drop_length, hxy, List.drop_length]
    rfl
  | q + 1, j, k + 1, hj, hq, hk => by
    have hlt : j < x.length := by omega
    have hlt2 : j < y.length := by omega
    unfold tellurionref04_Same.l0
    have h1 : rd x (j : Int) = x[j] := by simp [rd, List.getD_eq_getElem?_getD, hlt]
    have h2 : rd y (j : Int) = y[j] := by simp [rd, List.getD_eq_getElem?_getD, hlt2]
    rw [if_pos (by omega), if_pos (by omega), if_pos (by omega), h1, h2, List.drop_eq_getElem_cons hlt, List.drop_eq_getElem_cons hlt2]
    by_cases he : x[j] = y[j]
    · rw [if_pos he, w64 _ (by omega), show (j : Int) + 1 = ((j + 1 : Nat) : Int) by omega, refSame_l x y hxy hl q (j + 1) k (by omega) (by omega) (by omega)]
      simp only [List.cons.injEq, he, true_and]
    · rw [if_neg he]
      simp only [List.cons.injEq, he, false_and, decide_false]
theorem refSame_ev (x y : List Int) (hl : x.length ≤ 1000000000000) (k : Nat) (hk : x.length < k) : tellurionref04_Same.f k x y = some (decide (x = y)) := by
  unfold tellurionref04_Same.f
  by_cases h : x.length = y.length
  · rw [if_pos (by omega), show (0 : Int) = ((0 : Nat) : Int) by rfl, refSame_l x y h hl x.length 0 k (by omega) (by omega) hk, List.drop_zero, List.drop_zero]
  · rw [if_neg (by omega)]
    congr 1
    exact (decide_eq_false (fun e => h (by rw [e]))).symm
end Go.Proofs.YtbjimmemcmjpcaaGreatDoor.Print
end
section
set_option linter.unusedVariables false
set_option linter.unusedSimpArgs false
namespace Go.Proofs.YtbjimmemcmjpcaaGreatDoor.Print
open Go.RowKit Go.Proofs.YtbjimmemcmjpcaaGreatDoorW.PrintWords Go.Proofs.YtbjimmemcmjpcaaGreatDoorW.PrintLast Go.Proofs.YtbjimmemcmjpcaaGreatDoorW.PrintMore
theorem evR_same (x y : List Int) (hl : x.length ≤ 1000000000000) : Ev (fun k => tellurionref04_Same.f k x y) (decide (x = y)) := ⟨x.length + 1, fun k hk => refSame_ev x y hl k (by omega)⟩
def nums : Int → Nat → List Int
  | _, 0 => []
  | a, d + 1 => a :: nums (a + 1) d
theorem nums_len : ∀ (d : Nat) (a : Int), (nums a d).length = d
  | 0, _ => rfl
  | d + 1, a => by simp [nums, nums_len d]
end Go.Proofs.YtbjimmemcmjpcaaGreatDoor.Print
end

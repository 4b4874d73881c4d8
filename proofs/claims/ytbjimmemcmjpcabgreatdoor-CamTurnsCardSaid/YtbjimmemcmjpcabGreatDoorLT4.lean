/- The law's Go function answers true for every input, and leaves its arguments as they were: its parts, the plain law, the row, the card. Joined by wip/pack.py. -/
import Derived.Test.YtbjimmemcmjpcabGreatDoorB3
import Derived.Test.YtbjimmemcmjpcabGreatDoorLT1
import Derived.Test.YtbjimmemcmjpcabGreatDoorB4
import Derived.Test.YtbjimmemcmjpcabGreatDoorLT2
import Derived.Test.YtbjimmemcmjpcabGreatDoorB20
import Derived.Test.YtbjimmemcmjpcabGreatDoorLT3
set_option linter.unusedVariables false
set_option linter.unusedSimpArgs false
set_option linter.unusedSectionVars false
section
namespace Go.Proofs.YtbjimmemcmjpcabGreatDoor.Print
open Go.RowKit YtbjimmemcmjpcabGreatDoorW.PrintWords YtbjimmemcmjpcabGreatDoorW.PrintLast YtbjimmemcmjpcabGreatDoorW.PrintMore
attribute [local go_sem] max2_int min2_int max_two min_two max_three min_three max_four min_four
mutual
def tellurionlaw04_CamTurns.j0 : Nat → Int → Int → Int → Bool → Int → List Int → Option (Bool)
 | 0, _, _, _, _, _, _ => none
 | k + 1, x1, x2, x3, x50, x333000, x333001 => if x50 = true then ((tellurionlaw04_known.f).bind fun t338 => (some t338)) else ((cam_Place.f x333000 x333001 x1).bind fun bt339 => ((cam_Place.f x333000 x333001 x2).bind fun bt341 => ((cam_Passes.f k x333000 x333001 x3 x2).bind fun bt343 => (if bt339.2 = 0 then (if bt341.2 = 0 then (if bt343.2 = 0 then (if (bt343.1.length : Int) > 2001 then (tellurionlaw04_CamTurns.j1 k x1 x2 x3 (x333001.length : Int) bt339.1 bt341.1 bt343.1 true x333000 x333001) else (if bt339.1 < (-200000) then (tellurionlaw04_CamTurns.j1 k x1 x2 x3 (x333001.length : Int) bt339.1 bt341.1 bt343.1 true x333000 x333001) else (if bt339.1 > 200000 then (tellurionlaw04_CamTurns.j1 k x1 x2 x3 (x333001.length : Int) bt339.1 bt341.1 bt343.1 true x333000 x333001) else (if bt341.1 < (-200000) then (tellurionlaw04_CamTurns.j1 k x1 x2 x3 (x333001.length : Int) bt339.1 bt341.1 bt343.1 true x333000 x333001) else (tellurionlaw04_CamTurns.j1 k x1 x2 x3 (x333001.length : Int) bt339.1 bt341.1 bt343.1 (decide (bt341.1 > 200000)) x333000 x333001))))) else (tellurionlaw04_CamTurns.j1 k x1 x2 x3 (x333001.length : Int) bt339.1 bt341.1 bt343.1 true x333000 x333001)) else (tellurionlaw04_CamTurns.j1 k x1 x2 x3 (x333001.length : Int) bt339.1 bt341.1 bt343.1 true x333000 x333001)) else (tellurionlaw04_CamTurns.j1 k x1 x2 x3 (x333001.length : Int) bt339.1 bt341.1 bt343.1 true x333000 x333001)))))
def tellurionlaw04_CamTurns.j1 : Nat → Int → Int → Int → Int → Int → Int → List Int → Bool → Int → List Int → Option (Bool)
 | 0, _, _, _, _, _, _, _, _, _, _ => none
 | k + 1, x1, x2, x3, x9, x10, x12, x14, x104, x333000, x333001 => if x104 = true then (some false) else ((tellurionref04_Time.f (wrap64 (x2 + x9))).bind fun t347 => (if t347 = true then ((cam_Place.f x333000 x333001 (wrap64 (x2 + x9))).bind fun bt348 => (if bt348.2 = 0 then (tellurionlaw04_CamTurns.j2 k x1 x2 x3 x9 x10 x12 x14 (bt348.1 != (wrap64 (x12 + (wrap64 (x9 * x333000))))) x333000 x333001) else (tellurionlaw04_CamTurns.j2 k x1 x2 x3 x9 x10 x12 x14 true x333000 x333001))) else (tellurionlaw04_CamTurns.j5 k x1 x2 x3 x10 x12 x14)))
def tellurionlaw04_CamTurns.j5 : Nat → Int → Int → Int → Int → Int → List Int → Option (Bool)
 | 0, _, _, _, _, _, _ => none
 | k + 1, x1, x2, x3, x10, x12, x14 => if x3 < (mn x10 x12) then (tellurionlaw04_CamTurns.j6 k x1 x2 x14 true) else (tellurionlaw04_CamTurns.j6 k x1 x2 x14 (decide (x3 > (mx x10 x12))))
def tellurionlaw04_CamTurns.j6 : Nat → Int → Int → List Int → Bool → Option (Bool)
 | 0, _, _, _, _ => none
 | k + 1, x1, x2, x14, x203 => if x203 = true then ((tellurionlaw04_known.f).bind fun t358 => (some t358)) else (tellurionlaw04_CamTurns.l1 k x1 x2 x14 0)
def tellurionlaw04_CamTurns.l1 : Nat → Int → Int → List Int → Int → Option (Bool)
 | 0, _, _, _, _ => none
 | k + 1, x1, x2, x14, x22 => if x22 < (x14.length : Int) then (if 0 ≤ x22 then (if (rd x14 x22) ≥ x1 then (if (rd x14 x22) ≤ x2 then ((tellurionlaw04_known.f).bind fun t361 => (some t361)) else (tellurionlaw04_CamTurns.l1 k x1 x2 x14 (wrap64 (x22 + 1)))) else (tellurionlaw04_CamTurns.l1 k x1 x2 x14 (wrap64 (x22 + 1)))) else (none)) else (some false)
def tellurionlaw04_CamTurns.j2 : Nat → Int → Int → Int → Int → Int → Int → List Int → Bool → Int → List Int → Option (Bool)
 | 0, _, _, _, _, _, _, _, _, _, _ => none
 | k + 1, x1, x2, x3, x9, x10, x12, x14, x128, x333000, x333001 => if x128 = true then (some false) else ((tellurionref04_Spot.f (wrap64 (x3 + (wrap64 (x9 * x333000))))).bind fun t350 => (if t350 = true then ((cam_Passes.f k x333000 x333001 (wrap64 (x3 + (wrap64 (x9 * x333000)))) (wrap64 (x2 + x9))).bind fun bt351 => (if bt351.2 = 0 then (tellurionlaw04_CamTurns.j3 k x1 x2 x3 x9 x10 x12 x14 bt351.1 (decide ((bt351.1.length : Int) > 2001))) else (tellurionlaw04_CamTurns.j3 k x1 x2 x3 x9 x10 x12 x14 bt351.1 true))) else (tellurionlaw04_CamTurns.j5 k x1 x2 x3 x10 x12 x14)))
def tellurionlaw04_CamTurns.j3 : Nat → Int → Int → Int → Int → Int → Int → List Int → List Int → Bool → Option (Bool)
 | 0, _, _, _, _, _, _, _, _, _ => none
 | k + 1, x1, x2, x3, x9, x10, x12, x14, x18, x156 => if x156 = true then (some false) else (tellurionlaw04_CamTurns.l0 k x1 x2 x3 x9 x10 x12 x14 x18 0 0)
def tellurionlaw04_CamTurns.l0 : Nat → Int → Int → Int → Int → Int → Int → List Int → List Int → Int → Int → Option (Bool)
 | 0, _, _, _, _, _, _, _, _, _, _ => none
 | k + 1, x1, x2, x3, x9, x10, x12, x14, x18, x20, x21 => if x21 < (x18.length : Int) then (if 0 ≤ x21 then (if (rd x18 x21) ≥ x9 then (if x20 ≥ (x14.length : Int) then (some false) else (if 0 ≤ x20 then (if x20 < (x14.length : Int) then (if (rd x18 x21) = (wrap64 ((rd x14 x20) + x9)) then (tellurionlaw04_CamTurns.l0 k x1 x2 x3 x9 x10 x12 x14 x18 (wrap64 (x20 + 1)) (wrap64 (x21 + 1))) else (some false)) else (none)) else (none))) else (tellurionlaw04_CamTurns.l0 k x1 x2 x3 x9 x10 x12 x14 x18 x20 (wrap64 (x21 + 1)))) else (none)) else (if x20 = (x14.length : Int) then (tellurionlaw04_CamTurns.j5 k x1 x2 x3 x10 x12 x14) else (some false))
end
def tellurionlaw04_CamTurns.f (k : Nat) (a0_0 : Int) (l0_1 : List Int) (a1 : Int) (a2 : Int) (a3 : Int) : Option (Bool) := (tellurionlaw04_slim.f a0_0 l0_1).bind fun t333 => (if t333 = true then ((tellurionref04_Motion.f k a0_0 l0_1).bind fun t334 => (if t334 = true then ((tellurionref04_Time.f a1).bind fun t335 => (if t335 = true then ((tellurionref04_Time.f a2).bind fun t336 => (if t336 = true then (if a2 < a1 then (tellurionlaw04_CamTurns.j0 k a1 a2 a3 true a0_0 l0_1) else ((tellurionref04_Spot.f a3).bind fun t337 => (tellurionlaw04_CamTurns.j0 k a1 a2 a3 (!t337) a0_0 l0_1))) else (tellurionlaw04_CamTurns.j0 k a1 a2 a3 true a0_0 l0_1))) else (tellurionlaw04_CamTurns.j0 k a1 a2 a3 true a0_0 l0_1))) else (tellurionlaw04_CamTurns.j0 k a1 a2 a3 true a0_0 l0_1))) else (tellurionlaw04_CamTurns.j0 k a1 a2 a3 true a0_0 l0_1))
theorem tellurionlaw04_CamTurns.mono_l : ∀ k, (∀ y0 y1 y2 y3 y4 y5, LeO (tellurionlaw04_CamTurns.j0 k y0 y1 y2 y3 y4 y5) (tellurionlaw04_CamTurns.j0 (k + 1) y0 y1 y2 y3 y4 y5)) ∧ (∀ y0 y1 y2 y3 y4 y5 y6 y7 y8 y9, LeO (tellurionlaw04_CamTurns.j1 k y0 y1 y2 y3 y4 y5 y6 y7 y8 y9) (tellurionlaw04_CamTurns.j1 (k + 1) y0 y1 y2 y3 y4 y5 y6 y7 y8 y9)) ∧ (∀ y0 y1 y2 y3 y4 y5, LeO (tellurionlaw04_CamTurns.j5 k y0 y1 y2 y3 y4 y5) (tellurionlaw04_CamTurns.j5 (k + 1) y0 y1 y2 y3 y4 y5)) ∧ (∀ y0 y1 y2 y3, LeO (tellurionlaw04_CamTurns.j6 k y0 y1 y2 y3) (tellurionlaw04_CamTurns.j6 (k + 1) y0 y1 y2 y3)) ∧ (∀ y0 y1 y2 y3, LeO (tellurionlaw04_CamTurns.l1 k y0 y1 y2 y3) (tellurionlaw04_CamTurns.l1 (k + 1) y0 y1 y2 y3)) ∧ (∀ y0 y1 y2 y3 y4 y5 y6 y7 y8 y9, LeO (tellurionlaw04_CamTurns.j2 k y0 y1 y2 y3 y4 y5 y6 y7 y8 y9) (tellurionlaw04_CamTurns.j2 (k + 1) y0 y1 y2 y3 y4 y5 y6 y7 y8 y9)) ∧ (∀ y0 y1 y2 y3 y4 y5 y6 y7 y8, LeO (tellurionlaw04_CamTurns.j3 k y0 y1 y2 y3 y4 y5 y6 y7 y8) (tellurionlaw04_CamTurns.j3 (k + 1) y0 y1 y2 y3 y4 y5 y6 y7 y8)) ∧ (∀ y0 y1 y2 y3 y4 y5 y6 y7 y8 y9, LeO (tellurionlaw04_CamTurns.l0 k y0 y1 y2 y3 y4 y5 y6 y7 y8 y9) (tellurionlaw04_CamTurns.l0 (k + 1) y0 y1 y2 y3 y4 y5 y6 y7 y8 y9))
 | 0 => ⟨fun _ _ _ _ _ _ r h => by simp [tellurionlaw04_CamTurns.j0] at h, fun _ _ _ _ _ _ _ _ _ _ r h => by simp [tellurionlaw04_CamTurns.j1] at h, fun _ _ _ _ _ _ r h => by simp [tellurionlaw04_CamTurns.j5] at h, fun _ _ _ _ r h => by simp [tellurionlaw04_CamTurns.j6] at h, fun _ _ _ _ r h => by simp [tellurionlaw04_CamTurns.l1] at h, fun _ _ _ _ _ _ _ _ _ _ r h => by simp [tellurionlaw04_CamTurns.j2] at h, fun _ _ _ _ _ _ _ _ _ r h => by simp [tellurionlaw04_CamTurns.j3] at h, fun _ _ _ _ _ _ _ _ _ _ r h => by simp [tellurionlaw04_CamTurns.l0] at h⟩
 | k + 1 => by
  obtain ⟨ih0, ih1, ih2, ih3, ih4, ih5, ih6, ih7⟩ := tellurionlaw04_CamTurns.mono_l k
  refine ⟨?_, ?_, ?_, ?_, ?_, ?_, ?_, ?_⟩
  ·
   intro y0 y1 y2 y3 y4 y5
   unfold tellurionlaw04_CamTurns.j0
   repeat' first
   | (with_reducible exact ih0 _ _ _ _ _ _)
   | (with_reducible exact ih1 _ _ _ _ _ _ _ _ _ _)
   | (with_reducible exact ih2 _ _ _ _ _ _)
   | (with_reducible exact ih3 _ _ _ _)
   | (with_reducible exact ih4 _ _ _ _)
   | (with_reducible exact ih5 _ _ _ _ _ _ _ _ _ _)
   | (with_reducible exact ih6 _ _ _ _ _ _ _ _ _)
   | (with_reducible exact ih7 _ _ _ _ _ _ _ _ _ _)
   | (with_reducible exact cam_Passes.mono _ _ _ _ _)
   | (with_reducible exact tellurionref04_Motion.mono _ _ _)
   | (with_reducible exact LeO.refl _)
   | (with_reducible exact LeO.none _)
   | (with_reducible refine LeO.ite ?_ ?_)
   | (with_reducible refine LeO.bind ?_ (fun _ => ?_))
   | exact ih0 _ _ _ _ _ _
   | exact ih1 _ _ _ _ _ _ _ _ _ _
   | exact ih2 _ _ _ _ _ _
   | exact ih3 _ _ _ _
   | exact ih4 _ _ _ _
   | exact ih5 _ _ _ _ _ _ _ _ _ _
   | exact ih6 _ _ _ _ _ _ _ _ _
   | exact ih7 _ _ _ _ _ _ _ _ _ _
   | exact cam_Passes.mono _ _ _ _ _
   | exact tellurionref04_Motion.mono _ _ _
   | exact LeO.none _
   | refine LeO.ite ?_ ?_
   | refine LeO.bind ?_ (fun _ => ?_)
  ·
   intro y0 y1 y2 y3 y4 y5 y6 y7 y8 y9
   unfold tellurionlaw04_CamTurns.j1
   repeat' first
   | (with_reducible exact ih0 _ _ _ _ _ _)
   | (with_reducible exact ih1 _ _ _ _ _ _ _ _ _ _)
   | (with_reducible exact ih2 _ _ _ _ _ _)
   | (with_reducible exact ih3 _ _ _ _)
   | (with_reducible exact ih4 _ _ _ _)
   | (with_reducible exact ih5 _ _ _ _ _ _ _ _ _ _)
   | (with_reducible exact ih6 _ _ _ _ _ _ _ _ _)
   | (with_reducible exact ih7 _ _ _ _ _ _ _ _ _ _)
   | (with_reducible exact cam_Passes.mono _ _ _ _ _)
   | (with_reducible exact tellurionref04_Motion.mono _ _ _)
   | (with_reducible exact LeO.refl _)
   | (with_reducible exact LeO.none _)
   | (with_reducible refine LeO.ite ?_ ?_)
   | (with_reducible refine LeO.bind ?_ (fun _ => ?_))
   | exact ih0 _ _ _ _ _ _
   | exact ih1 _ _ _ _ _ _ _ _ _ _
   | exact ih2 _ _ _ _ _ _
   | exact ih3 _ _ _ _
   | exact ih4 _ _ _ _
   | exact ih5 _ _ _ _ _ _ _ _ _ _
   | exact ih6 _ _ _ _ _ _ _ _ _
   | exact ih7 _ _ _ _ _ _ _ _ _ _
   | exact cam_Passes.mono _ _ _ _ _
   | exact tellurionref04_Motion.mono _ _ _
   | exact LeO.none _
   | refine LeO.ite ?_ ?_
   | refine LeO.bind ?_ (fun _ => ?_)
  ·
   intro y0 y1 y2 y3 y4 y5
   unfold tellurionlaw04_CamTurns.j5
   repeat' first
   | (with_reducible exact ih0 _ _ _ _ _ _)
   | (with_reducible exact ih1 _ _ _ _ _ _ _ _ _ _)
   | (with_reducible exact ih2 _ _ _ _ _ _)
   | (with_reducible exact ih3 _ _ _ _)
   | (with_reducible exact ih4 _ _ _ _)
   | (with_reducible exact ih5 _ _ _ _ _ _ _ _ _ _)
   | (with_reducible exact ih6 _ _ _ _ _ _ _ _ _)
   | (with_reducible exact ih7 _ _ _ _ _ _ _ _ _ _)
   | (with_reducible exact cam_Passes.mono _ _ _ _ _)
   | (with_reducible exact tellurionref04_Motion.mono _ _ _)
   | (with_reducible exact LeO.refl _)
   | (with_reducible exact LeO.none _)
   | (with_reducible refine LeO.ite ?_ ?_)
   | (with_reducible refine LeO.bind ?_ (fun _ => ?_))
   | exact ih0 _ _ _ _ _ _
   | exact ih1 _ _ _ _ _ _ _ _ _ _
   | exact ih2 _ _ _ _ _ _
   | exact ih3 _ _ _ _
   | exact ih4 _ _ _ _
   | exact ih5 _ _ _ _ _ _ _ _ _ _
   | exact ih6 _ _ _ _ _ _ _ _ _
   | exact ih7 _ _ _ _ _ _ _ _ _ _
   | exact cam_Passes.mono _ _ _ _ _
   | exact tellurionref04_Motion.mono _ _ _
   | exact LeO.none _
   | refine LeO.ite ?_ ?_
   | refine LeO.bind ?_ (fun _ => ?_)
  ·
   intro y0 y1 y2 y3
   unfold tellurionlaw04_CamTurns.j6
   repeat' first
   | (with_reducible exact ih0 _ _ _ _ _ _)
   | (with_reducible exact ih1 _ _ _ _ _ _ _ _ _ _)
   | (with_reducible exact ih2 _ _ _ _ _ _)
   | (with_reducible exact ih3 _ _ _ _)
   | (with_reducible exact ih4 _ _ _ _)
   | (with_reducible exact ih5 _ _ _ _ _ _ _ _ _ _)
   | (with_reducible exact ih6 _ _ _ _ _ _ _ _ _)
   | (with_reducible exact ih7 _ _ _ _ _ _ _ _ _ _)
   | (with_reducible exact cam_Passes.mono _ _ _ _ _)
   | (with_reducible exact tellurionref04_Motion.mono _ _ _)
   | (with_reducible exact LeO.refl _)
   | (with_reducible exact LeO.none _)
   | (with_reducible refine LeO.ite ?_ ?_)
   | (with_reducible refine LeO.bind ?_ (fun _ => ?_))
   | exact ih0 _ _ _ _ _ _
   | exact ih1 _ _ _ _ _ _ _ _ _ _
   | exact ih2 _ _ _ _ _ _
   | exact ih3 _ _ _ _
   | exact ih4 _ _ _ _
   | exact ih5 _ _ _ _ _ _ _ _ _ _
   | exact ih6 _ _ _ _ _ _ _ _ _
   | exact ih7 _ _ _ _ _ _ _ _ _ _
   | exact cam_Passes.mono _ _ _ _ _
   | exact tellurionref04_Motion.mono _ _ _
   | exact LeO.none _
   | refine LeO.ite ?_ ?_
   | refine LeO.bind ?_ (fun _ => ?_)
  ·
   intro y0 y1 y2 y3
   unfold tellurionlaw04_CamTurns.l1
   repeat' first
   | (with_reducible exact ih0 _ _ _ _ _ _)
   | (with_reducible exact ih1 _ _ _ _ _ _ _ _ _ _)
   | (with_reducible exact ih2 _ _ _ _ _ _)
   | (with_reducible exact ih3 _ _ _ _)
   | (with_reducible exact ih4 _ _ _ _)
   | (with_reducible exact ih5 _ _ _ _ _ _ _ _ _ _)
   | (with_reducible exact ih6 _ _ _ _ _ _ _ _ _)
   | (with_reducible exact ih7 _ _ _ _ _ _ _ _ _ _)
   | (with_reducible exact cam_Passes.mono _ _ _ _ _)
   | (with_reducible exact tellurionref04_Motion.mono _ _ _)
   | (with_reducible exact LeO.refl _)
   | (with_reducible exact LeO.none _)
   | (with_reducible refine LeO.ite ?_ ?_)
   | (with_reducible refine LeO.bind ?_ (fun _ => ?_))
   | exact ih0 _ _ _ _ _ _
   | exact ih1 _ _ _ _ _ _ _ _ _ _
   | exact ih2 _ _ _ _ _ _
   | exact ih3 _ _ _ _
   | exact ih4 _ _ _ _
   | exact ih5 _ _ _ _ _ _ _ _ _ _
   | exact ih6 _ _ _ _ _ _ _ _ _
   | exact ih7 _ _ _ _ _ _ _ _ _ _
   | exact cam_Passes.mono _ _ _ _ _
   | exact tellurionref04_Motion.mono _ _ _
   | exact LeO.none _
   | refine LeO.ite ?_ ?_
   | refine LeO.bind ?_ (fun _ => ?_)
  ·
   intro y0 y1 y2 y3 y4 y5 y6 y7 y8 y9
   unfold tellurionlaw04_CamTurns.j2
   repeat' first
   | (with_reducible exact ih0 _ _ _ _ _ _)
   | (with_reducible exact ih1 _ _ _ _ _ _ _ _ _ _)
   | (with_reducible exact ih2 _ _ _ _ _ _)
   | (with_reducible exact ih3 _ _ _ _)
   | (with_reducible exact ih4 _ _ _ _)
   | (with_reducible exact ih5 _ _ _ _ _ _ _ _ _ _)
   | (with_reducible exact ih6 _ _ _ _ _ _ _ _ _)
   | (with_reducible exact ih7 _ _ _ _ _ _ _ _ _ _)
   | (with_reducible exact cam_Passes.mono _ _ _ _ _)
   | (with_reducible exact tellurionref04_Motion.mono _ _ _)
   | (with_reducible exact LeO.refl _)
   | (with_reducible exact LeO.none _)
   | (with_reducible refine LeO.ite ?_ ?_)
   | (with_reducible refine LeO.bind ?_ (fun _ => ?_))
   | exact ih0 _ _ _ _ _ _
   | exact ih1 _ _ _ _ _ _ _ _ _ _
   | exact ih2 _ _ _ _ _ _
   | exact ih3 _ _ _ _
   | exact ih4 _ _ _ _
   | exact ih5 _ _ _ _ _ _ _ _ _ _
   | exact ih6 _ _ _ _ _ _ _ _ _
   | exact ih7 _ _ _ _ _ _ _ _ _ _
   | exact cam_Passes.mono _ _ _ _ _
   | exact tellurionref04_Motion.mono _ _ _
   | exact LeO.none _
   | refine LeO.ite ?_ ?_
   | refine LeO.bind ?_ (fun _ => ?_)
  ·
   intro y0 y1 y2 y3 y4 y5 y6 y7 y8
   unfold tellurionlaw04_CamTurns.j3
   repeat' first
   | (with_reducible exact ih0 _ _ _ _ _ _)
   | (with_reducible exact ih1 _ _ _ _ _ _ _ _ _ _)
   | (with_reducible exact ih2 _ _ _ _ _ _)
   | (with_reducible exact ih3 _ _ _ _)
   | (with_reducible exact ih4 _ _ _ _)
   | (with_reducible exact ih5 _ _ _ _ _ _ _ _ _ _)
   | (with_reducible exact ih6 _ _ _ _ _ _ _ _ _)
   | (with_reducible exact ih7 _ _ _ _ _ _ _ _ _ _)
   | (with_reducible exact cam_Passes.mono _ _ _ _ _)
   | (with_reducible exact tellurionref04_Motion.mono _ _ _)
   | (with_reducible exact LeO.refl _)
   | (with_reducible exact LeO.none _)
   | (with_reducible refine LeO.ite ?_ ?_)
   | (with_reducible refine LeO.bind ?_ (fun _ => ?_))
   | exact ih0 _ _ _ _ _ _
   | exact ih1 _ _ _ _ _ _ _ _ _ _
   | exact ih2 _ _ _ _ _ _
   | exact ih3 _ _ _ _
   | exact ih4 _ _ _ _
   | exact ih5 _ _ _ _ _ _ _ _ _ _
   | exact ih6 _ _ _ _ _ _ _ _ _
   | exact ih7 _ _ _ _ _ _ _ _ _ _
   | exact cam_Passes.mono _ _ _ _ _
   | exact tellurionref04_Motion.mono _ _ _
   | exact LeO.none _
   | refine LeO.ite ?_ ?_
   | refine LeO.bind ?_ (fun _ => ?_)
  ·
   intro y0 y1 y2 y3 y4 y5 y6 y7 y8 y9
   unfold tellurionlaw04_CamTurns.l0
   repeat' first
   | (with_reducible exact ih0 _ _ _ _ _ _)
   | (with_reducible exact ih1 _ _ _ _ _ _ _ _ _ _)
   | (with_reducible exact ih2 _ _ _ _ _ _)
   | (with_reducible exact ih3 _ _ _ _)
   | (with_reducible exact ih4 _ _ _ _)
   | (with_reducible exact ih5 _ _ _ _ _ _ _ _ _ _)
   | (with_reducible exact ih6 _ _ _ _ _ _ _ _ _)
   | (with_reducible exact ih7 _ _ _ _ _ _ _ _ _ _)
   | (with_reducible exact cam_Passes.mono _ _ _ _ _)
   | (with_reducible exact tellurionref04_Motion.mono _ _ _)
   | (with_reducible exact LeO.refl _)
   | (with_reducible exact LeO.none _)
   | (with_reducible refine LeO.ite ?_ ?_)
   | (with_reducible refine LeO.bind ?_ (fun _ => ?_))
   | exact ih0 _ _ _ _ _ _
   | exact ih1 _ _ _ _ _ _ _ _ _ _
   | exact ih2 _ _ _ _ _ _
   | exact ih3 _ _ _ _
   | exact ih4 _ _ _ _
   | exact ih5 _ _ _ _ _ _ _ _ _ _
   | exact ih6 _ _ _ _ _ _ _ _ _
   | exact ih7 _ _ _ _ _ _ _ _ _ _
   | exact cam_Passes.mono _ _ _ _ _
   | exact tellurionref04_Motion.mono _ _ _
   | exact LeO.none _
   | refine LeO.ite ?_ ?_
   | refine LeO.bind ?_ (fun _ => ?_)
theorem tellurionlaw04_CamTurns.mono : ∀ a0 a1 a2 a3 a4 k, LeO (tellurionlaw04_CamTurns.f k a0 a1 a2 a3 a4) (tellurionlaw04_CamTurns.f (k + 1) a0 a1 a2 a3 a4) := by
 intro a0 a1 a2 a3 a4 k
 obtain ⟨ih0, ih1, ih2, ih3, ih4, ih5, ih6, ih7⟩ := tellurionlaw04_CamTurns.mono_l k
 unfold tellurionlaw04_CamTurns.f
 repeat' first
   | (with_reducible exact ih0 _ _ _ _ _ _)
   | (with_reducible exact ih1 _ _ _ _ _ _ _ _ _ _)
   | (with_reducible exact ih2 _ _ _ _ _ _)
   | (with_reducible exact ih3 _ _ _ _)
   | (with_reducible exact ih4 _ _ _ _)
   | (with_reducible exact ih5 _ _ _ _ _ _ _ _ _ _)
   | (with_reducible exact ih6 _ _ _ _ _ _ _ _ _)
   | (with_reducible exact ih7 _ _ _ _ _ _ _ _ _ _)
   | (with_reducible exact cam_Passes.mono _ _ _ _ _)
   | (with_reducible exact tellurionref04_Motion.mono _ _ _)
   | (with_reducible exact LeO.refl _)
   | (with_reducible exact LeO.none _)
   | (with_reducible refine LeO.ite ?_ ?_)
   | (with_reducible refine LeO.bind ?_ (fun _ => ?_))
   | exact ih0 _ _ _ _ _ _
   | exact ih1 _ _ _ _ _ _ _ _ _ _
   | exact ih2 _ _ _ _ _ _
   | exact ih3 _ _ _ _
   | exact ih4 _ _ _ _
   | exact ih5 _ _ _ _ _ _ _ _ _ _
   | exact ih6 _ _ _ _ _ _ _ _ _
   | exact ih7 _ _ _ _ _ _ _ _ _ _
   | exact cam_Passes.mono _ _ _ _ _
   | exact tellurionref04_Motion.mono _ _ _
   | exact LeO.none _
   | refine LeO.ite ?_ ?_
   | refine LeO.bind ?_ (fun _ => ?_)
set_option maxHeartbeats 8000000 in
set_option maxRecDepth 100000 in
theorem tellurionlaw04_CamTurns.calls (k : Nat) (a0_0 : Int) (A0_1 : Option Addr) (c0_1 : Nat) (l0_1 : List Int) (a1 : Int) (a2 : Int) (a3 : Int) (r : Bool) (w : World) (hr0_1 : Kd.C (Kd.int .i64) w A0_1 l0_1.length l0_1) (hc0_1 : l0_1.length ≤ c0_1) (h : tellurionlaw04_CamTurns.f k a0_0 l0_1 a1 a2 a3 = some r) :
  Calls Tryz.prog 6 #[.agg #[.int .i64 a0_0, .slice A0_1 l0_1.length c0_1], .int .i64 a1, .int .i64 a2, .int .i64 a3] w fun e w' => e = .returned (.bool r) ∧ Below w.heap.size w w' := by
 have hu24 := Tryz.underlying24
 have HR0_1 := Aside0.mk hr0_1
 have HC0_1 := Aside0.mk hc0_1
 clear hr0_1 hc0_1
 have HB := Aside0.mk (Below.refl w.heap.size w)
 have H : ((tellurionlaw04_slim.f a0_0 l0_1).bind fun t333 => (if t333 = true then ((tellurionref04_Motion.f k a0_0 l0_1).bind fun t334 => (if t334 = true then ((tellurionref04_Time.f a1).bind fun t335 => (if t335 = true then ((tellurionref04_Time.f a2).bind fun t336 => (if t336 = true then (if a2 < a1 then (tellurionlaw04_CamTurns.j0 k a1 a2 a3 true a0_0 l0_1) else ((tellurionref04_Spot.f a3).bind fun t337 => (tellurionlaw04_CamTurns.j0 k a1 a2 a3 (!t337) a0_0 l0_1))) else (tellurionlaw04_CamTurns.j0 k a1 a2 a3 true a0_0 l0_1))) else (tellurionlaw04_CamTurns.j0 k a1 a2 a3 true a0_0 l0_1))) else (tellurionlaw04_CamTurns.j0 k a1 a2 a3 true a0_0 l0_1))) else (tellurionlaw04_CamTurns.j0 k a1 a2 a3 true a0_0 l0_1))) = some r := h
 clear h
 have HC5 := Aside0.mk H
 clear H
 go_enter Tryz.func6, Tryz.ntmps6
 go_upto_region 1 with (first | ((with_reducible refine gate_dst (N := 4) rfl ?_); (try (refine gate_guard (by rfl) ?_; dsimp only)); refine box_event ?hg (N := 4) ?hd (cs := #[.int .i64 a0_0, .slice A0_1 l0_1.length c0_1]) (t := 24) ?hr ?_; (case hd => rfl); (case hg => rfl); (case hr => first | (go_simp; done) | (go_simp; rfl)); intro gb332 hg w6 hbox hb; have n0_ := Aside0.mk (below_step (by repeat (first | (with_reducible first | exact HB.out | apply below_alloc | apply pw_below_drewN | apply below_drew1) | exact HB.out)) hb); have n1_ := Aside0.mk (hbox); have n2_ := Aside0.mk ((by rw [hg]; exact (below_size (by repeat (first | (with_reducible first | exact HB.out | apply below_alloc | apply pw_below_drewN | apply below_drew1) | exact HB.out))) : w.heap.size ≤ gb332)); have n3_ := Aside0.mk ((by rw [hg]; exact (below_size (by repeat (first | (with_reducible first | exact HB.out | apply below_alloc | apply pw_below_drewN | apply below_drew1) | exact HB.out))) : w.heap.size ≤ gb332)); clear HB; have HB := n0_; have BK332 := n1_; have GW332 := n2_; have GE332 := n3_; clear n0_ n1_ n2_ n3_; clear hb hbox hg))
 repeat (go_quiet (first | ((with_reducible refine gate_dst (N := 4) rfl ?_); (try (refine gate_guard (by rfl) ?_; dsimp only)); refine box_event ?hg (N := 4) ?hd (cs := #[.int .i64 a0_0, .slice A0_1 l0_1.length c0_1]) (t := 24) ?hr ?_; (case hd => rfl); (case hg => rfl); (case hr => first | (go_simp; done) | (go_simp; rfl)); intro gb332 hg w6 hbox hb; have n0_ := Aside0.mk (below_step (by repeat (first | (with_reducible first | exact HB.out | apply below_alloc | apply pw_below_drewN | apply below_drew1) | exact HB.out)) hb); have n1_ := Aside0.mk (hbox); have n2_ := Aside0.mk ((by rw [hg]; exact (below_size (by repeat (first | (with_reducible first | exact HB.out | apply below_alloc | apply pw_below_drewN | apply below_drew1) | exact HB.out))) : w.heap.size ≤ gb332)); have n3_ := Aside0.mk ((by rw [hg]; exact (below_size (by repeat (first | (with_reducible first | exact HB.out | apply below_alloc | apply pw_below_drewN | apply below_drew1) | exact HB.out))) : w.heap.size ≤ gb332)); clear HB; have HB := n0_; have BK332 := n1_; have GW332 := n2_; have GE332 := n3_; clear n0_ n1_ n2_ n3_; clear hb hbox hg)); go_upto_region 1 with (first | ((with_reducible refine gate_dst (N := 4) rfl ?_); (try (refine gate_guard (by rfl) ?_; dsimp only)); refine box_event ?hg (N := 4) ?hd (cs := #[.int .i64 a0_0, .slice A0_1 l0_1.length c0_1]) (t := 24) ?hr ?_; (case hd => rfl); (case hg => rfl); (case hr => first | (go_simp; done) | (go_simp; rfl)); intro gb332 hg w6 hbox hb; have n0_ := Aside0.mk (below_step (by repeat (first | (with_reducible first | exact HB.out | apply below_alloc | apply pw_below_drewN | apply below_drew1) | exact HB.out)) hb); have n1_ := Aside0.mk (hbox); have n2_ := Aside0.mk ((by rw [hg]; exact (below_size (by repeat (first | (with_reducible first | exact HB.out | apply below_alloc | apply pw_below_drewN | apply below_drew1) | exact HB.out))) : w.heap.size ≤ gb332)); have n3_ := Aside0.mk ((by rw [hg]; exact (below_size (by repeat (first | (with_reducible first | exact HB.out | apply below_alloc | apply pw_below_drewN | apply below_drew1) | exact HB.out))) : w.heap.size ≤ gb332)); clear HB; have HB := n0_; have BK332 := n1_; have GW332 := n2_; have GE332 := n3_; clear n0_ n1_ n2_ n3_; clear hb hbox hg)))
 (try simp only [Act.put, List.setIfInBounds_toArray, List.set_cons_zero, List.set_cons_succ])
 go_cut [50] (fun v50 wc => ∃ (kq : Nat) (x50_4 : Bool), v50 = .bool x50_4 ∧ Aside0 (tellurionlaw04_CamTurns.j0 kq a1 a2 a3 x50_4 a0_0 l0_1 = some r) ∧ Aside0 (kq ≤ k) ∧ Aside0 (wc.heap[gb332]? = some (.cells #[.int .i64 a0_0, (.slice A0_1 l0_1.length c0_1)] 24 (0, 0))) ∧ Aside0 (Below w.heap.size w wc))
 case first =>
  have H := HC5.out
  clear HC5
  replace H := Option.bind_eq_some_iff.mp H
  obtain ⟨t333, A70, H⟩ := H
  replace H : (if t333 = true then ((tellurionref04_Motion.f k a0_0 l0_1).bind fun t334 => (if t334 = true then ((tellurionref04_Time.f a1).bind fun t335 => (if t335 = true then ((tellurionref04_Time.f a2).bind fun t336 => (if t336 = true then (if a2 < a1 then (tellurionlaw04_CamTurns.j0 k a1 a2 a3 true a0_0 l0_1) else ((tellurionref04_Spot.f a3).bind fun t337 => (tellurionlaw04_CamTurns.j0 k a1 a2 a3 (!t337) a0_0 l0_1))) else (tellurionlaw04_CamTurns.j0 k a1 a2 a3 true a0_0 l0_1))) else (tellurionlaw04_CamTurns.j0 k a1 a2 a3 true a0_0 l0_1))) else (tellurionlaw04_CamTurns.j0 k a1 a2 a3 true a0_0 l0_1))) else (tellurionlaw04_CamTurns.j0 k a1 a2 a3 true a0_0 l0_1)) = some r := H
  have A7 := Aside0.mk A70
  clear A70
  by_cases c8 : t333 = true
  ·
   subst c8
   have H1 : ((tellurionref04_Motion.f k a0_0 l0_1).bind fun t334 => (if t334 = true then ((tellurionref04_Time.f a1).bind fun t335 => (if t335 = true then ((tellurionref04_Time.f a2).bind fun t336 => (if t336 = true then (if a2 < a1 then (tellurionlaw04_CamTurns.j0 k a1 a2 a3 true a0_0 l0_1) else ((tellurionref04_Spot.f a3).bind fun t337 => (tellurionlaw04_CamTurns.j0 k a1 a2 a3 (!t337) a0_0 l0_1))) else (tellurionlaw04_CamTurns.j0 k a1 a2 a3 true a0_0 l0_1))) else (tellurionlaw04_CamTurns.j0 k a1 a2 a3 true a0_0 l0_1))) else (tellurionlaw04_CamTurns.j0 k a1 a2 a3 true a0_0 l0_1))) = some r := by rw [if_pos rfl] at H; exact H
   clear H
   have H := H1
   clear H1
   replace H := Option.bind_eq_some_iff.mp H
   obtain ⟨t334, A90, H⟩ := H
   replace H : (if t334 = true then ((tellurionref04_Time.f a1).bind fun t335 => (if t335 = true then ((tellurionref04_Time.f a2).bind fun t336 => (if t336 = true then (if a2 < a1 then (tellurionlaw04_CamTurns.j0 k a1 a2 a3 true a0_0 l0_1) else ((tellurionref04_Spot.f a3).bind fun t337 => (tellurionlaw04_CamTurns.j0 k a1 a2 a3 (!t337) a0_0 l0_1))) else (tellurionlaw04_CamTurns.j0 k a1 a2 a3 true a0_0 l0_1))) else (tellurionlaw04_CamTurns.j0 k a1 a2 a3 true a0_0 l0_1))) else (tellurionlaw04_CamTurns.j0 k a1 a2 a3 true a0_0 l0_1)) = some r := H
   have A9 := Aside0.mk A90
   clear A90
   by_cases c10 : t334 = true
   ·
    subst c10
    have H1 : ((tellurionref04_Time.f a1).bind fun t335 => (if t335 = true then ((tellurionref04_Time.f a2).bind fun t336 => (if t336 = true then (if a2 < a1 then (tellurionlaw04_CamTurns.j0 k a1 a2 a3 true a0_0 l0_1) else ((tellurionref04_Spot.f a3).bind fun t337 => (tellurionlaw04_CamTurns.j0 k a1 a2 a3 (!t337) a0_0 l0_1))) else (tellurionlaw04_CamTurns.j0 k a1 a2 a3 true a0_0 l0_1))) else (tellurionlaw04_CamTurns.j0 k a1 a2 a3 true a0_0 l0_1))) = some r := by rw [if_pos rfl] at H; exact H
    clear H
    have H := H1
    clear H1
    replace H := Option.bind_eq_some_iff.mp H
    obtain ⟨t335, A110, H⟩ := H
    replace H : (if t335 = true then ((tellurionref04_Time.f a2).bind fun t336 => (if t336 = true then (if a2 < a1 then (tellurionlaw04_CamTurns.j0 k a1 a2 a3 true a0_0 l0_1) else ((tellurionref04_Spot.f a3).bind fun t337 => (tellurionlaw04_CamTurns.j0 k a1 a2 a3 (!t337) a0_0 l0_1))) else (tellurionlaw04_CamTurns.j0 k a1 a2 a3 true a0_0 l0_1))) else (tellurionlaw04_CamTurns.j0 k a1 a2 a3 true a0_0 l0_1)) = some r := H
    have A11 := Aside0.mk A110
    clear A110
    by_cases c12 : t335 = true
    ·
     subst c12
     have H1 : ((tellurionref04_Time.f a2).bind fun t336 => (if t336 = true then (if a2 < a1 then (tellurionlaw04_CamTurns.j0 k a1 a2 a3 true a0_0 l0_1) else ((tellurionref04_Spot.f a3).bind fun t337 => (tellurionlaw04_CamTurns.j0 k a1 a2 a3 (!t337) a0_0 l0_1))) else (tellurionlaw04_CamTurns.j0 k a1 a2 a3 true a0_0 l0_1))) = some r := by rw [if_pos rfl] at H; exact H
     clear H
     have H := H1
     clear H1
     replace H := Option.bind_eq_some_iff.mp H
     obtain ⟨t336, A130, H⟩ := H
     replace H : (if t336 = true then (if a2 < a1 then (tellurionlaw04_CamTurns.j0 k a1 a2 a3 true a0_0 l0_1) else ((tellurionref04_Spot.f a3).bind fun t337 => (tellurionlaw04_CamTurns.j0 k a1 a2 a3 (!t337) a0_0 l0_1))) else (tellurionlaw04_CamTurns.j0 k a1 a2 a3 true a0_0 l0_1)) = some r := H
     have A13 := Aside0.mk A130
     clear A130
     by_cases c14 : t336 = true
     ·
      subst c14
      have H1 : (if a2 < a1 then (tellurionlaw04_CamTurns.j0 k a1 a2 a3 true a0_0 l0_1) else ((tellurionref04_Spot.f a3).bind fun t337 => (tellurionlaw04_CamTurns.j0 k a1 a2 a3 (!t337) a0_0 l0_1))) = some r := by rw [if_pos rfl] at H; exact H
      clear H
      have H := H1
      clear H1
      by_cases c15 : a2 < a1
      ·
       rw [if_pos c15] at H
       have c15b0 : decide (a2 < a1) = true := decide_eq_true c15
       clear c15
       (first | rw [c15b0] | (simp only [i64_w, i32_w]; rw [c15b0]) | skip)
       as_aux_lemma =>
        have H' := Aside0.mk H
        clear H
        have hcz16_0 : w6.cell? ⟨gb332, 0, none⟩ = some (.int .i64 a0_0) := (blk_cell BK332.out 0).trans rfl
        have hcz16_1 : w6.cell? ⟨gb332, 1, none⟩ = some (.slice A0_1 l0_1.length c0_1) := (blk_cell BK332.out 1).trans rfl
        have hfz16_0 := blk_frozen BK332.out 0
        have hfz16_1 := blk_frozen BK332.out 1
        go_wp2_with (first | (go_at_call 10; (with_reducible refine (tellurionlaw04_slim.calls a0_0 _ _ l0_1 true _ ?side1 ?side2 A7.out).mono ?_); (case side1 => repeat (first | exact (Kd.C_below HR0_1.out HB.out) | (with_reducible refine Kd.C_alloc ?_ _) | (with_reducible refine Kd.C_drewN ?_ _) | (with_reducible refine Kd.C_drew ?_))); (case side2 => exact HC0_1.out); rintro e w17 ⟨rfl, hb⟩; have n0_ := Aside0.mk (blk_below (g := gb332) (o := .cells #[.int .i64 a0_0, .slice A0_1 l0_1.length c0_1] 24 (0, 0)) (by (with_reducible repeat (first | refine blk_drewN ?_ _ | refine blk_drew ?_ | refine blk_alloc ?_ _)); exact BK332.out) hb); have n1_ := Aside0.mk (below_step (by repeat (first | (with_reducible first | exact HB.out | apply below_alloc | apply pw_below_drewN | apply below_drew1 | refine below_set ?_ GE332.out) | exact HB.out)) hb); clear BK332; clear HB; have BK332 := n0_; have HB := n1_; clear n0_ n1_; (try clear hb); (try clear hb2); (try clear hk); (try clear hi); have hcz18_0 : w17.cell? ⟨gb332, 0, none⟩ = some (.int .i64 a0_0) := (blk_cell BK332.out 0).trans rfl; have hcz18_1 : w17.cell? ⟨gb332, 1, none⟩ = some (.slice A0_1 l0_1.length c0_1) := (blk_cell BK332.out 1).trans rfl; have hfz18_0 := blk_frozen BK332.out 0; have hfz18_1 := blk_frozen BK332.out 1) | (go_at_call 13; (with_reducible refine (tellurionref04_Motion.calls k a0_0 _ _ l0_1 true _ ?side1 ?side2 A9.out).mono ?_); (case side1 => repeat (first | exact (Kd.C_below HR0_1.out HB.out) | (with_reducible refine Kd.C_alloc ?_ _) | (with_reducible refine Kd.C_drewN ?_ _) | (with_reducible refine Kd.C_drew ?_))); (case side2 => exact HC0_1.out); rintro e w19 ⟨rfl, hb⟩; have n0_ := Aside0.mk (blk_below (g := gb332) (o := .cells #[.int .i64 a0_0, .slice A0_1 l0_1.length c0_1] 24 (0, 0)) (by (with_reducible repeat (first | refine blk_drewN ?_ _ | refine blk_drew ?_ | refine blk_alloc ?_ _)); exact BK332.out) hb); have n1_ := Aside0.mk (below_step (by repeat (first | (with_reducible first | exact HB.out | apply below_alloc | apply pw_below_drewN | apply below_drew1 | refine below_set ?_ GE332.out) | exact HB.out)) hb); clear BK332; clear HB; have BK332 := n0_; have HB := n1_; clear n0_ n1_; (try clear hb); (try clear hb2); (try clear hk); (try clear hi)) | (go_at_call 14; (with_reducible refine (tellurionref04_Time.calls a1 true _ A11.out).mono ?_); rintro e w' ⟨rfl, ⟨nd, rfl⟩⟩; (try first | exact ⟨rfl, _, World.drewN_drewN _ _ _⟩ | exact ⟨rfl, _, Eq.trans (World.drewN_drewN _ _ _) (congrArg (World.drewN _) (Nat.add_assoc _ _ _))⟩)) | (go_at_call 14; (with_reducible refine (tellurionref04_Time.calls a2 true _ A13.out).mono ?_); rintro e w' ⟨rfl, ⟨nd, rfl⟩⟩; (try first | exact ⟨rfl, _, World.drewN_drewN _ _ _⟩ | exact ⟨rfl, _, Eq.trans (World.drewN_drewN _ _ _) (congrArg (World.drewN _) (Nat.add_assoc _ _ _))⟩)))
        repeat (go_quiet (first | (go_at_call 10; (with_reducible refine (tellurionlaw04_slim.calls a0_0 _ _ l0_1 true _ ?side1 ?side2 A7.out).mono ?_); (case side1 => repeat (first | exact (Kd.C_below HR0_1.out HB.out) | (with_reducible refine Kd.C_alloc ?_ _) | (with_reducible refine Kd.C_drewN ?_ _) | (with_reducible refine Kd.C_drew ?_))); (case side2 => exact HC0_1.out); rintro e w17 ⟨rfl, hb⟩; have n0_ := Aside0.mk (blk_below (g := gb332) (o := .cells #[.int .i64 a0_0, .slice A0_1 l0_1.length c0_1] 24 (0, 0)) (by (with_reducible repeat (first | refine blk_drewN ?_ _ | refine blk_drew ?_ | refine blk_alloc ?_ _)); exact BK332.out) hb); have n1_ := Aside0.mk (below_step (by repeat (first | (with_reducible first | exact HB.out | apply below_alloc | apply pw_below_drewN | apply below_drew1 | refine below_set ?_ GE332.out) | exact HB.out)) hb); clear BK332; clear HB; have BK332 := n0_; have HB := n1_; clear n0_ n1_; (try clear hb); (try clear hb2); (try clear hk); (try clear hi); have hcz18_0 : w17.cell? ⟨gb332, 0, none⟩ = some (.int .i64 a0_0) := (blk_cell BK332.out 0).trans rfl; have hcz18_1 : w17.cell? ⟨gb332, 1, none⟩ = some (.slice A0_1 l0_1.length c0_1) := (blk_cell BK332.out 1).trans rfl; have hfz18_0 := blk_frozen BK332.out 0; have hfz18_1 := blk_frozen BK332.out 1) | (go_at_call 13; (with_reducible refine (tellurionref04_Motion.calls k a0_0 _ _ l0_1 true _ ?side1 ?side2 A9.out).mono ?_); (case side1 => repeat (first | exact (Kd.C_below HR0_1.out HB.out) | (with_reducible refine Kd.C_alloc ?_ _) | (with_reducible refine Kd.C_drewN ?_ _) | (with_reducible refine Kd.C_drew ?_))); (case side2 => exact HC0_1.out); rintro e w19 ⟨rfl, hb⟩; have n0_ := Aside0.mk (blk_below (g := gb332) (o := .cells #[.int .i64 a0_0, .slice A0_1 l0_1.length c0_1] 24 (0, 0)) (by (with_reducible repeat (first | refine blk_drewN ?_ _ | refine blk_drew ?_ | refine blk_alloc ?_ _)); exact BK332.out) hb); have n1_ := Aside0.mk (below_step (by repeat (first | (with_reducible first | exact HB.out | apply below_alloc | apply pw_below_drewN | apply below_drew1 | refine below_set ?_ GE332.out) | exact HB.out)) hb); clear BK332; clear HB; have BK332 := n0_; have HB := n1_; clear n0_ n1_; (try clear hb); (try clear hb2); (try clear hk); (try clear hi)) | (go_at_call 14; (with_reducible refine (tellurionref04_Time.calls a1 true _ A11.out).mono ?_); rintro e w' ⟨rfl, ⟨nd, rfl⟩⟩; (try first | exact ⟨rfl, _, World.drewN_drewN _ _ _⟩ | exact ⟨rfl, _, Eq.trans (World.drewN_drewN _ _ _) (congrArg (World.drewN _) (Nat.add_assoc _ _ _))⟩)) | (go_at_call 14; (with_reducible refine (tellurionref04_Time.calls a2 true _ A13.out).mono ?_); rintro e w' ⟨rfl, ⟨nd, rfl⟩⟩; (try first | exact ⟨rfl, _, World.drewN_drewN _ _ _⟩ | exact ⟨rfl, _, Eq.trans (World.drewN_drewN _ _ _) (congrArg (World.drewN _) (Nat.add_assoc _ _ _))⟩))); try go_wp2_with (first | (go_at_call 10; (with_reducible refine (tellurionlaw04_slim.calls a0_0 _ _ l0_1 true _ ?side1 ?side2 A7.out).mono ?_); (case side1 => repeat (first | exact (Kd.C_below HR0_1.out HB.out) | (with_reducible refine Kd.C_alloc ?_ _) | (with_reducible refine Kd.C_drewN ?_ _) | (with_reducible refine Kd.C_drew ?_))); (case side2 => exact HC0_1.out); rintro e w17 ⟨rfl, hb⟩; have n0_ := Aside0.mk (blk_below (g := gb332) (o := .cells #[.int .i64 a0_0, .slice A0_1 l0_1.length c0_1] 24 (0, 0)) (by (with_reducible repeat (first | refine blk_drewN ?_ _ | refine blk_drew ?_ | refine blk_alloc ?_ _)); exact BK332.out) hb); have n1_ := Aside0.mk (below_step (by repeat (first | (with_reducible first | exact HB.out | apply below_alloc | apply pw_below_drewN | apply below_drew1 | refine below_set ?_ GE332.out) | exact HB.out)) hb); clear BK332; clear HB; have BK332 := n0_; have HB := n1_; clear n0_ n1_; (try clear hb); (try clear hb2); (try clear hk); (try clear hi); have hcz18_0 : w17.cell? ⟨gb332, 0, none⟩ = some (.int .i64 a0_0) := (blk_cell BK332.out 0).trans rfl; have hcz18_1 : w17.cell? ⟨gb332, 1, none⟩ = some (.slice A0_1 l0_1.length c0_1) := (blk_cell BK332.out 1).trans rfl; have hfz18_0 := blk_frozen BK332.out 0; have hfz18_1 := blk_frozen BK332.out 1) | (go_at_call 13; (with_reducible refine (tellurionref04_Motion.calls k a0_0 _ _ l0_1 true _ ?side1 ?side2 A9.out).mono ?_); (case side1 => repeat (first | exact (Kd.C_below HR0_1.out HB.out) | (with_reducible refine Kd.C_alloc ?_ _) | (with_reducible refine Kd.C_drewN ?_ _) | (with_reducible refine Kd.C_drew ?_))); (case side2 => exact HC0_1.out); rintro e w19 ⟨rfl, hb⟩; have n0_ := Aside0.mk (blk_below (g := gb332) (o := .cells #[.int .i64 a0_0, .slice A0_1 l0_1.length c0_1] 24 (0, 0)) (by (with_reducible repeat (first | refine blk_drewN ?_ _ | refine blk_drew ?_ | refine blk_alloc ?_ _)); exact BK332.out) hb); have n1_ := Aside0.mk (below_step (by repeat (first | (with_reducible first | exact HB.out | apply below_alloc | apply pw_below_drewN | apply below_drew1 | refine below_set ?_ GE332.out) | exact HB.out)) hb); clear BK332; clear HB; have BK332 := n0_; have HB := n1_; clear n0_ n1_; (try clear hb); (try clear hb2); (try clear hk); (try clear hi)) | (go_at_call 14; (with_reducible refine (tellurionref04_Time.calls a1 true _ A11.out).mono ?_); rintro e w' ⟨rfl, ⟨nd, rfl⟩⟩; (try first | exact ⟨rfl, _, World.drewN_drewN _ _ _⟩ | exact ⟨rfl, _, Eq.trans (World.drewN_drewN _ _ _) (congrArg (World.drewN _) (Nat.add_assoc _ _ _))⟩)) | (go_at_call 14; (with_reducible refine (tellurionref04_Time.calls a2 true _ A13.out).mono ?_); rintro e w' ⟨rfl, ⟨nd, rfl⟩⟩; (try first | exact ⟨rfl, _, World.drewN_drewN _ _ _⟩ | exact ⟨rfl, _, Eq.trans (World.drewN_drewN _ _ _) (congrArg (World.drewN _) (Nat.add_assoc _ _ _))⟩))))
        go_meet
        case rel => exact ⟨_, (true), (by first | rfl | (simp; done) | (simp [*]; done)), H', ⟨by first | omega | exact Nat.le_refl _⟩, ⟨by (with_reducible repeat (first | refine blk_drewN ?_ _ | refine blk_drew ?_ | refine blk_alloc ?_ _)); exact BK332.out⟩, ⟨by repeat (first | (with_reducible first | exact HB.out | apply below_alloc | apply pw_below_drewN | apply below_drew1 | refine below_set ?_ GE332.out) | exact HB.out)⟩⟩
      ·
       rw [if_neg c15] at H
       have c15b0 : decide (a2 < a1) = false := decide_eq_false c15
       clear c15
       (first | rw [c15b0] | (simp only [i64_w, i32_w]; rw [c15b0]) | skip)
       replace H := Option.bind_eq_some_iff.mp H
       obtain ⟨t337, A200, H⟩ := H
       replace H : (tellurionlaw04_CamTurns.j0 k a1 a2 a3 (!t337) a0_0 l0_1) = some r := H
       have A20 := Aside0.mk A200
       clear A200
       as_aux_lemma =>
        have H' := Aside0.mk H
        clear H
        have hcz21_0 : w6.cell? ⟨gb332, 0, none⟩ = some (.int .i64 a0_0) := (blk_cell BK332.out 0).trans rfl
        have hcz21_1 : w6.cell? ⟨gb332, 1, none⟩ = some (.slice A0_1 l0_1.length c0_1) := (blk_cell BK332.out 1).trans rfl
        have hfz21_0 := blk_frozen BK332.out 0
        have hfz21_1 := blk_frozen BK332.out 1
        go_wp2_with (first | (go_at_call 10; (with_reducible refine (tellurionlaw04_slim.calls a0_0 _ _ l0_1 true _ ?side1 ?side2 A7.out).mono ?_); (case side1 => repeat (first | exact (Kd.C_below HR0_1.out HB.out) | (with_reducible refine Kd.C_alloc ?_ _) | (with_reducible refine Kd.C_drewN ?_ _) | (with_reducible refine Kd.C_drew ?_))); (case side2 => exact HC0_1.out); rintro e w22 ⟨rfl, hb⟩; have n0_ := Aside0.mk (blk_below (g := gb332) (o := .cells #[.int .i64 a0_0, .slice A0_1 l0_1.length c0_1] 24 (0, 0)) (by (with_reducible repeat (first | refine blk_drewN ?_ _ | refine blk_drew ?_ | refine blk_alloc ?_ _)); exact BK332.out) hb); have n1_ := Aside0.mk (below_step (by repeat (first | (with_reducible first | exact HB.out | apply below_alloc | apply pw_below_drewN | apply below_drew1 | refine below_set ?_ GE332.out) | exact HB.out)) hb); clear BK332; clear HB; have BK332 := n0_; have HB := n1_; clear n0_ n1_; (try clear hb); (try clear hb2); (try clear hk); (try clear hi); have hcz23_0 : w22.cell? ⟨gb332, 0, none⟩ = some (.int .i64 a0_0) := (blk_cell BK332.out 0).trans rfl; have hcz23_1 : w22.cell? ⟨gb332, 1, none⟩ = some (.slice A0_1 l0_1.length c0_1) := (blk_cell BK332.out 1).trans rfl; have hfz23_0 := blk_frozen BK332.out 0; have hfz23_1 := blk_frozen BK332.out 1) | (go_at_call 13; (with_reducible refine (tellurionref04_Motion.calls k a0_0 _ _ l0_1 true _ ?side1 ?side2 A9.out).mono ?_); (case side1 => repeat (first | exact (Kd.C_below HR0_1.out HB.out) | (with_reducible refine Kd.C_alloc ?_ _) | (with_reducible refine Kd.C_drewN ?_ _) | (with_reducible refine Kd.C_drew ?_))); (case side2 => exact HC0_1.out); rintro e w24 ⟨rfl, hb⟩; have n0_ := Aside0.mk (blk_below (g := gb332) (o := .cells #[.int .i64 a0_0, .slice A0_1 l0_1.length c0_1] 24 (0, 0)) (by (with_reducible repeat (first | refine blk_drewN ?_ _ | refine blk_drew ?_ | refine blk_alloc ?_ _)); exact BK332.out) hb); have n1_ := Aside0.mk (below_step (by repeat (first | (with_reducible first | exact HB.out | apply below_alloc | apply pw_below_drewN | apply below_drew1 | refine below_set ?_ GE332.out) | exact HB.out)) hb); clear BK332; clear HB; have BK332 := n0_; have HB := n1_; clear n0_ n1_; (try clear hb); (try clear hb2); (try clear hk); (try clear hi)) | (go_at_call 14; (with_reducible refine (tellurionref04_Time.calls a1 true _ A11.out).mono ?_); rintro e w' ⟨rfl, ⟨nd, rfl⟩⟩; (try first | exact ⟨rfl, _, World.drewN_drewN _ _ _⟩ | exact ⟨rfl, _, Eq.trans (World.drewN_drewN _ _ _) (congrArg (World.drewN _) (Nat.add_assoc _ _ _))⟩)) | (go_at_call 14; (with_reducible refine (tellurionref04_Time.calls a2 true _ A13.out).mono ?_); rintro e w' ⟨rfl, ⟨nd, rfl⟩⟩; (try first | exact ⟨rfl, _, World.drewN_drewN _ _ _⟩ | exact ⟨rfl, _, Eq.trans (World.drewN_drewN _ _ _) (congrArg (World.drewN _) (Nat.add_assoc _ _ _))⟩)) | (go_at_call 27; (with_reducible refine (tellurionref04_Spot.calls a3 t337 _ A20.out).mono ?_); rintro e w' ⟨rfl, ⟨nd, rfl⟩⟩; (try first | exact ⟨rfl, _, World.drewN_drewN _ _ _⟩ | exact ⟨rfl, _, Eq.trans (World.drewN_drewN _ _ _) (congrArg (World.drewN _) (Nat.add_assoc _ _ _))⟩)))
        repeat (go_quiet (first | (go_at_call 10; (with_reducible refine (tellurionlaw04_slim.calls a0_0 _ _ l0_1 true _ ?side1 ?side2 A7.out).mono ?_); (case side1 => repeat (first | exact (Kd.C_below HR0_1.out HB.out) | (with_reducible refine Kd.C_alloc ?_ _) | (with_reducible refine Kd.C_drewN ?_ _) | (with_reducible refine Kd.C_drew ?_))); (case side2 => exact HC0_1.out); rintro e w22 ⟨rfl, hb⟩; have n0_ := Aside0.mk (blk_below (g := gb332) (o := .cells #[.int .i64 a0_0, .slice A0_1 l0_1.length c0_1] 24 (0, 0)) (by (with_reducible repeat (first | refine blk_drewN ?_ _ | refine blk_drew ?_ | refine blk_alloc ?_ _)); exact BK332.out) hb); have n1_ := Aside0.mk (below_step (by repeat (first | (with_reducible first | exact HB.out | apply below_alloc | apply pw_below_drewN | apply below_drew1 | refine below_set ?_ GE332.out) | exact HB.out)) hb); clear BK332; clear HB; have BK332 := n0_; have HB := n1_; clear n0_ n1_; (try clear hb); (try clear hb2); (try clear hk); (try clear hi); have hcz23_0 : w22.cell? ⟨gb332, 0, none⟩ = some (.int .i64 a0_0) := (blk_cell BK332.out 0).trans rfl; have hcz23_1 : w22.cell? ⟨gb332, 1, none⟩ = some (.slice A0_1 l0_1.length c0_1) := (blk_cell BK332.out 1).trans rfl; have hfz23_0 := blk_frozen BK332.out 0; have hfz23_1 := blk_frozen BK332.out 1) | (go_at_call 13; (with_reducible refine (tellurionref04_Motion.calls k a0_0 _ _ l0_1 true _ ?side1 ?side2 A9.out).mono ?_); (case side1 => repeat (first | exact (Kd.C_below HR0_1.out HB.out) | (with_reducible refine Kd.C_alloc ?_ _) | (with_reducible refine Kd.C_drewN ?_ _) | (with_reducible refine Kd.C_drew ?_))); (case side2 => exact HC0_1.out); rintro e w24 ⟨rfl, hb⟩; have n0_ := Aside0.mk (blk_below (g := gb332) (o := .cells #[.int .i64 a0_0, .slice A0_1 l0_1.length c0_1] 24 (0, 0)) (by (with_reducible repeat (first | refine blk_drewN ?_ _ | refine blk_drew ?_ | refine blk_alloc ?_ _)); exact BK332.out) hb); have n1_ := Aside0.mk (below_step (by repeat (first | (with_reducible first | exact HB.out | apply below_alloc | apply pw_below_drewN | apply below_drew1 | refine below_set ?_ GE332.out) | exact HB.out)) hb); clear BK332; clear HB; have BK332 := n0_; have HB := n1_; clear n0_ n1_; (try clear hb); (try clear hb2); (try clear hk); (try clear hi)) | (go_at_call 14; (with_reducible refine (tellurionref04_Time.calls a1 true _ A11.out).mono ?_); rintro e w' ⟨rfl, ⟨nd, rfl⟩⟩; (try first | exact ⟨rfl, _, World.drewN_drewN _ _ _⟩ | exact ⟨rfl, _, Eq.trans (World.drewN_drewN _ _ _) (congrArg (World.drewN _) (Nat.add_assoc _ _ _))⟩)) | (go_at_call 14; (with_reducible refine (tellurionref04_Time.calls a2 true _ A13.out).mono ?_); rintro e w' ⟨rfl, ⟨nd, rfl⟩⟩; (try first | exact ⟨rfl, _, World.drewN_drewN _ _ _⟩ | exact ⟨rfl, _, Eq.trans (World.drewN_drewN _ _ _) (congrArg (World.drewN _) (Nat.add_assoc _ _ _))⟩)) | (go_at_call 27; (with_reducible refine (tellurionref04_Spot.calls a3 t337 _ A20.out).mono ?_); rintro e w' ⟨rfl, ⟨nd, rfl⟩⟩; (try first | exact ⟨rfl, _, World.drewN_drewN _ _ _⟩ | exact ⟨rfl, _, Eq.trans (World.drewN_drewN _ _ _) (congrArg (World.drewN _) (Nat.add_assoc _ _ _))⟩))); try go_wp2_with (first | (go_at_call 10; (with_reducible refine (tellurionlaw04_slim.calls a0_0 _ _ l0_1 true _ ?side1 ?side2 A7.out).mono ?_); (case side1 => repeat (first | exact (Kd.C_below HR0_1.out HB.out) | (with_reducible refine Kd.C_alloc ?_ _) | (with_reducible refine Kd.C_drewN ?_ _) | (with_reducible refine Kd.C_drew ?_))); (case side2 => exact HC0_1.out); rintro e w22 ⟨rfl, hb⟩; have n0_ := Aside0.mk (blk_below (g := gb332) (o := .cells #[.int .i64 a0_0, .slice A0_1 l0_1.length c0_1] 24 (0, 0)) (by (with_reducible repeat (first | refine blk_drewN ?_ _ | refine blk_drew ?_ | refine blk_alloc ?_ _)); exact BK332.out) hb); have n1_ := Aside0.mk (below_step (by repeat (first | (with_reducible first | exact HB.out | apply below_alloc | apply pw_below_drewN | apply below_drew1 | refine below_set ?_ GE332.out) | exact HB.out)) hb); clear BK332; clear HB; have BK332 := n0_; have HB := n1_; clear n0_ n1_; (try clear hb); (try clear hb2); (try clear hk); (try clear hi); have hcz23_0 : w22.cell? ⟨gb332, 0, none⟩ = some (.int .i64 a0_0) := (blk_cell BK332.out 0).trans rfl; have hcz23_1 : w22.cell? ⟨gb332, 1, none⟩ = some (.slice A0_1 l0_1.length c0_1) := (blk_cell BK332.out 1).trans rfl; have hfz23_0 := blk_frozen BK332.out 0; have hfz23_1 := blk_frozen BK332.out 1) | (go_at_call 13; (with_reducible refine (tellurionref04_Motion.calls k a0_0 _ _ l0_1 true _ ?side1 ?side2 A9.out).mono ?_); (case side1 => repeat (first | exact (Kd.C_below HR0_1.out HB.out) | (with_reducible refine Kd.C_alloc ?_ _) | (with_reducible refine Kd.C_drewN ?_ _) | (with_reducible refine Kd.C_drew ?_))); (case side2 => exact HC0_1.out); rintro e w24 ⟨rfl, hb⟩; have n0_ := Aside0.mk (blk_below (g := gb332) (o := .cells #[.int .i64 a0_0, .slice A0_1 l0_1.length c0_1] 24 (0, 0)) (by (with_reducible repeat (first | refine blk_drewN ?_ _ | refine blk_drew ?_ | refine blk_alloc ?_ _)); exact BK332.out) hb); have n1_ := Aside0.mk (below_step (by repeat (first | (with_reducible first | exact HB.out | apply below_alloc | apply pw_below_drewN | apply below_drew1 | refine below_set ?_ GE332.out) | exact HB.out)) hb); clear BK332; clear HB; have BK332 := n0_; have HB := n1_; clear n0_ n1_; (try clear hb); (try clear hb2); (try clear hk); (try clear hi)) | (go_at_call 14; (with_reducible refine (tellurionref04_Time.calls a1 true _ A11.out).mono ?_); rintro e w' ⟨rfl, ⟨nd, rfl⟩⟩; (try first | exact ⟨rfl, _, World.drewN_drewN _ _ _⟩ | exact ⟨rfl, _, Eq.trans (World.drewN_drewN _ _ _) (congrArg (World.drewN _) (Nat.add_assoc _ _ _))⟩)) | (go_at_call 14; (with_reducible refine (tellurionref04_Time.calls a2 true _ A13.out).mono ?_); rintro e w' ⟨rfl, ⟨nd, rfl⟩⟩; (try first | exact ⟨rfl, _, World.drewN_drewN _ _ _⟩ | exact ⟨rfl, _, Eq.trans (World.drewN_drewN _ _ _) (congrArg (World.drewN _) (Nat.add_assoc _ _ _))⟩)) | (go_at_call 27; (with_reducible refine (tellurionref04_Spot.calls a3 t337 _ A20.out).mono ?_); rintro e w' ⟨rfl, ⟨nd, rfl⟩⟩; (try first | exact ⟨rfl, _, World.drewN_drewN _ _ _⟩ | exact ⟨rfl, _, Eq.trans (World.drewN_drewN _ _ _) (congrArg (World.drewN _) (Nat.add_assoc _ _ _))⟩))))
        go_meet
        case rel => exact ⟨_, (!t337), (by first | rfl | (simp; done) | (simp [*]; done)), H', ⟨by first | omega | exact Nat.le_refl _⟩, ⟨by (with_reducible repeat (first | refine blk_drewN ?_ _ | refine blk_drew ?_ | refine blk_alloc ?_ _)); exact BK332.out⟩, ⟨by repeat (first | (with_reducible first | exact HB.out | apply below_alloc | apply pw_below_drewN | apply below_drew1 | refine below_set ?_ GE332.out) | exact HB.out)⟩⟩
     ·
      replace c14 := Bool.eq_false_iff.mpr c14
      subst c14
      have H1 : (tellurionlaw04_CamTurns.j0 k a1 a2 a3 true a0_0 l0_1) = some r := by rw [if_neg (show ¬ (false = true) by decide)] at H; exact H
      clear H
      have H := H1
      clear H1
      as_aux_lemma =>
       have H' := Aside0.mk H
       clear H
       have hcz25_0 : w6.cell? ⟨gb332, 0, none⟩ = some (.int .i64 a0_0) := (blk_cell BK332.out 0).trans rfl
       have hcz25_1 : w6.cell? ⟨gb332, 1, none⟩ = some (.slice A0_1 l0_1.length c0_1) := (blk_cell BK332.out 1).trans rfl
       have hfz25_0 := blk_frozen BK332.out 0
       have hfz25_1 := blk_frozen BK332.out 1
       go_wp2_with (first | (go_at_call 10; (with_reducible refine (tellurionlaw04_slim.calls a0_0 _ _ l0_1 true _ ?side1 ?side2 A7.out).mono ?_); (case side1 => repeat (first | exact (Kd.C_below HR0_1.out HB.out) | (with_reducible refine Kd.C_alloc ?_ _) | (with_reducible refine Kd.C_drewN ?_ _) | (with_reducible refine Kd.C_drew ?_))); (case side2 => exact HC0_1.out); rintro e w26 ⟨rfl, hb⟩; have n0_ := Aside0.mk (blk_below (g := gb332) (o := .cells #[.int .i64 a0_0, .slice A0_1 l0_1.length c0_1] 24 (0, 0)) (by (with_reducible repeat (first | refine blk_drewN ?_ _ | refine blk_drew ?_ | refine blk_alloc ?_ _)); exact BK332.out) hb); have n1_ := Aside0.mk (below_step (by repeat (first | (with_reducible first | exact HB.out | apply below_alloc | apply pw_below_drewN | apply below_drew1 | refine below_set ?_ GE332.out) | exact HB.out)) hb); clear BK332; clear HB; have BK332 := n0_; have HB := n1_; clear n0_ n1_; (try clear hb); (try clear hb2); (try clear hk); (try clear hi); have hcz27_0 : w26.cell? ⟨gb332, 0, none⟩ = some (.int .i64 a0_0) := (blk_cell BK332.out 0).trans rfl; have hcz27_1 : w26.cell? ⟨gb332, 1, none⟩ = some (.slice A0_1 l0_1.length c0_1) := (blk_cell BK332.out 1).trans rfl; have hfz27_0 := blk_frozen BK332.out 0; have hfz27_1 := blk_frozen BK332.out 1) | (go_at_call 13; (with_reducible refine (tellurionref04_Motion.calls k a0_0 _ _ l0_1 true _ ?side1 ?side2 A9.out).mono ?_); (case side1 => repeat (first | exact (Kd.C_below HR0_1.out HB.out) | (with_reducible refine Kd.C_alloc ?_ _) | (with_reducible refine Kd.C_drewN ?_ _) | (with_reducible refine Kd.C_drew ?_))); (case side2 => exact HC0_1.out); rintro e w28 ⟨rfl, hb⟩; have n0_ := Aside0.mk (blk_below (g := gb332) (o := .cells #[.int .i64 a0_0, .slice A0_1 l0_1.length c0_1] 24 (0, 0)) (by (with_reducible repeat (first | refine blk_drewN ?_ _ | refine blk_drew ?_ | refine blk_alloc ?_ _)); exact BK332.out) hb); have n1_ := Aside0.mk (below_step (by repeat (first | (with_reducible first | exact HB.out | apply below_alloc | apply pw_below_drewN | apply below_drew1 | refine below_set ?_ GE332.out) | exact HB.out)) hb); clear BK332; clear HB; have BK332 := n0_; have HB := n1_; clear n0_ n1_; (try clear hb); (try clear hb2); (try clear hk); (try clear hi)) | (go_at_call 14; (with_reducible refine (tellurionref04_Time.calls a1 true _ A11.out).mono ?_); rintro e w' ⟨rfl, ⟨nd, rfl⟩⟩; (try first | exact ⟨rfl, _, World.drewN_drewN _ _ _⟩ | exact ⟨rfl, _, Eq.trans (World.drewN_drewN _ _ _) (congrArg (World.drewN _) (Nat.add_assoc _ _ _))⟩)) | (go_at_call 14; (with_reducible refine (tellurionref04_Time.calls a2 false _ A13.out).mono ?_); rintro e w' ⟨rfl, ⟨nd, rfl⟩⟩; (try first | exact ⟨rfl, _, World.drewN_drewN _ _ _⟩ | exact ⟨rfl, _, Eq.trans (World.drewN_drewN _ _ _) (congrArg (World.drewN _) (Nat.add_assoc _ _ _))⟩)))
       repeat (go_quiet (first | (go_at_call 10; (with_reducible refine (tellurionlaw04_slim.calls a0_0 _ _ l0_1 true _ ?side1 ?side2 A7.out).mono ?_); (case side1 => repeat (first | exact (Kd.C_below HR0_1.out HB.out) | (with_reducible refine Kd.C_alloc ?_ _) | (with_reducible refine Kd.C_drewN ?_ _) | (with_reducible refine Kd.C_drew ?_))); (case side2 => exact HC0_1.out); rintro e w26 ⟨rfl, hb⟩; have n0_ := Aside0.mk (blk_below (g := gb332) (o := .cells #[.int .i64 a0_0, .slice A0_1 l0_1.length c0_1] 24 (0, 0)) (by (with_reducible repeat (first | refine blk_drewN ?_ _ | refine blk_drew ?_ | refine blk_alloc ?_ _)); exact BK332.out) hb); have n1_ := Aside0.mk (below_step (by repeat (first | (with_reducible first | exact HB.out | apply below_alloc | apply pw_below_drewN | apply below_drew1 | refine below_set ?_ GE332.out) | exact HB.out)) hb); clear BK332; clear HB; have BK332 := n0_; have HB := n1_; clear n0_ n1_; (try clear hb); (try clear hb2); (try clear hk); (try clear hi); have hcz27_0 : w26.cell? ⟨gb332, 0, none⟩ = some (.int .i64 a0_0) := (blk_cell BK332.out 0).trans rfl; have hcz27_1 : w26.cell? ⟨gb332, 1, none⟩ = some (.slice A0_1 l0_1.length c0_1) := (blk_cell BK332.out 1).trans rfl; have hfz27_0 := blk_frozen BK332.out 0; have hfz27_1 := blk_frozen BK332.out 1) | (go_at_call 13; (with_reducible refine (tellurionref04_Motion.calls k a0_0 _ _ l0_1 true _ ?side1 ?side2 A9.out).mono ?_); (case side1 => repeat (first | exact (Kd.C_below HR0_1.out HB.out) | (with_reducible refine Kd.C_alloc ?_ _) | (with_reducible refine Kd.C_drewN ?_ _) | (with_reducible refine Kd.C_drew ?_))); (case side2 => exact HC0_1.out); rintro e w28 ⟨rfl, hb⟩; have n0_ := Aside0.mk (blk_below (g := gb332) (o := .cells #[.int .i64 a0_0, .slice A0_1 l0_1.length c0_1] 24 (0, 0)) (by (with_reducible repeat (first | refine blk_drewN ?_ _ | refine blk_drew ?_ | refine blk_alloc ?_ _)); exact BK332.out) hb); have n1_ := Aside0.mk (below_step (by repeat (first | (with_reducible first | exact HB.out | apply below_alloc | apply pw_below_drewN | apply below_drew1 | refine below_set ?_ GE332.out) | exact HB.out)) hb); clear BK332; clear HB; have BK332 := n0_; have HB := n1_; clear n0_ n1_; (try clear hb); (try clear hb2); (try clear hk); (try clear hi)) | (go_at_call 14; (with_reducible refine (tellurionref04_Time.calls a1 true _ A11.out).mono ?_); rintro e w' ⟨rfl, ⟨nd, rfl⟩⟩; (try first | exact ⟨rfl, _, World.drewN_drewN _ _ _⟩ | exact ⟨rfl, _, Eq.trans (World.drewN_drewN _ _ _) (congrArg (World.drewN _) (Nat.add_assoc _ _ _))⟩)) | (go_at_call 14; (with_reducible refine (tellurionref04_Time.calls a2 false _ A13.out).mono ?_); rintro e w' ⟨rfl, ⟨nd, rfl⟩⟩; (try first | exact ⟨rfl, _, World.drewN_drewN _ _ _⟩ | exact ⟨rfl, _, Eq.trans (World.drewN_drewN _ _ _) (congrArg (World.drewN _) (Nat.add_assoc _ _ _))⟩))); try go_wp2_with (first | (go_at_call 10; (with_reducible refine (tellurionlaw04_slim.calls a0_0 _ _ l0_1 true _ ?side1 ?side2 A7.out).mono ?_); (case side1 => repeat (first | exact (Kd.C_below HR0_1.out HB.out) | (with_reducible refine Kd.C_alloc ?_ _) | (with_reducible refine Kd.C_drewN ?_ _) | (with_reducible refine Kd.C_drew ?_))); (case side2 => exact HC0_1.out); rintro e w26 ⟨rfl, hb⟩; have n0_ := Aside0.mk (blk_below (g := gb332) (o := .cells #[.int .i64 a0_0, .slice A0_1 l0_1.length c0_1] 24 (0, 0)) (by (with_reducible repeat (first | refine blk_drewN ?_ _ | refine blk_drew ?_ | refine blk_alloc ?_ _)); exact BK332.out) hb); have n1_ := Aside0.mk (below_step (by repeat (first | (with_reducible first | exact HB.out | apply below_alloc | apply pw_below_drewN | apply below_drew1 | refine below_set ?_ GE332.out) | exact HB.out)) hb); clear BK332; clear HB; have BK332 := n0_; have HB := n1_; clear n0_ n1_; (try clear hb); (try clear hb2); (try clear hk); (try clear hi); have hcz27_0 : w26.cell? ⟨gb332, 0, none⟩ = some (.int .i64 a0_0) := (blk_cell BK332.out 0).trans rfl; have hcz27_1 : w26.cell? ⟨gb332, 1, none⟩ = some (.slice A0_1 l0_1.length c0_1) := (blk_cell BK332.out 1).trans rfl; have hfz27_0 := blk_frozen BK332.out 0; have hfz27_1 := blk_frozen BK332.out 1) | (go_at_call 13; (with_reducible refine (tellurionref04_Motion.calls k a0_0 _ _ l0_1 true _ ?side1 ?side2 A9.out).mono ?_); (case side1 => repeat (first | exact (Kd.C_below HR0_1.out HB.out) | (with_reducible refine Kd.C_alloc ?_ _) | (with_reducible refine Kd.C_drewN ?_ _) | (with_reducible refine Kd.C_drew ?_))); (case side2 => exact HC0_1.out); rintro e w28 ⟨rfl, hb⟩; have n0_ := Aside0.mk (blk_below (g := gb332) (o := .cells #[.int .i64 a0_0, .slice A0_1 l0_1.length c0_1] 24 (0, 0)) (by (with_reducible repeat (first | refine blk_drewN ?_ _ | refine blk_drew ?_ | refine blk_alloc ?_ _)); exact BK332.out) hb); have n1_ := Aside0.mk (below_step (by repeat (first | (with_reducible first | exact HB.out | apply below_alloc | apply pw_below_drewN | apply below_drew1 | refine below_set ?_ GE332.out) | exact HB.out)) hb); clear BK332; clear HB; have BK332 := n0_; have HB := n1_; clear n0_ n1_; (try clear hb); (try clear hb2); (try clear hk); (try clear hi)) | (go_at_call 14; (with_reducible refine (tellurionref04_Time.calls a1 true _ A11.out).mono ?_); rintro e w' ⟨rfl, ⟨nd, rfl⟩⟩; (try first | exact ⟨rfl, _, World.drewN_drewN _ _ _⟩ | exact ⟨rfl, _, Eq.trans (World.drewN_drewN _ _ _) (congrArg (World.drewN _) (Nat.add_assoc _ _ _))⟩)) | (go_at_call 14; (with_reducible refine (tellurionref04_Time.calls a2 false _ A13.out).mono ?_); rintro e w' ⟨rfl, ⟨nd, rfl⟩⟩; (try first | exact ⟨rfl, _, World.drewN_drewN _ _ _⟩ | exact ⟨rfl, _, Eq.trans (World.drewN_drewN _ _ _) (congrArg (World.drewN _) (Nat.add_assoc _ _ _))⟩))))
       go_meet
       case rel => exact ⟨_, (true), (by first | rfl | (simp; done) | (simp [*]; done)), H', ⟨by first | omega | exact Nat.le_refl _⟩, ⟨by (with_reducible repeat (first | refine blk_drewN ?_ _ | refine blk_drew ?_ | refine blk_alloc ?_ _)); exact BK332.out⟩, ⟨by repeat (first | (with_reducible first | exact HB.out | apply below_alloc | apply pw_below_drewN | apply below_drew1 | refine below_set ?_ GE332.out) | exact HB.out)⟩⟩
    ·
     replace c12 := Bool.eq_false_iff.mpr c12
     subst c12
     have H1 : (tellurionlaw04_CamTurns.j0 k a1 a2 a3 true a0_0 l0_1) = some r := by rw [if_neg (show ¬ (false = true) by decide)] at H; exact H
     clear H
     have H := H1
     clear H1
     as_aux_lemma =>
      have H' := Aside0.mk H
      clear H
      have hcz29_0 : w6.cell? ⟨gb332, 0, none⟩ = some (.int .i64 a0_0) := (blk_cell BK332.out 0).trans rfl
      have hcz29_1 : w6.cell? ⟨gb332, 1, none⟩ = some (.slice A0_1 l0_1.length c0_1) := (blk_cell BK332.out 1).trans rfl
      have hfz29_0 := blk_frozen BK332.out 0
      have hfz29_1 := blk_frozen BK332.out 1
      go_wp2_with (first | (go_at_call 10; (with_reducible refine (tellurionlaw04_slim.calls a0_0 _ _ l0_1 true _ ?side1 ?side2 A7.out).mono ?_); (case side1 => repeat (first | exact (Kd.C_below HR0_1.out HB.out) | (with_reducible refine Kd.C_alloc ?_ _) | (with_reducible refine Kd.C_drewN ?_ _) | (with_reducible refine Kd.C_drew ?_))); (case side2 => exact HC0_1.out); rintro e w30 ⟨rfl, hb⟩; have n0_ := Aside0.mk (blk_below (g := gb332) (o := .cells #[.int .i64 a0_0, .slice A0_1 l0_1.length c0_1] 24 (0, 0)) (by (with_reducible repeat (first | refine blk_drewN ?_ _ | refine blk_drew ?_ | refine blk_alloc ?_ _)); exact BK332.out) hb); have n1_ := Aside0.mk (below_step (by repeat (first | (with_reducible first | exact HB.out | apply below_alloc | apply pw_below_drewN | apply below_drew1 | refine below_set ?_ GE332.out) | exact HB.out)) hb); clear BK332; clear HB; have BK332 := n0_; have HB := n1_; clear n0_ n1_; (try clear hb); (try clear hb2); (try clear hk); (try clear hi); have hcz31_0 : w30.cell? ⟨gb332, 0, none⟩ = some (.int .i64 a0_0) := (blk_cell BK332.out 0).trans rfl; have hcz31_1 : w30.cell? ⟨gb332, 1, none⟩ = some (.slice A0_1 l0_1.length c0_1) := (blk_cell BK332.out 1).trans rfl; have hfz31_0 := blk_frozen BK332.out 0; have hfz31_1 := blk_frozen BK332.out 1) | (go_at_call 13; (with_reducible refine (tellurionref04_Motion.calls k a0_0 _ _ l0_1 true _ ?side1 ?side2 A9.out).mono ?_); (case side1 => repeat (first | exact (Kd.C_below HR0_1.out HB.out) | (with_reducible refine Kd.C_alloc ?_ _) | (with_reducible refine Kd.C_drewN ?_ _) | (with_reducible refine Kd.C_drew ?_))); (case side2 => exact HC0_1.out); rintro e w32 ⟨rfl, hb⟩; have n0_ := Aside0.mk (blk_below (g := gb332) (o := .cells #[.int .i64 a0_0, .slice A0_1 l0_1.length c0_1] 24 (0, 0)) (by (with_reducible repeat (first | refine blk_drewN ?_ _ | refine blk_drew ?_ | refine blk_alloc ?_ _)); exact BK332.out) hb); have n1_ := Aside0.mk (below_step (by repeat (first | (with_reducible first | exact HB.out | apply below_alloc | apply pw_below_drewN | apply below_drew1 | refine below_set ?_ GE332.out) | exact HB.out)) hb); clear BK332; clear HB; have BK332 := n0_; have HB := n1_; clear n0_ n1_; (try clear hb); (try clear hb2); (try clear hk); (try clear hi)) | (go_at_call 14; (with_reducible refine (tellurionref04_Time.calls a1 false _ A11.out).mono ?_); rintro e w' ⟨rfl, ⟨nd, rfl⟩⟩; (try first | exact ⟨rfl, _, World.drewN_drewN _ _ _⟩ | exact ⟨rfl, _, Eq.trans (World.drewN_drewN _ _ _) (congrArg (World.drewN _) (Nat.add_assoc _ _ _))⟩)))
      repeat (go_quiet (first | (go_at_call 10; (with_reducible refine (tellurionlaw04_slim.calls a0_0 _ _ l0_1 true _ ?side1 ?side2 A7.out).mono ?_); (case side1 => repeat (first | exact (Kd.C_below HR0_1.out HB.out) | (with_reducible refine Kd.C_alloc ?_ _) | (with_reducible refine Kd.C_drewN ?_ _) | (with_reducible refine Kd.C_drew ?_))); (case side2 => exact HC0_1.out); rintro e w30 ⟨rfl, hb⟩; have n0_ := Aside0.mk (blk_below (g := gb332) (o := .cells #[.int .i64 a0_0, .slice A0_1 l0_1.length c0_1] 24 (0, 0)) (by (with_reducible repeat (first | refine blk_drewN ?_ _ | refine blk_drew ?_ | refine blk_alloc ?_ _)); exact BK332.out) hb); have n1_ := Aside0.mk (below_step (by repeat (first | (with_reducible first | exact HB.out | apply below_alloc | apply pw_below_drewN | apply below_drew1 | refine below_set ?_ GE332.out) | exact HB.out)) hb); clear BK332; clear HB; have BK332 := n0_; have HB := n1_; clear n0_ n1_; (try clear hb); (try clear hb2); (try clear hk); (try clear hi); have hcz31_0 : w30.cell? ⟨gb332, 0, none⟩ = some (.int .i64 a0_0) := (blk_cell BK332.out 0).trans rfl; have hcz31_1 : w30.cell? ⟨gb332, 1, none⟩ = some (.slice A0_1 l0_1.length c0_1) := (blk_cell BK332.out 1).trans rfl; have hfz31_0 := blk_frozen BK332.out 0; have hfz31_1 := blk_frozen BK332.out 1) | (go_at_call 13; (with_reducible refine (tellurionref04_Motion.calls k a0_0 _ _ l0_1 true _ ?side1 ?side2 A9.out).mono ?_); (case side1 => repeat (first | exact (Kd.C_below HR0_1.out HB.out) | (with_reducible refine Kd.C_alloc ?_ _) | (with_reducible refine Kd.C_drewN ?_ _) | (with_reducible refine Kd.C_drew ?_))); (case side2 => exact HC0_1.out); rintro e w32 ⟨rfl, hb⟩; have n0_ := Aside0.mk (blk_below (g := gb332) (o := .cells #[.int .i64 a0_0, .slice A0_1 l0_1.length c0_1] 24 (0, 0)) (by (with_reducible repeat (first | refine blk_drewN ?_ _ | refine blk_drew ?_ | refine blk_alloc ?_ _)); exact BK332.out) hb); have n1_ := Aside0.mk (below_step (by repeat (first | (with_reducible first | exact HB.out | apply below_alloc | apply pw_below_drewN | apply below_drew1 | refine below_set ?_ GE332.out) | exact HB.out)) hb); clear BK332; clear HB; have BK332 := n0_; have HB := n1_; clear n0_ n1_; (try clear hb); (try clear hb2); (try clear hk); (try clear hi)) | (go_at_call 14; (with_reducible refine (tellurionref04_Time.calls a1 false _ A11.out).mono ?_); rintro e w' ⟨rfl, ⟨nd, rfl⟩⟩; (try first | exact ⟨rfl, _, World.drewN_drewN _ _ _⟩ | exact ⟨rfl, _, Eq.trans (World.drewN_drewN _ _ _) (congrArg (World.drewN _) (Nat.add_assoc _ _ _))⟩))); try go_wp2_with (first | (go_at_call 10; (with_reducible refine (tellurionlaw04_slim.calls a0_0 _ _ l0_1 true _ ?side1 ?side2 A7.out).mono ?_); (case side1 => repeat (first | exact (Kd.C_below HR0_1.out HB.out) | (with_reducible refine Kd.C_alloc ?_ _) | (with_reducible refine Kd.C_drewN ?_ _) | (with_reducible refine Kd.C_drew ?_))); (case side2 => exact HC0_1.out); rintro e w30 ⟨rfl, hb⟩; have n0_ := Aside0.mk (blk_below (g := gb332) (o := .cells #[.int .i64 a0_0, .slice A0_1 l0_1.length c0_1] 24 (0, 0)) (by (with_reducible repeat (first | refine blk_drewN ?_ _ | refine blk_drew ?_ | refine blk_alloc ?_ _)); exact BK332.out) hb); have n1_ := Aside0.mk (below_step (by repeat (first | (with_reducible first | exact HB.out | apply below_alloc | apply pw_below_drewN | apply below_drew1 | refine below_set ?_ GE332.out) | exact HB.out)) hb); clear BK332; clear HB; have BK332 := n0_; have HB := n1_; clear n0_ n1_; (try clear hb); (try clear hb2); (try clear hk); (try clear hi); have hcz31_0 : w30.cell? ⟨gb332, 0, none⟩ = some (.int .i64 a0_0) := (blk_cell BK332.out 0).trans rfl; have hcz31_1 : w30.cell? ⟨gb332, 1, none⟩ = some (.slice A0_1 l0_1.length c0_1) := (blk_cell BK332.out 1).trans rfl; have hfz31_0 := blk_frozen BK332.out 0; have hfz31_1 := blk_frozen BK332.out 1) | (go_at_call 13; (with_reducible refine (tellurionref04_Motion.calls k a0_0 _ _ l0_1 true _ ?side1 ?side2 A9.out).mono ?_); (case side1 => repeat (first | exact (Kd.C_below HR0_1.out HB.out) | (with_reducible refine Kd.C_alloc ?_ _) | (with_reducible refine Kd.C_drewN ?_ _) | (with_reducible refine Kd.C_drew ?_))); (case side2 => exact HC0_1.out); rintro e w32 ⟨rfl, hb⟩; have n0_ := Aside0.mk (blk_below (g := gb332) (o := .cells #[.int .i64 a0_0, .slice A0_1 l0_1.length c0_1] 24 (0, 0)) (by (with_reducible repeat (first | refine blk_drewN ?_ _ | refine blk_drew ?_ | refine blk_alloc ?_ _)); exact BK332.out) hb); have n1_ := Aside0.mk (below_step (by repeat (first | (with_reducible first | exact HB.out | apply below_alloc | apply pw_below_drewN | apply below_drew1 | refine below_set ?_ GE332.out) | exact HB.out)) hb); clear BK332; clear HB; have BK332 := n0_; have HB := n1_; clear n0_ n1_; (try clear hb); (try clear hb2); (try clear hk); (try clear hi)) | (go_at_call 14; (with_reducible refine (tellurionref04_Time.calls a1 false _ A11.out).mono ?_); rintro e w' ⟨rfl, ⟨nd, rfl⟩⟩; (try first | exact ⟨rfl, _, World.drewN_drewN _ _ _⟩ | exact ⟨rfl, _, Eq.trans (World.drewN_drewN _ _ _) (congrArg (World.drewN _) (Nat.add_assoc _ _ _))⟩))))
      go_meet
      case rel => exact ⟨_, (true), (by first | rfl | (simp; done) | (simp [*]; done)), H', ⟨by first | omega | exact Nat.le_refl _⟩, ⟨by (with_reducible repeat (first | refine blk_drewN ?_ _ | refine blk_drew ?_ | refine blk_alloc ?_ _)); exact BK332.out⟩, ⟨by repeat (first | (with_reducible first | exact HB.out | apply below_alloc | apply pw_below_drewN | apply below_drew1 | refine below_set ?_ GE332.out) | exact HB.out)⟩⟩
   ·
    replace c10 := Bool.eq_false_iff.mpr c10
    subst c10
    have H1 : (tellurionlaw04_CamTurns.j0 k a1 a2 a3 true a0_0 l0_1) = some r := by rw [if_neg (show ¬ (false = true) by decide)] at H; exact H
    clear H
    have H := H1
    clear H1
    as_aux_lemma =>
     have H' := Aside0.mk H
     clear H
     have hcz33_0 : w6.cell? ⟨gb332, 0, none⟩ = some (.int .i64 a0_0) := (blk_cell BK332.out 0).trans rfl
     have hcz33_1 : w6.cell? ⟨gb332, 1, none⟩ = some (.slice A0_1 l0_1.length c0_1) := (blk_cell BK332.out 1).trans rfl
     have hfz33_0 := blk_frozen BK332.out 0
     have hfz33_1 := blk_frozen BK332.out 1
     go_wp2_with (first | (go_at_call 10; (with_reducible refine (tellurionlaw04_slim.calls a0_0 _ _ l0_1 true _ ?side1 ?side2 A7.out).mono ?_); (case side1 => repeat (first | exact (Kd.C_below HR0_1.out HB.out) | (with_reducible refine Kd.C_alloc ?_ _) | (with_reducible refine Kd.C_drewN ?_ _) | (with_reducible refine Kd.C_drew ?_))); (case side2 => exact HC0_1.out); rintro e w34 ⟨rfl, hb⟩; have n0_ := Aside0.mk (blk_below (g := gb332) (o := .cells #[.int .i64 a0_0, .slice A0_1 l0_1.length c0_1] 24 (0, 0)) (by (with_reducible repeat (first | refine blk_drewN ?_ _ | refine blk_drew ?_ | refine blk_alloc ?_ _)); exact BK332.out) hb); have n1_ := Aside0.mk (below_step (by repeat (first | (with_reducible first | exact HB.out | apply below_alloc | apply pw_below_drewN | apply below_drew1 | refine below_set ?_ GE332.out) | exact HB.out)) hb); clear BK332; clear HB; have BK332 := n0_; have HB := n1_; clear n0_ n1_; (try clear hb); (try clear hb2); (try clear hk); (try clear hi); have hcz35_0 : w34.cell? ⟨gb332, 0, none⟩ = some (.int .i64 a0_0) := (blk_cell BK332.out 0).trans rfl; have hcz35_1 : w34.cell? ⟨gb332, 1, none⟩ = some (.slice A0_1 l0_1.length c0_1) := (blk_cell BK332.out 1).trans rfl; have hfz35_0 := blk_frozen BK332.out 0; have hfz35_1 := blk_frozen BK332.out 1) | (go_at_call 13; (with_reducible refine (tellurionref04_Motion.calls k a0_0 _ _ l0_1 false _ ?side1 ?side2 A9.out).mono ?_); (case side1 => repeat (first | exact (Kd.C_below HR0_1.out HB.out) | (with_reducible refine Kd.C_alloc ?_ _) | (with_reducible refine Kd.C_drewN ?_ _) | (with_reducible refine Kd.C_drew ?_))); (case side2 => exact HC0_1.out); rintro e w36 ⟨rfl, hb⟩; have n0_ := Aside0.mk (blk_below (g := gb332) (o := .cells #[.int .i64 a0_0, .slice A0_1 l0_1.length c0_1] 24 (0, 0)) (by (with_reducible repeat (first | refine blk_drewN ?_ _ | refine blk_drew ?_ | refine blk_alloc ?_ _)); exact BK332.out) hb); have n1_ := Aside0.mk (below_step (by repeat (first | (with_reducible first | exact HB.out | apply below_alloc | apply pw_below_drewN | apply below_drew1 | refine below_set ?_ GE332.out) | exact HB.out)) hb); clear BK332; clear HB; have BK332 := n0_; have HB := n1_; clear n0_ n1_; (try clear hb); (try clear hb2); (try clear hk); (try clear hi)))
     repeat (go_quiet (first | (go_at_call 10; (with_reducible refine (tellurionlaw04_slim.calls a0_0 _ _ l0_1 true _ ?side1 ?side2 A7.out).mono ?_); (case side1 => repeat (first | exact (Kd.C_below HR0_1.out HB.out) | (with_reducible refine Kd.C_alloc ?_ _) | (with_reducible refine Kd.C_drewN ?_ _) | (with_reducible refine Kd.C_drew ?_))); (case side2 => exact HC0_1.out); rintro e w34 ⟨rfl, hb⟩; have n0_ := Aside0.mk (blk_below (g := gb332) (o := .cells #[.int .i64 a0_0, .slice A0_1 l0_1.length c0_1] 24 (0, 0)) (by (with_reducible repeat (first | refine blk_drewN ?_ _ | refine blk_drew ?_ | refine blk_alloc ?_ _)); exact BK332.out) hb); have n1_ := Aside0.mk (below_step (by repeat (first | (with_reducible first | exact HB.out | apply below_alloc | apply pw_below_drewN | apply below_drew1 | refine below_set ?_ GE332.out) | exact HB.out)) hb); clear BK332; clear HB; have BK332 := n0_; have HB := n1_; clear n0_ n1_; (try clear hb); (try clear hb2); (try clear hk); (try clear hi); have hcz35_0 : w34.cell? ⟨gb332, 0, none⟩ = some (.int .i64 a0_0) := (blk_cell BK332.out 0).trans rfl; have hcz35_1 : w34.cell? ⟨gb332, 1, none⟩ = some (.slice A0_1 l0_1.length c0_1) := (blk_cell BK332.out 1).trans rfl; have hfz35_0 := blk_frozen BK332.out 0; have hfz35_1 := blk_frozen BK332.out 1) | (go_at_call 13; (with_reducible refine (tellurionref04_Motion.calls k a0_0 _ _ l0_1 false _ ?side1 ?side2 A9.out).mono ?_); (case side1 => repeat (first | exact (Kd.C_below HR0_1.out HB.out) | (with_reducible refine Kd.C_alloc ?_ _) | (with_reducible refine Kd.C_drewN ?_ _) | (with_reducible refine Kd.C_drew ?_))); (case side2 => exact HC0_1.out); rintro e w36 ⟨rfl, hb⟩; have n0_ := Aside0.mk (blk_below (g := gb332) (o := .cells #[.int .i64 a0_0, .slice A0_1 l0_1.length c0_1] 24 (0, 0)) (by (with_reducible repeat (first | refine blk_drewN ?_ _ | refine blk_drew ?_ | refine blk_alloc ?_ _)); exact BK332.out) hb); have n1_ := Aside0.mk (below_step (by repeat (first | (with_reducible first | exact HB.out | apply below_alloc | apply pw_below_drewN | apply below_drew1 | refine below_set ?_ GE332.out) | exact HB.out)) hb); clear BK332; clear HB; have BK332 := n0_; have HB := n1_; clear n0_ n1_; (try clear hb); (try clear hb2); (try clear hk); (try clear hi))); try go_wp2_with (first | (go_at_call 10; (with_reducible refine (tellurionlaw04_slim.calls a0_0 _ _ l0_1 true _ ?side1 ?side2 A7.out).mono ?_); (case side1 => repeat (first | exact (Kd.C_below HR0_1.out HB.out) | (with_reducible refine Kd.C_alloc ?_ _) | (with_reducible refine Kd.C_drewN ?_ _) | (with_reducible refine Kd.C_drew ?_))); (case side2 => exact HC0_1.out); rintro e w34 ⟨rfl, hb⟩; have n0_ := Aside0.mk (blk_below (g := gb332) (o := .cells #[.int .i64 a0_0, .slice A0_1 l0_1.length c0_1] 24 (0, 0)) (by (with_reducible repeat (first | refine blk_drewN ?_ _ | refine blk_drew ?_ | refine blk_alloc ?_ _)); exact BK332.out) hb); have n1_ := Aside0.mk (below_step (by repeat (first | (with_reducible first | exact HB.out | apply below_alloc | apply pw_below_drewN | apply below_drew1 | refine below_set ?_ GE332.out) | exact HB.out)) hb); clear BK332; clear HB; have BK332 := n0_; have HB := n1_; clear n0_ n1_; (try clear hb); (try clear hb2); (try clear hk); (try clear hi); have hcz35_0 : w34.cell? ⟨gb332, 0, none⟩ = some (.int .i64 a0_0) := (blk_cell BK332.out 0).trans rfl; have hcz35_1 : w34.cell? ⟨gb332, 1, none⟩ = some (.slice A0_1 l0_1.length c0_1) := (blk_cell BK332.out 1).trans rfl; have hfz35_0 := blk_frozen BK332.out 0; have hfz35_1 := blk_frozen BK332.out 1) | (go_at_call 13; (with_reducible refine (tellurionref04_Motion.calls k a0_0 _ _ l0_1 false _ ?side1 ?side2 A9.out).mono ?_); (case side1 => repeat (first | exact (Kd.C_below HR0_1.out HB.out) | (with_reducible refine Kd.C_alloc ?_ _) | (with_reducible refine Kd.C_drewN ?_ _) | (with_reducible refine Kd.C_drew ?_))); (case side2 => exact HC0_1.out); rintro e w36 ⟨rfl, hb⟩; have n0_ := Aside0.mk (blk_below (g := gb332) (o := .cells #[.int .i64 a0_0, .slice A0_1 l0_1.length c0_1] 24 (0, 0)) (by (with_reducible repeat (first | refine blk_drewN ?_ _ | refine blk_drew ?_ | refine blk_alloc ?_ _)); exact BK332.out) hb); have n1_ := Aside0.mk (below_step (by repeat (first | (with_reducible first | exact HB.out | apply below_alloc | apply pw_below_drewN | apply below_drew1 | refine below_set ?_ GE332.out) | exact HB.out)) hb); clear BK332; clear HB; have BK332 := n0_; have HB := n1_; clear n0_ n1_; (try clear hb); (try clear hb2); (try clear hk); (try clear hi))))
     go_meet
     case rel => exact ⟨_, (true), (by first | rfl | (simp; done) | (simp [*]; done)), H', ⟨by first | omega | exact Nat.le_refl _⟩, ⟨by (with_reducible repeat (first | refine blk_drewN ?_ _ | refine blk_drew ?_ | refine blk_alloc ?_ _)); exact BK332.out⟩, ⟨by repeat (first | (with_reducible first | exact HB.out | apply below_alloc | apply pw_below_drewN | apply below_drew1 | refine below_set ?_ GE332.out) | exact HB.out)⟩⟩
  ·
   replace c8 := Bool.eq_false_iff.mpr c8
   subst c8
   have H1 : (tellurionlaw04_CamTurns.j0 k a1 a2 a3 true a0_0 l0_1) = some r := by rw [if_neg (show ¬ (false = true) by decide)] at H; exact H
   clear H
   have H := H1
   clear H1
   as_aux_lemma =>
    have H' := Aside0.mk H
    clear H
    have hcz37_0 : w6.cell? ⟨gb332, 0, none⟩ = some (.int .i64 a0_0) := (blk_cell BK332.out 0).trans rfl
    have hcz37_1 : w6.cell? ⟨gb332, 1, none⟩ = some (.slice A0_1 l0_1.length c0_1) := (blk_cell BK332.out 1).trans rfl
    have hfz37_0 := blk_frozen BK332.out 0
    have hfz37_1 := blk_frozen BK332.out 1
    go_wp2_with (first | (go_at_call 10; (with_reducible refine (tellurionlaw04_slim.calls a0_0 _ _ l0_1 false _ ?side1 ?side2 A7.out).mono ?_); (case side1 => repeat (first | exact (Kd.C_below HR0_1.out HB.out) | (with_reducible refine Kd.C_alloc ?_ _) | (with_reducible refine Kd.C_drewN ?_ _) | (with_reducible refine Kd.C_drew ?_))); (case side2 => exact HC0_1.out); rintro e w38 ⟨rfl, hb⟩; have n0_ := Aside0.mk (blk_below (g := gb332) (o := .cells #[.int .i64 a0_0, .slice A0_1 l0_1.length c0_1] 24 (0, 0)) (by (with_reducible repeat (first | refine blk_drewN ?_ _ | refine blk_drew ?_ | refine blk_alloc ?_ _)); exact BK332.out) hb); have n1_ := Aside0.mk (below_step (by repeat (first | (with_reducible first | exact HB.out | apply below_alloc | apply pw_below_drewN | apply below_drew1 | refine below_set ?_ GE332.out) | exact HB.out)) hb); clear BK332; clear HB; have BK332 := n0_; have HB := n1_; clear n0_ n1_; (try clear hb); (try clear hb2); (try clear hk); (try clear hi)))
    repeat (go_quiet (first | (go_at_call 10; (with_reducible refine (tellurionlaw04_slim.calls a0_0 _ _ l0_1 false _ ?side1 ?side2 A7.out).mono ?_); (case side1 => repeat (first | exact (Kd.C_below HR0_1.out HB.out) | (with_reducible refine Kd.C_alloc ?_ _) | (with_reducible refine Kd.C_drewN ?_ _) | (with_reducible refine Kd.C_drew ?_))); (case side2 => exact HC0_1.out); rintro e w38 ⟨rfl, hb⟩; have n0_ := Aside0.mk (blk_below (g := gb332) (o := .cells #[.int .i64 a0_0, .slice A0_1 l0_1.length c0_1] 24 (0, 0)) (by (with_reducible repeat (first | refine blk_drewN ?_ _ | refine blk_drew ?_ | refine blk_alloc ?_ _)); exact BK332.out) hb); have n1_ := Aside0.mk (below_step (by repeat (first | (with_reducible first | exact HB.out | apply below_alloc | apply pw_below_drewN | apply below_drew1 | refine below_set ?_ GE332.out) | exact HB.out)) hb); clear BK332; clear HB; have BK332 := n0_; have HB := n1_; clear n0_ n1_; (try clear hb); (try clear hb2); (try clear hk); (try clear hi))); try go_wp2_with (first | (go_at_call 10; (with_reducible refine (tellurionlaw04_slim.calls a0_0 _ _ l0_1 false _ ?side1 ?side2 A7.out).mono ?_); (case side1 => repeat (first | exact (Kd.C_below HR0_1.out HB.out) | (with_reducible refine Kd.C_alloc ?_ _) | (with_reducible refine Kd.C_drewN ?_ _) | (with_reducible refine Kd.C_drew ?_))); (case side2 => exact HC0_1.out); rintro e w38 ⟨rfl, hb⟩; have n0_ := Aside0.mk (blk_below (g := gb332) (o := .cells #[.int .i64 a0_0, .slice A0_1 l0_1.length c0_1] 24 (0, 0)) (by (with_reducible repeat (first | refine blk_drewN ?_ _ | refine blk_drew ?_ | refine blk_alloc ?_ _)); exact BK332.out) hb); have n1_ := Aside0.mk (below_step (by repeat (first | (with_reducible first | exact HB.out | apply below_alloc | apply pw_below_drewN | apply below_drew1 | refine below_set ?_ GE332.out) | exact HB.out)) hb); clear BK332; clear HB; have BK332 := n0_; have HB := n1_; clear n0_ n1_; (try clear hb); (try clear hb2); (try clear hk); (try clear hi))))
    go_meet
    case rel => exact ⟨_, (true), (by first | rfl | (simp; done) | (simp [*]; done)), H', ⟨by first | omega | exact Nat.le_refl _⟩, ⟨by (with_reducible repeat (first | refine blk_drewN ?_ _ | refine blk_drew ?_ | refine blk_alloc ?_ _)); exact BK332.out⟩, ⟨by repeat (first | (with_reducible first | exact HB.out | apply below_alloc | apply pw_below_drewN | apply below_drew1 | refine below_set ?_ GE332.out) | exact HB.out)⟩⟩
 case rest =>
  clear HC5
  try clear c1
  try clear p2
  try clear c6
  try clear c8
  try clear c10
  try clear c12
  try clear c14
  try clear c15
  try clear c15b0
  try clear hcz16_0
  try clear hcz16_1
  try clear hcz18_0
  try clear hcz18_1
  try clear hcz21_0
  try clear hcz21_1
  try clear hcz23_0
  try clear hcz23_1
  try clear hcz25_0
  try clear hcz25_1
  try clear hcz27_0
  try clear hcz27_1
  try clear hcz29_0
  try clear hcz29_1
  try clear hcz31_0
  try clear hcz31_1
  try clear hcz33_0
  try clear hcz33_1
  try clear hcz35_0
  try clear hcz35_1
  try clear hcz37_0
  try clear hcz37_1
  try clear hfz16_0
  try clear hfz16_1
  try clear hfz18_0
  try clear hfz18_1
  try clear hfz21_0
  try clear hfz21_1
  try clear hfz23_0
  try clear hfz23_1
  try clear hfz25_0
  try clear hfz25_1
  try clear hfz27_0
  try clear hfz27_1
  try clear hfz29_0
  try clear hfz29_1
  try clear hfz31_0
  try clear hfz31_1
  try clear hfz33_0
  try clear hfz33_1
  try clear hfz35_0
  try clear hfz35_1
  try clear hfz37_0
  try clear hfz37_1
  obtain ⟨kq, x50_4, rfl, HA, HJ4, BK332, HB⟩ := hcut
  cases kq with
  | zero => exact absurd HA.out (by simp [tellurionlaw04_CamTurns.j0])
  | succ kj4 =>
   have H := HA.out
   clear HA
   simp only [tellurionlaw04_CamTurns.j0] at H
   by_cases c39 : x50_4 = true
   ·
    subst c39
    have H1 : ((tellurionlaw04_known.f).bind fun t338 => (some t338)) = some r := by rw [if_pos rfl] at H; exact H
    clear H
    have H := H1
    clear H1
    replace H := Option.bind_eq_some_iff.mp H
    obtain ⟨t338, A400, H⟩ := H
    replace H : (some t338) = some r := H
    have A40 := Aside0.mk A400
    clear A400
    as_aux_lemma =>
     obtain rfl := Option.some.inj H
     go_wp2_with (first | (go_at_call 11; (with_reducible refine (tellurionlaw04_known.calls  t338 _ A40.out).mono ?_); rintro e w41 ⟨rfl, hb⟩; have n0_ := Aside0.mk (blk_below (g := gb332) (o := .cells #[.int .i64 a0_0, .slice A0_1 l0_1.length c0_1] 24 (0, 0)) (by (with_reducible repeat (first | refine blk_drewN ?_ _ | refine blk_drew ?_ | refine blk_alloc ?_ _)); exact BK332.out) hb); have n1_ := Aside0.mk (below_step (by repeat (first | (with_reducible first | exact HB.out | apply below_alloc | apply pw_below_drewN | apply below_drew1 | refine below_set ?_ GE332.out) | exact HB.out)) hb); clear BK332; clear HB; have BK332 := n0_; have HB := n1_; clear n0_ n1_; (try clear hb); (try clear hb2); (try clear hk); (try clear hi)))
     repeat (go_quiet (first | (go_at_call 11; (with_reducible refine (tellurionlaw04_known.calls  t338 _ A40.out).mono ?_); rintro e w41 ⟨rfl, hb⟩; have n0_ := Aside0.mk (blk_below (g := gb332) (o := .cells #[.int .i64 a0_0, .slice A0_1 l0_1.length c0_1] 24 (0, 0)) (by (with_reducible repeat (first | refine blk_drewN ?_ _ | refine blk_drew ?_ | refine blk_alloc ?_ _)); exact BK332.out) hb); have n1_ := Aside0.mk (below_step (by repeat (first | (with_reducible first | exact HB.out | apply below_alloc | apply pw_below_drewN | apply below_drew1 | refine below_set ?_ GE332.out) | exact HB.out)) hb); clear BK332; clear HB; have BK332 := n0_; have HB := n1_; clear n0_ n1_; (try clear hb); (try clear hb2); (try clear hk); (try clear hi))); try go_wp2_with (first | (go_at_call 11; (with_reducible refine (tellurionlaw04_known.calls  t338 _ A40.out).mono ?_); rintro e w41 ⟨rfl, hb⟩; have n0_ := Aside0.mk (blk_below (g := gb332) (o := .cells #[.int .i64 a0_0, .slice A0_1 l0_1.length c0_1] 24 (0, 0)) (by (with_reducible repeat (first | refine blk_drewN ?_ _ | refine blk_drew ?_ | refine blk_alloc ?_ _)); exact BK332.out) hb); have n1_ := Aside0.mk (below_step (by repeat (first | (with_reducible first | exact HB.out | apply below_alloc | apply pw_below_drewN | apply below_drew1 | refine below_set ?_ GE332.out) | exact HB.out)) hb); clear BK332; clear HB; have BK332 := n0_; have HB := n1_; clear n0_ n1_; (try clear hb); (try clear hb2); (try clear hk); (try clear hi))))
     go_ret
     exact ⟨by first | rfl | (simp [errW_none, errW_some] <;> rfl) | (simp [*, errW_none, errW_some] <;> rfl), by repeat (first | (with_reducible first | exact HB.out | apply below_alloc | apply pw_below_drewN | apply below_drew1 | refine below_set ?_ GE332.out) | exact HB.out)⟩
   ·
    replace c39 := Bool.eq_false_iff.mpr c39
    subst c39
    have H1 : ((cam_Place.f a0_0 l0_1 a1).bind fun bt339 => ((cam_Place.f a0_0 l0_1 a2).bind fun bt341 => ((cam_Passes.f kj4 a0_0 l0_1 a3 a2).bind fun bt343 => (if bt339.2 = 0 then (if bt341.2 = 0 then (if bt343.2 = 0 then (if (bt343.1.length : Int) > 2001 then (tellurionlaw04_CamTurns.j1 kj4 a1 a2 a3 (l0_1.length : Int) bt339.1 bt341.1 bt343.1 true a0_0 l0_1) else (if bt339.1 < (-200000) then (tellurionlaw04_CamTurns.j1 kj4 a1 a2 a3 (l0_1.length : Int) bt339.1 bt341.1 bt343.1 true a0_0 l0_1) else (if bt339.1 > 200000 then (tellurionlaw04_CamTurns.j1 kj4 a1 a2 a3 (l0_1.length : Int) bt339.1 bt341.1 bt343.1 true a0_0 l0_1) else (if bt341.1 < (-200000) then (tellurionlaw04_CamTurns.j1 kj4 a1 a2 a3 (l0_1.length : Int) bt339.1 bt341.1 bt343.1 true a0_0 l0_1) else (tellurionlaw04_CamTurns.j1 kj4 a1 a2 a3 (l0_1.length : Int) bt339.1 bt341.1 bt343.1 (decide (bt341.1 > 200000)) a0_0 l0_1))))) else (tellurionlaw04_CamTurns.j1 kj4 a1 a2 a3 (l0_1.length : Int) bt339.1 bt341.1 bt343.1 true a0_0 l0_1)) else (tellurionlaw04_CamTurns.j1 kj4 a1 a2 a3 (l0_1.length : Int) bt339.1 bt341.1 bt343.1 true a0_0 l0_1)) else (tellurionlaw04_CamTurns.j1 kj4 a1 a2 a3 (l0_1.length : Int) bt339.1 bt341.1 bt343.1 true a0_0 l0_1))))) = some r := by rw [if_neg (show ¬ (false = true) by decide)] at H; exact H
    clear H
    have H := H1
    clear H1
    replace H := Option.bind_eq_some_iff.mp H
    obtain ⟨⟨t339, t340⟩, A420, H⟩ := H
    replace H : ((cam_Place.f a0_0 l0_1 a2).bind fun bt341 => ((cam_Passes.f kj4 a0_0 l0_1 a3 a2).bind fun bt343 => (if t340 = 0 then (if bt341.2 = 0 then (if bt343.2 = 0 then (if (bt343.1.length : Int) > 2001 then (tellurionlaw04_CamTurns.j1 kj4 a1 a2 a3 (l0_1.length : Int) t339 bt341.1 bt343.1 true a0_0 l0_1) else (if t339 < (-200000) then (tellurionlaw04_CamTurns.j1 kj4 a1 a2 a3 (l0_1.length : Int) t339 bt341.1 bt343.1 true a0_0 l0_1) else (if t339 > 200000 then (tellurionlaw04_CamTurns.j1 kj4 a1 a2 a3 (l0_1.length : Int) t339 bt341.1 bt343.1 true a0_0 l0_1) else (if bt341.1 < (-200000) then (tellurionlaw04_CamTurns.j1 kj4 a1 a2 a3 (l0_1.length : Int) t339 bt341.1 bt343.1 true a0_0 l0_1) else (tellurionlaw04_CamTurns.j1 kj4 a1 a2 a3 (l0_1.length : Int) t339 bt341.1 bt343.1 (decide (bt341.1 > 200000)) a0_0 l0_1))))) else (tellurionlaw04_CamTurns.j1 kj4 a1 a2 a3 (l0_1.length : Int) t339 bt341.1 bt343.1 true a0_0 l0_1)) else (tellurionlaw04_CamTurns.j1 kj4 a1 a2 a3 (l0_1.length : Int) t339 bt341.1 bt343.1 true a0_0 l0_1)) else (tellurionlaw04_CamTurns.j1 kj4 a1 a2 a3 (l0_1.length : Int) t339 bt341.1 bt343.1 true a0_0 l0_1)))) = some r := H
    have A42 := Aside0.mk A420
    clear A420
    replace H := Option.bind_eq_some_iff.mp H
    obtain ⟨⟨t341, t342⟩, A430, H⟩ := H
    replace H : ((cam_Passes.f kj4 a0_0 l0_1 a3 a2).bind fun bt343 => (if t340 = 0 then (if t342 = 0 then (if bt343.2 = 0 then (if (bt343.1.length : Int) > 2001 then (tellurionlaw04_CamTurns.j1 kj4 a1 a2 a3 (l0_1.length : Int) t339 t341 bt343.1 true a0_0 l0_1) else (if t339 < (-200000) then (tellurionlaw04_CamTurns.j1 kj4 a1 a2 a3 (l0_1.length : Int) t339 t341 bt343.1 true a0_0 l0_1) else (if t339 > 200000 then (tellurionlaw04_CamTurns.j1 kj4 a1 a2 a3 (l0_1.length : Int) t339 t341 bt343.1 true a0_0 l0_1) else (if t341 < (-200000) then (tellurionlaw04_CamTurns.j1 kj4 a1 a2 a3 (l0_1.length : Int) t339 t341 bt343.1 true a0_0 l0_1) else (tellurionlaw04_CamTurns.j1 kj4 a1 a2 a3 (l0_1.length : Int) t339 t341 bt343.1 (decide (t341 > 200000)) a0_0 l0_1))))) else (tellurionlaw04_CamTurns.j1 kj4 a1 a2 a3 (l0_1.length : Int) t339 t341 bt343.1 true a0_0 l0_1)) else (tellurionlaw04_CamTurns.j1 kj4 a1 a2 a3 (l0_1.length : Int) t339 t341 bt343.1 true a0_0 l0_1)) else (tellurionlaw04_CamTurns.j1 kj4 a1 a2 a3 (l0_1.length : Int) t339 t341 bt343.1 true a0_0 l0_1))) = some r := H
    have A43 := Aside0.mk A430
    clear A430
    replace H := Option.bind_eq_some_iff.mp H
    obtain ⟨⟨t343, t346⟩, A440, H⟩ := H
    replace H : (if t340 = 0 then (if t342 = 0 then (if t346 = 0 then (if (t343.length : Int) > 2001 then (tellurionlaw04_CamTurns.j1 kj4 a1 a2 a3 (l0_1.length : Int) t339 t341 t343 true a0_0 l0_1) else (if t339 < (-200000) then (tellurionlaw04_CamTurns.j1 kj4 a1 a2 a3 (l0_1.length : Int) t339 t341 t343 true a0_0 l0_1) else (if t339 > 200000 then (tellurionlaw04_CamTurns.j1 kj4 a1 a2 a3 (l0_1.length : Int) t339 t341 t343 true a0_0 l0_1) else (if t341 < (-200000) then (tellurionlaw04_CamTurns.j1 kj4 a1 a2 a3 (l0_1.length : Int) t339 t341 t343 true a0_0 l0_1) else (tellurionlaw04_CamTurns.j1 kj4 a1 a2 a3 (l0_1.length : Int) t339 t341 t343 (decide (t341 > 200000)) a0_0 l0_1))))) else (tellurionlaw04_CamTurns.j1 kj4 a1 a2 a3 (l0_1.length : Int) t339 t341 t343 true a0_0 l0_1)) else (tellurionlaw04_CamTurns.j1 kj4 a1 a2 a3 (l0_1.length : Int) t339 t341 t343 true a0_0 l0_1)) else (tellurionlaw04_CamTurns.j1 kj4 a1 a2 a3 (l0_1.length : Int) t339 t341 t343 true a0_0 l0_1)) = some r := H
    have A44 := Aside0.mk A440
    clear A440
    have HC45 := Aside0.mk H
    clear H
    have hcz46_0 : wc.cell? ⟨gb332, 0, none⟩ = some (.int .i64 a0_0) := (blk_cell BK332.out 0).trans rfl
    have hcz46_1 : wc.cell? ⟨gb332, 1, none⟩ = some (.slice A0_1 l0_1.length c0_1) := (blk_cell BK332.out 1).trans rfl
    have hfz46_0 := blk_frozen BK332.out 0
    have hfz46_1 := blk_frozen BK332.out 1
    go_upto_region 7 with (first | (go_at_call 24; (with_reducible refine (cam_Place.calls a0_0 _ _ l0_1 a1 t339 t340 _ ?side1 ?side2 A42.out).mono ?_); (case side1 => repeat (first | exact (Kd.C_below HR0_1.out HB.out) | (with_reducible refine Kd.C_alloc ?_ _) | (with_reducible refine Kd.C_drewN ?_ _) | (with_reducible refine Kd.C_drew ?_))); (case side2 => exact HC0_1.out); rintro e w47 ⟨rfl, hb⟩; have n0_ := Aside0.mk (blk_below (g := gb332) (o := .cells #[.int .i64 a0_0, .slice A0_1 l0_1.length c0_1] 24 (0, 0)) (by (with_reducible repeat (first | refine blk_drewN ?_ _ | refine blk_drew ?_ | refine blk_alloc ?_ _)); exact BK332.out) hb); have n1_ := Aside0.mk (below_step (by repeat (first | (with_reducible first | exact HB.out | apply below_alloc | apply pw_below_drewN | apply below_drew1 | refine below_set ?_ GE332.out) | exact HB.out)) hb); clear BK332; clear HB; have BK332 := n0_; have HB := n1_; clear n0_ n1_; (try clear hb); (try clear hb2); (try clear hk); (try clear hi); have hcz48_0 : w47.cell? ⟨gb332, 0, none⟩ = some (.int .i64 a0_0) := (blk_cell BK332.out 0).trans rfl; have hcz48_1 : w47.cell? ⟨gb332, 1, none⟩ = some (.slice A0_1 l0_1.length c0_1) := (blk_cell BK332.out 1).trans rfl; have hfz48_0 := blk_frozen BK332.out 0; have hfz48_1 := blk_frozen BK332.out 1) | (go_at_call 24; (with_reducible refine (cam_Place.calls a0_0 _ _ l0_1 a2 t341 t342 _ ?side1 ?side2 A43.out).mono ?_); (case side1 => repeat (first | exact (Kd.C_below HR0_1.out HB.out) | (with_reducible refine Kd.C_alloc ?_ _) | (with_reducible refine Kd.C_drewN ?_ _) | (with_reducible refine Kd.C_drew ?_))); (case side2 => exact HC0_1.out); rintro e w49 ⟨rfl, hb⟩; have n0_ := Aside0.mk (blk_below (g := gb332) (o := .cells #[.int .i64 a0_0, .slice A0_1 l0_1.length c0_1] 24 (0, 0)) (by (with_reducible repeat (first | refine blk_drewN ?_ _ | refine blk_drew ?_ | refine blk_alloc ?_ _)); exact BK332.out) hb); have n1_ := Aside0.mk (below_step (by repeat (first | (with_reducible first | exact HB.out | apply below_alloc | apply pw_below_drewN | apply below_drew1 | refine below_set ?_ GE332.out) | exact HB.out)) hb); clear BK332; clear HB; have BK332 := n0_; have HB := n1_; clear n0_ n1_; (try clear hb); (try clear hb2); (try clear hk); (try clear hi); have hcz50_0 : w49.cell? ⟨gb332, 0, none⟩ = some (.int .i64 a0_0) := (blk_cell BK332.out 0).trans rfl; have hcz50_1 : w49.cell? ⟨gb332, 1, none⟩ = some (.slice A0_1 l0_1.length c0_1) := (blk_cell BK332.out 1).trans rfl; have hfz50_0 := blk_frozen BK332.out 0; have hfz50_1 := blk_frozen BK332.out 1) | (go_at_call 25; (with_reducible refine (cam_Passes.calls kj4 a0_0 _ _ l0_1 a3 a2 t343 t346 _ ?side1 ?side2 A44.out).mono ?_); (case side1 => repeat (first | exact (Kd.C_below HR0_1.out HB.out) | (with_reducible refine Kd.C_alloc ?_ _) | (with_reducible refine Kd.C_drewN ?_ _) | (with_reducible refine Kd.C_drew ?_))); (case side2 => exact HC0_1.out); rintro e w51 ⟨v344, rfl, ho0, hb⟩; have n0_ := Aside0.mk (Kd.R_lower ho0 (below_size (by repeat (first | (with_reducible first | exact HB.out | apply below_alloc | apply pw_below_drewN | apply below_drew1 | refine below_set ?_ GE332.out) | exact HB.out)))); have n1_ := Aside0.mk (blk_below (g := gb332) (o := .cells #[.int .i64 a0_0, .slice A0_1 l0_1.length c0_1] 24 (0, 0)) (by (with_reducible repeat (first | refine blk_drewN ?_ _ | refine blk_drew ?_ | refine blk_alloc ?_ _)); exact BK332.out) hb); have n2_ := Aside0.mk (below_step (by repeat (first | (with_reducible first | exact HB.out | apply below_alloc | apply pw_below_drewN | apply below_drew1 | refine below_set ?_ GE332.out) | exact HB.out)) hb); clear BK332; clear HB; have HO345 := n0_; have BK332 := n1_; have HB := n2_; clear n0_ n1_ n2_; (try clear hb); (try clear hb2); (try clear hk); (try clear hi); (try clear ho0)))
    repeat (go_quiet (first | (go_at_call 24; (with_reducible refine (cam_Place.calls a0_0 _ _ l0_1 a1 t339 t340 _ ?side1 ?side2 A42.out).mono ?_); (case side1 => repeat (first | exact (Kd.C_below HR0_1.out HB.out) | (with_reducible refine Kd.C_alloc ?_ _) | (with_reducible refine Kd.C_drewN ?_ _) | (with_reducible refine Kd.C_drew ?_))); (case side2 => exact HC0_1.out); rintro e w47 ⟨rfl, hb⟩; have n0_ := Aside0.mk (blk_below (g := gb332) (o := .cells #[.int .i64 a0_0, .slice A0_1 l0_1.length c0_1] 24 (0, 0)) (by (with_reducible repeat (first | refine blk_drewN ?_ _ | refine blk_drew ?_ | refine blk_alloc ?_ _)); exact BK332.out) hb); have n1_ := Aside0.mk (below_step (by repeat (first | (with_reducible first | exact HB.out | apply below_alloc | apply pw_below_drewN | apply below_drew1 | refine below_set ?_ GE332.out) | exact HB.out)) hb); clear BK332; clear HB; have BK332 := n0_; have HB := n1_; clear n0_ n1_; (try clear hb); (try clear hb2); (try clear hk); (try clear hi); have hcz48_0 : w47.cell? ⟨gb332, 0, none⟩ = some (.int .i64 a0_0) := (blk_cell BK332.out 0).trans rfl; have hcz48_1 : w47.cell? ⟨gb332, 1, none⟩ = some (.slice A0_1 l0_1.length c0_1) := (blk_cell BK332.out 1).trans rfl; have hfz48_0 := blk_frozen BK332.out 0; have hfz48_1 := blk_frozen BK332.out 1) | (go_at_call 24; (with_reducible refine (cam_Place.calls a0_0 _ _ l0_1 a2 t341 t342 _ ?side1 ?side2 A43.out).mono ?_); (case side1 => repeat (first | exact (Kd.C_below HR0_1.out HB.out) | (with_reducible refine Kd.C_alloc ?_ _) | (with_reducible refine Kd.C_drewN ?_ _) | (with_reducible refine Kd.C_drew ?_))); (case side2 => exact HC0_1.out); rintro e w49 ⟨rfl, hb⟩; have n0_ := Aside0.mk (blk_below (g := gb332) (o := .cells #[.int .i64 a0_0, .slice A0_1 l0_1.length c0_1] 24 (0, 0)) (by (with_reducible repeat (first | refine blk_drewN ?_ _ | refine blk_drew ?_ | refine blk_alloc ?_ _)); exact BK332.out) hb); have n1_ := Aside0.mk (below_step (by repeat (first | (with_reducible first | exact HB.out | apply below_alloc | apply pw_below_drewN | apply below_drew1 | refine below_set ?_ GE332.out) | exact HB.out)) hb); clear BK332; clear HB; have BK332 := n0_; have HB := n1_; clear n0_ n1_; (try clear hb); (try clear hb2); (try clear hk); (try clear hi); have hcz50_0 : w49.cell? ⟨gb332, 0, none⟩ = some (.int .i64 a0_0) := (blk_cell BK332.out 0).trans rfl; have hcz50_1 : w49.cell? ⟨gb332, 1, none⟩ = some (.slice A0_1 l0_1.length c0_1) := (blk_cell BK332.out 1).trans rfl; have hfz50_0 := blk_frozen BK332.out 0; have hfz50_1 := blk_frozen BK332.out 1) | (go_at_call 25; (with_reducible refine (cam_Passes.calls kj4 a0_0 _ _ l0_1 a3 a2 t343 t346 _ ?side1 ?side2 A44.out).mono ?_); (case side1 => repeat (first | exact (Kd.C_below HR0_1.out HB.out) | (with_reducible refine Kd.C_alloc ?_ _) | (with_reducible refine Kd.C_drewN ?_ _) | (with_reducible refine Kd.C_drew ?_))); (case side2 => exact HC0_1.out); rintro e w51 ⟨v344, rfl, ho0, hb⟩; have n0_ := Aside0.mk (Kd.R_lower ho0 (below_size (by repeat (first | (with_reducible first | exact HB.out | apply below_alloc | apply pw_below_drewN | apply below_drew1 | refine below_set ?_ GE332.out) | exact HB.out)))); have n1_ := Aside0.mk (blk_below (g := gb332) (o := .cells #[.int .i64 a0_0, .slice A0_1 l0_1.length c0_1] 24 (0, 0)) (by (with_reducible repeat (first | refine blk_drewN ?_ _ | refine blk_drew ?_ | refine blk_alloc ?_ _)); exact BK332.out) hb); have n2_ := Aside0.mk (below_step (by repeat (first | (with_reducible first | exact HB.out | apply below_alloc | apply pw_below_drewN | apply below_drew1 | refine below_set ?_ GE332.out) | exact HB.out)) hb); clear BK332; clear HB; have HO345 := n0_; have BK332 := n1_; have HB := n2_; clear n0_ n1_ n2_; (try clear hb); (try clear hb2); (try clear hk); (try clear hi); (try clear ho0))); go_upto_region 7 with (first | (go_at_call 24; (with_reducible refine (cam_Place.calls a0_0 _ _ l0_1 a1 t339 t340 _ ?side1 ?side2 A42.out).mono ?_); (case side1 => repeat (first | exact (Kd.C_below HR0_1.out HB.out) | (with_reducible refine Kd.C_alloc ?_ _) | (with_reducible refine Kd.C_drewN ?_ _) | (with_reducible refine Kd.C_drew ?_))); (case side2 => exact HC0_1.out); rintro e w47 ⟨rfl, hb⟩; have n0_ := Aside0.mk (blk_below (g := gb332) (o := .cells #[.int .i64 a0_0, .slice A0_1 l0_1.length c0_1] 24 (0, 0)) (by (with_reducible repeat (first | refine blk_drewN ?_ _ | refine blk_drew ?_ | refine blk_alloc ?_ _)); exact BK332.out) hb); have n1_ := Aside0.mk (below_step (by repeat (first | (with_reducible first | exact HB.out | apply below_alloc | apply pw_below_drewN | apply below_drew1 | refine below_set ?_ GE332.out) | exact HB.out)) hb); clear BK332; clear HB; have BK332 := n0_; have HB := n1_; clear n0_ n1_; (try clear hb); (try clear hb2); (try clear hk); (try clear hi); have hcz48_0 : w47.cell? ⟨gb332, 0, none⟩ = some (.int .i64 a0_0) := (blk_cell BK332.out 0).trans rfl; have hcz48_1 : w47.cell? ⟨gb332, 1, none⟩ = some (.slice A0_1 l0_1.length c0_1) := (blk_cell BK332.out 1).trans rfl; have hfz48_0 := blk_frozen BK332.out 0; have hfz48_1 := blk_frozen BK332.out 1) | (go_at_call 24; (with_reducible refine (cam_Place.calls a0_0 _ _ l0_1 a2 t341 t342 _ ?side1 ?side2 A43.out).mono ?_); (case side1 => repeat (first | exact (Kd.C_below HR0_1.out HB.out) | (with_reducible refine Kd.C_alloc ?_ _) | (with_reducible refine Kd.C_drewN ?_ _) | (with_reducible refine Kd.C_drew ?_))); (case side2 => exact HC0_1.out); rintro e w49 ⟨rfl, hb⟩; have n0_ := Aside0.mk (blk_below (g := gb332) (o := .cells #[.int .i64 a0_0, .slice A0_1 l0_1.length c0_1] 24 (0, 0)) (by (with_reducible repeat (first | refine blk_drewN ?_ _ | refine blk_drew ?_ | refine blk_alloc ?_ _)); exact BK332.out) hb); have n1_ := Aside0.mk (below_step (by repeat (first | (with_reducible first | exact HB.out | apply below_alloc | apply pw_below_drewN | apply below_drew1 | refine below_set ?_ GE332.out) | exact HB.out)) hb); clear BK332; clear HB; have BK332 := n0_; have HB := n1_; clear n0_ n1_; (try clear hb); (try clear hb2); (try clear hk); (try clear hi); have hcz50_0 : w49.cell? ⟨gb332, 0, none⟩ = some (.int .i64 a0_0) := (blk_cell BK332.out 0).trans rfl; have hcz50_1 : w49.cell? ⟨gb332, 1, none⟩ = some (.slice A0_1 l0_1.length c0_1) := (blk_cell BK332.out 1).trans rfl; have hfz50_0 := blk_frozen BK332.out 0; have hfz50_1 := blk_frozen BK332.out 1) | (go_at_call 25; (with_reducible refine (cam_Passes.calls kj4 a0_0 _ _ l0_1 a3 a2 t343 t346 _ ?side1 ?side2 A44.out).mono ?_); (case side1 => repeat (first | exact (Kd.C_below HR0_1.out HB.out) | (with_reducible refine Kd.C_alloc ?_ _) | (with_reducible refine Kd.C_drewN ?_ _) | (with_reducible refine Kd.C_drew ?_))); (case side2 => exact HC0_1.out); rintro e w51 ⟨v344, rfl, ho0, hb⟩; have n0_ := Aside0.mk (Kd.R_lower ho0 (below_size (by repeat (first | (with_reducible first | exact HB.out | apply below_alloc | apply pw_below_drewN | apply below_drew1 | refine below_set ?_ GE332.out) | exact HB.out)))); have n1_ := Aside0.mk (blk_below (g := gb332) (o := .cells #[.int .i64 a0_0, .slice A0_1 l0_1.length c0_1] 24 (0, 0)) (by (with_reducible repeat (first | refine blk_drewN ?_ _ | refine blk_drew ?_ | refine blk_alloc ?_ _)); exact BK332.out) hb); have n2_ := Aside0.mk (below_step (by repeat (first | (with_reducible first | exact HB.out | apply below_alloc | apply pw_below_drewN | apply below_drew1 | refine below_set ?_ GE332.out) | exact HB.out)) hb); clear BK332; clear HB; have HO345 := n0_; have BK332 := n1_; have HB := n2_; clear n0_ n1_ n2_; (try clear hb); (try clear hb2); (try clear hk); (try clear hi); (try clear ho0))))
    (try simp only [Act.put, List.setIfInBounds_toArray, List.set_cons_zero, List.set_cons_succ])
    go_cut [104] (fun v104 wc => ∃ (kq : Nat) (x104_44 : Bool), v104 = .bool x104_44 ∧ Aside0 (tellurionlaw04_CamTurns.j1 kq a1 a2 a3 (l0_1.length : Int) t339 t341 t343 x104_44 a0_0 l0_1 = some r) ∧ Aside0 (kq ≤ kj4) ∧ Aside0 (Kd.R (Kd.int .i64) 3 wc w.heap.size (fun _ => True) v344 t343) ∧ Aside0 (wc.heap[gb332]? = some (.cells #[.int .i64 a0_0, (.slice A0_1 l0_1.length c0_1)] 24 (0, 0))) ∧ Aside0 (Below w.heap.size w wc))
    case first =>
     have H := HC45.out
     clear HC45
     by_cases c52 : t340 = 0
     ·
      rw [if_pos c52] at H
      have c52b0 : (t340 == 0) = true := beq_iff_eq.mpr c52
      have c52b1 : (t340 != 0) = false := bne_eq_false_iff_eq.mpr c52
      clear c52
      (first | rw [c52b0] | (simp only [i64_w, i32_w]; rw [c52b0]) | skip)
      by_cases c53 : t342 = 0
      ·
       rw [if_pos c53] at H
       have c53b0 : (t342 == 0) = true := beq_iff_eq.mpr c53
       have c53b1 : (t342 != 0) = false := bne_eq_false_iff_eq.mpr c53
       clear c53
       by_cases c54 : t346 = 0
       ·
        rw [if_pos c54] at H
        have c54b0 : (t346 == 0) = true := beq_iff_eq.mpr c54
        have c54b1 : (t346 != 0) = false := bne_eq_false_iff_eq.mpr c54
        clear c54
        by_cases c55 : (t343.length : Int) > 2001
        ·
         rw [if_pos c55] at H
         have c55b0 : decide (2001 < (t343.length : Int)) = true := decide_eq_true c55
         have c55b1 : decide (2001 < t343.length) = true := decide_eq_true (by omega)
         clear c55
         as_aux_lemma =>
          have H' := Aside0.mk H
          clear H
          obtain ⟨Ao56, co56, eo56⟩ := Kd.R_slice HO345.out
          subst eo56
          go_wp2
          repeat (go_quiet (fail); try go_wp2)
          go_meet
          case rel => exact ⟨_, (true), (by first | rfl | (simp; done) | (simp [*]; done)), H', ⟨by have := HJ4.out; first | omega | exact Nat.le_refl _⟩, ⟨by (with_reducible repeat (first | apply Kd.R_alloc | apply Kd.R_drewN | apply Kd.R_drew)); exact HO345.out⟩, ⟨by (with_reducible repeat (first | refine blk_drewN ?_ _ | refine blk_drew ?_ | refine blk_alloc ?_ _)); exact BK332.out⟩, ⟨by repeat (first | (with_reducible first | exact HB.out | apply below_alloc | apply pw_below_drewN | apply below_drew1 | refine below_set ?_ GE332.out) | exact HB.out)⟩⟩
        ·
         rw [if_neg c55] at H
         have c55b0 : decide (2001 < (t343.length : Int)) = false := decide_eq_false c55
         have c55b1 : decide (2001 < t343.length) = false := decide_eq_false (by omega)
         clear c55
         by_cases c57 : t339 < (-200000)
         ·
          rw [if_pos c57] at H
          have c57b0 : decide (t339 < (-200000)) = true := decide_eq_true c57
          clear c57
          as_aux_lemma =>
           have H' := Aside0.mk H
           clear H
           obtain ⟨Ao58, co58, eo58⟩ := Kd.R_slice HO345.out
           subst eo58
           go_wp2
           repeat (go_quiet (fail); try go_wp2)
           go_meet
           case rel => exact ⟨_, (true), (by first | rfl | (simp; done) | (simp [*]; done)), H', ⟨by have := HJ4.out; first | omega | exact Nat.le_refl _⟩, ⟨by (with_reducible repeat (first | apply Kd.R_alloc | apply Kd.R_drewN | apply Kd.R_drew)); exact HO345.out⟩, ⟨by (with_reducible repeat (first | refine blk_drewN ?_ _ | refine blk_drew ?_ | refine blk_alloc ?_ _)); exact BK332.out⟩, ⟨by repeat (first | (with_reducible first | exact HB.out | apply below_alloc | apply pw_below_drewN | apply below_drew1 | refine below_set ?_ GE332.out) | exact HB.out)⟩⟩
         ·
          rw [if_neg c57] at H
          have c57b0 : decide (t339 < (-200000)) = false := decide_eq_false c57
          clear c57
          by_cases c59 : t339 > 200000
          ·
           rw [if_pos c59] at H
           have c59b0 : decide (200000 < t339) = true := decide_eq_true c59
           clear c59
           as_aux_lemma =>
            have H' := Aside0.mk H
            clear H
            obtain ⟨Ao60, co60, eo60⟩ := Kd.R_slice HO345.out
            subst eo60
            go_wp2
            repeat (go_quiet (fail); try go_wp2)
            go_meet
            case rel => exact ⟨_, (true), (by first | rfl | (simp; done) | (simp [*]; done)), H', ⟨by have := HJ4.out; first | omega | exact Nat.le_refl _⟩, ⟨by (with_reducible repeat (first | apply Kd.R_alloc | apply Kd.R_drewN | apply Kd.R_drew)); exact HO345.out⟩, ⟨by (with_reducible repeat (first | refine blk_drewN ?_ _ | refine blk_drew ?_ | refine blk_alloc ?_ _)); exact BK332.out⟩, ⟨by repeat (first | (with_reducible first | exact HB.out | apply below_alloc | apply pw_below_drewN | apply below_drew1 | refine below_set ?_ GE332.out) | exact HB.out)⟩⟩
          ·
           rw [if_neg c59] at H
           have c59b0 : decide (200000 < t339) = false := decide_eq_false c59
           clear c59
           by_cases c61 : t341 < (-200000)
           ·
            rw [if_pos c61] at H
            have c61b0 : decide (t341 < (-200000)) = true := decide_eq_true c61
            clear c61
            as_aux_lemma =>
             have H' := Aside0.mk H
             clear H
             obtain ⟨Ao62, co62, eo62⟩ := Kd.R_slice HO345.out
             subst eo62
             go_wp2
             repeat (go_quiet (fail); try go_wp2)
             go_meet
             case rel => exact ⟨_, (true), (by first | rfl | (simp; done) | (simp [*]; done)), H', ⟨by have := HJ4.out; first | omega | exact Nat.le_refl _⟩, ⟨by (with_reducible repeat (first | apply Kd.R_alloc | apply Kd.R_drewN | apply Kd.R_drew)); exact HO345.out⟩, ⟨by (with_reducible repeat (first | refine blk_drewN ?_ _ | refine blk_drew ?_ | refine blk_alloc ?_ _)); exact BK332.out⟩, ⟨by repeat (first | (with_reducible first | exact HB.out | apply below_alloc | apply pw_below_drewN | apply below_drew1 | refine below_set ?_ GE332.out) | exact HB.out)⟩⟩
           ·
            rw [if_neg c61] at H
            have c61b0 : decide (t341 < (-200000)) = false := decide_eq_false c61
            clear c61
            as_aux_lemma =>
             have H' := Aside0.mk H
             clear H
             obtain ⟨Ao63, co63, eo63⟩ := Kd.R_slice HO345.out
             subst eo63
             go_wp2
             repeat (go_quiet (fail); try go_wp2)
             go_meet
             case rel => exact ⟨_, (decide (t341 > 200000)), (by first | rfl | (simp; done) | (simp [*]; done)), H', ⟨by have := HJ4.out; first | omega | exact Nat.le_refl _⟩, ⟨by (with_reducible repeat (first | apply Kd.R_alloc | apply Kd.R_drewN | apply Kd.R_drew)); exact HO345.out⟩, ⟨by (with_reducible repeat (first | refine blk_drewN ?_ _ | refine blk_drew ?_ | refine blk_alloc ?_ _)); exact BK332.out⟩, ⟨by repeat (first | (with_reducible first | exact HB.out | apply below_alloc | apply pw_below_drewN | apply below_drew1 | refine below_set ?_ GE332.out) | exact HB.out)⟩⟩
       ·
        rw [if_neg c54] at H
        have c54b0 : (t346 == 0) = false := beq_eq_false_iff_ne.mpr c54
        have c54b1 : (t346 != 0) = true := bne_iff_ne.mpr c54
        as_aux_lemma =>
         have H' := Aside0.mk H
         clear H
         go_wp2
         repeat (go_quiet (fail); try go_wp2)
         go_meet
         case rel => exact ⟨_, (true), (by first | rfl | (simp; done) | (simp [*]; done)), H', ⟨by have := HJ4.out; first | omega | exact Nat.le_refl _⟩, ⟨by (with_reducible repeat (first | apply Kd.R_alloc | apply Kd.R_drewN | apply Kd.R_drew)); exact HO345.out⟩, ⟨by (with_reducible repeat (first | refine blk_drewN ?_ _ | refine blk_drew ?_ | refine blk_alloc ?_ _)); exact BK332.out⟩, ⟨by repeat (first | (with_reducible first | exact HB.out | apply below_alloc | apply pw_below_drewN | apply below_drew1 | refine below_set ?_ GE332.out) | exact HB.out)⟩⟩
      ·
       rw [if_neg c53] at H
       have c53b0 : (t342 == 0) = false := beq_eq_false_iff_ne.mpr c53
       have c53b1 : (t342 != 0) = true := bne_iff_ne.mpr c53
       as_aux_lemma =>
        have H' := Aside0.mk H
        clear H
        go_wp2
        repeat (go_quiet (fail); try go_wp2)
        go_meet
        case rel => exact ⟨_, (true), (by first | rfl | (simp; done) | (simp [*]; done)), H', ⟨by have := HJ4.out; first | omega | exact Nat.le_refl _⟩, ⟨by (with_reducible repeat (first | apply Kd.R_alloc | apply Kd.R_drewN | apply Kd.R_drew)); exact HO345.out⟩, ⟨by (with_reducible repeat (first | refine blk_drewN ?_ _ | refine blk_drew ?_ | refine blk_alloc ?_ _)); exact BK332.out⟩, ⟨by repeat (first | (with_reducible first | exact HB.out | apply below_alloc | apply pw_below_drewN | apply below_drew1 | refine below_set ?_ GE332.out) | exact HB.out)⟩⟩
     ·
      rw [if_neg c52] at H
      have c52b0 : (t340 == 0) = false := beq_eq_false_iff_ne.mpr c52
      have c52b1 : (t340 != 0) = true := bne_iff_ne.mpr c52
      (first | rw [c52b0] | (simp only [i64_w, i32_w]; rw [c52b0]) | skip)
      as_aux_lemma =>
       have H' := Aside0.mk H
       clear H
       go_wp2
       repeat (go_quiet (fail); try go_wp2)
       go_meet
       case rel => exact ⟨_, (true), (by first | rfl | (simp; done) | (simp [*]; done)), H', ⟨by have := HJ4.out; first | omega | exact Nat.le_refl _⟩, ⟨by (with_reducible repeat (first | apply Kd.R_alloc | apply Kd.R_drewN | apply Kd.R_drew)); exact HO345.out⟩, ⟨by (with_reducible repeat (first | refine blk_drewN ?_ _ | refine blk_drew ?_ | refine blk_alloc ?_ _)); exact BK332.out⟩, ⟨by repeat (first | (with_reducible first | exact HB.out | apply below_alloc | apply pw_below_drewN | apply below_drew1 | refine below_set ?_ GE332.out) | exact HB.out)⟩⟩
    case rest =>
     clear HC45
     try clear c1
     try clear p2
     try clear c3
     try clear c5
     try clear c6
     try clear c8
     try clear c10
     try clear c12
     try clear c14
     try clear c15
     try clear c15b0
     try clear c39
     try clear c52
     try clear c52b0
     try clear c52b1
     try clear c53
     try clear c53b0
     try clear c53b1
     try clear c54
     try clear c54b0
     try clear c54b1
     try clear c55
     try clear c55b0
     try clear c55b1
     try clear c57
     try clear c57b0
     try clear c59
     try clear c59b0
     try clear c61
     try clear c61b0
     try clear hcz16_0
     try clear hcz16_1
     try clear hcz18_0
     try clear hcz18_1
     try clear hcz21_0
     try clear hcz21_1
     try clear hcz23_0
     try clear hcz23_1
     try clear hcz25_0
     try clear hcz25_1
     try clear hcz27_0
     try clear hcz27_1
     try clear hcz29_0
     try clear hcz29_1
     try clear hcz31_0
     try clear hcz31_1
     try clear hcz33_0
     try clear hcz33_1
     try clear hcz35_0
     try clear hcz35_1
     try clear hcz37_0
     try clear hcz37_1
     try clear hcz46_0
     try clear hcz46_1
     try clear hcz48_0
     try clear hcz48_1
     try clear hcz50_0
     try clear hcz50_1
     try clear hfz16_0
     try clear hfz16_1
     try clear hfz18_0
     try clear hfz18_1
     try clear hfz21_0
     try clear hfz21_1
     try clear hfz23_0
     try clear hfz23_1
     try clear hfz25_0
     try clear hfz25_1
     try clear hfz27_0
     try clear hfz27_1
     try clear hfz29_0
     try clear hfz29_1
     try clear hfz31_0
     try clear hfz31_1
     try clear hfz33_0
     try clear hfz33_1
     try clear hfz35_0
     try clear hfz35_1
     try clear hfz37_0
     try clear hfz37_1
     try clear hfz46_0
     try clear hfz46_1
     try clear hfz48_0
     try clear hfz48_1
     try clear hfz50_0
     try clear hfz50_1
     try clear p2
     obtain ⟨kq, x104_44, rfl, HA, HJ44, HO_14, BK332, HB⟩ := hcut
     cases kq with
     | zero => exact absurd HA.out (by simp [tellurionlaw04_CamTurns.j1])
     | succ kj44 =>
      have H := HA.out
      clear HA
      simp only [tellurionlaw04_CamTurns.j1] at H
      by_cases c64 : x104_44 = true
      ·
       subst c64
       have H1 : (some false) = some r := by rw [if_pos rfl] at H; exact H
       clear H
       have H := H1
       clear H1
       as_aux_lemma =>
        obtain rfl := Option.some.inj H
        go_wp2
        repeat (go_quiet (fail); try go_wp2)
        go_ret
        exact ⟨by first | rfl | (simp [errW_none, errW_some] <;> rfl) | (simp [*, errW_none, errW_some] <;> rfl), by repeat (first | (with_reducible first | exact HB.out | apply below_alloc | apply pw_below_drewN | apply below_drew1 | refine below_set ?_ GE332.out) | exact HB.out)⟩
      ·
       replace c64 := Bool.eq_false_iff.mpr c64
       subst c64
       have H1 : ((tellurionref04_Time.f (wrap64 (a2 + (l0_1.length : Int)))).bind fun t347 => (if t347 = true then ((cam_Place.f a0_0 l0_1 (wrap64 (a2 + (l0_1.length : Int)))).bind fun bt348 => (if bt348.2 = 0 then (tellurionlaw04_CamTurns.j2 kj44 a1 a2 a3 (l0_1.length : Int) t339 t341 t343 (bt348.1 != (wrap64 (t341 + (wrap64 ((l0_1.length : Int) * a0_0))))) a0_0 l0_1) else (tellurionlaw04_CamTurns.j2 kj44 a1 a2 a3 (l0_1.length : Int) t339 t341 t343 true a0_0 l0_1))) else (tellurionlaw04_CamTurns.j5 kj44 a1 a2 a3 t339 t341 t343))) = some r := by rw [if_neg (show ¬ (false = true) by decide)] at H; exact H
       clear H
       have H := H1
       clear H1
       replace H := Option.bind_eq_some_iff.mp H
       obtain ⟨t347, A650, H⟩ := H
       replace H : (if t347 = true then ((cam_Place.f a0_0 l0_1 (wrap64 (a2 + (l0_1.length : Int)))).bind fun bt348 => (if bt348.2 = 0 then (tellurionlaw04_CamTurns.j2 kj44 a1 a2 a3 (l0_1.length : Int) t339 t341 t343 (bt348.1 != (wrap64 (t341 + (wrap64 ((l0_1.length : Int) * a0_0))))) a0_0 l0_1) else (tellurionlaw04_CamTurns.j2 kj44 a1 a2 a3 (l0_1.length : Int) t339 t341 t343 true a0_0 l0_1))) else (tellurionlaw04_CamTurns.j5 kj44 a1 a2 a3 t339 t341 t343)) = some r := H
       have A65 := Aside0.mk A650
       clear A650
       have HC66 := Aside0.mk H
       clear H
       go_upto_if 108 with (first | (go_at_call 14; (with_reducible refine (tellurionref04_Time.calls (wrap64 (a2 + (l0_1.length : Int))) t347 _ A65.out).mono ?_); rintro e w' ⟨rfl, ⟨nd, rfl⟩⟩; (try first | exact ⟨rfl, _, World.drewN_drewN _ _ _⟩ | exact ⟨rfl, _, Eq.trans (World.drewN_drewN _ _ _) (congrArg (World.drewN _) (Nat.add_assoc _ _ _))⟩)))
       repeat (go_quiet (first | (go_at_call 14; (with_reducible refine (tellurionref04_Time.calls (wrap64 (a2 + (l0_1.length : Int))) t347 _ A65.out).mono ?_); rintro e w' ⟨rfl, ⟨nd, rfl⟩⟩; (try first | exact ⟨rfl, _, World.drewN_drewN _ _ _⟩ | exact ⟨rfl, _, Eq.trans (World.drewN_drewN _ _ _) (congrArg (World.drewN _) (Nat.add_assoc _ _ _))⟩))); go_upto_if 108 with (first | (go_at_call 14; (with_reducible refine (tellurionref04_Time.calls (wrap64 (a2 + (l0_1.length : Int))) t347 _ A65.out).mono ?_); rintro e w' ⟨rfl, ⟨nd, rfl⟩⟩; (try first | exact ⟨rfl, _, World.drewN_drewN _ _ _⟩ | exact ⟨rfl, _, Eq.trans (World.drewN_drewN _ _ _) (congrArg (World.drewN _) (Nat.add_assoc _ _ _))⟩))))
       (try simp only [Act.put, List.setIfInBounds_toArray, List.set_cons_zero, List.set_cons_succ])
       go_cut [] (fun wc => ∃ (kq : Nat), Aside0 (tellurionlaw04_CamTurns.j5 kq a1 a2 a3 t339 t341 t343 = some r) ∧ Aside0 (kq ≤ kj44) ∧ Aside0 (Kd.R (Kd.int .i64) 3 wc w.heap.size (fun _ => True) v344 t343) ∧ Aside0 (wc.heap[gb332]? = some (.cells #[.int .i64 a0_0, (.slice A0_1 l0_1.length c0_1)] 24 (0, 0))) ∧ Aside0 (Below w.heap.size w wc))
       case first =>
        have H := HC66.out
        clear HC66
        by_cases c67 : t347 = true
        ·
         subst c67
         have H1 : ((cam_Place.f a0_0 l0_1 (wrap64 (a2 + (l0_1.length : Int)))).bind fun bt348 => (if bt348.2 = 0 then (tellurionlaw04_CamTurns.j2 kj44 a1 a2 a3 (l0_1.length : Int) t339 t341 t343 (bt348.1 != (wrap64 (t341 + (wrap64 ((l0_1.length : Int) * a0_0))))) a0_0 l0_1) else (tellurionlaw04_CamTurns.j2 kj44 a1 a2 a3 (l0_1.length : Int) t339 t341 t343 true a0_0 l0_1))) = some r := by rw [if_pos rfl] at H; exact H
         clear H
         have H := H1
         clear H1
         replace H := Option.bind_eq_some_iff.mp H
         obtain ⟨⟨t348, t349⟩, A680, H⟩ := H
         replace H : (if t349 = 0 then (tellurionlaw04_CamTurns.j2 kj44 a1 a2 a3 (l0_1.length : Int) t339 t341 t343 (t348 != (wrap64 (t341 + (wrap64 ((l0_1.length : Int) * a0_0))))) a0_0 l0_1) else (tellurionlaw04_CamTurns.j2 kj44 a1 a2 a3 (l0_1.length : Int) t339 t341 t343 true a0_0 l0_1)) = some r := H
         have A68 := Aside0.mk A680
         clear A680
         have HC69 := Aside0.mk H
         clear H
         have hcz70_0 : wc.cell? ⟨gb332, 0, none⟩ = some (.int .i64 a0_0) := (blk_cell BK332.out 0).trans rfl
         have hcz70_1 : wc.cell? ⟨gb332, 1, none⟩ = some (.slice A0_1 l0_1.length c0_1) := (blk_cell BK332.out 1).trans rfl
         have hfz70_0 := blk_frozen BK332.out 0
         have hfz70_1 := blk_frozen BK332.out 1
         go_upto_region 11 with (first | (go_at_call 24; (with_reducible refine (cam_Place.calls a0_0 _ _ l0_1 (wrap64 (a2 + (l0_1.length : Int))) t348 t349 _ ?side1 ?side2 A68.out).mono ?_); (case side1 => repeat (first | exact (Kd.C_below HR0_1.out HB.out) | (with_reducible refine Kd.C_alloc ?_ _) | (with_reducible refine Kd.C_drewN ?_ _) | (with_reducible refine Kd.C_drew ?_))); (case side2 => exact HC0_1.out); rintro e w71 ⟨rfl, hb⟩; have n0_ := Aside0.mk (Kd.R_below (by (with_reducible repeat (first | apply Kd.R_alloc | apply Kd.R_drewN | apply Kd.R_drew)); exact HO_14.out) hb); have n1_ := Aside0.mk (blk_below (g := gb332) (o := .cells #[.int .i64 a0_0, .slice A0_1 l0_1.length c0_1] 24 (0, 0)) (by (with_reducible repeat (first | refine blk_drewN ?_ _ | refine blk_drew ?_ | refine blk_alloc ?_ _)); exact BK332.out) hb); have n2_ := Aside0.mk (below_step (by repeat (first | (with_reducible first | exact HB.out | apply below_alloc | apply pw_below_drewN | apply below_drew1 | refine below_set ?_ GE332.out) | exact HB.out)) hb); clear HO_14; clear BK332; clear HB; have HO_14 := n0_; have BK332 := n1_; have HB := n2_; clear n0_ n1_ n2_; (try clear hb); (try clear hb2); (try clear hk); (try clear hi)))
         repeat (go_quiet (first | (go_at_call 24; (with_reducible refine (cam_Place.calls a0_0 _ _ l0_1 (wrap64 (a2 + (l0_1.length : Int))) t348 t349 _ ?side1 ?side2 A68.out).mono ?_); (case side1 => repeat (first | exact (Kd.C_below HR0_1.out HB.out) | (with_reducible refine Kd.C_alloc ?_ _) | (with_reducible refine Kd.C_drewN ?_ _) | (with_reducible refine Kd.C_drew ?_))); (case side2 => exact HC0_1.out); rintro e w71 ⟨rfl, hb⟩; have n0_ := Aside0.mk (Kd.R_below (by (with_reducible repeat (first | apply Kd.R_alloc | apply Kd.R_drewN | apply Kd.R_drew)); exact HO_14.out) hb); have n1_ := Aside0.mk (blk_below (g := gb332) (o := .cells #[.int .i64 a0_0, .slice A0_1 l0_1.length c0_1] 24 (0, 0)) (by (with_reducible repeat (first | refine blk_drewN ?_ _ | refine blk_drew ?_ | refine blk_alloc ?_ _)); exact BK332.out) hb); have n2_ := Aside0.mk (below_step (by repeat (first | (with_reducible first | exact HB.out | apply below_alloc | apply pw_below_drewN | apply below_drew1 | refine below_set ?_ GE332.out) | exact HB.out)) hb); clear HO_14; clear BK332; clear HB; have HO_14 := n0_; have BK332 := n1_; have HB := n2_; clear n0_ n1_ n2_; (try clear hb); (try clear hb2); (try clear hk); (try clear hi))); go_upto_region 11 with (first | (go_at_call 24; (with_reducible refine (cam_Place.calls a0_0 _ _ l0_1 (wrap64 (a2 + (l0_1.length : Int))) t348 t349 _ ?side1 ?side2 A68.out).mono ?_); (case side1 => repeat (first | exact (Kd.C_below HR0_1.out HB.out) | (with_reducible refine Kd.C_alloc ?_ _) | (with_reducible refine Kd.C_drewN ?_ _) | (with_reducible refine Kd.C_drew ?_))); (case side2 => exact HC0_1.out); rintro e w71 ⟨rfl, hb⟩; have n0_ := Aside0.mk (Kd.R_below (by (with_reducible repeat (first | apply Kd.R_alloc | apply Kd.R_drewN | apply Kd.R_drew)); exact HO_14.out) hb); have n1_ := Aside0.mk (blk_below (g := gb332) (o := .cells #[.int .i64 a0_0, .slice A0_1 l0_1.length c0_1] 24 (0, 0)) (by (with_reducible repeat (first | refine blk_drewN ?_ _ | refine blk_drew ?_ | refine blk_alloc ?_ _)); exact BK332.out) hb); have n2_ := Aside0.mk (below_step (by repeat (first | (with_reducible first | exact HB.out | apply below_alloc | apply pw_below_drewN | apply below_drew1 | refine below_set ?_ GE332.out) | exact HB.out)) hb); clear HO_14; clear BK332; clear HB; have HO_14 := n0_; have BK332 := n1_; have HB := n2_; clear n0_ n1_ n2_; (try clear hb); (try clear hb2); (try clear hk); (try clear hi))))
         (try simp only [Act.put, List.setIfInBounds_toArray, List.set_cons_zero, List.set_cons_succ])
         go_cut [128] (fun v128 wc => ∃ (kq : Nat) (x128_68 : Bool), v128 = .bool x128_68 ∧ Aside0 (tellurionlaw04_CamTurns.j2 kq a1 a2 a3 (l0_1.length : Int) t339 t341 t343 x128_68 a0_0 l0_1 = some r) ∧ Aside0 (kq ≤ kj44) ∧ Aside0 (Kd.R (Kd.int .i64) 3 wc w.heap.size (fun _ => True) v344 t343) ∧ Aside0 (wc.heap[gb332]? = some (.cells #[.int .i64 a0_0, (.slice A0_1 l0_1.length c0_1)] 24 (0, 0))) ∧ Aside0 (Below w.heap.size w wc))
         case first =>
          have H := HC69.out
          clear HC69
          by_cases c72 : t349 = 0
          ·
           rw [if_pos c72] at H
           have c72b0 : (t349 == 0) = true := beq_iff_eq.mpr c72
           have c72b1 : (t349 != 0) = false := bne_eq_false_iff_eq.mpr c72
           clear c72
           (first | rw [c72b0] | (simp only [i64_w, i32_w]; rw [c72b0]) | skip)
           as_aux_lemma =>
            have H' := Aside0.mk H
            clear H
            have hcz73_0 : w71.cell? ⟨gb332, 0, none⟩ = some (.int .i64 a0_0) := (blk_cell BK332.out 0).trans rfl
            have hcz73_1 : w71.cell? ⟨gb332, 1, none⟩ = some (.slice A0_1 l0_1.length c0_1) := (blk_cell BK332.out 1).trans rfl
            have hfz73_0 := blk_frozen BK332.out 0
            have hfz73_1 := blk_frozen BK332.out 1
            go_wp2
            repeat (go_quiet (fail); try go_wp2)
            go_meet
            case rel => exact ⟨_, ((t348 != (wrap64 (t341 + (wrap64 ((l0_1.length : Int) * a0_0)))))), (by first | rfl | (simp; done) | (simp [*]; done)), H', ⟨by have := HJ4.out; have := HJ44.out; first | omega | exact Nat.le_refl _⟩, ⟨by (with_reducible repeat (first | apply Kd.R_alloc | apply Kd.R_drewN | apply Kd.R_drew)); exact HO_14.out⟩, ⟨by (with_reducible repeat (first | refine blk_drewN ?_ _ | refine blk_drew ?_ | refine blk_alloc ?_ _)); exact BK332.out⟩, ⟨by repeat (first | (with_reducible first | exact HB.out | apply below_alloc | apply pw_below_drewN | apply below_drew1 | refine below_set ?_ GE332.out) | exact HB.out)⟩⟩
          ·
           rw [if_neg c72] at H
           have c72b0 : (t349 == 0) = false := beq_eq_false_iff_ne.mpr c72
           have c72b1 : (t349 != 0) = true := bne_iff_ne.mpr c72
           (first | rw [c72b0] | (simp only [i64_w, i32_w]; rw [c72b0]) | skip)
           as_aux_lemma =>
            have H' := Aside0.mk H
            clear H
            go_wp2
            repeat (go_quiet (fail); try go_wp2)
            go_meet
            case rel => exact ⟨_, (true), (by first | rfl | (simp; done) | (simp [*]; done)), H', ⟨by have := HJ4.out; have := HJ44.out; first | omega | exact Nat.le_refl _⟩, ⟨by (with_reducible repeat (first | apply Kd.R_alloc | apply Kd.R_drewN | apply Kd.R_drew)); exact HO_14.out⟩, ⟨by (with_reducible repeat (first | refine blk_drewN ?_ _ | refine blk_drew ?_ | refine blk_alloc ?_ _)); exact BK332.out⟩, ⟨by repeat (first | (with_reducible first | exact HB.out | apply below_alloc | apply pw_below_drewN | apply below_drew1 | refine below_set ?_ GE332.out) | exact HB.out)⟩⟩
         case rest =>
          clear HC69
          try clear c1
          try clear p2
          try clear c3
          try clear c5
          try clear c6
          try clear p6
          try clear c7
          try clear c8
          try clear c10
          try clear c12
          try clear c14
          try clear c15
          try clear c15b0
          try clear c39
          try clear c52
          try clear c52b0
          try clear c52b1
          try clear c53
          try clear c53b0
          try clear c53b1
          try clear c54
          try clear c54b0
          try clear c54b1
          try clear c55
          try clear c55b0
          try clear c55b1
          try clear c57
          try clear c57b0
          try clear c59
          try clear c59b0
          try clear c61
          try clear c61b0
          try clear c64
          try clear p64
          try clear c67
          try clear c72
          try clear c72b0
          try clear c72b1
          try clear hcz16_0
          try clear hcz16_1
          try clear hcz18_0
          try clear hcz18_1
          try clear hcz21_0
          try clear hcz21_1
          try clear hcz23_0
          try clear hcz23_1
          try clear hcz25_0
          try clear hcz25_1
          try clear hcz27_0
          try clear hcz27_1
          try clear hcz29_0
          try clear hcz29_1
          try clear hcz31_0
          try clear hcz31_1
          try clear hcz33_0
          try clear hcz33_1
          try clear hcz35_0
          try clear hcz35_1
          try clear hcz37_0
          try clear hcz37_1
          try clear hcz46_0
          try clear hcz46_1
          try clear hcz48_0
          try clear hcz48_1
          try clear hcz50_0
          try clear hcz50_1
          try clear hcz70_0
          try clear hcz70_1
          try clear hcz73_0
          try clear hcz73_1
          try clear hfz16_0
          try clear hfz16_1
          try clear hfz18_0
          try clear hfz18_1
          try clear hfz21_0
          try clear hfz21_1
          try clear hfz23_0
          try clear hfz23_1
          try clear hfz25_0
          try clear hfz25_1
          try clear hfz27_0
          try clear hfz27_1
          try clear hfz29_0
          try clear hfz29_1
          try clear hfz31_0
          try clear hfz31_1
          try clear hfz33_0
          try clear hfz33_1
          try clear hfz35_0
          try clear hfz35_1
          try clear hfz37_0
          try clear hfz37_1
          try clear hfz46_0
          try clear hfz46_1
          try clear hfz48_0
          try clear hfz48_1
          try clear hfz50_0
          try clear hfz50_1
          try clear hfz70_0
          try clear hfz70_1
          try clear hfz73_0
          try clear hfz73_1
          try clear p2
          obtain ⟨kq, x128_68, rfl, HA, HJ68, HO_14, BK332, HB⟩ := hcut
          cases kq with
          | zero => exact absurd HA.out (by simp [tellurionlaw04_CamTurns.j2])
          | succ kj68 =>
           have H := HA.out
           clear HA
           simp only [tellurionlaw04_CamTurns.j2] at H
           by_cases c74 : x128_68 = true
           ·
            subst c74
            have H1 : (some false) = some r := by rw [if_pos rfl] at H; exact H
            clear H
            have H := H1
            clear H1
            as_aux_lemma =>
             obtain rfl := Option.some.inj H
             go_wp2
             repeat (go_quiet (fail); try go_wp2)
             go_ret
             exact ⟨by first | rfl | (simp [errW_none, errW_some] <;> rfl) | (simp [*, errW_none, errW_some] <;> rfl), by repeat (first | (with_reducible first | exact HB.out | apply below_alloc | apply pw_below_drewN | apply below_drew1 | refine below_set ?_ GE332.out) | exact HB.out)⟩
           ·
            replace c74 := Bool.eq_false_iff.mpr c74
            subst c74
            have H1 : ((tellurionref04_Spot.f (wrap64 (a3 + (wrap64 ((l0_1.length : Int) * a0_0))))).bind fun t350 => (if t350 = true then ((cam_Passes.f kj68 a0_0 l0_1 (wrap64 (a3 + (wrap64 ((l0_1.length : Int) * a0_0)))) (wrap64 (a2 + (l0_1.length : Int)))).bind fun bt351 => (if bt351.2 = 0 then (tellurionlaw04_CamTurns.j3 kj68 a1 a2 a3 (l0_1.length : Int) t339 t341 t343 bt351.1 (decide ((bt351.1.length : Int) > 2001))) else (tellurionlaw04_CamTurns.j3 kj68 a1 a2 a3 (l0_1.length : Int) t339 t341 t343 bt351.1 true))) else (tellurionlaw04_CamTurns.j5 kj68 a1 a2 a3 t339 t341 t343))) = some r := by rw [if_neg (show ¬ (false = true) by decide)] at H; exact H
            clear H
            have H := H1
            clear H1
            replace H := Option.bind_eq_some_iff.mp H
            obtain ⟨t350, A750, H⟩ := H
            replace H : (if t350 = true then ((cam_Passes.f kj68 a0_0 l0_1 (wrap64 (a3 + (wrap64 ((l0_1.length : Int) * a0_0)))) (wrap64 (a2 + (l0_1.length : Int)))).bind fun bt351 => (if bt351.2 = 0 then (tellurionlaw04_CamTurns.j3 kj68 a1 a2 a3 (l0_1.length : Int) t339 t341 t343 bt351.1 (decide ((bt351.1.length : Int) > 2001))) else (tellurionlaw04_CamTurns.j3 kj68 a1 a2 a3 (l0_1.length : Int) t339 t341 t343 bt351.1 true))) else (tellurionlaw04_CamTurns.j5 kj68 a1 a2 a3 t339 t341 t343)) = some r := H
            have A75 := Aside0.mk A750
            clear A750
            by_cases c76 : t350 = true
            ·
             subst c76
             have H1 : ((cam_Passes.f kj68 a0_0 l0_1 (wrap64 (a3 + (wrap64 ((l0_1.length : Int) * a0_0)))) (wrap64 (a2 + (l0_1.length : Int)))).bind fun bt351 => (if bt351.2 = 0 then (tellurionlaw04_CamTurns.j3 kj68 a1 a2 a3 (l0_1.length : Int) t339 t341 t343 bt351.1 (decide ((bt351.1.length : Int) > 2001))) else (tellurionlaw04_CamTurns.j3 kj68 a1 a2 a3 (l0_1.length : Int) t339 t341 t343 bt351.1 true))) = some r := by rw [if_pos rfl] at H; exact H
             clear H
             have H := H1
             clear H1
             replace H := Option.bind_eq_some_iff.mp H
             obtain ⟨⟨t351, t354⟩, A770, H⟩ := H
             replace H : (if t354 = 0 then (tellurionlaw04_CamTurns.j3 kj68 a1 a2 a3 (l0_1.length : Int) t339 t341 t343 t351 (decide ((t351.length : Int) > 2001))) else (tellurionlaw04_CamTurns.j3 kj68 a1 a2 a3 (l0_1.length : Int) t339 t341 t343 t351 true)) = some r := H
             have A77 := Aside0.mk A770
             clear A770
             have HC78 := Aside0.mk H
             clear H
             have hcz79_0 : wc.cell? ⟨gb332, 0, none⟩ = some (.int .i64 a0_0) := (blk_cell BK332.out 0).trans rfl
             have hcz79_1 : wc.cell? ⟨gb332, 1, none⟩ = some (.slice A0_1 l0_1.length c0_1) := (blk_cell BK332.out 1).trans rfl
             have hfz79_0 := blk_frozen BK332.out 0
             have hfz79_1 := blk_frozen BK332.out 1
             go_upto_region 15 with (first | (go_at_call 27; (with_reducible refine (tellurionref04_Spot.calls (wrap64 (a3 + (wrap64 ((l0_1.length : Int) * a0_0)))) true _ A75.out).mono ?_); rintro e w' ⟨rfl, ⟨nd, rfl⟩⟩; (try first | exact ⟨rfl, _, World.drewN_drewN _ _ _⟩ | exact ⟨rfl, _, Eq.trans (World.drewN_drewN _ _ _) (congrArg (World.drewN _) (Nat.add_assoc _ _ _))⟩)) | (go_at_call 25; (with_reducible refine (cam_Passes.calls kj68 a0_0 _ _ l0_1 (wrap64 (a3 + (wrap64 ((l0_1.length : Int) * a0_0)))) (wrap64 (a2 + (l0_1.length : Int))) t351 t354 _ ?side1 ?side2 A77.out).mono ?_); (case side1 => repeat (first | exact (Kd.C_below HR0_1.out (by repeat (first | (with_reducible first | exact HB.out | apply below_alloc | apply pw_below_drewN | apply below_drew1 | refine below_set ?_ GE332.out) | exact HB.out))) | (with_reducible refine Kd.C_alloc ?_ _) | (with_reducible refine Kd.C_drewN ?_ _) | (with_reducible refine Kd.C_drew ?_))); (case side2 => exact HC0_1.out); rintro e w80 ⟨v352, rfl, ho0, hb⟩; have n0_ := Aside0.mk (Kd.R_elder' (by (with_reducible repeat (first | apply Kd.R_alloc | apply Kd.R_drewN | apply Kd.R_drew)); exact HO_14.out) (Kd.R_base ho0) hb); have n1_ := Aside0.mk (Kd.R_lower (Kd.R_new' ho0 (Kd.R_lt (by (with_reducible repeat (first | apply Kd.R_alloc | apply Kd.R_drewN | apply Kd.R_drew)); exact HO_14.out))) (below_size (by repeat (first | (with_reducible first | exact HB.out | apply below_alloc | apply pw_below_drewN | apply below_drew1 | refine below_set ?_ GE332.out) | exact HB.out)))); have n2_ := Aside0.mk (blk_below (g := gb332) (o := .cells #[.int .i64 a0_0, .slice A0_1 l0_1.length c0_1] 24 (0, 0)) (by (with_reducible repeat (first | refine blk_drewN ?_ _ | refine blk_drew ?_ | refine blk_alloc ?_ _)); exact BK332.out) hb); have n3_ := Aside0.mk (below_step (by repeat (first | (with_reducible first | exact HB.out | apply below_alloc | apply pw_below_drewN | apply below_drew1 | refine below_set ?_ GE332.out) | exact HB.out)) hb); clear HO_14; clear BK332; clear HB; have HO_14 := n0_; have HO353 := n1_; have BK332 := n2_; have HB := n3_; clear n0_ n1_ n2_ n3_; (try clear hb); (try clear hb2); (try clear hk); (try clear hi); (try clear ho0)))
             repeat (go_quiet (first | (go_at_call 27; (with_reducible refine (tellurionref04_Spot.calls (wrap64 (a3 + (wrap64 ((l0_1.length : Int) * a0_0)))) true _ A75.out).mono ?_); rintro e w' ⟨rfl, ⟨nd, rfl⟩⟩; (try first | exact ⟨rfl, _, World.drewN_drewN _ _ _⟩ | exact ⟨rfl, _, Eq.trans (World.drewN_drewN _ _ _) (congrArg (World.drewN _) (Nat.add_assoc _ _ _))⟩)) | (go_at_call 25; (with_reducible refine (cam_Passes.calls kj68 a0_0 _ _ l0_1 (wrap64 (a3 + (wrap64 ((l0_1.length : Int) * a0_0)))) (wrap64 (a2 + (l0_1.length : Int))) t351 t354 _ ?side1 ?side2 A77.out).mono ?_); (case side1 => repeat (first | exact (Kd.C_below HR0_1.out (by repeat (first | (with_reducible first | exact HB.out | apply below_alloc | apply pw_below_drewN | apply below_drew1 | refine below_set ?_ GE332.out) | exact HB.out))) | (with_reducible refine Kd.C_alloc ?_ _) | (with_reducible refine Kd.C_drewN ?_ _) | (with_reducible refine Kd.C_drew ?_))); (case side2 => exact HC0_1.out); rintro e w80 ⟨v352, rfl, ho0, hb⟩; have n0_ := Aside0.mk (Kd.R_elder' (by (with_reducible repeat (first | apply Kd.R_alloc | apply Kd.R_drewN | apply Kd.R_drew)); exact HO_14.out) (Kd.R_base ho0) hb); have n1_ := Aside0.mk (Kd.R_lower (Kd.R_new' ho0 (Kd.R_lt (by (with_reducible repeat (first | apply Kd.R_alloc | apply Kd.R_drewN | apply Kd.R_drew)); exact HO_14.out))) (below_size (by repeat (first | (with_reducible first | exact HB.out | apply below_alloc | apply pw_below_drewN | apply below_drew1 | refine below_set ?_ GE332.out) | exact HB.out)))); have n2_ := Aside0.mk (blk_below (g := gb332) (o := .cells #[.int .i64 a0_0, .slice A0_1 l0_1.length c0_1] 24 (0, 0)) (by (with_reducible repeat (first | refine blk_drewN ?_ _ | refine blk_drew ?_ | refine blk_alloc ?_ _)); exact BK332.out) hb); have n3_ := Aside0.mk (below_step (by repeat (first | (with_reducible first | exact HB.out | apply below_alloc | apply pw_below_drewN | apply below_drew1 | refine below_set ?_ GE332.out) | exact HB.out)) hb); clear HO_14; clear BK332; clear HB; have HO_14 := n0_; have HO353 := n1_; have BK332 := n2_; have HB := n3_; clear n0_ n1_ n2_ n3_; (try clear hb); (try clear hb2); (try clear hk); (try clear hi); (try clear ho0))); go_upto_region 15 with (first | (go_at_call 27; (with_reducible refine (tellurionref04_Spot.calls (wrap64 (a3 + (wrap64 ((l0_1.length : Int) * a0_0)))) true _ A75.out).mono ?_); rintro e w' ⟨rfl, ⟨nd, rfl⟩⟩; (try first | exact ⟨rfl, _, World.drewN_drewN _ _ _⟩ | exact ⟨rfl, _, Eq.trans (World.drewN_drewN _ _ _) (congrArg (World.drewN _) (Nat.add_assoc _ _ _))⟩)) | (go_at_call 25; (with_reducible refine (cam_Passes.calls kj68 a0_0 _ _ l0_1 (wrap64 (a3 + (wrap64 ((l0_1.length : Int) * a0_0)))) (wrap64 (a2 + (l0_1.length : Int))) t351 t354 _ ?side1 ?side2 A77.out).mono ?_); (case side1 => repeat (first | exact (Kd.C_below HR0_1.out (by repeat (first | (with_reducible first | exact HB.out | apply below_alloc | apply pw_below_drewN | apply below_drew1 | refine below_set ?_ GE332.out) | exact HB.out))) | (with_reducible refine Kd.C_alloc ?_ _) | (with_reducible refine Kd.C_drewN ?_ _) | (with_reducible refine Kd.C_drew ?_))); (case side2 => exact HC0_1.out); rintro e w80 ⟨v352, rfl, ho0, hb⟩; have n0_ := Aside0.mk (Kd.R_elder' (by (with_reducible repeat (first | apply Kd.R_alloc | apply Kd.R_drewN | apply Kd.R_drew)); exact HO_14.out) (Kd.R_base ho0) hb); have n1_ := Aside0.mk (Kd.R_lower (Kd.R_new' ho0 (Kd.R_lt (by (with_reducible repeat (first | apply Kd.R_alloc | apply Kd.R_drewN | apply Kd.R_drew)); exact HO_14.out))) (below_size (by repeat (first | (with_reducible first | exact HB.out | apply below_alloc | apply pw_below_drewN | apply below_drew1 | refine below_set ?_ GE332.out) | exact HB.out)))); have n2_ := Aside0.mk (blk_below (g := gb332) (o := .cells #[.int .i64 a0_0, .slice A0_1 l0_1.length c0_1] 24 (0, 0)) (by (with_reducible repeat (first | refine blk_drewN ?_ _ | refine blk_drew ?_ | refine blk_alloc ?_ _)); exact BK332.out) hb); have n3_ := Aside0.mk (below_step (by repeat (first | (with_reducible first | exact HB.out | apply below_alloc | apply pw_below_drewN | apply below_drew1 | refine below_set ?_ GE332.out) | exact HB.out)) hb); clear HO_14; clear BK332; clear HB; have HO_14 := n0_; have HO353 := n1_; have BK332 := n2_; have HB := n3_; clear n0_ n1_ n2_ n3_; (try clear hb); (try clear hb2); (try clear hk); (try clear hi); (try clear ho0))))
             (try simp only [Act.put, List.setIfInBounds_toArray, List.set_cons_zero, List.set_cons_succ])
             go_cut [156] (fun v156 wc => ∃ (kq : Nat) (x156_77 : Bool), v156 = .bool x156_77 ∧ Aside0 (tellurionlaw04_CamTurns.j3 kq a1 a2 a3 (l0_1.length : Int) t339 t341 t343 t351 x156_77 = some r) ∧ Aside0 (kq ≤ kj68) ∧ Aside0 (Kd.R (Kd.int .i64) 3 wc w.heap.size (fun k_ => some k_ ≠ (v352 : Value).ownBlock) v344 t343) ∧ Aside0 (Kd.R (Kd.int .i64) 3 wc w.heap.size (fun k_ => some k_ ≠ (v344 : Value).ownBlock) v352 t351) ∧ Aside0 (wc.heap[gb332]? = some (.cells #[.int .i64 a0_0, (.slice A0_1 l0_1.length c0_1)] 24 (0, 0))) ∧ Aside0 (Below w.heap.size w wc))
             case first =>
              have H := HC78.out
              clear HC78
              by_cases c81 : t354 = 0
              ·
               rw [if_pos c81] at H
               have c81b0 : (t354 == 0) = true := beq_iff_eq.mpr c81
               have c81b1 : (t354 != 0) = false := bne_eq_false_iff_eq.mpr c81
               clear c81
               (first | rw [c81b0] | (simp only [i64_w, i32_w]; rw [c81b0]) | skip)
               as_aux_lemma =>
                have H' := Aside0.mk H
                clear H
                obtain ⟨Ao82, co82, eo82⟩ := Kd.R_slice HO353.out
                subst eo82
                go_wp2
                repeat (go_quiet (fail); try go_wp2)
                go_meet
                case rel => exact ⟨_, (decide ((t351.length : Int) > 2001)), (by first | rfl | (simp; done) | (simp [*]; done)), H', ⟨by have := HJ4.out; have := HJ44.out; have := HJ68.out; first | omega | exact Nat.le_refl _⟩, ⟨by (with_reducible repeat (first | apply Kd.R_alloc | apply Kd.R_drewN | apply Kd.R_drew)); exact Kd.R_mono HO_14.out (fun _ hk => hk.2)⟩, ⟨by (with_reducible repeat (first | apply Kd.R_alloc | apply Kd.R_drewN | apply Kd.R_drew)); exact Kd.R_mono HO353.out (fun _ hk => hk.2)⟩, ⟨by (with_reducible repeat (first | refine blk_drewN ?_ _ | refine blk_drew ?_ | refine blk_alloc ?_ _)); exact BK332.out⟩, ⟨by repeat (first | (with_reducible first | exact HB.out | apply below_alloc | apply pw_below_drewN | apply below_drew1 | refine below_set ?_ GE332.out) | exact HB.out)⟩⟩
              ·
               rw [if_neg c81] at H
               have c81b0 : (t354 == 0) = false := beq_eq_false_iff_ne.mpr c81
               have c81b1 : (t354 != 0) = true := bne_iff_ne.mpr c81
               (first | rw [c81b0] | (simp only [i64_w, i32_w]; rw [c81b0]) | skip)
               as_aux_lemma =>
                have H' := Aside0.mk H
                clear H
                go_wp2
                repeat (go_quiet (fail); try go_wp2)
                go_meet
                case rel => exact ⟨_, (true), (by first | rfl | (simp; done) | (simp [*]; done)), H', ⟨by have := HJ4.out; have := HJ44.out; have := HJ68.out; first | omega | exact Nat.le_refl _⟩, ⟨by (with_reducible repeat (first | apply Kd.R_alloc | apply Kd.R_drewN | apply Kd.R_drew)); exact Kd.R_mono HO_14.out (fun _ hk => hk.2)⟩, ⟨by (with_reducible repeat (first | apply Kd.R_alloc | apply Kd.R_drewN | apply Kd.R_drew)); exact Kd.R_mono HO353.out (fun _ hk => hk.2)⟩, ⟨by (with_reducible repeat (first | refine blk_drewN ?_ _ | refine blk_drew ?_ | refine blk_alloc ?_ _)); exact BK332.out⟩, ⟨by repeat (first | (with_reducible first | exact HB.out | apply below_alloc | apply pw_below_drewN | apply below_drew1 | refine below_set ?_ GE332.out) | exact HB.out)⟩⟩
             case rest =>
              clear HC78
              try clear c1
              try clear p2
              try clear c3
              try clear c5
              try clear c6
              try clear p6
              try clear c7
              try clear c8
              try clear c10
              try clear c12
              try clear c14
              try clear c15
              try clear c15b0
              try clear c39
              try clear c52
              try clear c52b0
              try clear c52b1
              try clear c53
              try clear c53b0
              try clear c53b1
              try clear c54
              try clear c54b0
              try clear c54b1
              try clear c55
              try clear c55b0
              try clear c55b1
              try clear c57
              try clear c57b0
              try clear c59
              try clear c59b0
              try clear c61
              try clear c61b0
              try clear c64
              try clear p64
              try clear c67
              try clear c72
              try clear c72b0
              try clear c72b1
              try clear c74
              try clear c76
              try clear c81
              try clear c81b0
              try clear c81b1
              try clear hcz16_0
              try clear hcz16_1
              try clear hcz18_0
              try clear hcz18_1
              try clear hcz21_0
              try clear hcz21_1
              try clear hcz23_0
              try clear hcz23_1
              try clear hcz25_0
              try clear hcz25_1
              try clear hcz27_0
              try clear hcz27_1
              try clear hcz29_0
              try clear hcz29_1
              try clear hcz31_0
              try clear hcz31_1
              try clear hcz33_0
              try clear hcz33_1
              try clear hcz35_0
              try clear hcz35_1
              try clear hcz37_0
              try clear hcz37_1
              try clear hcz46_0
              try clear hcz46_1
              try clear hcz48_0
              try clear hcz48_1
              try clear hcz50_0
              try clear hcz50_1
              try clear hcz70_0
              try clear hcz70_1
              try clear hcz73_0
              try clear hcz73_1
              try clear hcz79_0
              try clear hcz79_1
              try clear hfz16_0
              try clear hfz16_1
              try clear hfz18_0
              try clear hfz18_1
              try clear hfz21_0
              try clear hfz21_1
              try clear hfz23_0
              try clear hfz23_1
              try clear hfz25_0
              try clear hfz25_1
              try clear hfz27_0
              try clear hfz27_1
              try clear hfz29_0
              try clear hfz29_1
              try clear hfz31_0
              try clear hfz31_1
              try clear hfz33_0
              try clear hfz33_1
              try clear hfz35_0
              try clear hfz35_1
              try clear hfz37_0
              try clear hfz37_1
              try clear hfz46_0
              try clear hfz46_1
              try clear hfz48_0
              try clear hfz48_1
              try clear hfz50_0
              try clear hfz50_1
              try clear hfz70_0
              try clear hfz70_1
              try clear hfz73_0
              try clear hfz73_1
              try clear hfz79_0
              try clear hfz79_1
              try clear p2
              try clear p6
              try clear p64
              obtain ⟨kq, x156_77, rfl, HA, HJ77, HO_14, HO_18, BK332, HB⟩ := hcut
              cases kq with
              | zero => exact absurd HA.out (by simp [tellurionlaw04_CamTurns.j3])
              | succ kj77 =>
               have H := HA.out
               clear HA
               simp only [tellurionlaw04_CamTurns.j3] at H
               by_cases c83 : x156_77 = true
               ·
                subst c83
                have H1 : (some false) = some r := by rw [if_pos rfl] at H; exact H
                clear H
                have H := H1
                clear H1
                as_aux_lemma =>
                 obtain rfl := Option.some.inj H
                 go_wp2
                 repeat (go_quiet (fail); try go_wp2)
                 go_ret
                 exact ⟨by first | rfl | (simp [errW_none, errW_some] <;> rfl) | (simp [*, errW_none, errW_some] <;> rfl), by repeat (first | (with_reducible first | exact HB.out | apply below_alloc | apply pw_below_drewN | apply below_drew1 | refine below_set ?_ GE332.out) | exact HB.out)⟩
               ·
                replace c83 := Bool.eq_false_iff.mpr c83
                subst c83
                have H1 : (tellurionlaw04_CamTurns.l0 kj77 a1 a2 a3 (l0_1.length : Int) t339 t341 t343 t351 0 0) = some r := by rw [if_neg (show ¬ (false = true) by decide)] at H; exact H
                clear H
                have H := H1
                clear H1
                have H' := Aside0.mk H
                clear H
                go_wp2
                repeat (go_quiet (fail); try go_wp2)
                go_loopg [20, 21] kj77 (fun kq v20 v21 w' => ∃ (x20_5 : Int) (x21_5 : Int), v20 = .int .i64 x20_5 ∧ v21 = .int .i64 x21_5 ∧ Aside0 (tellurionlaw04_CamTurns.l0 kq a1 a2 a3 (l0_1.length : Int) t339 t341 t343 t351 x20_5 x21_5 = some r) ∧ Aside0 (kq ≤ kj77) ∧ Aside0 (Kd.R (Kd.int .i64) 3 w' w.heap.size (fun k_ => some k_ ≠ (v352 : Value).ownBlock) v344 t343) ∧ Aside0 (Kd.R (Kd.int .i64) 3 w' w.heap.size (fun k_ => some k_ ≠ (v344 : Value).ownBlock) v352 t351) ∧ Aside0 (w'.heap[gb332]? = some (.cells #[.int .i64 a0_0, (.slice A0_1 l0_1.length c0_1)] 24 (0, 0))) ∧ Aside0 (Below w.heap.size w w'))
                case atStart => exact ⟨(0), (0), (by first | rfl | (simp; done) | (simp [*]; done)), (by first | rfl | (simp; done) | (simp [*]; done)), H', ⟨Nat.le_refl _⟩, ⟨by (with_reducible repeat (first | apply Kd.R_alloc | apply Kd.R_drewN | apply Kd.R_drew)); exact HO_14.out⟩, ⟨by (with_reducible repeat (first | apply Kd.R_alloc | apply Kd.R_drewN | apply Kd.R_drew)); exact HO_18.out⟩, ⟨by (with_reducible repeat (first | refine blk_drewN ?_ _ | refine blk_drew ?_ | refine blk_alloc ?_ _)); exact BK332.out⟩, ⟨by repeat (first | (with_reducible first | exact HB.out | apply below_alloc | apply pw_below_drewN | apply below_drew1 | refine below_set ?_ GE332.out) | exact HB.out)⟩⟩
                case round =>
                 clear H'
                 try clear c1
                 try clear p2
                 try clear c3
                 try clear c5
                 try clear c6
                 try clear p6
                 try clear c7
                 try clear c8
                 try clear c10
                 try clear c12
                 try clear c14
                 try clear c15
                 try clear c15b0
                 try clear c39
                 try clear c52
                 try clear c52b0
                 try clear c52b1
                 try clear c53
                 try clear c53b0
                 try clear c53b1
                 try clear c54
                 try clear c54b0
                 try clear c54b1
                 try clear c55
                 try clear c55b0
                 try clear c55b1
                 try clear c57
                 try clear c57b0
                 try clear c59
                 try clear c59b0
                 try clear c61
                 try clear c61b0
                 try clear c64
                 try clear p64
                 try clear c67
                 try clear c72
                 try clear c72b0
                 try clear c72b1
                 try clear c74
                 try clear c76
                 try clear c81
                 try clear c81b0
                 try clear c81b1
                 try clear c83
                 try clear hcz16_0
                 try clear hcz16_1
                 try clear hcz18_0
                 try clear hcz18_1
                 try clear hcz21_0
                 try clear hcz21_1
                 try clear hcz23_0
                 try clear hcz23_1
                 try clear hcz25_0
                 try clear hcz25_1
                 try clear hcz27_0
                 try clear hcz27_1
                 try clear hcz29_0
                 try clear hcz29_1
                 try clear hcz31_0
                 try clear hcz31_1
                 try clear hcz33_0
                 try clear hcz33_1
                 try clear hcz35_0
                 try clear hcz35_1
                 try clear hcz37_0
                 try clear hcz37_1
                 try clear hcz46_0
                 try clear hcz46_1
                 try clear hcz48_0
                 try clear hcz48_1
                 try clear hcz50_0
                 try clear hcz50_1
                 try clear hcz70_0
                 try clear hcz70_1
                 try clear hcz73_0
                 try clear hcz73_1
                 try clear hcz79_0
                 try clear hcz79_1
                 try clear hfz16_0
                 try clear hfz16_1
                 try clear hfz18_0
                 try clear hfz18_1
                 try clear hfz21_0
                 try clear hfz21_1
                 try clear hfz23_0
                 try clear hfz23_1
                 try clear hfz25_0
                 try clear hfz25_1
                 try clear hfz27_0
                 try clear hfz27_1
                 try clear hfz29_0
                 try clear hfz29_1
                 try clear hfz31_0
                 try clear hfz31_1
                 try clear hfz33_0
                 try clear hfz33_1
                 try clear hfz35_0
                 try clear hfz35_1
                 try clear hfz37_0
                 try clear hfz37_1
                 try clear hfz46_0
                 try clear hfz46_1
                 try clear hfz48_0
                 try clear hfz48_1
                 try clear hfz50_0
                 try clear hfz50_1
                 try clear hfz70_0
                 try clear hfz70_1
                 try clear hfz73_0
                 try clear hfz73_1
                 try clear hfz79_0
                 try clear hfz79_1
                 try clear p2
                 try clear p6
                 try clear p64
                 obtain ⟨x20_5, x21_5, rfl, rfl, HA, HK5, HO_14, HO_18, BK332, HB⟩ := hrel
                 cases gk with
                 | zero => exact absurd HA.out (by simp [tellurionlaw04_CamTurns.l0])
                 | succ k5 =>
                  have H := HA.out
                  clear HA
                  simp only [tellurionlaw04_CamTurns.l0] at H
                  by_cases c84 : x21_5 < (t351.length : Int)
                  ·
                   rw [if_pos c84] at H
                   have c84b0 : decide (x21_5 < (t351.length : Int)) = true := decide_eq_true c84
                   clear c84
                   by_cases c85 : 0 ≤ x21_5
                   ·
                    rw [if_pos c85] at H
                    have c85b0 : decide (0 ≤ x21_5) = true := decide_eq_true c85
                    clear c85
                    by_cases c86 : (rd t351 x21_5) ≥ (l0_1.length : Int)
                    ·
                     rw [if_pos c86] at H
                     have c86b0 : decide ((l0_1.length : Int) ≤ (rd t351 x21_5)) = true := decide_eq_true c86
                     clear c86
                     by_cases c87 : x20_5 ≥ (t343.length : Int)
                     ·
                      rw [if_pos c87] at H
                      have c87b0 : decide ((t343.length : Int) ≤ x20_5) = true := decide_eq_true c87
                      clear c87
                      as_aux_lemma =>
                       obtain rfl := Option.some.inj H
                       obtain ⟨Ao88, co88, eo88⟩ := Kd.R_slice HO_18.out
                       subst eo88
                       have p355 : 0 ≤ (x21_5 : Int) := of_decide_eq_true (by first | (with_reducible assumption) | assumption)
                       have q355 : x21_5 < (t351.length : Int) := of_decide_eq_true (by first | (with_reducible assumption) | assumption)
                       obtain ⟨ad355, e355, hx355_0⟩ := Kd.at_int (Kd.R_reads' HO_18.out).2.2 x21_5 p355 q355
                       cases e355
                       replace p355 := eq_true p355
                       replace q355 := eq_true q355
                       obtain ⟨Ao89, co89, eo89⟩ := Kd.R_slice HO_14.out
                       subst eo89
                       go_wp2
                       repeat (go_quiet (fail); try go_wp2)
                       go_ret
                       exact ⟨by first | rfl | (simp [errW_none, errW_some] <;> rfl) | (simp [*, errW_none, errW_some] <;> rfl), by repeat (first | (with_reducible first | exact HB.out | apply below_alloc | apply pw_below_drewN | apply below_drew1 | refine below_set ?_ GE332.out) | exact HB.out)⟩
                     ·
                      rw [if_neg c87] at H
                      have c87b0 : decide ((t343.length : Int) ≤ x20_5) = false := decide_eq_false c87
                      clear c87
                      by_cases c90 : 0 ≤ x20_5
                      ·
                       rw [if_pos c90] at H
                       have c90b0 : decide (0 ≤ x20_5) = true := decide_eq_true c90
                       clear c90
                       by_cases c91 : x20_5 < (t343.length : Int)
                       ·
                        rw [if_pos c91] at H
                        have c91b0 : decide (x20_5 < (t343.length : Int)) = true := decide_eq_true c91
                        clear c91
                        by_cases c92 : (rd t351 x21_5) = (wrap64 ((rd t343 x20_5) + (l0_1.length : Int)))
                        ·
                         rw [if_pos c92] at H
                         have c92b0 : ((rd t351 x21_5) == (wrap64 ((rd t343 x20_5) + (l0_1.length : Int)))) = true := beq_iff_eq.mpr c92
                         have c92b1 : ((rd t351 x21_5) != (wrap64 ((rd t343 x20_5) + (l0_1.length : Int)))) = false := bne_eq_false_iff_eq.mpr c92
                         clear c92
                         as_aux_lemma =>
                          have H' := Aside0.mk H
                          clear H
                          obtain ⟨Ao93, co93, eo93⟩ := Kd.R_slice HO_18.out
                          subst eo93
                          have p355 : 0 ≤ (x21_5 : Int) := of_decide_eq_true (by first | (with_reducible assumption) | assumption)
                          have q355 : x21_5 < (t351.length : Int) := of_decide_eq_true (by first | (with_reducible assumption) | assumption)
                          obtain ⟨ad355, e355, hx355_0⟩ := Kd.at_int (Kd.R_reads' HO_18.out).2.2 x21_5 p355 q355
                          cases e355
                          replace p355 := eq_true p355
                          replace q355 := eq_true q355
                          obtain ⟨Ao94, co94, eo94⟩ := Kd.R_slice HO_14.out
                          subst eo94
                          have p356 : 0 ≤ (x21_5 : Int) := of_decide_eq_true (by first | (with_reducible assumption) | assumption)
                          have q356 : x21_5 < (t351.length : Int) := of_decide_eq_true (by first | (with_reducible assumption) | assumption)
                          obtain ⟨ad356, e356, hx356_0⟩ := Kd.at_int (Kd.R_reads' HO_18.out).2.2 x21_5 p356 q356
                          obtain rfl : ad355 = ad356 := (by injection e356)
                          replace p356 := eq_true p356
                          replace q356 := eq_true q356
                          have p357 : 0 ≤ (x20_5 : Int) := of_decide_eq_true (by first | (with_reducible assumption) | assumption)
                          have q357 : x20_5 < (t343.length : Int) := of_decide_eq_true (by first | (with_reducible assumption) | assumption)
                          obtain ⟨ad357, e357, hx357_0⟩ := Kd.at_int (Kd.R_reads' HO_14.out).2.2 x20_5 p357 q357
                          cases e357
                          replace p357 := eq_true p357
                          replace q357 := eq_true q357
                          go_wp2
                          repeat (go_quiet (fail); try go_wp2)
                          go_roundg k5
                          case measure => have := HJ4.out; have := HJ44.out; have := HJ68.out; have := HJ77.out; have := HK5.out; omega
                          case rel => exact ⟨(wrap64 (x20_5 + 1)), (wrap64 (x21_5 + 1)), (by first | rfl | (simp; done) | (simp [*]; done)), (by first | rfl | (simp; done) | (simp [*]; done)), H', ⟨by have := HJ4.out; have := HJ44.out; have := HJ68.out; have := HJ77.out; have := HK5.out; omega⟩, ⟨by (with_reducible repeat (first | apply Kd.R_alloc | apply Kd.R_drewN | apply Kd.R_drew)); exact HO_14.out⟩, ⟨by (with_reducible repeat (first | apply Kd.R_alloc | apply Kd.R_drewN | apply Kd.R_drew)); exact HO_18.out⟩, ⟨by (with_reducible repeat (first | refine blk_drewN ?_ _ | refine blk_drew ?_ | refine blk_alloc ?_ _)); exact BK332.out⟩, ⟨by repeat (first | (with_reducible first | exact HB.out | apply below_alloc | apply pw_below_drewN | apply below_drew1 | refine below_set ?_ GE332.out) | exact HB.out)⟩⟩
                        ·
                         rw [if_neg c92] at H
                         have c92b0 : ((rd t351 x21_5) == (wrap64 ((rd t343 x20_5) + (l0_1.length : Int)))) = false := beq_eq_false_iff_ne.mpr c92
                         have c92b1 : ((rd t351 x21_5) != (wrap64 ((rd t343 x20_5) + (l0_1.length : Int)))) = true := bne_iff_ne.mpr c92
                         as_aux_lemma =>
                          obtain rfl := Option.some.inj H
                          obtain ⟨Ao95, co95, eo95⟩ := Kd.R_slice HO_18.out
                          subst eo95
                          have p355 : 0 ≤ (x21_5 : Int) := of_decide_eq_true (by first | (with_reducible assumption) | assumption)
                          have q355 : x21_5 < (t351.length : Int) := of_decide_eq_true (by first | (with_reducible assumption) | assumption)
                          obtain ⟨ad355, e355, hx355_0⟩ := Kd.at_int (Kd.R_reads' HO_18.out).2.2 x21_5 p355 q355
                          cases e355
                          replace p355 := eq_true p355
                          replace q355 := eq_true q355
                          obtain ⟨Ao96, co96, eo96⟩ := Kd.R_slice HO_14.out
                          subst eo96
                          have p356 : 0 ≤ (x21_5 : Int) := of_decide_eq_true (by first | (with_reducible assumption) | assumption)
                          have q356 : x21_5 < (t351.length : Int) := of_decide_eq_true (by first | (with_reducible assumption) | assumption)
                          obtain ⟨ad356, e356, hx356_0⟩ := Kd.at_int (Kd.R_reads' HO_18.out).2.2 x21_5 p356 q356
                          obtain rfl : ad355 = ad356 := (by injection e356)
                          replace p356 := eq_true p356
                          replace q356 := eq_true q356
                          have p357 : 0 ≤ (x20_5 : Int) := of_decide_eq_true (by first | (with_reducible assumption) | assumption)
                          have q357 : x20_5 < (t343.length : Int) := of_decide_eq_true (by first | (with_reducible assumption) | assumption)
                          obtain ⟨ad357, e357, hx357_0⟩ := Kd.at_int (Kd.R_reads' HO_14.out).2.2 x20_5 p357 q357
                          cases e357
                          replace p357 := eq_true p357
                          replace q357 := eq_true q357
                          go_wp2
                          repeat (go_quiet (fail); try go_wp2)
                          go_ret
                          exact ⟨by first | rfl | (simp [errW_none, errW_some] <;> rfl) | (simp [*, errW_none, errW_some] <;> rfl), by repeat (first | (with_reducible first | exact HB.out | apply below_alloc | apply pw_below_drewN | apply below_drew1 | refine below_set ?_ GE332.out) | exact HB.out)⟩
                       ·
                        rw [if_neg c91] at H
                        exact absurd H (by simp)
                      ·
                       rw [if_neg c90] at H
                       exact absurd H (by simp)
                    ·
                     rw [if_neg c86] at H
                     have c86b0 : decide ((l0_1.length : Int) ≤ (rd t351 x21_5)) = false := decide_eq_false c86
                     clear c86
                     as_aux_lemma =>
                      have H' := Aside0.mk H
                      clear H
                      obtain ⟨Ao97, co97, eo97⟩ := Kd.R_slice HO_18.out
                      subst eo97
                      have p355 : 0 ≤ (x21_5 : Int) := of_decide_eq_true (by first | (with_reducible assumption) | assumption)
                      have q355 : x21_5 < (t351.length : Int) := of_decide_eq_true (by first | (with_reducible assumption) | assumption)
                      obtain ⟨ad355, e355, hx355_0⟩ := Kd.at_int (Kd.R_reads' HO_18.out).2.2 x21_5 p355 q355
                      cases e355
                      replace p355 := eq_true p355
                      replace q355 := eq_true q355
                      go_wp2
                      repeat (go_quiet (fail); try go_wp2)
                      go_roundg k5
                      case measure => have := HJ4.out; have := HJ44.out; have := HJ68.out; have := HJ77.out; have := HK5.out; omega
                      case rel => exact ⟨(x20_5), (wrap64 (x21_5 + 1)), (by first | rfl | (simp; done) | (simp [*]; done)), (by first | rfl | (simp; done) | (simp [*]; done)), H', ⟨by have := HJ4.out; have := HJ44.out; have := HJ68.out; have := HJ77.out; have := HK5.out; omega⟩, ⟨by (with_reducible repeat (first | apply Kd.R_alloc | apply Kd.R_drewN | apply Kd.R_drew)); exact HO_14.out⟩, ⟨by (with_reducible repeat (first | apply Kd.R_alloc | apply Kd.R_drewN | apply Kd.R_drew)); exact HO_18.out⟩, ⟨by (with_reducible repeat (first | refine blk_drewN ?_ _ | refine blk_drew ?_ | refine blk_alloc ?_ _)); exact BK332.out⟩, ⟨by repeat (first | (with_reducible first | exact HB.out | apply below_alloc | apply pw_below_drewN | apply below_drew1 | refine below_set ?_ GE332.out) | exact HB.out)⟩⟩
                   ·
                    rw [if_neg c85] at H
                    exact absurd H (by simp)
                  ·
                   rw [if_neg c84] at H
                   have c84b0 : decide (x21_5 < (t351.length : Int)) = false := decide_eq_false c84
                   clear c84
                   by_cases c98 : x20_5 = (t343.length : Int)
                   ·
                    rw [if_pos c98] at H
                    have c98b0 : (x20_5 == (t343.length : Int)) = true := beq_iff_eq.mpr c98
                    have c98b1 : (x20_5 != (t343.length : Int)) = false := bne_eq_false_iff_eq.mpr c98
                    clear c98
                    as_aux_lemma =>
                     have H' := Aside0.mk H
                     clear H
                     obtain ⟨Ao99, co99, eo99⟩ := Kd.R_slice HO_18.out
                     subst eo99
                     obtain ⟨Ao100, co100, eo100⟩ := Kd.R_slice HO_14.out
                     subst eo100
                     go_wp2
                     repeat (go_quiet (fail); try go_wp2)
                     go_meet
                     case rel => exact ⟨_, H', ⟨by have := HJ4.out; have := HJ44.out; have := HJ68.out; have := HJ77.out; have := HK5.out; first | omega | exact Nat.le_refl _⟩, ⟨by (with_reducible repeat (first | apply Kd.R_alloc | apply Kd.R_drewN | apply Kd.R_drew)); exact Kd.R_mono HO_14.out (fun _ hk => trivial)⟩, ⟨by (with_reducible repeat (first | refine blk_drewN ?_ _ | refine blk_drew ?_ | refine blk_alloc ?_ _)); exact BK332.out⟩, ⟨by repeat (first | (with_reducible first | exact HB.out | apply below_alloc | apply pw_below_drewN | apply below_drew1 | refine below_set ?_ GE332.out) | exact HB.out)⟩⟩
                   ·
                    rw [if_neg c98] at H
                    have c98b0 : (x20_5 == (t343.length : Int)) = false := beq_eq_false_iff_ne.mpr c98
                    have c98b1 : (x20_5 != (t343.length : Int)) = true := bne_iff_ne.mpr c98
                    as_aux_lemma =>
                     obtain rfl := Option.some.inj H
                     obtain ⟨Ao101, co101, eo101⟩ := Kd.R_slice HO_18.out
                     subst eo101
                     obtain ⟨Ao102, co102, eo102⟩ := Kd.R_slice HO_14.out
                     subst eo102
                     go_wp2
                     repeat (go_quiet (fail); try go_wp2)
                     go_ret
                     exact ⟨by first | rfl | (simp [errW_none, errW_some] <;> rfl) | (simp [*, errW_none, errW_some] <;> rfl), by repeat (first | (with_reducible first | exact HB.out | apply below_alloc | apply pw_below_drewN | apply below_drew1 | refine below_set ?_ GE332.out) | exact HB.out)⟩
            ·
             replace c76 := Bool.eq_false_iff.mpr c76
             subst c76
             have H1 : (tellurionlaw04_CamTurns.j5 kj68 a1 a2 a3 t339 t341 t343) = some r := by rw [if_neg (show ¬ (false = true) by decide)] at H; exact H
             clear H
             have H := H1
             clear H1
             as_aux_lemma =>
              have H' := Aside0.mk H
              clear H
              have hcz103_0 : wc.cell? ⟨gb332, 0, none⟩ = some (.int .i64 a0_0) := (blk_cell BK332.out 0).trans rfl
              have hcz103_1 : wc.cell? ⟨gb332, 1, none⟩ = some (.slice A0_1 l0_1.length c0_1) := (blk_cell BK332.out 1).trans rfl
              have hfz103_0 := blk_frozen BK332.out 0
              have hfz103_1 := blk_frozen BK332.out 1
              go_wp2_with (first | (go_at_call 27; (with_reducible refine (tellurionref04_Spot.calls (wrap64 (a3 + (wrap64 ((l0_1.length : Int) * a0_0)))) false _ A75.out).mono ?_); rintro e w' ⟨rfl, ⟨nd, rfl⟩⟩; (try first | exact ⟨rfl, _, World.drewN_drewN _ _ _⟩ | exact ⟨rfl, _, Eq.trans (World.drewN_drewN _ _ _) (congrArg (World.drewN _) (Nat.add_assoc _ _ _))⟩)))
              repeat (go_quiet (first | (go_at_call 27; (with_reducible refine (tellurionref04_Spot.calls (wrap64 (a3 + (wrap64 ((l0_1.length : Int) * a0_0)))) false _ A75.out).mono ?_); rintro e w' ⟨rfl, ⟨nd, rfl⟩⟩; (try first | exact ⟨rfl, _, World.drewN_drewN _ _ _⟩ | exact ⟨rfl, _, Eq.trans (World.drewN_drewN _ _ _) (congrArg (World.drewN _) (Nat.add_assoc _ _ _))⟩))); try go_wp2_with (first | (go_at_call 27; (with_reducible refine (tellurionref04_Spot.calls (wrap64 (a3 + (wrap64 ((l0_1.length : Int) * a0_0)))) false _ A75.out).mono ?_); rintro e w' ⟨rfl, ⟨nd, rfl⟩⟩; (try first | exact ⟨rfl, _, World.drewN_drewN _ _ _⟩ | exact ⟨rfl, _, Eq.trans (World.drewN_drewN _ _ _) (congrArg (World.drewN _) (Nat.add_assoc _ _ _))⟩))))
              go_meet
              case rel => exact ⟨_, H', ⟨by have := HJ4.out; have := HJ44.out; have := HJ68.out; first | omega | exact Nat.le_refl _⟩, ⟨by (with_reducible repeat (first | apply Kd.R_alloc | apply Kd.R_drewN | apply Kd.R_drew)); exact HO_14.out⟩, ⟨by (with_reducible repeat (first | refine blk_drewN ?_ _ | refine blk_drew ?_ | refine blk_alloc ?_ _)); exact BK332.out⟩, ⟨by repeat (first | (with_reducible first | exact HB.out | apply below_alloc | apply pw_below_drewN | apply below_drew1 | refine below_set ?_ GE332.out) | exact HB.out)⟩⟩
        ·
         replace c67 := Bool.eq_false_iff.mpr c67
         subst c67
         have H1 : (tellurionlaw04_CamTurns.j5 kj44 a1 a2 a3 t339 t341 t343) = some r := by rw [if_neg (show ¬ (false = true) by decide)] at H; exact H
         clear H
         have H := H1
         clear H1
         as_aux_lemma =>
          have H' := Aside0.mk H
          clear H
          go_wp2
          repeat (go_quiet (fail); try go_wp2)
          go_meet
          case rel => exact ⟨_, H', ⟨by have := HJ4.out; have := HJ44.out; first | omega | exact Nat.le_refl _⟩, ⟨by (with_reducible repeat (first | apply Kd.R_alloc | apply Kd.R_drewN | apply Kd.R_drew)); exact HO_14.out⟩, ⟨by (with_reducible repeat (first | refine blk_drewN ?_ _ | refine blk_drew ?_ | refine blk_alloc ?_ _)); exact BK332.out⟩, ⟨by repeat (first | (with_reducible first | exact HB.out | apply below_alloc | apply pw_below_drewN | apply below_drew1 | refine below_set ?_ GE332.out) | exact HB.out)⟩⟩
       case rest =>
        clear HC66
        try clear c1
        try clear p2
        try clear c3
        try clear p3
        try clear q3
        try clear hx3
        try clear c5
        try clear c6
        try clear p6
        try clear c7
        try clear c8
        try clear c9
        try clear c10
        try clear c12
        try clear c14
        try clear c15
        try clear c15b0
        try clear p35
        try clear q35
        try clear hx35
        try clear c39
        try clear c52
        try clear c52b0
        try clear c52b1
        try clear c53
        try clear c53b0
        try clear c53b1
        try clear c54
        try clear c54b0
        try clear c54b1
        try clear c55
        try clear c55b0
        try clear c55b1
        try clear c57
        try clear c57b0
        try clear c59
        try clear c59b0
        try clear c61
        try clear c61b0
        try clear c64
        try clear p64
        try clear c67
        try clear c72
        try clear c72b0
        try clear c72b1
        try clear c74
        try clear c76
        try clear c81
        try clear c81b0
        try clear c81b1
        try clear c83
        try clear c84
        try clear c84b0
        try clear c85
        try clear c85b0
        try clear c86
        try clear c86b0
        try clear c87
        try clear c87b0
        try clear c90
        try clear c90b0
        try clear c91
        try clear c91b0
        try clear c92
        try clear c92b0
        try clear c92b1
        try clear c98
        try clear c98b0
        try clear c98b1
        try clear hcz103_0
        try clear hcz103_1
        try clear hcz16_0
        try clear hcz16_1
        try clear hcz18_0
        try clear hcz18_1
        try clear hcz21_0
        try clear hcz21_1
        try clear hcz23_0
        try clear hcz23_1
        try clear hcz25_0
        try clear hcz25_1
        try clear hcz27_0
        try clear hcz27_1
        try clear hcz29_0
        try clear hcz29_1
        try clear hcz31_0
        try clear hcz31_1
        try clear hcz33_0
        try clear hcz33_1
        try clear hcz35_0
        try clear hcz35_1
        try clear hcz37_0
        try clear hcz37_1
        try clear hcz46_0
        try clear hcz46_1
        try clear hcz48_0
        try clear hcz48_1
        try clear hcz50_0
        try clear hcz50_1
        try clear hcz70_0
        try clear hcz70_1
        try clear hcz73_0
        try clear hcz73_1
        try clear hcz79_0
        try clear hcz79_1
        try clear hfz103_0
        try clear hfz103_1
        try clear hfz16_0
        try clear hfz16_1
        try clear hfz18_0
        try clear hfz18_1
        try clear hfz21_0
        try clear hfz21_1
        try clear hfz23_0
        try clear hfz23_1
        try clear hfz25_0
        try clear hfz25_1
        try clear hfz27_0
        try clear hfz27_1
        try clear hfz29_0
        try clear hfz29_1
        try clear hfz31_0
        try clear hfz31_1
        try clear hfz33_0
        try clear hfz33_1
        try clear hfz35_0
        try clear hfz35_1
        try clear hfz37_0
        try clear hfz37_1
        try clear hfz46_0
        try clear hfz46_1
        try clear hfz48_0
        try clear hfz48_1
        try clear hfz50_0
        try clear hfz50_1
        try clear hfz70_0
        try clear hfz70_1
        try clear hfz73_0
        try clear hfz73_1
        try clear hfz79_0
        try clear hfz79_1
        try clear hx355_0
        try clear hx356_0
        try clear hx357_0
        try clear p2
        try clear p355
        try clear p356
        try clear p357
        try clear p6
        try clear p64
        try clear q355
        try clear q356
        try clear q357
        obtain ⟨kq, HA, HJ65, HO_14, BK332, HB⟩ := hcut
        cases kq with
        | zero => exact absurd HA.out (by simp [tellurionlaw04_CamTurns.j5])
        | succ kj65 =>
         have H := HA.out
         clear HA
         simp only [tellurionlaw04_CamTurns.j5] at H
         have HC104 := Aside0.mk H
         clear H
         go_upto_region 27 with (fail)
         repeat (go_quiet (fail); go_upto_region 27 with (fail))
         go_cut [203] (fun v203 wc => ∃ (kq : Nat) (x203_103 : Bool), v203 = .bool x203_103 ∧ Aside0 (tellurionlaw04_CamTurns.j6 kq a1 a2 t343 x203_103 = some r) ∧ Aside0 (kq ≤ kj65) ∧ Aside0 (Kd.R (Kd.int .i64) 3 wc w.heap.size (fun _ => True) v344 t343) ∧ Aside0 (wc.heap[gb332]? = some (.cells #[.int .i64 a0_0, (.slice A0_1 l0_1.length c0_1)] 24 (0, 0))) ∧ Aside0 (Below w.heap.size w wc))
         case first =>
          have H := HC104.out
          clear HC104
          obtain ⟨ji105, hji105⟩ : ∃ j_ : Int, (mn t339 t341) = j_ := ⟨_, rfl⟩
          replace H : (if a3 < (ji105) then (tellurionlaw04_CamTurns.j6 kj65 a1 a2 t343 true) else (tellurionlaw04_CamTurns.j6 kj65 a1 a2 t343 (decide (a3 > (mx t339 t341))))) = some r := by first | (rw [hji105] at H; exact H) | (simp only [hji105] at H ⊢; exact H)
          have hji105_ : (if t341 < t339 then t341 else t339) = ji105 := hji105
          by_cases c106 : a3 < (ji105)
          ·
           rw [if_pos c106] at H
           have c106b0 : decide (a3 < (ji105)) = true := decide_eq_true c106
           clear c106
           (first | rw [c106b0] | (simp only [i64_w, i32_w]; rw [c106b0]) | skip)
           as_aux_lemma =>
            have H' := Aside0.mk H
            clear H
            go_wp2
            repeat (go_quiet (fail); try go_wp2)
            go_meet
            case rel => exact ⟨_, (true), (by first | rfl | (simp; done) | (simp [*]; done)), H', ⟨by have := HJ4.out; have := HJ44.out; have := HJ65.out; first | omega | exact Nat.le_refl _⟩, ⟨by (with_reducible repeat (first | apply Kd.R_alloc | apply Kd.R_drewN | apply Kd.R_drew)); exact HO_14.out⟩, ⟨by (with_reducible repeat (first | refine blk_drewN ?_ _ | refine blk_drew ?_ | refine blk_alloc ?_ _)); exact BK332.out⟩, ⟨by repeat (first | (with_reducible first | exact HB.out | apply below_alloc | apply pw_below_drewN | apply below_drew1 | refine below_set ?_ GE332.out) | exact HB.out)⟩⟩
          ·
           rw [if_neg c106] at H
           have c106b0 : decide (a3 < (ji105)) = false := decide_eq_false c106
           clear c106
           (first | rw [c106b0] | (simp only [i64_w, i32_w]; rw [c106b0]) | skip)
           obtain ⟨ji107, hji107⟩ : ∃ j_ : Int, (mx t339 t341) = j_ := ⟨_, rfl⟩
           replace H : (tellurionlaw04_CamTurns.j6 kj65 a1 a2 t343 (decide (a3 > (ji107)))) = some r := by first | (rw [hji107] at H; exact H) | (simp only [hji107] at H ⊢; exact H)
           have hji107_ : (if t339 < t341 then t341 else t339) = ji107 := hji107
           as_aux_lemma =>
            have H' := Aside0.mk H
            clear H
            go_wp2
            repeat (go_quiet (fail); try go_wp2)
            go_meet
            case rel => exact ⟨_, (decide (a3 > (ji107))), (by first | rfl | (simp; done) | (simp only [← hji107] <;> (first | rfl | simp)) | (simp [*]; done)), H', ⟨by have := HJ4.out; have := HJ44.out; have := HJ65.out; first | omega | exact Nat.le_refl _⟩, ⟨by (with_reducible repeat (first | apply Kd.R_alloc | apply Kd.R_drewN | apply Kd.R_drew)); exact HO_14.out⟩, ⟨by (with_reducible repeat (first | refine blk_drewN ?_ _ | refine blk_drew ?_ | refine blk_alloc ?_ _)); exact BK332.out⟩, ⟨by repeat (first | (with_reducible first | exact HB.out | apply below_alloc | apply pw_below_drewN | apply below_drew1 | refine below_set ?_ GE332.out) | exact HB.out)⟩⟩
         case rest =>
          clear HC104
          try clear c1
          try clear p2
          try clear c3
          try clear p3
          try clear q3
          try clear hx3
          try clear c5
          try clear c6
          try clear p6
          try clear c7
          try clear c8
          try clear c9
          try clear c10
          try clear c12
          try clear c14
          try clear c15
          try clear c15b0
          try clear p35
          try clear q35
          try clear hx35
          try clear c39
          try clear c52
          try clear c52b0
          try clear c52b1
          try clear c53
          try clear c53b0
          try clear c53b1
          try clear c54
          try clear c54b0
          try clear c54b1
          try clear c55
          try clear c55b0
          try clear c55b1
          try clear c57
          try clear c57b0
          try clear c59
          try clear c59b0
          try clear c61
          try clear c61b0
          try clear c64
          try clear p64
          try clear c67
          try clear c72
          try clear c72b0
          try clear c72b1
          try clear c74
          try clear c76
          try clear c81
          try clear c81b0
          try clear c81b1
          try clear c83
          try clear c84
          try clear c84b0
          try clear c85
          try clear c85b0
          try clear c86
          try clear c86b0
          try clear c87
          try clear c87b0
          try clear c90
          try clear c90b0
          try clear c91
          try clear c91b0
          try clear c92
          try clear c92b0
          try clear c92b1
          try clear c98
          try clear c98b0
          try clear c98b1
          try clear c106
          try clear c106b0
          try clear hcz103_0
          try clear hcz103_1
          try clear hcz16_0
          try clear hcz16_1
          try clear hcz18_0
          try clear hcz18_1
          try clear hcz21_0
          try clear hcz21_1
          try clear hcz23_0
          try clear hcz23_1
          try clear hcz25_0
          try clear hcz25_1
          try clear hcz27_0
          try clear hcz27_1
          try clear hcz29_0
          try clear hcz29_1
          try clear hcz31_0
          try clear hcz31_1
          try clear hcz33_0
          try clear hcz33_1
          try clear hcz35_0
          try clear hcz35_1
          try clear hcz37_0
          try clear hcz37_1
          try clear hcz46_0
          try clear hcz46_1
          try clear hcz48_0
          try clear hcz48_1
          try clear hcz50_0
          try clear hcz50_1
          try clear hcz70_0
          try clear hcz70_1
          try clear hcz73_0
          try clear hcz73_1
          try clear hcz79_0
          try clear hcz79_1
          try clear hfz103_0
          try clear hfz103_1
          try clear hfz16_0
          try clear hfz16_1
          try clear hfz18_0
          try clear hfz18_1
          try clear hfz21_0
          try clear hfz21_1
          try clear hfz23_0
          try clear hfz23_1
          try clear hfz25_0
          try clear hfz25_1
          try clear hfz27_0
          try clear hfz27_1
          try clear hfz29_0
          try clear hfz29_1
          try clear hfz31_0
          try clear hfz31_1
          try clear hfz33_0
          try clear hfz33_1
          try clear hfz35_0
          try clear hfz35_1
          try clear hfz37_0
          try clear hfz37_1
          try clear hfz46_0
          try clear hfz46_1
          try clear hfz48_0
          try clear hfz48_1
          try clear hfz50_0
          try clear hfz50_1
          try clear hfz70_0
          try clear hfz70_1
          try clear hfz73_0
          try clear hfz73_1
          try clear hfz79_0
          try clear hfz79_1
          try clear hx355_0
          try clear hx356_0
          try clear hx357_0
          try clear p2
          try clear p3
          try clear p35
          try clear p355
          try clear p356
          try clear p357
          try clear p6
          try clear p64
          try clear q3
          try clear q35
          try clear q355
          try clear q356
          try clear q357
          obtain ⟨kq, x203_103, rfl, HA, HJ103, HO_14, BK332, HB⟩ := hcut
          cases kq with
          | zero => exact absurd HA.out (by simp [tellurionlaw04_CamTurns.j6])
          | succ kj103 =>
           have H := HA.out
           clear HA
           simp only [tellurionlaw04_CamTurns.j6] at H
           by_cases c108 : x203_103 = true
           ·
            subst c108
            have H1 : ((tellurionlaw04_known.f).bind fun t358 => (some t358)) = some r := by rw [if_pos rfl] at H; exact H
            clear H
            have H := H1
            clear H1
            replace H := Option.bind_eq_some_iff.mp H
            obtain ⟨t358, A1090, H⟩ := H
            replace H : (some t358) = some r := H
            have A109 := Aside0.mk A1090
            clear A1090
            as_aux_lemma =>
             obtain rfl := Option.some.inj H
             go_wp2_with (first | (go_at_call 11; (with_reducible refine (tellurionlaw04_known.calls  t358 _ A109.out).mono ?_); rintro e w110 ⟨rfl, hb⟩; have n0_ := Aside0.mk (Kd.R_below (by (with_reducible repeat (first | apply Kd.R_alloc | apply Kd.R_drewN | apply Kd.R_drew)); exact HO_14.out) hb); have n1_ := Aside0.mk (blk_below (g := gb332) (o := .cells #[.int .i64 a0_0, .slice A0_1 l0_1.length c0_1] 24 (0, 0)) (by (with_reducible repeat (first | refine blk_drewN ?_ _ | refine blk_drew ?_ | refine blk_alloc ?_ _)); exact BK332.out) hb); have n2_ := Aside0.mk (below_step (by repeat (first | (with_reducible first | exact HB.out | apply below_alloc | apply pw_below_drewN | apply below_drew1 | refine below_set ?_ GE332.out) | exact HB.out)) hb); clear HO_14; clear BK332; clear HB; have HO_14 := n0_; have BK332 := n1_; have HB := n2_; clear n0_ n1_ n2_; (try clear hb); (try clear hb2); (try clear hk); (try clear hi)))
             repeat (go_quiet (first | (go_at_call 11; (with_reducible refine (tellurionlaw04_known.calls  t358 _ A109.out).mono ?_); rintro e w110 ⟨rfl, hb⟩; have n0_ := Aside0.mk (Kd.R_below (by (with_reducible repeat (first | apply Kd.R_alloc | apply Kd.R_drewN | apply Kd.R_drew)); exact HO_14.out) hb); have n1_ := Aside0.mk (blk_below (g := gb332) (o := .cells #[.int .i64 a0_0, .slice A0_1 l0_1.length c0_1] 24 (0, 0)) (by (with_reducible repeat (first | refine blk_drewN ?_ _ | refine blk_drew ?_ | refine blk_alloc ?_ _)); exact BK332.out) hb); have n2_ := Aside0.mk (below_step (by repeat (first | (with_reducible first | exact HB.out | apply below_alloc | apply pw_below_drewN | apply below_drew1 | refine below_set ?_ GE332.out) | exact HB.out)) hb); clear HO_14; clear BK332; clear HB; have HO_14 := n0_; have BK332 := n1_; have HB := n2_; clear n0_ n1_ n2_; (try clear hb); (try clear hb2); (try clear hk); (try clear hi))); try go_wp2_with (first | (go_at_call 11; (with_reducible refine (tellurionlaw04_known.calls  t358 _ A109.out).mono ?_); rintro e w110 ⟨rfl, hb⟩; have n0_ := Aside0.mk (Kd.R_below (by (with_reducible repeat (first | apply Kd.R_alloc | apply Kd.R_drewN | apply Kd.R_drew)); exact HO_14.out) hb); have n1_ := Aside0.mk (blk_below (g := gb332) (o := .cells #[.int .i64 a0_0, .slice A0_1 l0_1.length c0_1] 24 (0, 0)) (by (with_reducible repeat (first | refine blk_drewN ?_ _ | refine blk_drew ?_ | refine blk_alloc ?_ _)); exact BK332.out) hb); have n2_ := Aside0.mk (below_step (by repeat (first | (with_reducible first | exact HB.out | apply below_alloc | apply pw_below_drewN | apply below_drew1 | refine below_set ?_ GE332.out) | exact HB.out)) hb); clear HO_14; clear BK332; clear HB; have HO_14 := n0_; have BK332 := n1_; have HB := n2_; clear n0_ n1_ n2_; (try clear hb); (try clear hb2); (try clear hk); (try clear hi))))
             go_ret
             exact ⟨by first | rfl | (simp [errW_none, errW_some] <;> rfl) | (simp [*, errW_none, errW_some] <;> rfl), by repeat (first | (with_reducible first | exact HB.out | apply below_alloc | apply pw_below_drewN | apply below_drew1 | refine below_set ?_ GE332.out) | exact HB.out)⟩
           ·
            replace c108 := Bool.eq_false_iff.mpr c108
            subst c108
            have H1 : (tellurionlaw04_CamTurns.l1 kj103 a1 a2 t343 0) = some r := by rw [if_neg (show ¬ (false = true) by decide)] at H; exact H
            clear H
            have H := H1
            clear H1
            have H' := Aside0.mk H
            clear H
            go_wp2
            repeat (go_quiet (fail); try go_wp2)
            go_loopg [22] kj103 (fun kq v22 w' => ∃ (x22_5 : Int), v22 = .int .i64 x22_5 ∧ Aside0 (tellurionlaw04_CamTurns.l1 kq a1 a2 t343 x22_5 = some r) ∧ Aside0 (kq ≤ kj103) ∧ Aside0 (Kd.R (Kd.int .i64) 3 w' w.heap.size (fun _ => True) v344 t343) ∧ Aside0 (w'.heap[gb332]? = some (.cells #[.int .i64 a0_0, (.slice A0_1 l0_1.length c0_1)] 24 (0, 0))) ∧ Aside0 (Below w.heap.size w w'))
            case atStart => exact ⟨(0), (by first | rfl | (simp; done) | (simp [*]; done)), H', ⟨Nat.le_refl _⟩, ⟨by (with_reducible repeat (first | apply Kd.R_alloc | apply Kd.R_drewN | apply Kd.R_drew)); exact HO_14.out⟩, ⟨by (with_reducible repeat (first | refine blk_drewN ?_ _ | refine blk_drew ?_ | refine blk_alloc ?_ _)); exact BK332.out⟩, ⟨by repeat (first | (with_reducible first | exact HB.out | apply below_alloc | apply pw_below_drewN | apply below_drew1 | refine below_set ?_ GE332.out) | exact HB.out)⟩⟩
            case round =>
             clear H'
             try clear c1
             try clear p2
             try clear c3
             try clear p3
             try clear q3
             try clear hx3
             try clear c5
             try clear c6
             try clear p6
             try clear c7
             try clear c8
             try clear c9
             try clear c10
             try clear c12
             try clear c14
             try clear c15
             try clear c15b0
             try clear p35
             try clear q35
             try clear hx35
             try clear c39
             try clear c52
             try clear c52b0
             try clear c52b1
             try clear c53
             try clear c53b0
             try clear c53b1
             try clear c54
             try clear c54b0
             try clear c54b1
             try clear c55
             try clear c55b0
             try clear c55b1
             try clear c57
             try clear c57b0
             try clear c59
             try clear c59b0
             try clear c61
             try clear c61b0
             try clear c64
             try clear p64
             try clear c67
             try clear c72
             try clear c72b0
             try clear c72b1
             try clear c74
             try clear c76
             try clear c81
             try clear c81b0
             try clear c81b1
             try clear c83
             try clear c84
             try clear c84b0
             try clear c85
             try clear c85b0
             try clear c86
             try clear c86b0
             try clear c87
             try clear c87b0
             try clear c90
             try clear c90b0
             try clear c91
             try clear c91b0
             try clear c92
             try clear c92b0
             try clear c92b1
             try clear c98
             try clear c98b0
             try clear c98b1
             try clear c106
             try clear c106b0
             try clear c108
             try clear hcz103_0
             try clear hcz103_1
             try clear hcz16_0
             try clear hcz16_1
             try clear hcz18_0
             try clear hcz18_1
             try clear hcz21_0
             try clear hcz21_1
             try clear hcz23_0
             try clear hcz23_1
             try clear hcz25_0
             try clear hcz25_1
             try clear hcz27_0
             try clear hcz27_1
             try clear hcz29_0
             try clear hcz29_1
             try clear hcz31_0
             try clear hcz31_1
             try clear hcz33_0
             try clear hcz33_1
             try clear hcz35_0
             try clear hcz35_1
             try clear hcz37_0
             try clear hcz37_1
             try clear hcz46_0
             try clear hcz46_1
             try clear hcz48_0
             try clear hcz48_1
             try clear hcz50_0
             try clear hcz50_1
             try clear hcz70_0
             try clear hcz70_1
             try clear hcz73_0
             try clear hcz73_1
             try clear hcz79_0
             try clear hcz79_1
             try clear hfz103_0
             try clear hfz103_1
             try clear hfz16_0
             try clear hfz16_1
             try clear hfz18_0
             try clear hfz18_1
             try clear hfz21_0
             try clear hfz21_1
             try clear hfz23_0
             try clear hfz23_1
             try clear hfz25_0
             try clear hfz25_1
             try clear hfz27_0
             try clear hfz27_1
             try clear hfz29_0
             try clear hfz29_1
             try clear hfz31_0
             try clear hfz31_1
             try clear hfz33_0
             try clear hfz33_1
             try clear hfz35_0
             try clear hfz35_1
             try clear hfz37_0
             try clear hfz37_1
             try clear hfz46_0
             try clear hfz46_1
             try clear hfz48_0
             try clear hfz48_1
             try clear hfz50_0
             try clear hfz50_1
             try clear hfz70_0
             try clear hfz70_1
             try clear hfz73_0
             try clear hfz73_1
             try clear hfz79_0
             try clear hfz79_1
             try clear hx355_0
             try clear hx356_0
             try clear hx357_0
             try clear p2
             try clear p3
             try clear p35
             try clear p355
             try clear p356
             try clear p357
             try clear p6
             try clear p64
             try clear q3
             try clear q35
             try clear q355
             try clear q356
             try clear q357
             obtain ⟨x22_5, rfl, HA, HK5, HO_14, BK332, HB⟩ := hrel
             cases gk with
             | zero => exact absurd HA.out (by simp [tellurionlaw04_CamTurns.l1])
             | succ k5 =>
              have H := HA.out
              clear HA
              simp only [tellurionlaw04_CamTurns.l1] at H
              by_cases c111 : x22_5 < (t343.length : Int)
              ·
               rw [if_pos c111] at H
               have c111b0 : decide (x22_5 < (t343.length : Int)) = true := decide_eq_true c111
               clear c111
               by_cases c112 : 0 ≤ x22_5
               ·
                rw [if_pos c112] at H
                have c112b0 : decide (0 ≤ x22_5) = true := decide_eq_true c112
                clear c112
                by_cases c113 : (rd t343 x22_5) ≥ a1
                ·
                 rw [if_pos c113] at H
                 have c113b0 : decide (a1 ≤ (rd t343 x22_5)) = true := decide_eq_true c113
                 clear c113
                 by_cases c114 : (rd t343 x22_5) ≤ a2
                 ·
                  rw [if_pos c114] at H
                  have c114b0 : decide ((rd t343 x22_5) ≤ a2) = true := decide_eq_true c114
                  clear c114
                  replace H := Option.bind_eq_some_iff.mp H
                  obtain ⟨t361, A1150, H⟩ := H
                  replace H : (some t361) = some r := H
                  have A115 := Aside0.mk A1150
                  clear A1150
                  as_aux_lemma =>
                   obtain rfl := Option.some.inj H
                   obtain ⟨Ao116, co116, eo116⟩ := Kd.R_slice HO_14.out
                   subst eo116
                   have p359 : 0 ≤ (x22_5 : Int) := of_decide_eq_true (by first | (with_reducible assumption) | assumption)
                   have q359 : x22_5 < (t343.length : Int) := of_decide_eq_true (by first | (with_reducible assumption) | assumption)
                   obtain ⟨ad359, e359, hx359_0⟩ := Kd.at_int (Kd.R_reads' HO_14.out).2.2 x22_5 p359 q359
                   cases e359
                   replace p359 := eq_true p359
                   replace q359 := eq_true q359
                   have p360 : 0 ≤ (x22_5 : Int) := of_decide_eq_true (by first | (with_reducible assumption) | assumption)
                   have q360 : x22_5 < (t343.length : Int) := of_decide_eq_true (by first | (with_reducible assumption) | assumption)
                   obtain ⟨ad360, e360, hx360_0⟩ := Kd.at_int (Kd.R_reads' HO_14.out).2.2 x22_5 p360 q360
                   obtain rfl : ad359 = ad360 := (by injection e360)
                   replace p360 := eq_true p360
                   replace q360 := eq_true q360
                   go_wp2_with (first | (go_at_call 11; (with_reducible refine (tellurionlaw04_known.calls  t361 _ A115.out).mono ?_); rintro e w117 ⟨rfl, hb⟩; have n0_ := Aside0.mk (Kd.R_below (by (with_reducible repeat (first | apply Kd.R_alloc | apply Kd.R_drewN | apply Kd.R_drew)); exact HO_14.out) hb); have n1_ := Aside0.mk (blk_below (g := gb332) (o := .cells #[.int .i64 a0_0, .slice A0_1 l0_1.length c0_1] 24 (0, 0)) (by (with_reducible repeat (first | refine blk_drewN ?_ _ | refine blk_drew ?_ | refine blk_alloc ?_ _)); exact BK332.out) hb); have n2_ := Aside0.mk (below_step (by repeat (first | (with_reducible first | exact HB.out | apply below_alloc | apply pw_below_drewN | apply below_drew1 | refine below_set ?_ GE332.out) | exact HB.out)) hb); clear HO_14; clear BK332; clear HB; have HO_14 := n0_; have BK332 := n1_; have HB := n2_; clear n0_ n1_ n2_; (try clear hb); (try clear hb2); (try clear hk); (try clear hi)))
                   repeat (go_quiet (first | (go_at_call 11; (with_reducible refine (tellurionlaw04_known.calls  t361 _ A115.out).mono ?_); rintro e w117 ⟨rfl, hb⟩; have n0_ := Aside0.mk (Kd.R_below (by (with_reducible repeat (first | apply Kd.R_alloc | apply Kd.R_drewN | apply Kd.R_drew)); exact HO_14.out) hb); have n1_ := Aside0.mk (blk_below (g := gb332) (o := .cells #[.int .i64 a0_0, .slice A0_1 l0_1.length c0_1] 24 (0, 0)) (by (with_reducible repeat (first | refine blk_drewN ?_ _ | refine blk_drew ?_ | refine blk_alloc ?_ _)); exact BK332.out) hb); have n2_ := Aside0.mk (below_step (by repeat (first | (with_reducible first | exact HB.out | apply below_alloc | apply pw_below_drewN | apply below_drew1 | refine below_set ?_ GE332.out) | exact HB.out)) hb); clear HO_14; clear BK332; clear HB; have HO_14 := n0_; have BK332 := n1_; have HB := n2_; clear n0_ n1_ n2_; (try clear hb); (try clear hb2); (try clear hk); (try clear hi))); try go_wp2_with (first | (go_at_call 11; (with_reducible refine (tellurionlaw04_known.calls  t361 _ A115.out).mono ?_); rintro e w117 ⟨rfl, hb⟩; have n0_ := Aside0.mk (Kd.R_below (by (with_reducible repeat (first | apply Kd.R_alloc | apply Kd.R_drewN | apply Kd.R_drew)); exact HO_14.out) hb); have n1_ := Aside0.mk (blk_below (g := gb332) (o := .cells #[.int .i64 a0_0, .slice A0_1 l0_1.length c0_1] 24 (0, 0)) (by (with_reducible repeat (first | refine blk_drewN ?_ _ | refine blk_drew ?_ | refine blk_alloc ?_ _)); exact BK332.out) hb); have n2_ := Aside0.mk (below_step (by repeat (first | (with_reducible first | exact HB.out | apply below_alloc | apply pw_below_drewN | apply below_drew1 | refine below_set ?_ GE332.out) | exact HB.out)) hb); clear HO_14; clear BK332; clear HB; have HO_14 := n0_; have BK332 := n1_; have HB := n2_; clear n0_ n1_ n2_; (try clear hb); (try clear hb2); (try clear hk); (try clear hi))))
                   go_ret
                   exact ⟨by first | rfl | (simp [errW_none, errW_some] <;> rfl) | (simp [*, errW_none, errW_some] <;> rfl), by repeat (first | (with_reducible first | exact HB.out | apply below_alloc | apply pw_below_drewN | apply below_drew1 | refine below_set ?_ GE332.out) | exact HB.out)⟩
                 ·
                  rw [if_neg c114] at H
                  have c114b0 : decide ((rd t343 x22_5) ≤ a2) = false := decide_eq_false c114
                  clear c114
                  as_aux_lemma =>
                   have H' := Aside0.mk H
                   clear H
                   obtain ⟨Ao118, co118, eo118⟩ := Kd.R_slice HO_14.out
                   subst eo118
                   have p359 : 0 ≤ (x22_5 : Int) := of_decide_eq_true (by first | (with_reducible assumption) | assumption)
                   have q359 : x22_5 < (t343.length : Int) := of_decide_eq_true (by first | (with_reducible assumption) | assumption)
                   obtain ⟨ad359, e359, hx359_0⟩ := Kd.at_int (Kd.R_reads' HO_14.out).2.2 x22_5 p359 q359
                   cases e359
                   replace p359 := eq_true p359
                   replace q359 := eq_true q359
                   have p360 : 0 ≤ (x22_5 : Int) := of_decide_eq_true (by first | (with_reducible assumption) | assumption)
                   have q360 : x22_5 < (t343.length : Int) := of_decide_eq_true (by first | (with_reducible assumption) | assumption)
                   obtain ⟨ad360, e360, hx360_0⟩ := Kd.at_int (Kd.R_reads' HO_14.out).2.2 x22_5 p360 q360
                   obtain rfl : ad359 = ad360 := (by injection e360)
                   replace p360 := eq_true p360
                   replace q360 := eq_true q360
                   go_wp2
                   repeat (go_quiet (fail); try go_wp2)
                   go_roundg k5
                   case measure => have := HJ4.out; have := HJ44.out; have := HJ65.out; have := HJ103.out; have := HK5.out; omega
                   case rel => exact ⟨(wrap64 (x22_5 + 1)), (by first | rfl | (simp; done) | (simp [*]; done)), H', ⟨by have := HJ4.out; have := HJ44.out; have := HJ65.out; have := HJ103.out; have := HK5.out; omega⟩, ⟨by (with_reducible repeat (first | apply Kd.R_alloc | apply Kd.R_drewN | apply Kd.R_drew)); exact HO_14.out⟩, ⟨by (with_reducible repeat (first | refine blk_drewN ?_ _ | refine blk_drew ?_ | refine blk_alloc ?_ _)); exact BK332.out⟩, ⟨by repeat (first | (with_reducible first | exact HB.out | apply below_alloc | apply pw_below_drewN | apply below_drew1 | refine below_set ?_ GE332.out) | exact HB.out)⟩⟩
                ·
                 rw [if_neg c113] at H
                 have c113b0 : decide (a1 ≤ (rd t343 x22_5)) = false := decide_eq_false c113
                 clear c113
                 as_aux_lemma =>
                  have H' := Aside0.mk H
                  clear H
                  obtain ⟨Ao119, co119, eo119⟩ := Kd.R_slice HO_14.out
                  subst eo119
                  have p359 : 0 ≤ (x22_5 : Int) := of_decide_eq_true (by first | (with_reducible assumption) | assumption)
                  have q359 : x22_5 < (t343.length : Int) := of_decide_eq_true (by first | (with_reducible assumption) | assumption)
                  obtain ⟨ad359, e359, hx359_0⟩ := Kd.at_int (Kd.R_reads' HO_14.out).2.2 x22_5 p359 q359
                  cases e359
                  replace p359 := eq_true p359
                  replace q359 := eq_true q359
                  go_wp2
                  repeat (go_quiet (fail); try go_wp2)
                  go_roundg k5
                  case measure => have := HJ4.out; have := HJ44.out; have := HJ65.out; have := HJ103.out; have := HK5.out; omega
                  case rel => exact ⟨(wrap64 (x22_5 + 1)), (by first | rfl | (simp; done) | (simp [*]; done)), H', ⟨by have := HJ4.out; have := HJ44.out; have := HJ65.out; have := HJ103.out; have := HK5.out; omega⟩, ⟨by (with_reducible repeat (first | apply Kd.R_alloc | apply Kd.R_drewN | apply Kd.R_drew)); exact HO_14.out⟩, ⟨by (with_reducible repeat (first | refine blk_drewN ?_ _ | refine blk_drew ?_ | refine blk_alloc ?_ _)); exact BK332.out⟩, ⟨by repeat (first | (with_reducible first | exact HB.out | apply below_alloc | apply pw_below_drewN | apply below_drew1 | refine below_set ?_ GE332.out) | exact HB.out)⟩⟩
               ·
                rw [if_neg c112] at H
                exact absurd H (by simp)
              ·
               rw [if_neg c111] at H
               have c111b0 : decide (x22_5 < (t343.length : Int)) = false := decide_eq_false c111
               clear c111
               as_aux_lemma =>
                obtain rfl := Option.some.inj H
                obtain ⟨Ao120, co120, eo120⟩ := Kd.R_slice HO_14.out
                subst eo120
                go_wp2
                repeat (go_quiet (fail); try go_wp2)
                go_ret
                exact ⟨by first | rfl | (simp [errW_none, errW_some] <;> rfl) | (simp [*, errW_none, errW_some] <;> rfl), by repeat (first | (with_reducible first | exact HB.out | apply below_alloc | apply pw_below_drewN | apply below_drew1 | refine below_set ?_ GE332.out) | exact HB.out)⟩
end Go.Proofs.YtbjimmemcmjpcabGreatDoor.Print
end
section
namespace Go.Proofs.YtbjimmemcmjpcabGreatDoor.Print
open Go.RowKit YtbjimmemcmjpcabGreatDoorW.PrintWords YtbjimmemcmjpcabGreatDoorW.PrintLast YtbjimmemcmjpcabGreatDoorW.PrintMore
theorem rd_app_left (A B : List Int) (i : Nat) (h : i < A.length) : rd (A ++ B) (i : Int) = rd A (i : Int) := by
 simp [rd, List.getD_eq_getElem?_getD, List.getElem?_append_left h]
theorem rd_app_right (A B : List Int) (j : Nat) (h : j < B.length) : rd (A ++ B) ((A.length + j : Nat) : Int) = rd B (j : Int) := by
 unfold rd
 rw [Int.toNat_natCast, Int.toNat_natCast, List.getD_eq_getElem?_getD, List.getD_eq_getElem?_getD, List.getElem?_append_right (by omega), Nat.add_sub_cancel_left]
theorem rd_map_add (L : List Int) (c : Int) (j : Nat) (h : j < L.length) : rd (L.map (· + c)) (j : Int) = rd L (j : Int) + c := by
 simp [rd, List.getD_eq_getElem?_getD, h]
theorem rd_memT (L : List Int) (i : Nat) (h : i < L.length) : rd L (i : Int) ∈ L := by simp [rd, List.getD_eq_getElem?_getD, h]
theorem turns_l1 (a b : Int) (L : List Int) (hl : L.length ≤ 100000) (hex : ∃ x ∈ L, a ≤ x ∧ x ≤ b) : ∀ (q i : Nat), i + q = L.length → (∀ j : Nat, j < i → ¬ (a ≤ rd L (j : Int) ∧ rd L (j : Int) ≤ b)) → Ev (fun k => tellurionlaw04_CamTurns.l1 k a b L (i : Int)) true
 | 0, i, h, hno => by
  obtain ⟨x, hx, hr⟩ := hex
  obtain ⟨j, hj, rfl⟩ := List.mem_iff_getElem.1 hx
  have := hno j (by omega)
  rw [show rd L (j : Int) = L[j] by simp [rd, List.getD_eq_getElem?_getD, hj]] at this
  exact absurd hr this
 | q + 1, i, h, hno => by
  by_cases hi : a ≤ rd L (i : Int) ∧ rd L (i : Int) ≤ b
  ·
   refine Ev.step (f := fun _ => some true) (fun k => ?_) (Ev.now _)
   rw [tellurionlaw04_CamTurns.l1, if_pos (by omega), if_pos (by omega), if_pos (by omega), if_pos (by omega)]
   rfl
  ·
   have ih := turns_l1 a b L hl hex q (i + 1) (by omega) (fun j hj => by
    by_cases e : j = i
    ·
     subst e; exact hi
    ·
     exact hno j (by omega))
   refine Ev.step (fun k => ?_) ih
   rw [tellurionlaw04_CamTurns.l1, if_pos (by omega), if_pos (by omega), w64 _ (by omega)]
   by_cases h1 : rd L (i : Int) ≥ a
   ·
    rw [if_pos h1, if_neg (by omega)]; rfl
   ·
    rw [if_neg h1]; rfl
theorem turns_l0 (a b p n x y : Int) (l A : List Int) (hl : l.length ≤ 100000) (hA : A.length ≤ 100000) (hA1 : ∀ z ∈ A, z < n) (hl1 : ∀ z ∈ l, 0 ≤ z ∧ z ≤ 1000000) (hn : 0 ≤ n ∧ n ≤ 1000) {R : Bool}
  (hend : Ev (fun k => tellurionlaw04_CamTurns.j5 k a b p x y l) R) : ∀ (q i : Nat), i + q = A.length + l.length → Ev (fun k => tellurionlaw04_CamTurns.l0 k a b p n x y l (A ++ l.map (· + n)) (if i < A.length then 0 else ((i - A.length : Nat) : Int)) (i : Int)) R
 | 0, i, h => by
  refine Ev.step (fun k => ?_) hend
  rw [tellurionlaw04_CamTurns.l0, if_neg (by simp; omega), if_pos (by split <;> omega)]
 | q + 1, i, h => by
  have ih := turns_l0 a b p n x y l A hl hA hA1 hl1 hn hend q (i + 1) (by omega)
  by_cases hi : i < A.length
  ·
   have hz := hA1 _ (rd_memT A i hi)
   rw [if_pos hi]
   refine Ev.step (fun k => ?_) ih
   rw [tellurionlaw04_CamTurns.l0, if_pos (by simp; omega), if_pos (by omega), rd_app_left A _ i hi, if_neg (by omega), w64 _ (by omega)]
   congr 1
   split <;> omega
  ·
   obtain ⟨j, rfl⟩ : ∃ j, i = A.length + j := ⟨i - A.length, by omega⟩
   have hj : j < l.length := by omega
   have hz := hl1 _ (rd_memT l j hj)
   rw [if_neg hi, show A.length + j - A.length = j by omega]
   rw [if_neg (by omega), show A.length + j + 1 - A.length = j + 1 by omega] at ih
   refine Ev.step (fun k => ?_) ih
   have e1 : rd (A ++ l.map (· + n)) ((A.length + j : Nat) : Int) = rd l (j : Int) + n := by
    rw [rd_app_right A _ j (by simpa using hj), rd_map_add l n j hj]
   rw [tellurionlaw04_CamTurns.l0, if_pos (by simp; omega), if_pos (by omega), e1, if_pos (by omega), if_neg (by omega), if_pos (by omega), if_pos (by omega), w64 (rd l (j : Int) + n) (by omega), if_pos rfl, w64 _ (by omega), w64 _ (by omega)]
   rfl
theorem turns_eval (u : Int) (l : List Int) (a b p : Int) (hs : (l.length : Int) ≤ 27) (c1 : isMotionB u l = true) (c2 : isTimeB a = true) (c3 : isTimeB b = true) (c4 : a ≤ b) (c5 : isSpotB p = true) : Ev (fun k => tellurionlaw04_CamTurns.f k u l a b p) true := by
 have hm := motion_len c1
 have ha := time_bd c2
 have hb := time_bd c3
 have hp := spot_bd c5
 have pa := plc_bd c1 (t := a) ha.1 (by omega)
 have pb := plc_bd c1 (t := b) hb.1 (by omega)
 have hlen := passL_len u l p 0 b
 have hmul := mul_bd (t := (l.length : Int)) (u := u) (by omega) (by omega) hm.1.1 hm.1.2
 have ua : plc u l a ≤ 200000 := by
  have h1 := motion_rd c1 (a % (l.length : Int))
  have h2 : a * u ≤ a * 50 := Int.mul_le_mul_of_nonneg_left hm.1.2 ha.1
  unfold plc; omega
 have ub : plc u l b ≤ 200000 := by
  have h1 := motion_rd c1 (b % (l.length : Int))
  have h2 : b * u ≤ b * 50 := Int.mul_le_mul_of_nonneg_left hm.1.2 hb.1
  unfold plc; omega
 have e1 : wrap64 (b + (l.length : Int)) = b + (l.length : Int) := w64 _ (by omega)
 have e2 : wrap64 ((l.length : Int) * u) = (l.length : Int) * u := w64 _ (by omega)
 have e3 : wrap64 (plc u l b + (l.length : Int) * u) = plc u l b + (l.length : Int) * u := w64 _ (by omega)
 have e4 : wrap64 (p + (l.length : Int) * u) = p + (l.length : Int) * u := w64 _ (by omega)
 have j5 : Ev (fun k => tellurionlaw04_CamTurns.j5 k a b p (plc u l a) (plc u l b) (passL u l p 0 b)) true := by
  have j6t : Ev (fun k => tellurionlaw04_CamTurns.j6 k a b (passL u l p 0 b) true) true := by
   refine Ev.step (f := fun _ => some true) (fun k => ?_) (Ev.now _)
   rw [tellurionlaw04_CamTurns.j6, if_pos rfl]; rfl
  by_cases h1 : p < min (plc u l a) (plc u l b)
  ·
   refine Ev.step (fun k => ?_) j6t
   rw [tellurionlaw04_CamTurns.j5, mn_min', if_pos h1]
  ·
   by_cases h2 : p > max (plc u l a) (plc u l b)
   ·
    refine Ev.step (fun k => ?_) j6t
    rw [tellurionlaw04_CamTurns.j5, mn_min', mx_max', if_neg h1, decide_eq_true h2]
   ·
    obtain ⟨t, ht, hpt⟩ := cross u l p (b - a).toNat a (by rw [show a + ((b - a).toNat : Int) = b by omega]; omega)
    have hl1 := turns_l1 a b (passL u l p 0 b) (by omega) ⟨t, mem_passL.2 ⟨by omega, hpt⟩, by omega, by omega⟩ (passL u l p 0 b).length 0 (by omega) (fun j hj => by omega)
    have j6f : Ev (fun k => tellurionlaw04_CamTurns.j6 k a b (passL u l p 0 b) false) true := by
     refine Ev.step (fun k => ?_) hl1
     rw [tellurionlaw04_CamTurns.j6, if_neg (by simp)]
     rfl
    refine Ev.step (fun k => ?_) j6f
    rw [tellurionlaw04_CamTurns.j5, mn_min', mx_max', if_neg h1, decide_eq_false h2]
 have j1 : Ev (fun k => tellurionlaw04_CamTurns.j1 k a b p (l.length : Int) (plc u l a) (plc u l b) (passL u l p 0 b) false u l) true := by
  cases ht : isTimeB (b + (l.length : Int)) with
  | false =>
   refine Ev.step (fun k => ?_) j5
   rw [tellurionlaw04_CamTurns.j1, if_neg (by simp), e1, refTime_f, ht]
   simp only [Option.bind_some, Bool.false_eq_true, if_false]
  | true =>
   have htb := time_bd ht
   have j2 : Ev (fun k => tellurionlaw04_CamTurns.j2 k a b p (l.length : Int) (plc u l a) (plc u l b) (passL u l p 0 b) false u l) true := by
    cases hsp : isSpotB (p + (l.length : Int) * u) with
    | false =>
     refine Ev.step (fun k => ?_) j5
     rw [tellurionlaw04_CamTurns.j2, if_neg (by simp), e2, e4, refSpot_f, hsp]
     simp only [Option.bind_some, Bool.false_eq_true, if_false]
    | true =>
     have hl2 := passL_len u l (p + (l.length : Int) * u) 0 (b + (l.length : Int))
     have hA := passL_len u l (p + (l.length : Int) * u) 0 ((l.length : Int) - 1)
     have hloop := turns_l0 a b p (l.length : Int) (plc u l a) (plc u l b) (passL u l p 0 b) (passL u l (p + (l.length : Int) * u) 0 ((l.length : Int) - 1)) (by omega) (by omega) (fun z hz => by have := mem_passL.1 hz; omega) (fun z hz => by have := mem_passL.1 hz; omega) (by omega) j5 _ 0 (Nat.zero_add _)
     rw [← passL_turn u l p b hb.1] at hloop
     have h0 : (if 0 < (passL u l (p + (l.length : Int) * u) 0 ((l.length : Int) - 1)).length then (0 : Int) else ((0 - (passL u l (p + (l.length : Int) * u) 0 ((l.length : Int) - 1)).length : Nat) : Int)) = 0 := by split <;> omega
     rw [h0] at hloop
     have j3 : Ev (fun k => tellurionlaw04_CamTurns.j3 k a b p (l.length : Int) (plc u l a) (plc u l b) (passL u l p 0 b) (passL u l (p + (l.length : Int) * u) 0 (b + (l.length : Int))) false) true := by
      refine Ev.step (fun k => ?_) hloop
      rw [tellurionlaw04_CamTurns.j3, if_neg (by simp)]
      rfl
     have hpass := evC_passes u l (p + (l.length : Int) * u) (b + (l.length : Int))
     rw [if_pos ⟨c1, hsp, ht⟩] at hpass
     refine Ev.step (fun k => ?_) (Ev.bind (f := fun k (bt : List Int × Int) => if bt.2 = 0 then (tellurionlaw04_CamTurns.j3 k a b p (l.length : Int) (plc u l a) (plc u l b) (passL u l p 0 b) bt.1 (decide ((bt.1.length : Int) > 2001))) else (tellurionlaw04_CamTurns.j3 k a b p (l.length : Int) (plc u l a) (plc u l b) (passL u l p 0 b) bt.1 true)) hpass (Ev.congr (fun k => ?_) j3))
     ·
      rw [tellurionlaw04_CamTurns.j2, if_neg (by simp), e2, e4, e1, refSpot_f, hsp]
      simp only [Option.bind_some, if_true]
     ·
      simp only [if_true]
      rw [decide_eq_false (by omega)]
   refine Ev.step (fun k => ?_) j2
   have hpl := camPlace_f u l (b + (l.length : Int))
   rw [if_pos ⟨c1, ht⟩] at hpl
   rw [tellurionlaw04_CamTurns.j1, if_neg (by simp), e1, refTime_f, ht]
   simp only [Option.bind_some, if_true, hpl]
   rw [e2, e3, plc_turn, bne_self_eq_false]
 have hpass := evC_passes u l p b
 rw [if_pos ⟨c1, c5, c3⟩] at hpass
 have hpla := camPlace_f u l a
 rw [if_pos ⟨c1, c2⟩] at hpla
 have hplb := camPlace_f u l b
 rw [if_pos ⟨c1, c3⟩] at hplb
 have j0 : Ev (fun k => tellurionlaw04_CamTurns.j0 k a b p false u l) true := by
  generalize hX : passL u l p 0 b = X at j1 hpass hlen
  generalize hY : plc u l a = Y at j1 hpla pa ua
  generalize hZ : plc u l b = Z at j1 hplb pb ub
  refine Ev.step (fun k => ?_) (Ev.bind (f := fun k (bt343 : List Int × Int) => if (0 : Int) = 0 then (if (0 : Int) = 0 then (if bt343.2 = 0 then (if (bt343.1.length : Int) > 2001 then (tellurionlaw04_CamTurns.j1 k a b p (l.length : Int) Y Z bt343.1 true u l) else (if Y < (-200000) then (tellurionlaw04_CamTurns.j1 k a b p (l.length : Int) Y Z bt343.1 true u l) else (if Y > 200000 then (tellurionlaw04_CamTurns.j1 k a b p (l.length : Int) Y Z bt343.1 true u l) else (if Z < (-200000) then (tellurionlaw04_CamTurns.j1 k a b p (l.length : Int) Y Z bt343.1 true u l) else (tellurionlaw04_CamTurns.j1 k a b p (l.length : Int) Y Z bt343.1 (decide (Z > 200000)) u l))))) else (tellurionlaw04_CamTurns.j1 k a b p (l.length : Int) Y Z bt343.1 true u l)) else (tellurionlaw04_CamTurns.j1 k a b p (l.length : Int) Y Z bt343.1 true u l)) else (tellurionlaw04_CamTurns.j1 k a b p (l.length : Int) Y Z bt343.1 true u l)) hpass (Ev.congr (fun k => ?_) j1))
  ·
   rw [tellurionlaw04_CamTurns.j0, if_neg (by simp), hpla, hplb]
   simp only [Option.bind_some]
  ·
   simp only [if_true]
   rw [if_neg (by omega), if_neg (by omega), if_neg (by omega), if_neg (by omega), decide_eq_false (by omega)]
 have hmo := evR_motion u l (by omega)
 rw [c1] at hmo
 refine Ev.congr (fun k => ?_) (Ev.bind (f := fun k (t334 : Bool) => if t334 = true then tellurionlaw04_CamTurns.j0 k a b p false u l else tellurionlaw04_CamTurns.j0 k a b p true u l) hmo (Ev.congr (fun k => ?_) j0))
 ·
  unfold tellurionlaw04_CamTurns.f tellurionlaw04_slim.f
  simp only [Option.bind_some, hs, decide_true, if_true, refTime_f, c2, c3, refSpot_f, c5, show ¬ b < a by omega, if_false, Bool.not_true]
 ·
  simp only [if_true]
theorem camTurns_pure (u : Int) (l : List Int) (a b p : Int) (hu : (Lit.int .i64 u).wf = true) (hm : l.length ≤ maxLen) (hw : ∀ x ∈ l, (Lit.int .i64 x).wf = true) (ha : (Lit.int .i64 a).wf = true) (hb : (Lit.int .i64 b).wf = true) (hp : (Lit.int .i64 p).wf = true) :
  ∃ k, tellurionlaw04_CamTurns.f k u l a b p = some true := by
 clear hu hm hw ha hb hp
 have ej : ∀ k, tellurionlaw04_CamTurns.j0 (k + 1) a b p true u l = some true := fun k => by simp only [tellurionlaw04_CamTurns.j0, if_true, tellurionlaw04_known.f, Option.bind_some]
 by_cases hs : (l.length : Int) ≤ 27
 case neg => exact ⟨1, by unfold tellurionlaw04_CamTurns.f tellurionlaw04_slim.f; simp only [Option.bind_some, hs, decide_false, Bool.false_eq_true, if_false, ej 0]⟩
 by_cases g : isMotionB u l = true ∧ isTimeB a = true ∧ isTimeB b = true ∧ a ≤ b ∧ isSpotB p = true
 ·
  exact Ev.rounds (turns_eval u l a b p hs g.1 g.2.1 g.2.2.1 g.2.2.2.1 g.2.2.2.2)
 ·
  obtain ⟨K1, h1⟩ := evR_motion u l (by omega)
  refine ⟨K1 + 1, ?_⟩
  have e1 := h1 (K1 + 1) (by omega)
  simp only [] at e1
  have e3 := ej K1
  unfold tellurionlaw04_CamTurns.f tellurionlaw04_slim.f
  simp only [Option.bind_some, hs, decide_true, if_true, e1, refTime_f, refSpot_f]
  cases c1 : isMotionB u l with
  | false => simp only [Bool.false_eq_true, if_false, e3]
  | true =>
   cases c2 : isTimeB a with
   | false => simp only [Bool.false_eq_true, if_false, if_true, e3]
   | true =>
    cases c3 : isTimeB b with
    | false => simp only [Bool.false_eq_true, if_false, if_true, e3]
    | true =>
     by_cases c4 : b < a
     ·
      simp only [if_true, c4, e3]
     ·
      cases c5 : isSpotB p with
      | false => simp only [if_true, c4, if_false, Bool.not_false, e3]
      | true => exact absurd ⟨c1, c2, c3, by omega, c5⟩ g
end Go.Proofs.YtbjimmemcmjpcabGreatDoor.Print
end

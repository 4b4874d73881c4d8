/- The law's Go function answers true for every input, and leaves its arguments as they were: its parts, the plain law, the row, the card. Joined by wip/pack.py. -/
import Derived.Test.YtbjimmemcmjpcabGreatDoorB3
import Derived.Test.YtbjimmemcmjpcabGreatDoorLU1
import Derived.Test.YtbjimmemcmjpcabGreatDoorB19
import Derived.Test.YtbjimmemcmjpcabGreatDoorLU2
import Derived.Test.YtbjimmemcmjpcabGreatDoorB20
import Derived.Test.YtbjimmemcmjpcabGreatDoorLU3
set_option linter.unusedVariables false
set_option linter.unusedSimpArgs false
set_option linter.unusedSectionVars false
section
namespace Go.Proofs.YtbjimmemcmjpcabGreatDoor.Print
open Go.RowKit YtbjimmemcmjpcabGreatDoorW.PrintWords YtbjimmemcmjpcabGreatDoorW.PrintLast YtbjimmemcmjpcabGreatDoorW.PrintMore
attribute [local go_sem] max2_int min2_int max_two min_two max_three min_three max_four min_four
mutual
def tl_CamStood.j0 : Nat → Int → Int → Bool → Int → List Int → Option (Bool)
 | 0, _, _, _, _, _ => none
 | k + 1, x1, x2, x44, x363000, x363001 => if x44 = true then ((tellurionlaw04_known.f).bind fun t367 => (some t367)) else ((cam_Stations.f k x363000 x363001 x1 x2).bind fun bt368 => (if bt368.2 = 0 then (tl_CamStood.j1 k x1 x2 bt368.1 (decide ((bt368.1.length : Int) > (wrap64 ((wrap64 (x2 - x1)) + 1)))) x363000 x363001) else (tl_CamStood.j1 k x1 x2 bt368.1 true x363000 x363001)))
def tl_CamStood.j1 : Nat → Int → Int → List Int → Bool → Int → List Int → Option (Bool)
 | 0, _, _, _, _, _, _ => none
 | k + 1, x1, x2, x7, x63, x363000, x363001 => if x63 = true then (some false) else (tl_CamStood.l0 k x1 x2 x7 x1 false false 0 x1 x363000 x363001)
def tl_CamStood.l0 : Nat → Int → Int → List Int → Int → Bool → Bool → Int → Int → Int → List Int → Option (Bool)
 | 0, _, _, _, _, _, _, _, _, _, _ => none
 | k + 1, x1, x2, x7, x9, x10, x11, x12, x13, x363000, x363001 => if x13 < x2 then (if x12 < (x7.length : Int) then (if 0 ≤ x12 then (tl_CamStood.j3 k x1 x2 x7 x9 x10 x11 x12 x13 ((rd x7 x12) == x13) x363000 x363001) else (none)) else (tl_CamStood.j3 k x1 x2 x7 x9 x10 x11 x12 x13 false x363000 x363001)) else (tl_CamStood.l1 k x1 x2 x7 x12 x363000 x363001)
def tl_CamStood.j3 : Nat → Int → Int → List Int → Int → Bool → Bool → Int → Int → Bool → Int → List Int → Option (Bool)
 | 0, _, _, _, _, _, _, _, _, _, _, _ => none
 | k + 1, x1, x2, x7, x9, x10, x11, x12, x13, x82, x363000, x363001 => if x82 = true then (if x13 < x9 then (some false) else (tl_CamStood.j4 k x1 x2 x7 x13 false false (wrap64 (x12 + 1)) x13 x363000 x363001)) else (tl_CamStood.j4 k x1 x2 x7 x9 x10 x11 x12 x13 x363000 x363001)
def tl_CamStood.j4 : Nat → Int → Int → List Int → Int → Bool → Bool → Int → Int → Int → List Int → Option (Bool)
 | 0, _, _, _, _, _, _, _, _, _, _ => none
 | k + 1, x1, x2, x7, x9, x10, x11, x12, x13, x363000, x363001 => (cam_Place.f x363000 x363001 x13).bind fun bt373 => ((cam_Place.f x363000 x363001 (wrap64 (x13 + 1))).bind fun bt375 => (if bt373.2 = 0 then (tl_CamStood.j5 k x1 x2 x7 x9 x10 x11 x12 x13 bt373.1 bt375.1 (bt375.2 != 0) x363000 x363001) else (tl_CamStood.j5 k x1 x2 x7 x9 x10 x11 x12 x13 bt373.1 bt375.1 true x363000 x363001)))
def tl_CamStood.j5 : Nat → Int → Int → List Int → Int → Bool → Bool → Int → Int → Int → Int → Bool → Int → List Int → Option (Bool)
 | 0, _, _, _, _, _, _, _, _, _, _, _, _, _ => none
 | k + 1, x1, x2, x7, x9, x10, x11, x12, x13, x14, x16, x107, x363000, x363001 => if x107 = true then (some false) else (if x10 = true then (if x11 = true then (tl_CamStood.j6 k x1 x2 x7 x9 true true x12 x13 x14 x16 x363000 x363001) else (tl_CamStood.j6 k x1 x2 x7 x9 true (decide (x16 < x14)) x12 x13 x14 x16 x363000 x363001)) else (if x11 = true then (tl_CamStood.j6 k x1 x2 x7 x9 (decide (x16 > x14)) true x12 x13 x14 x16 x363000 x363001) else (tl_CamStood.j6 k x1 x2 x7 x9 (decide (x16 > x14)) (decide (x16 < x14)) x12 x13 x14 x16 x363000 x363001)))
def tl_CamStood.j6 : Nat → Int → Int → List Int → Int → Bool → Bool → Int → Int → Int → Int → Int → List Int → Option (Bool)
 | 0, _, _, _, _, _, _, _, _, _, _, _, _ => none
 | k + 1, x1, x2, x7, x9, x10, x11, x12, x13, x14, x16, x363000, x363001 => if x10 = true then (tl_CamStood.j7 k x1 x2 x7 x9 x10 x11 x12 x13 x14 x16 x11 x363000 x363001) else (tl_CamStood.j7 k x1 x2 x7 x9 x10 x11 x12 x13 x14 x16 false x363000 x363001)
def tl_CamStood.j7 : Nat → Int → Int → List Int → Int → Bool → Bool → Int → Int → Int → Int → Bool → Int → List Int → Option (Bool)
 | 0, _, _, _, _, _, _, _, _, _, _, _, _, _ => none
 | k + 1, x1, x2, x7, x9, x10, x11, x12, x13, x14, x16, x123, x363000, x363001 => if x123 = true then (some false) else (if x12 < (x7.length : Int) then (if 0 ≤ x12 then (if (rd x7 x12) = (wrap64 (x13 + 1)) then (if x14 = x16 then (some false) else (tl_CamStood.l0 k x1 x2 x7 x9 x10 x11 x12 (wrap64 (x13 + 1)) x363000 x363001)) else (tl_CamStood.l0 k x1 x2 x7 x9 x10 x11 x12 (wrap64 (x13 + 1)) x363000 x363001)) else (none)) else (tl_CamStood.l0 k x1 x2 x7 x9 x10 x11 x12 (wrap64 (x13 + 1)) x363000 x363001))
def tl_CamStood.j9 : Nat → Int → Int → List Int → Int → Int → List Int → Option (Bool)
 | 0, _, _, _, _, _, _ => none
 | k + 1, x1, x2, x7, x12, x363000, x363001 => if x12 = (x7.length : Int) then ((tr_Time.f (wrap64 (x2 + (x363001.length : Int)))).bind fun t379 => (if t379 = true then ((cam_Stations.f k x363000 x363001 (wrap64 (x1 + (x363001.length : Int))) (wrap64 (x2 + (x363001.length : Int)))).bind fun bt381 => (if bt381.2 = 0 then (tl_CamStood.j10 k x7 (x363001.length : Int) bt381.1 ((bt381.1.length : Int) != (x7.length : Int))) else (tl_CamStood.j10 k x7 (x363001.length : Int) bt381.1 true))) else ((tellurionlaw04_known.f).bind fun t380 => (some t380)))) else (some false)
def tl_CamStood.j10 : Nat → List Int → Int → List Int → Bool → Option (Bool)
 | 0, _, _, _, _ => none
 | k + 1, x7, x18, x19, x188 => if x188 = true then (some false) else (tl_CamStood.l2 k x7 x18 x19 0)
def tl_CamStood.l2 : Nat → List Int → Int → List Int → Int → Option (Bool)
 | 0, _, _, _, _ => none
 | k + 1, x7, x18, x19, x21 => if x21 < (x7.length : Int) then (if 0 ≤ x21 then (if x21 < (x19.length : Int) then (if (rd x19 x21) = (wrap64 ((rd x7 x21) + x18)) then (tl_CamStood.l2 k x7 x18 x19 (wrap64 (x21 + 1))) else (some false)) else (none)) else (none)) else ((tellurionlaw04_known.f).bind fun t387 => (some t387))
def tl_CamStood.l1 : Nat → Int → Int → List Int → Int → Int → List Int → Option (Bool)
 | 0, _, _, _, _, _, _ => none
 | k + 1, x1, x2, x7, x12, x363000, x363001 => if x12 < (x7.length : Int) then (if 0 ≤ x12 then (if (rd x7 x12) = x2 then (tl_CamStood.l1 k x1 x2 x7 (wrap64 (x12 + 1)) x363000 x363001) else (tl_CamStood.j9 k x1 x2 x7 x12 x363000 x363001)) else (none)) else (tl_CamStood.j9 k x1 x2 x7 x12 x363000 x363001)
end
def tl_CamStood.f (k : Nat) (a0_0 : Int) (l0_1 : List Int) (a1 : Int) (a2 : Int) : Option (Bool) := (tl_slim.f a0_0 l0_1).bind fun t363 => (if t363 = true then ((tr_Motion.f k a0_0 l0_1).bind fun t364 => (if t364 = true then ((tr_Time.f a1).bind fun t365 => (if t365 = true then ((tr_Time.f a2).bind fun t366 => (if t366 = true then (tl_CamStood.j0 k a1 a2 (decide (a2 < a1)) a0_0 l0_1) else (tl_CamStood.j0 k a1 a2 true a0_0 l0_1))) else (tl_CamStood.j0 k a1 a2 true a0_0 l0_1))) else (tl_CamStood.j0 k a1 a2 true a0_0 l0_1))) else (tl_CamStood.j0 k a1 a2 true a0_0 l0_1))
theorem tl_CamStood.mono_l : ∀ k, (∀ y0 y1 y2 y3 y4, LeO (tl_CamStood.j0 k y0 y1 y2 y3 y4) (tl_CamStood.j0 (k + 1) y0 y1 y2 y3 y4)) ∧ (∀ y0 y1 y2 y3 y4 y5, LeO (tl_CamStood.j1 k y0 y1 y2 y3 y4 y5) (tl_CamStood.j1 (k + 1) y0 y1 y2 y3 y4 y5)) ∧ (∀ y0 y1 y2 y3 y4 y5 y6 y7 y8 y9, LeO (tl_CamStood.l0 k y0 y1 y2 y3 y4 y5 y6 y7 y8 y9) (tl_CamStood.l0 (k + 1) y0 y1 y2 y3 y4 y5 y6 y7 y8 y9)) ∧ (∀ y0 y1 y2 y3 y4 y5 y6 y7 y8 y9 y10, LeO (tl_CamStood.j3 k y0 y1 y2 y3 y4 y5 y6 y7 y8 y9 y10) (tl_CamStood.j3 (k + 1) y0 y1 y2 y3 y4 y5 y6 y7 y8 y9 y10)) ∧ (∀ y0 y1 y2 y3 y4 y5 y6 y7 y8 y9, LeO (tl_CamStood.j4 k y0 y1 y2 y3 y4 y5 y6 y7 y8 y9) (tl_CamStood.j4 (k + 1) y0 y1 y2 y3 y4 y5 y6 y7 y8 y9)) ∧ (∀ y0 y1 y2 y3 y4 y5 y6 y7 y8 y9 y10 y11 y12, LeO (tl_CamStood.j5 k y0 y1 y2 y3 y4 y5 y6 y7 y8 y9 y10 y11 y12) (tl_CamStood.j5 (k + 1) y0 y1 y2 y3 y4 y5 y6 y7 y8 y9 y10 y11 y12)) ∧ (∀ y0 y1 y2 y3 y4 y5 y6 y7 y8 y9 y10 y11, LeO (tl_CamStood.j6 k y0 y1 y2 y3 y4 y5 y6 y7 y8 y9 y10 y11) (tl_CamStood.j6 (k + 1) y0 y1 y2 y3 y4 y5 y6 y7 y8 y9 y10 y11)) ∧ (∀ y0 y1 y2 y3 y4 y5 y6 y7 y8 y9 y10 y11 y12, LeO (tl_CamStood.j7 k y0 y1 y2 y3 y4 y5 y6 y7 y8 y9 y10 y11 y12) (tl_CamStood.j7 (k + 1) y0 y1 y2 y3 y4 y5 y6 y7 y8 y9 y10 y11 y12)) ∧ (∀ y0 y1 y2 y3 y4 y5, LeO (tl_CamStood.j9 k y0 y1 y2 y3 y4 y5) (tl_CamStood.j9 (k + 1) y0 y1 y2 y3 y4 y5)) ∧ (∀ y0 y1 y2 y3, LeO (tl_CamStood.j10 k y0 y1 y2 y3) (tl_CamStood.j10 (k + 1) y0 y1 y2 y3)) ∧ (∀ y0 y1 y2 y3, LeO (tl_CamStood.l2 k y0 y1 y2 y3) (tl_CamStood.l2 (k + 1) y0 y1 y2 y3)) ∧ (∀ y0 y1 y2 y3 y4 y5, LeO (tl_CamStood.l1 k y0 y1 y2 y3 y4 y5) (tl_CamStood.l1 (k + 1) y0 y1 y2 y3 y4 y5))
 | 0 => ⟨fun _ _ _ _ _ r h => by simp [tl_CamStood.j0] at h, fun _ _ _ _ _ _ r h => by simp [tl_CamStood.j1] at h, fun _ _ _ _ _ _ _ _ _ _ r h => by simp [tl_CamStood.l0] at h, fun _ _ _ _ _ _ _ _ _ _ _ r h => by simp [tl_CamStood.j3] at h, fun _ _ _ _ _ _ _ _ _ _ r h => by simp [tl_CamStood.j4] at h, fun _ _ _ _ _ _ _ _ _ _ _ _ _ r h => by simp [tl_CamStood.j5] at h, fun _ _ _ _ _ _ _ _ _ _ _ _ r h => by simp [tl_CamStood.j6] at h, fun _ _ _ _ _ _ _ _ _ _ _ _ _ r h => by simp [tl_CamStood.j7] at h, fun _ _ _ _ _ _ r h => by simp [tl_CamStood.j9] at h, fun _ _ _ _ r h => by simp [tl_CamStood.j10] at h, fun _ _ _ _ r h => by simp [tl_CamStood.l2] at h, fun _ _ _ _ _ _ r h => by simp [tl_CamStood.l1] at h⟩
 | k + 1 => by
  obtain ⟨ih0, ih1, ih2, ih3, ih4, ih5, ih6, ih7, ih8, ih9, ih10, ih11⟩ := tl_CamStood.mono_l k
  refine ⟨?_, ?_, ?_, ?_, ?_, ?_, ?_, ?_, ?_, ?_, ?_, ?_⟩
  ·
   intro y0 y1 y2 y3 y4
   unfold tl_CamStood.j0
   repeat' first
   | (with_reducible exact ih0 _ _ _ _ _)
   | (with_reducible exact ih1 _ _ _ _ _ _)
   | (with_reducible exact ih2 _ _ _ _ _ _ _ _ _ _)
   | (with_reducible exact ih3 _ _ _ _ _ _ _ _ _ _ _)
   | (with_reducible exact ih4 _ _ _ _ _ _ _ _ _ _)
   | (with_reducible exact ih5 _ _ _ _ _ _ _ _ _ _ _ _ _)
   | (with_reducible exact ih6 _ _ _ _ _ _ _ _ _ _ _ _)
   | (with_reducible exact ih7 _ _ _ _ _ _ _ _ _ _ _ _ _)
   | (with_reducible exact ih8 _ _ _ _ _ _)
   | (with_reducible exact ih9 _ _ _ _)
   | (with_reducible exact ih10 _ _ _ _)
   | (with_reducible exact ih11 _ _ _ _ _ _)
   | (with_reducible exact cam_Stations.mono _ _ _ _ _)
   | (with_reducible exact tr_Motion.mono _ _ _)
   | (with_reducible exact LeO.refl _)
   | (with_reducible exact LeO.none _)
   | (with_reducible refine LeO.ite ?_ ?_)
   | (with_reducible refine LeO.bind ?_ (fun _ => ?_))
   | exact ih0 _ _ _ _ _
   | exact ih1 _ _ _ _ _ _
   | exact ih2 _ _ _ _ _ _ _ _ _ _
   | exact ih3 _ _ _ _ _ _ _ _ _ _ _
   | exact ih4 _ _ _ _ _ _ _ _ _ _
   | exact ih5 _ _ _ _ _ _ _ _ _ _ _ _ _
   | exact ih6 _ _ _ _ _ _ _ _ _ _ _ _
   | exact ih7 _ _ _ _ _ _ _ _ _ _ _ _ _
   | exact ih8 _ _ _ _ _ _
   | exact ih9 _ _ _ _
   | exact ih10 _ _ _ _
   | exact ih11 _ _ _ _ _ _
   | exact cam_Stations.mono _ _ _ _ _
   | exact tr_Motion.mono _ _ _
   | exact LeO.none _
   | refine LeO.ite ?_ ?_
   | refine LeO.bind ?_ (fun _ => ?_)
  ·
   intro y0 y1 y2 y3 y4 y5
   unfold tl_CamStood.j1
   repeat' first
   | (with_reducible exact ih0 _ _ _ _ _)
   | (with_reducible exact ih1 _ _ _ _ _ _)
   | (with_reducible exact ih2 _ _ _ _ _ _ _ _ _ _)
   | (with_reducible exact ih3 _ _ _ _ _ _ _ _ _ _ _)
   | (with_reducible exact ih4 _ _ _ _ _ _ _ _ _ _)
   | (with_reducible exact ih5 _ _ _ _ _ _ _ _ _ _ _ _ _)
   | (with_reducible exact ih6 _ _ _ _ _ _ _ _ _ _ _ _)
   | (with_reducible exact ih7 _ _ _ _ _ _ _ _ _ _ _ _ _)
   | (with_reducible exact ih8 _ _ _ _ _ _)
   | (with_reducible exact ih9 _ _ _ _)
   | (with_reducible exact ih10 _ _ _ _)
   | (with_reducible exact ih11 _ _ _ _ _ _)
   | (with_reducible exact cam_Stations.mono _ _ _ _ _)
   | (with_reducible exact tr_Motion.mono _ _ _)
   | (with_reducible exact LeO.refl _)
   | (with_reducible exact LeO.none _)
   | (with_reducible refine LeO.ite ?_ ?_)
   | (with_reducible refine LeO.bind ?_ (fun _ => ?_))
   | exact ih0 _ _ _ _ _
   | exact ih1 _ _ _ _ _ _
   | exact ih2 _ _ _ _ _ _ _ _ _ _
   | exact ih3 _ _ _ _ _ _ _ _ _ _ _
   | exact ih4 _ _ _ _ _ _ _ _ _ _
   | exact ih5 _ _ _ _ _ _ _ _ _ _ _ _ _
   | exact ih6 _ _ _ _ _ _ _ _ _ _ _ _
   | exact ih7 _ _ _ _ _ _ _ _ _ _ _ _ _
   | exact ih8 _ _ _ _ _ _
   | exact ih9 _ _ _ _
   | exact ih10 _ _ _ _
   | exact ih11 _ _ _ _ _ _
   | exact cam_Stations.mono _ _ _ _ _
   | exact tr_Motion.mono _ _ _
   | exact LeO.none _
   | refine LeO.ite ?_ ?_
   | refine LeO.bind ?_ (fun _ => ?_)
  ·
   intro y0 y1 y2 y3 y4 y5 y6 y7 y8 y9
   unfold tl_CamStood.l0
   repeat' first
   | (with_reducible exact ih0 _ _ _ _ _)
   | (with_reducible exact ih1 _ _ _ _ _ _)
   | (with_reducible exact ih2 _ _ _ _ _ _ _ _ _ _)
   | (with_reducible exact ih3 _ _ _ _ _ _ _ _ _ _ _)
   | (with_reducible exact ih4 _ _ _ _ _ _ _ _ _ _)
   | (with_reducible exact ih5 _ _ _ _ _ _ _ _ _ _ _ _ _)
   | (with_reducible exact ih6 _ _ _ _ _ _ _ _ _ _ _ _)
   | (with_reducible exact ih7 _ _ _ _ _ _ _ _ _ _ _ _ _)
   | (with_reducible exact ih8 _ _ _ _ _ _)
   | (with_reducible exact ih9 _ _ _ _)
   | (with_reducible exact ih10 _ _ _ _)
   | (with_reducible exact ih11 _ _ _ _ _ _)
   | (with_reducible exact cam_Stations.mono _ _ _ _ _)
   | (with_reducible exact tr_Motion.mono _ _ _)
   | (with_reducible exact LeO.refl _)
   | (with_reducible exact LeO.none _)
   | (with_reducible refine LeO.ite ?_ ?_)
   | (with_reducible refine LeO.bind ?_ (fun _ => ?_))
   | exact ih0 _ _ _ _ _
   | exact ih1 _ _ _ _ _ _
   | exact ih2 _ _ _ _ _ _ _ _ _ _
   | exact ih3 _ _ _ _ _ _ _ _ _ _ _
   | exact ih4 _ _ _ _ _ _ _ _ _ _
   | exact ih5 _ _ _ _ _ _ _ _ _ _ _ _ _
   | exact ih6 _ _ _ _ _ _ _ _ _ _ _ _
   | exact ih7 _ _ _ _ _ _ _ _ _ _ _ _ _
   | exact ih8 _ _ _ _ _ _
   | exact ih9 _ _ _ _
   | exact ih10 _ _ _ _
   | exact ih11 _ _ _ _ _ _
   | exact cam_Stations.mono _ _ _ _ _
   | exact tr_Motion.mono _ _ _
   | exact LeO.none _
   | refine LeO.ite ?_ ?_
   | refine LeO.bind ?_ (fun _ => ?_)
  ·
   intro y0 y1 y2 y3 y4 y5 y6 y7 y8 y9 y10
   unfold tl_CamStood.j3
   repeat' first
   | (with_reducible exact ih0 _ _ _ _ _)
   | (with_reducible exact ih1 _ _ _ _ _ _)
   | (with_reducible exact ih2 _ _ _ _ _ _ _ _ _ _)
   | (with_reducible exact ih3 _ _ _ _ _ _ _ _ _ _ _)
   | (with_reducible exact ih4 _ _ _ _ _ _ _ _ _ _)
   | (with_reducible exact ih5 _ _ _ _ _ _ _ _ _ _ _ _ _)
   | (with_reducible exact ih6 _ _ _ _ _ _ _ _ _ _ _ _)
   | (with_reducible exact ih7 _ _ _ _ _ _ _ _ _ _ _ _ _)
   | (with_reducible exact ih8 _ _ _ _ _ _)
   | (with_reducible exact ih9 _ _ _ _)
   | (with_reducible exact ih10 _ _ _ _)
   | (with_reducible exact ih11 _ _ _ _ _ _)
   | (with_reducible exact cam_Stations.mono _ _ _ _ _)
   | (with_reducible exact tr_Motion.mono _ _ _)
   | (with_reducible exact LeO.refl _)
   | (with_reducible exact LeO.none _)
   | (with_reducible refine LeO.ite ?_ ?_)
   | (with_reducible refine LeO.bind ?_ (fun _ => ?_))
   | exact ih0 _ _ _ _ _
   | exact ih1 _ _ _ _ _ _
   | exact ih2 _ _ _ _ _ _ _ _ _ _
   | exact ih3 _ _ _ _ _ _ _ _ _ _ _
   | exact ih4 _ _ _ _ _ _ _ _ _ _
   | exact ih5 _ _ _ _ _ _ _ _ _ _ _ _ _
   | exact ih6 _ _ _ _ _ _ _ _ _ _ _ _
   | exact ih7 _ _ _ _ _ _ _ _ _ _ _ _ _
   | exact ih8 _ _ _ _ _ _
   | exact ih9 _ _ _ _
   | exact ih10 _ _ _ _
   | exact ih11 _ _ _ _ _ _
   | exact cam_Stations.mono _ _ _ _ _
   | exact tr_Motion.mono _ _ _
   | exact LeO.none _
   | refine LeO.ite ?_ ?_
   | refine LeO.bind ?_ (fun _ => ?_)
  ·
   intro y0 y1 y2 y3 y4 y5 y6 y7 y8 y9
   unfold tl_CamStood.j4
   repeat' first
   | (with_reducible exact ih0 _ _ _ _ _)
   | (with_reducible exact ih1 _ _ _ _ _ _)
   | (with_reducible exact ih2 _ _ _ _ _ _ _ _ _ _)
   | (with_reducible exact ih3 _ _ _ _ _ _ _ _ _ _ _)
   | (with_reducible exact ih4 _ _ _ _ _ _ _ _ _ _)
   | (with_reducible exact ih5 _ _ _ _ _ _ _ _ _ _ _ _ _)
   | (with_reducible exact ih6 _ _ _ _ _ _ _ _ _ _ _ _)
   | (with_reducible exact ih7 _ _ _ _ _ _ _ _ _ _ _ _ _)
   | (with_reducible exact ih8 _ _ _ _ _ _)
   | (with_reducible exact ih9 _ _ _ _)
   | (with_reducible exact ih10 _ _ _ _)
   | (with_reducible exact ih11 _ _ _ _ _ _)
   | (with_reducible exact cam_Stations.mono _ _ _ _ _)
   | (with_reducible exact tr_Motion.mono _ _ _)
   | (with_reducible exact LeO.refl _)
   | (with_reducible exact LeO.none _)
   | (with_reducible refine LeO.ite ?_ ?_)
   | (with_reducible refine LeO.bind ?_ (fun _ => ?_))
   | exact ih0 _ _ _ _ _
   | exact ih1 _ _ _ _ _ _
   | exact ih2 _ _ _ _ _ _ _ _ _ _
   | exact ih3 _ _ _ _ _ _ _ _ _ _ _
   | exact ih4 _ _ _ _ _ _ _ _ _ _
   | exact ih5 _ _ _ _ _ _ _ _ _ _ _ _ _
   | exact ih6 _ _ _ _ _ _ _ _ _ _ _ _
   | exact ih7 _ _ _ _ _ _ _ _ _ _ _ _ _
   | exact ih8 _ _ _ _ _ _
   | exact ih9 _ _ _ _
   | exact ih10 _ _ _ _
   | exact ih11 _ _ _ _ _ _
   | exact cam_Stations.mono _ _ _ _ _
   | exact tr_Motion.mono _ _ _
   | exact LeO.none _
   | refine LeO.ite ?_ ?_
   | refine LeO.bind ?_ (fun _ => ?_)
  ·
   intro y0 y1 y2 y3 y4 y5 y6 y7 y8 y9 y10 y11 y12
   unfold tl_CamStood.j5
   repeat' first
   | (with_reducible exact ih0 _ _ _ _ _)
   | (with_reducible exact ih1 _ _ _ _ _ _)
   | (with_reducible exact ih2 _ _ _ _ _ _ _ _ _ _)
   | (with_reducible exact ih3 _ _ _ _ _ _ _ _ _ _ _)
   | (with_reducible exact ih4 _ _ _ _ _ _ _ _ _ _)
   | (with_reducible exact ih5 _ _ _ _ _ _ _ _ _ _ _ _ _)
   | (with_reducible exact ih6 _ _ _ _ _ _ _ _ _ _ _ _)
   | (with_reducible exact ih7 _ _ _ _ _ _ _ _ _ _ _ _ _)
   | (with_reducible exact ih8 _ _ _ _ _ _)
   | (with_reducible exact ih9 _ _ _ _)
   | (with_reducible exact ih10 _ _ _ _)
   | (with_reducible exact ih11 _ _ _ _ _ _)
   | (with_reducible exact cam_Stations.mono _ _ _ _ _)
   | (with_reducible exact tr_Motion.mono _ _ _)
   | (with_reducible exact LeO.refl _)
   | (with_reducible exact LeO.none _)
   | (with_reducible refine LeO.ite ?_ ?_)
   | (with_reducible refine LeO.bind ?_ (fun _ => ?_))
   | exact ih0 _ _ _ _ _
   | exact ih1 _ _ _ _ _ _
   | exact ih2 _ _ _ _ _ _ _ _ _ _
   | exact ih3 _ _ _ _ _ _ _ _ _ _ _
   | exact ih4 _ _ _ _ _ _ _ _ _ _
   | exact ih5 _ _ _ _ _ _ _ _ _ _ _ _ _
   | exact ih6 _ _ _ _ _ _ _ _ _ _ _ _
   | exact ih7 _ _ _ _ _ _ _ _ _ _ _ _ _
   | exact ih8 _ _ _ _ _ _
   | exact ih9 _ _ _ _
   | exact ih10 _ _ _ _
   | exact ih11 _ _ _ _ _ _
   | exact cam_Stations.mono _ _ _ _ _
   | exact tr_Motion.mono _ _ _
   | exact LeO.none _
   | refine LeO.ite ?_ ?_
   | refine LeO.bind ?_ (fun _ => ?_)
  ·
   intro y0 y1 y2 y3 y4 y5 y6 y7 y8 y9 y10 y11
   unfold tl_CamStood.j6
   repeat' first
   | (with_reducible exact ih0 _ _ _ _ _)
   | (with_reducible exact ih1 _ _ _ _ _ _)
   | (with_reducible exact ih2 _ _ _ _ _ _ _ _ _ _)
   | (with_reducible exact ih3 _ _ _ _ _ _ _ _ _ _ _)
   | (with_reducible exact ih4 _ _ _ _ _ _ _ _ _ _)
   | (with_reducible exact ih5 _ _ _ _ _ _ _ _ _ _ _ _ _)
   | (with_reducible exact ih6 _ _ _ _ _ _ _ _ _ _ _ _)
   | (with_reducible exact ih7 _ _ _ _ _ _ _ _ _ _ _ _ _)
   | (with_reducible exact ih8 _ _ _ _ _ _)
   | (with_reducible exact ih9 _ _ _ _)
   | (with_reducible exact ih10 _ _ _ _)
   | (with_reducible exact ih11 _ _ _ _ _ _)
   | (with_reducible exact cam_Stations.mono _ _ _ _ _)
   | (with_reducible exact tr_Motion.mono _ _ _)
   | (with_reducible exact LeO.refl _)
   | (with_reducible exact LeO.none _)
   | (with_reducible refine LeO.ite ?_ ?_)
   | (with_reducible refine LeO.bind ?_ (fun _ => ?_))
   | exact ih0 _ _ _ _ _
   | exact ih1 _ _ _ _ _ _
   | exact ih2 _ _ _ _ _ _ _ _ _ _
   | exact ih3 _ _ _ _ _ _ _ _ _ _ _
   | exact ih4 _ _ _ _ _ _ _ _ _ _
   | exact ih5 _ _ _ _ _ _ _ _ _ _ _ _ _
   | exact ih6 _ _ _ _ _ _ _ _ _ _ _ _
   | exact ih7 _ _ _ _ _ _ _ _ _ _ _ _ _
   | exact ih8 _ _ _ _ _ _
   | exact ih9 _ _ _ _
   | exact ih10 _ _ _ _
   | exact ih11 _ _ _ _ _ _
   | exact cam_Stations.mono _ _ _ _ _
   | exact tr_Motion.mono _ _ _
   | exact LeO.none _
   | refine LeO.ite ?_ ?_
   | refine LeO.bind ?_ (fun _ => ?_)
  ·
   intro y0 y1 y2 y3 y4 y5 y6 y7 y8 y9 y10 y11 y12
   unfold tl_CamStood.j7
   repeat' first
   | (with_reducible exact ih0 _ _ _ _ _)
   | (with_reducible exact ih1 _ _ _ _ _ _)
   | (with_reducible exact ih2 _ _ _ _ _ _ _ _ _ _)
   | (with_reducible exact ih3 _ _ _ _ _ _ _ _ _ _ _)
   | (with_reducible exact ih4 _ _ _ _ _ _ _ _ _ _)
   | (with_reducible exact ih5 _ _ _ _ _ _ _ _ _ _ _ _ _)
   | (with_reducible exact ih6 _ _ _ _ _ _ _ _ _ _ _ _)
   | (with_reducible exact ih7 _ _ _ _ _ _ _ _ _ _ _ _ _)
   | (with_reducible exact ih8 _ _ _ _ _ _)
   | (with_reducible exact ih9 _ _ _ _)
   | (with_reducible exact ih10 _ _ _ _)
   | (with_reducible exact ih11 _ _ _ _ _ _)
   | (with_reducible exact cam_Stations.mono _ _ _ _ _)
   | (with_reducible exact tr_Motion.mono _ _ _)
   | (with_reducible exact LeO.refl _)
   | (with_reducible exact LeO.none _)
   | (with_reducible refine LeO.ite ?_ ?_)
   | (with_reducible refine LeO.bind ?_ (fun _ => ?_))
   | exact ih0 _ _ _ _ _
   | exact ih1 _ _ _ _ _ _
   | exact ih2 _ _ _ _ _ _ _ _ _ _
   | exact ih3 _ _ _ _ _ _ _ _ _ _ _
   | exact ih4 _ _ _ _ _ _ _ _ _ _
   | exact ih5 _ _ _ _ _ _ _ _ _ _ _ _ _
   | exact ih6 _ _ _ _ _ _ _ _ _ _ _ _
   | exact ih7 _ _ _ _ _ _ _ _ _ _ _ _ _
   | exact ih8 _ _ _ _ _ _
   | exact ih9 _ _ _ _
   | exact ih10 _ _ _ _
   | exact ih11 _ _ _ _ _ _
   | exact cam_Stations.mono _ _ _ _ _
   | exact tr_Motion.mono _ _ _
   | exact LeO.none _
   | refine LeO.ite ?_ ?_
   | refine LeO.bind ?_ (fun _ => ?_)
  ·
   intro y0 y1 y2 y3 y4 y5
   unfold tl_CamStood.j9
   repeat' first
   | (with_reducible exact ih0 _ _ _ _ _)
   | (with_reducible exact ih1 _ _ _ _ _ _)
   | (with_reducible exact ih2 _ _ _ _ _ _ _ _ _ _)
   | (with_reducible exact ih3 _ _ _ _ _ _ _ _ _ _ _)
   | (with_reducible exact ih4 _ _ _ _ _ _ _ _ _ _)
   | (with_reducible exact ih5 _ _ _ _ _ _ _ _ _ _ _ _ _)
   | (with_reducible exact ih6 _ _ _ _ _ _ _ _ _ _ _ _)
   | (with_reducible exact ih7 _ _ _ _ _ _ _ _ _ _ _ _ _)
   | (with_reducible exact ih8 _ _ _ _ _ _)
   | (with_reducible exact ih9 _ _ _ _)
   | (with_reducible exact ih10 _ _ _ _)
   | (with_reducible exact ih11 _ _ _ _ _ _)
   | (with_reducible exact cam_Stations.mono _ _ _ _ _)
   | (with_reducible exact tr_Motion.mono _ _ _)
   | (with_reducible exact LeO.refl _)
   | (with_reducible exact LeO.none _)
   | (with_reducible refine LeO.ite ?_ ?_)
   | (with_reducible refine LeO.bind ?_ (fun _ => ?_))
   | exact ih0 _ _ _ _ _
   | exact ih1 _ _ _ _ _ _
   | exact ih2 _ _ _ _ _ _ _ _ _ _
   | exact ih3 _ _ _ _ _ _ _ _ _ _ _
   | exact ih4 _ _ _ _ _ _ _ _ _ _
   | exact ih5 _ _ _ _ _ _ _ _ _ _ _ _ _
   | exact ih6 _ _ _ _ _ _ _ _ _ _ _ _
   | exact ih7 _ _ _ _ _ _ _ _ _ _ _ _ _
   | exact ih8 _ _ _ _ _ _
   | exact ih9 _ _ _ _
   | exact ih10 _ _ _ _
   | exact ih11 _ _ _ _ _ _
   | exact cam_Stations.mono _ _ _ _ _
   | exact tr_Motion.mono _ _ _
   | exact LeO.none _
   | refine LeO.ite ?_ ?_
   | refine LeO.bind ?_ (fun _ => ?_)
  ·
   intro y0 y1 y2 y3
   unfold tl_CamStood.j10
   repeat' first
   | (with_reducible exact ih0 _ _ _ _ _)
   | (with_reducible exact ih1 _ _ _ _ _ _)
   | (with_reducible exact ih2 _ _ _ _ _ _ _ _ _ _)
   | (with_reducible exact ih3 _ _ _ _ _ _ _ _ _ _ _)
   | (with_reducible exact ih4 _ _ _ _ _ _ _ _ _ _)
   | (with_reducible exact ih5 _ _ _ _ _ _ _ _ _ _ _ _ _)
   | (with_reducible exact ih6 _ _ _ _ _ _ _ _ _ _ _ _)
   | (with_reducible exact ih7 _ _ _ _ _ _ _ _ _ _ _ _ _)
   | (with_reducible exact ih8 _ _ _ _ _ _)
   | (with_reducible exact ih9 _ _ _ _)
   | (with_reducible exact ih10 _ _ _ _)
   | (with_reducible exact ih11 _ _ _ _ _ _)
   | (with_reducible exact cam_Stations.mono _ _ _ _ _)
   | (with_reducible exact tr_Motion.mono _ _ _)
   | (with_reducible exact LeO.refl _)
   | (with_reducible exact LeO.none _)
   | (with_reducible refine LeO.ite ?_ ?_)
   | (with_reducible refine LeO.bind ?_ (fun _ => ?_))
   | exact ih0 _ _ _ _ _
   | exact ih1 _ _ _ _ _ _
   | exact ih2 _ _ _ _ _ _ _ _ _ _
   | exact ih3 _ _ _ _ _ _ _ _ _ _ _
   | exact ih4 _ _ _ _ _ _ _ _ _ _
   | exact ih5 _ _ _ _ _ _ _ _ _ _ _ _ _
   | exact ih6 _ _ _ _ _ _ _ _ _ _ _ _
   | exact ih7 _ _ _ _ _ _ _ _ _ _ _ _ _
   | exact ih8 _ _ _ _ _ _
   | exact ih9 _ _ _ _
   | exact ih10 _ _ _ _
   | exact ih11 _ _ _ _ _ _
   | exact cam_Stations.mono _ _ _ _ _
   | exact tr_Motion.mono _ _ _
   | exact LeO.none _
   | refine LeO.ite ?_ ?_
   | refine LeO.bind ?_ (fun _ => ?_)
  ·
   intro y0 y1 y2 y3
   unfold tl_CamStood.l2
   repeat' first
   | (with_reducible exact ih0 _ _ _ _ _)
   | (with_reducible exact ih1 _ _ _ _ _ _)
   | (with_reducible exact ih2 _ _ _ _ _ _ _ _ _ _)
   | (with_reducible exact ih3 _ _ _ _ _ _ _ _ _ _ _)
   | (with_reducible exact ih4 _ _ _ _ _ _ _ _ _ _)
   | (with_reducible exact ih5 _ _ _ _ _ _ _ _ _ _ _ _ _)
   | (with_reducible exact ih6 _ _ _ _ _ _ _ _ _ _ _ _)
   | (with_reducible exact ih7 _ _ _ _ _ _ _ _ _ _ _ _ _)
   | (with_reducible exact ih8 _ _ _ _ _ _)
   | (with_reducible exact ih9 _ _ _ _)
   | (with_reducible exact ih10 _ _ _ _)
   | (with_reducible exact ih11 _ _ _ _ _ _)
   | (with_reducible exact cam_Stations.mono _ _ _ _ _)
   | (with_reducible exact tr_Motion.mono _ _ _)
   | (with_reducible exact LeO.refl _)
   | (with_reducible exact LeO.none _)
   | (with_reducible refine LeO.ite ?_ ?_)
   | (with_reducible refine LeO.bind ?_ (fun _ => ?_))
   | exact ih0 _ _ _ _ _
   | exact ih1 _ _ _ _ _ _
   | exact ih2 _ _ _ _ _ _ _ _ _ _
   | exact ih3 _ _ _ _ _ _ _ _ _ _ _
   | exact ih4 _ _ _ _ _ _ _ _ _ _
   | exact ih5 _ _ _ _ _ _ _ _ _ _ _ _ _
   | exact ih6 _ _ _ _ _ _ _ _ _ _ _ _
   | exact ih7 _ _ _ _ _ _ _ _ _ _ _ _ _
   | exact ih8 _ _ _ _ _ _
   | exact ih9 _ _ _ _
   | exact ih10 _ _ _ _
   | exact ih11 _ _ _ _ _ _
   | exact cam_Stations.mono _ _ _ _ _
   | exact tr_Motion.mono _ _ _
   | exact LeO.none _
   | refine LeO.ite ?_ ?_
   | refine LeO.bind ?_ (fun _ => ?_)
  ·
   intro y0 y1 y2 y3 y4 y5
   unfold tl_CamStood.l1
   repeat' first
   | (with_reducible exact ih0 _ _ _ _ _)
   | (with_reducible exact ih1 _ _ _ _ _ _)
   | (with_reducible exact ih2 _ _ _ _ _ _ _ _ _ _)
   | (with_reducible exact ih3 _ _ _ _ _ _ _ _ _ _ _)
   | (with_reducible exact ih4 _ _ _ _ _ _ _ _ _ _)
   | (with_reducible exact ih5 _ _ _ _ _ _ _ _ _ _ _ _ _)
   | (with_reducible exact ih6 _ _ _ _ _ _ _ _ _ _ _ _)
   | (with_reducible exact ih7 _ _ _ _ _ _ _ _ _ _ _ _ _)
   | (with_reducible exact ih8 _ _ _ _ _ _)
   | (with_reducible exact ih9 _ _ _ _)
   | (with_reducible exact ih10 _ _ _ _)
   | (with_reducible exact ih11 _ _ _ _ _ _)
   | (with_reducible exact cam_Stations.mono _ _ _ _ _)
   | (with_reducible exact tr_Motion.mono _ _ _)
   | (with_reducible exact LeO.refl _)
   | (with_reducible exact LeO.none _)
   | (with_reducible refine LeO.ite ?_ ?_)
   | (with_reducible refine LeO.bind ?_ (fun _ => ?_))
   | exact ih0 _ _ _ _ _
   | exact ih1 _ _ _ _ _ _
   | exact ih2 _ _ _ _ _ _ _ _ _ _
   | exact ih3 _ _ _ _ _ _ _ _ _ _ _
   | exact ih4 _ _ _ _ _ _ _ _ _ _
   | exact ih5 _ _ _ _ _ _ _ _ _ _ _ _ _
   | exact ih6 _ _ _ _ _ _ _ _ _ _ _ _
   | exact ih7 _ _ _ _ _ _ _ _ _ _ _ _ _
   | exact ih8 _ _ _ _ _ _
   | exact ih9 _ _ _ _
   | exact ih10 _ _ _ _
   | exact ih11 _ _ _ _ _ _
   | exact cam_Stations.mono _ _ _ _ _
   | exact tr_Motion.mono _ _ _
   | exact LeO.none _
   | refine LeO.ite ?_ ?_
   | refine LeO.bind ?_ (fun _ => ?_)
theorem tl_CamStood.mono : ∀ a0 a1 a2 a3 k, LeO (tl_CamStood.f k a0 a1 a2 a3) (tl_CamStood.f (k + 1) a0 a1 a2 a3) := by
 intro a0 a1 a2 a3 k
 obtain ⟨ih0, ih1, ih2, ih3, ih4, ih5, ih6, ih7, ih8, ih9, ih10, ih11⟩ := tl_CamStood.mono_l k
 unfold tl_CamStood.f
 repeat' first
   | (with_reducible exact ih0 _ _ _ _ _)
   | (with_reducible exact ih1 _ _ _ _ _ _)
   | (with_reducible exact ih2 _ _ _ _ _ _ _ _ _ _)
   | (with_reducible exact ih3 _ _ _ _ _ _ _ _ _ _ _)
   | (with_reducible exact ih4 _ _ _ _ _ _ _ _ _ _)
   | (with_reducible exact ih5 _ _ _ _ _ _ _ _ _ _ _ _ _)
   | (with_reducible exact ih6 _ _ _ _ _ _ _ _ _ _ _ _)
   | (with_reducible exact ih7 _ _ _ _ _ _ _ _ _ _ _ _ _)
   | (with_reducible exact ih8 _ _ _ _ _ _)
   | (with_reducible exact ih9 _ _ _ _)
   | (with_reducible exact ih10 _ _ _ _)
   | (with_reducible exact ih11 _ _ _ _ _ _)
   | (with_reducible exact cam_Stations.mono _ _ _ _ _)
   | (with_reducible exact tr_Motion.mono _ _ _)
   | (with_reducible exact LeO.refl _)
   | (with_reducible exact LeO.none _)
   | (with_reducible refine LeO.ite ?_ ?_)
   | (with_reducible refine LeO.bind ?_ (fun _ => ?_))
   | exact ih0 _ _ _ _ _
   | exact ih1 _ _ _ _ _ _
   | exact ih2 _ _ _ _ _ _ _ _ _ _
   | exact ih3 _ _ _ _ _ _ _ _ _ _ _
   | exact ih4 _ _ _ _ _ _ _ _ _ _
   | exact ih5 _ _ _ _ _ _ _ _ _ _ _ _ _
   | exact ih6 _ _ _ _ _ _ _ _ _ _ _ _
   | exact ih7 _ _ _ _ _ _ _ _ _ _ _ _ _
   | exact ih8 _ _ _ _ _ _
   | exact ih9 _ _ _ _
   | exact ih10 _ _ _ _
   | exact ih11 _ _ _ _ _ _
   | exact cam_Stations.mono _ _ _ _ _
   | exact tr_Motion.mono _ _ _
   | exact LeO.none _
   | refine LeO.ite ?_ ?_
   | refine LeO.bind ?_ (fun _ => ?_)
set_option maxHeartbeats 8000000 in
set_option maxRecDepth 100000 in
theorem tl_CamStood.calls (k : Nat) (a0_0 : Int) (A0_1 : Option Addr) (c0_1 : Nat) (l0_1 : List Int) (a1 : Int) (a2 : Int) (r : Bool) (w : World) (hr0_1 : Kd.C (Kd.int .i64) w A0_1 l0_1.length l0_1) (hc0_1 : l0_1.length ≤ c0_1) (h : tl_CamStood.f k a0_0 l0_1 a1 a2 = some r) :
  Calls Tryz.prog 7 #[.agg #[.int .i64 a0_0, .slice A0_1 l0_1.length c0_1], .int .i64 a1, .int .i64 a2] w fun e w' => e = .returned (.bool r) ∧ Below w.heap.size w w' := by
 have hu24 := Tryz.underlying24
 have HR0_1 := Aside0.mk hr0_1
 have HC0_1 := Aside0.mk hc0_1
 clear hr0_1 hc0_1
 have HB := Aside0.mk (Below.refl w.heap.size w)
 have H : ((tl_slim.f a0_0 l0_1).bind fun t363 => (if t363 = true then ((tr_Motion.f k a0_0 l0_1).bind fun t364 => (if t364 = true then ((tr_Time.f a1).bind fun t365 => (if t365 = true then ((tr_Time.f a2).bind fun t366 => (if t366 = true then (tl_CamStood.j0 k a1 a2 (decide (a2 < a1)) a0_0 l0_1) else (tl_CamStood.j0 k a1 a2 true a0_0 l0_1))) else (tl_CamStood.j0 k a1 a2 true a0_0 l0_1))) else (tl_CamStood.j0 k a1 a2 true a0_0 l0_1))) else (tl_CamStood.j0 k a1 a2 true a0_0 l0_1))) = some r := h
 clear h
 have HC4 := Aside0.mk H
 clear H
 go_enter Tryz.func7, Tryz.ntmps7
 go_upto_region 1 with (first | ((with_reducible refine gate_dst (N := 3) rfl ?_); (try (refine gate_guard (by rfl) ?_; dsimp only)); refine box_event ?hg (N := 3) ?hd (cs := #[.int .i64 a0_0, .slice A0_1 l0_1.length c0_1]) (t := 24) ?hr ?_; (case hd => rfl); (case hg => rfl); (case hr => first | (go_simp; done) | (go_simp; rfl)); intro gb362 hg w5 hbox hb; have n0_ := Aside0.mk (below_step (by repeat (first | (with_reducible first | exact HB.out | apply below_alloc | apply pw_below_drewN | apply below_drew1) | exact HB.out)) hb); have n1_ := Aside0.mk (hbox); have n2_ := Aside0.mk ((by rw [hg]; exact (below_size (by repeat (first | (with_reducible first | exact HB.out | apply below_alloc | apply pw_below_drewN | apply below_drew1) | exact HB.out))) : w.heap.size ≤ gb362)); have n3_ := Aside0.mk ((by rw [hg]; exact (below_size (by repeat (first | (with_reducible first | exact HB.out | apply below_alloc | apply pw_below_drewN | apply below_drew1) | exact HB.out))) : w.heap.size ≤ gb362)); clear HB; have HB := n0_; have BK362 := n1_; have GW362 := n2_; have GE362 := n3_; clear n0_ n1_ n2_ n3_; clear hb hbox hg))
 repeat (go_quiet (first | ((with_reducible refine gate_dst (N := 3) rfl ?_); (try (refine gate_guard (by rfl) ?_; dsimp only)); refine box_event ?hg (N := 3) ?hd (cs := #[.int .i64 a0_0, .slice A0_1 l0_1.length c0_1]) (t := 24) ?hr ?_; (case hd => rfl); (case hg => rfl); (case hr => first | (go_simp; done) | (go_simp; rfl)); intro gb362 hg w5 hbox hb; have n0_ := Aside0.mk (below_step (by repeat (first | (with_reducible first | exact HB.out | apply below_alloc | apply pw_below_drewN | apply below_drew1) | exact HB.out)) hb); have n1_ := Aside0.mk (hbox); have n2_ := Aside0.mk ((by rw [hg]; exact (below_size (by repeat (first | (with_reducible first | exact HB.out | apply below_alloc | apply pw_below_drewN | apply below_drew1) | exact HB.out))) : w.heap.size ≤ gb362)); have n3_ := Aside0.mk ((by rw [hg]; exact (below_size (by repeat (first | (with_reducible first | exact HB.out | apply below_alloc | apply pw_below_drewN | apply below_drew1) | exact HB.out))) : w.heap.size ≤ gb362)); clear HB; have HB := n0_; have BK362 := n1_; have GW362 := n2_; have GE362 := n3_; clear n0_ n1_ n2_ n3_; clear hb hbox hg)); go_upto_region 1 with (first | ((with_reducible refine gate_dst (N := 3) rfl ?_); (try (refine gate_guard (by rfl) ?_; dsimp only)); refine box_event ?hg (N := 3) ?hd (cs := #[.int .i64 a0_0, .slice A0_1 l0_1.length c0_1]) (t := 24) ?hr ?_; (case hd => rfl); (case hg => rfl); (case hr => first | (go_simp; done) | (go_simp; rfl)); intro gb362 hg w5 hbox hb; have n0_ := Aside0.mk (below_step (by repeat (first | (with_reducible first | exact HB.out | apply below_alloc | apply pw_below_drewN | apply below_drew1) | exact HB.out)) hb); have n1_ := Aside0.mk (hbox); have n2_ := Aside0.mk ((by rw [hg]; exact (below_size (by repeat (first | (with_reducible first | exact HB.out | apply below_alloc | apply pw_below_drewN | apply below_drew1) | exact HB.out))) : w.heap.size ≤ gb362)); have n3_ := Aside0.mk ((by rw [hg]; exact (below_size (by repeat (first | (with_reducible first | exact HB.out | apply below_alloc | apply pw_below_drewN | apply below_drew1) | exact HB.out))) : w.heap.size ≤ gb362)); clear HB; have HB := n0_; have BK362 := n1_; have GW362 := n2_; have GE362 := n3_; clear n0_ n1_ n2_ n3_; clear hb hbox hg)))
 (try simp only [Act.put, List.setIfInBounds_toArray, List.set_cons_zero, List.set_cons_succ])
 go_cut [44] (fun v44 wc => ∃ (kq : Nat) (x44_3 : Bool), v44 = .bool x44_3 ∧ Aside0 (tl_CamStood.j0 kq a1 a2 x44_3 a0_0 l0_1 = some r) ∧ Aside0 (kq ≤ k) ∧ Aside0 (wc.heap[gb362]? = some (.cells #[.int .i64 a0_0, (.slice A0_1 l0_1.length c0_1)] 24 (0, 0))) ∧ Aside0 (Below w.heap.size w wc))
 case first =>
  have H := HC4.out
  clear HC4
  replace H := Option.bind_eq_some_iff.mp H
  obtain ⟨t363, A60, H⟩ := H
  replace H : (if t363 = true then ((tr_Motion.f k a0_0 l0_1).bind fun t364 => (if t364 = true then ((tr_Time.f a1).bind fun t365 => (if t365 = true then ((tr_Time.f a2).bind fun t366 => (if t366 = true then (tl_CamStood.j0 k a1 a2 (decide (a2 < a1)) a0_0 l0_1) else (tl_CamStood.j0 k a1 a2 true a0_0 l0_1))) else (tl_CamStood.j0 k a1 a2 true a0_0 l0_1))) else (tl_CamStood.j0 k a1 a2 true a0_0 l0_1))) else (tl_CamStood.j0 k a1 a2 true a0_0 l0_1)) = some r := H
  have A6 := Aside0.mk A60
  clear A60
  by_cases c7 : t363 = true
  ·
   subst c7
   have H1 : ((tr_Motion.f k a0_0 l0_1).bind fun t364 => (if t364 = true then ((tr_Time.f a1).bind fun t365 => (if t365 = true then ((tr_Time.f a2).bind fun t366 => (if t366 = true then (tl_CamStood.j0 k a1 a2 (decide (a2 < a1)) a0_0 l0_1) else (tl_CamStood.j0 k a1 a2 true a0_0 l0_1))) else (tl_CamStood.j0 k a1 a2 true a0_0 l0_1))) else (tl_CamStood.j0 k a1 a2 true a0_0 l0_1))) = some r := by rw [if_pos rfl] at H; exact H
   clear H
   have H := H1
   clear H1
   replace H := Option.bind_eq_some_iff.mp H
   obtain ⟨t364, A80, H⟩ := H
   replace H : (if t364 = true then ((tr_Time.f a1).bind fun t365 => (if t365 = true then ((tr_Time.f a2).bind fun t366 => (if t366 = true then (tl_CamStood.j0 k a1 a2 (decide (a2 < a1)) a0_0 l0_1) else (tl_CamStood.j0 k a1 a2 true a0_0 l0_1))) else (tl_CamStood.j0 k a1 a2 true a0_0 l0_1))) else (tl_CamStood.j0 k a1 a2 true a0_0 l0_1)) = some r := H
   have A8 := Aside0.mk A80
   clear A80
   by_cases c9 : t364 = true
   ·
    subst c9
    have H1 : ((tr_Time.f a1).bind fun t365 => (if t365 = true then ((tr_Time.f a2).bind fun t366 => (if t366 = true then (tl_CamStood.j0 k a1 a2 (decide (a2 < a1)) a0_0 l0_1) else (tl_CamStood.j0 k a1 a2 true a0_0 l0_1))) else (tl_CamStood.j0 k a1 a2 true a0_0 l0_1))) = some r := by rw [if_pos rfl] at H; exact H
    clear H
    have H := H1
    clear H1
    replace H := Option.bind_eq_some_iff.mp H
    obtain ⟨t365, A100, H⟩ := H
    replace H : (if t365 = true then ((tr_Time.f a2).bind fun t366 => (if t366 = true then (tl_CamStood.j0 k a1 a2 (decide (a2 < a1)) a0_0 l0_1) else (tl_CamStood.j0 k a1 a2 true a0_0 l0_1))) else (tl_CamStood.j0 k a1 a2 true a0_0 l0_1)) = some r := H
    have A10 := Aside0.mk A100
    clear A100
    by_cases c11 : t365 = true
    ·
     subst c11
     have H1 : ((tr_Time.f a2).bind fun t366 => (if t366 = true then (tl_CamStood.j0 k a1 a2 (decide (a2 < a1)) a0_0 l0_1) else (tl_CamStood.j0 k a1 a2 true a0_0 l0_1))) = some r := by rw [if_pos rfl] at H; exact H
     clear H
     have H := H1
     clear H1
     replace H := Option.bind_eq_some_iff.mp H
     obtain ⟨t366, A120, H⟩ := H
     replace H : (if t366 = true then (tl_CamStood.j0 k a1 a2 (decide (a2 < a1)) a0_0 l0_1) else (tl_CamStood.j0 k a1 a2 true a0_0 l0_1)) = some r := H
     have A12 := Aside0.mk A120
     clear A120
     by_cases c13 : t366 = true
     ·
      subst c13
      have H1 : (tl_CamStood.j0 k a1 a2 (decide (a2 < a1)) a0_0 l0_1) = some r := by rw [if_pos rfl] at H; exact H
      clear H
      have H := H1
      clear H1
      as_aux_lemma =>
       have H' := Aside0.mk H
       clear H
       have hcz14_0 : w5.cell? ⟨gb362, 0, none⟩ = some (.int .i64 a0_0) := (blk_cell BK362.out 0).trans rfl
       have hcz14_1 : w5.cell? ⟨gb362, 1, none⟩ = some (.slice A0_1 l0_1.length c0_1) := (blk_cell BK362.out 1).trans rfl
       have hfz14_0 := blk_frozen BK362.out 0
       have hfz14_1 := blk_frozen BK362.out 1
       go_wp2_with (first | (go_at_call 10; (with_reducible refine (tl_slim.calls a0_0 _ _ l0_1 true _ ?side1 ?side2 A6.out).mono ?_); (case side1 => repeat (first | exact (Kd.C_below HR0_1.out HB.out) | (with_reducible refine Kd.C_alloc ?_ _) | (with_reducible refine Kd.C_drewN ?_ _) | (with_reducible refine Kd.C_drew ?_))); (case side2 => exact HC0_1.out); rintro e w15 ⟨rfl, hb⟩; have n0_ := Aside0.mk (blk_below (g := gb362) (o := .cells #[.int .i64 a0_0, .slice A0_1 l0_1.length c0_1] 24 (0, 0)) (by (with_reducible repeat (first | refine blk_drewN ?_ _ | refine blk_drew ?_ | refine blk_alloc ?_ _)); exact BK362.out) hb); have n1_ := Aside0.mk (below_step (by repeat (first | (with_reducible first | exact HB.out | apply below_alloc | apply pw_below_drewN | apply below_drew1 | refine below_set ?_ GE362.out) | exact HB.out)) hb); clear BK362; clear HB; have BK362 := n0_; have HB := n1_; clear n0_ n1_; (try clear hb); (try clear hb2); (try clear hk); (try clear hi); have hcz16_0 : w15.cell? ⟨gb362, 0, none⟩ = some (.int .i64 a0_0) := (blk_cell BK362.out 0).trans rfl; have hcz16_1 : w15.cell? ⟨gb362, 1, none⟩ = some (.slice A0_1 l0_1.length c0_1) := (blk_cell BK362.out 1).trans rfl; have hfz16_0 := blk_frozen BK362.out 0; have hfz16_1 := blk_frozen BK362.out 1) | (go_at_call 13; (with_reducible refine (tr_Motion.calls k a0_0 _ _ l0_1 true _ ?side1 ?side2 A8.out).mono ?_); (case side1 => repeat (first | exact (Kd.C_below HR0_1.out HB.out) | (with_reducible refine Kd.C_alloc ?_ _) | (with_reducible refine Kd.C_drewN ?_ _) | (with_reducible refine Kd.C_drew ?_))); (case side2 => exact HC0_1.out); rintro e w17 ⟨rfl, hb⟩; have n0_ := Aside0.mk (blk_below (g := gb362) (o := .cells #[.int .i64 a0_0, .slice A0_1 l0_1.length c0_1] 24 (0, 0)) (by (with_reducible repeat (first | refine blk_drewN ?_ _ | refine blk_drew ?_ | refine blk_alloc ?_ _)); exact BK362.out) hb); have n1_ := Aside0.mk (below_step (by repeat (first | (with_reducible first | exact HB.out | apply below_alloc | apply pw_below_drewN | apply below_drew1 | refine below_set ?_ GE362.out) | exact HB.out)) hb); clear BK362; clear HB; have BK362 := n0_; have HB := n1_; clear n0_ n1_; (try clear hb); (try clear hb2); (try clear hk); (try clear hi)) | (go_at_call 14; (with_reducible refine (tr_Time.calls a1 true _ A10.out).mono ?_); rintro e w' ⟨rfl, ⟨nd, rfl⟩⟩; (try first | exact ⟨rfl, _, World.drewN_drewN _ _ _⟩ | exact ⟨rfl, _, Eq.trans (World.drewN_drewN _ _ _) (congrArg (World.drewN _) (Nat.add_assoc _ _ _))⟩)) | (go_at_call 14; (with_reducible refine (tr_Time.calls a2 true _ A12.out).mono ?_); rintro e w' ⟨rfl, ⟨nd, rfl⟩⟩; (try first | exact ⟨rfl, _, World.drewN_drewN _ _ _⟩ | exact ⟨rfl, _, Eq.trans (World.drewN_drewN _ _ _) (congrArg (World.drewN _) (Nat.add_assoc _ _ _))⟩)))
       repeat (go_quiet (first | (go_at_call 10; (with_reducible refine (tl_slim.calls a0_0 _ _ l0_1 true _ ?side1 ?side2 A6.out).mono ?_); (case side1 => repeat (first | exact (Kd.C_below HR0_1.out HB.out) | (with_reducible refine Kd.C_alloc ?_ _) | (with_reducible refine Kd.C_drewN ?_ _) | (with_reducible refine Kd.C_drew ?_))); (case side2 => exact HC0_1.out); rintro e w15 ⟨rfl, hb⟩; have n0_ := Aside0.mk (blk_below (g := gb362) (o := .cells #[.int .i64 a0_0, .slice A0_1 l0_1.length c0_1] 24 (0, 0)) (by (with_reducible repeat (first | refine blk_drewN ?_ _ | refine blk_drew ?_ | refine blk_alloc ?_ _)); exact BK362.out) hb); have n1_ := Aside0.mk (below_step (by repeat (first | (with_reducible first | exact HB.out | apply below_alloc | apply pw_below_drewN | apply below_drew1 | refine below_set ?_ GE362.out) | exact HB.out)) hb); clear BK362; clear HB; have BK362 := n0_; have HB := n1_; clear n0_ n1_; (try clear hb); (try clear hb2); (try clear hk); (try clear hi); have hcz16_0 : w15.cell? ⟨gb362, 0, none⟩ = some (.int .i64 a0_0) := (blk_cell BK362.out 0).trans rfl; have hcz16_1 : w15.cell? ⟨gb362, 1, none⟩ = some (.slice A0_1 l0_1.length c0_1) := (blk_cell BK362.out 1).trans rfl; have hfz16_0 := blk_frozen BK362.out 0; have hfz16_1 := blk_frozen BK362.out 1) | (go_at_call 13; (with_reducible refine (tr_Motion.calls k a0_0 _ _ l0_1 true _ ?side1 ?side2 A8.out).mono ?_); (case side1 => repeat (first | exact (Kd.C_below HR0_1.out HB.out) | (with_reducible refine Kd.C_alloc ?_ _) | (with_reducible refine Kd.C_drewN ?_ _) | (with_reducible refine Kd.C_drew ?_))); (case side2 => exact HC0_1.out); rintro e w17 ⟨rfl, hb⟩; have n0_ := Aside0.mk (blk_below (g := gb362) (o := .cells #[.int .i64 a0_0, .slice A0_1 l0_1.length c0_1] 24 (0, 0)) (by (with_reducible repeat (first | refine blk_drewN ?_ _ | refine blk_drew ?_ | refine blk_alloc ?_ _)); exact BK362.out) hb); have n1_ := Aside0.mk (below_step (by repeat (first | (with_reducible first | exact HB.out | apply below_alloc | apply pw_below_drewN | apply below_drew1 | refine below_set ?_ GE362.out) | exact HB.out)) hb); clear BK362; clear HB; have BK362 := n0_; have HB := n1_; clear n0_ n1_; (try clear hb); (try clear hb2); (try clear hk); (try clear hi)) | (go_at_call 14; (with_reducible refine (tr_Time.calls a1 true _ A10.out).mono ?_); rintro e w' ⟨rfl, ⟨nd, rfl⟩⟩; (try first | exact ⟨rfl, _, World.drewN_drewN _ _ _⟩ | exact ⟨rfl, _, Eq.trans (World.drewN_drewN _ _ _) (congrArg (World.drewN _) (Nat.add_assoc _ _ _))⟩)) | (go_at_call 14; (with_reducible refine (tr_Time.calls a2 true _ A12.out).mono ?_); rintro e w' ⟨rfl, ⟨nd, rfl⟩⟩; (try first | exact ⟨rfl, _, World.drewN_drewN _ _ _⟩ | exact ⟨rfl, _, Eq.trans (World.drewN_drewN _ _ _) (congrArg (World.drewN _) (Nat.add_assoc _ _ _))⟩))); try go_wp2_with (first | (go_at_call 10; (with_reducible refine (tl_slim.calls a0_0 _ _ l0_1 true _ ?side1 ?side2 A6.out).mono ?_); (case side1 => repeat (first | exact (Kd.C_below HR0_1.out HB.out) | (with_reducible refine Kd.C_alloc ?_ _) | (with_reducible refine Kd.C_drewN ?_ _) | (with_reducible refine Kd.C_drew ?_))); (case side2 => exact HC0_1.out); rintro e w15 ⟨rfl, hb⟩; have n0_ := Aside0.mk (blk_below (g := gb362) (o := .cells #[.int .i64 a0_0, .slice A0_1 l0_1.length c0_1] 24 (0, 0)) (by (with_reducible repeat (first | refine blk_drewN ?_ _ | refine blk_drew ?_ | refine blk_alloc ?_ _)); exact BK362.out) hb); have n1_ := Aside0.mk (below_step (by repeat (first | (with_reducible first | exact HB.out | apply below_alloc | apply pw_below_drewN | apply below_drew1 | refine below_set ?_ GE362.out) | exact HB.out)) hb); clear BK362; clear HB; have BK362 := n0_; have HB := n1_; clear n0_ n1_; (try clear hb); (try clear hb2); (try clear hk); (try clear hi); have hcz16_0 : w15.cell? ⟨gb362, 0, none⟩ = some (.int .i64 a0_0) := (blk_cell BK362.out 0).trans rfl; have hcz16_1 : w15.cell? ⟨gb362, 1, none⟩ = some (.slice A0_1 l0_1.length c0_1) := (blk_cell BK362.out 1).trans rfl; have hfz16_0 := blk_frozen BK362.out 0; have hfz16_1 := blk_frozen BK362.out 1) | (go_at_call 13; (with_reducible refine (tr_Motion.calls k a0_0 _ _ l0_1 true _ ?side1 ?side2 A8.out).mono ?_); (case side1 => repeat (first | exact (Kd.C_below HR0_1.out HB.out) | (with_reducible refine Kd.C_alloc ?_ _) | (with_reducible refine Kd.C_drewN ?_ _) | (with_reducible refine Kd.C_drew ?_))); (case side2 => exact HC0_1.out); rintro e w17 ⟨rfl, hb⟩; have n0_ := Aside0.mk (blk_below (g := gb362) (o := .cells #[.int .i64 a0_0, .slice A0_1 l0_1.length c0_1] 24 (0, 0)) (by (with_reducible repeat (first | refine blk_drewN ?_ _ | refine blk_drew ?_ | refine blk_alloc ?_ _)); exact BK362.out) hb); have n1_ := Aside0.mk (below_step (by repeat (first | (with_reducible first | exact HB.out | apply below_alloc | apply pw_below_drewN | apply below_drew1 | refine below_set ?_ GE362.out) | exact HB.out)) hb); clear BK362; clear HB; have BK362 := n0_; have HB := n1_; clear n0_ n1_; (try clear hb); (try clear hb2); (try clear hk); (try clear hi)) | (go_at_call 14; (with_reducible refine (tr_Time.calls a1 true _ A10.out).mono ?_); rintro e w' ⟨rfl, ⟨nd, rfl⟩⟩; (try first | exact ⟨rfl, _, World.drewN_drewN _ _ _⟩ | exact ⟨rfl, _, Eq.trans (World.drewN_drewN _ _ _) (congrArg (World.drewN _) (Nat.add_assoc _ _ _))⟩)) | (go_at_call 14; (with_reducible refine (tr_Time.calls a2 true _ A12.out).mono ?_); rintro e w' ⟨rfl, ⟨nd, rfl⟩⟩; (try first | exact ⟨rfl, _, World.drewN_drewN _ _ _⟩ | exact ⟨rfl, _, Eq.trans (World.drewN_drewN _ _ _) (congrArg (World.drewN _) (Nat.add_assoc _ _ _))⟩))))
       go_meet
       case rel => exact ⟨_, (decide (a2 < a1)), (by first | rfl | (simp; done) | (simp [*]; done)), H', ⟨by first | omega | exact Nat.le_refl _⟩, ⟨by (with_reducible repeat (first | refine blk_drewN ?_ _ | refine blk_drew ?_ | refine blk_alloc ?_ _)); exact BK362.out⟩, ⟨by repeat (first | (with_reducible first | exact HB.out | apply below_alloc | apply pw_below_drewN | apply below_drew1 | refine below_set ?_ GE362.out) | exact HB.out)⟩⟩
     ·
      replace c13 := Bool.eq_false_iff.mpr c13
      subst c13
      have H1 : (tl_CamStood.j0 k a1 a2 true a0_0 l0_1) = some r := by rw [if_neg (show ¬ (false = true) by decide)] at H; exact H
      clear H
      have H := H1
      clear H1
      as_aux_lemma =>
       have H' := Aside0.mk H
       clear H
       have hcz18_0 : w5.cell? ⟨gb362, 0, none⟩ = some (.int .i64 a0_0) := (blk_cell BK362.out 0).trans rfl
       have hcz18_1 : w5.cell? ⟨gb362, 1, none⟩ = some (.slice A0_1 l0_1.length c0_1) := (blk_cell BK362.out 1).trans rfl
       have hfz18_0 := blk_frozen BK362.out 0
       have hfz18_1 := blk_frozen BK362.out 1
       go_wp2_with (first | (go_at_call 10; (with_reducible refine (tl_slim.calls a0_0 _ _ l0_1 true _ ?side1 ?side2 A6.out).mono ?_); (case side1 => repeat (first | exact (Kd.C_below HR0_1.out HB.out) | (with_reducible refine Kd.C_alloc ?_ _) | (with_reducible refine Kd.C_drewN ?_ _) | (with_reducible refine Kd.C_drew ?_))); (case side2 => exact HC0_1.out); rintro e w19 ⟨rfl, hb⟩; have n0_ := Aside0.mk (blk_below (g := gb362) (o := .cells #[.int .i64 a0_0, .slice A0_1 l0_1.length c0_1] 24 (0, 0)) (by (with_reducible repeat (first | refine blk_drewN ?_ _ | refine blk_drew ?_ | refine blk_alloc ?_ _)); exact BK362.out) hb); have n1_ := Aside0.mk (below_step (by repeat (first | (with_reducible first | exact HB.out | apply below_alloc | apply pw_below_drewN | apply below_drew1 | refine below_set ?_ GE362.out) | exact HB.out)) hb); clear BK362; clear HB; have BK362 := n0_; have HB := n1_; clear n0_ n1_; (try clear hb); (try clear hb2); (try clear hk); (try clear hi); have hcz20_0 : w19.cell? ⟨gb362, 0, none⟩ = some (.int .i64 a0_0) := (blk_cell BK362.out 0).trans rfl; have hcz20_1 : w19.cell? ⟨gb362, 1, none⟩ = some (.slice A0_1 l0_1.length c0_1) := (blk_cell BK362.out 1).trans rfl; have hfz20_0 := blk_frozen BK362.out 0; have hfz20_1 := blk_frozen BK362.out 1) | (go_at_call 13; (with_reducible refine (tr_Motion.calls k a0_0 _ _ l0_1 true _ ?side1 ?side2 A8.out).mono ?_); (case side1 => repeat (first | exact (Kd.C_below HR0_1.out HB.out) | (with_reducible refine Kd.C_alloc ?_ _) | (with_reducible refine Kd.C_drewN ?_ _) | (with_reducible refine Kd.C_drew ?_))); (case side2 => exact HC0_1.out); rintro e w21 ⟨rfl, hb⟩; have n0_ := Aside0.mk (blk_below (g := gb362) (o := .cells #[.int .i64 a0_0, .slice A0_1 l0_1.length c0_1] 24 (0, 0)) (by (with_reducible repeat (first | refine blk_drewN ?_ _ | refine blk_drew ?_ | refine blk_alloc ?_ _)); exact BK362.out) hb); have n1_ := Aside0.mk (below_step (by repeat (first | (with_reducible first | exact HB.out | apply below_alloc | apply pw_below_drewN | apply below_drew1 | refine below_set ?_ GE362.out) | exact HB.out)) hb); clear BK362; clear HB; have BK362 := n0_; have HB := n1_; clear n0_ n1_; (try clear hb); (try clear hb2); (try clear hk); (try clear hi)) | (go_at_call 14; (with_reducible refine (tr_Time.calls a1 true _ A10.out).mono ?_); rintro e w' ⟨rfl, ⟨nd, rfl⟩⟩; (try first | exact ⟨rfl, _, World.drewN_drewN _ _ _⟩ | exact ⟨rfl, _, Eq.trans (World.drewN_drewN _ _ _) (congrArg (World.drewN _) (Nat.add_assoc _ _ _))⟩)) | (go_at_call 14; (with_reducible refine (tr_Time.calls a2 false _ A12.out).mono ?_); rintro e w' ⟨rfl, ⟨nd, rfl⟩⟩; (try first | exact ⟨rfl, _, World.drewN_drewN _ _ _⟩ | exact ⟨rfl, _, Eq.trans (World.drewN_drewN _ _ _) (congrArg (World.drewN _) (Nat.add_assoc _ _ _))⟩)))
       repeat (go_quiet (first | (go_at_call 10; (with_reducible refine (tl_slim.calls a0_0 _ _ l0_1 true _ ?side1 ?side2 A6.out).mono ?_); (case side1 => repeat (first | exact (Kd.C_below HR0_1.out HB.out) | (with_reducible refine Kd.C_alloc ?_ _) | (with_reducible refine Kd.C_drewN ?_ _) | (with_reducible refine Kd.C_drew ?_))); (case side2 => exact HC0_1.out); rintro e w19 ⟨rfl, hb⟩; have n0_ := Aside0.mk (blk_below (g := gb362) (o := .cells #[.int .i64 a0_0, .slice A0_1 l0_1.length c0_1] 24 (0, 0)) (by (with_reducible repeat (first | refine blk_drewN ?_ _ | refine blk_drew ?_ | refine blk_alloc ?_ _)); exact BK362.out) hb); have n1_ := Aside0.mk (below_step (by repeat (first | (with_reducible first | exact HB.out | apply below_alloc | apply pw_below_drewN | apply below_drew1 | refine below_set ?_ GE362.out) | exact HB.out)) hb); clear BK362; clear HB; have BK362 := n0_; have HB := n1_; clear n0_ n1_; (try clear hb); (try clear hb2); (try clear hk); (try clear hi); have hcz20_0 : w19.cell? ⟨gb362, 0, none⟩ = some (.int .i64 a0_0) := (blk_cell BK362.out 0).trans rfl; have hcz20_1 : w19.cell? ⟨gb362, 1, none⟩ = some (.slice A0_1 l0_1.length c0_1) := (blk_cell BK362.out 1).trans rfl; have hfz20_0 := blk_frozen BK362.out 0; have hfz20_1 := blk_frozen BK362.out 1) | (go_at_call 13; (with_reducible refine (tr_Motion.calls k a0_0 _ _ l0_1 true _ ?side1 ?side2 A8.out).mono ?_); (case side1 => repeat (first | exact (Kd.C_below HR0_1.out HB.out) | (with_reducible refine Kd.C_alloc ?_ _) | (with_reducible refine Kd.C_drewN ?_ _) | (with_reducible refine Kd.C_drew ?_))); (case side2 => exact HC0_1.out); rintro e w21 ⟨rfl, hb⟩; have n0_ := Aside0.mk (blk_below (g := gb362) (o := .cells #[.int .i64 a0_0, .slice A0_1 l0_1.length c0_1] 24 (0, 0)) (by (with_reducible repeat (first | refine blk_drewN ?_ _ | refine blk_drew ?_ | refine blk_alloc ?_ _)); exact BK362.out) hb); have n1_ := Aside0.mk (below_step (by repeat (first | (with_reducible first | exact HB.out | apply below_alloc | apply pw_below_drewN | apply below_drew1 | refine below_set ?_ GE362.out) | exact HB.out)) hb); clear BK362; clear HB; have BK362 := n0_; have HB := n1_; clear n0_ n1_; (try clear hb); (try clear hb2); (try clear hk); (try clear hi)) | (go_at_call 14; (with_reducible refine (tr_Time.calls a1 true _ A10.out).mono ?_); rintro e w' ⟨rfl, ⟨nd, rfl⟩⟩; (try first | exact ⟨rfl, _, World.drewN_drewN _ _ _⟩ | exact ⟨rfl, _, Eq.trans (World.drewN_drewN _ _ _) (congrArg (World.drewN _) (Nat.add_assoc _ _ _))⟩)) | (go_at_call 14; (with_reducible refine (tr_Time.calls a2 false _ A12.out).mono ?_); rintro e w' ⟨rfl, ⟨nd, rfl⟩⟩; (try first | exact ⟨rfl, _, World.drewN_drewN _ _ _⟩ | exact ⟨rfl, _, Eq.trans (World.drewN_drewN _ _ _) (congrArg (World.drewN _) (Nat.add_assoc _ _ _))⟩))); try go_wp2_with (first | (go_at_call 10; (with_reducible refine (tl_slim.calls a0_0 _ _ l0_1 true _ ?side1 ?side2 A6.out).mono ?_); (case side1 => repeat (first | exact (Kd.C_below HR0_1.out HB.out) | (with_reducible refine Kd.C_alloc ?_ _) | (with_reducible refine Kd.C_drewN ?_ _) | (with_reducible refine Kd.C_drew ?_))); (case side2 => exact HC0_1.out); rintro e w19 ⟨rfl, hb⟩; have n0_ := Aside0.mk (blk_below (g := gb362) (o := .cells #[.int .i64 a0_0, .slice A0_1 l0_1.length c0_1] 24 (0, 0)) (by (with_reducible repeat (first | refine blk_drewN ?_ _ | refine blk_drew ?_ | refine blk_alloc ?_ _)); exact BK362.out) hb); have n1_ := Aside0.mk (below_step (by repeat (first | (with_reducible first | exact HB.out | apply below_alloc | apply pw_below_drewN | apply below_drew1 | refine below_set ?_ GE362.out) | exact HB.out)) hb); clear BK362; clear HB; have BK362 := n0_; have HB := n1_; clear n0_ n1_; (try clear hb); (try clear hb2); (try clear hk); (try clear hi); have hcz20_0 : w19.cell? ⟨gb362, 0, none⟩ = some (.int .i64 a0_0) := (blk_cell BK362.out 0).trans rfl; have hcz20_1 : w19.cell? ⟨gb362, 1, none⟩ = some (.slice A0_1 l0_1.length c0_1) := (blk_cell BK362.out 1).trans rfl; have hfz20_0 := blk_frozen BK362.out 0; have hfz20_1 := blk_frozen BK362.out 1) | (go_at_call 13; (with_reducible refine (tr_Motion.calls k a0_0 _ _ l0_1 true _ ?side1 ?side2 A8.out).mono ?_); (case side1 => repeat (first | exact (Kd.C_below HR0_1.out HB.out) | (with_reducible refine Kd.C_alloc ?_ _) | (with_reducible refine Kd.C_drewN ?_ _) | (with_reducible refine Kd.C_drew ?_))); (case side2 => exact HC0_1.out); rintro e w21 ⟨rfl, hb⟩; have n0_ := Aside0.mk (blk_below (g := gb362) (o := .cells #[.int .i64 a0_0, .slice A0_1 l0_1.length c0_1] 24 (0, 0)) (by (with_reducible repeat (first | refine blk_drewN ?_ _ | refine blk_drew ?_ | refine blk_alloc ?_ _)); exact BK362.out) hb); have n1_ := Aside0.mk (below_step (by repeat (first | (with_reducible first | exact HB.out | apply below_alloc | apply pw_below_drewN | apply below_drew1 | refine below_set ?_ GE362.out) | exact HB.out)) hb); clear BK362; clear HB; have BK362 := n0_; have HB := n1_; clear n0_ n1_; (try clear hb); (try clear hb2); (try clear hk); (try clear hi)) | (go_at_call 14; (with_reducible refine (tr_Time.calls a1 true _ A10.out).mono ?_); rintro e w' ⟨rfl, ⟨nd, rfl⟩⟩; (try first | exact ⟨rfl, _, World.drewN_drewN _ _ _⟩ | exact ⟨rfl, _, Eq.trans (World.drewN_drewN _ _ _) (congrArg (World.drewN _) (Nat.add_assoc _ _ _))⟩)) | (go_at_call 14; (with_reducible refine (tr_Time.calls a2 false _ A12.out).mono ?_); rintro e w' ⟨rfl, ⟨nd, rfl⟩⟩; (try first | exact ⟨rfl, _, World.drewN_drewN _ _ _⟩ | exact ⟨rfl, _, Eq.trans (World.drewN_drewN _ _ _) (congrArg (World.drewN _) (Nat.add_assoc _ _ _))⟩))))
       go_meet
       case rel => exact ⟨_, (true), (by first | rfl | (simp; done) | (simp [*]; done)), H', ⟨by first | omega | exact Nat.le_refl _⟩, ⟨by (with_reducible repeat (first | refine blk_drewN ?_ _ | refine blk_drew ?_ | refine blk_alloc ?_ _)); exact BK362.out⟩, ⟨by repeat (first | (with_reducible first | exact HB.out | apply below_alloc | apply pw_below_drewN | apply below_drew1 | refine below_set ?_ GE362.out) | exact HB.out)⟩⟩
    ·
     replace c11 := Bool.eq_false_iff.mpr c11
     subst c11
     have H1 : (tl_CamStood.j0 k a1 a2 true a0_0 l0_1) = some r := by rw [if_neg (show ¬ (false = true) by decide)] at H; exact H
     clear H
     have H := H1
     clear H1
     as_aux_lemma =>
      have H' := Aside0.mk H
      clear H
      have hcz22_0 : w5.cell? ⟨gb362, 0, none⟩ = some (.int .i64 a0_0) := (blk_cell BK362.out 0).trans rfl
      have hcz22_1 : w5.cell? ⟨gb362, 1, none⟩ = some (.slice A0_1 l0_1.length c0_1) := (blk_cell BK362.out 1).trans rfl
      have hfz22_0 := blk_frozen BK362.out 0
      have hfz22_1 := blk_frozen BK362.out 1
      go_wp2_with (first | (go_at_call 10; (with_reducible refine (tl_slim.calls a0_0 _ _ l0_1 true _ ?side1 ?side2 A6.out).mono ?_); (case side1 => repeat (first | exact (Kd.C_below HR0_1.out HB.out) | (with_reducible refine Kd.C_alloc ?_ _) | (with_reducible refine Kd.C_drewN ?_ _) | (with_reducible refine Kd.C_drew ?_))); (case side2 => exact HC0_1.out); rintro e w23 ⟨rfl, hb⟩; have n0_ := Aside0.mk (blk_below (g := gb362) (o := .cells #[.int .i64 a0_0, .slice A0_1 l0_1.length c0_1] 24 (0, 0)) (by (with_reducible repeat (first | refine blk_drewN ?_ _ | refine blk_drew ?_ | refine blk_alloc ?_ _)); exact BK362.out) hb); have n1_ := Aside0.mk (below_step (by repeat (first | (with_reducible first | exact HB.out | apply below_alloc | apply pw_below_drewN | apply below_drew1 | refine below_set ?_ GE362.out) | exact HB.out)) hb); clear BK362; clear HB; have BK362 := n0_; have HB := n1_; clear n0_ n1_; (try clear hb); (try clear hb2); (try clear hk); (try clear hi); have hcz24_0 : w23.cell? ⟨gb362, 0, none⟩ = some (.int .i64 a0_0) := (blk_cell BK362.out 0).trans rfl; have hcz24_1 : w23.cell? ⟨gb362, 1, none⟩ = some (.slice A0_1 l0_1.length c0_1) := (blk_cell BK362.out 1).trans rfl; have hfz24_0 := blk_frozen BK362.out 0; have hfz24_1 := blk_frozen BK362.out 1) | (go_at_call 13; (with_reducible refine (tr_Motion.calls k a0_0 _ _ l0_1 true _ ?side1 ?side2 A8.out).mono ?_); (case side1 => repeat (first | exact (Kd.C_below HR0_1.out HB.out) | (with_reducible refine Kd.C_alloc ?_ _) | (with_reducible refine Kd.C_drewN ?_ _) | (with_reducible refine Kd.C_drew ?_))); (case side2 => exact HC0_1.out); rintro e w25 ⟨rfl, hb⟩; have n0_ := Aside0.mk (blk_below (g := gb362) (o := .cells #[.int .i64 a0_0, .slice A0_1 l0_1.length c0_1] 24 (0, 0)) (by (with_reducible repeat (first | refine blk_drewN ?_ _ | refine blk_drew ?_ | refine blk_alloc ?_ _)); exact BK362.out) hb); have n1_ := Aside0.mk (below_step (by repeat (first | (with_reducible first | exact HB.out | apply below_alloc | apply pw_below_drewN | apply below_drew1 | refine below_set ?_ GE362.out) | exact HB.out)) hb); clear BK362; clear HB; have BK362 := n0_; have HB := n1_; clear n0_ n1_; (try clear hb); (try clear hb2); (try clear hk); (try clear hi)) | (go_at_call 14; (with_reducible refine (tr_Time.calls a1 false _ A10.out).mono ?_); rintro e w' ⟨rfl, ⟨nd, rfl⟩⟩; (try first | exact ⟨rfl, _, World.drewN_drewN _ _ _⟩ | exact ⟨rfl, _, Eq.trans (World.drewN_drewN _ _ _) (congrArg (World.drewN _) (Nat.add_assoc _ _ _))⟩)))
      repeat (go_quiet (first | (go_at_call 10; (with_reducible refine (tl_slim.calls a0_0 _ _ l0_1 true _ ?side1 ?side2 A6.out).mono ?_); (case side1 => repeat (first | exact (Kd.C_below HR0_1.out HB.out) | (with_reducible refine Kd.C_alloc ?_ _) | (with_reducible refine Kd.C_drewN ?_ _) | (with_reducible refine Kd.C_drew ?_))); (case side2 => exact HC0_1.out); rintro e w23 ⟨rfl, hb⟩; have n0_ := Aside0.mk (blk_below (g := gb362) (o := .cells #[.int .i64 a0_0, .slice A0_1 l0_1.length c0_1] 24 (0, 0)) (by (with_reducible repeat (first | refine blk_drewN ?_ _ | refine blk_drew ?_ | refine blk_alloc ?_ _)); exact BK362.out) hb); have n1_ := Aside0.mk (below_step (by repeat (first | (with_reducible first | exact HB.out | apply below_alloc | apply pw_below_drewN | apply below_drew1 | refine below_set ?_ GE362.out) | exact HB.out)) hb); clear BK362; clear HB; have BK362 := n0_; have HB := n1_; clear n0_ n1_; (try clear hb); (try clear hb2); (try clear hk); (try clear hi); have hcz24_0 : w23.cell? ⟨gb362, 0, none⟩ = some (.int .i64 a0_0) := (blk_cell BK362.out 0).trans rfl; have hcz24_1 : w23.cell? ⟨gb362, 1, none⟩ = some (.slice A0_1 l0_1.length c0_1) := (blk_cell BK362.out 1).trans rfl; have hfz24_0 := blk_frozen BK362.out 0; have hfz24_1 := blk_frozen BK362.out 1) | (go_at_call 13; (with_reducible refine (tr_Motion.calls k a0_0 _ _ l0_1 true _ ?side1 ?side2 A8.out).mono ?_); (case side1 => repeat (first | exact (Kd.C_below HR0_1.out HB.out) | (with_reducible refine Kd.C_alloc ?_ _) | (with_reducible refine Kd.C_drewN ?_ _) | (with_reducible refine Kd.C_drew ?_))); (case side2 => exact HC0_1.out); rintro e w25 ⟨rfl, hb⟩; have n0_ := Aside0.mk (blk_below (g := gb362) (o := .cells #[.int .i64 a0_0, .slice A0_1 l0_1.length c0_1] 24 (0, 0)) (by (with_reducible repeat (first | refine blk_drewN ?_ _ | refine blk_drew ?_ | refine blk_alloc ?_ _)); exact BK362.out) hb); have n1_ := Aside0.mk (below_step (by repeat (first | (with_reducible first | exact HB.out | apply below_alloc | apply pw_below_drewN | apply below_drew1 | refine below_set ?_ GE362.out) | exact HB.out)) hb); clear BK362; clear HB; have BK362 := n0_; have HB := n1_; clear n0_ n1_; (try clear hb); (try clear hb2); (try clear hk); (try clear hi)) | (go_at_call 14; (with_reducible refine (tr_Time.calls a1 false _ A10.out).mono ?_); rintro e w' ⟨rfl, ⟨nd, rfl⟩⟩; (try first | exact ⟨rfl, _, World.drewN_drewN _ _ _⟩ | exact ⟨rfl, _, Eq.trans (World.drewN_drewN _ _ _) (congrArg (World.drewN _) (Nat.add_assoc _ _ _))⟩))); try go_wp2_with (first | (go_at_call 10; (with_reducible refine (tl_slim.calls a0_0 _ _ l0_1 true _ ?side1 ?side2 A6.out).mono ?_); (case side1 => repeat (first | exact (Kd.C_below HR0_1.out HB.out) | (with_reducible refine Kd.C_alloc ?_ _) | (with_reducible refine Kd.C_drewN ?_ _) | (with_reducible refine Kd.C_drew ?_))); (case side2 => exact HC0_1.out); rintro e w23 ⟨rfl, hb⟩; have n0_ := Aside0.mk (blk_below (g := gb362) (o := .cells #[.int .i64 a0_0, .slice A0_1 l0_1.length c0_1] 24 (0, 0)) (by (with_reducible repeat (first | refine blk_drewN ?_ _ | refine blk_drew ?_ | refine blk_alloc ?_ _)); exact BK362.out) hb); have n1_ := Aside0.mk (below_step (by repeat (first | (with_reducible first | exact HB.out | apply below_alloc | apply pw_below_drewN | apply below_drew1 | refine below_set ?_ GE362.out) | exact HB.out)) hb); clear BK362; clear HB; have BK362 := n0_; have HB := n1_; clear n0_ n1_; (try clear hb); (try clear hb2); (try clear hk); (try clear hi); have hcz24_0 : w23.cell? ⟨gb362, 0, none⟩ = some (.int .i64 a0_0) := (blk_cell BK362.out 0).trans rfl; have hcz24_1 : w23.cell? ⟨gb362, 1, none⟩ = some (.slice A0_1 l0_1.length c0_1) := (blk_cell BK362.out 1).trans rfl; have hfz24_0 := blk_frozen BK362.out 0; have hfz24_1 := blk_frozen BK362.out 1) | (go_at_call 13; (with_reducible refine (tr_Motion.calls k a0_0 _ _ l0_1 true _ ?side1 ?side2 A8.out).mono ?_); (case side1 => repeat (first | exact (Kd.C_below HR0_1.out HB.out) | (with_reducible refine Kd.C_alloc ?_ _) | (with_reducible refine Kd.C_drewN ?_ _) | (with_reducible refine Kd.C_drew ?_))); (case side2 => exact HC0_1.out); rintro e w25 ⟨rfl, hb⟩; have n0_ := Aside0.mk (blk_below (g := gb362) (o := .cells #[.int .i64 a0_0, .slice A0_1 l0_1.length c0_1] 24 (0, 0)) (by (with_reducible repeat (first | refine blk_drewN ?_ _ | refine blk_drew ?_ | refine blk_alloc ?_ _)); exact BK362.out) hb); have n1_ := Aside0.mk (below_step (by repeat (first | (with_reducible first | exact HB.out | apply below_alloc | apply pw_below_drewN | apply below_drew1 | refine below_set ?_ GE362.out) | exact HB.out)) hb); clear BK362; clear HB; have BK362 := n0_; have HB := n1_; clear n0_ n1_; (try clear hb); (try clear hb2); (try clear hk); (try clear hi)) | (go_at_call 14; (with_reducible refine (tr_Time.calls a1 false _ A10.out).mono ?_); rintro e w' ⟨rfl, ⟨nd, rfl⟩⟩; (try first | exact ⟨rfl, _, World.drewN_drewN _ _ _⟩ | exact ⟨rfl, _, Eq.trans (World.drewN_drewN _ _ _) (congrArg (World.drewN _) (Nat.add_assoc _ _ _))⟩))))
      go_meet
      case rel => exact ⟨_, (true), (by first | rfl | (simp; done) | (simp [*]; done)), H', ⟨by first | omega | exact Nat.le_refl _⟩, ⟨by (with_reducible repeat (first | refine blk_drewN ?_ _ | refine blk_drew ?_ | refine blk_alloc ?_ _)); exact BK362.out⟩, ⟨by repeat (first | (with_reducible first | exact HB.out | apply below_alloc | apply pw_below_drewN | apply below_drew1 | refine below_set ?_ GE362.out) | exact HB.out)⟩⟩
   ·
    replace c9 := Bool.eq_false_iff.mpr c9
    subst c9
    have H1 : (tl_CamStood.j0 k a1 a2 true a0_0 l0_1) = some r := by rw [if_neg (show ¬ (false = true) by decide)] at H; exact H
    clear H
    have H := H1
    clear H1
    as_aux_lemma =>
     have H' := Aside0.mk H
     clear H
     have hcz26_0 : w5.cell? ⟨gb362, 0, none⟩ = some (.int .i64 a0_0) := (blk_cell BK362.out 0).trans rfl
     have hcz26_1 : w5.cell? ⟨gb362, 1, none⟩ = some (.slice A0_1 l0_1.length c0_1) := (blk_cell BK362.out 1).trans rfl
     have hfz26_0 := blk_frozen BK362.out 0
     have hfz26_1 := blk_frozen BK362.out 1
     go_wp2_with (first | (go_at_call 10; (with_reducible refine (tl_slim.calls a0_0 _ _ l0_1 true _ ?side1 ?side2 A6.out).mono ?_); (case side1 => repeat (first | exact (Kd.C_below HR0_1.out HB.out) | (with_reducible refine Kd.C_alloc ?_ _) | (with_reducible refine Kd.C_drewN ?_ _) | (with_reducible refine Kd.C_drew ?_))); (case side2 => exact HC0_1.out); rintro e w27 ⟨rfl, hb⟩; have n0_ := Aside0.mk (blk_below (g := gb362) (o := .cells #[.int .i64 a0_0, .slice A0_1 l0_1.length c0_1] 24 (0, 0)) (by (with_reducible repeat (first | refine blk_drewN ?_ _ | refine blk_drew ?_ | refine blk_alloc ?_ _)); exact BK362.out) hb); have n1_ := Aside0.mk (below_step (by repeat (first | (with_reducible first | exact HB.out | apply below_alloc | apply pw_below_drewN | apply below_drew1 | refine below_set ?_ GE362.out) | exact HB.out)) hb); clear BK362; clear HB; have BK362 := n0_; have HB := n1_; clear n0_ n1_; (try clear hb); (try clear hb2); (try clear hk); (try clear hi); have hcz28_0 : w27.cell? ⟨gb362, 0, none⟩ = some (.int .i64 a0_0) := (blk_cell BK362.out 0).trans rfl; have hcz28_1 : w27.cell? ⟨gb362, 1, none⟩ = some (.slice A0_1 l0_1.length c0_1) := (blk_cell BK362.out 1).trans rfl; have hfz28_0 := blk_frozen BK362.out 0; have hfz28_1 := blk_frozen BK362.out 1) | (go_at_call 13; (with_reducible refine (tr_Motion.calls k a0_0 _ _ l0_1 false _ ?side1 ?side2 A8.out).mono ?_); (case side1 => repeat (first | exact (Kd.C_below HR0_1.out HB.out) | (with_reducible refine Kd.C_alloc ?_ _) | (with_reducible refine Kd.C_drewN ?_ _) | (with_reducible refine Kd.C_drew ?_))); (case side2 => exact HC0_1.out); rintro e w29 ⟨rfl, hb⟩; have n0_ := Aside0.mk (blk_below (g := gb362) (o := .cells #[.int .i64 a0_0, .slice A0_1 l0_1.length c0_1] 24 (0, 0)) (by (with_reducible repeat (first | refine blk_drewN ?_ _ | refine blk_drew ?_ | refine blk_alloc ?_ _)); exact BK362.out) hb); have n1_ := Aside0.mk (below_step (by repeat (first | (with_reducible first | exact HB.out | apply below_alloc | apply pw_below_drewN | apply below_drew1 | refine below_set ?_ GE362.out) | exact HB.out)) hb); clear BK362; clear HB; have BK362 := n0_; have HB := n1_; clear n0_ n1_; (try clear hb); (try clear hb2); (try clear hk); (try clear hi)))
     repeat (go_quiet (first | (go_at_call 10; (with_reducible refine (tl_slim.calls a0_0 _ _ l0_1 true _ ?side1 ?side2 A6.out).mono ?_); (case side1 => repeat (first | exact (Kd.C_below HR0_1.out HB.out) | (with_reducible refine Kd.C_alloc ?_ _) | (with_reducible refine Kd.C_drewN ?_ _) | (with_reducible refine Kd.C_drew ?_))); (case side2 => exact HC0_1.out); rintro e w27 ⟨rfl, hb⟩; have n0_ := Aside0.mk (blk_below (g := gb362) (o := .cells #[.int .i64 a0_0, .slice A0_1 l0_1.length c0_1] 24 (0, 0)) (by (with_reducible repeat (first | refine blk_drewN ?_ _ | refine blk_drew ?_ | refine blk_alloc ?_ _)); exact BK362.out) hb); have n1_ := Aside0.mk (below_step (by repeat (first | (with_reducible first | exact HB.out | apply below_alloc | apply pw_below_drewN | apply below_drew1 | refine below_set ?_ GE362.out) | exact HB.out)) hb); clear BK362; clear HB; have BK362 := n0_; have HB := n1_; clear n0_ n1_; (try clear hb); (try clear hb2); (try clear hk); (try clear hi); have hcz28_0 : w27.cell? ⟨gb362, 0, none⟩ = some (.int .i64 a0_0) := (blk_cell BK362.out 0).trans rfl; have hcz28_1 : w27.cell? ⟨gb362, 1, none⟩ = some (.slice A0_1 l0_1.length c0_1) := (blk_cell BK362.out 1).trans rfl; have hfz28_0 := blk_frozen BK362.out 0; have hfz28_1 := blk_frozen BK362.out 1) | (go_at_call 13; (with_reducible refine (tr_Motion.calls k a0_0 _ _ l0_1 false _ ?side1 ?side2 A8.out).mono ?_); (case side1 => repeat (first | exact (Kd.C_below HR0_1.out HB.out) | (with_reducible refine Kd.C_alloc ?_ _) | (with_reducible refine Kd.C_drewN ?_ _) | (with_reducible refine Kd.C_drew ?_))); (case side2 => exact HC0_1.out); rintro e w29 ⟨rfl, hb⟩; have n0_ := Aside0.mk (blk_below (g := gb362) (o := .cells #[.int .i64 a0_0, .slice A0_1 l0_1.length c0_1] 24 (0, 0)) (by (with_reducible repeat (first | refine blk_drewN ?_ _ | refine blk_drew ?_ | refine blk_alloc ?_ _)); exact BK362.out) hb); have n1_ := Aside0.mk (below_step (by repeat (first | (with_reducible first | exact HB.out | apply below_alloc | apply pw_below_drewN | apply below_drew1 | refine below_set ?_ GE362.out) | exact HB.out)) hb); clear BK362; clear HB; have BK362 := n0_; have HB := n1_; clear n0_ n1_; (try clear hb); (try clear hb2); (try clear hk); (try clear hi))); try go_wp2_with (first | (go_at_call 10; (with_reducible refine (tl_slim.calls a0_0 _ _ l0_1 true _ ?side1 ?side2 A6.out).mono ?_); (case side1 => repeat (first | exact (Kd.C_below HR0_1.out HB.out) | (with_reducible refine Kd.C_alloc ?_ _) | (with_reducible refine Kd.C_drewN ?_ _) | (with_reducible refine Kd.C_drew ?_))); (case side2 => exact HC0_1.out); rintro e w27 ⟨rfl, hb⟩; have n0_ := Aside0.mk (blk_below (g := gb362) (o := .cells #[.int .i64 a0_0, .slice A0_1 l0_1.length c0_1] 24 (0, 0)) (by (with_reducible repeat (first | refine blk_drewN ?_ _ | refine blk_drew ?_ | refine blk_alloc ?_ _)); exact BK362.out) hb); have n1_ := Aside0.mk (below_step (by repeat (first | (with_reducible first | exact HB.out | apply below_alloc | apply pw_below_drewN | apply below_drew1 | refine below_set ?_ GE362.out) | exact HB.out)) hb); clear BK362; clear HB; have BK362 := n0_; have HB := n1_; clear n0_ n1_; (try clear hb); (try clear hb2); (try clear hk); (try clear hi); have hcz28_0 : w27.cell? ⟨gb362, 0, none⟩ = some (.int .i64 a0_0) := (blk_cell BK362.out 0).trans rfl; have hcz28_1 : w27.cell? ⟨gb362, 1, none⟩ = some (.slice A0_1 l0_1.length c0_1) := (blk_cell BK362.out 1).trans rfl; have hfz28_0 := blk_frozen BK362.out 0; have hfz28_1 := blk_frozen BK362.out 1) | (go_at_call 13; (with_reducible refine (tr_Motion.calls k a0_0 _ _ l0_1 false _ ?side1 ?side2 A8.out).mono ?_); (case side1 => repeat (first | exact (Kd.C_below HR0_1.out HB.out) | (with_reducible refine Kd.C_alloc ?_ _) | (with_reducible refine Kd.C_drewN ?_ _) | (with_reducible refine Kd.C_drew ?_))); (case side2 => exact HC0_1.out); rintro e w29 ⟨rfl, hb⟩; have n0_ := Aside0.mk (blk_below (g := gb362) (o := .cells #[.int .i64 a0_0, .slice A0_1 l0_1.length c0_1] 24 (0, 0)) (by (with_reducible repeat (first | refine blk_drewN ?_ _ | refine blk_drew ?_ | refine blk_alloc ?_ _)); exact BK362.out) hb); have n1_ := Aside0.mk (below_step (by repeat (first | (with_reducible first | exact HB.out | apply below_alloc | apply pw_below_drewN | apply below_drew1 | refine below_set ?_ GE362.out) | exact HB.out)) hb); clear BK362; clear HB; have BK362 := n0_; have HB := n1_; clear n0_ n1_; (try clear hb); (try clear hb2); (try clear hk); (try clear hi))))
     go_meet
     case rel => exact ⟨_, (true), (by first | rfl | (simp; done) | (simp [*]; done)), H', ⟨by first | omega | exact Nat.le_refl _⟩, ⟨by (with_reducible repeat (first | refine blk_drewN ?_ _ | refine blk_drew ?_ | refine blk_alloc ?_ _)); exact BK362.out⟩, ⟨by repeat (first | (with_reducible first | exact HB.out | apply below_alloc | apply pw_below_drewN | apply below_drew1 | refine below_set ?_ GE362.out) | exact HB.out)⟩⟩
  ·
   replace c7 := Bool.eq_false_iff.mpr c7
   subst c7
   have H1 : (tl_CamStood.j0 k a1 a2 true a0_0 l0_1) = some r := by rw [if_neg (show ¬ (false = true) by decide)] at H; exact H
   clear H
   have H := H1
   clear H1
   as_aux_lemma =>
    have H' := Aside0.mk H
    clear H
    have hcz30_0 : w5.cell? ⟨gb362, 0, none⟩ = some (.int .i64 a0_0) := (blk_cell BK362.out 0).trans rfl
    have hcz30_1 : w5.cell? ⟨gb362, 1, none⟩ = some (.slice A0_1 l0_1.length c0_1) := (blk_cell BK362.out 1).trans rfl
    have hfz30_0 := blk_frozen BK362.out 0
    have hfz30_1 := blk_frozen BK362.out 1
    go_wp2_with (first | (go_at_call 10; (with_reducible refine (tl_slim.calls a0_0 _ _ l0_1 false _ ?side1 ?side2 A6.out).mono ?_); (case side1 => repeat (first | exact (Kd.C_below HR0_1.out HB.out) | (with_reducible refine Kd.C_alloc ?_ _) | (with_reducible refine Kd.C_drewN ?_ _) | (with_reducible refine Kd.C_drew ?_))); (case side2 => exact HC0_1.out); rintro e w31 ⟨rfl, hb⟩; have n0_ := Aside0.mk (blk_below (g := gb362) (o := .cells #[.int .i64 a0_0, .slice A0_1 l0_1.length c0_1] 24 (0, 0)) (by (with_reducible repeat (first | refine blk_drewN ?_ _ | refine blk_drew ?_ | refine blk_alloc ?_ _)); exact BK362.out) hb); have n1_ := Aside0.mk (below_step (by repeat (first | (with_reducible first | exact HB.out | apply below_alloc | apply pw_below_drewN | apply below_drew1 | refine below_set ?_ GE362.out) | exact HB.out)) hb); clear BK362; clear HB; have BK362 := n0_; have HB := n1_; clear n0_ n1_; (try clear hb); (try clear hb2); (try clear hk); (try clear hi)))
    repeat (go_quiet (first | (go_at_call 10; (with_reducible refine (tl_slim.calls a0_0 _ _ l0_1 false _ ?side1 ?side2 A6.out).mono ?_); (case side1 => repeat (first | exact (Kd.C_below HR0_1.out HB.out) | (with_reducible refine Kd.C_alloc ?_ _) | (with_reducible refine Kd.C_drewN ?_ _) | (with_reducible refine Kd.C_drew ?_))); (case side2 => exact HC0_1.out); rintro e w31 ⟨rfl, hb⟩; have n0_ := Aside0.mk (blk_below (g := gb362) (o := .cells #[.int .i64 a0_0, .slice A0_1 l0_1.length c0_1] 24 (0, 0)) (by (with_reducible repeat (first | refine blk_drewN ?_ _ | refine blk_drew ?_ | refine blk_alloc ?_ _)); exact BK362.out) hb); have n1_ := Aside0.mk (below_step (by repeat (first | (with_reducible first | exact HB.out | apply below_alloc | apply pw_below_drewN | apply below_drew1 | refine below_set ?_ GE362.out) | exact HB.out)) hb); clear BK362; clear HB; have BK362 := n0_; have HB := n1_; clear n0_ n1_; (try clear hb); (try clear hb2); (try clear hk); (try clear hi))); try go_wp2_with (first | (go_at_call 10; (with_reducible refine (tl_slim.calls a0_0 _ _ l0_1 false _ ?side1 ?side2 A6.out).mono ?_); (case side1 => repeat (first | exact (Kd.C_below HR0_1.out HB.out) | (with_reducible refine Kd.C_alloc ?_ _) | (with_reducible refine Kd.C_drewN ?_ _) | (with_reducible refine Kd.C_drew ?_))); (case side2 => exact HC0_1.out); rintro e w31 ⟨rfl, hb⟩; have n0_ := Aside0.mk (blk_below (g := gb362) (o := .cells #[.int .i64 a0_0, .slice A0_1 l0_1.length c0_1] 24 (0, 0)) (by (with_reducible repeat (first | refine blk_drewN ?_ _ | refine blk_drew ?_ | refine blk_alloc ?_ _)); exact BK362.out) hb); have n1_ := Aside0.mk (below_step (by repeat (first | (with_reducible first | exact HB.out | apply below_alloc | apply pw_below_drewN | apply below_drew1 | refine below_set ?_ GE362.out) | exact HB.out)) hb); clear BK362; clear HB; have BK362 := n0_; have HB := n1_; clear n0_ n1_; (try clear hb); (try clear hb2); (try clear hk); (try clear hi))))
    go_meet
    case rel => exact ⟨_, (true), (by first | rfl | (simp; done) | (simp [*]; done)), H', ⟨by first | omega | exact Nat.le_refl _⟩, ⟨by (with_reducible repeat (first | refine blk_drewN ?_ _ | refine blk_drew ?_ | refine blk_alloc ?_ _)); exact BK362.out⟩, ⟨by repeat (first | (with_reducible first | exact HB.out | apply below_alloc | apply pw_below_drewN | apply below_drew1 | refine below_set ?_ GE362.out) | exact HB.out)⟩⟩
 case rest =>
  clear HC4
  try clear c1
  try clear p2
  try clear c7
  try clear c9
  try clear c11
  try clear c13
  try clear hcz14_0
  try clear hcz14_1
  try clear hcz16_0
  try clear hcz16_1
  try clear hcz18_0
  try clear hcz18_1
  try clear hcz20_0
  try clear hcz20_1
  try clear hcz22_0
  try clear hcz22_1
  try clear hcz24_0
  try clear hcz24_1
  try clear hcz26_0
  try clear hcz26_1
  try clear hcz28_0
  try clear hcz28_1
  try clear hcz30_0
  try clear hcz30_1
  try clear hfz14_0
  try clear hfz14_1
  try clear hfz16_0
  try clear hfz16_1
  try clear hfz18_0
  try clear hfz18_1
  try clear hfz20_0
  try clear hfz20_1
  try clear hfz22_0
  try clear hfz22_1
  try clear hfz24_0
  try clear hfz24_1
  try clear hfz26_0
  try clear hfz26_1
  try clear hfz28_0
  try clear hfz28_1
  try clear hfz30_0
  try clear hfz30_1
  obtain ⟨kq, x44_3, rfl, HA, HJ3, BK362, HB⟩ := hcut
  cases kq with
  | zero => exact absurd HA.out (by simp [tl_CamStood.j0])
  | succ kj3 =>
   have H := HA.out
   clear HA
   simp only [tl_CamStood.j0] at H
   by_cases c32 : x44_3 = true
   ·
    subst c32
    have H1 : ((tellurionlaw04_known.f).bind fun t367 => (some t367)) = some r := by rw [if_pos rfl] at H; exact H
    clear H
    have H := H1
    clear H1
    replace H := Option.bind_eq_some_iff.mp H
    obtain ⟨t367, A330, H⟩ := H
    replace H : (some t367) = some r := H
    have A33 := Aside0.mk A330
    clear A330
    as_aux_lemma =>
     obtain rfl := Option.some.inj H
     go_wp2_with (first | (go_at_call 11; (with_reducible refine (tellurionlaw04_known.calls  t367 _ A33.out).mono ?_); rintro e w34 ⟨rfl, hb⟩; have n0_ := Aside0.mk (blk_below (g := gb362) (o := .cells #[.int .i64 a0_0, .slice A0_1 l0_1.length c0_1] 24 (0, 0)) (by (with_reducible repeat (first | refine blk_drewN ?_ _ | refine blk_drew ?_ | refine blk_alloc ?_ _)); exact BK362.out) hb); have n1_ := Aside0.mk (below_step (by repeat (first | (with_reducible first | exact HB.out | apply below_alloc | apply pw_below_drewN | apply below_drew1 | refine below_set ?_ GE362.out) | exact HB.out)) hb); clear BK362; clear HB; have BK362 := n0_; have HB := n1_; clear n0_ n1_; (try clear hb); (try clear hb2); (try clear hk); (try clear hi)))
     repeat (go_quiet (first | (go_at_call 11; (with_reducible refine (tellurionlaw04_known.calls  t367 _ A33.out).mono ?_); rintro e w34 ⟨rfl, hb⟩; have n0_ := Aside0.mk (blk_below (g := gb362) (o := .cells #[.int .i64 a0_0, .slice A0_1 l0_1.length c0_1] 24 (0, 0)) (by (with_reducible repeat (first | refine blk_drewN ?_ _ | refine blk_drew ?_ | refine blk_alloc ?_ _)); exact BK362.out) hb); have n1_ := Aside0.mk (below_step (by repeat (first | (with_reducible first | exact HB.out | apply below_alloc | apply pw_below_drewN | apply below_drew1 | refine below_set ?_ GE362.out) | exact HB.out)) hb); clear BK362; clear HB; have BK362 := n0_; have HB := n1_; clear n0_ n1_; (try clear hb); (try clear hb2); (try clear hk); (try clear hi))); try go_wp2_with (first | (go_at_call 11; (with_reducible refine (tellurionlaw04_known.calls  t367 _ A33.out).mono ?_); rintro e w34 ⟨rfl, hb⟩; have n0_ := Aside0.mk (blk_below (g := gb362) (o := .cells #[.int .i64 a0_0, .slice A0_1 l0_1.length c0_1] 24 (0, 0)) (by (with_reducible repeat (first | refine blk_drewN ?_ _ | refine blk_drew ?_ | refine blk_alloc ?_ _)); exact BK362.out) hb); have n1_ := Aside0.mk (below_step (by repeat (first | (with_reducible first | exact HB.out | apply below_alloc | apply pw_below_drewN | apply below_drew1 | refine below_set ?_ GE362.out) | exact HB.out)) hb); clear BK362; clear HB; have BK362 := n0_; have HB := n1_; clear n0_ n1_; (try clear hb); (try clear hb2); (try clear hk); (try clear hi))))
     go_ret
     exact ⟨by first | rfl | (simp [errW_none, errW_some] <;> rfl) | (simp [*, errW_none, errW_some] <;> rfl), by repeat (first | (with_reducible first | exact HB.out | apply below_alloc | apply pw_below_drewN | apply below_drew1 | refine below_set ?_ GE362.out) | exact HB.out)⟩
   ·
    replace c32 := Bool.eq_false_iff.mpr c32
    subst c32
    have H1 : ((cam_Stations.f kj3 a0_0 l0_1 a1 a2).bind fun bt368 => (if bt368.2 = 0 then (tl_CamStood.j1 kj3 a1 a2 bt368.1 (decide ((bt368.1.length : Int) > (wrap64 ((wrap64 (a2 - a1)) + 1)))) a0_0 l0_1) else (tl_CamStood.j1 kj3 a1 a2 bt368.1 true a0_0 l0_1))) = some r := by rw [if_neg (show ¬ (false = true) by decide)] at H; exact H
    clear H
    have H := H1
    clear H1
    replace H := Option.bind_eq_some_iff.mp H
    obtain ⟨⟨t368, t371⟩, A350, H⟩ := H
    replace H : (if t371 = 0 then (tl_CamStood.j1 kj3 a1 a2 t368 (decide ((t368.length : Int) > (wrap64 ((wrap64 (a2 - a1)) + 1)))) a0_0 l0_1) else (tl_CamStood.j1 kj3 a1 a2 t368 true a0_0 l0_1)) = some r := H
    have A35 := Aside0.mk A350
    clear A350
    have HC36 := Aside0.mk H
    clear H
    have hcz37_0 : wc.cell? ⟨gb362, 0, none⟩ = some (.int .i64 a0_0) := (blk_cell BK362.out 0).trans rfl
    have hcz37_1 : wc.cell? ⟨gb362, 1, none⟩ = some (.slice A0_1 l0_1.length c0_1) := (blk_cell BK362.out 1).trans rfl
    have hfz37_0 := blk_frozen BK362.out 0
    have hfz37_1 := blk_frozen BK362.out 1
    go_upto_region 4 with (first | (go_at_call 30; (with_reducible refine (cam_Stations.calls kj3 a0_0 _ _ l0_1 a1 a2 t368 t371 _ ?side1 ?side2 A35.out).mono ?_); (case side1 => repeat (first | exact (Kd.C_below HR0_1.out HB.out) | (with_reducible refine Kd.C_alloc ?_ _) | (with_reducible refine Kd.C_drewN ?_ _) | (with_reducible refine Kd.C_drew ?_))); (case side2 => exact HC0_1.out); rintro e w38 ⟨v369, rfl, ho0, hb⟩; have n0_ := Aside0.mk (Kd.R_lower ho0 (below_size (by repeat (first | (with_reducible first | exact HB.out | apply below_alloc | apply pw_below_drewN | apply below_drew1 | refine below_set ?_ GE362.out) | exact HB.out)))); have n1_ := Aside0.mk (blk_below (g := gb362) (o := .cells #[.int .i64 a0_0, .slice A0_1 l0_1.length c0_1] 24 (0, 0)) (by (with_reducible repeat (first | refine blk_drewN ?_ _ | refine blk_drew ?_ | refine blk_alloc ?_ _)); exact BK362.out) hb); have n2_ := Aside0.mk (below_step (by repeat (first | (with_reducible first | exact HB.out | apply below_alloc | apply pw_below_drewN | apply below_drew1 | refine below_set ?_ GE362.out) | exact HB.out)) hb); clear BK362; clear HB; have HO370 := n0_; have BK362 := n1_; have HB := n2_; clear n0_ n1_ n2_; (try clear hb); (try clear hb2); (try clear hk); (try clear hi); (try clear ho0)))
    repeat (go_quiet (first | (go_at_call 30; (with_reducible refine (cam_Stations.calls kj3 a0_0 _ _ l0_1 a1 a2 t368 t371 _ ?side1 ?side2 A35.out).mono ?_); (case side1 => repeat (first | exact (Kd.C_below HR0_1.out HB.out) | (with_reducible refine Kd.C_alloc ?_ _) | (with_reducible refine Kd.C_drewN ?_ _) | (with_reducible refine Kd.C_drew ?_))); (case side2 => exact HC0_1.out); rintro e w38 ⟨v369, rfl, ho0, hb⟩; have n0_ := Aside0.mk (Kd.R_lower ho0 (below_size (by repeat (first | (with_reducible first | exact HB.out | apply below_alloc | apply pw_below_drewN | apply below_drew1 | refine below_set ?_ GE362.out) | exact HB.out)))); have n1_ := Aside0.mk (blk_below (g := gb362) (o := .cells #[.int .i64 a0_0, .slice A0_1 l0_1.length c0_1] 24 (0, 0)) (by (with_reducible repeat (first | refine blk_drewN ?_ _ | refine blk_drew ?_ | refine blk_alloc ?_ _)); exact BK362.out) hb); have n2_ := Aside0.mk (below_step (by repeat (first | (with_reducible first | exact HB.out | apply below_alloc | apply pw_below_drewN | apply below_drew1 | refine below_set ?_ GE362.out) | exact HB.out)) hb); clear BK362; clear HB; have HO370 := n0_; have BK362 := n1_; have HB := n2_; clear n0_ n1_ n2_; (try clear hb); (try clear hb2); (try clear hk); (try clear hi); (try clear ho0))); go_upto_region 4 with (first | (go_at_call 30; (with_reducible refine (cam_Stations.calls kj3 a0_0 _ _ l0_1 a1 a2 t368 t371 _ ?side1 ?side2 A35.out).mono ?_); (case side1 => repeat (first | exact (Kd.C_below HR0_1.out HB.out) | (with_reducible refine Kd.C_alloc ?_ _) | (with_reducible refine Kd.C_drewN ?_ _) | (with_reducible refine Kd.C_drew ?_))); (case side2 => exact HC0_1.out); rintro e w38 ⟨v369, rfl, ho0, hb⟩; have n0_ := Aside0.mk (Kd.R_lower ho0 (below_size (by repeat (first | (with_reducible first | exact HB.out | apply below_alloc | apply pw_below_drewN | apply below_drew1 | refine below_set ?_ GE362.out) | exact HB.out)))); have n1_ := Aside0.mk (blk_below (g := gb362) (o := .cells #[.int .i64 a0_0, .slice A0_1 l0_1.length c0_1] 24 (0, 0)) (by (with_reducible repeat (first | refine blk_drewN ?_ _ | refine blk_drew ?_ | refine blk_alloc ?_ _)); exact BK362.out) hb); have n2_ := Aside0.mk (below_step (by repeat (first | (with_reducible first | exact HB.out | apply below_alloc | apply pw_below_drewN | apply below_drew1 | refine below_set ?_ GE362.out) | exact HB.out)) hb); clear BK362; clear HB; have HO370 := n0_; have BK362 := n1_; have HB := n2_; clear n0_ n1_ n2_; (try clear hb); (try clear hb2); (try clear hk); (try clear hi); (try clear ho0))))
    (try simp only [Act.put, List.setIfInBounds_toArray, List.set_cons_zero, List.set_cons_succ])
    go_cut [63] (fun v63 wc => ∃ (kq : Nat) (x63_35 : Bool), v63 = .bool x63_35 ∧ Aside0 (tl_CamStood.j1 kq a1 a2 t368 x63_35 a0_0 l0_1 = some r) ∧ Aside0 (kq ≤ kj3) ∧ Aside0 (Kd.R (Kd.int .i64) 3 wc w.heap.size (fun _ => True) v369 t368) ∧ Aside0 (wc.heap[gb362]? = some (.cells #[.int .i64 a0_0, (.slice A0_1 l0_1.length c0_1)] 24 (0, 0))) ∧ Aside0 (Below w.heap.size w wc))
    case first =>
     have H := HC36.out
     clear HC36
     by_cases c39 : t371 = 0
     ·
      rw [if_pos c39] at H
      have c39b0 : (t371 == 0) = true := beq_iff_eq.mpr c39
      have c39b1 : (t371 != 0) = false := bne_eq_false_iff_eq.mpr c39
      clear c39
      (first | rw [c39b0] | (simp only [i64_w, i32_w]; rw [c39b0]) | skip)
      as_aux_lemma =>
       have H' := Aside0.mk H
       clear H
       obtain ⟨Ao40, co40, eo40⟩ := Kd.R_slice HO370.out
       subst eo40
       go_wp2
       repeat (go_quiet (fail); try go_wp2)
       go_meet
       case rel => exact ⟨_, (decide ((t368.length : Int) > (wrap64 ((wrap64 (a2 - a1)) + 1)))), (by first | rfl | (simp; done) | (simp [*]; done)), H', ⟨by have := HJ3.out; first | omega | exact Nat.le_refl _⟩, ⟨by (with_reducible repeat (first | apply Kd.R_alloc | apply Kd.R_drewN | apply Kd.R_drew)); exact HO370.out⟩, ⟨by (with_reducible repeat (first | refine blk_drewN ?_ _ | refine blk_drew ?_ | refine blk_alloc ?_ _)); exact BK362.out⟩, ⟨by repeat (first | (with_reducible first | exact HB.out | apply below_alloc | apply pw_below_drewN | apply below_drew1 | refine below_set ?_ GE362.out) | exact HB.out)⟩⟩
     ·
      rw [if_neg c39] at H
      have c39b0 : (t371 == 0) = false := beq_eq_false_iff_ne.mpr c39
      have c39b1 : (t371 != 0) = true := bne_iff_ne.mpr c39
      (first | rw [c39b0] | (simp only [i64_w, i32_w]; rw [c39b0]) | skip)
      as_aux_lemma =>
       have H' := Aside0.mk H
       clear H
       go_wp2
       repeat (go_quiet (fail); try go_wp2)
       go_meet
       case rel => exact ⟨_, (true), (by first | rfl | (simp; done) | (simp [*]; done)), H', ⟨by have := HJ3.out; first | omega | exact Nat.le_refl _⟩, ⟨by (with_reducible repeat (first | apply Kd.R_alloc | apply Kd.R_drewN | apply Kd.R_drew)); exact HO370.out⟩, ⟨by (with_reducible repeat (first | refine blk_drewN ?_ _ | refine blk_drew ?_ | refine blk_alloc ?_ _)); exact BK362.out⟩, ⟨by repeat (first | (with_reducible first | exact HB.out | apply below_alloc | apply pw_below_drewN | apply below_drew1 | refine below_set ?_ GE362.out) | exact HB.out)⟩⟩
    case rest =>
     clear HC36
     try clear c1
     try clear p2
     try clear c3
     try clear p6
     try clear c7
     try clear c9
     try clear c11
     try clear c13
     try clear c32
     try clear c39
     try clear c39b0
     try clear c39b1
     try clear hcz14_0
     try clear hcz14_1
     try clear hcz16_0
     try clear hcz16_1
     try clear hcz18_0
     try clear hcz18_1
     try clear hcz20_0
     try clear hcz20_1
     try clear hcz22_0
     try clear hcz22_1
     try clear hcz24_0
     try clear hcz24_1
     try clear hcz26_0
     try clear hcz26_1
     try clear hcz28_0
     try clear hcz28_1
     try clear hcz30_0
     try clear hcz30_1
     try clear hcz37_0
     try clear hcz37_1
     try clear hfz14_0
     try clear hfz14_1
     try clear hfz16_0
     try clear hfz16_1
     try clear hfz18_0
     try clear hfz18_1
     try clear hfz20_0
     try clear hfz20_1
     try clear hfz22_0
     try clear hfz22_1
     try clear hfz24_0
     try clear hfz24_1
     try clear hfz26_0
     try clear hfz26_1
     try clear hfz28_0
     try clear hfz28_1
     try clear hfz30_0
     try clear hfz30_1
     try clear hfz37_0
     try clear hfz37_1
     try clear p2
     obtain ⟨kq, x63_35, rfl, HA, HJ35, HO_7, BK362, HB⟩ := hcut
     cases kq with
     | zero => exact absurd HA.out (by simp [tl_CamStood.j1])
     | succ kj35 =>
      have H := HA.out
      clear HA
      simp only [tl_CamStood.j1] at H
      by_cases c41 : x63_35 = true
      ·
       subst c41
       have H1 : (some false) = some r := by rw [if_pos rfl] at H; exact H
       clear H
       have H := H1
       clear H1
       as_aux_lemma =>
        obtain rfl := Option.some.inj H
        go_wp2
        repeat (go_quiet (fail); try go_wp2)
        go_ret
        exact ⟨by first | rfl | (simp [errW_none, errW_some] <;> rfl) | (simp [*, errW_none, errW_some] <;> rfl), by repeat (first | (with_reducible first | exact HB.out | apply below_alloc | apply pw_below_drewN | apply below_drew1 | refine below_set ?_ GE362.out) | exact HB.out)⟩
      ·
       replace c41 := Bool.eq_false_iff.mpr c41
       subst c41
       have H1 : (tl_CamStood.l0 kj35 a1 a2 t368 a1 false false 0 a1 a0_0 l0_1) = some r := by rw [if_neg (show ¬ (false = true) by decide)] at H; exact H
       clear H
       have H := H1
       clear H1
       have H' := Aside0.mk H
       clear H
       go_wp2
       repeat (go_quiet (fail); try go_wp2)
       go_loopg [9, 10, 11, 12, 13] kj35 (fun kq v9 v10 v11 v12 v13 w' => ∃ (x9_3 : Int) (x10_3 : Bool) (x11_3 : Bool) (x12_3 : Int) (x13_3 : Int), v9 = .int .i64 x9_3 ∧ v10 = .bool x10_3 ∧ v11 = .bool x11_3 ∧ v12 = .int .i64 x12_3 ∧ v13 = .int .i64 x13_3 ∧ Aside0 (tl_CamStood.l0 kq a1 a2 t368 x9_3 x10_3 x11_3 x12_3 x13_3 a0_0 l0_1 = some r) ∧ Aside0 (kq ≤ kj35) ∧ Aside0 (Kd.R (Kd.int .i64) 3 w' w.heap.size (fun _ => True) v369 t368) ∧ Aside0 (w'.heap[gb362]? = some (.cells #[.int .i64 a0_0, (.slice A0_1 l0_1.length c0_1)] 24 (0, 0))) ∧ Aside0 (Below w.heap.size w w'))
       case atStart => exact ⟨(a1), (false), (false), (0), (a1), (by first | rfl | (simp; done) | (simp [*]; done)), (by first | rfl | (simp; done) | (simp [*]; done)), (by first | rfl | (simp; done) | (simp [*]; done)), (by first | rfl | (simp; done) | (simp [*]; done)), (by first | rfl | (simp; done) | (simp [*]; done)), H', ⟨Nat.le_refl _⟩, ⟨by (with_reducible repeat (first | apply Kd.R_alloc | apply Kd.R_drewN | apply Kd.R_drew)); exact HO_7.out⟩, ⟨by (with_reducible repeat (first | refine blk_drewN ?_ _ | refine blk_drew ?_ | refine blk_alloc ?_ _)); exact BK362.out⟩, ⟨by repeat (first | (with_reducible first | exact HB.out | apply below_alloc | apply pw_below_drewN | apply below_drew1 | refine below_set ?_ GE362.out) | exact HB.out)⟩⟩
       case round =>
        clear H'
        try clear c1
        try clear p2
        try clear c3
        try clear c4
        try clear p6
        try clear c7
        try clear c9
        try clear c11
        try clear c13
        try clear c32
        try clear c39
        try clear c39b0
        try clear c39b1
        try clear c41
        try clear hcz14_0
        try clear hcz14_1
        try clear hcz16_0
        try clear hcz16_1
        try clear hcz18_0
        try clear hcz18_1
        try clear hcz20_0
        try clear hcz20_1
        try clear hcz22_0
        try clear hcz22_1
        try clear hcz24_0
        try clear hcz24_1
        try clear hcz26_0
        try clear hcz26_1
        try clear hcz28_0
        try clear hcz28_1
        try clear hcz30_0
        try clear hcz30_1
        try clear hcz37_0
        try clear hcz37_1
        try clear hfz14_0
        try clear hfz14_1
        try clear hfz16_0
        try clear hfz16_1
        try clear hfz18_0
        try clear hfz18_1
        try clear hfz20_0
        try clear hfz20_1
        try clear hfz22_0
        try clear hfz22_1
        try clear hfz24_0
        try clear hfz24_1
        try clear hfz26_0
        try clear hfz26_1
        try clear hfz28_0
        try clear hfz28_1
        try clear hfz30_0
        try clear hfz30_1
        try clear hfz37_0
        try clear hfz37_1
        try clear p2
        try clear p6
        obtain ⟨x9_3, x10_3, x11_3, x12_3, x13_3, rfl, rfl, rfl, rfl, rfl, HA, HK3, HO_7, BK362, HB⟩ := hrel
        cases gk with
        | zero => exact absurd HA.out (by simp [tl_CamStood.l0])
        | succ k3 =>
         have H := HA.out
         clear HA
         simp only [tl_CamStood.l0] at H
         by_cases c42 : x13_3 < a2
         ·
          rw [if_pos c42] at H
          have c42b0 : decide (x13_3 < a2) = true := decide_eq_true c42
          clear c42
          have HC43 := Aside0.mk H
          clear H
          go_upto_region 12 with (fail)
          repeat (go_quiet (fail); go_upto_region 12 with (fail))
          go_cut [82] (fun v82 wc => ∃ (kq : Nat) (x82_42 : Bool), v82 = .bool x82_42 ∧ Aside0 (tl_CamStood.j3 kq a1 a2 t368 x9_3 x10_3 x11_3 x12_3 x13_3 x82_42 a0_0 l0_1 = some r) ∧ Aside0 (kq ≤ k3) ∧ Aside0 (Kd.R (Kd.int .i64) 3 wc w.heap.size (fun _ => True) v369 t368) ∧ Aside0 (wc.heap[gb362]? = some (.cells #[.int .i64 a0_0, (.slice A0_1 l0_1.length c0_1)] 24 (0, 0))) ∧ Aside0 (Below w.heap.size w wc))
          case first =>
           have H := HC43.out
           clear HC43
           by_cases c44 : x12_3 < (t368.length : Int)
           ·
            rw [if_pos c44] at H
            have c44b0 : decide (x12_3 < (t368.length : Int)) = true := decide_eq_true c44
            clear c44
            (first | rw [c44b0] | (simp only [i64_w, i32_w]; rw [c44b0]) | skip)
            by_cases c45 : 0 ≤ x12_3
            ·
             rw [if_pos c45] at H
             have c45b0 : decide (0 ≤ x12_3) = true := decide_eq_true c45
             clear c45
             as_aux_lemma =>
              have H' := Aside0.mk H
              clear H
              obtain ⟨Ao46, co46, eo46⟩ := Kd.R_slice HO_7.out
              subst eo46
              have p372 : 0 ≤ (x12_3 : Int) := of_decide_eq_true (by first | (with_reducible assumption) | assumption)
              have q372 : x12_3 < (t368.length : Int) := of_decide_eq_true (by first | (with_reducible assumption) | assumption)
              obtain ⟨ad372, e372, hx372_0⟩ := Kd.at_int (Kd.R_reads' HO_7.out).2.2 x12_3 p372 q372
              cases e372
              replace p372 := eq_true p372
              replace q372 := eq_true q372
              go_wp2
              repeat (go_quiet (fail); try go_wp2)
              go_meet
              case rel => exact ⟨_, (((rd t368 x12_3) == x13_3)), (by first | rfl | (simp; done) | (simp [*]; done)), H', ⟨by have := HJ3.out; have := HJ35.out; have := HK3.out; first | omega | exact Nat.le_refl _⟩, ⟨by (with_reducible repeat (first | apply Kd.R_alloc | apply Kd.R_drewN | apply Kd.R_drew)); exact HO_7.out⟩, ⟨by (with_reducible repeat (first | refine blk_drewN ?_ _ | refine blk_drew ?_ | refine blk_alloc ?_ _)); exact BK362.out⟩, ⟨by repeat (first | (with_reducible first | exact HB.out | apply below_alloc | apply pw_below_drewN | apply below_drew1 | refine below_set ?_ GE362.out) | exact HB.out)⟩⟩
            ·
             rw [if_neg c45] at H
             exact absurd H (by simp)
           ·
            rw [if_neg c44] at H
            have c44b0 : decide (x12_3 < (t368.length : Int)) = false := decide_eq_false c44
            clear c44
            (first | rw [c44b0] | (simp only [i64_w, i32_w]; rw [c44b0]) | skip)
            as_aux_lemma =>
             have H' := Aside0.mk H
             clear H
             obtain ⟨Ao47, co47, eo47⟩ := Kd.R_slice HO_7.out
             subst eo47
             go_wp2
             repeat (go_quiet (fail); try go_wp2)
             go_meet
             case rel => exact ⟨_, (false), (by first | rfl | (simp; done) | (simp [*]; done)), H', ⟨by have := HJ3.out; have := HJ35.out; have := HK3.out; first | omega | exact Nat.le_refl _⟩, ⟨by (with_reducible repeat (first | apply Kd.R_alloc | apply Kd.R_drewN | apply Kd.R_drew)); exact HO_7.out⟩, ⟨by (with_reducible repeat (first | refine blk_drewN ?_ _ | refine blk_drew ?_ | refine blk_alloc ?_ _)); exact BK362.out⟩, ⟨by repeat (first | (with_reducible first | exact HB.out | apply below_alloc | apply pw_below_drewN | apply below_drew1 | refine below_set ?_ GE362.out) | exact HB.out)⟩⟩
          case rest =>
           clear HC43
           try clear c1
           try clear p2
           try clear c3
           try clear p3
           try clear q3
           try clear hx3
           try clear c4
           try clear p6
           try clear c7
           try clear c9
           try clear c11
           try clear c13
           try clear c32
           try clear p37
           try clear q37
           try clear hx37
           try clear c39
           try clear c39b0
           try clear c39b1
           try clear c41
           try clear c42
           try clear c42b0
           try clear c44
           try clear c44b0
           try clear c45
           try clear c45b0
           try clear hcz14_0
           try clear hcz14_1
           try clear hcz16_0
           try clear hcz16_1
           try clear hcz18_0
           try clear hcz18_1
           try clear hcz20_0
           try clear hcz20_1
           try clear hcz22_0
           try clear hcz22_1
           try clear hcz24_0
           try clear hcz24_1
           try clear hcz26_0
           try clear hcz26_1
           try clear hcz28_0
           try clear hcz28_1
           try clear hcz30_0
           try clear hcz30_1
           try clear hcz37_0
           try clear hcz37_1
           try clear hfz14_0
           try clear hfz14_1
           try clear hfz16_0
           try clear hfz16_1
           try clear hfz18_0
           try clear hfz18_1
           try clear hfz20_0
           try clear hfz20_1
           try clear hfz22_0
           try clear hfz22_1
           try clear hfz24_0
           try clear hfz24_1
           try clear hfz26_0
           try clear hfz26_1
           try clear hfz28_0
           try clear hfz28_1
           try clear hfz30_0
           try clear hfz30_1
           try clear hfz37_0
           try clear hfz37_1
           try clear hx372_0
           try clear p2
           try clear p372
           try clear p6
           try clear q372
           obtain ⟨kq, x82_42, rfl, HA, HJ42, HO_7, BK362, HB⟩ := hcut
           cases kq with
           | zero => exact absurd HA.out (by simp [tl_CamStood.j3])
           | succ kj42 =>
            have H := HA.out
            clear HA
            simp only [tl_CamStood.j3] at H
            have HC48 := Aside0.mk H
            clear H
            go_upto_if 82 with (fail)
            repeat (go_quiet (fail); go_upto_if 82 with (fail))
            go_cut [9, 10, 11, 12] (fun v9 v10 v11 v12 wc => ∃ (kq : Nat) (x9_47 : Int) (x10_47 : Bool) (x11_47 : Bool) (x12_47 : Int), v9 = .int .i64 x9_47 ∧ v10 = .bool x10_47 ∧ v11 = .bool x11_47 ∧ v12 = .int .i64 x12_47 ∧ Aside0 (tl_CamStood.j4 kq a1 a2 t368 x9_47 x10_47 x11_47 x12_47 x13_3 a0_0 l0_1 = some r) ∧ Aside0 (kq ≤ kj42) ∧ Aside0 (Kd.R (Kd.int .i64) 3 wc w.heap.size (fun _ => True) v369 t368) ∧ Aside0 (wc.heap[gb362]? = some (.cells #[.int .i64 a0_0, (.slice A0_1 l0_1.length c0_1)] 24 (0, 0))) ∧ Aside0 (Below w.heap.size w wc))
            case first =>
             have H := HC48.out
             clear HC48
             by_cases c49 : x82_42 = true
             ·
              subst c49
              have H1 : (if x13_3 < x9_3 then (some false) else (tl_CamStood.j4 kj42 a1 a2 t368 x13_3 false false (wrap64 (x12_3 + 1)) x13_3 a0_0 l0_1)) = some r := by rw [if_pos rfl] at H; exact H
              clear H
              have H := H1
              clear H1
              by_cases c50 : x13_3 < x9_3
              ·
               rw [if_pos c50] at H
               have c50b0 : decide (x13_3 < x9_3) = true := decide_eq_true c50
               clear c50
               (first | rw [c50b0] | (simp only [i64_w, i32_w]; rw [c50b0]) | skip)
               as_aux_lemma =>
                obtain rfl := Option.some.inj H
                go_wp2
                repeat (go_quiet (fail); try go_wp2)
                go_ret
                exact ⟨by first | rfl | (simp [errW_none, errW_some] <;> rfl) | (simp [*, errW_none, errW_some] <;> rfl), by repeat (first | (with_reducible first | exact HB.out | apply below_alloc | apply pw_below_drewN | apply below_drew1 | refine below_set ?_ GE362.out) | exact HB.out)⟩
              ·
               rw [if_neg c50] at H
               have c50b0 : decide (x13_3 < x9_3) = false := decide_eq_false c50
               clear c50
               (first | rw [c50b0] | (simp only [i64_w, i32_w]; rw [c50b0]) | skip)
               as_aux_lemma =>
                have H' := Aside0.mk H
                clear H
                go_wp2
                repeat (go_quiet (fail); try go_wp2)
                go_meet
                case rel => exact ⟨_, (x13_3), (false), (false), (wrap64 (x12_3 + 1)), (by first | rfl | (simp; done) | (simp [*]; done)), (by first | rfl | (simp; done) | (simp [*]; done)), (by first | rfl | (simp; done) | (simp [*]; done)), (by first | rfl | (simp; done) | (simp [*]; done)), H', ⟨by have := HJ3.out; have := HJ35.out; have := HK3.out; have := HJ42.out; first | omega | exact Nat.le_refl _⟩, ⟨by (with_reducible repeat (first | apply Kd.R_alloc | apply Kd.R_drewN | apply Kd.R_drew)); exact HO_7.out⟩, ⟨by (with_reducible repeat (first | refine blk_drewN ?_ _ | refine blk_drew ?_ | refine blk_alloc ?_ _)); exact BK362.out⟩, ⟨by repeat (first | (with_reducible first | exact HB.out | apply below_alloc | apply pw_below_drewN | apply below_drew1 | refine below_set ?_ GE362.out) | exact HB.out)⟩⟩
             ·
              replace c49 := Bool.eq_false_iff.mpr c49
              subst c49
              have H1 : (tl_CamStood.j4 kj42 a1 a2 t368 x9_3 x10_3 x11_3 x12_3 x13_3 a0_0 l0_1) = some r := by rw [if_neg (show ¬ (false = true) by decide)] at H; exact H
              clear H
              have H := H1
              clear H1
              as_aux_lemma =>
               have H' := Aside0.mk H
               clear H
               go_wp2
               repeat (go_quiet (fail); try go_wp2)
               go_meet
               case rel => exact ⟨_, (x9_3), (x10_3), (x11_3), (x12_3), (by first | rfl | (simp; done) | (simp [*]; done)), (by first | rfl | (simp; done) | (simp [*]; done)), (by first | rfl | (simp; done) | (simp [*]; done)), (by first | rfl | (simp; done) | (simp [*]; done)), H', ⟨by have := HJ3.out; have := HJ35.out; have := HK3.out; have := HJ42.out; first | omega | exact Nat.le_refl _⟩, ⟨by (with_reducible repeat (first | apply Kd.R_alloc | apply Kd.R_drewN | apply Kd.R_drew)); exact HO_7.out⟩, ⟨by (with_reducible repeat (first | refine blk_drewN ?_ _ | refine blk_drew ?_ | refine blk_alloc ?_ _)); exact BK362.out⟩, ⟨by repeat (first | (with_reducible first | exact HB.out | apply below_alloc | apply pw_below_drewN | apply below_drew1 | refine below_set ?_ GE362.out) | exact HB.out)⟩⟩
            case rest =>
             clear HC48
             try clear c1
             try clear p2
             try clear c3
             try clear p3
             try clear q3
             try clear hx3
             try clear c4
             try clear c5
             try clear p6
             try clear c7
             try clear c9
             try clear c11
             try clear c13
             try clear c32
             try clear p37
             try clear q37
             try clear hx37
             try clear c39
             try clear c39b0
             try clear c39b1
             try clear c41
             try clear c42
             try clear c42b0
             try clear c44
             try clear c44b0
             try clear c45
             try clear c45b0
             try clear c49
             try clear c50
             try clear c50b0
             try clear hcz14_0
             try clear hcz14_1
             try clear hcz16_0
             try clear hcz16_1
             try clear hcz18_0
             try clear hcz18_1
             try clear hcz20_0
             try clear hcz20_1
             try clear hcz22_0
             try clear hcz22_1
             try clear hcz24_0
             try clear hcz24_1
             try clear hcz26_0
             try clear hcz26_1
             try clear hcz28_0
             try clear hcz28_1
             try clear hcz30_0
             try clear hcz30_1
             try clear hcz37_0
             try clear hcz37_1
             try clear hfz14_0
             try clear hfz14_1
             try clear hfz16_0
             try clear hfz16_1
             try clear hfz18_0
             try clear hfz18_1
             try clear hfz20_0
             try clear hfz20_1
             try clear hfz22_0
             try clear hfz22_1
             try clear hfz24_0
             try clear hfz24_1
             try clear hfz26_0
             try clear hfz26_1
             try clear hfz28_0
             try clear hfz28_1
             try clear hfz30_0
             try clear hfz30_1
             try clear hfz37_0
             try clear hfz37_1
             try clear hx372_0
             try clear p2
             try clear p3
             try clear p37
             try clear p372
             try clear p6
             try clear q3
             try clear q37
             try clear q372
             obtain ⟨kq, x9_47, x10_47, x11_47, x12_47, rfl, rfl, rfl, rfl, HA, HJ47, HO_7, BK362, HB⟩ := hcut
             cases kq with
             | zero => exact absurd HA.out (by simp [tl_CamStood.j4])
             | succ kj47 =>
              have H := HA.out
              clear HA
              simp only [tl_CamStood.j4] at H
              replace H := Option.bind_eq_some_iff.mp H
              obtain ⟨⟨t373, t374⟩, A510, H⟩ := H
              replace H : ((cam_Place.f a0_0 l0_1 (wrap64 (x13_3 + 1))).bind fun bt375 => (if t374 = 0 then (tl_CamStood.j5 kj47 a1 a2 t368 x9_47 x10_47 x11_47 x12_47 x13_3 t373 bt375.1 (bt375.2 != 0) a0_0 l0_1) else (tl_CamStood.j5 kj47 a1 a2 t368 x9_47 x10_47 x11_47 x12_47 x13_3 t373 bt375.1 true a0_0 l0_1))) = some r := H
              have A51 := Aside0.mk A510
              clear A510
              replace H := Option.bind_eq_some_iff.mp H
              obtain ⟨⟨t375, t376⟩, A520, H⟩ := H
              replace H : (if t374 = 0 then (tl_CamStood.j5 kj47 a1 a2 t368 x9_47 x10_47 x11_47 x12_47 x13_3 t373 t375 (t376 != 0) a0_0 l0_1) else (tl_CamStood.j5 kj47 a1 a2 t368 x9_47 x10_47 x11_47 x12_47 x13_3 t373 t375 true a0_0 l0_1)) = some r := H
              have A52 := Aside0.mk A520
              clear A520
              have HC53 := Aside0.mk H
              clear H
              have hcz54_0 : wc.cell? ⟨gb362, 0, none⟩ = some (.int .i64 a0_0) := (blk_cell BK362.out 0).trans rfl
              have hcz54_1 : wc.cell? ⟨gb362, 1, none⟩ = some (.slice A0_1 l0_1.length c0_1) := (blk_cell BK362.out 1).trans rfl
              have hfz54_0 := blk_frozen BK362.out 0
              have hfz54_1 := blk_frozen BK362.out 1
              go_upto_region 20 with (first | (go_at_call 24; (with_reducible refine (cam_Place.calls a0_0 _ _ l0_1 x13_3 t373 t374 _ ?side1 ?side2 A51.out).mono ?_); (case side1 => repeat (first | exact (Kd.C_below HR0_1.out HB.out) | (with_reducible refine Kd.C_alloc ?_ _) | (with_reducible refine Kd.C_drewN ?_ _) | (with_reducible refine Kd.C_drew ?_))); (case side2 => exact HC0_1.out); rintro e w55 ⟨rfl, hb⟩; have n0_ := Aside0.mk (Kd.R_below (by (with_reducible repeat (first | apply Kd.R_alloc | apply Kd.R_drewN | apply Kd.R_drew)); exact HO_7.out) hb); have n1_ := Aside0.mk (blk_below (g := gb362) (o := .cells #[.int .i64 a0_0, .slice A0_1 l0_1.length c0_1] 24 (0, 0)) (by (with_reducible repeat (first | refine blk_drewN ?_ _ | refine blk_drew ?_ | refine blk_alloc ?_ _)); exact BK362.out) hb); have n2_ := Aside0.mk (below_step (by repeat (first | (with_reducible first | exact HB.out | apply below_alloc | apply pw_below_drewN | apply below_drew1 | refine below_set ?_ GE362.out) | exact HB.out)) hb); clear HO_7; clear BK362; clear HB; have HO_7 := n0_; have BK362 := n1_; have HB := n2_; clear n0_ n1_ n2_; (try clear hb); (try clear hb2); (try clear hk); (try clear hi); have hcz56_0 : w55.cell? ⟨gb362, 0, none⟩ = some (.int .i64 a0_0) := (blk_cell BK362.out 0).trans rfl; have hcz56_1 : w55.cell? ⟨gb362, 1, none⟩ = some (.slice A0_1 l0_1.length c0_1) := (blk_cell BK362.out 1).trans rfl; have hfz56_0 := blk_frozen BK362.out 0; have hfz56_1 := blk_frozen BK362.out 1) | (go_at_call 24; (with_reducible refine (cam_Place.calls a0_0 _ _ l0_1 (wrap64 (x13_3 + 1)) t375 t376 _ ?side1 ?side2 A52.out).mono ?_); (case side1 => repeat (first | exact (Kd.C_below HR0_1.out HB.out) | (with_reducible refine Kd.C_alloc ?_ _) | (with_reducible refine Kd.C_drewN ?_ _) | (with_reducible refine Kd.C_drew ?_))); (case side2 => exact HC0_1.out); rintro e w57 ⟨rfl, hb⟩; have n0_ := Aside0.mk (Kd.R_below (by (with_reducible repeat (first | apply Kd.R_alloc | apply Kd.R_drewN | apply Kd.R_drew)); exact HO_7.out) hb); have n1_ := Aside0.mk (blk_below (g := gb362) (o := .cells #[.int .i64 a0_0, .slice A0_1 l0_1.length c0_1] 24 (0, 0)) (by (with_reducible repeat (first | refine blk_drewN ?_ _ | refine blk_drew ?_ | refine blk_alloc ?_ _)); exact BK362.out) hb); have n2_ := Aside0.mk (below_step (by repeat (first | (with_reducible first | exact HB.out | apply below_alloc | apply pw_below_drewN | apply below_drew1 | refine below_set ?_ GE362.out) | exact HB.out)) hb); clear HO_7; clear BK362; clear HB; have HO_7 := n0_; have BK362 := n1_; have HB := n2_; clear n0_ n1_ n2_; (try clear hb); (try clear hb2); (try clear hk); (try clear hi)))
              repeat (go_quiet (first | (go_at_call 24; (with_reducible refine (cam_Place.calls a0_0 _ _ l0_1 x13_3 t373 t374 _ ?side1 ?side2 A51.out).mono ?_); (case side1 => repeat (first | exact (Kd.C_below HR0_1.out HB.out) | (with_reducible refine Kd.C_alloc ?_ _) | (with_reducible refine Kd.C_drewN ?_ _) | (with_reducible refine Kd.C_drew ?_))); (case side2 => exact HC0_1.out); rintro e w55 ⟨rfl, hb⟩; have n0_ := Aside0.mk (Kd.R_below (by (with_reducible repeat (first | apply Kd.R_alloc | apply Kd.R_drewN | apply Kd.R_drew)); exact HO_7.out) hb); have n1_ := Aside0.mk (blk_below (g := gb362) (o := .cells #[.int .i64 a0_0, .slice A0_1 l0_1.length c0_1] 24 (0, 0)) (by (with_reducible repeat (first | refine blk_drewN ?_ _ | refine blk_drew ?_ | refine blk_alloc ?_ _)); exact BK362.out) hb); have n2_ := Aside0.mk (below_step (by repeat (first | (with_reducible first | exact HB.out | apply below_alloc | apply pw_below_drewN | apply below_drew1 | refine below_set ?_ GE362.out) | exact HB.out)) hb); clear HO_7; clear BK362; clear HB; have HO_7 := n0_; have BK362 := n1_; have HB := n2_; clear n0_ n1_ n2_; (try clear hb); (try clear hb2); (try clear hk); (try clear hi); have hcz56_0 : w55.cell? ⟨gb362, 0, none⟩ = some (.int .i64 a0_0) := (blk_cell BK362.out 0).trans rfl; have hcz56_1 : w55.cell? ⟨gb362, 1, none⟩ = some (.slice A0_1 l0_1.length c0_1) := (blk_cell BK362.out 1).trans rfl; have hfz56_0 := blk_frozen BK362.out 0; have hfz56_1 := blk_frozen BK362.out 1) | (go_at_call 24; (with_reducible refine (cam_Place.calls a0_0 _ _ l0_1 (wrap64 (x13_3 + 1)) t375 t376 _ ?side1 ?side2 A52.out).mono ?_); (case side1 => repeat (first | exact (Kd.C_below HR0_1.out HB.out) | (with_reducible refine Kd.C_alloc ?_ _) | (with_reducible refine Kd.C_drewN ?_ _) | (with_reducible refine Kd.C_drew ?_))); (case side2 => exact HC0_1.out); rintro e w57 ⟨rfl, hb⟩; have n0_ := Aside0.mk (Kd.R_below (by (with_reducible repeat (first | apply Kd.R_alloc | apply Kd.R_drewN | apply Kd.R_drew)); exact HO_7.out) hb); have n1_ := Aside0.mk (blk_below (g := gb362) (o := .cells #[.int .i64 a0_0, .slice A0_1 l0_1.length c0_1] 24 (0, 0)) (by (with_reducible repeat (first | refine blk_drewN ?_ _ | refine blk_drew ?_ | refine blk_alloc ?_ _)); exact BK362.out) hb); have n2_ := Aside0.mk (below_step (by repeat (first | (with_reducible first | exact HB.out | apply below_alloc | apply pw_below_drewN | apply below_drew1 | refine below_set ?_ GE362.out) | exact HB.out)) hb); clear HO_7; clear BK362; clear HB; have HO_7 := n0_; have BK362 := n1_; have HB := n2_; clear n0_ n1_ n2_; (try clear hb); (try clear hb2); (try clear hk); (try clear hi))); go_upto_region 20 with (first | (go_at_call 24; (with_reducible refine (cam_Place.calls a0_0 _ _ l0_1 x13_3 t373 t374 _ ?side1 ?side2 A51.out).mono ?_); (case side1 => repeat (first | exact (Kd.C_below HR0_1.out HB.out) | (with_reducible refine Kd.C_alloc ?_ _) | (with_reducible refine Kd.C_drewN ?_ _) | (with_reducible refine Kd.C_drew ?_))); (case side2 => exact HC0_1.out); rintro e w55 ⟨rfl, hb⟩; have n0_ := Aside0.mk (Kd.R_below (by (with_reducible repeat (first | apply Kd.R_alloc | apply Kd.R_drewN | apply Kd.R_drew)); exact HO_7.out) hb); have n1_ := Aside0.mk (blk_below (g := gb362) (o := .cells #[.int .i64 a0_0, .slice A0_1 l0_1.length c0_1] 24 (0, 0)) (by (with_reducible repeat (first | refine blk_drewN ?_ _ | refine blk_drew ?_ | refine blk_alloc ?_ _)); exact BK362.out) hb); have n2_ := Aside0.mk (below_step (by repeat (first | (with_reducible first | exact HB.out | apply below_alloc | apply pw_below_drewN | apply below_drew1 | refine below_set ?_ GE362.out) | exact HB.out)) hb); clear HO_7; clear BK362; clear HB; have HO_7 := n0_; have BK362 := n1_; have HB := n2_; clear n0_ n1_ n2_; (try clear hb); (try clear hb2); (try clear hk); (try clear hi); have hcz56_0 : w55.cell? ⟨gb362, 0, none⟩ = some (.int .i64 a0_0) := (blk_cell BK362.out 0).trans rfl; have hcz56_1 : w55.cell? ⟨gb362, 1, none⟩ = some (.slice A0_1 l0_1.length c0_1) := (blk_cell BK362.out 1).trans rfl; have hfz56_0 := blk_frozen BK362.out 0; have hfz56_1 := blk_frozen BK362.out 1) | (go_at_call 24; (with_reducible refine (cam_Place.calls a0_0 _ _ l0_1 (wrap64 (x13_3 + 1)) t375 t376 _ ?side1 ?side2 A52.out).mono ?_); (case side1 => repeat (first | exact (Kd.C_below HR0_1.out HB.out) | (with_reducible refine Kd.C_alloc ?_ _) | (with_reducible refine Kd.C_drewN ?_ _) | (with_reducible refine Kd.C_drew ?_))); (case side2 => exact HC0_1.out); rintro e w57 ⟨rfl, hb⟩; have n0_ := Aside0.mk (Kd.R_below (by (with_reducible repeat (first | apply Kd.R_alloc | apply Kd.R_drewN | apply Kd.R_drew)); exact HO_7.out) hb); have n1_ := Aside0.mk (blk_below (g := gb362) (o := .cells #[.int .i64 a0_0, .slice A0_1 l0_1.length c0_1] 24 (0, 0)) (by (with_reducible repeat (first | refine blk_drewN ?_ _ | refine blk_drew ?_ | refine blk_alloc ?_ _)); exact BK362.out) hb); have n2_ := Aside0.mk (below_step (by repeat (first | (with_reducible first | exact HB.out | apply below_alloc | apply pw_below_drewN | apply below_drew1 | refine below_set ?_ GE362.out) | exact HB.out)) hb); clear HO_7; clear BK362; clear HB; have HO_7 := n0_; have BK362 := n1_; have HB := n2_; clear n0_ n1_ n2_; (try clear hb); (try clear hb2); (try clear hk); (try clear hi))))
              (try simp only [Act.put, List.setIfInBounds_toArray, List.set_cons_zero, List.set_cons_succ])
              go_cut [107] (fun v107 wc => ∃ (kq : Nat) (x107_52 : Bool), v107 = .bool x107_52 ∧ Aside0 (tl_CamStood.j5 kq a1 a2 t368 x9_47 x10_47 x11_47 x12_47 x13_3 t373 t375 x107_52 a0_0 l0_1 = some r) ∧ Aside0 (kq ≤ kj47) ∧ Aside0 (Kd.R (Kd.int .i64) 3 wc w.heap.size (fun _ => True) v369 t368) ∧ Aside0 (wc.heap[gb362]? = some (.cells #[.int .i64 a0_0, (.slice A0_1 l0_1.length c0_1)] 24 (0, 0))) ∧ Aside0 (Below w.heap.size w wc))
              case first =>
               have H := HC53.out
               clear HC53
               by_cases c58 : t374 = 0
               ·
                rw [if_pos c58] at H
                have c58b0 : (t374 == 0) = true := beq_iff_eq.mpr c58
                have c58b1 : (t374 != 0) = false := bne_eq_false_iff_eq.mpr c58
                clear c58
                (first | rw [c58b0] | (simp only [i64_w, i32_w]; rw [c58b0]) | skip)
                as_aux_lemma =>
                 have H' := Aside0.mk H
                 clear H
                 go_wp2
                 repeat (go_quiet (fail); try go_wp2)
                 go_meet
                 case rel => exact ⟨_, ((t376 != 0)), (by first | rfl | (simp; done) | (simp [*]; done)), H', ⟨by have := HJ3.out; have := HJ35.out; have := HK3.out; have := HJ42.out; have := HJ47.out; first | omega | exact Nat.le_refl _⟩, ⟨by (with_reducible repeat (first | apply Kd.R_alloc | apply Kd.R_drewN | apply Kd.R_drew)); exact HO_7.out⟩, ⟨by (with_reducible repeat (first | refine blk_drewN ?_ _ | refine blk_drew ?_ | refine blk_alloc ?_ _)); exact BK362.out⟩, ⟨by repeat (first | (with_reducible first | exact HB.out | apply below_alloc | apply pw_below_drewN | apply below_drew1 | refine below_set ?_ GE362.out) | exact HB.out)⟩⟩
               ·
                rw [if_neg c58] at H
                have c58b0 : (t374 == 0) = false := beq_eq_false_iff_ne.mpr c58
                have c58b1 : (t374 != 0) = true := bne_iff_ne.mpr c58
                (first | rw [c58b0] | (simp only [i64_w, i32_w]; rw [c58b0]) | skip)
                as_aux_lemma =>
                 have H' := Aside0.mk H
                 clear H
                 go_wp2
                 repeat (go_quiet (fail); try go_wp2)
                 go_meet
                 case rel => exact ⟨_, (true), (by first | rfl | (simp; done) | (simp [*]; done)), H', ⟨by have := HJ3.out; have := HJ35.out; have := HK3.out; have := HJ42.out; have := HJ47.out; first | omega | exact Nat.le_refl _⟩, ⟨by (with_reducible repeat (first | apply Kd.R_alloc | apply Kd.R_drewN | apply Kd.R_drew)); exact HO_7.out⟩, ⟨by (with_reducible repeat (first | refine blk_drewN ?_ _ | refine blk_drew ?_ | refine blk_alloc ?_ _)); exact BK362.out⟩, ⟨by repeat (first | (with_reducible first | exact HB.out | apply below_alloc | apply pw_below_drewN | apply below_drew1 | refine below_set ?_ GE362.out) | exact HB.out)⟩⟩
              case rest =>
               clear HC53
               try clear c1
               try clear p2
               try clear c3
               try clear p3
               try clear q3
               try clear hx3
               try clear c4
               try clear c5
               try clear p6
               try clear c7
               try clear c9
               try clear c11
               try clear c13
               try clear c32
               try clear p37
               try clear q37
               try clear hx37
               try clear c39
               try clear c39b0
               try clear c39b1
               try clear c41
               try clear c42
               try clear c42b0
               try clear c44
               try clear c44b0
               try clear c45
               try clear c45b0
               try clear c49
               try clear c50
               try clear c50b0
               try clear c58
               try clear c58b0
               try clear c58b1
               try clear hcz14_0
               try clear hcz14_1
               try clear hcz16_0
               try clear hcz16_1
               try clear hcz18_0
               try clear hcz18_1
               try clear hcz20_0
               try clear hcz20_1
               try clear hcz22_0
               try clear hcz22_1
               try clear hcz24_0
               try clear hcz24_1
               try clear hcz26_0
               try clear hcz26_1
               try clear hcz28_0
               try clear hcz28_1
               try clear hcz30_0
               try clear hcz30_1
               try clear hcz37_0
               try clear hcz37_1
               try clear hcz54_0
               try clear hcz54_1
               try clear hcz56_0
               try clear hcz56_1
               try clear hfz14_0
               try clear hfz14_1
               try clear hfz16_0
               try clear hfz16_1
               try clear hfz18_0
               try clear hfz18_1
               try clear hfz20_0
               try clear hfz20_1
               try clear hfz22_0
               try clear hfz22_1
               try clear hfz24_0
               try clear hfz24_1
               try clear hfz26_0
               try clear hfz26_1
               try clear hfz28_0
               try clear hfz28_1
               try clear hfz30_0
               try clear hfz30_1
               try clear hfz37_0
               try clear hfz37_1
               try clear hfz54_0
               try clear hfz54_1
               try clear hfz56_0
               try clear hfz56_1
               try clear hx372_0
               try clear p2
               try clear p3
               try clear p37
               try clear p372
               try clear p6
               try clear q3
               try clear q37
               try clear q372
               obtain ⟨kq, x107_52, rfl, HA, HJ52, HO_7, BK362, HB⟩ := hcut
               cases kq with
               | zero => exact absurd HA.out (by simp [tl_CamStood.j5])
               | succ kj52 =>
                have H := HA.out
                clear HA
                simp only [tl_CamStood.j5] at H
                by_cases c59 : x107_52 = true
                ·
                 subst c59
                 have H1 : (some false) = some r := by rw [if_pos rfl] at H; exact H
                 clear H
                 have H := H1
                 clear H1
                 as_aux_lemma =>
                  obtain rfl := Option.some.inj H
                  go_wp2
                  repeat (go_quiet (fail); try go_wp2)
                  go_ret
                  exact ⟨by first | rfl | (simp [errW_none, errW_some] <;> rfl) | (simp [*, errW_none, errW_some] <;> rfl), by repeat (first | (with_reducible first | exact HB.out | apply below_alloc | apply pw_below_drewN | apply below_drew1 | refine below_set ?_ GE362.out) | exact HB.out)⟩
                ·
                 replace c59 := Bool.eq_false_iff.mpr c59
                 subst c59
                 have H1 : (if x10_47 = true then (if x11_47 = true then (tl_CamStood.j6 kj52 a1 a2 t368 x9_47 true true x12_47 x13_3 t373 t375 a0_0 l0_1) else (tl_CamStood.j6 kj52 a1 a2 t368 x9_47 true (decide (t375 < t373)) x12_47 x13_3 t373 t375 a0_0 l0_1)) else (if x11_47 = true then (tl_CamStood.j6 kj52 a1 a2 t368 x9_47 (decide (t375 > t373)) true x12_47 x13_3 t373 t375 a0_0 l0_1) else (tl_CamStood.j6 kj52 a1 a2 t368 x9_47 (decide (t375 > t373)) (decide (t375 < t373)) x12_47 x13_3 t373 t375 a0_0 l0_1))) = some r := by rw [if_neg (show ¬ (false = true) by decide)] at H; exact H
                 clear H
                 have H := H1
                 clear H1
                 have HC60 := Aside0.mk H
                 clear H
                 go_upto_region 22 with (fail)
                 repeat (go_quiet (fail); go_upto_region 22 with (fail))
                 go_cut [10, 11] (fun v10 v11 wc => ∃ (kq : Nat) (x10_59 : Bool) (x11_59 : Bool), v10 = .bool x10_59 ∧ v11 = .bool x11_59 ∧ Aside0 (tl_CamStood.j6 kq a1 a2 t368 x9_47 x10_59 x11_59 x12_47 x13_3 t373 t375 a0_0 l0_1 = some r) ∧ Aside0 (kq ≤ kj52) ∧ Aside0 (Kd.R (Kd.int .i64) 3 wc w.heap.size (fun _ => True) v369 t368) ∧ Aside0 (wc.heap[gb362]? = some (.cells #[.int .i64 a0_0, (.slice A0_1 l0_1.length c0_1)] 24 (0, 0))) ∧ Aside0 (Below w.heap.size w wc))
                 case first =>
                  have H := HC60.out
                  clear HC60
                  by_cases c61 : x10_47 = true
                  ·
                   subst c61
                   have H1 : (if x11_47 = true then (tl_CamStood.j6 kj52 a1 a2 t368 x9_47 true true x12_47 x13_3 t373 t375 a0_0 l0_1) else (tl_CamStood.j6 kj52 a1 a2 t368 x9_47 true (decide (t375 < t373)) x12_47 x13_3 t373 t375 a0_0 l0_1)) = some r := by rw [if_pos rfl] at H; exact H
                   clear H
                   have H := H1
                   clear H1
                   by_cases c62 : x11_47 = true
                   ·
                    subst c62
                    have H1 : (tl_CamStood.j6 kj52 a1 a2 t368 x9_47 true true x12_47 x13_3 t373 t375 a0_0 l0_1) = some r := by rw [if_pos rfl] at H; exact H
                    clear H
                    have H := H1
                    clear H1
                    as_aux_lemma =>
                     have H' := Aside0.mk H
                     clear H
                     go_wp2
                     repeat (go_quiet (fail); try go_wp2)
                     go_meet
                     case rel => exact ⟨_, (true), (true), (by first | rfl | (simp; done) | (simp [*]; done)), (by first | rfl | (simp; done) | (simp [*]; done)), H', ⟨by have := HJ3.out; have := HJ35.out; have := HK3.out; have := HJ42.out; have := HJ47.out; have := HJ52.out; first | omega | exact Nat.le_refl _⟩, ⟨by (with_reducible repeat (first | apply Kd.R_alloc | apply Kd.R_drewN | apply Kd.R_drew)); exact HO_7.out⟩, ⟨by (with_reducible repeat (first | refine blk_drewN ?_ _ | refine blk_drew ?_ | refine blk_alloc ?_ _)); exact BK362.out⟩, ⟨by repeat (first | (with_reducible first | exact HB.out | apply below_alloc | apply pw_below_drewN | apply below_drew1 | refine below_set ?_ GE362.out) | exact HB.out)⟩⟩
                   ·
                    replace c62 := Bool.eq_false_iff.mpr c62
                    subst c62
                    have H1 : (tl_CamStood.j6 kj52 a1 a2 t368 x9_47 true (decide (t375 < t373)) x12_47 x13_3 t373 t375 a0_0 l0_1) = some r := by rw [if_neg (show ¬ (false = true) by decide)] at H; exact H
                    clear H
                    have H := H1
                    clear H1
                    as_aux_lemma =>
                     have H' := Aside0.mk H
                     clear H
                     go_wp2
                     repeat (go_quiet (fail); try go_wp2)
                     go_meet
                     case rel => exact ⟨_, (true), (decide (t375 < t373)), (by first | rfl | (simp; done) | (simp [*]; done)), (by first | rfl | (simp; done) | (simp [*]; done)), H', ⟨by have := HJ3.out; have := HJ35.out; have := HK3.out; have := HJ42.out; have := HJ47.out; have := HJ52.out; first | omega | exact Nat.le_refl _⟩, ⟨by (with_reducible repeat (first | apply Kd.R_alloc | apply Kd.R_drewN | apply Kd.R_drew)); exact HO_7.out⟩, ⟨by (with_reducible repeat (first | refine blk_drewN ?_ _ | refine blk_drew ?_ | refine blk_alloc ?_ _)); exact BK362.out⟩, ⟨by repeat (first | (with_reducible first | exact HB.out | apply below_alloc | apply pw_below_drewN | apply below_drew1 | refine below_set ?_ GE362.out) | exact HB.out)⟩⟩
                  ·
                   replace c61 := Bool.eq_false_iff.mpr c61
                   subst c61
                   have H1 : (if x11_47 = true then (tl_CamStood.j6 kj52 a1 a2 t368 x9_47 (decide (t375 > t373)) true x12_47 x13_3 t373 t375 a0_0 l0_1) else (tl_CamStood.j6 kj52 a1 a2 t368 x9_47 (decide (t375 > t373)) (decide (t375 < t373)) x12_47 x13_3 t373 t375 a0_0 l0_1)) = some r := by rw [if_neg (show ¬ (false = true) by decide)] at H; exact H
                   clear H
                   have H := H1
                   clear H1
                   by_cases c63 : x11_47 = true
                   ·
                    subst c63
                    have H1 : (tl_CamStood.j6 kj52 a1 a2 t368 x9_47 (decide (t375 > t373)) true x12_47 x13_3 t373 t375 a0_0 l0_1) = some r := by rw [if_pos rfl] at H; exact H
                    clear H
                    have H := H1
                    clear H1
                    as_aux_lemma =>
                     have H' := Aside0.mk H
                     clear H
                     go_wp2
                     repeat (go_quiet (fail); try go_wp2)
                     go_meet
                     case rel => exact ⟨_, (decide (t375 > t373)), (true), (by first | rfl | (simp; done) | (simp [*]; done)), (by first | rfl | (simp; done) | (simp [*]; done)), H', ⟨by have := HJ3.out; have := HJ35.out; have := HK3.out; have := HJ42.out; have := HJ47.out; have := HJ52.out; first | omega | exact Nat.le_refl _⟩, ⟨by (with_reducible repeat (first | apply Kd.R_alloc | apply Kd.R_drewN | apply Kd.R_drew)); exact HO_7.out⟩, ⟨by (with_reducible repeat (first | refine blk_drewN ?_ _ | refine blk_drew ?_ | refine blk_alloc ?_ _)); exact BK362.out⟩, ⟨by repeat (first | (with_reducible first | exact HB.out | apply below_alloc | apply pw_below_drewN | apply below_drew1 | refine below_set ?_ GE362.out) | exact HB.out)⟩⟩
                   ·
                    replace c63 := Bool.eq_false_iff.mpr c63
                    subst c63
                    have H1 : (tl_CamStood.j6 kj52 a1 a2 t368 x9_47 (decide (t375 > t373)) (decide (t375 < t373)) x12_47 x13_3 t373 t375 a0_0 l0_1) = some r := by rw [if_neg (show ¬ (false = true) by decide)] at H; exact H
                    clear H
                    have H := H1
                    clear H1
                    as_aux_lemma =>
                     have H' := Aside0.mk H
                     clear H
                     go_wp2
                     repeat (go_quiet (fail); try go_wp2)
                     go_meet
                     case rel => exact ⟨_, (decide (t375 > t373)), (decide (t375 < t373)), (by first | rfl | (simp; done) | (simp [*]; done)), (by first | rfl | (simp; done) | (simp [*]; done)), H', ⟨by have := HJ3.out; have := HJ35.out; have := HK3.out; have := HJ42.out; have := HJ47.out; have := HJ52.out; first | omega | exact Nat.le_refl _⟩, ⟨by (with_reducible repeat (first | apply Kd.R_alloc | apply Kd.R_drewN | apply Kd.R_drew)); exact HO_7.out⟩, ⟨by (with_reducible repeat (first | refine blk_drewN ?_ _ | refine blk_drew ?_ | refine blk_alloc ?_ _)); exact BK362.out⟩, ⟨by repeat (first | (with_reducible first | exact HB.out | apply below_alloc | apply pw_below_drewN | apply below_drew1 | refine below_set ?_ GE362.out) | exact HB.out)⟩⟩
                 case rest =>
                  clear HC60
                  try clear c1
                  try clear p2
                  try clear c3
                  try clear p3
                  try clear q3
                  try clear hx3
                  try clear c4
                  try clear c5
                  try clear c6
                  try clear p6
                  try clear c7
                  try clear c9
                  try clear c11
                  try clear c13
                  try clear c32
                  try clear p37
                  try clear q37
                  try clear hx37
                  try clear c39
                  try clear c39b0
                  try clear c39b1
                  try clear c41
                  try clear c42
                  try clear c42b0
                  try clear c44
                  try clear c44b0
                  try clear c45
                  try clear c45b0
                  try clear c49
                  try clear c50
                  try clear c50b0
                  try clear c58
                  try clear c58b0
                  try clear c58b1
                  try clear c59
                  try clear c61
                  try clear c62
                  try clear c63
                  try clear hcz14_0
                  try clear hcz14_1
                  try clear hcz16_0
                  try clear hcz16_1
                  try clear hcz18_0
                  try clear hcz18_1
                  try clear hcz20_0
                  try clear hcz20_1
                  try clear hcz22_0
                  try clear hcz22_1
                  try clear hcz24_0
                  try clear hcz24_1
                  try clear hcz26_0
                  try clear hcz26_1
                  try clear hcz28_0
                  try clear hcz28_1
                  try clear hcz30_0
                  try clear hcz30_1
                  try clear hcz37_0
                  try clear hcz37_1
                  try clear hcz54_0
                  try clear hcz54_1
                  try clear hcz56_0
                  try clear hcz56_1
                  try clear hfz14_0
                  try clear hfz14_1
                  try clear hfz16_0
                  try clear hfz16_1
                  try clear hfz18_0
                  try clear hfz18_1
                  try clear hfz20_0
                  try clear hfz20_1
                  try clear hfz22_0
                  try clear hfz22_1
                  try clear hfz24_0
                  try clear hfz24_1
                  try clear hfz26_0
                  try clear hfz26_1
                  try clear hfz28_0
                  try clear hfz28_1
                  try clear hfz30_0
                  try clear hfz30_1
                  try clear hfz37_0
                  try clear hfz37_1
                  try clear hfz54_0
                  try clear hfz54_1
                  try clear hfz56_0
                  try clear hfz56_1
                  try clear hx372_0
                  try clear p2
                  try clear p3
                  try clear p37
                  try clear p372
                  try clear p6
                  try clear q3
                  try clear q37
                  try clear q372
                  obtain ⟨kq, x10_59, x11_59, rfl, rfl, HA, HJ59, HO_7, BK362, HB⟩ := hcut
                  cases kq with
                  | zero => exact absurd HA.out (by simp [tl_CamStood.j6])
                  | succ kj59 =>
                   have H := HA.out
                   clear HA
                   simp only [tl_CamStood.j6] at H
                   have HC64 := Aside0.mk H
                   clear H
                   go_upto_region 23 with (fail)
                   repeat (go_quiet (fail); go_upto_region 23 with (fail))
                   go_cut [123] (fun v123 wc => ∃ (kq : Nat) (x123_63 : Bool), v123 = .bool x123_63 ∧ Aside0 (tl_CamStood.j7 kq a1 a2 t368 x9_47 x10_59 x11_59 x12_47 x13_3 t373 t375 x123_63 a0_0 l0_1 = some r) ∧ Aside0 (kq ≤ kj59) ∧ Aside0 (Kd.R (Kd.int .i64) 3 wc w.heap.size (fun _ => True) v369 t368) ∧ Aside0 (wc.heap[gb362]? = some (.cells #[.int .i64 a0_0, (.slice A0_1 l0_1.length c0_1)] 24 (0, 0))) ∧ Aside0 (Below w.heap.size w wc))
                   case first =>
                    have H := HC64.out
                    clear HC64
                    by_cases c65 : x10_59 = true
                    ·
                     subst c65
                     have H1 : (tl_CamStood.j7 kj59 a1 a2 t368 x9_47 true x11_59 x12_47 x13_3 t373 t375 x11_59 a0_0 l0_1) = some r := by rw [if_pos rfl] at H; exact H
                     clear H
                     have H := H1
                     clear H1
                     as_aux_lemma =>
                      have H' := Aside0.mk H
                      clear H
                      go_wp2
                      repeat (go_quiet (fail); try go_wp2)
                      go_meet
                      case rel => exact ⟨_, (x11_59), (by first | rfl | (simp; done) | (simp [*]; done)), H', ⟨by have := HJ3.out; have := HJ35.out; have := HK3.out; have := HJ42.out; have := HJ47.out; have := HJ52.out; have := HJ59.out; first | omega | exact Nat.le_refl _⟩, ⟨by (with_reducible repeat (first | apply Kd.R_alloc | apply Kd.R_drewN | apply Kd.R_drew)); exact HO_7.out⟩, ⟨by (with_reducible repeat (first | refine blk_drewN ?_ _ | refine blk_drew ?_ | refine blk_alloc ?_ _)); exact BK362.out⟩, ⟨by repeat (first | (with_reducible first | exact HB.out | apply below_alloc | apply pw_below_drewN | apply below_drew1 | refine below_set ?_ GE362.out) | exact HB.out)⟩⟩
                    ·
                     replace c65 := Bool.eq_false_iff.mpr c65
                     subst c65
                     have H1 : (tl_CamStood.j7 kj59 a1 a2 t368 x9_47 false x11_59 x12_47 x13_3 t373 t375 false a0_0 l0_1) = some r := by rw [if_neg (show ¬ (false = true) by decide)] at H; exact H
                     clear H
                     have H := H1
                     clear H1
                     as_aux_lemma =>
                      have H' := Aside0.mk H
                      clear H
                      go_wp2
                      repeat (go_quiet (fail); try go_wp2)
                      go_meet
                      case rel => exact ⟨_, (false), (by first | rfl | (simp; done) | (simp [*]; done)), H', ⟨by have := HJ3.out; have := HJ35.out; have := HK3.out; have := HJ42.out; have := HJ47.out; have := HJ52.out; have := HJ59.out; first | omega | exact Nat.le_refl _⟩, ⟨by (with_reducible repeat (first | apply Kd.R_alloc | apply Kd.R_drewN | apply Kd.R_drew)); exact HO_7.out⟩, ⟨by (with_reducible repeat (first | refine blk_drewN ?_ _ | refine blk_drew ?_ | refine blk_alloc ?_ _)); exact BK362.out⟩, ⟨by repeat (first | (with_reducible first | exact HB.out | apply below_alloc | apply pw_below_drewN | apply below_drew1 | refine below_set ?_ GE362.out) | exact HB.out)⟩⟩
                   case rest =>
                    clear HC64
                    try clear c1
                    try clear p2
                    try clear c3
                    try clear p3
                    try clear q3
                    try clear hx3
                    try clear c4
                    try clear c5
                    try clear c6
                    try clear p6
                    try clear c7
                    try clear c9
                    try clear c11
                    try clear c13
                    try clear c32
                    try clear p37
                    try clear q37
                    try clear hx37
                    try clear c39
                    try clear c39b0
                    try clear c39b1
                    try clear c41
                    try clear c42
                    try clear c42b0
                    try clear c44
                    try clear c44b0
                    try clear c45
                    try clear c45b0
                    try clear c49
                    try clear c50
                    try clear c50b0
                    try clear c58
                    try clear c58b0
                    try clear c58b1
                    try clear c59
                    try clear c61
                    try clear c62
                    try clear c63
                    try clear p64
                    try clear c65
                    try clear hcz14_0
                    try clear hcz14_1
                    try clear hcz16_0
                    try clear hcz16_1
                    try clear hcz18_0
                    try clear hcz18_1
                    try clear hcz20_0
                    try clear hcz20_1
                    try clear hcz22_0
                    try clear hcz22_1
                    try clear hcz24_0
                    try clear hcz24_1
                    try clear hcz26_0
                    try clear hcz26_1
                    try clear hcz28_0
                    try clear hcz28_1
                    try clear hcz30_0
                    try clear hcz30_1
                    try clear hcz37_0
                    try clear hcz37_1
                    try clear hcz54_0
                    try clear hcz54_1
                    try clear hcz56_0
                    try clear hcz56_1
                    try clear hfz14_0
                    try clear hfz14_1
                    try clear hfz16_0
                    try clear hfz16_1
                    try clear hfz18_0
                    try clear hfz18_1
                    try clear hfz20_0
                    try clear hfz20_1
                    try clear hfz22_0
                    try clear hfz22_1
                    try clear hfz24_0
                    try clear hfz24_1
                    try clear hfz26_0
                    try clear hfz26_1
                    try clear hfz28_0
                    try clear hfz28_1
                    try clear hfz30_0
                    try clear hfz30_1
                    try clear hfz37_0
                    try clear hfz37_1
                    try clear hfz54_0
                    try clear hfz54_1
                    try clear hfz56_0
                    try clear hfz56_1
                    try clear hx372_0
                    try clear p2
                    try clear p3
                    try clear p37
                    try clear p372
                    try clear p6
                    try clear q3
                    try clear q37
                    try clear q372
                    obtain ⟨kq, x123_63, rfl, HA, HJ63, HO_7, BK362, HB⟩ := hcut
                    cases kq with
                    | zero => exact absurd HA.out (by simp [tl_CamStood.j7])
                    | succ kj63 =>
                     have H := HA.out
                     clear HA
                     simp only [tl_CamStood.j7] at H
                     by_cases c66 : x123_63 = true
                     ·
                      subst c66
                      have H1 : (some false) = some r := by rw [if_pos rfl] at H; exact H
                      clear H
                      have H := H1
                      clear H1
                      as_aux_lemma =>
                       obtain rfl := Option.some.inj H
                       go_wp2
                       repeat (go_quiet (fail); try go_wp2)
                       go_ret
                       exact ⟨by first | rfl | (simp [errW_none, errW_some] <;> rfl) | (simp [*, errW_none, errW_some] <;> rfl), by repeat (first | (with_reducible first | exact HB.out | apply below_alloc | apply pw_below_drewN | apply below_drew1 | refine below_set ?_ GE362.out) | exact HB.out)⟩
                     ·
                      replace c66 := Bool.eq_false_iff.mpr c66
                      subst c66
                      have H1 : (if x12_47 < (t368.length : Int) then (if 0 ≤ x12_47 then (if (rd t368 x12_47) = (wrap64 (x13_3 + 1)) then (if t373 = t375 then (some false) else (tl_CamStood.l0 kj63 a1 a2 t368 x9_47 x10_59 x11_59 x12_47 (wrap64 (x13_3 + 1)) a0_0 l0_1)) else (tl_CamStood.l0 kj63 a1 a2 t368 x9_47 x10_59 x11_59 x12_47 (wrap64 (x13_3 + 1)) a0_0 l0_1)) else (none)) else (tl_CamStood.l0 kj63 a1 a2 t368 x9_47 x10_59 x11_59 x12_47 (wrap64 (x13_3 + 1)) a0_0 l0_1)) = some r := by rw [if_neg (show ¬ (false = true) by decide)] at H; exact H
                      clear H
                      have H := H1
                      clear H1
                      by_cases c67 : x12_47 < (t368.length : Int)
                      ·
                       rw [if_pos c67] at H
                       have c67b0 : decide (x12_47 < (t368.length : Int)) = true := decide_eq_true c67
                       clear c67
                       by_cases c68 : 0 ≤ x12_47
                       ·
                        rw [if_pos c68] at H
                        have c68b0 : decide (0 ≤ x12_47) = true := decide_eq_true c68
                        clear c68
                        by_cases c69 : (rd t368 x12_47) = (wrap64 (x13_3 + 1))
                        ·
                         rw [if_pos c69] at H
                         have c69b0 : ((rd t368 x12_47) == (wrap64 (x13_3 + 1))) = true := beq_iff_eq.mpr c69
                         have c69b1 : ((rd t368 x12_47) != (wrap64 (x13_3 + 1))) = false := bne_eq_false_iff_eq.mpr c69
                         clear c69
                         by_cases c70 : t373 = t375
                         ·
                          rw [if_pos c70] at H
                          have c70b0 : (t373 == t375) = true := beq_iff_eq.mpr c70
                          have c70b1 : (t373 != t375) = false := bne_eq_false_iff_eq.mpr c70
                          clear c70
                          as_aux_lemma =>
                           obtain rfl := Option.some.inj H
                           obtain ⟨Ao71, co71, eo71⟩ := Kd.R_slice HO_7.out
                           subst eo71
                           have p377 : 0 ≤ (x12_47 : Int) := of_decide_eq_true (by first | (with_reducible assumption) | assumption)
                           have q377 : x12_47 < (t368.length : Int) := of_decide_eq_true (by first | (with_reducible assumption) | assumption)
                           obtain ⟨ad377, e377, hx377_0⟩ := Kd.at_int (Kd.R_reads' HO_7.out).2.2 x12_47 p377 q377
                           cases e377
                           replace p377 := eq_true p377
                           replace q377 := eq_true q377
                           go_wp2
                           repeat (go_quiet (fail); try go_wp2)
                           go_ret
                           exact ⟨by first | rfl | (simp [errW_none, errW_some] <;> rfl) | (simp [*, errW_none, errW_some] <;> rfl), by repeat (first | (with_reducible first | exact HB.out | apply below_alloc | apply pw_below_drewN | apply below_drew1 | refine below_set ?_ GE362.out) | exact HB.out)⟩
                         ·
                          rw [if_neg c70] at H
                          have c70b0 : (t373 == t375) = false := beq_eq_false_iff_ne.mpr c70
                          have c70b1 : (t373 != t375) = true := bne_iff_ne.mpr c70
                          as_aux_lemma =>
                           have H' := Aside0.mk H
                           clear H
                           obtain ⟨Ao72, co72, eo72⟩ := Kd.R_slice HO_7.out
                           subst eo72
                           have p377 : 0 ≤ (x12_47 : Int) := of_decide_eq_true (by first | (with_reducible assumption) | assumption)
                           have q377 : x12_47 < (t368.length : Int) := of_decide_eq_true (by first | (with_reducible assumption) | assumption)
                           obtain ⟨ad377, e377, hx377_0⟩ := Kd.at_int (Kd.R_reads' HO_7.out).2.2 x12_47 p377 q377
                           cases e377
                           replace p377 := eq_true p377
                           replace q377 := eq_true q377
                           go_wp2
                           repeat (go_quiet (fail); try go_wp2)
                           go_roundg kj63
                           case measure => have := HJ3.out; have := HJ35.out; have := HK3.out; have := HJ42.out; have := HJ47.out; have := HJ52.out; have := HJ59.out; have := HJ63.out; omega
                           case rel => exact ⟨(x9_47), (x10_59), (x11_59), (x12_47), (wrap64 (x13_3 + 1)), (by first | rfl | (simp; done) | (simp [*]; done)), (by first | rfl | (simp; done) | (simp [*]; done)), (by first | rfl | (simp; done) | (simp [*]; done)), (by first | rfl | (simp; done) | (simp [*]; done)), (by first | rfl | (simp; done) | (simp [*]; done)), H', ⟨by have := HJ3.out; have := HJ35.out; have := HK3.out; have := HJ42.out; have := HJ47.out; have := HJ52.out; have := HJ59.out; have := HJ63.out; omega⟩, ⟨by (with_reducible repeat (first | apply Kd.R_alloc | apply Kd.R_drewN | apply Kd.R_drew)); exact HO_7.out⟩, ⟨by (with_reducible repeat (first | refine blk_drewN ?_ _ | refine blk_drew ?_ | refine blk_alloc ?_ _)); exact BK362.out⟩, ⟨by repeat (first | (with_reducible first | exact HB.out | apply below_alloc | apply pw_below_drewN | apply below_drew1 | refine below_set ?_ GE362.out) | exact HB.out)⟩⟩
                        ·
                         rw [if_neg c69] at H
                         have c69b0 : ((rd t368 x12_47) == (wrap64 (x13_3 + 1))) = false := beq_eq_false_iff_ne.mpr c69
                         have c69b1 : ((rd t368 x12_47) != (wrap64 (x13_3 + 1))) = true := bne_iff_ne.mpr c69
                         as_aux_lemma =>
                          have H' := Aside0.mk H
                          clear H
                          obtain ⟨Ao73, co73, eo73⟩ := Kd.R_slice HO_7.out
                          subst eo73
                          have p377 : 0 ≤ (x12_47 : Int) := of_decide_eq_true (by first | (with_reducible assumption) | assumption)
                          have q377 : x12_47 < (t368.length : Int) := of_decide_eq_true (by first | (with_reducible assumption) | assumption)
                          obtain ⟨ad377, e377, hx377_0⟩ := Kd.at_int (Kd.R_reads' HO_7.out).2.2 x12_47 p377 q377
                          cases e377
                          replace p377 := eq_true p377
                          replace q377 := eq_true q377
                          go_wp2
                          repeat (go_quiet (fail); try go_wp2)
                          go_roundg kj63
                          case measure => have := HJ3.out; have := HJ35.out; have := HK3.out; have := HJ42.out; have := HJ47.out; have := HJ52.out; have := HJ59.out; have := HJ63.out; omega
                          case rel => exact ⟨(x9_47), (x10_59), (x11_59), (x12_47), (wrap64 (x13_3 + 1)), (by first | rfl | (simp; done) | (simp [*]; done)), (by first | rfl | (simp; done) | (simp [*]; done)), (by first | rfl | (simp; done) | (simp [*]; done)), (by first | rfl | (simp; done) | (simp [*]; done)), (by first | rfl | (simp; done) | (simp [*]; done)), H', ⟨by have := HJ3.out; have := HJ35.out; have := HK3.out; have := HJ42.out; have := HJ47.out; have := HJ52.out; have := HJ59.out; have := HJ63.out; omega⟩, ⟨by (with_reducible repeat (first | apply Kd.R_alloc | apply Kd.R_drewN | apply Kd.R_drew)); exact HO_7.out⟩, ⟨by (with_reducible repeat (first | refine blk_drewN ?_ _ | refine blk_drew ?_ | refine blk_alloc ?_ _)); exact BK362.out⟩, ⟨by repeat (first | (with_reducible first | exact HB.out | apply below_alloc | apply pw_below_drewN | apply below_drew1 | refine below_set ?_ GE362.out) | exact HB.out)⟩⟩
                       ·
                        rw [if_neg c68] at H
                        exact absurd H (by simp)
                      ·
                       rw [if_neg c67] at H
                       have c67b0 : decide (x12_47 < (t368.length : Int)) = false := decide_eq_false c67
                       clear c67
                       as_aux_lemma =>
                        have H' := Aside0.mk H
                        clear H
                        obtain ⟨Ao74, co74, eo74⟩ := Kd.R_slice HO_7.out
                        subst eo74
                        go_wp2
                        repeat (go_quiet (fail); try go_wp2)
                        go_roundg kj63
                        case measure => have := HJ3.out; have := HJ35.out; have := HK3.out; have := HJ42.out; have := HJ47.out; have := HJ52.out; have := HJ59.out; have := HJ63.out; omega
                        case rel => exact ⟨(x9_47), (x10_59), (x11_59), (x12_47), (wrap64 (x13_3 + 1)), (by first | rfl | (simp; done) | (simp [*]; done)), (by first | rfl | (simp; done) | (simp [*]; done)), (by first | rfl | (simp; done) | (simp [*]; done)), (by first | rfl | (simp; done) | (simp [*]; done)), (by first | rfl | (simp; done) | (simp [*]; done)), H', ⟨by have := HJ3.out; have := HJ35.out; have := HK3.out; have := HJ42.out; have := HJ47.out; have := HJ52.out; have := HJ59.out; have := HJ63.out; omega⟩, ⟨by (with_reducible repeat (first | apply Kd.R_alloc | apply Kd.R_drewN | apply Kd.R_drew)); exact HO_7.out⟩, ⟨by (with_reducible repeat (first | refine blk_drewN ?_ _ | refine blk_drew ?_ | refine blk_alloc ?_ _)); exact BK362.out⟩, ⟨by repeat (first | (with_reducible first | exact HB.out | apply below_alloc | apply pw_below_drewN | apply below_drew1 | refine below_set ?_ GE362.out) | exact HB.out)⟩⟩
         ·
          rw [if_neg c42] at H
          have c42b0 : decide (x13_3 < a2) = false := decide_eq_false c42
          clear c42
          have HC75 := Aside0.mk H
          clear H
          go_upto_block 2 with (fail)
          repeat (go_quiet (fail); go_upto_block 2 with (fail))
          go_cut [12] (fun v12 wc => ∃ (kq : Nat) (x12_74 : Int), v12 = .int .i64 x12_74 ∧ Aside0 (tl_CamStood.j9 kq a1 a2 t368 x12_74 a0_0 l0_1 = some r) ∧ Aside0 (kq ≤ k3) ∧ Aside0 (Kd.R (Kd.int .i64) 3 wc w.heap.size (fun _ => True) v369 t368) ∧ Aside0 (wc.heap[gb362]? = some (.cells #[.int .i64 a0_0, (.slice A0_1 l0_1.length c0_1)] 24 (0, 0))) ∧ Aside0 (Below w.heap.size w wc))
          case first =>
           have H := HC75.out
           clear HC75
           have H' := Aside0.mk H
           clear H
           go_wp2
           repeat (go_quiet (fail); try go_wp2)
           go_loopg [12] k3 (fun kq v12 w' => ∃ (x12_4 : Int), v12 = .int .i64 x12_4 ∧ Aside0 (tl_CamStood.l1 kq a1 a2 t368 x12_4 a0_0 l0_1 = some r) ∧ Aside0 (kq ≤ k3) ∧ Aside0 (Kd.R (Kd.int .i64) 3 w' w.heap.size (fun _ => True) v369 t368) ∧ Aside0 (w'.heap[gb362]? = some (.cells #[.int .i64 a0_0, (.slice A0_1 l0_1.length c0_1)] 24 (0, 0))) ∧ Aside0 (Below w.heap.size w w'))
           case atStart => exact ⟨(x12_3), (by first | rfl | (simp; done) | (simp [*]; done)), H', ⟨Nat.le_refl _⟩, ⟨by (with_reducible repeat (first | apply Kd.R_alloc | apply Kd.R_drewN | apply Kd.R_drew)); exact HO_7.out⟩, ⟨by (with_reducible repeat (first | refine blk_drewN ?_ _ | refine blk_drew ?_ | refine blk_alloc ?_ _)); exact BK362.out⟩, ⟨by repeat (first | (with_reducible first | exact HB.out | apply below_alloc | apply pw_below_drewN | apply below_drew1 | refine below_set ?_ GE362.out) | exact HB.out)⟩⟩
           case round =>
            clear H'
            try clear c1
            try clear p2
            try clear c3
            try clear p3
            try clear q3
            try clear hx3
            try clear c4
            try clear c5
            try clear c6
            try clear p6
            try clear c7
            try clear c9
            try clear c11
            try clear c13
            try clear c32
            try clear p37
            try clear q37
            try clear hx37
            try clear c39
            try clear c39b0
            try clear c39b1
            try clear c41
            try clear c42
            try clear c42b0
            try clear c44
            try clear c44b0
            try clear c45
            try clear c45b0
            try clear c49
            try clear c50
            try clear c50b0
            try clear c58
            try clear c58b0
            try clear c58b1
            try clear c59
            try clear c61
            try clear c62
            try clear c63
            try clear p64
            try clear c65
            try clear c66
            try clear c67
            try clear c67b0
            try clear c68
            try clear c68b0
            try clear c69
            try clear c69b0
            try clear c69b1
            try clear c70
            try clear c70b0
            try clear c70b1
            try clear hcz14_0
            try clear hcz14_1
            try clear hcz16_0
            try clear hcz16_1
            try clear hcz18_0
            try clear hcz18_1
            try clear hcz20_0
            try clear hcz20_1
            try clear hcz22_0
            try clear hcz22_1
            try clear hcz24_0
            try clear hcz24_1
            try clear hcz26_0
            try clear hcz26_1
            try clear hcz28_0
            try clear hcz28_1
            try clear hcz30_0
            try clear hcz30_1
            try clear hcz37_0
            try clear hcz37_1
            try clear hcz54_0
            try clear hcz54_1
            try clear hcz56_0
            try clear hcz56_1
            try clear hfz14_0
            try clear hfz14_1
            try clear hfz16_0
            try clear hfz16_1
            try clear hfz18_0
            try clear hfz18_1
            try clear hfz20_0
            try clear hfz20_1
            try clear hfz22_0
            try clear hfz22_1
            try clear hfz24_0
            try clear hfz24_1
            try clear hfz26_0
            try clear hfz26_1
            try clear hfz28_0
            try clear hfz28_1
            try clear hfz30_0
            try clear hfz30_1
            try clear hfz37_0
            try clear hfz37_1
            try clear hfz54_0
            try clear hfz54_1
            try clear hfz56_0
            try clear hfz56_1
            try clear hx372_0
            try clear hx377_0
            try clear p2
            try clear p3
            try clear p37
            try clear p372
            try clear p377
            try clear p6
            try clear p64
            try clear q3
            try clear q37
            try clear q372
            try clear q377
            obtain ⟨x12_4, rfl, HA, HK4, HO_7, BK362, HB⟩ := hrel
            cases gk with
            | zero => exact absurd HA.out (by simp [tl_CamStood.l1])
            | succ k4 =>
             have H := HA.out
             clear HA
             simp only [tl_CamStood.l1] at H
             by_cases c76 : x12_4 < (t368.length : Int)
             ·
              rw [if_pos c76] at H
              have c76b0 : decide (x12_4 < (t368.length : Int)) = true := decide_eq_true c76
              clear c76
              (first | rw [c76b0] | (simp only [i64_w, i32_w]; rw [c76b0]) | skip)
              by_cases c77 : 0 ≤ x12_4
              ·
               rw [if_pos c77] at H
               have c77b0 : decide (0 ≤ x12_4) = true := decide_eq_true c77
               clear c77
               by_cases c78 : (rd t368 x12_4) = a2
               ·
                rw [if_pos c78] at H
                have c78b0 : ((rd t368 x12_4) == a2) = true := beq_iff_eq.mpr c78
                have c78b1 : ((rd t368 x12_4) != a2) = false := bne_eq_false_iff_eq.mpr c78
                clear c78
                as_aux_lemma =>
                 have H' := Aside0.mk H
                 clear H
                 obtain ⟨Ao79, co79, eo79⟩ := Kd.R_slice HO_7.out
                 subst eo79
                 have p378 : 0 ≤ (x12_4 : Int) := of_decide_eq_true (by first | (with_reducible assumption) | assumption)
                 have q378 : x12_4 < (t368.length : Int) := of_decide_eq_true (by first | (with_reducible assumption) | assumption)
                 obtain ⟨ad378, e378, hx378_0⟩ := Kd.at_int (Kd.R_reads' HO_7.out).2.2 x12_4 p378 q378
                 cases e378
                 replace p378 := eq_true p378
                 replace q378 := eq_true q378
                 go_wp2
                 repeat (go_quiet (fail); try go_wp2)
                 go_roundg k4
                 case measure => have := HJ3.out; have := HJ35.out; have := HK3.out; have := HK4.out; omega
                 case rel => exact ⟨(wrap64 (x12_4 + 1)), (by first | rfl | (simp; done) | (simp [*]; done)), H', ⟨by have := HJ3.out; have := HJ35.out; have := HK3.out; have := HK4.out; omega⟩, ⟨by (with_reducible repeat (first | apply Kd.R_alloc | apply Kd.R_drewN | apply Kd.R_drew)); exact HO_7.out⟩, ⟨by (with_reducible repeat (first | refine blk_drewN ?_ _ | refine blk_drew ?_ | refine blk_alloc ?_ _)); exact BK362.out⟩, ⟨by repeat (first | (with_reducible first | exact HB.out | apply below_alloc | apply pw_below_drewN | apply below_drew1 | refine below_set ?_ GE362.out) | exact HB.out)⟩⟩
               ·
                rw [if_neg c78] at H
                have c78b0 : ((rd t368 x12_4) == a2) = false := beq_eq_false_iff_ne.mpr c78
                have c78b1 : ((rd t368 x12_4) != a2) = true := bne_iff_ne.mpr c78
                as_aux_lemma =>
                 have H' := Aside0.mk H
                 clear H
                 obtain ⟨Ao80, co80, eo80⟩ := Kd.R_slice HO_7.out
                 subst eo80
                 have p378 : 0 ≤ (x12_4 : Int) := of_decide_eq_true (by first | (with_reducible assumption) | assumption)
                 have q378 : x12_4 < (t368.length : Int) := of_decide_eq_true (by first | (with_reducible assumption) | assumption)
                 obtain ⟨ad378, e378, hx378_0⟩ := Kd.at_int (Kd.R_reads' HO_7.out).2.2 x12_4 p378 q378
                 cases e378
                 replace p378 := eq_true p378
                 replace q378 := eq_true q378
                 go_wp2
                 repeat (go_quiet (fail); try go_wp2)
                 go_meet
                 case rel => exact ⟨_, (x12_4), (by first | rfl | (simp; done) | (simp [*]; done)), H', ⟨by have := HJ3.out; have := HJ35.out; have := HK3.out; have := HK4.out; first | omega | exact Nat.le_refl _⟩, ⟨by (with_reducible repeat (first | apply Kd.R_alloc | apply Kd.R_drewN | apply Kd.R_drew)); exact HO_7.out⟩, ⟨by (with_reducible repeat (first | refine blk_drewN ?_ _ | refine blk_drew ?_ | refine blk_alloc ?_ _)); exact BK362.out⟩, ⟨by repeat (first | (with_reducible first | exact HB.out | apply below_alloc | apply pw_below_drewN | apply below_drew1 | refine below_set ?_ GE362.out) | exact HB.out)⟩⟩
              ·
               rw [if_neg c77] at H
               exact absurd H (by simp)
             ·
              rw [if_neg c76] at H
              have c76b0 : decide (x12_4 < (t368.length : Int)) = false := decide_eq_false c76
              clear c76
              (first | rw [c76b0] | (simp only [i64_w, i32_w]; rw [c76b0]) | skip)
              as_aux_lemma =>
               have H' := Aside0.mk H
               clear H
               obtain ⟨Ao81, co81, eo81⟩ := Kd.R_slice HO_7.out
               subst eo81
               go_wp2
               repeat (go_quiet (fail); try go_wp2)
               go_meet
               case rel => exact ⟨_, (x12_4), (by first | rfl | (simp; done) | (simp [*]; done)), H', ⟨by have := HJ3.out; have := HJ35.out; have := HK3.out; have := HK4.out; first | omega | exact Nat.le_refl _⟩, ⟨by (with_reducible repeat (first | apply Kd.R_alloc | apply Kd.R_drewN | apply Kd.R_drew)); exact HO_7.out⟩, ⟨by (with_reducible repeat (first | refine blk_drewN ?_ _ | refine blk_drew ?_ | refine blk_alloc ?_ _)); exact BK362.out⟩, ⟨by repeat (first | (with_reducible first | exact HB.out | apply below_alloc | apply pw_below_drewN | apply below_drew1 | refine below_set ?_ GE362.out) | exact HB.out)⟩⟩
          case rest =>
           clear HC75
           try clear c1
           try clear p2
           try clear c3
           try clear p3
           try clear q3
           try clear hx3
           try clear c4
           try clear c5
           try clear c6
           try clear p6
           try clear c7
           try clear c9
           try clear c11
           try clear c13
           try clear c32
           try clear p37
           try clear q37
           try clear hx37
           try clear c39
           try clear c39b0
           try clear c39b1
           try clear c41
           try clear c42
           try clear c42b0
           try clear c44
           try clear c44b0
           try clear c45
           try clear c45b0
           try clear c49
           try clear c50
           try clear c50b0
           try clear c58
           try clear c58b0
           try clear c58b1
           try clear c59
           try clear c61
           try clear c62
           try clear c63
           try clear p64
           try clear c65
           try clear c66
           try clear c67
           try clear c67b0
           try clear c68
           try clear c68b0
           try clear c69
           try clear c69b0
           try clear c69b1
           try clear c70
           try clear c70b0
           try clear c70b1
           try clear c76
           try clear c76b0
           try clear c77
           try clear c77b0
           try clear c78
           try clear c78b0
           try clear c78b1
           try clear hcz14_0
           try clear hcz14_1
           try clear hcz16_0
           try clear hcz16_1
           try clear hcz18_0
           try clear hcz18_1
           try clear hcz20_0
           try clear hcz20_1
           try clear hcz22_0
           try clear hcz22_1
           try clear hcz24_0
           try clear hcz24_1
           try clear hcz26_0
           try clear hcz26_1
           try clear hcz28_0
           try clear hcz28_1
           try clear hcz30_0
           try clear hcz30_1
           try clear hcz37_0
           try clear hcz37_1
           try clear hcz54_0
           try clear hcz54_1
           try clear hcz56_0
           try clear hcz56_1
           try clear hfz14_0
           try clear hfz14_1
           try clear hfz16_0
           try clear hfz16_1
           try clear hfz18_0
           try clear hfz18_1
           try clear hfz20_0
           try clear hfz20_1
           try clear hfz22_0
           try clear hfz22_1
           try clear hfz24_0
           try clear hfz24_1
           try clear hfz26_0
           try clear hfz26_1
           try clear hfz28_0
           try clear hfz28_1
           try clear hfz30_0
           try clear hfz30_1
           try clear hfz37_0
           try clear hfz37_1
           try clear hfz54_0
           try clear hfz54_1
           try clear hfz56_0
           try clear hfz56_1
           try clear hx372_0
           try clear hx377_0
           try clear hx378_0
           try clear p2
           try clear p3
           try clear p37
           try clear p372
           try clear p377
           try clear p378
           try clear p6
           try clear p64
           try clear q3
           try clear q37
           try clear q372
           try clear q377
           try clear q378
           obtain ⟨kq, x12_74, rfl, HA, HJ74, HO_7, BK362, HB⟩ := hcut
           cases kq with
           | zero => exact absurd HA.out (by simp [tl_CamStood.j9])
           | succ kj74 =>
            have H := HA.out
            clear HA
            simp only [tl_CamStood.j9] at H
            by_cases c82 : x12_74 = (t368.length : Int)
            ·
             rw [if_pos c82] at H
             have c82b0 : (x12_74 == (t368.length : Int)) = true := beq_iff_eq.mpr c82
             have c82b1 : (x12_74 != (t368.length : Int)) = false := bne_eq_false_iff_eq.mpr c82
             clear c82
             replace H := Option.bind_eq_some_iff.mp H
             obtain ⟨t379, A830, H⟩ := H
             replace H : (if t379 = true then ((cam_Stations.f kj74 a0_0 l0_1 (wrap64 (a1 + (l0_1.length : Int))) (wrap64 (a2 + (l0_1.length : Int)))).bind fun bt381 => (if bt381.2 = 0 then (tl_CamStood.j10 kj74 t368 (l0_1.length : Int) bt381.1 ((bt381.1.length : Int) != (t368.length : Int))) else (tl_CamStood.j10 kj74 t368 (l0_1.length : Int) bt381.1 true))) else ((tellurionlaw04_known.f).bind fun t380 => (some t380))) = some r := H
             have A83 := Aside0.mk A830
             clear A830
             by_cases c84 : t379 = true
             ·
              subst c84
              have H1 : ((cam_Stations.f kj74 a0_0 l0_1 (wrap64 (a1 + (l0_1.length : Int))) (wrap64 (a2 + (l0_1.length : Int)))).bind fun bt381 => (if bt381.2 = 0 then (tl_CamStood.j10 kj74 t368 (l0_1.length : Int) bt381.1 ((bt381.1.length : Int) != (t368.length : Int))) else (tl_CamStood.j10 kj74 t368 (l0_1.length : Int) bt381.1 true))) = some r := by rw [if_pos rfl] at H; exact H
              clear H
              have H := H1
              clear H1
              replace H := Option.bind_eq_some_iff.mp H
              obtain ⟨⟨t381, t384⟩, A850, H⟩ := H
              replace H : (if t384 = 0 then (tl_CamStood.j10 kj74 t368 (l0_1.length : Int) t381 ((t381.length : Int) != (t368.length : Int))) else (tl_CamStood.j10 kj74 t368 (l0_1.length : Int) t381 true)) = some r := H
              have A85 := Aside0.mk A850
              clear A850
              have HC86 := Aside0.mk H
              clear H
              obtain ⟨Ao87, co87, eo87⟩ := Kd.R_slice HO_7.out
              subst eo87
              have hcz88_0 : wc.cell? ⟨gb362, 0, none⟩ = some (.int .i64 a0_0) := (blk_cell BK362.out 0).trans rfl
              have hcz88_1 : wc.cell? ⟨gb362, 1, none⟩ = some (.slice A0_1 l0_1.length c0_1) := (blk_cell BK362.out 1).trans rfl
              have hfz88_0 := blk_frozen BK362.out 0
              have hfz88_1 := blk_frozen BK362.out 1
              go_upto_region 35 with (first | (go_at_call 14; (with_reducible refine (tr_Time.calls (wrap64 (a2 + (l0_1.length : Int))) true _ A83.out).mono ?_); rintro e w' ⟨rfl, ⟨nd, rfl⟩⟩; (try first | exact ⟨rfl, _, World.drewN_drewN _ _ _⟩ | exact ⟨rfl, _, Eq.trans (World.drewN_drewN _ _ _) (congrArg (World.drewN _) (Nat.add_assoc _ _ _))⟩)) | (go_at_call 30; (with_reducible refine (cam_Stations.calls kj74 a0_0 _ _ l0_1 (wrap64 (a1 + (l0_1.length : Int))) (wrap64 (a2 + (l0_1.length : Int))) t381 t384 _ ?side1 ?side2 A85.out).mono ?_); (case side1 => repeat (first | exact (Kd.C_below HR0_1.out (by repeat (first | (with_reducible first | exact HB.out | apply below_alloc | apply pw_below_drewN | apply below_drew1 | refine below_set ?_ GE362.out) | exact HB.out))) | (with_reducible refine Kd.C_alloc ?_ _) | (with_reducible refine Kd.C_drewN ?_ _) | (with_reducible refine Kd.C_drew ?_))); (case side2 => exact HC0_1.out); rintro e w89 ⟨v382, rfl, ho0, hb⟩; have n0_ := Aside0.mk (Kd.R_elder' (by (with_reducible repeat (first | apply Kd.R_alloc | apply Kd.R_drewN | apply Kd.R_drew)); exact HO_7.out) (Kd.R_base ho0) hb); have n1_ := Aside0.mk (Kd.R_lower (Kd.R_new' ho0 (Kd.R_lt (by (with_reducible repeat (first | apply Kd.R_alloc | apply Kd.R_drewN | apply Kd.R_drew)); exact HO_7.out))) (below_size (by repeat (first | (with_reducible first | exact HB.out | apply below_alloc | apply pw_below_drewN | apply below_drew1 | refine below_set ?_ GE362.out) | exact HB.out)))); have n2_ := Aside0.mk (blk_below (g := gb362) (o := .cells #[.int .i64 a0_0, .slice A0_1 l0_1.length c0_1] 24 (0, 0)) (by (with_reducible repeat (first | refine blk_drewN ?_ _ | refine blk_drew ?_ | refine blk_alloc ?_ _)); exact BK362.out) hb); have n3_ := Aside0.mk (below_step (by repeat (first | (with_reducible first | exact HB.out | apply below_alloc | apply pw_below_drewN | apply below_drew1 | refine below_set ?_ GE362.out) | exact HB.out)) hb); clear HO_7; clear BK362; clear HB; have HO_7 := n0_; have HO383 := n1_; have BK362 := n2_; have HB := n3_; clear n0_ n1_ n2_ n3_; (try clear hb); (try clear hb2); (try clear hk); (try clear hi); (try clear ho0)))
              repeat (go_quiet (first | (go_at_call 14; (with_reducible refine (tr_Time.calls (wrap64 (a2 + (l0_1.length : Int))) true _ A83.out).mono ?_); rintro e w' ⟨rfl, ⟨nd, rfl⟩⟩; (try first | exact ⟨rfl, _, World.drewN_drewN _ _ _⟩ | exact ⟨rfl, _, Eq.trans (World.drewN_drewN _ _ _) (congrArg (World.drewN _) (Nat.add_assoc _ _ _))⟩)) | (go_at_call 30; (with_reducible refine (cam_Stations.calls kj74 a0_0 _ _ l0_1 (wrap64 (a1 + (l0_1.length : Int))) (wrap64 (a2 + (l0_1.length : Int))) t381 t384 _ ?side1 ?side2 A85.out).mono ?_); (case side1 => repeat (first | exact (Kd.C_below HR0_1.out (by repeat (first | (with_reducible first | exact HB.out | apply below_alloc | apply pw_below_drewN | apply below_drew1 | refine below_set ?_ GE362.out) | exact HB.out))) | (with_reducible refine Kd.C_alloc ?_ _) | (with_reducible refine Kd.C_drewN ?_ _) | (with_reducible refine Kd.C_drew ?_))); (case side2 => exact HC0_1.out); rintro e w89 ⟨v382, rfl, ho0, hb⟩; have n0_ := Aside0.mk (Kd.R_elder' (by (with_reducible repeat (first | apply Kd.R_alloc | apply Kd.R_drewN | apply Kd.R_drew)); exact HO_7.out) (Kd.R_base ho0) hb); have n1_ := Aside0.mk (Kd.R_lower (Kd.R_new' ho0 (Kd.R_lt (by (with_reducible repeat (first | apply Kd.R_alloc | apply Kd.R_drewN | apply Kd.R_drew)); exact HO_7.out))) (below_size (by repeat (first | (with_reducible first | exact HB.out | apply below_alloc | apply pw_below_drewN | apply below_drew1 | refine below_set ?_ GE362.out) | exact HB.out)))); have n2_ := Aside0.mk (blk_below (g := gb362) (o := .cells #[.int .i64 a0_0, .slice A0_1 l0_1.length c0_1] 24 (0, 0)) (by (with_reducible repeat (first | refine blk_drewN ?_ _ | refine blk_drew ?_ | refine blk_alloc ?_ _)); exact BK362.out) hb); have n3_ := Aside0.mk (below_step (by repeat (first | (with_reducible first | exact HB.out | apply below_alloc | apply pw_below_drewN | apply below_drew1 | refine below_set ?_ GE362.out) | exact HB.out)) hb); clear HO_7; clear BK362; clear HB; have HO_7 := n0_; have HO383 := n1_; have BK362 := n2_; have HB := n3_; clear n0_ n1_ n2_ n3_; (try clear hb); (try clear hb2); (try clear hk); (try clear hi); (try clear ho0))); go_upto_region 35 with (first | (go_at_call 14; (with_reducible refine (tr_Time.calls (wrap64 (a2 + (l0_1.length : Int))) true _ A83.out).mono ?_); rintro e w' ⟨rfl, ⟨nd, rfl⟩⟩; (try first | exact ⟨rfl, _, World.drewN_drewN _ _ _⟩ | exact ⟨rfl, _, Eq.trans (World.drewN_drewN _ _ _) (congrArg (World.drewN _) (Nat.add_assoc _ _ _))⟩)) | (go_at_call 30; (with_reducible refine (cam_Stations.calls kj74 a0_0 _ _ l0_1 (wrap64 (a1 + (l0_1.length : Int))) (wrap64 (a2 + (l0_1.length : Int))) t381 t384 _ ?side1 ?side2 A85.out).mono ?_); (case side1 => repeat (first | exact (Kd.C_below HR0_1.out (by repeat (first | (with_reducible first | exact HB.out | apply below_alloc | apply pw_below_drewN | apply below_drew1 | refine below_set ?_ GE362.out) | exact HB.out))) | (with_reducible refine Kd.C_alloc ?_ _) | (with_reducible refine Kd.C_drewN ?_ _) | (with_reducible refine Kd.C_drew ?_))); (case side2 => exact HC0_1.out); rintro e w89 ⟨v382, rfl, ho0, hb⟩; have n0_ := Aside0.mk (Kd.R_elder' (by (with_reducible repeat (first | apply Kd.R_alloc | apply Kd.R_drewN | apply Kd.R_drew)); exact HO_7.out) (Kd.R_base ho0) hb); have n1_ := Aside0.mk (Kd.R_lower (Kd.R_new' ho0 (Kd.R_lt (by (with_reducible repeat (first | apply Kd.R_alloc | apply Kd.R_drewN | apply Kd.R_drew)); exact HO_7.out))) (below_size (by repeat (first | (with_reducible first | exact HB.out | apply below_alloc | apply pw_below_drewN | apply below_drew1 | refine below_set ?_ GE362.out) | exact HB.out)))); have n2_ := Aside0.mk (blk_below (g := gb362) (o := .cells #[.int .i64 a0_0, .slice A0_1 l0_1.length c0_1] 24 (0, 0)) (by (with_reducible repeat (first | refine blk_drewN ?_ _ | refine blk_drew ?_ | refine blk_alloc ?_ _)); exact BK362.out) hb); have n3_ := Aside0.mk (below_step (by repeat (first | (with_reducible first | exact HB.out | apply below_alloc | apply pw_below_drewN | apply below_drew1 | refine below_set ?_ GE362.out) | exact HB.out)) hb); clear HO_7; clear BK362; clear HB; have HO_7 := n0_; have HO383 := n1_; have BK362 := n2_; have HB := n3_; clear n0_ n1_ n2_ n3_; (try clear hb); (try clear hb2); (try clear hk); (try clear hi); (try clear ho0))))
              (try simp only [Act.put, List.setIfInBounds_toArray, List.set_cons_zero, List.set_cons_succ])
              go_cut [188] (fun v188 wc => ∃ (kq : Nat) (x188_85 : Bool), v188 = .bool x188_85 ∧ Aside0 (tl_CamStood.j10 kq t368 (l0_1.length : Int) t381 x188_85 = some r) ∧ Aside0 (kq ≤ kj74) ∧ Aside0 (Kd.R (Kd.int .i64) 3 wc w.heap.size (fun k_ => some k_ ≠ (v382 : Value).ownBlock) (.slice Ao87 t368.length co87) t368) ∧ Aside0 (Kd.R (Kd.int .i64) 3 wc w.heap.size (fun k_ => some k_ ≠ ((.slice Ao87 t368.length co87) : Value).ownBlock) v382 t381) ∧ Aside0 (wc.heap[gb362]? = some (.cells #[.int .i64 a0_0, (.slice A0_1 l0_1.length c0_1)] 24 (0, 0))) ∧ Aside0 (Below w.heap.size w wc))
              case first =>
               have H := HC86.out
               clear HC86
               by_cases c90 : t384 = 0
               ·
                rw [if_pos c90] at H
                have c90b0 : (t384 == 0) = true := beq_iff_eq.mpr c90
                have c90b1 : (t384 != 0) = false := bne_eq_false_iff_eq.mpr c90
                clear c90
                (first | rw [c90b0] | (simp only [i64_w, i32_w]; rw [c90b0]) | skip)
                as_aux_lemma =>
                 have H' := Aside0.mk H
                 clear H
                 obtain ⟨Ao91, co91, eo91⟩ := Kd.R_slice HO383.out
                 subst eo91
                 go_wp2
                 repeat (go_quiet (fail); try go_wp2)
                 go_meet
                 case rel => exact ⟨_, (((t381.length : Int) != (t368.length : Int))), (by first | rfl | (simp; done) | (simp [*]; done)), H', ⟨by have := HJ3.out; have := HJ35.out; have := HK3.out; have := HJ74.out; first | omega | exact Nat.le_refl _⟩, ⟨by (with_reducible repeat (first | apply Kd.R_alloc | apply Kd.R_drewN | apply Kd.R_drew)); exact Kd.R_mono HO_7.out (fun _ hk => hk.2)⟩, ⟨by (with_reducible repeat (first | apply Kd.R_alloc | apply Kd.R_drewN | apply Kd.R_drew)); exact Kd.R_mono HO383.out (fun _ hk => hk.2)⟩, ⟨by (with_reducible repeat (first | refine blk_drewN ?_ _ | refine blk_drew ?_ | refine blk_alloc ?_ _)); exact BK362.out⟩, ⟨by repeat (first | (with_reducible first | exact HB.out | apply below_alloc | apply pw_below_drewN | apply below_drew1 | refine below_set ?_ GE362.out) | exact HB.out)⟩⟩
               ·
                rw [if_neg c90] at H
                have c90b0 : (t384 == 0) = false := beq_eq_false_iff_ne.mpr c90
                have c90b1 : (t384 != 0) = true := bne_iff_ne.mpr c90
                (first | rw [c90b0] | (simp only [i64_w, i32_w]; rw [c90b0]) | skip)
                as_aux_lemma =>
                 have H' := Aside0.mk H
                 clear H
                 go_wp2
                 repeat (go_quiet (fail); try go_wp2)
                 go_meet
                 case rel => exact ⟨_, (true), (by first | rfl | (simp; done) | (simp [*]; done)), H', ⟨by have := HJ3.out; have := HJ35.out; have := HK3.out; have := HJ74.out; first | omega | exact Nat.le_refl _⟩, ⟨by (with_reducible repeat (first | apply Kd.R_alloc | apply Kd.R_drewN | apply Kd.R_drew)); exact Kd.R_mono HO_7.out (fun _ hk => hk.2)⟩, ⟨by (with_reducible repeat (first | apply Kd.R_alloc | apply Kd.R_drewN | apply Kd.R_drew)); exact Kd.R_mono HO383.out (fun _ hk => hk.2)⟩, ⟨by (with_reducible repeat (first | refine blk_drewN ?_ _ | refine blk_drew ?_ | refine blk_alloc ?_ _)); exact BK362.out⟩, ⟨by repeat (first | (with_reducible first | exact HB.out | apply below_alloc | apply pw_below_drewN | apply below_drew1 | refine below_set ?_ GE362.out) | exact HB.out)⟩⟩
              case rest =>
               clear HC86
               try clear c1
               try clear p2
               try clear c3
               try clear p3
               try clear q3
               try clear hx3
               try clear c4
               try clear c5
               try clear c6
               try clear p6
               try clear c7
               try clear c8
               try clear c9
               try clear c11
               try clear c13
               try clear c32
               try clear p37
               try clear q37
               try clear hx37
               try clear c39
               try clear c39b0
               try clear c39b1
               try clear c41
               try clear c42
               try clear c42b0
               try clear c44
               try clear c44b0
               try clear c45
               try clear c45b0
               try clear c49
               try clear c50
               try clear c50b0
               try clear c58
               try clear c58b0
               try clear c58b1
               try clear c59
               try clear c61
               try clear c62
               try clear c63
               try clear p64
               try clear c65
               try clear c66
               try clear c67
               try clear c67b0
               try clear c68
               try clear c68b0
               try clear c69
               try clear c69b0
               try clear c69b1
               try clear c70
               try clear c70b0
               try clear c70b1
               try clear c76
               try clear c76b0
               try clear c77
               try clear c77b0
               try clear c78
               try clear c78b0
               try clear c78b1
               try clear c82
               try clear c82b0
               try clear c82b1
               try clear c84
               try clear c90
               try clear c90b0
               try clear c90b1
               try clear hcz14_0
               try clear hcz14_1
               try clear hcz16_0
               try clear hcz16_1
               try clear hcz18_0
               try clear hcz18_1
               try clear hcz20_0
               try clear hcz20_1
               try clear hcz22_0
               try clear hcz22_1
               try clear hcz24_0
               try clear hcz24_1
               try clear hcz26_0
               try clear hcz26_1
               try clear hcz28_0
               try clear hcz28_1
               try clear hcz30_0
               try clear hcz30_1
               try clear hcz37_0
               try clear hcz37_1
               try clear hcz54_0
               try clear hcz54_1
               try clear hcz56_0
               try clear hcz56_1
               try clear hcz88_0
               try clear hcz88_1
               try clear hfz14_0
               try clear hfz14_1
               try clear hfz16_0
               try clear hfz16_1
               try clear hfz18_0
               try clear hfz18_1
               try clear hfz20_0
               try clear hfz20_1
               try clear hfz22_0
               try clear hfz22_1
               try clear hfz24_0
               try clear hfz24_1
               try clear hfz26_0
               try clear hfz26_1
               try clear hfz28_0
               try clear hfz28_1
               try clear hfz30_0
               try clear hfz30_1
               try clear hfz37_0
               try clear hfz37_1
               try clear hfz54_0
               try clear hfz54_1
               try clear hfz56_0
               try clear hfz56_1
               try clear hfz88_0
               try clear hfz88_1
               try clear hx372_0
               try clear hx377_0
               try clear hx378_0
               try clear p2
               try clear p3
               try clear p37
               try clear p372
               try clear p377
               try clear p378
               try clear p6
               try clear p64
               try clear q3
               try clear q37
               try clear q372
               try clear q377
               try clear q378
               obtain ⟨kq, x188_85, rfl, HA, HJ85, HO_7, HO_19, BK362, HB⟩ := hcut
               cases kq with
               | zero => exact absurd HA.out (by simp [tl_CamStood.j10])
               | succ kj85 =>
                have H := HA.out
                clear HA
                simp only [tl_CamStood.j10] at H
                by_cases c92 : x188_85 = true
                ·
                 subst c92
                 have H1 : (some false) = some r := by rw [if_pos rfl] at H; exact H
                 clear H
                 have H := H1
                 clear H1
                 as_aux_lemma =>
                  obtain rfl := Option.some.inj H
                  go_wp2
                  repeat (go_quiet (fail); try go_wp2)
                  go_ret
                  exact ⟨by first | rfl | (simp [errW_none, errW_some] <;> rfl) | (simp [*, errW_none, errW_some] <;> rfl), by repeat (first | (with_reducible first | exact HB.out | apply below_alloc | apply pw_below_drewN | apply below_drew1 | refine below_set ?_ GE362.out) | exact HB.out)⟩
                ·
                 replace c92 := Bool.eq_false_iff.mpr c92
                 subst c92
                 have H1 : (tl_CamStood.l2 kj85 t368 (l0_1.length : Int) t381 0) = some r := by rw [if_neg (show ¬ (false = true) by decide)] at H; exact H
                 clear H
                 have H := H1
                 clear H1
                 have H' := Aside0.mk H
                 clear H
                 go_wp2
                 repeat (go_quiet (fail); try go_wp2)
                 go_loopg [21] kj85 (fun kq v21 w' => ∃ (x21_6 : Int), v21 = .int .i64 x21_6 ∧ Aside0 (tl_CamStood.l2 kq t368 (l0_1.length : Int) t381 x21_6 = some r) ∧ Aside0 (kq ≤ kj85) ∧ Aside0 (Kd.R (Kd.int .i64) 3 w' w.heap.size (fun k_ => some k_ ≠ (v382 : Value).ownBlock) (.slice Ao87 t368.length co87) t368) ∧ Aside0 (Kd.R (Kd.int .i64) 3 w' w.heap.size (fun k_ => some k_ ≠ ((.slice Ao87 t368.length co87) : Value).ownBlock) v382 t381) ∧ Aside0 (w'.heap[gb362]? = some (.cells #[.int .i64 a0_0, (.slice A0_1 l0_1.length c0_1)] 24 (0, 0))) ∧ Aside0 (Below w.heap.size w w'))
                 case atStart => exact ⟨(0), (by first | rfl | (simp; done) | (simp [*]; done)), H', ⟨Nat.le_refl _⟩, ⟨by (with_reducible repeat (first | apply Kd.R_alloc | apply Kd.R_drewN | apply Kd.R_drew)); exact HO_7.out⟩, ⟨by (with_reducible repeat (first | apply Kd.R_alloc | apply Kd.R_drewN | apply Kd.R_drew)); exact HO_19.out⟩, ⟨by (with_reducible repeat (first | refine blk_drewN ?_ _ | refine blk_drew ?_ | refine blk_alloc ?_ _)); exact BK362.out⟩, ⟨by repeat (first | (with_reducible first | exact HB.out | apply below_alloc | apply pw_below_drewN | apply below_drew1 | refine below_set ?_ GE362.out) | exact HB.out)⟩⟩
                 case round =>
                  clear H'
                  try clear c1
                  try clear p2
                  try clear c3
                  try clear p3
                  try clear q3
                  try clear hx3
                  try clear c4
                  try clear c5
                  try clear c6
                  try clear p6
                  try clear c7
                  try clear c8
                  try clear c9
                  try clear c11
                  try clear c13
                  try clear c32
                  try clear p37
                  try clear q37
                  try clear hx37
                  try clear c39
                  try clear c39b0
                  try clear c39b1
                  try clear c41
                  try clear c42
                  try clear c42b0
                  try clear c44
                  try clear c44b0
                  try clear c45
                  try clear c45b0
                  try clear c49
                  try clear c50
                  try clear c50b0
                  try clear c58
                  try clear c58b0
                  try clear c58b1
                  try clear c59
                  try clear c61
                  try clear c62
                  try clear c63
                  try clear p64
                  try clear c65
                  try clear c66
                  try clear c67
                  try clear c67b0
                  try clear c68
                  try clear c68b0
                  try clear c69
                  try clear c69b0
                  try clear c69b1
                  try clear c70
                  try clear c70b0
                  try clear c70b1
                  try clear c76
                  try clear c76b0
                  try clear c77
                  try clear c77b0
                  try clear c78
                  try clear c78b0
                  try clear c78b1
                  try clear c82
                  try clear c82b0
                  try clear c82b1
                  try clear c84
                  try clear c90
                  try clear c90b0
                  try clear c90b1
                  try clear c92
                  try clear hcz14_0
                  try clear hcz14_1
                  try clear hcz16_0
                  try clear hcz16_1
                  try clear hcz18_0
                  try clear hcz18_1
                  try clear hcz20_0
                  try clear hcz20_1
                  try clear hcz22_0
                  try clear hcz22_1
                  try clear hcz24_0
                  try clear hcz24_1
                  try clear hcz26_0
                  try clear hcz26_1
                  try clear hcz28_0
                  try clear hcz28_1
                  try clear hcz30_0
                  try clear hcz30_1
                  try clear hcz37_0
                  try clear hcz37_1
                  try clear hcz54_0
                  try clear hcz54_1
                  try clear hcz56_0
                  try clear hcz56_1
                  try clear hcz88_0
                  try clear hcz88_1
                  try clear hfz14_0
                  try clear hfz14_1
                  try clear hfz16_0
                  try clear hfz16_1
                  try clear hfz18_0
                  try clear hfz18_1
                  try clear hfz20_0
                  try clear hfz20_1
                  try clear hfz22_0
                  try clear hfz22_1
                  try clear hfz24_0
                  try clear hfz24_1
                  try clear hfz26_0
                  try clear hfz26_1
                  try clear hfz28_0
                  try clear hfz28_1
                  try clear hfz30_0
                  try clear hfz30_1
                  try clear hfz37_0
                  try clear hfz37_1
                  try clear hfz54_0
                  try clear hfz54_1
                  try clear hfz56_0
                  try clear hfz56_1
                  try clear hfz88_0
                  try clear hfz88_1
                  try clear hx372_0
                  try clear hx377_0
                  try clear hx378_0
                  try clear p2
                  try clear p3
                  try clear p37
                  try clear p372
                  try clear p377
                  try clear p378
                  try clear p6
                  try clear p64
                  try clear q3
                  try clear q37
                  try clear q372
                  try clear q377
                  try clear q378
                  obtain ⟨x21_6, rfl, HA, HK6, HO_7, HO_19, BK362, HB⟩ := hrel
                  cases gk with
                  | zero => exact absurd HA.out (by simp [tl_CamStood.l2])
                  | succ k6 =>
                   have H := HA.out
                   clear HA
                   simp only [tl_CamStood.l2] at H
                   by_cases c93 : x21_6 < (t368.length : Int)
                   ·
                    rw [if_pos c93] at H
                    have c93b0 : decide (x21_6 < (t368.length : Int)) = true := decide_eq_true c93
                    clear c93
                    by_cases c94 : 0 ≤ x21_6
                    ·
                     rw [if_pos c94] at H
                     have c94b0 : decide (0 ≤ x21_6) = true := decide_eq_true c94
                     clear c94
                     by_cases c95 : x21_6 < (t381.length : Int)
                     ·
                      rw [if_pos c95] at H
                      have c95b0 : decide (x21_6 < (t381.length : Int)) = true := decide_eq_true c95
                      clear c95
                      by_cases c96 : (rd t381 x21_6) = (wrap64 ((rd t368 x21_6) + (l0_1.length : Int)))
                      ·
                       rw [if_pos c96] at H
                       have c96b0 : ((rd t381 x21_6) == (wrap64 ((rd t368 x21_6) + (l0_1.length : Int)))) = true := beq_iff_eq.mpr c96
                       have c96b1 : ((rd t381 x21_6) != (wrap64 ((rd t368 x21_6) + (l0_1.length : Int)))) = false := bne_eq_false_iff_eq.mpr c96
                       clear c96
                       as_aux_lemma =>
                        have H' := Aside0.mk H
                        clear H
                        obtain ⟨Ao97, co97, eo97⟩ := Kd.R_slice HO_19.out
                        subst eo97
                        have p385 : 0 ≤ (x21_6 : Int) := of_decide_eq_true (by first | (with_reducible assumption) | assumption)
                        have q385 : x21_6 < (t381.length : Int) := of_decide_eq_true (by first | (with_reducible assumption) | assumption)
                        obtain ⟨ad385, e385, hx385_0⟩ := Kd.at_int (Kd.R_reads' HO_19.out).2.2 x21_6 p385 q385
                        cases e385
                        replace p385 := eq_true p385
                        replace q385 := eq_true q385
                        have p386 : 0 ≤ (x21_6 : Int) := of_decide_eq_true (by first | (with_reducible assumption) | assumption)
                        have q386 : x21_6 < (t368.length : Int) := of_decide_eq_true (by first | (with_reducible assumption) | assumption)
                        obtain ⟨ad386, e386, hx386_0⟩ := Kd.at_int (Kd.R_reads' HO_7.out).2.2 x21_6 p386 q386
                        cases e386
                        replace p386 := eq_true p386
                        replace q386 := eq_true q386
                        go_wp2
                        repeat (go_quiet (fail); try go_wp2)
                        go_roundg k6
                        case measure => have := HJ3.out; have := HJ35.out; have := HK3.out; have := HJ74.out; have := HJ85.out; have := HK6.out; omega
                        case rel => exact ⟨(wrap64 (x21_6 + 1)), (by first | rfl | (simp; done) | (simp [*]; done)), H', ⟨by have := HJ3.out; have := HJ35.out; have := HK3.out; have := HJ74.out; have := HJ85.out; have := HK6.out; omega⟩, ⟨by (with_reducible repeat (first | apply Kd.R_alloc | apply Kd.R_drewN | apply Kd.R_drew)); exact HO_7.out⟩, ⟨by (with_reducible repeat (first | apply Kd.R_alloc | apply Kd.R_drewN | apply Kd.R_drew)); exact HO_19.out⟩, ⟨by (with_reducible repeat (first | refine blk_drewN ?_ _ | refine blk_drew ?_ | refine blk_alloc ?_ _)); exact BK362.out⟩, ⟨by repeat (first | (with_reducible first | exact HB.out | apply below_alloc | apply pw_below_drewN | apply below_drew1 | refine below_set ?_ GE362.out) | exact HB.out)⟩⟩
                      ·
                       rw [if_neg c96] at H
                       have c96b0 : ((rd t381 x21_6) == (wrap64 ((rd t368 x21_6) + (l0_1.length : Int)))) = false := beq_eq_false_iff_ne.mpr c96
                       have c96b1 : ((rd t381 x21_6) != (wrap64 ((rd t368 x21_6) + (l0_1.length : Int)))) = true := bne_iff_ne.mpr c96
                       as_aux_lemma =>
                        obtain rfl := Option.some.inj H
                        obtain ⟨Ao98, co98, eo98⟩ := Kd.R_slice HO_19.out
                        subst eo98
                        have p385 : 0 ≤ (x21_6 : Int) := of_decide_eq_true (by first | (with_reducible assumption) | assumption)
                        have q385 : x21_6 < (t381.length : Int) := of_decide_eq_true (by first | (with_reducible assumption) | assumption)
                        obtain ⟨ad385, e385, hx385_0⟩ := Kd.at_int (Kd.R_reads' HO_19.out).2.2 x21_6 p385 q385
                        cases e385
                        replace p385 := eq_true p385
                        replace q385 := eq_true q385
                        have p386 : 0 ≤ (x21_6 : Int) := of_decide_eq_true (by first | (with_reducible assumption) | assumption)
                        have q386 : x21_6 < (t368.length : Int) := of_decide_eq_true (by first | (with_reducible assumption) | assumption)
                        obtain ⟨ad386, e386, hx386_0⟩ := Kd.at_int (Kd.R_reads' HO_7.out).2.2 x21_6 p386 q386
                        cases e386
                        replace p386 := eq_true p386
                        replace q386 := eq_true q386
                        go_wp2
                        repeat (go_quiet (fail); try go_wp2)
                        go_ret
                        exact ⟨by first | rfl | (simp [errW_none, errW_some] <;> rfl) | (simp [*, errW_none, errW_some] <;> rfl), by repeat (first | (with_reducible first | exact HB.out | apply below_alloc | apply pw_below_drewN | apply below_drew1 | refine below_set ?_ GE362.out) | exact HB.out)⟩
                     ·
                      rw [if_neg c95] at H
                      exact absurd H (by simp)
                    ·
                     rw [if_neg c94] at H
                     exact absurd H (by simp)
                   ·
                    rw [if_neg c93] at H
                    have c93b0 : decide (x21_6 < (t368.length : Int)) = false := decide_eq_false c93
                    clear c93
                    replace H := Option.bind_eq_some_iff.mp H
                    obtain ⟨t387, A990, H⟩ := H
                    replace H : (some t387) = some r := H
                    have A99 := Aside0.mk A990
                    clear A990
                    as_aux_lemma =>
                     obtain rfl := Option.some.inj H
                     go_wp2_with (first | (go_at_call 11; (with_reducible refine (tellurionlaw04_known.calls  t387 _ A99.out).mono ?_); rintro e w100 ⟨rfl, hb⟩; have n0_ := Aside0.mk (Kd.R_below (by (with_reducible repeat (first | apply Kd.R_alloc | apply Kd.R_drewN | apply Kd.R_drew)); exact HO_7.out) hb); have n1_ := Aside0.mk (Kd.R_below (by (with_reducible repeat (first | apply Kd.R_alloc | apply Kd.R_drewN | apply Kd.R_drew)); exact HO_19.out) hb); have n2_ := Aside0.mk (blk_below (g := gb362) (o := .cells #[.int .i64 a0_0, .slice A0_1 l0_1.length c0_1] 24 (0, 0)) (by (with_reducible repeat (first | refine blk_drewN ?_ _ | refine blk_drew ?_ | refine blk_alloc ?_ _)); exact BK362.out) hb); have n3_ := Aside0.mk (below_step (by repeat (first | (with_reducible first | exact HB.out | apply below_alloc | apply pw_below_drewN | apply below_drew1 | refine below_set ?_ GE362.out) | exact HB.out)) hb); clear HO_7; clear HO_19; clear BK362; clear HB; have HO_7 := n0_; have HO_19 := n1_; have BK362 := n2_; have HB := n3_; clear n0_ n1_ n2_ n3_; (try clear hb); (try clear hb2); (try clear hk); (try clear hi)))
                     repeat (go_quiet (first | (go_at_call 11; (with_reducible refine (tellurionlaw04_known.calls  t387 _ A99.out).mono ?_); rintro e w100 ⟨rfl, hb⟩; have n0_ := Aside0.mk (Kd.R_below (by (with_reducible repeat (first | apply Kd.R_alloc | apply Kd.R_drewN | apply Kd.R_drew)); exact HO_7.out) hb); have n1_ := Aside0.mk (Kd.R_below (by (with_reducible repeat (first | apply Kd.R_alloc | apply Kd.R_drewN | apply Kd.R_drew)); exact HO_19.out) hb); have n2_ := Aside0.mk (blk_below (g := gb362) (o := .cells #[.int .i64 a0_0, .slice A0_1 l0_1.length c0_1] 24 (0, 0)) (by (with_reducible repeat (first | refine blk_drewN ?_ _ | refine blk_drew ?_ | refine blk_alloc ?_ _)); exact BK362.out) hb); have n3_ := Aside0.mk (below_step (by repeat (first | (with_reducible first | exact HB.out | apply below_alloc | apply pw_below_drewN | apply below_drew1 | refine below_set ?_ GE362.out) | exact HB.out)) hb); clear HO_7; clear HO_19; clear BK362; clear HB; have HO_7 := n0_; have HO_19 := n1_; have BK362 := n2_; have HB := n3_; clear n0_ n1_ n2_ n3_; (try clear hb); (try clear hb2); (try clear hk); (try clear hi))); try go_wp2_with (first | (go_at_call 11; (with_reducible refine (tellurionlaw04_known.calls  t387 _ A99.out).mono ?_); rintro e w100 ⟨rfl, hb⟩; have n0_ := Aside0.mk (Kd.R_below (by (with_reducible repeat (first | apply Kd.R_alloc | apply Kd.R_drewN | apply Kd.R_drew)); exact HO_7.out) hb); have n1_ := Aside0.mk (Kd.R_below (by (with_reducible repeat (first | apply Kd.R_alloc | apply Kd.R_drewN | apply Kd.R_drew)); exact HO_19.out) hb); have n2_ := Aside0.mk (blk_below (g := gb362) (o := .cells #[.int .i64 a0_0, .slice A0_1 l0_1.length c0_1] 24 (0, 0)) (by (with_reducible repeat (first | refine blk_drewN ?_ _ | refine blk_drew ?_ | refine blk_alloc ?_ _)); exact BK362.out) hb); have n3_ := Aside0.mk (below_step (by repeat (first | (with_reducible first | exact HB.out | apply below_alloc | apply pw_below_drewN | apply below_drew1 | refine below_set ?_ GE362.out) | exact HB.out)) hb); clear HO_7; clear HO_19; clear BK362; clear HB; have HO_7 := n0_; have HO_19 := n1_; have BK362 := n2_; have HB := n3_; clear n0_ n1_ n2_ n3_; (try clear hb); (try clear hb2); (try clear hk); (try clear hi))))
                     go_ret
                     exact ⟨by first | rfl | (simp [errW_none, errW_some] <;> rfl) | (simp [*, errW_none, errW_some] <;> rfl), by repeat (first | (with_reducible first | exact HB.out | apply below_alloc | apply pw_below_drewN | apply below_drew1 | refine below_set ?_ GE362.out) | exact HB.out)⟩
             ·
              replace c84 := Bool.eq_false_iff.mpr c84
              subst c84
              have H1 : ((tellurionlaw04_known.f).bind fun t380 => (some t380)) = some r := by rw [if_neg (show ¬ (false = true) by decide)] at H; exact H
              clear H
              have H := H1
              clear H1
              replace H := Option.bind_eq_some_iff.mp H
              obtain ⟨t380, A1010, H⟩ := H
              replace H : (some t380) = some r := H
              have A101 := Aside0.mk A1010
              clear A1010
              as_aux_lemma =>
               obtain rfl := Option.some.inj H
               obtain ⟨Ao102, co102, eo102⟩ := Kd.R_slice HO_7.out
               subst eo102
               have hcz103_0 : wc.cell? ⟨gb362, 0, none⟩ = some (.int .i64 a0_0) := (blk_cell BK362.out 0).trans rfl
               have hcz103_1 : wc.cell? ⟨gb362, 1, none⟩ = some (.slice A0_1 l0_1.length c0_1) := (blk_cell BK362.out 1).trans rfl
               have hfz103_0 := blk_frozen BK362.out 0
               have hfz103_1 := blk_frozen BK362.out 1
               go_wp2_with (first | (go_at_call 14; (with_reducible refine (tr_Time.calls (wrap64 (a2 + (l0_1.length : Int))) false _ A83.out).mono ?_); rintro e w' ⟨rfl, ⟨nd, rfl⟩⟩; (try first | exact ⟨rfl, _, World.drewN_drewN _ _ _⟩ | exact ⟨rfl, _, Eq.trans (World.drewN_drewN _ _ _) (congrArg (World.drewN _) (Nat.add_assoc _ _ _))⟩)) | (go_at_call 11; (with_reducible refine (tellurionlaw04_known.calls  t380 _ A101.out).mono ?_); rintro e w104 ⟨rfl, hb⟩; have n0_ := Aside0.mk (Kd.R_below (by (with_reducible repeat (first | apply Kd.R_alloc | apply Kd.R_drewN | apply Kd.R_drew)); exact HO_7.out) hb); have n1_ := Aside0.mk (blk_below (g := gb362) (o := .cells #[.int .i64 a0_0, .slice A0_1 l0_1.length c0_1] 24 (0, 0)) (by (with_reducible repeat (first | refine blk_drewN ?_ _ | refine blk_drew ?_ | refine blk_alloc ?_ _)); exact BK362.out) hb); have n2_ := Aside0.mk (below_step (by repeat (first | (with_reducible first | exact HB.out | apply below_alloc | apply pw_below_drewN | apply below_drew1 | refine below_set ?_ GE362.out) | exact HB.out)) hb); clear HO_7; clear BK362; clear HB; have HO_7 := n0_; have BK362 := n1_; have HB := n2_; clear n0_ n1_ n2_; (try clear hb); (try clear hb2); (try clear hk); (try clear hi)))
               repeat (go_quiet (first | (go_at_call 14; (with_reducible refine (tr_Time.calls (wrap64 (a2 + (l0_1.length : Int))) false _ A83.out).mono ?_); rintro e w' ⟨rfl, ⟨nd, rfl⟩⟩; (try first | exact ⟨rfl, _, World.drewN_drewN _ _ _⟩ | exact ⟨rfl, _, Eq.trans (World.drewN_drewN _ _ _) (congrArg (World.drewN _) (Nat.add_assoc _ _ _))⟩)) | (go_at_call 11; (with_reducible refine (tellurionlaw04_known.calls  t380 _ A101.out).mono ?_); rintro e w104 ⟨rfl, hb⟩; have n0_ := Aside0.mk (Kd.R_below (by (with_reducible repeat (first | apply Kd.R_alloc | apply Kd.R_drewN | apply Kd.R_drew)); exact HO_7.out) hb); have n1_ := Aside0.mk (blk_below (g := gb362) (o := .cells #[.int .i64 a0_0, .slice A0_1 l0_1.length c0_1] 24 (0, 0)) (by (with_reducible repeat (first | refine blk_drewN ?_ _ | refine blk_drew ?_ | refine blk_alloc ?_ _)); exact BK362.out) hb); have n2_ := Aside0.mk (below_step (by repeat (first | (with_reducible first | exact HB.out | apply below_alloc | apply pw_below_drewN | apply below_drew1 | refine below_set ?_ GE362.out) | exact HB.out)) hb); clear HO_7; clear BK362; clear HB; have HO_7 := n0_; have BK362 := n1_; have HB := n2_; clear n0_ n1_ n2_; (try clear hb); (try clear hb2); (try clear hk); (try clear hi))); try go_wp2_with (first | (go_at_call 14; (with_reducible refine (tr_Time.calls (wrap64 (a2 + (l0_1.length : Int))) false _ A83.out).mono ?_); rintro e w' ⟨rfl, ⟨nd, rfl⟩⟩; (try first | exact ⟨rfl, _, World.drewN_drewN _ _ _⟩ | exact ⟨rfl, _, Eq.trans (World.drewN_drewN _ _ _) (congrArg (World.drewN _) (Nat.add_assoc _ _ _))⟩)) | (go_at_call 11; (with_reducible refine (tellurionlaw04_known.calls  t380 _ A101.out).mono ?_); rintro e w104 ⟨rfl, hb⟩; have n0_ := Aside0.mk (Kd.R_below (by (with_reducible repeat (first | apply Kd.R_alloc | apply Kd.R_drewN | apply Kd.R_drew)); exact HO_7.out) hb); have n1_ := Aside0.mk (blk_below (g := gb362) (o := .cells #[.int .i64 a0_0, .slice A0_1 l0_1.length c0_1] 24 (0, 0)) (by (with_reducible repeat (first | refine blk_drewN ?_ _ | refine blk_drew ?_ | refine blk_alloc ?_ _)); exact BK362.out) hb); have n2_ := Aside0.mk (below_step (by repeat (first | (with_reducible first | exact HB.out | apply below_alloc | apply pw_below_drewN | apply below_drew1 | refine below_set ?_ GE362.out) | exact HB.out)) hb); clear HO_7; clear BK362; clear HB; have HO_7 := n0_; have BK362 := n1_; have HB := n2_; clear n0_ n1_ n2_; (try clear hb); (try clear hb2); (try clear hk); (try clear hi))))
               go_ret
               exact ⟨by first | rfl | (simp [errW_none, errW_some] <;> rfl) | (simp [*, errW_none, errW_some] <;> rfl), by repeat (first | (with_reducible first | exact HB.out | apply below_alloc | apply pw_below_drewN | apply below_drew1 | refine below_set ?_ GE362.out) | exact HB.out)⟩
            ·
             rw [if_neg c82] at H
             have c82b0 : (x12_74 == (t368.length : Int)) = false := beq_eq_false_iff_ne.mpr c82
             have c82b1 : (x12_74 != (t368.length : Int)) = true := bne_iff_ne.mpr c82
             as_aux_lemma =>
              obtain rfl := Option.some.inj H
              obtain ⟨Ao105, co105, eo105⟩ := Kd.R_slice HO_7.out
              subst eo105
              go_wp2
              repeat (go_quiet (fail); try go_wp2)
              go_ret
              exact ⟨by first | rfl | (simp [errW_none, errW_some] <;> rfl) | (simp [*, errW_none, errW_some] <;> rfl), by repeat (first | (with_reducible first | exact HB.out | apply below_alloc | apply pw_below_drewN | apply below_drew1 | refine below_set ?_ GE362.out) | exact HB.out)⟩
end Go.Proofs.YtbjimmemcmjpcabGreatDoor.Print
end
section
namespace Go.Proofs.YtbjimmemcmjpcabGreatDoor.Print
open Go.RowKit YtbjimmemcmjpcabGreatDoorW.PrintWords YtbjimmemcmjpcabGreatDoorW.PrintLast YtbjimmemcmjpcabGreatDoorW.PrintMore
theorem camPlaceS_f (u : Int) (l : List Int) (t : Int) : cam_Place.f u l t = some (if isMotionB u l = true ∧ isTimeB t = true then (plc u l t, 0) else (0, 2)) := by
 unfold cam_Place.f
 rw [isMotion_f, isTime_f]
 simp only [Option.bind_some]
 by_cases hm : isMotionB u l = true
 ·
  by_cases ht : isTimeB t = true
  ·
   have hb := time_bd ht
   simp only [hm, ht, if_true, place_f hm hb.1 (by omega), Option.bind_some, and_self]
  ·
   simp only [hm, ht, if_true, if_false, Bool.false_eq_true, and_false]
 ·
  simp only [hm, if_false, Bool.false_eq_true, false_and]
theorem rd_of_drop {L : List Int} {i : Nat} {x : Int} {R : List Int} (h : L.drop i = x :: R) : i < L.length ∧ rd L (i : Int) = x ∧ L.drop (i + 1) = R := by
 have hi : i < L.length := by
  by_cases hc : i < L.length
  ·
   exact hc
  ·
   rw [List.drop_eq_nil_of_le (by omega)] at h; cases h
 rw [List.drop_eq_getElem_cons hi] at h
 injection h with h1 h2
 exact ⟨hi, by simp [rd, List.getD_eq_getElem?_getD, hi, h1], h2⟩
theorem rd_mem_drop (L : List Int) (i : Nat) (h : i < L.length) : rd L (i : Int) ∈ L.drop i := by
 rw [List.drop_eq_getElem_cons h, show rd L (i : Int) = L[i] by simp [rd, List.getD_eq_getElem?_getD, h]]
 exact List.mem_cons_self ..
theorem stood_l2 (n : Int) (L : List Int) (hl : L.length ≤ 100000) (hL : ∀ x ∈ L, 0 ≤ x ∧ x ≤ 100000) (hn : 0 ≤ n ∧ n ≤ 1000) : ∀ (q i : Nat), i + q = L.length → Ev (fun k => tl_CamStood.l2 k L n (L.map (· + n)) (i : Int)) true
 | 0, i, h => by
  refine Ev.step (f := fun _ => some true) (fun k => ?_) (Ev.now _)
  rw [tl_CamStood.l2, if_neg (by omega)]; rfl
 | q + 1, i, h => by
  have hi : i < L.length := by omega
  have hx := hL (rd L (i : Int)) (by simp [rd, List.getD_eq_getElem?_getD, hi])
  have e1 : rd (L.map (· + n)) (i : Int) = rd L (i : Int) + n := by simp [rd, List.getD_eq_getElem?_getD, hi]
  refine Ev.step (fun k => ?_) (stood_l2 n L hl hL hn q (i + 1) (by omega))
  rw [tl_CamStood.l2, if_pos (by omega), if_pos (by omega), if_pos (by rw [List.length_map]; omega), e1, w64 _ (by omega), if_pos rfl, w64 _ (by omega)]
  rfl
section
variable {u : Int} {l : List Int} {a b : Int} (hs : (l.length : Int) ≤ 27) (c1 : isMotionB u l = true) (c2 : isTimeB a = true) (c3 : isTimeB b = true) (c4 : a ≤ b)
include c1 c2 c3 c4
theorem stood_j9 : Ev (fun k => tl_CamStood.j9 k a b (stL u l a b) ((stL u l a b).length : Int) u l) true := by
 have hm := motion_len c1
 have ha := time_bd c2
 have hb := time_bd c3
 have hlen := stL_len u l a b
 have e1 : wrap64 (b + (l.length : Int)) = b + (l.length : Int) := w64 _ (by omega)
 have e2 : wrap64 (a + (l.length : Int)) = a + (l.length : Int) := w64 _ (by omega)
 cases ht : isTimeB (b + (l.length : Int)) with
 | false =>
  refine Ev.step (f := fun _ => some true) (fun k => ?_) (Ev.now _)
  rw [tl_CamStood.j9, if_pos rfl, e1, refTime_f, ht]; rfl
 | true =>
  have htb := time_bd ht
  have hst := evC_Stations u l (a + (l.length : Int)) (b + (l.length : Int))
  rw [if_pos ⟨c1, by simp [isTimeB]; omega, ht, by omega⟩, stL_turn c1 a b ha.1] at hst
  have hl2 := stood_l2 (l.length : Int) (stL u l a b) (by omega) (fun x hx => by have := mem_stL'.1 hx; omega) (by omega) (stL u l a b).length 0 (by omega)
  have h10 : Ev (fun k => tl_CamStood.j10 k (stL u l a b) (l.length : Int) ((stL u l a b).map (· + (l.length : Int))) false) true := by
   refine Ev.step (fun k => ?_) hl2
   rw [tl_CamStood.j10, if_neg (by simp)]
   rfl
  refine Ev.step (fun k => ?_) (Ev.bind (f := fun k (bt : List Int × Int) => if bt.2 = 0 then (tl_CamStood.j10 k (stL u l a b) (l.length : Int) bt.1 ((bt.1.length : Int) != ((stL u l a b).length : Int))) else (tl_CamStood.j10 k (stL u l a b) (l.length : Int) bt.1 true)) hst (Ev.congr (fun k => ?_) h10))
  ·
   rw [tl_CamStood.j9, if_pos rfl, e1, e2, refTime_f, ht]
   simp only [Option.bind_some, if_true]
  ·
   simp only [if_true, List.length_map, bne_self_eq_false]
theorem stood_l1 (i : Nat) (hi : i ≤ (stL u l a b).length) (hd : (stL u l a b).drop i = stL u l b b) : Ev (fun k => tl_CamStood.l1 k a b (stL u l a b) (i : Int) u l) true := by
 have hlen := stL_len u l a b
 have ha := time_bd c2
 have hb := time_bd c3
 have h9 := stood_j9 c1 c2 c3 c4
 have hend : Ev (fun k => tl_CamStood.l1 k a b (stL u l a b) ((stL u l a b).length : Int) u l) true := by
  refine Ev.step (fun k => ?_) h9
  rw [tl_CamStood.l1, if_neg (by omega)]
 rw [stL_cons u l b b (by omega), stL_nil u l (b + 1) b (by omega)] at hd
 by_cases hst : stationB u l b = true
 ·
  rw [if_pos hst] at hd
  obtain ⟨g1, g2, g3⟩ := rd_of_drop hd
  have hl : i + 1 = (stL u l a b).length := by
   have := List.length_drop (i := i + 1) (l := stL u l a b)
   rw [g3] at this
   simp at this; omega
  refine Ev.step (fun k => ?_) hend
  rw [tl_CamStood.l1, if_pos (by omega), if_pos (by omega), g2, if_pos rfl, w64 _ (by omega), show (i : Int) + 1 = ((stL u l a b).length : Int) by omega]
 ·
  rw [if_neg hst] at hd
  have hl : i = (stL u l a b).length := by
   have := List.length_drop (i := i) (l := stL u l a b)
   rw [hd] at this
   simp at this; omega
  rw [hl]; exact hend
def Went (u : Int) (l : List Int) (a t : Int) (fw bk : Bool) : Prop := (fw = false ∧ bk = false) ∨ ∃ i, (a ≤ i ∧ i < t) ∧ spd u l i ≠ 0 ∧ (∀ r, i < r → r < t → stationB u l r = false) ∧ fw = decide (0 < spd u l i) ∧ bk = decide (spd u l i < 0)
omit c2 c3 c4 in
theorem went_next {t : Int} {fw bk : Bool} (ha : 0 ≤ a) (hat : a ≤ t) (hw : Went u l a t fw bk) (hno : (fw = false ∧ bk = false) ∨ stationB u l t = false) :
  Went u l a (t + 1) (fw || decide (0 < spd u l t)) (bk || decide (spd u l t < 0)) ∧ ((fw || decide (0 < spd u l t)) && (bk || decide (spd u l t < 0))) = false := by
 by_cases hff : fw = false ∧ bk = false
 ·
  obtain ⟨rfl, rfl⟩ := hff
  by_cases hz : spd u l t = 0
  ·
   refine ⟨.inl ⟨by simp; omega, by simp; omega⟩, by simp; omega⟩
  ·
   refine ⟨.inr ⟨t, by omega, hz, fun r h1 h2 => by omega, by simp, by simp⟩, by simp; omega⟩
 ·
  have hst : stationB u l t = false := hno.resolve_left hff
  rcases hw with hw | ⟨i, hi, h1, h2, h3, h4⟩
  ·
   exact absurd hw hff
  ·
   have hss := same_sign c1 (i := i) (j := t) (by omega) (by omega) h1 (fun r h5 h6 => by
    by_cases e : r = t
    ·
     subst e; exact hst
    ·
     exact h2 r h5 (by omega))
   have hsg : (0 < spd u l t → 0 < spd u l i) ∧ (spd u l t < 0 → spd u l i < 0) := by
    rcases hss with h0 | h0
    ·
     exact ⟨fun h => by omega, fun h => by omega⟩
    ·
     exact ⟨fun h => by rw [(sgn_pos _).2 h] at h0; exact (sgn_pos _).1 h0.symm, fun h => by rw [(sgn_neg _).2 h] at h0; exact (sgn_neg _).1 h0.symm⟩
   have e3 : (fw || decide (0 < spd u l t)) = decide (0 < spd u l i) := by
    rw [h3]
    by_cases k : 0 < spd u l i
    ·
     simp [k]
    ·
     simp [k]; exact Int.not_lt.1 fun k2 => k (hsg.1 k2)
   have e4 : (bk || decide (spd u l t < 0)) = decide (spd u l i < 0) := by
    rw [h4]
    by_cases k : spd u l i < 0
    ·
     simp [k]
    ·
     simp [k]; exact Int.not_lt.1 fun k2 => k (hsg.2 k2)
   rw [e3, e4]
   refine ⟨.inr ⟨i, by omega, h1, fun r h5 h6 => ?_, rfl, rfl⟩, by simp; omega⟩
   by_cases e : r = t
   ·
    subst e; exact hst
   ·
    exact h2 r h5 (by omega)
theorem stood_l0 : ∀ (d : Nat) (t : Int) (i : Nat) (last : Int) (fw bk : Bool), d = (b - t).toNat → (a ≤ t ∧ t ≤ b) → i ≤ (stL u l a b).length → (stL u l a b).drop i = stL u l t b → last ≤ t → Went u l a t fw bk →
  Ev (fun k => tl_CamStood.l0 k a b (stL u l a b) last fw bk (i : Int) t u l) true
 | 0, t, i, last, fw, bk, hd, ht, hi, hdr, hla, hw => by
  obtain rfl : t = b := by omega
  refine Ev.step (fun k => ?_) (stood_l1 c1 c2 c3 c4 i hi hdr)
  rw [tl_CamStood.l0, if_neg (by omega)]
 | d + 1, t, i, last, fw, bk, hd, ht, hi, hdr, hla, hw => by
  have hta := time_bd c2
  have htb := time_bd c3
  have hlen := stL_len u l a b
  have ih := stood_l0 d (t + 1)
  have hp1 := camPlaceS_f u l t
  rw [if_pos ⟨c1, by simp [isTimeB]; omega⟩] at hp1
  have hp2 := camPlaceS_f u l (t + 1)
  rw [if_pos ⟨c1, by simp [isTimeB]; omega⟩] at hp2
  have hsp := spd_plc u l t (by omega)
  rw [stL_cons u l t b (by omega)] at hdr
  have hrest : ∀ (i' : Nat) (last' : Int) (f' b' : Bool), i' ≤ (stL u l a b).length → (stL u l a b).drop i' = stL u l (t + 1) b → last' ≤ t + 1 → Went u l a t f' b' → ((f' = false ∧ b' = false) ∨ stationB u l t = false) → Ev (fun k => tl_CamStood.j4 k a b (stL u l a b) last' f' b' (i' : Int) t u l) true := by
   intro i' last' f' b' g1 g2 g3 g4 g5
   obtain ⟨w1, w2⟩ := went_next c1 hta.1 ht.1 g4 g5
   have ih := ih i' last' _ _ (by omega) (by omega) g1 g2 g3 w1
   have efw : (f' || decide (0 < spd u l t)) = (f' || decide (plc u l (t + 1) > plc u l t)) := by congr 1; rw [hsp]; apply decide_eq_decide.2; omega
   have ebk : (b' || decide (spd u l t < 0)) = (b' || decide (plc u l (t + 1) < plc u l t)) := by congr 1; rw [hsp]; apply decide_eq_decide.2; omega
   rw [efw, ebk] at ih w2
   have e1 : wrap64 (t + 1) = t + 1 := w64 _ (by omega)
   have h7 : Ev (fun k => tl_CamStood.j7 k a b (stL u l a b) last' (f' || decide (plc u l (t + 1) > plc u l t)) (b' || decide (plc u l (t + 1) < plc u l t)) (i' : Int) t (plc u l t) (plc u l (t + 1)) false u l) true := by
    refine Ev.step (fun k => ?_) ih
    rw [tl_CamStood.j7, if_neg (by simp), e1]
    by_cases k1 : (i' : Int) < ((stL u l a b).length : Int)
    ·
     rw [if_pos k1, if_pos (by omega)]
     by_cases k2 : rd (stL u l a b) (i' : Int) = t + 1
     ·
      have hmem : t + 1 ∈ stL u l (t + 1) b := by
       have := rd_mem_drop (stL u l a b) i' (by omega)
       rwa [g2, k2] at this
      have := (station_is c1 (mem_stL'.1 hmem).2).1
      rw [show t + 1 - 1 = t by omega, hsp] at this
      rw [if_pos k2, if_neg (by omega)]
     ·
      rw [if_neg k2]
    ·
     rw [if_neg k1]
   have h6 : Ev (fun k => tl_CamStood.j6 k a b (stL u l a b) last' (f' || decide (plc u l (t + 1) > plc u l t)) (b' || decide (plc u l (t + 1) < plc u l t)) (i' : Int) t (plc u l t) (plc u l (t + 1)) u l) true := by
    generalize hF : (f' || decide (plc u l (t + 1) > plc u l t)) = F at h7 w2
    generalize hB : (b' || decide (plc u l (t + 1) < plc u l t)) = B at h7 w2
    refine Ev.step (fun k => ?_) h7
    rw [tl_CamStood.j6]
    cases F with
    | true => rw [if_pos rfl]; rw [Bool.true_and] at w2; rw [w2]
    | false => rw [if_neg (by simp)]
   have h5 : Ev (fun k => tl_CamStood.j5 k a b (stL u l a b) last' f' b' (i' : Int) t (plc u l t) (plc u l (t + 1)) false u l) true := by
    refine Ev.step (fun k => ?_) h6
    rw [tl_CamStood.j5, if_neg (by simp)]
    cases f' with
    | true => cases b' with
     | true => rw [if_pos rfl, if_pos rfl]; rfl
     | false => rw [if_pos rfl, if_neg (by simp)]; rfl
    | false => cases b' with
     | true => rw [if_neg (by simp), if_pos rfl]; rw [Bool.false_or, Bool.true_or]
     | false => rw [if_neg (by simp), if_neg (by simp), Bool.false_or, Bool.false_or]
   refine Ev.step (fun k => ?_) h5
   rw [tl_CamStood.j4, e1, hp1, hp2]
   simp only [Option.bind_some, if_true, bne_self_eq_false]
  by_cases hst : stationB u l t = true
  ·
   rw [if_pos hst] at hdr
   obtain ⟨g1, g2, g3⟩ := rd_of_drop hdr
   have h4 := hrest (i + 1) t false false (by omega) g3 (by omega) (.inl ⟨rfl, rfl⟩) (.inl ⟨rfl, rfl⟩)
   have h3 : Ev (fun k => tl_CamStood.j3 k a b (stL u l a b) last fw bk (i : Int) t true u l) true := by
    refine Ev.step (fun k => ?_) h4
    rw [tl_CamStood.j3, if_pos rfl, if_neg (by omega), w64 _ (by omega)]
    rfl
   refine Ev.step (fun k => ?_) h3
   rw [tl_CamStood.l0, if_pos (by omega), if_pos (by omega), if_pos (by omega), g2, beq_self_eq_true]
  ·
   rw [if_neg hst] at hdr
   have hst' : stationB u l t = false := by simpa using hst
   have h4 := hrest i last fw bk hi hdr (by omega) hw (.inr hst')
   have h3 : Ev (fun k => tl_CamStood.j3 k a b (stL u l a b) last fw bk (i : Int) t false u l) true := by
    refine Ev.step (fun k => ?_) h4
    rw [tl_CamStood.j3, if_neg (by simp)]
   refine Ev.step (fun k => ?_) h3
   rw [tl_CamStood.l0, if_pos (by omega)]
   by_cases k1 : (i : Int) < ((stL u l a b).length : Int)
   ·
    have hne : rd (stL u l a b) (i : Int) ≠ t := by
     have hmem : rd (stL u l a b) (i : Int) ∈ stL u l (t + 1) b := by
      have := rd_mem_drop (stL u l a b) i (by omega)
      rwa [hdr] at this
     have := mem_stL'.1 hmem
     omega
    rw [if_pos k1, if_pos (by omega), beq_eq_false_iff_ne.2 hne]
   ·
    rw [if_neg k1]
theorem stood_j0 : Ev (fun k => tl_CamStood.j0 k a b false u l) true := by
 have ha := time_bd c2
 have hb := time_bd c3
 have hlen := stL_len u l a b
 have hl0 := stood_l0 c1 c2 c3 c4 (b - a).toNat a 0 a false false rfl (by omega) (by omega) (by simp) (by omega) (.inl ⟨rfl, rfl⟩)
 have h1 : Ev (fun k => tl_CamStood.j1 k a b (stL u l a b) false u l) true := by
  refine Ev.step (fun k => ?_) hl0
  rw [tl_CamStood.j1, if_neg (by simp)]
  rfl
 have hst := evC_Stations u l a b
 rw [if_pos ⟨c1, c2, c3, c4⟩] at hst
 refine Ev.step (fun k => ?_) (Ev.bind (f := fun k (bt : List Int × Int) => if bt.2 = 0 then (tl_CamStood.j1 k a b bt.1 (decide ((bt.1.length : Int) > (wrap64 ((wrap64 (b - a)) + 1)))) u l) else (tl_CamStood.j1 k a b bt.1 true u l)) hst (Ev.congr (fun k => ?_) h1))
 ·
  rw [tl_CamStood.j0, if_neg (by simp)]
 ·
  simp only [if_true]
  rw [w64 (b - a) (by omega), w64 _ (by omega), decide_eq_false (by omega)]
end
theorem camStood_pure (u : Int) (l : List Int) (a b : Int) (hu : (Lit.int .i64 u).wf = true) (hm : l.length ≤ maxLen) (hw : ∀ x ∈ l, (Lit.int .i64 x).wf = true) (ha : (Lit.int .i64 a).wf = true) (hb : (Lit.int .i64 b).wf = true) :
  ∃ k, tl_CamStood.f k u l a b = some true := by
 clear hu hm hw ha hb
 have ej : ∀ k, tl_CamStood.j0 (k + 1) a b true u l = some true := fun k => by simp only [tl_CamStood.j0, if_true, tellurionlaw04_known.f, Option.bind_some]
 by_cases hs : (l.length : Int) ≤ 27
 case neg => exact ⟨1, by unfold tl_CamStood.f tl_slim.f; simp only [Option.bind_some, hs, decide_false, Bool.false_eq_true, if_false, ej 0]⟩
 obtain ⟨K1, h1⟩ := evR_motion u l (by omega)
 by_cases g : isMotionB u l = true ∧ isTimeB a = true ∧ isTimeB b = true ∧ a ≤ b
 ·
  obtain ⟨c1, c2, c3, c4⟩ := g
  obtain ⟨K2, h2⟩ := stood_j0 c1 c2 c3 c4
  refine ⟨K1 + K2, ?_⟩
  have e1 := h1 (K1 + K2) (by omega)
  have e2 := h2 (K1 + K2) (by omega)
  simp only [] at e1 e2
  unfold tl_CamStood.f tl_slim.f
  simp only [Option.bind_some, hs, decide_true, if_true, e1, c1, refTime_f, c2, c3]
  rw [decide_eq_false (by omega), e2]
 ·
  refine ⟨K1 + 1, ?_⟩
  have e1 := h1 (K1 + 1) (by omega)
  simp only [] at e1
  have e3 := ej K1
  unfold tl_CamStood.f tl_slim.f
  simp only [Option.bind_some, hs, decide_true, if_true, e1, refTime_f]
  cases c1 : isMotionB u l with
  | false => simp only [Bool.false_eq_true, if_false, e3]
  | true =>
   cases c2 : isTimeB a with
   | false => simp only [Bool.false_eq_true, if_false, if_true, e3]
   | true =>
    cases c3 : isTimeB b with
    | false => simp only [Bool.false_eq_true, if_false, if_true, e3]
    | true =>
     have : decide (b < a) = true := decide_eq_true (Int.not_le.1 fun h => g ⟨c1, c2, c3, h⟩)
     simp only [if_true, this, e3]
end Go.Proofs.YtbjimmemcmjpcabGreatDoor.Print
end

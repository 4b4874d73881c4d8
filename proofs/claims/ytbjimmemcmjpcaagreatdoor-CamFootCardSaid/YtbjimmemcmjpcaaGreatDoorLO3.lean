/- The law's Go function answers true for every input, and leaves its arguments as they were: its parts, the plain law, the row, the card. Joined by wip/pack.py. -/
import Derived.Test.YtbjimmemcmjpcaaGreatDoorB3
import Derived.Test.YtbjimmemcmjpcaaGreatDoorLO1
import Derived.Test.YtbjimmemcmjpcaaGreatDoorB4
import Derived.Test.YtbjimmemcmjpcaaGreatDoorB20
import Derived.Test.YtbjimmemcmjpcaaGreatDoorLO2
section
namespace Go.Proofs.YtbjimmemcmjpcaaGreatDoor.Print
open Go.RowKit Go.Proofs.YtbjimmemcmjpcaaGreatDoorW.PrintWords Go.Proofs.YtbjimmemcmjpcaaGreatDoorW.PrintLast Go.Proofs.YtbjimmemcmjpcaaGreatDoorW.PrintMore
attribute [local go_sem] max2_int min2_int max_two min_two max_three min_three max_four min_four
set_option linter.unusedVariables false
set_option linter.unusedSimpArgs false
mutual
def tellurionlaw04_CamFoot.j0 : Nat → List Int → List Int → Int → Int → Int → Bool → Option (Bool)
  | 0, _, _, _, _, _, _ => none
  | k + 1, x0, x1, x2, x3, x4, x65 => if x65 = true then ((tellurionlaw04_known.f).bind fun t502 => (some t502)) else ((cam_Follow.f x0 x2).bind fun bt503 => ((cam_Follow.f x1 x2).bind fun bt507 => ((tellurionref04_Turn.f k x0 x4).bind fun t511 => ((cam_Follow.f t511 x2).bind fun bt514 => (if bt503.2 = 0 then (if bt507.2 = 0 then (if bt514.2 = 0 then ((tellurionref04_Cam.f k bt503.1).bind fun t518 => (if t518 = true then (if (bt503.1.length : Int) = (x0.length : Int) then ((tellurionlaw04_below.f k x0 bt503.1).bind fun t519 => (if t519 = true then ((tellurionref04_Greatest.f k bt503.1).bind fun t520 => ((tellurionref04_Greatest.f k x0).bind fun t521 => (if t520 = t521 then ((tellurionref04_Turn.f k bt503.1 x4).bind fun t522 => ((tellurionref04_Same.f k bt514.1 t522).bind fun t525 => (tellurionlaw04_CamFoot.j1 k x0 x1 x2 x3 bt503.1 bt507.1 (!t525)))) else (tellurionlaw04_CamFoot.j1 k x0 x1 x2 x3 bt503.1 bt507.1 true)))) else (tellurionlaw04_CamFoot.j1 k x0 x1 x2 x3 bt503.1 bt507.1 true))) else (tellurionlaw04_CamFoot.j1 k x0 x1 x2 x3 bt503.1 bt507.1 true)) else (tellurionlaw04_CamFoot.j1 k x0 x1 x2 x3 bt503.1 bt507.1 true))) else (tellurionlaw04_CamFoot.j1 k x0 x1 x2 x3 bt503.1 bt507.1 true)) else (tellurionlaw04_CamFoot.j1 k x0 x1 x2 x3 bt503.1 bt507.1 true)) else (tellurionlaw04_CamFoot.j1 k x0 x1 x2 x3 bt503.1 bt507.1 true))))))
def tellurionlaw04_CamFoot.j1 : Nat → List Int → List Int → Int → Int → List Int → List Int → Bool → Option (Bool)
  | 0, _, _, _, _, _, _, _ => none
  | k + 1, x0, x1, x2, x3, x11, x13, x129 => if x129 = true then (some false) else ((tellurionlaw04_below.f k x0 x1).bind fun t526 => (if t526 = true then ((tellurionlaw04_below.f k x11 x13).bind fun t527 => (tellurionlaw04_CamFoot.j2 k x0 x2 x3 x11 (!t527))) else (tellurionlaw04_CamFoot.j2 k x0 x2 x3 x11 false)))
def tellurionlaw04_CamFoot.j2 : Nat → List Int → Int → Int → List Int → Bool → Option (Bool)
  | 0, _, _, _, _, _ => none
  | k + 1, x0, x2, x3, x11, x138 => if x138 = true then (some false) else ((cam_Follow.f x11 x3).bind fun bt528 => (if bt528.2 = 0 then (tellurionlaw04_CamFoot.j3 k x0 x2 x3 x11 bt528.1 bt528.2 (decide ((wrap64 (x2 + x3)) > 5))) else (tellurionlaw04_CamFoot.j3 k x0 x2 x3 x11 bt528.1 bt528.2 true)))
def tellurionlaw04_CamFoot.j3 : Nat → List Int → Int → Int → List Int → List Int → Int → Bool → Option (Bool)
  | 0, _, _, _, _, _, _, _ => none
  | k + 1, x0, x2, x3, x11, x17, x18, x152 => if x152 = true then (if x18 = 0 then ((tellurionlaw04_known.f).bind fun t532 => (some t532)) else (some false)) else ((cam_Follow.f x0 (wrap64 (x2 + x3))).bind fun bt533 => (if bt533.2 = 0 then ((tellurionref04_Same.f k x17 bt533.1).bind fun t537 => (if t537 = true then ((tellurionlaw04_below.f k x11 bt533.1).bind fun t538 => (if t538 = true then ((tellurionlaw04_known.f).bind fun t539 => (some t539)) else (some false))) else (some false))) else (some false)))
end
def tellurionlaw04_CamFoot.f (k : Nat) (l0 : List Int) (l1 : List Int) (a2 : Int) (a3 : Int) (a4 : Int) : Option (Bool) := (tellurionlaw04_short.f l0).bind fun t496 => (if t496 = true then ((tellurionlaw04_short.f l1).bind fun t497 => (if t497 = true then ((tellurionref04_Cam.f k l0).bind fun t498 => (if t498 = true then ((tellurionref04_Cam.f k l1).bind fun t499 => (if t499 = true then (if (l1.length : Int) = (l0.length : Int) then ((tellurionref04_Foot.f a2).bind fun t500 => (if t500 = true then ((tellurionref04_Foot.f a3).bind fun t501 => (if t501 = true then (if a4 < 0 then (tellurionlaw04_CamFoot.j0 k l0 l1 a2 a3 a4 true) else (tellurionlaw04_CamFoot.j0 k l0 l1 a2 a3 a4 (decide (a4 ≥ (l0.length : Int))))) else (tellurionlaw04_CamFoot.j0 k l0 l1 a2 a3 a4 true))) else (tellurionlaw04_CamFoot.j0 k l0 l1 a2 a3 a4 true))) else (tellurionlaw04_CamFoot.j0 k l0 l1 a2 a3 a4 true)) else (tellurionlaw04_CamFoot.j0 k l0 l1 a2 a3 a4 true))) else (tellurionlaw04_CamFoot.j0 k l0 l1 a2 a3 a4 true))) else (tellurionlaw04_CamFoot.j0 k l0 l1 a2 a3 a4 true))) else (tellurionlaw04_CamFoot.j0 k l0 l1 a2 a3 a4 true))
theorem tellurionlaw04_CamFoot.mono_l : ∀ k, (∀ y0 y1 y2 y3 y4 y5, LeO (tellurionlaw04_CamFoot.j0 k y0 y1 y2 y3 y4 y5) (tellurionlaw04_CamFoot.j0 (k + 1) y0 y1 y2 y3 y4 y5)) ∧ (∀ y0 y1 y2 y3 y4 y5 y6, LeO (tellurionlaw04_CamFoot.j1 k y0 y1 y2 y3 y4 y5 y6) (tellurionlaw04_CamFoot.j1 (k + 1) y0 y1 y2 y3 y4 y5 y6)) ∧ (∀ y0 y1 y2 y3 y4, LeO (tellurionlaw04_CamFoot.j2 k y0 y1 y2 y3 y4) (tellurionlaw04_CamFoot.j2 (k + 1) y0 y1 y2 y3 y4)) ∧ (∀ y0 y1 y2 y3 y4 y5 y6, LeO (tellurionlaw04_CamFoot.j3 k y0 y1 y2 y3 y4 y5 y6) (tellurionlaw04_CamFoot.j3 (k + 1) y0 y1 y2 y3 y4 y5 y6))
  | 0 => ⟨fun _ _ _ _ _ _ r h => by simp [tellurionlaw04_CamFoot.j0] at h, fun _ _ _ _ _ _ _ r h => by simp [tellurionlaw04_CamFoot.j1] at h, fun _ _ _ _ _ r h => by simp [tellurionlaw04_CamFoot.j2] at h, fun _ _ _ _ _ _ _ r h => by simp [tellurionlaw04_CamFoot.j3] at h⟩
  | k + 1 => by
    obtain ⟨ih0, ih1, ih2, ih3⟩ := tellurionlaw04_CamFoot.mono_l k
    refine ⟨?_, ?_, ?_, ?_⟩
    · intro y0 y1 y2 y3 y4 y5
      unfold tellurionlaw04_CamFoot.j0
      repeat' first
      | (with_reducible exact ih0 _ _ _ _ _ _)
      | (with_reducible exact ih1 _ _ _ _ _ _ _)
      | (with_reducible exact ih2 _ _ _ _ _)
      | (with_reducible exact ih3 _ _ _ _ _ _ _)
      | (with_reducible exact tellurionlaw04_below.mono _ _ _)
      | (with_reducible exact tellurionref04_Cam.mono _ _)
      | (with_reducible exact tellurionref04_Greatest.mono _ _)
      | (with_reducible exact tellurionref04_Same.mono _ _ _)
      | (with_reducible exact tellurionref04_Turn.mono _ _ _)
      | (with_reducible exact LeO.refl _)
      | (with_reducible exact LeO.none _)
      | (with_reducible refine LeO.ite ?_ ?_)
      | (with_reducible refine LeO.bind ?_ (fun _ => ?_))
      | exact ih0 _ _ _ _ _ _
      | exact ih1 _ _ _ _ _ _ _
      | exact ih2 _ _ _ _ _
      | exact ih3 _ _ _ _ _ _ _
      | exact tellurionlaw04_below.mono _ _ _
      | exact tellurionref04_Cam.mono _ _
      | exact tellurionref04_Greatest.mono _ _
      | exact tellurionref04_Same.mono _ _ _
      | exact tellurionref04_Turn.mono _ _ _
      | exact LeO.none _
      | refine LeO.ite ?_ ?_
      | refine LeO.bind ?_ (fun _ => ?_)
    · intro y0 y1 y2 y3 y4 y5 y6
      unfold tellurionlaw04_CamFoot.j1
      repeat' first
      | (with_reducible exact ih0 _ _ _ _ _ _)
      | (with_reducible exact ih1 _ _ _ _ _ _ _)
      | (with_reducible exact ih2 _ _ _ _ _)
      | (with_reducible exact ih3 _ _ _ _ _ _ _)
      | (with_reducible exact tellurionlaw04_below.mono _ _ _)
      | (with_reducible exact tellurionref04_Cam.mono _ _)
      | (with_reducible exact tellurionref04_Greatest.mono _ _)
      | (with_reducible exact tellurionref04_Same.mono _ _ _)
      | (with_reducible exact tellurionref04_Turn.mono _ _ _)
      | (with_reducible exact LeO.refl _)
      | (with_reducible exact LeO.none _)
      | (with_reducible refine LeO.ite ?_ ?_)
      | (with_reducible refine LeO.bind ?_ (fun _ => ?_))
      | exact ih0 _ _ _ _ _ _
      | exact ih1 _ _ _ _ _ _ _
      | exact ih2 _ _ _ _ _
      | exact ih3 _ _ _ _ _ _ _
      | exact tellurionlaw04_below.mono _ _ _
      | exact tellurionref04_Cam.mono _ _
      | exact tellurionref04_Greatest.mono _ _
      | exact tellurionref04_Same.mono _ _ _
      | exact tellurionref04_Turn.mono _ _ _
      | exact LeO.none _
      | refine LeO.ite ?_ ?_
      | refine LeO.bind ?_ (fun _ => ?_)
    · intro y0 y1 y2 y3 y4
      unfold tellurionlaw04_CamFoot.j2
      repeat' first
      | (with_reducible exact ih0 _ _ _ _ _ _)
      | (with_reducible exact ih1 _ _ _ _ _ _ _)
      | (with_reducible exact ih2 _ _ _ _ _)
      | (with_reducible exact ih3 _ _ _ _ _ _ _)
      | (with_reducible exact tellurionlaw04_below.mono _ _ _)
      | (with_reducible exact tellurionref04_Cam.mono _ _)
      | (with_reducible exact tellurionref04_Greatest.mono _ _)
      | (with_reducible exact tellurionref04_Same.mono _ _ _)
      | (with_reducible exact tellurionref04_Turn.mono _ _ _)
      | (with_reducible exact LeO.refl _)
      | (with_reducible exact LeO.none _)
      | (with_reducible refine LeO.ite ?_ ?_)
      | (with_reducible refine LeO.bind ?_ (fun _ => ?_))
      | exact ih0 _ _ _ _ _ _
      | exact ih1 _ _ _ _ _ _ _
      | exact ih2 _ _ _ _ _
      | exact ih3 _ _ _ _ _ _ _
      | exact tellurionlaw04_below.mono _ _ _
      | exact tellurionref04_Cam.mono _ _
      | exact tellurionref04_Greatest.mono _ _
      | exact tellurionref04_Same.mono _ _ _
      | exact tellurionref04_Turn.mono _ _ _
      | exact LeO.none _
      | refine LeO.ite ?_ ?_
      | refine LeO.bind ?_ (fun _ => ?_)
    · intro y0 y1 y2 y3 y4 y5 y6
      unfold tellurionlaw04_CamFoot.j3
      repeat' first
      | (with_reducible exact ih0 _ _ _ _ _ _)
      | (with_reducible exact ih1 _ _ _ _ _ _ _)
      | (with_reducible exact ih2 _ _ _ _ _)
      | (with_reducible exact ih3 _ _ _ _ _ _ _)
      | (with_reducible exact tellurionlaw04_below.mono _ _ _)
      | (with_reducible exact tellurionref04_Cam.mono _ _)
      | (with_reducible exact tellurionref04_Greatest.mono _ _)
      | (with_reducible exact tellurionref04_Same.mono _ _ _)
      | (with_reducible exact tellurionref04_Turn.mono _ _ _)
      | (with_reducible exact LeO.refl _)
      | (with_reducible exact LeO.none _)
      | (with_reducible refine LeO.ite ?_ ?_)
      | (with_reducible refine LeO.bind ?_ (fun _ => ?_))
      | exact ih0 _ _ _ _ _ _
      | exact ih1 _ _ _ _ _ _ _
      | exact ih2 _ _ _ _ _
      | exact ih3 _ _ _ _ _ _ _
      | exact tellurionlaw04_below.mono _ _ _
      | exact tellurionref04_Cam.mono _ _
      | exact tellurionref04_Greatest.mono _ _
      | exact tellurionref04_Same.mono _ _ _
      | exact tellurionref04_Turn.mono _ _ _
      | exact LeO.none _
      | refine LeO.ite ?_ ?_
      | refine LeO.bind ?_ (fun _ => ?_)
theorem tellurionlaw04_CamFoot.mono : ∀ a0 a1 a2 a3 a4 k, LeO (tellurionlaw04_CamFoot.f k a0 a1 a2 a3 a4) (tellurionlaw04_CamFoot.f (k + 1) a0 a1 a2 a3 a4) := by
  intro a0 a1 a2 a3 a4 k
  obtain ⟨ih0, ih1, ih2, ih3⟩ := tellurionlaw04_CamFoot.mono_l k
  unfold tellurionlaw04_CamFoot.f
  repeat' first
      | (with_reducible exact ih0 _ _ _ _ _ _)
      | (with_reducible exact ih1 _ _ _ _ _ _ _)
      | (with_reducible exact ih2 _ _ _ _ _)
      | (with_reducible exact ih3 _ _ _ _ _ _ _)
      | (with_reducible exact tellurionlaw04_below.mono _ _ _)
      | (with_reducible exact tellurionref04_Cam.mono _ _)
      | (with_reducible exact tellurionref04_Greatest.mono _ _)
      | (with_reducible exact tellurionref04_Same.mono _ _ _)
      | (with_reducible exact tellurionref04_Turn.mono _ _ _)
      | (with_reducible exact LeO.refl _)
      | (with_reducible exact LeO.none _)
      | (with_reducible refine LeO.ite ?_ ?_)
      | (with_reducible refine LeO.bind ?_ (fun _ => ?_))
      | exact ih0 _ _ _ _ _ _
      | exact ih1 _ _ _ _ _ _ _
      | exact ih2 _ _ _ _ _
      | exact ih3 _ _ _ _ _ _ _
      | exact tellurionlaw04_below.mono _ _ _
      | exact tellurionref04_Cam.mono _ _
      | exact tellurionref04_Greatest.mono _ _
      | exact tellurionref04_Same.mono _ _ _
      | exact tellurionref04_Turn.mono _ _ _
      | exact LeO.none _
      | refine LeO.ite ?_ ?_
      | refine LeO.bind ?_ (fun _ => ?_)
set_option maxHeartbeats 8000000 in
set_option maxRecDepth 100000 in
theorem tellurionlaw04_CamFoot.calls (k : Nat) (A0 : Option Addr) (c0 : Nat) (l0 : List Int) (A1 : Option Addr) (c1 : Nat) (l1 : List Int) (a2 : Int) (a3 : Int) (a4 : Int) (r : Bool) (w : World) (hr0 : Kd.C (Kd.int .i64) w A0 l0.length l0) (hc0 : l0.length ≤ c0) (hr1 : Kd.C (Kd.int .i64) w A1 l1.length l1) (hc1 : l1.length ≤ c1) (h : tellurionlaw04_CamFoot.f k l0 l1 a2 a3 a4 = some r) :
    Calls Tryz.prog 8 #[.slice A0 l0.length c0, .slice A1 l1.length c1, .int .i64 a2, .int .i64 a3, .int .i64 a4] w fun e w' => e = .returned (.bool r) ∧ Below w.heap.size w w' := by
  have HR0 := Aside0.mk hr0
  have HC0 := Aside0.mk hc0
  clear hr0 hc0
  have HR1 := Aside0.mk hr1
  have HC1 := Aside0.mk hc1
  clear hr1 hc1
  have HB := Aside0.mk (Below.refl w.heap.size w)
  have H : ((tellurionlaw04_short.f l0).bind fun t496 => (if t496 = true then ((tellurionlaw04_short.f l1).bind fun t497 => (if t497 = true then ((tellurionref04_Cam.f k l0).bind fun t498 => (if t498 = true then ((tellurionref04_Cam.f k l1).bind fun t499 => (if t499 = true then (if (l1.length : Int) = (l0.length : Int) then ((tellurionref04_Foot.f a2).bind fun t500 => (if t500 = true then ((tellurionref04_Foot.f a3).bind fun t501 => (if t501 = true then (if a4 < 0 then (tellurionlaw04_CamFoot.j0 k l0 l1 a2 a3 a4 true) else (tellurionlaw04_CamFoot.j0 k l0 l1 a2 a3 a4 (decide (a4 ≥ (l0.length : Int))))) else (tellurionlaw04_CamFoot.j0 k l0 l1 a2 a3 a4 true))) else (tellurionlaw04_CamFoot.j0 k l0 l1 a2 a3 a4 true))) else (tellurionlaw04_CamFoot.j0 k l0 l1 a2 a3 a4 true)) else (tellurionlaw04_CamFoot.j0 k l0 l1 a2 a3 a4 true))) else (tellurionlaw04_CamFoot.j0 k l0 l1 a2 a3 a4 true))) else (tellurionlaw04_CamFoot.j0 k l0 l1 a2 a3 a4 true))) else (tellurionlaw04_CamFoot.j0 k l0 l1 a2 a3 a4 true))) = some r := h
  clear h
  have HC6 := Aside0.mk H
  clear H
  go_enter Tryz.func8, Tryz.ntmps8
  go_upto_region 1 with (fail)
  go_cut [65] (fun v65 wc => ∃ (kq : Nat) (x65_5 : Bool), v65 = .bool x65_5 ∧ Aside0 (tellurionlaw04_CamFoot.j0 kq l0 l1 a2 a3 a4 x65_5 = some r) ∧ Aside0 (kq ≤ k) ∧ Aside0 (Below w.heap.size w wc))
  case first =>
    have H := HC6.out
    clear HC6
    replace H := Option.bind_eq_some_iff.mp H
    obtain ⟨t496, A70, H⟩ := H
    replace H : (if t496 = true then ((tellurionlaw04_short.f l1).bind fun t497 => (if t497 = true then ((tellurionref04_Cam.f k l0).bind fun t498 => (if t498 = true then ((tellurionref04_Cam.f k l1).bind fun t499 => (if t499 = true then (if (l1.length : Int) = (l0.length : Int) then ((tellurionref04_Foot.f a2).bind fun t500 => (if t500 = true then ((tellurionref04_Foot.f a3).bind fun t501 => (if t501 = true then (if a4 < 0 then (tellurionlaw04_CamFoot.j0 k l0 l1 a2 a3 a4 true) else (tellurionlaw04_CamFoot.j0 k l0 l1 a2 a3 a4 (decide (a4 ≥ (l0.length : Int))))) else (tellurionlaw04_CamFoot.j0 k l0 l1 a2 a3 a4 true))) else (tellurionlaw04_CamFoot.j0 k l0 l1 a2 a3 a4 true))) else (tellurionlaw04_CamFoot.j0 k l0 l1 a2 a3 a4 true)) else (tellurionlaw04_CamFoot.j0 k l0 l1 a2 a3 a4 true))) else (tellurionlaw04_CamFoot.j0 k l0 l1 a2 a3 a4 true))) else (tellurionlaw04_CamFoot.j0 k l0 l1 a2 a3 a4 true))) else (tellurionlaw04_CamFoot.j0 k l0 l1 a2 a3 a4 true)) = some r := H
    have A7 := Aside0.mk A70
    clear A70
    by_cases c8 : t496 = true
    · subst c8
      have H1 : ((tellurionlaw04_short.f l1).bind fun t497 => (if t497 = true then ((tellurionref04_Cam.f k l0).bind fun t498 => (if t498 = true then ((tellurionref04_Cam.f k l1).bind fun t499 => (if t499 = true then (if (l1.length : Int) = (l0.length : Int) then ((tellurionref04_Foot.f a2).bind fun t500 => (if t500 = true then ((tellurionref04_Foot.f a3).bind fun t501 => (if t501 = true then (if a4 < 0 then (tellurionlaw04_CamFoot.j0 k l0 l1 a2 a3 a4 true) else (tellurionlaw04_CamFoot.j0 k l0 l1 a2 a3 a4 (decide (a4 ≥ (l0.length : Int))))) else (tellurionlaw04_CamFoot.j0 k l0 l1 a2 a3 a4 true))) else (tellurionlaw04_CamFoot.j0 k l0 l1 a2 a3 a4 true))) else (tellurionlaw04_CamFoot.j0 k l0 l1 a2 a3 a4 true)) else (tellurionlaw04_CamFoot.j0 k l0 l1 a2 a3 a4 true))) else (tellurionlaw04_CamFoot.j0 k l0 l1 a2 a3 a4 true))) else (tellurionlaw04_CamFoot.j0 k l0 l1 a2 a3 a4 true))) = some r := by rw [if_pos rfl] at H; exact H
      clear H
      have H := H1
      clear H1
      replace H := Option.bind_eq_some_iff.mp H
      obtain ⟨t497, A90, H⟩ := H
      replace H : (if t497 = true then ((tellurionref04_Cam.f k l0).bind fun t498 => (if t498 = true then ((tellurionref04_Cam.f k l1).bind fun t499 => (if t499 = true then (if (l1.length : Int) = (l0.length : Int) then ((tellurionref04_Foot.f a2).bind fun t500 => (if t500 = true then ((tellurionref04_Foot.f a3).bind fun t501 => (if t501 = true then (if a4 < 0 then (tellurionlaw04_CamFoot.j0 k l0 l1 a2 a3 a4 true) else (tellurionlaw04_CamFoot.j0 k l0 l1 a2 a3 a4 (decide (a4 ≥ (l0.length : Int))))) else (tellurionlaw04_CamFoot.j0 k l0 l1 a2 a3 a4 true))) else (tellurionlaw04_CamFoot.j0 k l0 l1 a2 a3 a4 true))) else (tellurionlaw04_CamFoot.j0 k l0 l1 a2 a3 a4 true)) else (tellurionlaw04_CamFoot.j0 k l0 l1 a2 a3 a4 true))) else (tellurionlaw04_CamFoot.j0 k l0 l1 a2 a3 a4 true))) else (tellurionlaw04_CamFoot.j0 k l0 l1 a2 a3 a4 true)) = some r := H
      have A9 := Aside0.mk A90
      clear A90
      by_cases c10 : t497 = true
      · subst c10
        have H1 : ((tellurionref04_Cam.f k l0).bind fun t498 => (if t498 = true then ((tellurionref04_Cam.f k l1).bind fun t499 => (if t499 = true then (if (l1.length : Int) = (l0.length : Int) then ((tellurionref04_Foot.f a2).bind fun t500 => (if t500 = true then ((tellurionref04_Foot.f a3).bind fun t501 => (if t501 = true then (if a4 < 0 then (tellurionlaw04_CamFoot.j0 k l0 l1 a2 a3 a4 true) else (tellurionlaw04_CamFoot.j0 k l0 l1 a2 a3 a4 (decide (a4 ≥ (l0.length : Int))))) else (tellurionlaw04_CamFoot.j0 k l0 l1 a2 a3 a4 true))) else (tellurionlaw04_CamFoot.j0 k l0 l1 a2 a3 a4 true))) else (tellurionlaw04_CamFoot.j0 k l0 l1 a2 a3 a4 true)) else (tellurionlaw04_CamFoot.j0 k l0 l1 a2 a3 a4 true))) else (tellurionlaw04_CamFoot.j0 k l0 l1 a2 a3 a4 true))) = some r := by rw [if_pos rfl] at H; exact H
        clear H
        have H := H1
        clear H1
        replace H := Option.bind_eq_some_iff.mp H
        obtain ⟨t498, A110, H⟩ := H
        replace H : (if t498 = true then ((tellurionref04_Cam.f k l1).bind fun t499 => (if t499 = true then (if (l1.length : Int) = (l0.length : Int) then ((tellurionref04_Foot.f a2).bind fun t500 => (if t500 = true then ((tellurionref04_Foot.f a3).bind fun t501 => (if t501 = true then (if a4 < 0 then (tellurionlaw04_CamFoot.j0 k l0 l1 a2 a3 a4 true) else (tellurionlaw04_CamFoot.j0 k l0 l1 a2 a3 a4 (decide (a4 ≥ (l0.length : Int))))) else (tellurionlaw04_CamFoot.j0 k l0 l1 a2 a3 a4 true))) else (tellurionlaw04_CamFoot.j0 k l0 l1 a2 a3 a4 true))) else (tellurionlaw04_CamFoot.j0 k l0 l1 a2 a3 a4 true)) else (tellurionlaw04_CamFoot.j0 k l0 l1 a2 a3 a4 true))) else (tellurionlaw04_CamFoot.j0 k l0 l1 a2 a3 a4 true)) = some r := H
        have A11 := Aside0.mk A110
        clear A110
        by_cases c12 : t498 = true
        · subst c12
          have H1 : ((tellurionref04_Cam.f k l1).bind fun t499 => (if t499 = true then (if (l1.length : Int) = (l0.length : Int) then ((tellurionref04_Foot.f a2).bind fun t500 => (if t500 = true then ((tellurionref04_Foot.f a3).bind fun t501 => (if t501 = true then (if a4 < 0 then (tellurionlaw04_CamFoot.j0 k l0 l1 a2 a3 a4 true) else (tellurionlaw04_CamFoot.j0 k l0 l1 a2 a3 a4 (decide (a4 ≥ (l0.length : Int))))) else (tellurionlaw04_CamFoot.j0 k l0 l1 a2 a3 a4 true))) else (tellurionlaw04_CamFoot.j0 k l0 l1 a2 a3 a4 true))) else (tellurionlaw04_CamFoot.j0 k l0 l1 a2 a3 a4 true)) else (tellurionlaw04_CamFoot.j0 k l0 l1 a2 a3 a4 true))) = some r := by rw [if_pos rfl] at H; exact H
          clear H
          have H := H1
          clear H1
          replace H := Option.bind_eq_some_iff.mp H
          obtain ⟨t499, A130, H⟩ := H
          replace H : (if t499 = true then (if (l1.length : Int) = (l0.length : Int) then ((tellurionref04_Foot.f a2).bind fun t500 => (if t500 = true then ((tellurionref04_Foot.f a3).bind fun t501 => (if t501 = true then (if a4 < 0 then (tellurionlaw04_CamFoot.j0 k l0 l1 a2 a3 a4 true) else (tellurionlaw04_CamFoot.j0 k l0 l1 a2 a3 a4 (decide (a4 ≥ (l0.length : Int))))) else (tellurionlaw04_CamFoot.j0 k l0 l1 a2 a3 a4 true))) else (tellurionlaw04_CamFoot.j0 k l0 l1 a2 a3 a4 true))) else (tellurionlaw04_CamFoot.j0 k l0 l1 a2 a3 a4 true)) else (tellurionlaw04_CamFoot.j0 k l0 l1 a2 a3 a4 true)) = some r := H
          have A13 := Aside0.mk A130
          clear A130
          by_cases c14 : t499 = true
          · subst c14
            have H1 : (if (l1.length : Int) = (l0.length : Int) then ((tellurionref04_Foot.f a2).bind fun t500 => (if t500 = true then ((tellurionref04_Foot.f a3).bind fun t501 => (if t501 = true then (if a4 < 0 then (tellurionlaw04_CamFoot.j0 k l0 l1 a2 a3 a4 true) else (tellurionlaw04_CamFoot.j0 k l0 l1 a2 a3 a4 (decide (a4 ≥ (l0.length : Int))))) else (tellurionlaw04_CamFoot.j0 k l0 l1 a2 a3 a4 true))) else (tellurionlaw04_CamFoot.j0 k l0 l1 a2 a3 a4 true))) else (tellurionlaw04_CamFoot.j0 k l0 l1 a2 a3 a4 true)) = some r := by rw [if_pos rfl] at H; exact H
            clear H
            have H := H1
            clear H1
            by_cases c15 : (l1.length : Int) = (l0.length : Int)
            · rw [if_pos c15] at H
              have c15b0 : ((l1.length : Int) == (l0.length : Int)) = true := beq_iff_eq.mpr c15
              have c15b1 : ((l1.length : Int) != (l0.length : Int)) = false := bne_eq_false_iff_eq.mpr c15
              have c15b2 : (l1.length == l0.length) = true := by first | simpa using c15 | (simp at c15 ⊢; omega)
              clear c15
              (first | rw [c15b0] | (simp only [i64_w, i32_w]; rw [c15b0]) | skip)
              replace H := Option.bind_eq_some_iff.mp H
              obtain ⟨t500, A160, H⟩ := H
              replace H : (if t500 = true then ((tellurionref04_Foot.f a3).bind fun t501 => (if t501 = true then (if a4 < 0 then (tellurionlaw04_CamFoot.j0 k l0 l1 a2 a3 a4 true) else (tellurionlaw04_CamFoot.j0 k l0 l1 a2 a3 a4 (decide (a4 ≥ (l0.length : Int))))) else (tellurionlaw04_CamFoot.j0 k l0 l1 a2 a3 a4 true))) else (tellurionlaw04_CamFoot.j0 k l0 l1 a2 a3 a4 true)) = some r := H
              have A16 := Aside0.mk A160
              clear A160
              by_cases c17 : t500 = true
              · subst c17
                have H1 : ((tellurionref04_Foot.f a3).bind fun t501 => (if t501 = true then (if a4 < 0 then (tellurionlaw04_CamFoot.j0 k l0 l1 a2 a3 a4 true) else (tellurionlaw04_CamFoot.j0 k l0 l1 a2 a3 a4 (decide (a4 ≥ (l0.length : Int))))) else (tellurionlaw04_CamFoot.j0 k l0 l1 a2 a3 a4 true))) = some r := by rw [if_pos rfl] at H; exact H
                clear H
                have H := H1
                clear H1
                replace H := Option.bind_eq_some_iff.mp H
                obtain ⟨t501, A180, H⟩ := H
                replace H : (if t501 = true then (if a4 < 0 then (tellurionlaw04_CamFoot.j0 k l0 l1 a2 a3 a4 true) else (tellurionlaw04_CamFoot.j0 k l0 l1 a2 a3 a4 (decide (a4 ≥ (l0.length : Int))))) else (tellurionlaw04_CamFoot.j0 k l0 l1 a2 a3 a4 true)) = some r := H
                have A18 := Aside0.mk A180
                clear A180
                by_cases c19 : t501 = true
                · subst c19
                  have H1 : (if a4 < 0 then (tellurionlaw04_CamFoot.j0 k l0 l1 a2 a3 a4 true) else (tellurionlaw04_CamFoot.j0 k l0 l1 a2 a3 a4 (decide (a4 ≥ (l0.length : Int))))) = some r := by rw [if_pos rfl] at H; exact H
                  clear H
                  have H := H1
                  clear H1
                  by_cases c20 : a4 < 0
                  · rw [if_pos c20] at H
                    have c20b0 : decide (a4 < 0) = true := decide_eq_true c20
                    clear c20
                    as_aux_lemma =>
                      have H' := Aside0.mk H
                      clear H
                      go_wp2_with (first | ((with_reducible refine gate_callee (f := 10) rfl ?_); refine goesL_ (some 22) rfl rfl Tryz.func10 (by kernel_rfl) rfl #[.slice A0 l0.length c0] rfl (by (try simp only [List.map_toArray, List.map_cons, List.map_nil]); first | done | rfl | (simp only [List.length_drop, List.length_take]; rfl)) ?_; (with_reducible refine (tellurionlaw04_short.calls _ _ l0 true _ ?side1 ?side2 A7.out).mono ?_); (case side1 => repeat (first | exact (Kd.C_below HR0.out HB.out) | (with_reducible refine Kd.C_alloc ?_ _) | (with_reducible refine Kd.C_drewN ?_ _) | (with_reducible refine Kd.C_drew ?_))); (case side2 => exact HC0.out); rintro e w' ⟨rfl, ⟨nd, rfl⟩⟩; refine ⟨_, rfl, ?_⟩) | (go_at_call 10; (with_reducible refine (tellurionlaw04_short.calls _ _ l1 true _ ?side1 ?side2 A9.out).mono ?_); (case side1 => repeat (first | exact (Kd.C_below HR1.out (by repeat (first | (with_reducible first | exact HB.out | apply below_alloc | apply pw_below_drewN | apply below_drew1) | exact HB.out))) | (with_reducible refine Kd.C_alloc ?_ _) | (with_reducible refine Kd.C_drewN ?_ _) | (with_reducible refine Kd.C_drew ?_))); (case side2 => exact HC1.out); rintro e w' ⟨rfl, ⟨nd, rfl⟩⟩) | (go_at_call 14; (with_reducible refine (tellurionref04_Cam.calls k _ _ l0 true _ ?side1 ?side2 A11.out).mono ?_); (case side1 => repeat (first | exact (Kd.C_below HR0.out (by repeat (first | (with_reducible first | exact HB.out | apply below_alloc | apply pw_below_drewN | apply below_drew1) | exact HB.out))) | (with_reducible refine Kd.C_alloc ?_ _) | (with_reducible refine Kd.C_drewN ?_ _) | (with_reducible refine Kd.C_drew ?_))); (case side2 => exact HC0.out); rintro e w' ⟨rfl, ⟨nd, rfl⟩⟩) | (go_at_call 14; (with_reducible refine (tellurionref04_Cam.calls k _ _ l1 true _ ?side1 ?side2 A13.out).mono ?_); (case side1 => repeat (first | exact (Kd.C_below HR1.out (by repeat (first | (with_reducible first | exact HB.out | apply below_alloc | apply pw_below_drewN | apply below_drew1) | exact HB.out))) | (with_reducible refine Kd.C_alloc ?_ _) | (with_reducible refine Kd.C_drewN ?_ _) | (with_reducible refine Kd.C_drew ?_))); (case side2 => exact HC1.out); rintro e w' ⟨rfl, ⟨nd, rfl⟩⟩) | (go_at_call 26; (with_reducible refine (tellurionref04_Foot.calls a2 true _ A16.out).mono ?_); rintro e w' ⟨rfl, ⟨nd, rfl⟩⟩) | (go_at_call 26; (with_reducible refine (tellurionref04_Foot.calls a3 true _ A18.out).mono ?_); rintro e w' ⟨rfl, ⟨nd, rfl⟩⟩))
                      go_meet
                      case rel => exact ⟨_, (true), (by first | rfl | (simp; done) | (simp [*]; done)), H', ⟨by first | omega | exact Nat.le_refl _⟩, ⟨by repeat (first | (with_reducible first | exact HB.out | apply below_alloc | apply pw_below_drewN | apply below_drew1) | exact HB.out)⟩⟩
                  · rw [if_neg c20] at H
                    have c20b0 : decide (a4 < 0) = false := decide_eq_false c20
                    clear c20
                    as_aux_lemma =>
                      have H' := Aside0.mk H
                      clear H
                      go_wp2_with (first | ((with_reducible refine gate_callee (f := 10) rfl ?_); refine goesL_ (some 22) rfl rfl Tryz.func10 (by kernel_rfl) rfl #[.slice A0 l0.length c0] rfl (by (try simp only [List.map_toArray, List.map_cons, List.map_nil]); first | done | rfl | (simp only [List.length_drop, List.length_take]; rfl)) ?_; (with_reducible refine (tellurionlaw04_short.calls _ _ l0 true _ ?side1 ?side2 A7.out).mono ?_); (case side1 => repeat (first | exact (Kd.C_below HR0.out HB.out) | (with_reducible refine Kd.C_alloc ?_ _) | (with_reducible refine Kd.C_drewN ?_ _) | (with_reducible refine Kd.C_drew ?_))); (case side2 => exact HC0.out); rintro e w' ⟨rfl, ⟨nd, rfl⟩⟩; refine ⟨_, rfl, ?_⟩) | (go_at_call 10; (with_reducible refine (tellurionlaw04_short.calls _ _ l1 true _ ?side1 ?side2 A9.out).mono ?_); (case side1 => repeat (first | exact (Kd.C_below HR1.out (by repeat (first | (with_reducible first | exact HB.out | apply below_alloc | apply pw_below_drewN | apply below_drew1) | exact HB.out))) | (with_reducible refine Kd.C_alloc ?_ _) | (with_reducible refine Kd.C_drewN ?_ _) | (with_reducible refine Kd.C_drew ?_))); (case side2 => exact HC1.out); rintro e w' ⟨rfl, ⟨nd, rfl⟩⟩) | (go_at_call 14; (with_reducible refine (tellurionref04_Cam.calls k _ _ l0 true _ ?side1 ?side2 A11.out).mono ?_); (case side1 => repeat (first | exact (Kd.C_below HR0.out (by repeat (first | (with_reducible first | exact HB.out | apply below_alloc | apply pw_below_drewN | apply below_drew1) | exact HB.out))) | (with_reducible refine Kd.C_alloc ?_ _) | (with_reducible refine Kd.C_drewN ?_ _) | (with_reducible refine Kd.C_drew ?_))); (case side2 => exact HC0.out); rintro e w' ⟨rfl, ⟨nd, rfl⟩⟩) | (go_at_call 14; (with_reducible refine (tellurionref04_Cam.calls k _ _ l1 true _ ?side1 ?side2 A13.out).mono ?_); (case side1 => repeat (first | exact (Kd.C_below HR1.out (by repeat (first | (with_reducible first | exact HB.out | apply below_alloc | apply pw_below_drewN | apply below_drew1) | exact HB.out))) | (with_reducible refine Kd.C_alloc ?_ _) | (with_reducible refine Kd.C_drewN ?_ _) | (with_reducible refine Kd.C_drew ?_))); (case side2 => exact HC1.out); rintro e w' ⟨rfl, ⟨nd, rfl⟩⟩) | (go_at_call 26; (with_reducible refine (tellurionref04_Foot.calls a2 true _ A16.out).mono ?_); rintro e w' ⟨rfl, ⟨nd, rfl⟩⟩) | (go_at_call 26; (with_reducible refine (tellurionref04_Foot.calls a3 true _ A18.out).mono ?_); rintro e w' ⟨rfl, ⟨nd, rfl⟩⟩))
                      go_meet
                      case rel => exact ⟨_, (decide (a4 ≥ (l0.length : Int))), (by first | rfl | (simp; done) | (simp [*]; done)), H', ⟨by first | omega | exact Nat.le_refl _⟩, ⟨by repeat (first | (with_reducible first | exact HB.out | apply below_alloc | apply pw_below_drewN | apply below_drew1) | exact HB.out)⟩⟩
                · replace c19 := Bool.eq_false_iff.mpr c19
                  subst c19
                  have H1 : (tellurionlaw04_CamFoot.j0 k l0 l1 a2 a3 a4 true) = some r := by rw [if_neg (show ¬ (false = true) by decide)] at H; exact H
                  clear H
                  have H := H1
                  clear H1
                  as_aux_lemma =>
                    have H' := Aside0.mk H
                    clear H
                    go_wp2_with (first | ((with_reducible refine gate_callee (f := 10) rfl ?_); refine goesL_ (some 22) rfl rfl Tryz.func10 (by kernel_rfl) rfl #[.slice A0 l0.length c0] rfl (by (try simp only [List.map_toArray, List.map_cons, List.map_nil]); first | done | rfl | (simp only [List.length_drop, List.length_take]; rfl)) ?_; (with_reducible refine (tellurionlaw04_short.calls _ _ l0 true _ ?side1 ?side2 A7.out).mono ?_); (case side1 => repeat (first | exact (Kd.C_below HR0.out HB.out) | (with_reducible refine Kd.C_alloc ?_ _) | (with_reducible refine Kd.C_drewN ?_ _) | (with_reducible refine Kd.C_drew ?_))); (case side2 => exact HC0.out); rintro e w' ⟨rfl, ⟨nd, rfl⟩⟩; refine ⟨_, rfl, ?_⟩) | (go_at_call 10; (with_reducible refine (tellurionlaw04_short.calls _ _ l1 true _ ?side1 ?side2 A9.out).mono ?_); (case side1 => repeat (first | exact (Kd.C_below HR1.out (by repeat (first | (with_reducible first | exact HB.out | apply below_alloc | apply pw_below_drewN | apply below_drew1) | exact HB.out))) | (with_reducible refine Kd.C_alloc ?_ _) | (with_reducible refine Kd.C_drewN ?_ _) | (with_reducible refine Kd.C_drew ?_))); (case side2 => exact HC1.out); rintro e w' ⟨rfl, ⟨nd, rfl⟩⟩) | (go_at_call 14; (with_reducible refine (tellurionref04_Cam.calls k _ _ l0 true _ ?side1 ?side2 A11.out).mono ?_); (case side1 => repeat (first | exact (Kd.C_below HR0.out (by repeat (first | (with_reducible first | exact HB.out | apply below_alloc | apply pw_below_drewN | apply below_drew1) | exact HB.out))) | (with_reducible refine Kd.C_alloc ?_ _) | (with_reducible refine Kd.C_drewN ?_ _) | (with_reducible refine Kd.C_drew ?_))); (case side2 => exact HC0.out); rintro e w' ⟨rfl, ⟨nd, rfl⟩⟩) | (go_at_call 14; (with_reducible refine (tellurionref04_Cam.calls k _ _ l1 true _ ?side1 ?side2 A13.out).mono ?_); (case side1 => repeat (first | exact (Kd.C_below HR1.out (by repeat (first | (with_reducible first | exact HB.out | apply below_alloc | apply pw_below_drewN | apply below_drew1) | exact HB.out))) | (with_reducible refine Kd.C_alloc ?_ _) | (with_reducible refine Kd.C_drewN ?_ _) | (with_reducible refine Kd.C_drew ?_))); (case side2 => exact HC1.out); rintro e w' ⟨rfl, ⟨nd, rfl⟩⟩) | (go_at_call 26; (with_reducible refine (tellurionref04_Foot.calls a2 true _ A16.out).mono ?_); rintro e w' ⟨rfl, ⟨nd, rfl⟩⟩) | (go_at_call 26; (with_reducible refine (tellurionref04_Foot.calls a3 false _ A18.out).mono ?_); rintro e w' ⟨rfl, ⟨nd, rfl⟩⟩))
                    go_meet
                    case rel => exact ⟨_, (true), (by first | rfl | (simp; done) | (simp [*]; done)), H', ⟨by first | omega | exact Nat.le_refl _⟩, ⟨by repeat (first | (with_reducible first | exact HB.out | apply below_alloc | apply pw_below_drewN | apply below_drew1) | exact HB.out)⟩⟩
              · replace c17 := Bool.eq_false_iff.mpr c17
                subst c17
                have H1 : (tellurionlaw04_CamFoot.j0 k l0 l1 a2 a3 a4 true) = some r := by rw [if_neg (show ¬ (false = true) by decide)] at H; exact H
                clear H
                have H := H1
                clear H1
                as_aux_lemma =>
                  have H' := Aside0.mk H
                  clear H
                  go_wp2_with (first | ((with_reducible refine gate_callee (f := 10) rfl ?_); refine goesL_ (some 22) rfl rfl Tryz.func10 (by kernel_rfl) rfl #[.slice A0 l0.length c0] rfl (by (try simp only [List.map_toArray, List.map_cons, List.map_nil]); first | done | rfl | (simp only [List.length_drop, List.length_take]; rfl)) ?_; (with_reducible refine (tellurionlaw04_short.calls _ _ l0 true _ ?side1 ?side2 A7.out).mono ?_); (case side1 => repeat (first | exact (Kd.C_below HR0.out HB.out) | (with_reducible refine Kd.C_alloc ?_ _) | (with_reducible refine Kd.C_drewN ?_ _) | (with_reducible refine Kd.C_drew ?_))); (case side2 => exact HC0.out); rintro e w' ⟨rfl, ⟨nd, rfl⟩⟩; refine ⟨_, rfl, ?_⟩) | (go_at_call 10; (with_reducible refine (tellurionlaw04_short.calls _ _ l1 true _ ?side1 ?side2 A9.out).mono ?_); (case side1 => repeat (first | exact (Kd.C_below HR1.out (by repeat (first | (with_reducible first | exact HB.out | apply below_alloc | apply pw_below_drewN | apply below_drew1) | exact HB.out))) | (with_reducible refine Kd.C_alloc ?_ _) | (with_reducible refine Kd.C_drewN ?_ _) | (with_reducible refine Kd.C_drew ?_))); (case side2 => exact HC1.out); rintro e w' ⟨rfl, ⟨nd, rfl⟩⟩) | (go_at_call 14; (with_reducible refine (tellurionref04_Cam.calls k _ _ l0 true _ ?side1 ?side2 A11.out).mono ?_); (case side1 => repeat (first | exact (Kd.C_below HR0.out (by repeat (first | (with_reducible first | exact HB.out | apply below_alloc | apply pw_below_drewN | apply below_drew1) | exact HB.out))) | (with_reducible refine Kd.C_alloc ?_ _) | (with_reducible refine Kd.C_drewN ?_ _) | (with_reducible refine Kd.C_drew ?_))); (case side2 => exact HC0.out); rintro e w' ⟨rfl, ⟨nd, rfl⟩⟩) | (go_at_call 14; (with_reducible refine (tellurionref04_Cam.calls k _ _ l1 true _ ?side1 ?side2 A13.out).mono ?_); (case side1 => repeat (first | exact (Kd.C_below HR1.out (by repeat (first | (with_reducible first | exact HB.out | apply below_alloc | apply pw_below_drewN | apply below_drew1) | exact HB.out))) | (with_reducible refine Kd.C_alloc ?_ _) | (with_reducible refine Kd.C_drewN ?_ _) | (with_reducible refine Kd.C_drew ?_))); (case side2 => exact HC1.out); rintro e w' ⟨rfl, ⟨nd, rfl⟩⟩) | (go_at_call 26; (with_reducible refine (tellurionref04_Foot.calls a2 false _ A16.out).mono ?_); rintro e w' ⟨rfl, ⟨nd, rfl⟩⟩))
                  go_meet
                  case rel => exact ⟨_, (true), (by first | rfl | (simp; done) | (simp [*]; done)), H', ⟨by first | omega | exact Nat.le_refl _⟩, ⟨by repeat (first | (with_reducible first | exact HB.out | apply below_alloc | apply pw_below_drewN | apply below_drew1) | exact HB.out)⟩⟩
            · rw [if_neg c15] at H
              have c15b0 : ((l1.length : Int) == (l0.length : Int)) = false := beq_eq_false_iff_ne.mpr c15
              have c15b1 : ((l1.length : Int) != (l0.length : Int)) = true := bne_iff_ne.mpr c15
              have c15b2 : (l1.length == l0.length) = false := by first | simpa using c15 | (simp at c15 ⊢; omega)
              (first | rw [c15b0] | (simp only [i64_w, i32_w]; rw [c15b0]) | skip)
              as_aux_lemma =>
                have H' := Aside0.mk H
                clear H
                go_wp2_with (first | ((with_reducible refine gate_callee (f := 10) rfl ?_); refine goesL_ (some 22) rfl rfl Tryz.func10 (by kernel_rfl) rfl #[.slice A0 l0.length c0] rfl (by (try simp only [List.map_toArray, List.map_cons, List.map_nil]); first | done | rfl | (simp only [List.length_drop, List.length_take]; rfl)) ?_; (with_reducible refine (tellurionlaw04_short.calls _ _ l0 true _ ?side1 ?side2 A7.out).mono ?_); (case side1 => repeat (first | exact (Kd.C_below HR0.out HB.out) | (with_reducible refine Kd.C_alloc ?_ _) | (with_reducible refine Kd.C_drewN ?_ _) | (with_reducible refine Kd.C_drew ?_))); (case side2 => exact HC0.out); rintro e w' ⟨rfl, ⟨nd, rfl⟩⟩; refine ⟨_, rfl, ?_⟩) | (go_at_call 10; (with_reducible refine (tellurionlaw04_short.calls _ _ l1 true _ ?side1 ?side2 A9.out).mono ?_); (case side1 => repeat (first | exact (Kd.C_below HR1.out (by repeat (first | (with_reducible first | exact HB.out | apply below_alloc | apply pw_below_drewN | apply below_drew1) | exact HB.out))) | (with_reducible refine Kd.C_alloc ?_ _) | (with_reducible refine Kd.C_drewN ?_ _) | (with_reducible refine Kd.C_drew ?_))); (case side2 => exact HC1.out); rintro e w' ⟨rfl, ⟨nd, rfl⟩⟩) | (go_at_call 14; (with_reducible refine (tellurionref04_Cam.calls k _ _ l0 true _ ?side1 ?side2 A11.out).mono ?_); (case side1 => repeat (first | exact (Kd.C_below HR0.out (by repeat (first | (with_reducible first | exact HB.out | apply below_alloc | apply pw_below_drewN | apply below_drew1) | exact HB.out))) | (with_reducible refine Kd.C_alloc ?_ _) | (with_reducible refine Kd.C_drewN ?_ _) | (with_reducible refine Kd.C_drew ?_))); (case side2 => exact HC0.out); rintro e w' ⟨rfl, ⟨nd, rfl⟩⟩) | (go_at_call 14; (with_reducible refine (tellurionref04_Cam.calls k _ _ l1 true _ ?side1 ?side2 A13.out).mono ?_); (case side1 => repeat (first | exact (Kd.C_below HR1.out (by repeat (first | (with_reducible first | exact HB.out | apply below_alloc | apply pw_below_drewN | apply below_drew1) | exact HB.out))) | (with_reducible refine Kd.C_alloc ?_ _) | (with_reducible refine Kd.C_drewN ?_ _) | (with_reducible refine Kd.C_drew ?_))); (case side2 => exact HC1.out); rintro e w' ⟨rfl, ⟨nd, rfl⟩⟩))
                go_meet
                case rel => exact ⟨_, (true), (by first | rfl | (simp; done) | (simp [*]; done)), H', ⟨by first | omega | exact Nat.le_refl _⟩, ⟨by repeat (first | (with_reducible first | exact HB.out | apply below_alloc | apply pw_below_drewN | apply below_drew1) | exact HB.out)⟩⟩
          · replace c14 := Bool.eq_false_iff.mpr c14
            subst c14
            have H1 : (tellurionlaw04_CamFoot.j0 k l0 l1 a2 a3 a4 true) = some r := by rw [if_neg (show ¬ (false = true) by decide)] at H; exact H
            clear H
            have H := H1
            clear H1
            as_aux_lemma =>
              have H' := Aside0.mk H
              clear H
              go_wp2_with (first | ((with_reducible refine gate_callee (f := 10) rfl ?_); refine goesL_ (some 22) rfl rfl Tryz.func10 (by kernel_rfl) rfl #[.slice A0 l0.length c0] rfl (by (try simp only [List.map_toArray, List.map_cons, List.map_nil]); first | done | rfl | (simp only [List.length_drop, List.length_take]; rfl)) ?_; (with_reducible refine (tellurionlaw04_short.calls _ _ l0 true _ ?side1 ?side2 A7.out).mono ?_); (case side1 => repeat (first | exact (Kd.C_below HR0.out HB.out) | (with_reducible refine Kd.C_alloc ?_ _) | (with_reducible refine Kd.C_drewN ?_ _) | (with_reducible refine Kd.C_drew ?_))); (case side2 => exact HC0.out); rintro e w' ⟨rfl, ⟨nd, rfl⟩⟩; refine ⟨_, rfl, ?_⟩) | (go_at_call 10; (with_reducible refine (tellurionlaw04_short.calls _ _ l1 true _ ?side1 ?side2 A9.out).mono ?_); (case side1 => repeat (first | exact (Kd.C_below HR1.out (by repeat (first | (with_reducible first | exact HB.out | apply below_alloc | apply pw_below_drewN | apply below_drew1) | exact HB.out))) | (with_reducible refine Kd.C_alloc ?_ _) | (with_reducible refine Kd.C_drewN ?_ _) | (with_reducible refine Kd.C_drew ?_))); (case side2 => exact HC1.out); rintro e w' ⟨rfl, ⟨nd, rfl⟩⟩) | (go_at_call 14; (with_reducible refine (tellurionref04_Cam.calls k _ _ l0 true _ ?side1 ?side2 A11.out).mono ?_); (case side1 => repeat (first | exact (Kd.C_below HR0.out (by repeat (first | (with_reducible first | exact HB.out | apply below_alloc | apply pw_below_drewN | apply below_drew1) | exact HB.out))) | (with_reducible refine Kd.C_alloc ?_ _) | (with_reducible refine Kd.C_drewN ?_ _) | (with_reducible refine Kd.C_drew ?_))); (case side2 => exact HC0.out); rintro e w' ⟨rfl, ⟨nd, rfl⟩⟩) | (go_at_call 14; (with_reducible refine (tellurionref04_Cam.calls k _ _ l1 false _ ?side1 ?side2 A13.out).mono ?_); (case side1 => repeat (first | exact (Kd.C_below HR1.out (by repeat (first | (with_reducible first | exact HB.out | apply below_alloc | apply pw_below_drewN | apply below_drew1) | exact HB.out))) | (with_reducible refine Kd.C_alloc ?_ _) | (with_reducible refine Kd.C_drewN ?_ _) | (with_reducible refine Kd.C_drew ?_))); (case side2 => exact HC1.out); rintro e w' ⟨rfl, ⟨nd, rfl⟩⟩))
              go_meet
              case rel => exact ⟨_, (true), (by first | rfl | (simp; done) | (simp [*]; done)), H', ⟨by first | omega | exact Nat.le_refl _⟩, ⟨by repeat (first | (with_reducible first | exact HB.out | apply below_alloc | apply pw_below_drewN | apply below_drew1) | exact HB.out)⟩⟩
        · replace c12 := Bool.eq_false_iff.mpr c12
          subst c12
          have H1 : (tellurionlaw04_CamFoot.j0 k l0 l1 a2 a3 a4 true) = some r := by rw [if_neg (show ¬ (false = true) by decide)] at H; exact H
          clear H
          have H := H1
          clear H1
          as_aux_lemma =>
            have H' := Aside0.mk H
            clear H
            go_wp2_with (first | ((with_reducible refine gate_callee (f := 10) rfl ?_); refine goesL_ (some 22) rfl rfl Tryz.func10 (by kernel_rfl) rfl #[.slice A0 l0.length c0] rfl (by (try simp only [List.map_toArray, List.map_cons, List.map_nil]); first | done | rfl | (simp only [List.length_drop, List.length_take]; rfl)) ?_; (with_reducible refine (tellurionlaw04_short.calls _ _ l0 true _ ?side1 ?side2 A7.out).mono ?_); (case side1 => repeat (first | exact (Kd.C_below HR0.out HB.out) | (with_reducible refine Kd.C_alloc ?_ _) | (with_reducible refine Kd.C_drewN ?_ _) | (with_reducible refine Kd.C_drew ?_))); (case side2 => exact HC0.out); rintro e w' ⟨rfl, ⟨nd, rfl⟩⟩; refine ⟨_, rfl, ?_⟩) | (go_at_call 10; (with_reducible refine (tellurionlaw04_short.calls _ _ l1 true _ ?side1 ?side2 A9.out).mono ?_); (case side1 => repeat (first | exact (Kd.C_below HR1.out (by repeat (first | (with_reducible first | exact HB.out | apply below_alloc | apply pw_below_drewN | apply below_drew1) | exact HB.out))) | (with_reducible refine Kd.C_alloc ?_ _) | (with_reducible refine Kd.C_drewN ?_ _) | (with_reducible refine Kd.C_drew ?_))); (case side2 => exact HC1.out); rintro e w' ⟨rfl, ⟨nd, rfl⟩⟩) | (go_at_call 14; (with_reducible refine (tellurionref04_Cam.calls k _ _ l0 false _ ?side1 ?side2 A11.out).mono ?_); (case side1 => repeat (first | exact (Kd.C_below HR0.out (by repeat (first | (with_reducible first | exact HB.out | apply below_alloc | apply pw_below_drewN | apply below_drew1) | exact HB.out))) | (with_reducible refine Kd.C_alloc ?_ _) | (with_reducible refine Kd.C_drewN ?_ _) | (with_reducible refine Kd.C_drew ?_))); (case side2 => exact HC0.out); rintro e w' ⟨rfl, ⟨nd, rfl⟩⟩))
            go_meet
            case rel => exact ⟨_, (true), (by first | rfl | (simp; done) | (simp [*]; done)), H', ⟨by first | omega | exact Nat.le_refl _⟩, ⟨by repeat (first | (with_reducible first | exact HB.out | apply below_alloc | apply pw_below_drewN | apply below_drew1) | exact HB.out)⟩⟩
      · replace c10 := Bool.eq_false_iff.mpr c10
        subst c10
        have H1 : (tellurionlaw04_CamFoot.j0 k l0 l1 a2 a3 a4 true) = some r := by rw [if_neg (show ¬ (false = true) by decide)] at H; exact H
        clear H
        have H := H1
        clear H1
        as_aux_lemma =>
          have H' := Aside0.mk H
          clear H
          go_wp2_with (first | ((with_reducible refine gate_callee (f := 10) rfl ?_); refine goesL_ (some 22) rfl rfl Tryz.func10 (by kernel_rfl) rfl #[.slice A0 l0.length c0] rfl (by (try simp only [List.map_toArray, List.map_cons, List.map_nil]); first | done | rfl | (simp only [List.length_drop, List.length_take]; rfl)) ?_; (with_reducible refine (tellurionlaw04_short.calls _ _ l0 true _ ?side1 ?side2 A7.out).mono ?_); (case side1 => repeat (first | exact (Kd.C_below HR0.out HB.out) | (with_reducible refine Kd.C_alloc ?_ _) | (with_reducible refine Kd.C_drewN ?_ _) | (with_reducible refine Kd.C_drew ?_))); (case side2 => exact HC0.out); rintro e w' ⟨rfl, ⟨nd, rfl⟩⟩; refine ⟨_, rfl, ?_⟩) | (go_at_call 10; (with_reducible refine (tellurionlaw04_short.calls _ _ l1 false _ ?side1 ?side2 A9.out).mono ?_); (case side1 => repeat (first | exact (Kd.C_below HR1.out (by repeat (first | (with_reducible first | exact HB.out | apply below_alloc | apply pw_below_drewN | apply below_drew1) | exact HB.out))) | (with_reducible refine Kd.C_alloc ?_ _) | (with_reducible refine Kd.C_drewN ?_ _) | (with_reducible refine Kd.C_drew ?_))); (case side2 => exact HC1.out); rintro e w' ⟨rfl, ⟨nd, rfl⟩⟩))
          go_meet
          case rel => exact ⟨_, (true), (by first | rfl | (simp; done) | (simp [*]; done)), H', ⟨by first | omega | exact Nat.le_refl _⟩, ⟨by repeat (first | (with_reducible first | exact HB.out | apply below_alloc | apply pw_below_drewN | apply below_drew1) | exact HB.out)⟩⟩
    · replace c8 := Bool.eq_false_iff.mpr c8
      subst c8
      have H1 : (tellurionlaw04_CamFoot.j0 k l0 l1 a2 a3 a4 true) = some r := by rw [if_neg (show ¬ (false = true) by decide)] at H; exact H
      clear H
      have H := H1
      clear H1
      as_aux_lemma =>
        have H' := Aside0.mk H
        clear H
        go_wp2_with (first | ((with_reducible refine gate_callee (f := 10) rfl ?_); refine goesL_ (some 22) rfl rfl Tryz.func10 (by kernel_rfl) rfl #[.slice A0 l0.length c0] rfl (by (try simp only [List.map_toArray, List.map_cons, List.map_nil]); first | done | rfl | (simp only [List.length_drop, List.length_take]; rfl)) ?_; (with_reducible refine (tellurionlaw04_short.calls _ _ l0 false _ ?side1 ?side2 A7.out).mono ?_); (case side1 => repeat (first | exact (Kd.C_below HR0.out HB.out) | (with_reducible refine Kd.C_alloc ?_ _) | (with_reducible refine Kd.C_drewN ?_ _) | (with_reducible refine Kd.C_drew ?_))); (case side2 => exact HC0.out); rintro e w' ⟨rfl, ⟨nd, rfl⟩⟩; refine ⟨_, rfl, ?_⟩))
        go_meet
        case rel => exact ⟨_, (true), (by first | rfl | (simp; done) | (simp [*]; done)), H', ⟨by first | omega | exact Nat.le_refl _⟩, ⟨by repeat (first | (with_reducible first | exact HB.out | apply below_alloc | apply pw_below_drewN | apply below_drew1) | exact HB.out)⟩⟩
  case rest =>
    clear HC6
    try clear c1
    try clear c2
    try clear p2
    try clear c8
    try clear c10
    try clear c12
    try clear c14
    try clear c15
    try clear c15b0
    try clear c15b1
    try clear c15b2
    try clear c17
    try clear c19
    try clear c20
    try clear c20b0
    obtain ⟨kq, x65_5, rfl, HA, HJ5, HB⟩ := hcut
    cases kq with
    | zero => exact absurd HA.out (by simp [tellurionlaw04_CamFoot.j0])
    | succ kj5 =>
      have H := HA.out
      clear HA
      simp only [tellurionlaw04_CamFoot.j0] at H
      by_cases c21 : x65_5 = true
      · subst c21
        have H1 : ((tellurionlaw04_known.f).bind fun t502 => (some t502)) = some r := by rw [if_pos rfl] at H; exact H
        clear H
        have H := H1
        clear H1
        replace H := Option.bind_eq_some_iff.mp H
        obtain ⟨t502, A220, H⟩ := H
        replace H : (some t502) = some r := H
        have A22 := Aside0.mk A220
        clear A220
        as_aux_lemma =>
          obtain rfl := Option.some.inj H
          go_wp2_with (first | ((with_reducible refine gate_callee (f := 11) rfl ?_); refine goesL_ (some 66) rfl rfl Tryz.func11 (by kernel_rfl) rfl #[] rfl (by (try simp only [List.map_toArray, List.map_cons, List.map_nil]); first | done | rfl | (simp only [List.length_drop, List.length_take]; rfl)) ?_; (with_reducible refine (tellurionlaw04_known.calls  t502 _ A22.out).mono ?_); rintro e w23 ⟨rfl, hb⟩; refine ⟨_, rfl, ?_⟩; have n0_ := Aside0.mk (below_step (by repeat (first | (with_reducible first | exact HB.out | apply below_alloc | apply pw_below_drewN | apply below_drew1) | exact HB.out)) hb); clear HB; have HB := n0_; clear n0_; (try clear hb); (try clear hb2); (try clear hk); (try clear hi)))
          go_ret
          exact ⟨by first | rfl | (simp [errW_none, errW_some] <;> rfl) | (simp [*, errW_none, errW_some] <;> rfl), by repeat (first | (with_reducible first | exact HB.out | apply below_alloc | apply pw_below_drewN | apply below_drew1) | exact HB.out)⟩
      · replace c21 := Bool.eq_false_iff.mpr c21
        subst c21
        have H1 : ((cam_Follow.f l0 a2).bind fun bt503 => ((cam_Follow.f l1 a2).bind fun bt507 => ((tellurionref04_Turn.f kj5 l0 a4).bind fun t511 => ((cam_Follow.f t511 a2).bind fun bt514 => (if bt503.2 = 0 then (if bt507.2 = 0 then (if bt514.2 = 0 then ((tellurionref04_Cam.f kj5 bt503.1).bind fun t518 => (if t518 = true then (if (bt503.1.length : Int) = (l0.length : Int) then ((tellurionlaw04_below.f kj5 l0 bt503.1).bind fun t519 => (if t519 = true then ((tellurionref04_Greatest.f kj5 bt503.1).bind fun t520 => ((tellurionref04_Greatest.f kj5 l0).bind fun t521 => (if t520 = t521 then ((tellurionref04_Turn.f kj5 bt503.1 a4).bind fun t522 => ((tellurionref04_Same.f kj5 bt514.1 t522).bind fun t525 => (tellurionlaw04_CamFoot.j1 kj5 l0 l1 a2 a3 bt503.1 bt507.1 (!t525)))) else (tellurionlaw04_CamFoot.j1 kj5 l0 l1 a2 a3 bt503.1 bt507.1 true)))) else (tellurionlaw04_CamFoot.j1 kj5 l0 l1 a2 a3 bt503.1 bt507.1 true))) else (tellurionlaw04_CamFoot.j1 kj5 l0 l1 a2 a3 bt503.1 bt507.1 true)) else (tellurionlaw04_CamFoot.j1 kj5 l0 l1 a2 a3 bt503.1 bt507.1 true))) else (tellurionlaw04_CamFoot.j1 kj5 l0 l1 a2 a3 bt503.1 bt507.1 true)) else (tellurionlaw04_CamFoot.j1 kj5 l0 l1 a2 a3 bt503.1 bt507.1 true)) else (tellurionlaw04_CamFoot.j1 kj5 l0 l1 a2 a3 bt503.1 bt507.1 true)))))) = some r := by rw [if_neg (show ¬ (false = true) by decide)] at H; exact H
        clear H
        have H := H1
        clear H1
        replace H := Option.bind_eq_some_iff.mp H
        obtain ⟨⟨t503, t504⟩, A240, H⟩ := H
        replace H : ((cam_Follow.f l1 a2).bind fun bt507 => ((tellurionref04_Turn.f kj5 l0 a4).bind fun t511 => ((cam_Follow.f t511 a2).bind fun bt514 => (if t504 = 0 then (if bt507.2 = 0 then (if bt514.2 = 0 then ((tellurionref04_Cam.f kj5 t503).bind fun t518 => (if t518 = true then (if (t503.length : Int) = (l0.length : Int) then ((tellurionlaw04_below.f kj5 l0 t503).bind fun t519 => (if t519 = true then ((tellurionref04_Greatest.f kj5 t503).bind fun t520 => ((tellurionref04_Greatest.f kj5 l0).bind fun t521 => (if t520 = t521 then ((tellurionref04_Turn.f kj5 t503 a4).bind fun t522 => ((tellurionref04_Same.f kj5 bt514.1 t522).bind fun t525 => (tellurionlaw04_CamFoot.j1 kj5 l0 l1 a2 a3 t503 bt507.1 (!t525)))) else (tellurionlaw04_CamFoot.j1 kj5 l0 l1 a2 a3 t503 bt507.1 true)))) else (tellurionlaw04_CamFoot.j1 kj5 l0 l1 a2 a3 t503 bt507.1 true))) else (tellurionlaw04_CamFoot.j1 kj5 l0 l1 a2 a3 t503 bt507.1 true)) else (tellurionlaw04_CamFoot.j1 kj5 l0 l1 a2 a3 t503 bt507.1 true))) else (tellurionlaw04_CamFoot.j1 kj5 l0 l1 a2 a3 t503 bt507.1 true)) else (tellurionlaw04_CamFoot.j1 kj5 l0 l1 a2 a3 t503 bt507.1 true)) else (tellurionlaw04_CamFoot.j1 kj5 l0 l1 a2 a3 t503 bt507.1 true))))) = some r := H
        have A24 := Aside0.mk A240
        clear A240
        replace H := Option.bind_eq_some_iff.mp H
        obtain ⟨⟨t507, t508⟩, A250, H⟩ := H
        replace H : ((tellurionref04_Turn.f kj5 l0 a4).bind fun t511 => ((cam_Follow.f t511 a2).bind fun bt514 => (if t504 = 0 then (if t508 = 0 then (if bt514.2 = 0 then ((tellurionref04_Cam.f kj5 t503).bind fun t518 => (if t518 = true then (if (t503.length : Int) = (l0.length : Int) then ((tellurionlaw04_below.f kj5 l0 t503).bind fun t519 => (if t519 = true then ((tellurionref04_Greatest.f kj5 t503).bind fun t520 => ((tellurionref04_Greatest.f kj5 l0).bind fun t521 => (if t520 = t521 then ((tellurionref04_Turn.f kj5 t503 a4).bind fun t522 => ((tellurionref04_Same.f kj5 bt514.1 t522).bind fun t525 => (tellurionlaw04_CamFoot.j1 kj5 l0 l1 a2 a3 t503 t507 (!t525)))) else (tellurionlaw04_CamFoot.j1 kj5 l0 l1 a2 a3 t503 t507 true)))) else (tellurionlaw04_CamFoot.j1 kj5 l0 l1 a2 a3 t503 t507 true))) else (tellurionlaw04_CamFoot.j1 kj5 l0 l1 a2 a3 t503 t507 true)) else (tellurionlaw04_CamFoot.j1 kj5 l0 l1 a2 a3 t503 t507 true))) else (tellurionlaw04_CamFoot.j1 kj5 l0 l1 a2 a3 t503 t507 true)) else (tellurionlaw04_CamFoot.j1 kj5 l0 l1 a2 a3 t503 t507 true)) else (tellurionlaw04_CamFoot.j1 kj5 l0 l1 a2 a3 t503 t507 true)))) = some r := H
        have A25 := Aside0.mk A250
        clear A250
        replace H := Option.bind_eq_some_iff.mp H
        obtain ⟨t511, A260, H⟩ := H
        replace H : ((cam_Follow.f t511 a2).bind fun bt514 => (if t504 = 0 then (if t508 = 0 then (if bt514.2 = 0 then ((tellurionref04_Cam.f kj5 t503).bind fun t518 => (if t518 = true then (if (t503.length : Int) = (l0.length : Int) then ((tellurionlaw04_below.f kj5 l0 t503).bind fun t519 => (if t519 = true then ((tellurionref04_Greatest.f kj5 t503).bind fun t520 => ((tellurionref04_Greatest.f kj5 l0).bind fun t521 => (if t520 = t521 then ((tellurionref04_Turn.f kj5 t503 a4).bind fun t522 => ((tellurionref04_Same.f kj5 bt514.1 t522).bind fun t525 => (tellurionlaw04_CamFoot.j1 kj5 l0 l1 a2 a3 t503 t507 (!t525)))) else (tellurionlaw04_CamFoot.j1 kj5 l0 l1 a2 a3 t503 t507 true)))) else (tellurionlaw04_CamFoot.j1 kj5 l0 l1 a2 a3 t503 t507 true))) else (tellurionlaw04_CamFoot.j1 kj5 l0 l1 a2 a3 t503 t507 true)) else (tellurionlaw04_CamFoot.j1 kj5 l0 l1 a2 a3 t503 t507 true))) else (tellurionlaw04_CamFoot.j1 kj5 l0 l1 a2 a3 t503 t507 true)) else (tellurionlaw04_CamFoot.j1 kj5 l0 l1 a2 a3 t503 t507 true)) else (tellurionlaw04_CamFoot.j1 kj5 l0 l1 a2 a3 t503 t507 true))) = some r := H
        have A26 := Aside0.mk A260
        clear A260
        replace H := Option.bind_eq_some_iff.mp H
        obtain ⟨⟨t514, t515⟩, A270, H⟩ := H
        replace H : (if t504 = 0 then (if t508 = 0 then (if t515 = 0 then ((tellurionref04_Cam.f kj5 t503).bind fun t518 => (if t518 = true then (if (t503.length : Int) = (l0.length : Int) then ((tellurionlaw04_below.f kj5 l0 t503).bind fun t519 => (if t519 = true then ((tellurionref04_Greatest.f kj5 t503).bind fun t520 => ((tellurionref04_Greatest.f kj5 l0).bind fun t521 => (if t520 = t521 then ((tellurionref04_Turn.f kj5 t503 a4).bind fun t522 => ((tellurionref04_Same.f kj5 t514 t522).bind fun t525 => (tellurionlaw04_CamFoot.j1 kj5 l0 l1 a2 a3 t503 t507 (!t525)))) else (tellurionlaw04_CamFoot.j1 kj5 l0 l1 a2 a3 t503 t507 true)))) else (tellurionlaw04_CamFoot.j1 kj5 l0 l1 a2 a3 t503 t507 true))) else (tellurionlaw04_CamFoot.j1 kj5 l0 l1 a2 a3 t503 t507 true)) else (tellurionlaw04_CamFoot.j1 kj5 l0 l1 a2 a3 t503 t507 true))) else (tellurionlaw04_CamFoot.j1 kj5 l0 l1 a2 a3 t503 t507 true)) else (tellurionlaw04_CamFoot.j1 kj5 l0 l1 a2 a3 t503 t507 true)) else (tellurionlaw04_CamFoot.j1 kj5 l0 l1 a2 a3 t503 t507 true)) = some r := H
        have A27 := Aside0.mk A270
        clear A270
        have HC28 := Aside0.mk H
        clear H
        go_upto_region 6 with (first | ((with_reducible refine gate_callee (f := 24) rfl ?_); refine goesL_ (some 70) rfl rfl Tryz.func24 (by kernel_rfl) rfl #[.slice A0 l0.length c0, .int .i64 a2] rfl (by (try simp only [List.map_toArray, List.map_cons, List.map_nil]); first | done | rfl | (simp only [List.length_drop, List.length_take]; rfl)) ?_; (with_reducible refine (cam_Follow.calls _ _ l0 a2 t503 t504 _ ?side1 ?side2 A24.out).mono ?_); (case side1 => repeat (first | exact (Kd.C_below HR0.out HB.out) | (with_reducible refine Kd.C_alloc ?_ _) | (with_reducible refine Kd.C_drewN ?_ _) | (with_reducible refine Kd.C_drew ?_))); (case side2 => exact HC0.out); rintro e w29 ⟨v505, rfl, ho0, hb⟩; refine ⟨_, rfl, ?_⟩; have n0_ := Aside0.mk (Kd.R_lower ho0 (below_size (by repeat (first | (with_reducible first | exact HB.out | apply below_alloc | apply pw_below_drewN | apply below_drew1) | exact HB.out)))); have n1_ := Aside0.mk (below_step (by repeat (first | (with_reducible first | exact HB.out | apply below_alloc | apply pw_below_drewN | apply below_drew1) | exact HB.out)) hb); clear HB; have HO506 := n0_; have HB := n1_; clear n0_ n1_; (try clear hb); (try clear hb2); (try clear hk); (try clear hi); (try clear ho0)) | ((with_reducible refine gate_callee (f := 24) rfl ?_); refine goesL_ (some 76) rfl rfl Tryz.func24 (by kernel_rfl) rfl #[.slice A1 l1.length c1, .int .i64 a2] rfl (by (try simp only [List.map_toArray, List.map_cons, List.map_nil]); first | done | rfl | (simp only [List.length_drop, List.length_take]; rfl)) ?_; (with_reducible refine (cam_Follow.calls _ _ l1 a2 t507 t508 _ ?side1 ?side2 A25.out).mono ?_); (case side1 => repeat (first | exact (Kd.C_below HR1.out HB.out) | (with_reducible refine Kd.C_alloc ?_ _) | (with_reducible refine Kd.C_drewN ?_ _) | (with_reducible refine Kd.C_drew ?_))); (case side2 => exact HC1.out); rintro e w30 ⟨v509, rfl, ho0, hb⟩; refine ⟨_, rfl, ?_⟩; have n0_ := Aside0.mk (Kd.R_elder' (by (with_reducible repeat (first | apply Kd.R_alloc | apply Kd.R_drewN | apply Kd.R_drew)); exact HO506.out) (Kd.R_base ho0) hb); have n1_ := Aside0.mk (Kd.R_lower (Kd.R_new' ho0 (Kd.R_lt (by (with_reducible repeat (first | apply Kd.R_alloc | apply Kd.R_drewN | apply Kd.R_drew)); exact HO506.out))) (below_size (by repeat (first | (with_reducible first | exact HB.out | apply below_alloc | apply pw_below_drewN | apply below_drew1) | exact HB.out)))); have n2_ := Aside0.mk (below_step (by repeat (first | (with_reducible first | exact HB.out | apply below_alloc | apply pw_below_drewN | apply below_drew1) | exact HB.out)) hb); clear HO506; clear HB; have HO506 := n0_; have HO510 := n1_; have HB := n2_; clear n0_ n1_ n2_; (try clear hb); (try clear hb2); (try clear hk); (try clear hi); (try clear ho0)) | ((with_reducible refine gate_callee (f := 29) rfl ?_); refine goesL_ (some 82) rfl rfl Tryz.func29 (by kernel_rfl) rfl #[.slice A0 l0.length c0, .int .i64 a4] rfl (by (try simp only [List.map_toArray, List.map_cons, List.map_nil]); first | done | rfl | (simp only [List.length_drop, List.length_take]; rfl)) ?_; (with_reducible refine (tellurionref04_Turn.calls kj5 _ _ l0 a4 t511 _ ?side1 ?side2 A26.out).mono ?_); (case side1 => repeat (first | exact (Kd.C_below HR0.out HB.out) | (with_reducible refine Kd.C_alloc ?_ _) | (with_reducible refine Kd.C_drewN ?_ _) | (with_reducible refine Kd.C_drew ?_))); (case side2 => exact HC0.out); rintro e w31 ⟨v512, rfl, ho0, hb⟩; refine ⟨_, rfl, ?_⟩; have n0_ := Aside0.mk (Kd.R_elder' (by (with_reducible repeat (first | apply Kd.R_alloc | apply Kd.R_drewN | apply Kd.R_drew)); exact HO506.out) (Kd.R_base ho0) hb); have n1_ := Aside0.mk (Kd.R_elder' (by (with_reducible repeat (first | apply Kd.R_alloc | apply Kd.R_drewN | apply Kd.R_drew)); exact HO510.out) (Kd.R_base ho0) hb); have n2_ := Aside0.mk (Kd.R_lower (Kd.R_new' (Kd.R_new' ho0 (Kd.R_lt (by (with_reducible repeat (first | apply Kd.R_alloc | apply Kd.R_drewN | apply Kd.R_drew)); exact HO506.out))) (Kd.R_lt (by (with_reducible repeat (first | apply Kd.R_alloc | apply Kd.R_drewN | apply Kd.R_drew)); exact HO510.out))) (below_size (by repeat (first | (with_reducible first | exact HB.out | apply below_alloc | apply pw_below_drewN | apply below_drew1) | exact HB.out)))); have n3_ := Aside0.mk (below_step (by repeat (first | (with_reducible first | exact HB.out | apply below_alloc | apply pw_below_drewN | apply below_drew1) | exact HB.out)) hb); clear HO506; clear HO510; clear HB; have HO506 := n0_; have HO510 := n1_; have HO513 := n2_; have HB := n3_; clear n0_ n1_ n2_ n3_; (try clear hb); (try clear hb2); (try clear hk); (try clear hi); (try clear ho0); obtain ⟨Ao32, co32, eo32⟩ := Kd.R_slice HO513.out; subst eo32) | ((with_reducible refine gate_callee (f := 24) rfl ?_); refine goesL_ (some 84) rfl rfl Tryz.func24 (by kernel_rfl) rfl #[.slice Ao32 t511.length co32, .int .i64 a2] rfl (by (try simp only [List.map_toArray, List.map_cons, List.map_nil]); first | done | rfl | (simp only [List.length_drop, List.length_take]; rfl)) ?_; (with_reducible refine (cam_Follow.calls _ _ t511 a2 t514 t515 _ ?side1 ?side2 A27.out).mono ?_); (case side1 => repeat (first | exact (Kd.R_reads' HO513.out).2.2 | (with_reducible refine Kd.C_alloc ?_ _) | (with_reducible refine Kd.C_drewN ?_ _) | (with_reducible refine Kd.C_drew ?_))); (case side2 => exact (Kd.R_reads' HO513.out).2.1); rintro e w33 ⟨v516, rfl, ho0, hb⟩; refine ⟨_, rfl, ?_⟩; have n0_ := Aside0.mk (Kd.R_elder' (by (with_reducible repeat (first | apply Kd.R_alloc | apply Kd.R_drewN | apply Kd.R_drew)); exact HO506.out) (Kd.R_base ho0) hb); have n1_ := Aside0.mk (Kd.R_elder' (by (with_reducible repeat (first | apply Kd.R_alloc | apply Kd.R_drewN | apply Kd.R_drew)); exact HO510.out) (Kd.R_base ho0) hb); have n2_ := Aside0.mk (Kd.R_elder' (by (with_reducible repeat (first | apply Kd.R_alloc | apply Kd.R_drewN | apply Kd.R_drew)); exact HO513.out) (Kd.R_base ho0) hb); have n3_ := Aside0.mk (Kd.R_lower (Kd.R_new' (Kd.R_new' (Kd.R_new' ho0 (Kd.R_lt (by (with_reducible repeat (first | apply Kd.R_alloc | apply Kd.R_drewN | apply Kd.R_drew)); exact HO506.out))) (Kd.R_lt (by (with_reducible repeat (first | apply Kd.R_alloc | apply Kd.R_drewN | apply Kd.R_drew)); exact HO510.out))) (Kd.R_lt (by (with_reducible repeat (first | apply Kd.R_alloc | apply Kd.R_drewN | apply Kd.R_drew)); exact HO513.out))) (below_size (by repeat (first | (with_reducible first | exact HB.out | apply below_alloc | apply pw_below_drewN | apply below_drew1) | exact HB.out)))); have n4_ := Aside0.mk (below_step (by repeat (first | (with_reducible first | exact HB.out | apply below_alloc | apply pw_below_drewN | apply below_drew1) | exact HB.out)) hb); clear HO506; clear HO510; clear HO513; clear HB; have HO506 := n0_; have HO510 := n1_; have HO513 := n2_; have HO517 := n3_; have HB := n4_; clear n0_ n1_ n2_ n3_ n4_; (try clear hb); (try clear hb2); (try clear hk); (try clear hi); (try clear ho0)))
        (try simp only [Act.put, List.setIfInBounds_toArray, List.set_cons_zero, List.set_cons_succ])
        go_cut [129] (fun v129 wc => ∃ (kq : Nat) (x129_27 : Bool), v129 = .bool x129_27 ∧ Aside0 (tellurionlaw04_CamFoot.j1 kq l0 l1 a2 a3 t503 t507 x129_27 = some r) ∧ Aside0 (kq ≤ kj5) ∧ Aside0 (Kd.R (Kd.int .i64) 3 wc w.heap.size (fun k_ => some k_ ≠ (v509 : Value).ownBlock) v505 t503) ∧ Aside0 (Kd.R (Kd.int .i64) 3 wc w.heap.size (fun k_ => some k_ ≠ (v505 : Value).ownBlock) v509 t507) ∧ Aside0 (Below w.heap.size w wc))
        case first =>
          have H := HC28.out
          clear HC28
          by_cases c34 : t504 = 0
          · rw [if_pos c34] at H
            have c34b0 : (t504 == 0) = true := beq_iff_eq.mpr c34
            have c34b1 : (t504 != 0) = false := bne_eq_false_iff_eq.mpr c34
            clear c34
            (first | rw [c34b0] | (simp only [i64_w, i32_w]; rw [c34b0]) | skip)
            by_cases c35 : t508 = 0
            · rw [if_pos c35] at H
              have c35b0 : (t508 == 0) = true := beq_iff_eq.mpr c35
              have c35b1 : (t508 != 0) = false := bne_eq_false_iff_eq.mpr c35
              clear c35
              by_cases c36 : t515 = 0
              · rw [if_pos c36] at H
                have c36b0 : (t515 == 0) = true := beq_iff_eq.mpr c36
                have c36b1 : (t515 != 0) = false := bne_eq_false_iff_eq.mpr c36
                clear c36
                replace H := Option.bind_eq_some_iff.mp H
                obtain ⟨t518, A370, H⟩ := H
                replace H : (if t518 = true then (if (t503.length : Int) = (l0.length : Int) then ((tellurionlaw04_below.f kj5 l0 t503).bind fun t519 => (if t519 = true then ((tellurionref04_Greatest.f kj5 t503).bind fun t520 => ((tellurionref04_Greatest.f kj5 l0).bind fun t521 => (if t520 = t521 then ((tellurionref04_Turn.f kj5 t503 a4).bind fun t522 => ((tellurionref04_Same.f kj5 t514 t522).bind fun t525 => (tellurionlaw04_CamFoot.j1 kj5 l0 l1 a2 a3 t503 t507 (!t525)))) else (tellurionlaw04_CamFoot.j1 kj5 l0 l1 a2 a3 t503 t507 true)))) else (tellurionlaw04_CamFoot.j1 kj5 l0 l1 a2 a3 t503 t507 true))) else (tellurionlaw04_CamFoot.j1 kj5 l0 l1 a2 a3 t503 t507 true)) else (tellurionlaw04_CamFoot.j1 kj5 l0 l1 a2 a3 t503 t507 true)) = some r := H
                have A37 := Aside0.mk A370
                clear A370
                by_cases c38 : t518 = true
                · subst c38
                  have H1 : (if (t503.length : Int) = (l0.length : Int) then ((tellurionlaw04_below.f kj5 l0 t503).bind fun t519 => (if t519 = true then ((tellurionref04_Greatest.f kj5 t503).bind fun t520 => ((tellurionref04_Greatest.f kj5 l0).bind fun t521 => (if t520 = t521 then ((tellurionref04_Turn.f kj5 t503 a4).bind fun t522 => ((tellurionref04_Same.f kj5 t514 t522).bind fun t525 => (tellurionlaw04_CamFoot.j1 kj5 l0 l1 a2 a3 t503 t507 (!t525)))) else (tellurionlaw04_CamFoot.j1 kj5 l0 l1 a2 a3 t503 t507 true)))) else (tellurionlaw04_CamFoot.j1 kj5 l0 l1 a2 a3 t503 t507 true))) else (tellurionlaw04_CamFoot.j1 kj5 l0 l1 a2 a3 t503 t507 true)) = some r := by rw [if_pos rfl] at H; exact H
                  clear H
                  have H := H1
                  clear H1
                  by_cases c39 : (t503.length : Int) = (l0.length : Int)
                  · rw [if_pos c39] at H
                    have c39b0 : ((t503.length : Int) == (l0.length : Int)) = true := beq_iff_eq.mpr c39
                    have c39b1 : ((t503.length : Int) != (l0.length : Int)) = false := bne_eq_false_iff_eq.mpr c39
                    have c39b2 : (t503.length == l0.length) = true := by first | simpa using c39 | (simp at c39 ⊢; omega)
                    clear c39
                    replace H := Option.bind_eq_some_iff.mp H
                    obtain ⟨t519, A400, H⟩ := H
                    replace H : (if t519 = true then ((tellurionref04_Greatest.f kj5 t503).bind fun t520 => ((tellurionref04_Greatest.f kj5 l0).bind fun t521 => (if t520 = t521 then ((tellurionref04_Turn.f kj5 t503 a4).bind fun t522 => ((tellurionref04_Same.f kj5 t514 t522).bind fun t525 => (tellurionlaw04_CamFoot.j1 kj5 l0 l1 a2 a3 t503 t507 (!t525)))) else (tellurionlaw04_CamFoot.j1 kj5 l0 l1 a2 a3 t503 t507 true)))) else (tellurionlaw04_CamFoot.j1 kj5 l0 l1 a2 a3 t503 t507 true)) = some r := H
                    have A40 := Aside0.mk A400
                    clear A400
                    by_cases c41 : t519 = true
                    · subst c41
                      have H1 : ((tellurionref04_Greatest.f kj5 t503).bind fun t520 => ((tellurionref04_Greatest.f kj5 l0).bind fun t521 => (if t520 = t521 then ((tellurionref04_Turn.f kj5 t503 a4).bind fun t522 => ((tellurionref04_Same.f kj5 t514 t522).bind fun t525 => (tellurionlaw04_CamFoot.j1 kj5 l0 l1 a2 a3 t503 t507 (!t525)))) else (tellurionlaw04_CamFoot.j1 kj5 l0 l1 a2 a3 t503 t507 true)))) = some r := by rw [if_pos rfl] at H; exact H
                      clear H
                      have H := H1
                      clear H1
                      replace H := Option.bind_eq_some_iff.mp H
                      obtain ⟨t520, A420, H⟩ := H
                      replace H : ((tellurionref04_Greatest.f kj5 l0).bind fun t521 => (if t520 = t521 then ((tellurionref04_Turn.f kj5 t503 a4).bind fun t522 => ((tellurionref04_Same.f kj5 t514 t522).bind fun t525 => (tellurionlaw04_CamFoot.j1 kj5 l0 l1 a2 a3 t503 t507 (!t525)))) else (tellurionlaw04_CamFoot.j1 kj5 l0 l1 a2 a3 t503 t507 true))) = some r := H
                      have A42 := Aside0.mk A420
                      clear A420
                      replace H := Option.bind_eq_some_iff.mp H
                      obtain ⟨t521, A430, H⟩ := H
                      replace H : (if t520 = t521 then ((tellurionref04_Turn.f kj5 t503 a4).bind fun t522 => ((tellurionref04_Same.f kj5 t514 t522).bind fun t525 => (tellurionlaw04_CamFoot.j1 kj5 l0 l1 a2 a3 t503 t507 (!t525)))) else (tellurionlaw04_CamFoot.j1 kj5 l0 l1 a2 a3 t503 t507 true)) = some r := H
                      have A43 := Aside0.mk A430
                      clear A430
                      by_cases c44 : t520 = t521
                      · rw [if_pos c44] at H
                        have c44b0 : (t520 == t521) = true := beq_iff_eq.mpr c44
                        have c44b1 : (t520 != t521) = false := bne_eq_false_iff_eq.mpr c44
                        clear c44
                        replace H := Option.bind_eq_some_iff.mp H
                        obtain ⟨t522, A450, H⟩ := H
                        replace H : ((tellurionref04_Same.f kj5 t514 t522).bind fun t525 => (tellurionlaw04_CamFoot.j1 kj5 l0 l1 a2 a3 t503 t507 (!t525))) = some r := H
                        have A45 := Aside0.mk A450
                        clear A450
                        replace H := Option.bind_eq_some_iff.mp H
                        obtain ⟨t525, A460, H⟩ := H
                        replace H : (tellurionlaw04_CamFoot.j1 kj5 l0 l1 a2 a3 t503 t507 (!t525)) = some r := H
                        have A46 := Aside0.mk A460
                        clear A460
                        as_aux_lemma =>
                          have H' := Aside0.mk H
                          clear H
                          obtain ⟨Ao47, co47, eo47⟩ := Kd.R_slice HO506.out
                          subst eo47
                          go_wp2_with (first | (go_at_call 14; (with_reducible refine (tellurionref04_Cam.calls kj5 _ _ t503 true _ ?side1 ?side2 A37.out).mono ?_); (case side1 => repeat (first | exact (Kd.R_reads' HO506.out).2.2 | (with_reducible refine Kd.C_alloc ?_ _) | (with_reducible refine Kd.C_drewN ?_ _) | (with_reducible refine Kd.C_drew ?_))); (case side2 => exact (Kd.R_reads' HO506.out).2.1); rintro e w' ⟨rfl, ⟨nd, rfl⟩⟩) | (go_at_call 30; (with_reducible refine (tellurionlaw04_below.calls kj5 _ _ l0 _ _ t503 true _ ?side1 ?side2 ?side3 ?side4 A40.out).mono ?_); (case side1 => repeat (first | exact (Kd.C_below HR0.out (by repeat (first | (with_reducible first | exact HB.out | apply below_alloc | apply pw_below_drewN | apply below_drew1) | exact HB.out))) | (with_reducible refine Kd.C_alloc ?_ _) | (with_reducible refine Kd.C_drewN ?_ _) | (with_reducible refine Kd.C_drew ?_))); (case side2 => exact HC0.out); (case side3 => repeat (first | exact (Kd.R_reads' HO506.out).2.2 | (with_reducible refine Kd.C_alloc ?_ _) | (with_reducible refine Kd.C_drewN ?_ _) | (with_reducible refine Kd.C_drew ?_))); (case side4 => exact (Kd.R_reads' HO506.out).2.1); rintro e w' ⟨rfl, ⟨nd, rfl⟩⟩) | (go_at_call 31; (with_reducible refine (tellurionref04_Greatest.calls kj5 _ _ t503 t520 _ ?side1 ?side2 A42.out).mono ?_); (case side1 => repeat (first | exact (Kd.R_reads' HO506.out).2.2 | (with_reducible refine Kd.C_alloc ?_ _) | (with_reducible refine Kd.C_drewN ?_ _) | (with_reducible refine Kd.C_drew ?_))); (case side2 => exact (Kd.R_reads' HO506.out).2.1); rintro e w48 ⟨rfl, hb⟩; have n0_ := Aside0.mk (Kd.R_below (by (with_reducible repeat (first | apply Kd.R_alloc | apply Kd.R_drewN | apply Kd.R_drew)); exact HO506.out) hb); have n1_ := Aside0.mk (Kd.R_below (by (with_reducible repeat (first | apply Kd.R_alloc | apply Kd.R_drewN | apply Kd.R_drew)); exact HO510.out) hb); have n2_ := Aside0.mk (Kd.R_below (by (with_reducible repeat (first | apply Kd.R_alloc | apply Kd.R_drewN | apply Kd.R_drew)); exact HO513.out) hb); have n3_ := Aside0.mk (Kd.R_below (by (with_reducible repeat (first | apply Kd.R_alloc | apply Kd.R_drewN | apply Kd.R_drew)); exact HO517.out) hb); have n4_ := Aside0.mk (below_step (by repeat (first | (with_reducible first | exact HB.out | apply below_alloc | apply pw_below_drewN | apply below_drew1) | exact HB.out)) hb); clear HO506; clear HO510; clear HO513; clear HO517; clear HB; have HO506 := n0_; have HO510 := n1_; have HO513 := n2_; have HO517 := n3_; have HB := n4_; clear n0_ n1_ n2_ n3_ n4_; (try clear hb); (try clear hb2); (try clear hk); (try clear hi)) | (go_at_call 31; (with_reducible refine (tellurionref04_Greatest.calls kj5 _ _ l0 t521 _ ?side1 ?side2 A43.out).mono ?_); (case side1 => repeat (first | exact (Kd.C_below HR0.out HB.out) | (with_reducible refine Kd.C_alloc ?_ _) | (with_reducible refine Kd.C_drewN ?_ _) | (with_reducible refine Kd.C_drew ?_))); (case side2 => exact HC0.out); rintro e w49 ⟨rfl, hb⟩; have n0_ := Aside0.mk (Kd.R_below (by (with_reducible repeat (first | apply Kd.R_alloc | apply Kd.R_drewN | apply Kd.R_drew)); exact HO506.out) hb); have n1_ := Aside0.mk (Kd.R_below (by (with_reducible repeat (first | apply Kd.R_alloc | apply Kd.R_drewN | apply Kd.R_drew)); exact HO510.out) hb); have n2_ := Aside0.mk (Kd.R_below (by (with_reducible repeat (first | apply Kd.R_alloc | apply Kd.R_drewN | apply Kd.R_drew)); exact HO513.out) hb); have n3_ := Aside0.mk (Kd.R_below (by (with_reducible repeat (first | apply Kd.R_alloc | apply Kd.R_drewN | apply Kd.R_drew)); exact HO517.out) hb); have n4_ := Aside0.mk (below_step (by repeat (first | (with_reducible first | exact HB.out | apply below_alloc | apply pw_below_drewN | apply below_drew1) | exact HB.out)) hb); clear HO506; clear HO510; clear HO513; clear HO517; clear HB; have HO506 := n0_; have HO510 := n1_; have HO513 := n2_; have HO517 := n3_; have HB := n4_; clear n0_ n1_ n2_ n3_ n4_; (try clear hb); (try clear hb2); (try clear hk); (try clear hi)) | (go_at_call 29; (with_reducible refine (tellurionref04_Turn.calls kj5 _ _ t503 a4 t522 _ ?side1 ?side2 A45.out).mono ?_); (case side1 => repeat (first | exact (Kd.R_reads' HO506.out).2.2 | (with_reducible refine Kd.C_alloc ?_ _) | (with_reducible refine Kd.C_drewN ?_ _) | (with_reducible refine Kd.C_drew ?_))); (case side2 => exact (Kd.R_reads' HO506.out).2.1); rintro e w50 ⟨v523, rfl, ho0, hb⟩; have n0_ := Aside0.mk (Kd.R_elder' (by (with_reducible repeat (first | apply Kd.R_alloc | apply Kd.R_drewN | apply Kd.R_drew)); exact HO506.out) (Kd.R_base ho0) hb); have n1_ := Aside0.mk (Kd.R_elder' (by (with_reducible repeat (first | apply Kd.R_alloc | apply Kd.R_drewN | apply Kd.R_drew)); exact HO510.out) (Kd.R_base ho0) hb); have n2_ := Aside0.mk (Kd.R_elder' (by (with_reducible repeat (first | apply Kd.R_alloc | apply Kd.R_drewN | apply Kd.R_drew)); exact HO513.out) (Kd.R_base ho0) hb); have n3_ := Aside0.mk (Kd.R_elder' (by (with_reducible repeat (first | apply Kd.R_alloc | apply Kd.R_drewN | apply Kd.R_drew)); exact HO517.out) (Kd.R_base ho0) hb); have n4_ := Aside0.mk (Kd.R_lower (Kd.R_new' (Kd.R_new' (Kd.R_new' (Kd.R_new' ho0 (Kd.R_lt (by (with_reducible repeat (first | apply Kd.R_alloc | apply Kd.R_drewN | apply Kd.R_drew)); exact HO506.out))) (Kd.R_lt (by (with_reducible repeat (first | apply Kd.R_alloc | apply Kd.R_drewN | apply Kd.R_drew)); exact HO510.out))) (Kd.R_lt (by (with_reducible repeat (first | apply Kd.R_alloc | apply Kd.R_drewN | apply Kd.R_drew)); exact HO513.out))) (Kd.R_lt (by (with_reducible repeat (first | apply Kd.R_alloc | apply Kd.R_drewN | apply Kd.R_drew)); exact HO517.out))) (below_size (by repeat (first | (with_reducible first | exact HB.out | apply below_alloc | apply pw_below_drewN | apply below_drew1) | exact HB.out)))); have n5_ := Aside0.mk (below_step (by repeat (first | (with_reducible first | exact HB.out | apply below_alloc | apply pw_below_drewN | apply below_drew1) | exact HB.out)) hb); clear HO506; clear HO510; clear HO513; clear HO517; clear HB; have HO506 := n0_; have HO510 := n1_; have HO513 := n2_; have HO517 := n3_; have HO524 := n4_; have HB := n5_; clear n0_ n1_ n2_ n3_ n4_ n5_; (try clear hb); (try clear hb2); (try clear hk); (try clear hi); (try clear ho0); obtain ⟨Ao51, co51, eo51⟩ := Kd.R_slice HO517.out; subst eo51; obtain ⟨Ao52, co52, eo52⟩ := Kd.R_slice HO524.out; subst eo52) | (go_at_call 16; (with_reducible refine (tellurionref04_Same.calls kj5 _ _ t514 _ _ t522 t525 _ ?side1 ?side2 ?side3 ?side4 A46.out).mono ?_); (case side1 => repeat (first | exact (Kd.R_reads' HO517.out).2.2 | (with_reducible refine Kd.C_alloc ?_ _) | (with_reducible refine Kd.C_drewN ?_ _) | (with_reducible refine Kd.C_drew ?_))); (case side2 => exact (Kd.R_reads' HO517.out).2.1); (case side3 => repeat (first | exact (Kd.R_reads' HO524.out).2.2 | (with_reducible refine Kd.C_alloc ?_ _) | (with_reducible refine Kd.C_drewN ?_ _) | (with_reducible refine Kd.C_drew ?_))); (case side4 => exact (Kd.R_reads' HO524.out).2.1); rintro e w' ⟨rfl, ⟨nd, rfl⟩⟩))
                          go_meet
                          case rel => exact ⟨_, (!t525), (by first | rfl | (simp; done) | (simp [*]; done)), H', ⟨by have := HJ5.out; first | omega | exact Nat.le_refl _⟩, ⟨by (with_reducible repeat (first | apply Kd.R_alloc | apply Kd.R_drewN | apply Kd.R_drew)); exact Kd.R_mono HO506.out (fun _ hk => hk.1.1.1.2)⟩, ⟨by (with_reducible repeat (first | apply Kd.R_alloc | apply Kd.R_drewN | apply Kd.R_drew)); exact Kd.R_mono HO510.out (fun _ hk => hk.1.1.1.2)⟩, ⟨by repeat (first | (with_reducible first | exact HB.out | apply below_alloc | apply pw_below_drewN | apply below_drew1) | exact HB.out)⟩⟩
                      · rw [if_neg c44] at H
                        have c44b0 : (t520 == t521) = false := beq_eq_false_iff_ne.mpr c44
                        have c44b1 : (t520 != t521) = true := bne_iff_ne.mpr c44
                        as_aux_lemma =>
                          have H' := Aside0.mk H
                          clear H
                          obtain ⟨Ao53, co53, eo53⟩ := Kd.R_slice HO506.out
                          subst eo53
                          go_wp2_with (first | (go_at_call 14; (with_reducible refine (tellurionref04_Cam.calls kj5 _ _ t503 true _ ?side1 ?side2 A37.out).mono ?_); (case side1 => repeat (first | exact (Kd.R_reads' HO506.out).2.2 | (with_reducible refine Kd.C_alloc ?_ _) | (with_reducible refine Kd.C_drewN ?_ _) | (with_reducible refine Kd.C_drew ?_))); (case side2 => exact (Kd.R_reads' HO506.out).2.1); rintro e w' ⟨rfl, ⟨nd, rfl⟩⟩) | (go_at_call 30; (with_reducible refine (tellurionlaw04_below.calls kj5 _ _ l0 _ _ t503 true _ ?side1 ?side2 ?side3 ?side4 A40.out).mono ?_); (case side1 => repeat (first | exact (Kd.C_below HR0.out (by repeat (first | (with_reducible first | exact HB.out | apply below_alloc | apply pw_below_drewN | apply below_drew1) | exact HB.out))) | (with_reducible refine Kd.C_alloc ?_ _) | (with_reducible refine Kd.C_drewN ?_ _) | (with_reducible refine Kd.C_drew ?_))); (case side2 => exact HC0.out); (case side3 => repeat (first | exact (Kd.R_reads' HO506.out).2.2 | (with_reducible refine Kd.C_alloc ?_ _) | (with_reducible refine Kd.C_drewN ?_ _) | (with_reducible refine Kd.C_drew ?_))); (case side4 => exact (Kd.R_reads' HO506.out).2.1); rintro e w' ⟨rfl, ⟨nd, rfl⟩⟩) | (go_at_call 31; (with_reducible refine (tellurionref04_Greatest.calls kj5 _ _ t503 t520 _ ?side1 ?side2 A42.out).mono ?_); (case side1 => repeat (first | exact (Kd.R_reads' HO506.out).2.2 | (with_reducible refine Kd.C_alloc ?_ _) | (with_reducible refine Kd.C_drewN ?_ _) | (with_reducible refine Kd.C_drew ?_))); (case side2 => exact (Kd.R_reads' HO506.out).2.1); rintro e w54 ⟨rfl, hb⟩; have n0_ := Aside0.mk (Kd.R_below (by (with_reducible repeat (first | apply Kd.R_alloc | apply Kd.R_drewN | apply Kd.R_drew)); exact HO506.out) hb); have n1_ := Aside0.mk (Kd.R_below (by (with_reducible repeat (first | apply Kd.R_alloc | apply Kd.R_drewN | apply Kd.R_drew)); exact HO510.out) hb); have n2_ := Aside0.mk (Kd.R_below (by (with_reducible repeat (first | apply Kd.R_alloc | apply Kd.R_drewN | apply Kd.R_drew)); exact HO513.out) hb); have n3_ := Aside0.mk (Kd.R_below (by (with_reducible repeat (first | apply Kd.R_alloc | apply Kd.R_drewN | apply Kd.R_drew)); exact HO517.out) hb); have n4_ := Aside0.mk (below_step (by repeat (first | (with_reducible first | exact HB.out | apply below_alloc | apply pw_below_drewN | apply below_drew1) | exact HB.out)) hb); clear HO506; clear HO510; clear HO513; clear HO517; clear HB; have HO506 := n0_; have HO510 := n1_; have HO513 := n2_; have HO517 := n3_; have HB := n4_; clear n0_ n1_ n2_ n3_ n4_; (try clear hb); (try clear hb2); (try clear hk); (try clear hi)) | (go_at_call 31; (with_reducible refine (tellurionref04_Greatest.calls kj5 _ _ l0 t521 _ ?side1 ?side2 A43.out).mono ?_); (case side1 => repeat (first | exact (Kd.C_below HR0.out HB.out) | (with_reducible refine Kd.C_alloc ?_ _) | (with_reducible refine Kd.C_drewN ?_ _) | (with_reducible refine Kd.C_drew ?_))); (case side2 => exact HC0.out); rintro e w55 ⟨rfl, hb⟩; have n0_ := Aside0.mk (Kd.R_below (by (with_reducible repeat (first | apply Kd.R_alloc | apply Kd.R_drewN | apply Kd.R_drew)); exact HO506.out) hb); have n1_ := Aside0.mk (Kd.R_below (by (with_reducible repeat (first | apply Kd.R_alloc | apply Kd.R_drewN | apply Kd.R_drew)); exact HO510.out) hb); have n2_ := Aside0.mk (Kd.R_below (by (with_reducible repeat (first | apply Kd.R_alloc | apply Kd.R_drewN | apply Kd.R_drew)); exact HO513.out) hb); have n3_ := Aside0.mk (Kd.R_below (by (with_reducible repeat (first | apply Kd.R_alloc | apply Kd.R_drewN | apply Kd.R_drew)); exact HO517.out) hb); have n4_ := Aside0.mk (below_step (by repeat (first | (with_reducible first | exact HB.out | apply below_alloc | apply pw_below_drewN | apply below_drew1) | exact HB.out)) hb); clear HO506; clear HO510; clear HO513; clear HO517; clear HB; have HO506 := n0_; have HO510 := n1_; have HO513 := n2_; have HO517 := n3_; have HB := n4_; clear n0_ n1_ n2_ n3_ n4_; (try clear hb); (try clear hb2); (try clear hk); (try clear hi)))
                          go_meet
                          case rel => exact ⟨_, (true), (by first | rfl | (simp; done) | (simp [*]; done)), H', ⟨by have := HJ5.out; first | omega | exact Nat.le_refl _⟩, ⟨by (with_reducible repeat (first | apply Kd.R_alloc | apply Kd.R_drewN | apply Kd.R_drew)); exact Kd.R_mono HO506.out (fun _ hk => hk.1.1.2)⟩, ⟨by (with_reducible repeat (first | apply Kd.R_alloc | apply Kd.R_drewN | apply Kd.R_drew)); exact Kd.R_mono HO510.out (fun _ hk => hk.1.1.2)⟩, ⟨by repeat (first | (with_reducible first | exact HB.out | apply below_alloc | apply pw_below_drewN | apply below_drew1) | exact HB.out)⟩⟩
                    · replace c41 := Bool.eq_false_iff.mpr c41
                      subst c41
                      have H1 : (tellurionlaw04_CamFoot.j1 kj5 l0 l1 a2 a3 t503 t507 true) = some r := by rw [if_neg (show ¬ (false = true) by decide)] at H; exact H
                      clear H
                      have H := H1
                      clear H1
                      as_aux_lemma =>
                        have H' := Aside0.mk H
                        clear H
                        obtain ⟨Ao56, co56, eo56⟩ := Kd.R_slice HO506.out
                        subst eo56
                        go_wp2_with (first | (go_at_call 14; (with_reducible refine (tellurionref04_Cam.calls kj5 _ _ t503 true _ ?side1 ?side2 A37.out).mono ?_); (case side1 => repeat (first | exact (Kd.R_reads' HO506.out).2.2 | (with_reducible refine Kd.C_alloc ?_ _) | (with_reducible refine Kd.C_drewN ?_ _) | (with_reducible refine Kd.C_drew ?_))); (case side2 => exact (Kd.R_reads' HO506.out).2.1); rintro e w' ⟨rfl, ⟨nd, rfl⟩⟩) | (go_at_call 30; (with_reducible refine (tellurionlaw04_below.calls kj5 _ _ l0 _ _ t503 false _ ?side1 ?side2 ?side3 ?side4 A40.out).mono ?_); (case side1 => repeat (first | exact (Kd.C_below HR0.out (by repeat (first | (with_reducible first | exact HB.out | apply below_alloc | apply pw_below_drewN | apply below_drew1) | exact HB.out))) | (with_reducible refine Kd.C_alloc ?_ _) | (with_reducible refine Kd.C_drewN ?_ _) | (with_reducible refine Kd.C_drew ?_))); (case side2 => exact HC0.out); (case side3 => repeat (first | exact (Kd.R_reads' HO506.out).2.2 | (with_reducible refine Kd.C_alloc ?_ _) | (with_reducible refine Kd.C_drewN ?_ _) | (with_reducible refine Kd.C_drew ?_))); (case side4 => exact (Kd.R_reads' HO506.out).2.1); rintro e w' ⟨rfl, ⟨nd, rfl⟩⟩))
                        go_meet
                        case rel => exact ⟨_, (true), (by first | rfl | (simp; done) | (simp [*]; done)), H', ⟨by have := HJ5.out; first | omega | exact Nat.le_refl _⟩, ⟨by (with_reducible repeat (first | apply Kd.R_alloc | apply Kd.R_drewN | apply Kd.R_drew)); exact Kd.R_mono HO506.out (fun _ hk => hk.1.1.2)⟩, ⟨by (with_reducible repeat (first | apply Kd.R_alloc | apply Kd.R_drewN | apply Kd.R_drew)); exact Kd.R_mono HO510.out (fun _ hk => hk.1.1.2)⟩, ⟨by repeat (first | (with_reducible first | exact HB.out | apply below_alloc | apply pw_below_drewN | apply below_drew1) | exact HB.out)⟩⟩
                  · rw [if_neg c39] at H
                    have c39b0 : ((t503.length : Int) == (l0.length : Int)) = false := beq_eq_false_iff_ne.mpr c39
                    have c39b1 : ((t503.length : Int) != (l0.length : Int)) = true := bne_iff_ne.mpr c39
                    have c39b2 : (t503.length == l0.length) = false := by first | simpa using c39 | (simp at c39 ⊢; omega)
                    as_aux_lemma =>
                      have H' := Aside0.mk H
                      clear H
                      obtain ⟨Ao57, co57, eo57⟩ := Kd.R_slice HO506.out
                      subst eo57
                      go_wp2_with (first | (go_at_call 14; (with_reducible refine (tellurionref04_Cam.calls kj5 _ _ t503 true _ ?side1 ?side2 A37.out).mono ?_); (case side1 => repeat (first | exact (Kd.R_reads' HO506.out).2.2 | (with_reducible refine Kd.C_alloc ?_ _) | (with_reducible refine Kd.C_drewN ?_ _) | (with_reducible refine Kd.C_drew ?_))); (case side2 => exact (Kd.R_reads' HO506.out).2.1); rintro e w' ⟨rfl, ⟨nd, rfl⟩⟩))
                      go_meet
                      case rel => exact ⟨_, (true), (by first | rfl | (simp; done) | (simp [*]; done)), H', ⟨by have := HJ5.out; first | omega | exact Nat.le_refl _⟩, ⟨by (with_reducible repeat (first | apply Kd.R_alloc | apply Kd.R_drewN | apply Kd.R_drew)); exact Kd.R_mono HO506.out (fun _ hk => hk.1.1.2)⟩, ⟨by (with_reducible repeat (first | apply Kd.R_alloc | apply Kd.R_drewN | apply Kd.R_drew)); exact Kd.R_mono HO510.out (fun _ hk => hk.1.1.2)⟩, ⟨by repeat (first | (with_reducible first | exact HB.out | apply below_alloc | apply pw_below_drewN | apply below_drew1) | exact HB.out)⟩⟩
                · replace c38 := Bool.eq_false_iff.mpr c38
                  subst c38
                  have H1 : (tellurionlaw04_CamFoot.j1 kj5 l0 l1 a2 a3 t503 t507 true) = some r := by rw [if_neg (show ¬ (false = true) by decide)] at H; exact H
                  clear H
                  have H := H1
                  clear H1
                  as_aux_lemma =>
                    have H' := Aside0.mk H
                    clear H
                    obtain ⟨Ao58, co58, eo58⟩ := Kd.R_slice HO506.out
                    subst eo58
                    go_wp2_with (first | (go_at_call 14; (with_reducible refine (tellurionref04_Cam.calls kj5 _ _ t503 false _ ?side1 ?side2 A37.out).mono ?_); (case side1 => repeat (first | exact (Kd.R_reads' HO506.out).2.2 | (with_reducible refine Kd.C_alloc ?_ _) | (with_reducible refine Kd.C_drewN ?_ _) | (with_reducible refine Kd.C_drew ?_))); (case side2 => exact (Kd.R_reads' HO506.out).2.1); rintro e w' ⟨rfl, ⟨nd, rfl⟩⟩))
                    go_meet
                    case rel => exact ⟨_, (true), (by first | rfl | (simp; done) | (simp [*]; done)), H', ⟨by have := HJ5.out; first | omega | exact Nat.le_refl _⟩, ⟨by (with_reducible repeat (first | apply Kd.R_alloc | apply Kd.R_drewN | apply Kd.R_drew)); exact Kd.R_mono HO506.out (fun _ hk => hk.1.1.2)⟩, ⟨by (with_reducible repeat (first | apply Kd.R_alloc | apply Kd.R_drewN | apply Kd.R_drew)); exact Kd.R_mono HO510.out (fun _ hk => hk.1.1.2)⟩, ⟨by repeat (first | (with_reducible first | exact HB.out | apply below_alloc | apply pw_below_drewN | apply below_drew1) | exact HB.out)⟩⟩
              · rw [if_neg c36] at H
                have c36b0 : (t515 == 0) = false := beq_eq_false_iff_ne.mpr c36
                have c36b1 : (t515 != 0) = true := bne_iff_ne.mpr c36
                as_aux_lemma =>
                  have H' := Aside0.mk H
                  clear H
                  go_wp2
                  go_meet
                  case rel => exact ⟨_, (true), (by first | rfl | (simp; done) | (simp [*]; done)), H', ⟨by have := HJ5.out; first | omega | exact Nat.le_refl _⟩, ⟨by (with_reducible repeat (first | apply Kd.R_alloc | apply Kd.R_drewN | apply Kd.R_drew)); exact Kd.R_mono HO506.out (fun _ hk => hk.1.1.2)⟩, ⟨by (with_reducible repeat (first | apply Kd.R_alloc | apply Kd.R_drewN | apply Kd.R_drew)); exact Kd.R_mono HO510.out (fun _ hk => hk.1.1.2)⟩, ⟨by repeat (first | (with_reducible first | exact HB.out | apply below_alloc | apply pw_below_drewN | apply below_drew1) | exact HB.out)⟩⟩
            · rw [if_neg c35] at H
              have c35b0 : (t508 == 0) = false := beq_eq_false_iff_ne.mpr c35
              have c35b1 : (t508 != 0) = true := bne_iff_ne.mpr c35
              as_aux_lemma =>
                have H' := Aside0.mk H
                clear H
                go_wp2
                go_meet
                case rel => exact ⟨_, (true), (by first | rfl | (simp; done) | (simp [*]; done)), H', ⟨by have := HJ5.out; first | omega | exact Nat.le_refl _⟩, ⟨by (with_reducible repeat (first | apply Kd.R_alloc | apply Kd.R_drewN | apply Kd.R_drew)); exact Kd.R_mono HO506.out (fun _ hk => hk.1.1.2)⟩, ⟨by (with_reducible repeat (first | apply Kd.R_alloc | apply Kd.R_drewN | apply Kd.R_drew)); exact Kd.R_mono HO510.out (fun _ hk => hk.1.1.2)⟩, ⟨by repeat (first | (with_reducible first | exact HB.out | apply below_alloc | apply pw_below_drewN | apply below_drew1) | exact HB.out)⟩⟩
          · rw [if_neg c34] at H
            have c34b0 : (t504 == 0) = false := beq_eq_false_iff_ne.mpr c34
            have c34b1 : (t504 != 0) = true := bne_iff_ne.mpr c34
            (first | rw [c34b0] | (simp only [i64_w, i32_w]; rw [c34b0]) | skip)
            as_aux_lemma =>
              have H' := Aside0.mk H
              clear H
              go_wp2
              go_meet
              case rel => exact ⟨_, (true), (by first | rfl | (simp; done) | (simp [*]; done)), H', ⟨by have := HJ5.out; first | omega | exact Nat.le_refl _⟩, ⟨by (with_reducible repeat (first | apply Kd.R_alloc | apply Kd.R_drewN | apply Kd.R_drew)); exact Kd.R_mono HO506.out (fun _ hk => hk.1.1.2)⟩, ⟨by (with_reducible repeat (first | apply Kd.R_alloc | apply Kd.R_drewN | apply Kd.R_drew)); exact Kd.R_mono HO510.out (fun _ hk => hk.1.1.2)⟩, ⟨by repeat (first | (with_reducible first | exact HB.out | apply below_alloc | apply pw_below_drewN | apply below_drew1) | exact HB.out)⟩⟩
        case rest =>
          clear HC28
          try clear c1
          try clear c2
          try clear p2
          try clear c3
          try clear c4
          try clear c8
          try clear c10
          try clear c11
          try clear c12
          try clear c14
          try clear c15
          try clear c15b0
          try clear c15b1
          try clear c15b2
          try clear c17
          try clear c19
          try clear c20
          try clear c20b0
          try clear c21
          try clear c24
          try clear c29
          try clear c34
          try clear c34b0
          try clear c34b1
          try clear c35
          try clear c35b0
          try clear c35b1
          try clear c36
          try clear c36b0
          try clear c36b1
          try clear c38
          try clear c39
          try clear c39b0
          try clear c39b1
          try clear c39b2
          try clear c41
          try clear c44
          try clear c44b0
          try clear c44b1
          try clear p2
          obtain ⟨kq, x129_27, rfl, HA, HJ27, HO_11, HO_13, HB⟩ := hcut
          cases kq with
          | zero => exact absurd HA.out (by simp [tellurionlaw04_CamFoot.j1])
          | succ kj27 =>
            have H := HA.out
            clear HA
            simp only [tellurionlaw04_CamFoot.j1] at H
            by_cases c59 : x129_27 = true
            · subst c59
              have H1 : (some false) = some r := by rw [if_pos rfl] at H; exact H
              clear H
              have H := H1
              clear H1
              as_aux_lemma =>
                obtain rfl := Option.some.inj H
                go_wp2
                go_ret
                exact ⟨by first | rfl | (simp [errW_none, errW_some] <;> rfl) | (simp [*, errW_none, errW_some] <;> rfl), by repeat (first | (with_reducible first | exact HB.out | apply below_alloc | apply pw_below_drewN | apply below_drew1) | exact HB.out)⟩
            · replace c59 := Bool.eq_false_iff.mpr c59
              subst c59
              have H1 : ((tellurionlaw04_below.f kj27 l0 l1).bind fun t526 => (if t526 = true then ((tellurionlaw04_below.f kj27 t503 t507).bind fun t527 => (tellurionlaw04_CamFoot.j2 kj27 l0 a2 a3 t503 (!t527))) else (tellurionlaw04_CamFoot.j2 kj27 l0 a2 a3 t503 false))) = some r := by rw [if_neg (show ¬ (false = true) by decide)] at H; exact H
              clear H
              have H := H1
              clear H1
              have HC60 := Aside0.mk H
              clear H
              go_upto_region 8 with (fail)
              go_cut [138] (fun v138 wc => ∃ (kq : Nat) (x138_59 : Bool), v138 = .bool x138_59 ∧ Aside0 (tellurionlaw04_CamFoot.j2 kq l0 a2 a3 t503 x138_59 = some r) ∧ Aside0 (kq ≤ kj27) ∧ Aside0 (Kd.R (Kd.int .i64) 3 wc w.heap.size (fun _ => True) v505 t503) ∧ Aside0 (Below w.heap.size w wc))
              case first =>
                have H := HC60.out
                clear HC60
                replace H := Option.bind_eq_some_iff.mp H
                obtain ⟨t526, A610, H⟩ := H
                replace H : (if t526 = true then ((tellurionlaw04_below.f kj27 t503 t507).bind fun t527 => (tellurionlaw04_CamFoot.j2 kj27 l0 a2 a3 t503 (!t527))) else (tellurionlaw04_CamFoot.j2 kj27 l0 a2 a3 t503 false)) = some r := H
                have A61 := Aside0.mk A610
                clear A610
                by_cases c62 : t526 = true
                · subst c62
                  have H1 : ((tellurionlaw04_below.f kj27 t503 t507).bind fun t527 => (tellurionlaw04_CamFoot.j2 kj27 l0 a2 a3 t503 (!t527))) = some r := by rw [if_pos rfl] at H; exact H
                  clear H
                  have H := H1
                  clear H1
                  replace H := Option.bind_eq_some_iff.mp H
                  obtain ⟨t527, A630, H⟩ := H
                  replace H : (tellurionlaw04_CamFoot.j2 kj27 l0 a2 a3 t503 (!t527)) = some r := H
                  have A63 := Aside0.mk A630
                  clear A630
                  as_aux_lemma =>
                    have H' := Aside0.mk H
                    clear H
                    go_wp2_with (first | ((with_reducible refine gate_callee (f := 30) rfl ?_); refine goesL_ (some 132) rfl rfl Tryz.func30 (by kernel_rfl) rfl #[.slice A0 l0.length c0, .slice A1 l1.length c1] rfl (by (try simp only [List.map_toArray, List.map_cons, List.map_nil]); first | done | rfl | (simp only [List.length_drop, List.length_take]; rfl)) ?_; (with_reducible refine (tellurionlaw04_below.calls kj27 _ _ l0 _ _ l1 true _ ?side1 ?side2 ?side3 ?side4 A61.out).mono ?_); (case side1 => repeat (first | exact (Kd.C_below HR0.out HB.out) | (with_reducible refine Kd.C_alloc ?_ _) | (with_reducible refine Kd.C_drewN ?_ _) | (with_reducible refine Kd.C_drew ?_))); (case side2 => exact HC0.out); (case side3 => repeat (first | exact (Kd.C_below HR1.out HB.out) | (with_reducible refine Kd.C_alloc ?_ _) | (with_reducible refine Kd.C_drewN ?_ _) | (with_reducible refine Kd.C_drew ?_))); (case side4 => exact HC1.out); rintro e w' ⟨rfl, ⟨nd, rfl⟩⟩; refine ⟨_, rfl, ?_⟩; obtain ⟨Ao64, co64, eo64⟩ := Kd.R_slice HO_11.out; subst eo64; obtain ⟨Ao65, co65, eo65⟩ := Kd.R_slice HO_13.out; subst eo65) | (go_at_call 30; (with_reducible refine (tellurionlaw04_below.calls kj27 _ _ t503 _ _ t507 t527 _ ?side1 ?side2 ?side3 ?side4 A63.out).mono ?_); (case side1 => repeat (first | exact (Kd.R_reads' HO_11.out).2.2 | (with_reducible refine Kd.C_alloc ?_ _) | (with_reducible refine Kd.C_drewN ?_ _) | (with_reducible refine Kd.C_drew ?_))); (case side2 => exact (Kd.R_reads' HO_11.out).2.1); (case side3 => repeat (first | exact (Kd.R_reads' HO_13.out).2.2 | (with_reducible refine Kd.C_alloc ?_ _) | (with_reducible refine Kd.C_drewN ?_ _) | (with_reducible refine Kd.C_drew ?_))); (case side4 => exact (Kd.R_reads' HO_13.out).2.1); rintro e w' ⟨rfl, ⟨nd, rfl⟩⟩))
                    go_meet
                    case rel => exact ⟨_, (!t527), (by first | rfl | (simp; done) | (simp [*]; done)), H', ⟨by have := HJ5.out; have := HJ27.out; first | omega | exact Nat.le_refl _⟩, ⟨by (with_reducible repeat (first | apply Kd.R_alloc | apply Kd.R_drewN | apply Kd.R_drew)); exact Kd.R_mono HO_11.out (fun _ hk => trivial)⟩, ⟨by repeat (first | (with_reducible first | exact HB.out | apply below_alloc | apply pw_below_drewN | apply below_drew1) | exact HB.out)⟩⟩
                · replace c62 := Bool.eq_false_iff.mpr c62
                  subst c62
                  have H1 : (tellurionlaw04_CamFoot.j2 kj27 l0 a2 a3 t503 false) = some r := by rw [if_neg (show ¬ (false = true) by decide)] at H; exact H
                  clear H
                  have H := H1
                  clear H1
                  as_aux_lemma =>
                    have H' := Aside0.mk H
                    clear H
                    go_wp2_with (first | ((with_reducible refine gate_callee (f := 30) rfl ?_); refine goesL_ (some 132) rfl rfl Tryz.func30 (by kernel_rfl) rfl #[.slice A0 l0.length c0, .slice A1 l1.length c1] rfl (by (try simp only [List.map_toArray, List.map_cons, List.map_nil]); first | done | rfl | (simp only [List.length_drop, List.length_take]; rfl)) ?_; (with_reducible refine (tellurionlaw04_below.calls kj27 _ _ l0 _ _ l1 false _ ?side1 ?side2 ?side3 ?side4 A61.out).mono ?_); (case side1 => repeat (first | exact (Kd.C_below HR0.out HB.out) | (with_reducible refine Kd.C_alloc ?_ _) | (with_reducible refine Kd.C_drewN ?_ _) | (with_reducible refine Kd.C_drew ?_))); (case side2 => exact HC0.out); (case side3 => repeat (first | exact (Kd.C_below HR1.out HB.out) | (with_reducible refine Kd.C_alloc ?_ _) | (with_reducible refine Kd.C_drewN ?_ _) | (with_reducible refine Kd.C_drew ?_))); (case side4 => exact HC1.out); rintro e w' ⟨rfl, ⟨nd, rfl⟩⟩; refine ⟨_, rfl, ?_⟩))
                    go_meet
                    case rel => exact ⟨_, (false), (by first | rfl | (simp; done) | (simp [*]; done)), H', ⟨by have := HJ5.out; have := HJ27.out; first | omega | exact Nat.le_refl _⟩, ⟨by (with_reducible repeat (first | apply Kd.R_alloc | apply Kd.R_drewN | apply Kd.R_drew)); exact Kd.R_mono HO_11.out (fun _ hk => trivial)⟩, ⟨by repeat (first | (with_reducible first | exact HB.out | apply below_alloc | apply pw_below_drewN | apply below_drew1) | exact HB.out)⟩⟩
              case rest =>
                clear HC60
                try clear c1
                try clear c2
                try clear p2
                try clear c3
                try clear c4
                try clear c5
                try clear c6
                try clear c8
                try clear c10
                try clear c11
                try clear c12
                try clear c14
                try clear c15
                try clear c15b0
                try clear c15b1
                try clear c15b2
                try clear c17
                try clear c19
                try clear c20
                try clear c20b0
                try clear c21
                try clear c24
                try clear c29
                try clear c30
                try clear c34
                try clear c34b0
                try clear c34b1
                try clear c35
                try clear c35b0
                try clear c35b1
                try clear c36
                try clear c36b0
                try clear c36b1
                try clear c38
                try clear c39
                try clear c39b0
                try clear c39b1
                try clear c39b2
                try clear c41
                try clear c44
                try clear c44b0
                try clear c44b1
                try clear c59
                try clear c62
                try clear p2
                obtain ⟨kq, x138_59, rfl, HA, HJ59, HO_11, HB⟩ := hcut
                cases kq with
                | zero => exact absurd HA.out (by simp [tellurionlaw04_CamFoot.j2])
                | succ kj59 =>
                  have H := HA.out
                  clear HA
                  simp only [tellurionlaw04_CamFoot.j2] at H
                  by_cases c66 : x138_59 = true
                  · subst c66
                    have H1 : (some false) = some r := by rw [if_pos rfl] at H; exact H
                    clear H
                    have H := H1
                    clear H1
                    as_aux_lemma =>
                      obtain rfl := Option.some.inj H
                      go_wp2
                      go_ret
                      exact ⟨by first | rfl | (simp [errW_none, errW_some] <;> rfl) | (simp [*, errW_none, errW_some] <;> rfl), by repeat (first | (with_reducible first | exact HB.out | apply below_alloc | apply pw_below_drewN | apply below_drew1) | exact HB.out)⟩
                  · replace c66 := Bool.eq_false_iff.mpr c66
                    subst c66
                    have H1 : ((cam_Follow.f t503 a3).bind fun bt528 => (if bt528.2 = 0 then (tellurionlaw04_CamFoot.j3 kj59 l0 a2 a3 t503 bt528.1 bt528.2 (decide ((wrap64 (a2 + a3)) > 5))) else (tellurionlaw04_CamFoot.j3 kj59 l0 a2 a3 t503 bt528.1 bt528.2 true))) = some r := by rw [if_neg (show ¬ (false = true) by decide)] at H; exact H
                    clear H
                    have H := H1
                    clear H1
                    replace H := Option.bind_eq_some_iff.mp H
                    obtain ⟨⟨t528, t529⟩, A670, H⟩ := H
                    replace H : (if t529 = 0 then (tellurionlaw04_CamFoot.j3 kj59 l0 a2 a3 t503 t528 t529 (decide ((wrap64 (a2 + a3)) > 5))) else (tellurionlaw04_CamFoot.j3 kj59 l0 a2 a3 t503 t528 t529 true)) = some r := H
                    have A67 := Aside0.mk A670
                    clear A670
                    have HC68 := Aside0.mk H
                    clear H
                    obtain ⟨Ao69, co69, eo69⟩ := Kd.R_slice HO_11.out
                    subst eo69
                    go_upto_region 11 with (first | ((with_reducible refine gate_callee (f := 24) rfl ?_); refine goesL_ (some 142) rfl rfl Tryz.func24 (by kernel_rfl) rfl #[.slice Ao69 t503.length co69, .int .i64 a3] rfl (by (try simp only [List.map_toArray, List.map_cons, List.map_nil]); first | done | rfl | (simp only [List.length_drop, List.length_take]; rfl)) ?_; (with_reducible refine (cam_Follow.calls _ _ t503 a3 t528 t529 _ ?side1 ?side2 A67.out).mono ?_); (case side1 => repeat (first | exact (Kd.R_reads' HO_11.out).2.2 | (with_reducible refine Kd.C_alloc ?_ _) | (with_reducible refine Kd.C_drewN ?_ _) | (with_reducible refine Kd.C_drew ?_))); (case side2 => exact (Kd.R_reads' HO_11.out).2.1); rintro e w70 ⟨v530, rfl, ho0, hb⟩; refine ⟨_, rfl, ?_⟩; have n0_ := Aside0.mk (Kd.R_elder' (by (with_reducible repeat (first | apply Kd.R_alloc | apply Kd.R_drewN | apply Kd.R_drew)); exact HO_11.out) (Kd.R_base ho0) hb); have n1_ := Aside0.mk (Kd.R_lower (Kd.R_new' ho0 (Kd.R_lt (by (with_reducible repeat (first | apply Kd.R_alloc | apply Kd.R_drewN | apply Kd.R_drew)); exact HO_11.out))) (below_size (by repeat (first | (with_reducible first | exact HB.out | apply below_alloc | apply pw_below_drewN | apply below_drew1) | exact HB.out)))); have n2_ := Aside0.mk (below_step (by repeat (first | (with_reducible first | exact HB.out | apply below_alloc | apply pw_below_drewN | apply below_drew1) | exact HB.out)) hb); clear HO_11; clear HB; have HO_11 := n0_; have HO531 := n1_; have HB := n2_; clear n0_ n1_ n2_; (try clear hb); (try clear hb2); (try clear hk); (try clear hi); (try clear ho0)))
                    (try simp only [Act.put, List.setIfInBounds_toArray, List.set_cons_zero, List.set_cons_succ])
                    go_cut [152] (fun v152 wc => ∃ (kq : Nat) (x152_67 : Bool), v152 = .bool x152_67 ∧ Aside0 (tellurionlaw04_CamFoot.j3 kq l0 a2 a3 t503 t528 t529 x152_67 = some r) ∧ Aside0 (kq ≤ kj59) ∧ Aside0 (Kd.R (Kd.int .i64) 3 wc w.heap.size (fun k_ => some k_ ≠ (v530 : Value).ownBlock) (.slice Ao69 t503.length co69) t503) ∧ Aside0 (Kd.R (Kd.int .i64) 3 wc w.heap.size (fun k_ => some k_ ≠ ((.slice Ao69 t503.length co69) : Value).ownBlock) v530 t528) ∧ Aside0 (Below w.heap.size w wc))
                    case first =>
                      have H := HC68.out
                      clear HC68
                      by_cases c71 : t529 = 0
                      · rw [if_pos c71] at H
                        have c71b0 : (t529 == 0) = true := beq_iff_eq.mpr c71
                        have c71b1 : (t529 != 0) = false := bne_eq_false_iff_eq.mpr c71
                        clear c71
                        (first | rw [c71b0] | (simp only [i64_w, i32_w]; rw [c71b0]) | skip)
                        as_aux_lemma =>
                          have H' := Aside0.mk H
                          clear H
                          go_wp2
                          go_meet
                          case rel => exact ⟨_, (decide ((wrap64 (a2 + a3)) > 5)), (by first | rfl | (simp; done) | (simp [*]; done)), H', ⟨by have := HJ5.out; have := HJ27.out; have := HJ59.out; first | omega | exact Nat.le_refl _⟩, ⟨by (with_reducible repeat (first | apply Kd.R_alloc | apply Kd.R_drewN | apply Kd.R_drew)); exact Kd.R_mono HO_11.out (fun _ hk => hk.2)⟩, ⟨by (with_reducible repeat (first | apply Kd.R_alloc | apply Kd.R_drewN | apply Kd.R_drew)); exact Kd.R_mono HO531.out (fun _ hk => hk.2)⟩, ⟨by repeat (first | (with_reducible first | exact HB.out | apply below_alloc | apply pw_below_drewN | apply below_drew1) | exact HB.out)⟩⟩
                      · rw [if_neg c71] at H
                        have c71b0 : (t529 == 0) = false := beq_eq_false_iff_ne.mpr c71
                        have c71b1 : (t529 != 0) = true := bne_iff_ne.mpr c71
                        (first | rw [c71b0] | (simp only [i64_w, i32_w]; rw [c71b0]) | skip)
                        as_aux_lemma =>
                          have H' := Aside0.mk H
                          clear H
                          go_wp2
                          go_meet
                          case rel => exact ⟨_, (true), (by first | rfl | (simp; done) | (simp [*]; done)), H', ⟨by have := HJ5.out; have := HJ27.out; have := HJ59.out; first | omega | exact Nat.le_refl _⟩, ⟨by (with_reducible repeat (first | apply Kd.R_alloc | apply Kd.R_drewN | apply Kd.R_drew)); exact Kd.R_mono HO_11.out (fun _ hk => hk.2)⟩, ⟨by (with_reducible repeat (first | apply Kd.R_alloc | apply Kd.R_drewN | apply Kd.R_drew)); exact Kd.R_mono HO531.out (fun _ hk => hk.2)⟩, ⟨by repeat (first | (with_reducible first | exact HB.out | apply below_alloc | apply pw_below_drewN | apply below_drew1) | exact HB.out)⟩⟩
                    case rest =>
                      clear HC68
                      try clear c1
                      try clear c2
                      try clear p2
                      try clear c3
                      try clear c4
                      try clear c5
                      try clear c6
                      try clear p6
                      try clear c7
                      try clear c8
                      try clear c10
                      try clear c11
                      try clear c12
                      try clear c14
                      try clear c15
                      try clear c15b0
                      try clear c15b1
                      try clear c15b2
                      try clear c17
                      try clear c19
                      try clear c20
                      try clear c20b0
                      try clear c21
                      try clear c24
                      try clear c29
                      try clear c30
                      try clear c34
                      try clear c34b0
                      try clear c34b1
                      try clear c35
                      try clear c35b0
                      try clear c35b1
                      try clear c36
                      try clear c36b0
                      try clear c36b1
                      try clear c38
                      try clear c39
                      try clear c39b0
                      try clear c39b1
                      try clear c39b2
                      try clear c41
                      try clear c44
                      try clear c44b0
                      try clear c44b1
                      try clear c59
                      try clear c62
                      try clear p64
                      try clear c66
                      try clear c71
                      try clear c71b0
                      try clear c71b1
                      try clear p2
                      obtain ⟨kq, x152_67, rfl, HA, HJ67, HO_11, HO_17, HB⟩ := hcut
                      cases kq with
                      | zero => exact absurd HA.out (by simp [tellurionlaw04_CamFoot.j3])
                      | succ kj67 =>
                        have H := HA.out
                        clear HA
                        simp only [tellurionlaw04_CamFoot.j3] at H
                        by_cases c72 : x152_67 = true
                        · subst c72
                          have H1 : (if t529 = 0 then ((tellurionlaw04_known.f).bind fun t532 => (some t532)) else (some false)) = some r := by rw [if_pos rfl] at H; exact H
                          clear H
                          have H := H1
                          clear H1
                          by_cases c73 : t529 = 0
                          · rw [if_pos c73] at H
                            have c73b0 : (t529 == 0) = true := beq_iff_eq.mpr c73
                            have c73b1 : (t529 != 0) = false := bne_eq_false_iff_eq.mpr c73
                            clear c73
                            replace H := Option.bind_eq_some_iff.mp H
                            obtain ⟨t532, A740, H⟩ := H
                            replace H : (some t532) = some r := H
                            have A74 := Aside0.mk A740
                            clear A740
                            as_aux_lemma =>
                              obtain rfl := Option.some.inj H
                              go_wp2_with (first | (go_at_call 11; (with_reducible refine (tellurionlaw04_known.calls  t532 _ A74.out).mono ?_); rintro e w75 ⟨rfl, hb⟩; have n0_ := Aside0.mk (Kd.R_below (by (with_reducible repeat (first | apply Kd.R_alloc | apply Kd.R_drewN | apply Kd.R_drew)); exact HO_11.out) hb); have n1_ := Aside0.mk (Kd.R_below (by (with_reducible repeat (first | apply Kd.R_alloc | apply Kd.R_drewN | apply Kd.R_drew)); exact HO_17.out) hb); have n2_ := Aside0.mk (below_step (by repeat (first | (with_reducible first | exact HB.out | apply below_alloc | apply pw_below_drewN | apply below_drew1) | exact HB.out)) hb); clear HO_11; clear HO_17; clear HB; have HO_11 := n0_; have HO_17 := n1_; have HB := n2_; clear n0_ n1_ n2_; (try clear hb); (try clear hb2); (try clear hk); (try clear hi)))
                              go_ret
                              exact ⟨by first | rfl | (simp [errW_none, errW_some] <;> rfl) | (simp [*, errW_none, errW_some] <;> rfl), by repeat (first | (with_reducible first | exact HB.out | apply below_alloc | apply pw_below_drewN | apply below_drew1) | exact HB.out)⟩
                          · rw [if_neg c73] at H
                            have c73b0 : (t529 == 0) = false := beq_eq_false_iff_ne.mpr c73
                            have c73b1 : (t529 != 0) = true := bne_iff_ne.mpr c73
                            as_aux_lemma =>
                              obtain rfl := Option.some.inj H
                              go_wp2
                              go_ret
                              exact ⟨by first | rfl | (simp [errW_none, errW_some] <;> rfl) | (simp [*, errW_none, errW_some] <;> rfl), by repeat (first | (with_reducible first | exact HB.out | apply below_alloc | apply pw_below_drewN | apply below_drew1) | exact HB.out)⟩
                        · replace c72 := Bool.eq_false_iff.mpr c72
                          subst c72
                          have H1 : ((cam_Follow.f l0 (wrap64 (a2 + a3))).bind fun bt533 => (if bt533.2 = 0 then ((tellurionref04_Same.f kj67 t528 bt533.1).bind fun t537 => (if t537 = true then ((tellurionlaw04_below.f kj67 t503 bt533.1).bind fun t538 => (if t538 = true then ((tellurionlaw04_known.f).bind fun t539 => (some t539)) else (some false))) else (some false))) else (some false))) = some r := by rw [if_neg (show ¬ (false = true) by decide)] at H; exact H
                          clear H
                          have H := H1
                          clear H1
                          replace H := Option.bind_eq_some_iff.mp H
                          obtain ⟨⟨t533, t534⟩, A760, H⟩ := H
                          replace H : (if t534 = 0 then ((tellurionref04_Same.f kj67 t528 t533).bind fun t537 => (if t537 = true then ((tellurionlaw04_below.f kj67 t503 t533).bind fun t538 => (if t538 = true then ((tellurionlaw04_known.f).bind fun t539 => (some t539)) else (some false))) else (some false))) else (some false)) = some r := H
                          have A76 := Aside0.mk A760
                          clear A760
                          by_cases c77 : t534 = 0
                          · rw [if_pos c77] at H
                            have c77b0 : (t534 == 0) = true := beq_iff_eq.mpr c77
                            have c77b1 : (t534 != 0) = false := bne_eq_false_iff_eq.mpr c77
                            clear c77
                            replace H := Option.bind_eq_some_iff.mp H
                            obtain ⟨t537, A780, H⟩ := H
                            replace H : (if t537 = true then ((tellurionlaw04_below.f kj67 t503 t533).bind fun t538 => (if t538 = true then ((tellurionlaw04_known.f).bind fun t539 => (some t539)) else (some false))) else (some false)) = some r := H
                            have A78 := Aside0.mk A780
                            clear A780
                            by_cases c79 : t537 = true
                            · subst c79
                              have H1 : ((tellurionlaw04_below.f kj67 t503 t533).bind fun t538 => (if t538 = true then ((tellurionlaw04_known.f).bind fun t539 => (some t539)) else (some false))) = some r := by rw [if_pos rfl] at H; exact H
                              clear H
                              have H := H1
                              clear H1
                              replace H := Option.bind_eq_some_iff.mp H
                              obtain ⟨t538, A800, H⟩ := H
                              replace H : (if t538 = true then ((tellurionlaw04_known.f).bind fun t539 => (some t539)) else (some false)) = some r := H
                              have A80 := Aside0.mk A800
                              clear A800
                              by_cases c81 : t538 = true
                              · subst c81
                                have H1 : ((tellurionlaw04_known.f).bind fun t539 => (some t539)) = some r := by rw [if_pos rfl] at H; exact H
                                clear H
                                have H := H1
                                clear H1
                                replace H := Option.bind_eq_some_iff.mp H
                                obtain ⟨t539, A820, H⟩ := H
                                replace H : (some t539) = some r := H
                                have A82 := Aside0.mk A820
                                clear A820
                                as_aux_lemma =>
                                  obtain rfl := Option.some.inj H
                                  go_wp2_with (first | ((with_reducible refine gate_callee (f := 24) rfl ?_); refine goesL_ (some 163) rfl rfl Tryz.func24 (by kernel_rfl) rfl #[.slice A0 l0.length c0, .int .i64 (wrap64 (a2 + a3))] rfl (by (try simp only [List.map_toArray, List.map_cons, List.map_nil]); first | done | rfl | (simp only [List.length_drop, List.length_take]; rfl)) ?_; (with_reducible refine (cam_Follow.calls _ _ l0 (wrap64 (a2 + a3)) t533 t534 _ ?side1 ?side2 A76.out).mono ?_); (case side1 => repeat (first | exact (Kd.C_below HR0.out HB.out) | (with_reducible refine Kd.C_alloc ?_ _) | (with_reducible refine Kd.C_drewN ?_ _) | (with_reducible refine Kd.C_drew ?_))); (case side2 => exact HC0.out); rintro e w83 ⟨v535, rfl, ho0, hb⟩; refine ⟨_, rfl, ?_⟩; have n0_ := Aside0.mk (Kd.R_elder' (by (with_reducible repeat (first | apply Kd.R_alloc | apply Kd.R_drewN | apply Kd.R_drew)); exact HO_11.out) (Kd.R_base ho0) hb); have n1_ := Aside0.mk (Kd.R_elder' (by (with_reducible repeat (first | apply Kd.R_alloc | apply Kd.R_drewN | apply Kd.R_drew)); exact HO_17.out) (Kd.R_base ho0) hb); have n2_ := Aside0.mk (Kd.R_lower (Kd.R_new' (Kd.R_new' ho0 (Kd.R_lt (by (with_reducible repeat (first | apply Kd.R_alloc | apply Kd.R_drewN | apply Kd.R_drew)); exact HO_11.out))) (Kd.R_lt (by (with_reducible repeat (first | apply Kd.R_alloc | apply Kd.R_drewN | apply Kd.R_drew)); exact HO_17.out))) (below_size (by repeat (first | (with_reducible first | exact HB.out | apply below_alloc | apply pw_below_drewN | apply below_drew1) | exact HB.out)))); have n3_ := Aside0.mk (below_step (by repeat (first | (with_reducible first | exact HB.out | apply below_alloc | apply pw_below_drewN | apply below_drew1) | exact HB.out)) hb); clear HO_11; clear HO_17; clear HB; have HO_11 := n0_; have HO_17 := n1_; have HO536 := n2_; have HB := n3_; clear n0_ n1_ n2_ n3_; (try clear hb); (try clear hb2); (try clear hk); (try clear hi); (try clear ho0); obtain ⟨Ao84, co84, eo84⟩ := Kd.R_slice HO_17.out; subst eo84; obtain ⟨Ao85, co85, eo85⟩ := Kd.R_slice HO536.out; subst eo85) | (go_at_call 16; (with_reducible refine (tellurionref04_Same.calls kj67 _ _ t528 _ _ t533 true _ ?side1 ?side2 ?side3 ?side4 A78.out).mono ?_); (case side1 => repeat (first | exact (Kd.R_reads' HO_17.out).2.2 | (with_reducible refine Kd.C_alloc ?_ _) | (with_reducible refine Kd.C_drewN ?_ _) | (with_reducible refine Kd.C_drew ?_))); (case side2 => exact (Kd.R_reads' HO_17.out).2.1); (case side3 => repeat (first | exact (Kd.R_reads' HO536.out).2.2 | (with_reducible refine Kd.C_alloc ?_ _) | (with_reducible refine Kd.C_drewN ?_ _) | (with_reducible refine Kd.C_drew ?_))); (case side4 => exact (Kd.R_reads' HO536.out).2.1); rintro e w' ⟨rfl, ⟨nd, rfl⟩⟩) | (go_at_call 30; (with_reducible refine (tellurionlaw04_below.calls kj67 _ _ t503 _ _ t533 true _ ?side1 ?side2 ?side3 ?side4 A80.out).mono ?_); (case side1 => repeat (first | exact (Kd.R_reads' HO_11.out).2.2 | (with_reducible refine Kd.C_alloc ?_ _) | (with_reducible refine Kd.C_drewN ?_ _) | (with_reducible refine Kd.C_drew ?_))); (case side2 => exact (Kd.R_reads' HO_11.out).2.1); (case side3 => repeat (first | exact (Kd.R_reads' HO536.out).2.2 | (with_reducible refine Kd.C_alloc ?_ _) | (with_reducible refine Kd.C_drewN ?_ _) | (with_reducible refine Kd.C_drew ?_))); (case side4 => exact (Kd.R_reads' HO536.out).2.1); rintro e w' ⟨rfl, ⟨nd, rfl⟩⟩) | (go_at_call 11; (with_reducible refine (tellurionlaw04_known.calls  t539 _ A82.out).mono ?_); rintro e w86 ⟨rfl, hb⟩; have n0_ := Aside0.mk (Kd.R_below (by (with_reducible repeat (first | apply Kd.R_alloc | apply Kd.R_drewN | apply Kd.R_drew)); exact HO_11.out) hb); have n1_ := Aside0.mk (Kd.R_below (by (with_reducible repeat (first | apply Kd.R_alloc | apply Kd.R_drewN | apply Kd.R_drew)); exact HO_17.out) hb); have n2_ := Aside0.mk (Kd.R_below (by (with_reducible repeat (first | apply Kd.R_alloc | apply Kd.R_drewN | apply Kd.R_drew)); exact HO536.out) hb); have n3_ := Aside0.mk (below_step (by repeat (first | (with_reducible first | exact HB.out | apply below_alloc | apply pw_below_drewN | apply below_drew1) | exact HB.out)) hb); clear HO_11; clear HO_17; clear HO536; clear HB; have HO_11 := n0_; have HO_17 := n1_; have HO536 := n2_; have HB := n3_; clear n0_ n1_ n2_ n3_; (try clear hb); (try clear hb2); (try clear hk); (try clear hi)))
                                  go_ret
                                  exact ⟨by first | rfl | (simp [errW_none, errW_some] <;> rfl) | (simp [*, errW_none, errW_some] <;> rfl), by repeat (first | (with_reducible first | exact HB.out | apply below_alloc | apply pw_below_drewN | apply below_drew1) | exact HB.out)⟩
                              · replace c81 := Bool.eq_false_iff.mpr c81
                                subst c81
                                have H1 : (some false) = some r := by rw [if_neg (show ¬ (false = true) by decide)] at H; exact H
                                clear H
                                have H := H1
                                clear H1
                                as_aux_lemma =>
                                  obtain rfl := Option.some.inj H
                                  go_wp2_with (first | ((with_reducible refine gate_callee (f := 24) rfl ?_); refine goesL_ (some 163) rfl rfl Tryz.func24 (by kernel_rfl) rfl #[.slice A0 l0.length c0, .int .i64 (wrap64 (a2 + a3))] rfl (by (try simp only [List.map_toArray, List.map_cons, List.map_nil]); first | done | rfl | (simp only [List.length_drop, List.length_take]; rfl)) ?_; (with_reducible refine (cam_Follow.calls _ _ l0 (wrap64 (a2 + a3)) t533 t534 _ ?side1 ?side2 A76.out).mono ?_); (case side1 => repeat (first | exact (Kd.C_below HR0.out HB.out) | (with_reducible refine Kd.C_alloc ?_ _) | (with_reducible refine Kd.C_drewN ?_ _) | (with_reducible refine Kd.C_drew ?_))); (case side2 => exact HC0.out); rintro e w87 ⟨v535, rfl, ho0, hb⟩; refine ⟨_, rfl, ?_⟩; have n0_ := Aside0.mk (Kd.R_elder' (by (with_reducible repeat (first | apply Kd.R_alloc | apply Kd.R_drewN | apply Kd.R_drew)); exact HO_11.out) (Kd.R_base ho0) hb); have n1_ := Aside0.mk (Kd.R_elder' (by (with_reducible repeat (first | apply Kd.R_alloc | apply Kd.R_drewN | apply Kd.R_drew)); exact HO_17.out) (Kd.R_base ho0) hb); have n2_ := Aside0.mk (Kd.R_lower (Kd.R_new' (Kd.R_new' ho0 (Kd.R_lt (by (with_reducible repeat (first | apply Kd.R_alloc | apply Kd.R_drewN | apply Kd.R_drew)); exact HO_11.out))) (Kd.R_lt (by (with_reducible repeat (first | apply Kd.R_alloc | apply Kd.R_drewN | apply Kd.R_drew)); exact HO_17.out))) (below_size (by repeat (first | (with_reducible first | exact HB.out | apply below_alloc | apply pw_below_drewN | apply below_drew1) | exact HB.out)))); have n3_ := Aside0.mk (below_step (by repeat (first | (with_reducible first | exact HB.out | apply below_alloc | apply pw_below_drewN | apply below_drew1) | exact HB.out)) hb); clear HO_11; clear HO_17; clear HB; have HO_11 := n0_; have HO_17 := n1_; have HO536 := n2_; have HB := n3_; clear n0_ n1_ n2_ n3_; (try clear hb); (try clear hb2); (try clear hk); (try clear hi); (try clear ho0); obtain ⟨Ao88, co88, eo88⟩ := Kd.R_slice HO_17.out; subst eo88; obtain ⟨Ao89, co89, eo89⟩ := Kd.R_slice HO536.out; subst eo89) | (go_at_call 16; (with_reducible refine (tellurionref04_Same.calls kj67 _ _ t528 _ _ t533 true _ ?side1 ?side2 ?side3 ?side4 A78.out).mono ?_); (case side1 => repeat (first | exact (Kd.R_reads' HO_17.out).2.2 | (with_reducible refine Kd.C_alloc ?_ _) | (with_reducible refine Kd.C_drewN ?_ _) | (with_reducible refine Kd.C_drew ?_))); (case side2 => exact (Kd.R_reads' HO_17.out).2.1); (case side3 => repeat (first | exact (Kd.R_reads' HO536.out).2.2 | (with_reducible refine Kd.C_alloc ?_ _) | (with_reducible refine Kd.C_drewN ?_ _) | (with_reducible refine Kd.C_drew ?_))); (case side4 => exact (Kd.R_reads' HO536.out).2.1); rintro e w' ⟨rfl, ⟨nd, rfl⟩⟩) | (go_at_call 30; (with_reducible refine (tellurionlaw04_below.calls kj67 _ _ t503 _ _ t533 false _ ?side1 ?side2 ?side3 ?side4 A80.out).mono ?_); (case side1 => repeat (first | exact (Kd.R_reads' HO_11.out).2.2 | (with_reducible refine Kd.C_alloc ?_ _) | (with_reducible refine Kd.C_drewN ?_ _) | (with_reducible refine Kd.C_drew ?_))); (case side2 => exact (Kd.R_reads' HO_11.out).2.1); (case side3 => repeat (first | exact (Kd.R_reads' HO536.out).2.2 | (with_reducible refine Kd.C_alloc ?_ _) | (with_reducible refine Kd.C_drewN ?_ _) | (with_reducible refine Kd.C_drew ?_))); (case side4 => exact (Kd.R_reads' HO536.out).2.1); rintro e w' ⟨rfl, ⟨nd, rfl⟩⟩))
                                  go_ret
                                  exact ⟨by first | rfl | (simp [errW_none, errW_some] <;> rfl) | (simp [*, errW_none, errW_some] <;> rfl), by repeat (first | (with_reducible first | exact HB.out | apply below_alloc | apply pw_below_drewN | apply below_drew1) | exact HB.out)⟩
                            · replace c79 := Bool.eq_false_iff.mpr c79
                              subst c79
                              have H1 : (some false) = some r := by rw [if_neg (show ¬ (false = true) by decide)] at H; exact H
                              clear H
                              have H := H1
                              clear H1
                              as_aux_lemma =>
                                obtain rfl := Option.some.inj H
                                go_wp2_with (first | ((with_reducible refine gate_callee (f := 24) rfl ?_); refine goesL_ (some 163) rfl rfl Tryz.func24 (by kernel_rfl) rfl #[.slice A0 l0.length c0, .int .i64 (wrap64 (a2 + a3))] rfl (by (try simp only [List.map_toArray, List.map_cons, List.map_nil]); first | done | rfl | (simp only [List.length_drop, List.length_take]; rfl)) ?_; (with_reducible refine (cam_Follow.calls _ _ l0 (wrap64 (a2 + a3)) t533 t534 _ ?side1 ?side2 A76.out).mono ?_); (case side1 => repeat (first | exact (Kd.C_below HR0.out HB.out) | (with_reducible refine Kd.C_alloc ?_ _) | (with_reducible refine Kd.C_drewN ?_ _) | (with_reducible refine Kd.C_drew ?_))); (case side2 => exact HC0.out); rintro e w90 ⟨v535, rfl, ho0, hb⟩; refine ⟨_, rfl, ?_⟩; have n0_ := Aside0.mk (Kd.R_elder' (by (with_reducible repeat (first | apply Kd.R_alloc | apply Kd.R_drewN | apply Kd.R_drew)); exact HO_11.out) (Kd.R_base ho0) hb); have n1_ := Aside0.mk (Kd.R_elder' (by (with_reducible repeat (first | apply Kd.R_alloc | apply Kd.R_drewN | apply Kd.R_drew)); exact HO_17.out) (Kd.R_base ho0) hb); have n2_ := Aside0.mk (Kd.R_lower (Kd.R_new' (Kd.R_new' ho0 (Kd.R_lt (by (with_reducible repeat (first | apply Kd.R_alloc | apply Kd.R_drewN | apply Kd.R_drew)); exact HO_11.out))) (Kd.R_lt (by (with_reducible repeat (first | apply Kd.R_alloc | apply Kd.R_drewN | apply Kd.R_drew)); exact HO_17.out))) (below_size (by repeat (first | (with_reducible first | exact HB.out | apply below_alloc | apply pw_below_drewN | apply below_drew1) | exact HB.out)))); have n3_ := Aside0.mk (below_step (by repeat (first | (with_reducible first | exact HB.out | apply below_alloc | apply pw_below_drewN | apply below_drew1) | exact HB.out)) hb); clear HO_11; clear HO_17; clear HB; have HO_11 := n0_; have HO_17 := n1_; have HO536 := n2_; have HB := n3_; clear n0_ n1_ n2_ n3_; (try clear hb); (try clear hb2); (try clear hk); (try clear hi); (try clear ho0); obtain ⟨Ao91, co91, eo91⟩ := Kd.R_slice HO_17.out; subst eo91; obtain ⟨Ao92, co92, eo92⟩ := Kd.R_slice HO536.out; subst eo92) | (go_at_call 16; (with_reducible refine (tellurionref04_Same.calls kj67 _ _ t528 _ _ t533 false _ ?side1 ?side2 ?side3 ?side4 A78.out).mono ?_); (case side1 => repeat (first | exact (Kd.R_reads' HO_17.out).2.2 | (with_reducible refine Kd.C_alloc ?_ _) | (with_reducible refine Kd.C_drewN ?_ _) | (with_reducible refine Kd.C_drew ?_))); (case side2 => exact (Kd.R_reads' HO_17.out).2.1); (case side3 => repeat (first | exact (Kd.R_reads' HO536.out).2.2 | (with_reducible refine Kd.C_alloc ?_ _) | (with_reducible refine Kd.C_drewN ?_ _) | (with_reducible refine Kd.C_drew ?_))); (case side4 => exact (Kd.R_reads' HO536.out).2.1); rintro e w' ⟨rfl, ⟨nd, rfl⟩⟩))
                                go_ret
                                exact ⟨by first | rfl | (simp [errW_none, errW_some] <;> rfl) | (simp [*, errW_none, errW_some] <;> rfl), by repeat (first | (with_reducible first | exact HB.out | apply below_alloc | apply pw_below_drewN | apply below_drew1) | exact HB.out)⟩
                          · rw [if_neg c77] at H
                            have c77b0 : (t534 == 0) = false := beq_eq_false_iff_ne.mpr c77
                            have c77b1 : (t534 != 0) = true := bne_iff_ne.mpr c77
                            as_aux_lemma =>
                              obtain rfl := Option.some.inj H
                              go_wp2_with (first | ((with_reducible refine gate_callee (f := 24) rfl ?_); refine goesL_ (some 163) rfl rfl Tryz.func24 (by kernel_rfl) rfl #[.slice A0 l0.length c0, .int .i64 (wrap64 (a2 + a3))] rfl (by (try simp only [List.map_toArray, List.map_cons, List.map_nil]); first | done | rfl | (simp only [List.length_drop, List.length_take]; rfl)) ?_; (with_reducible refine (cam_Follow.calls _ _ l0 (wrap64 (a2 + a3)) t533 t534 _ ?side1 ?side2 A76.out).mono ?_); (case side1 => repeat (first | exact (Kd.C_below HR0.out HB.out) | (with_reducible refine Kd.C_alloc ?_ _) | (with_reducible refine Kd.C_drewN ?_ _) | (with_reducible refine Kd.C_drew ?_))); (case side2 => exact HC0.out); rintro e w93 ⟨v535, rfl, ho0, hb⟩; refine ⟨_, rfl, ?_⟩; have n0_ := Aside0.mk (Kd.R_elder' (by (with_reducible repeat (first | apply Kd.R_alloc | apply Kd.R_drewN | apply Kd.R_drew)); exact HO_11.out) (Kd.R_base ho0) hb); have n1_ := Aside0.mk (Kd.R_elder' (by (with_reducible repeat (first | apply Kd.R_alloc | apply Kd.R_drewN | apply Kd.R_drew)); exact HO_17.out) (Kd.R_base ho0) hb); have n2_ := Aside0.mk (Kd.R_lower (Kd.R_new' (Kd.R_new' ho0 (Kd.R_lt (by (with_reducible repeat (first | apply Kd.R_alloc | apply Kd.R_drewN | apply Kd.R_drew)); exact HO_11.out))) (Kd.R_lt (by (with_reducible repeat (first | apply Kd.R_alloc | apply Kd.R_drewN | apply Kd.R_drew)); exact HO_17.out))) (below_size (by repeat (first | (with_reducible first | exact HB.out | apply below_alloc | apply pw_below_drewN | apply below_drew1) | exact HB.out)))); have n3_ := Aside0.mk (below_step (by repeat (first | (with_reducible first | exact HB.out | apply below_alloc | apply pw_below_drewN | apply below_drew1) | exact HB.out)) hb); clear HO_11; clear HO_17; clear HB; have HO_11 := n0_; have HO_17 := n1_; have HO536 := n2_; have HB := n3_; clear n0_ n1_ n2_ n3_; (try clear hb); (try clear hb2); (try clear hk); (try clear hi); (try clear ho0)))
                              go_ret
                              exact ⟨by first | rfl | (simp [errW_none, errW_some] <;> rfl) | (simp [*, errW_none, errW_some] <;> rfl), by repeat (first | (with_reducible first | exact HB.out | apply below_alloc | apply pw_below_drewN | apply below_drew1) | exact HB.out)⟩
end Go.Proofs.YtbjimmemcmjpcaaGreatDoor.Print
end
section
set_option linter.unusedVariables false
set_option linter.unusedSimpArgs false
namespace Go.Proofs.YtbjimmemcmjpcaaGreatDoor.Print
open Go.RowKit Go.Proofs.YtbjimmemcmjpcaaGreatDoorW.PrintWords Go.Proofs.YtbjimmemcmjpcaaGreatDoorW.PrintLast Go.Proofs.YtbjimmemcmjpcaaGreatDoorW.PrintMore
theorem Ev.at {α : Type} {g : Nat → Option α} {r : α} (h : Ev g r) : ∃ K, ∀ d, g (K + d) = some r := by
  obtain ⟨K, h⟩ := h
  exact ⟨K, fun d => h _ (by omega)⟩
theorem Ev.with {α β : Type} {g : Nat → Option α} {f : Nat → Option β} {r : α} {q : β} (h : Ev g r) (h' : Ev f q) : ∃ K, ∀ k, K ≤ k → g k = some r ∧ f k = some q := by
  obtain ⟨K, h⟩ := h
  obtain ⟨K', h'⟩ := h'
  exact ⟨max K K', fun k hk => ⟨h k (by omega), h' k (by omega)⟩⟩
theorem foot_eval (K : Nat) (l o A B C D E : List Int) (m q c s : Int) (hs0 : (l.length : Int) ≤ 27) (hs1 : (o.length : Int) ≤ 27) (c1 : isCamB l = true) (c2 : isCamB o = true) (c3 : (o.length : Int) = (l.length : Int)) (c4 : isFootB m = true) (c5 : isFootB q = true) (c6 : ¬ c < 0) (c7 : ¬ c ≥ (l.length : Int))
    (e1 : tellurionref04_Cam.f (K + 4) l = some (isCamB l)) (e2 : tellurionref04_Cam.f (K + 4) o = some (isCamB o)) (f1 : cam_Follow.f l m = some (A, 0)) (f2 : cam_Follow.f o m = some (B, 0)) (e3 : tellurionref04_Turn.f (K + 3) l c = some D) (f3 : cam_Follow.f D m = some (E, 0))
    (e4 : tellurionref04_Cam.f (K + 3) A = some (isCamB A)) (cA : isCamB A = true) (lA : (A.length : Int) = (l.length : Int)) (e5 : tellurionlaw04_below.f (K + 3) l A = some (belowB l A)) (b1 : belowB l A = true) (g : Int) (e6 : tellurionref04_Greatest.f (K + 3) A = some g) (e7 : tellurionref04_Greatest.f (K + 3) l = some g)
    (e8 : tellurionref04_Turn.f (K + 3) A c = some E) (e9 : tellurionref04_Same.f (K + 3) E E = some true) (bo : Bool) (e10 : tellurionlaw04_below.f (K + 2) l o = some bo) (e11 : bo = true → tellurionlaw04_below.f (K + 2) A B = some true) (f4 : cam_Follow.f A q = some (C, 0)) (e0 : wrap64 (m + q) = s)
    (h5 : s > 5 ∨ isFootB s = true) (hC : isFootB s = true → cam_Follow.f l s = some (C, 0)) (e12 : tellurionref04_Same.f K C C = some true) (e13 : tellurionlaw04_below.f K A C = some true) : tellurionlaw04_CamFoot.f (K + 4) l o m q c = some true := by
  have j3 : tellurionlaw04_CamFoot.j3 (K + 1) l m q A C 0 (decide ((wrap64 (m + q)) > 5)) = some true := by
    rw [tellurionlaw04_CamFoot.j3, e0]
    by_cases h : s > 5
    · simp only [h, decide_true, if_true, tellurionlaw04_known.f, Option.bind_some]
    · have h2 := hC (h5.resolve_left h)
      simp only [h, decide_false, Bool.false_eq_true, if_false, h2, tellurionlaw04_known.f, Option.bind_some, if_true, e12, e13, decide_true]
  have j2 : tellurionlaw04_CamFoot.j2 (K + 2) l m q A false = some true := by
    rw [tellurionlaw04_CamFoot.j2, if_neg (by simp), f4]
    simp only [Option.bind_some, if_true]
    exact j3
  have j1 : tellurionlaw04_CamFoot.j1 (K + 3) l o m q A B false = some true := by
    rw [tellurionlaw04_CamFoot.j1, if_neg (by simp), e10]
    cases bo with
    | false => simp only [Option.bind_some, Bool.false_eq_true, if_false, j2]
    | true => simp only [Option.bind_some, if_true, e11 rfl, Bool.not_true, j2]
  unfold tellurionlaw04_CamFoot.f tellurionlaw04_short.f
  simp only [Option.bind_some, hs0, hs1, decide_true, if_true, e1, e2, refFoot_f, c1, c2, c3, c4, c5, c6, c7, if_false, decide_false]
  rw [tellurionlaw04_CamFoot.j0, if_neg (by simp), f1, f2]
  simp only [Option.bind_some, e3, f3, if_true, e4, cA, lA, e5, b1, e6, e7, e8, e9, decide_true, Bool.not_true, j1]
set_option maxHeartbeats 2000000 in
theorem camFoot_pure (l o : List Int) (a b c : Int) (hm0 : l.length ≤ maxLen) (hw0 : ∀ x ∈ l, (Lit.int .i64 x).wf = true) (hm1 : o.length ≤ maxLen) (hw1 : ∀ x ∈ o, (Lit.int .i64 x).wf = true)
    (ha : (Lit.int .i64 a).wf = true) (hb : (Lit.int .i64 b).wf = true) (hc : (Lit.int .i64 c).wf = true) : ∃ k, tellurionlaw04_CamFoot.f k l o a b c = some true := by
  clear hm0 hw0 hm1 hw1 ha hb hc
  have ej : ∀ k, tellurionlaw04_CamFoot.j0 (k + 1) l o a b c true = some true := fun k => by simp only [tellurionlaw04_CamFoot.j0, if_true, tellurionlaw04_known.f, Option.bind_some]
  by_cases hs0 : (l.length : Int) ≤ 27
  case neg => exact ⟨1, by unfold tellurionlaw04_CamFoot.f tellurionlaw04_short.f; simp only [Option.bind_some, hs0, decide_false, Bool.false_eq_true, if_false, ej 0]⟩
  by_cases hs1 : (o.length : Int) ≤ 27
  case neg => exact ⟨1, by unfold tellurionlaw04_CamFoot.f tellurionlaw04_short.f; simp only [Option.bind_some, hs0, hs1, decide_false, decide_true, Bool.false_eq_true, if_true, if_false, ej 0]⟩
  obtain ⟨K1, h1⟩ := evR_cam l (by omega)
  obtain ⟨K2, h2⟩ := evR_cam o (by omega)
  by_cases g : isCamB l = true ∧ isCamB o = true ∧ (o.length : Int) = (l.length : Int) ∧ isFootB a = true ∧ isFootB b = true ∧ ¬ c < 0 ∧ ¬ c ≥ (l.length : Int)
  case neg =>
    refine ⟨K1 + K2 + 1, ?_⟩
    have e1 := h1 (K1 + K2 + 1) (by omega)
    have e2 := h2 (K1 + K2 + 1) (by omega)
    simp only [] at e1 e2
    have e3 := ej (K1 + K2)
    unfold tellurionlaw04_CamFoot.f tellurionlaw04_short.f
    simp only [Option.bind_some, hs0, hs1, decide_true, if_true, e1, e2, refFoot_f]
    by_cases c1 : isCamB l = true
    · by_cases c2 : isCamB o = true
      · by_cases c3 : (o.length : Int) = (l.length : Int)
        · by_cases c4 : isFootB a = true
          · by_cases c5 : isFootB b = true
            · by_cases c6 : c < 0
              · simp only [c1, c2, c3, c4, c5, c6, if_true, e3]
              · have c7 : c ≥ (l.length : Int) := Classical.byContradiction fun h => g ⟨c1, c2, c3, c4, c5, c6, h⟩
                simp only [c1, c2, c3, c4, c5, c6, c7, if_true, if_false, decide_true, e3]
            · simp only [c1, c2, c3, c4, c5, if_true, if_false, Bool.false_eq_true, e3]
          · simp only [c1, c2, c3, c4, if_true, if_false, Bool.false_eq_true, e3]
        · simp only [c1, c2, c3, if_true, if_false, Bool.false_eq_true, e3]
      · simp only [c1, c2, if_true, if_false, Bool.false_eq_true, e3]
    · simp only [c1, if_true, if_false, Bool.false_eq_true, e3]
  obtain ⟨c1, c2, c3, c4, c5, c6, c7⟩ := g
  have ca : 0 ≤ a ∧ a ≤ 5 := by simpa [isFootB] using c4
  have cb : 0 ≤ b ∧ b ≤ 5 := by simpa [isFootB] using c5
  obtain ⟨m, rfl⟩ := Int.eq_ofNat_of_zero_le ca.1
  obtain ⟨q, rfl⟩ := Int.eq_ofNat_of_zero_le cb.1
  obtain ⟨hl, hv⟩ := (isCam_iff l).1 c1
  have hlo : o.length = l.length := by omega
  have f1 := cam_Follow_yes (m := m) c1 (by omega)
  have f2 := cam_Follow_yes (m := m) c2 (by omega)
  have ct := turn_cam l c c1
  have f3 := cam_Follow_yes (m := m) ct (by omega)
  have cA := maxs_cam l m c1
  have f4 := cam_Follow_yes (m := q) cA (by omega)
  have nA := maxs_len l m
  have nO := maxs_len o m
  have nT := turn_len l c
  have hl1 : 1 ≤ l.length := by omega
  rw [maxs_turn l m hl1 c] at f3
  rw [nA, maxs_maxs l m q hl1] at f4
  have b1 : belowB l (maxsL l m l.length) = true := (below_iff _ _ hl1 nA).2 (maxs_above l m hl1)
  obtain ⟨K3, h3⟩ := evR_turn l c ⟨hl1, by omega⟩ ⟨by omega, by omega⟩
  obtain ⟨K4, h4⟩ := evR_cam (maxsL l m l.length) (by omega)
  obtain ⟨K5, h5⟩ := evL_below l (maxsL l m l.length) nA (by omega)
  obtain ⟨K6, h6⟩ := evR_greatest (maxsL l m l.length) (by omega)
  obtain ⟨K7, h7⟩ := evR_greatest l (by omega)
  obtain ⟨K8, h8⟩ := evR_turn (maxsL l m l.length) c (by omega) ⟨by omega, by omega⟩
  obtain ⟨K9, h9⟩ := evR_same (turnL (maxsL l m l.length) c) (turnL (maxsL l m l.length) c) (by rw [turn_len]; omega)
  obtain ⟨K10, h10⟩ := evL_below l o hlo (by omega)
  obtain ⟨K11, h11⟩ := evL_below (maxsL l m l.length) (maxsL o m o.length) (by omega) (by omega)
  have lq : (maxsL l (m + q) l.length).length = l.length := maxs_len l (m + q)
  obtain ⟨K12, h12⟩ := evR_same (maxsL l (m + q) l.length) (maxsL l (m + q) l.length) (by omega)
  obtain ⟨K13, h13⟩ := evL_below (maxsL l m l.length) (maxsL l (m + q) l.length) (by omega) (by omega)
  have b2 : belowB (maxsL l m l.length) (maxsL l (m + q) l.length) = true := by
    rw [← maxs_maxs l m q hl1]
    have := maxs_above (maxsL l m l.length) q (by omega)
    rw [nA] at this
    exact (below_iff _ _ (by omega) (by rw [nA]; simp [maxsL])).2 this
  have b3 : belowB l o = true → belowB (maxsL l m l.length) (maxsL o m o.length) = true := fun h =>
    (below_iff _ _ (by omega) (by omega)).2 (maxs_mono m hl1 hlo ((below_iff _ _ hl1 hlo).1 h))
  have e0 : wrap64 ((m : Int) + (q : Int)) = ((m + q : Nat) : Int) := by rw [w64 _ (by omega)]; omega
  generalize hK : K1 + K2 + K3 + K4 + K5 + K6 + K7 + K8 + K9 + K10 + K11 + K12 + K13 = K
  refine ⟨K + 4, ?_⟩
  have e1 := h1 (K + 4) (by omega)
  have e2 := h2 (K + 4) (by omega)
  have e3 := h3 (K + 3) (by omega)
  have e4 := h4 (K + 3) (by omega)
  have e5 := h5 (K + 3) (by omega)
  have e6 := h6 (K + 3) (by omega)
  have e7 := h7 (K + 3) (by omega)
  have e8 := h8 (K + 3) (by omega)
  have e9 := h9 (K + 3) (by omega)
  have e10 := h10 (K + 2) (by omega)
  have e11 := h11 (K + 2) (by omega)
  have e12 := h12 K (by omega)
  have e13 := h13 K (by omega)
  simp only [] at e1 e2 e3 e4 e5 e6 e7 e8 e9 e10 e11 e12 e13
  have lA : ((maxsL l m l.length).length : Int) = (l.length : Int) := by omega
  have hC : isFootB ((m + q : Nat) : Int) = true → cam_Follow.f l ((m + q : Nat) : Int) = some (maxsL l (m + q) l.length, 0) := fun h => cam_Follow_yes c1 (by simp [isFootB] at h; omega)
  have h5 : ((m + q : Nat) : Int) > 5 ∨ isFootB ((m + q : Nat) : Int) = true := by
    by_cases h : ((m + q : Nat) : Int) > 5
    · exact .inl h
    · exact .inr (by simp [isFootB]; omega)
  exact foot_eval K l o (maxsL l m l.length) (maxsL o m o.length) (maxsL l (m + q) l.length) (turnL l c) (turnL (maxsL l m l.length) c) m q c ((m + q : Nat) : Int) hs0 hs1 c1 c2 c3 c4 c5 c6 c7 e1 e2 f1 f2 e3 f3 e4 cA lA e5 b1 _ e6 (by rw [e7, maxs_max l m hl1]) e8 (by simpa using e9) (belowB l o) e10 (fun h => by rw [e11, b3 h]) f4 e0 h5 hC (by simpa using e12) (by rw [e13, b2])
end Go.Proofs.YtbjimmemcmjpcaaGreatDoor.Print
end

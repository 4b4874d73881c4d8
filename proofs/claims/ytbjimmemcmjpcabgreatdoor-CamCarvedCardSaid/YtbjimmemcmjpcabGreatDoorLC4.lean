/- The law's Go function answers true for every input, and leaves its arguments as they were: its parts, the plain law, the row, the card. Joined by wip/pack.py. -/
import Derived.Test.YtbjimmemcmjpcabGreatDoorB3
import Derived.Test.YtbjimmemcmjpcabGreatDoorLC1
import Derived.Test.YtbjimmemcmjpcabGreatDoorLC2
import Derived.Test.YtbjimmemcmjpcabGreatDoorB4
import Derived.Test.YtbjimmemcmjpcabGreatDoorB20
import Derived.Test.YtbjimmemcmjpcabGreatDoorLC3
section
namespace Go.Proofs.YtbjimmemcmjpcabGreatDoor.Print
open Go.RowKit Go.Proofs.YtbjimmemcmjpcabGreatDoorW.PrintWords Go.Proofs.YtbjimmemcmjpcabGreatDoorW.PrintLast Go.Proofs.YtbjimmemcmjpcabGreatDoorW.PrintMore
attribute [local go_sem] max2_int min2_int max_two min_two max_three min_three max_four min_four
set_option linter.unusedVariables false
set_option linter.unusedSimpArgs false
mutual
def tellurionlaw04_CamCarved.j0 : Nat → List Int → Int → List Int → Int → Bool → Option (Bool)
  | 0, _, _, _, _, _ => none
  | k + 1, x0, x1, x2, x3, x62 => if x62 = true then ((tellurionlaw04_known.f).bind fun t433 => (some t433)) else ((cam_Carve.f x0 x1).bind fun bt434 => ((tellurionref04_Turn.f k x0 x3).bind fun t439 => ((cam_Carve.f t439 x1).bind fun bt442 => (if bt434.2.2 = 0 then ((tellurionref04_Cam.f k bt434.1).bind fun t447 => (if t447 = true then (if (bt434.1.length : Int) = (x0.length : Int) then (if bt442.2.2 = 0 then (if bt442.2.1 = bt434.2.1 then ((tellurionref04_Turn.f k bt434.1 x3).bind fun t448 => ((tellurionref04_Same.f k bt442.1 t448).bind fun t451 => (tellurionlaw04_CamCarved.j1 k x0 x1 x2 bt434.1 bt434.2.1 (!t451)))) else (tellurionlaw04_CamCarved.j1 k x0 x1 x2 bt434.1 bt434.2.1 true)) else (tellurionlaw04_CamCarved.j1 k x0 x1 x2 bt434.1 bt434.2.1 true)) else (tellurionlaw04_CamCarved.j1 k x0 x1 x2 bt434.1 bt434.2.1 true)) else (tellurionlaw04_CamCarved.j1 k x0 x1 x2 bt434.1 bt434.2.1 true))) else (tellurionlaw04_CamCarved.j1 k x0 x1 x2 bt434.1 bt434.2.1 true)))))
def tellurionlaw04_CamCarved.j1 : Nat → List Int → Int → List Int → List Int → Int → Bool → Option (Bool)
  | 0, _, _, _, _, _, _ => none
  | k + 1, x0, x1, x2, x9, x10, x110 => if x110 = true then (some false) else ((cam_Follow.f x9 x1).bind fun bt452 => ((cam_Follow.f x2 x1).bind fun bt456 => (if bt452.2 = 0 then (tellurionlaw04_CamCarved.j2 k x0 x2 x9 x10 bt452.1 bt456.1 (bt456.2 != 0)) else (tellurionlaw04_CamCarved.j2 k x0 x2 x9 x10 bt452.1 bt456.1 true))))
def tellurionlaw04_CamCarved.j2 : Nat → List Int → List Int → List Int → Int → List Int → List Int → Bool → Option (Bool)
  | 0, _, _, _, _, _, _, _ => none
  | k + 1, x0, x2, x9, x10, x15, x17, x128 => if x128 = true then (some false) else ((cam_Error.f k x15 x0).bind fun bt460 => ((cam_Error.f k x17 x0).bind fun bt462 => (if bt460.2 = 0 then (if bt462.2 = 0 then (if bt460.1 = x10 then (if bt462.1 ≥ x10 then (if bt462.1 > x10 then ((tellurionlaw04_known.f).bind fun t464 => (some t464)) else ((tellurionlaw04_below.f k x2 x9).bind fun t465 => (if t465 = true then ((tellurionlaw04_known.f).bind fun t466 => (some t466)) else (some false)))) else (some false)) else (some false)) else (some false)) else (some false))))
end
def tellurionlaw04_CamCarved.f (k : Nat) (l0 : List Int) (a1 : Int) (l2 : List Int) (a3 : Int) : Option (Bool) := (tellurionlaw04_short.f l0).bind fun t428 => (if t428 = true then ((tellurionlaw04_short.f l2).bind fun t429 => (if t429 = true then ((tellurionref04_Cam.f k l0).bind fun t430 => (if t430 = true then ((tellurionref04_Foot.f a1).bind fun t431 => (if t431 = true then ((tellurionref04_Cam.f k l2).bind fun t432 => (if t432 = true then (if (l2.length : Int) = (l0.length : Int) then (if a3 < 0 then (tellurionlaw04_CamCarved.j0 k l0 a1 l2 a3 true) else (tellurionlaw04_CamCarved.j0 k l0 a1 l2 a3 (decide (a3 ≥ (l0.length : Int))))) else (tellurionlaw04_CamCarved.j0 k l0 a1 l2 a3 true)) else (tellurionlaw04_CamCarved.j0 k l0 a1 l2 a3 true))) else (tellurionlaw04_CamCarved.j0 k l0 a1 l2 a3 true))) else (tellurionlaw04_CamCarved.j0 k l0 a1 l2 a3 true))) else (tellurionlaw04_CamCarved.j0 k l0 a1 l2 a3 true))) else (tellurionlaw04_CamCarved.j0 k l0 a1 l2 a3 true))
theorem tellurionlaw04_CamCarved.mono_l : ∀ k, (∀ y0 y1 y2 y3 y4, LeO (tellurionlaw04_CamCarved.j0 k y0 y1 y2 y3 y4) (tellurionlaw04_CamCarved.j0 (k + 1) y0 y1 y2 y3 y4)) ∧ (∀ y0 y1 y2 y3 y4 y5, LeO (tellurionlaw04_CamCarved.j1 k y0 y1 y2 y3 y4 y5) (tellurionlaw04_CamCarved.j1 (k + 1) y0 y1 y2 y3 y4 y5)) ∧ (∀ y0 y1 y2 y3 y4 y5 y6, LeO (tellurionlaw04_CamCarved.j2 k y0 y1 y2 y3 y4 y5 y6) (tellurionlaw04_CamCarved.j2 (k + 1) y0 y1 y2 y3 y4 y5 y6))
  | 0 => ⟨fun _ _ _ _ _ r h => by simp [tellurionlaw04_CamCarved.j0] at h, fun _ _ _ _ _ _ r h => by simp [tellurionlaw04_CamCarved.j1] at h, fun _ _ _ _ _ _ _ r h => by simp [tellurionlaw04_CamCarved.j2] at h⟩
  | k + 1 => by
    obtain ⟨ih0, ih1, ih2⟩ := tellurionlaw04_CamCarved.mono_l k
    refine ⟨?_, ?_, ?_⟩
    · intro y0 y1 y2 y3 y4
      unfold tellurionlaw04_CamCarved.j0
      repeat' first
      | (with_reducible exact ih0 _ _ _ _ _)
      | (with_reducible exact ih1 _ _ _ _ _ _)
      | (with_reducible exact ih2 _ _ _ _ _ _ _)
      | (with_reducible exact cam_Error.mono _ _ _)
      | (with_reducible exact tellurionlaw04_below.mono _ _ _)
      | (with_reducible exact tellurionref04_Cam.mono _ _)
      | (with_reducible exact tellurionref04_Same.mono _ _ _)
      | (with_reducible exact tellurionref04_Turn.mono _ _ _)
      | (with_reducible exact LeO.refl _)
      | (with_reducible exact LeO.none _)
      | (with_reducible refine LeO.ite ?_ ?_)
      | (with_reducible refine LeO.bind ?_ (fun _ => ?_))
      | exact ih0 _ _ _ _ _
      | exact ih1 _ _ _ _ _ _
      | exact ih2 _ _ _ _ _ _ _
      | exact cam_Error.mono _ _ _
      | exact tellurionlaw04_below.mono _ _ _
      | exact tellurionref04_Cam.mono _ _
      | exact tellurionref04_Same.mono _ _ _
      | exact tellurionref04_Turn.mono _ _ _
      | exact LeO.none _
      | refine LeO.ite ?_ ?_
      | refine LeO.bind ?_ (fun _ => ?_)
    · intro y0 y1 y2 y3 y4 y5
      unfold tellurionlaw04_CamCarved.j1
      repeat' first
      | (with_reducible exact ih0 _ _ _ _ _)
      | (with_reducible exact ih1 _ _ _ _ _ _)
      | (with_reducible exact ih2 _ _ _ _ _ _ _)
      | (with_reducible exact cam_Error.mono _ _ _)
      | (with_reducible exact tellurionlaw04_below.mono _ _ _)
      | (with_reducible exact tellurionref04_Cam.mono _ _)
      | (with_reducible exact tellurionref04_Same.mono _ _ _)
      | (with_reducible exact tellurionref04_Turn.mono _ _ _)
      | (with_reducible exact LeO.refl _)
      | (with_reducible exact LeO.none _)
      | (with_reducible refine LeO.ite ?_ ?_)
      | (with_reducible refine LeO.bind ?_ (fun _ => ?_))
      | exact ih0 _ _ _ _ _
      | exact ih1 _ _ _ _ _ _
      | exact ih2 _ _ _ _ _ _ _
      | exact cam_Error.mono _ _ _
      | exact tellurionlaw04_below.mono _ _ _
      | exact tellurionref04_Cam.mono _ _
      | exact tellurionref04_Same.mono _ _ _
      | exact tellurionref04_Turn.mono _ _ _
      | exact LeO.none _
      | refine LeO.ite ?_ ?_
      | refine LeO.bind ?_ (fun _ => ?_)
    · intro y0 y1 y2 y3 y4 y5 y6
      unfold tellurionlaw04_CamCarved.j2
      repeat' first
      | (with_reducible exact ih0 _ _ _ _ _)
      | (with_reducible exact ih1 _ _ _ _ _ _)
      | (with_reducible exact ih2 _ _ _ _ _ _ _)
      | (with_reducible exact cam_Error.mono _ _ _)
      | (with_reducible exact tellurionlaw04_below.mono _ _ _)
      | (with_reducible exact tellurionref04_Cam.mono _ _)
      | (with_reducible exact tellurionref04_Same.mono _ _ _)
      | (with_reducible exact tellurionref04_Turn.mono _ _ _)
      | (with_reducible exact LeO.refl _)
      | (with_reducible exact LeO.none _)
      | (with_reducible refine LeO.ite ?_ ?_)
      | (with_reducible refine LeO.bind ?_ (fun _ => ?_))
      | exact ih0 _ _ _ _ _
      | exact ih1 _ _ _ _ _ _
      | exact ih2 _ _ _ _ _ _ _
      | exact cam_Error.mono _ _ _
      | exact tellurionlaw04_below.mono _ _ _
      | exact tellurionref04_Cam.mono _ _
      | exact tellurionref04_Same.mono _ _ _
      | exact tellurionref04_Turn.mono _ _ _
      | exact LeO.none _
      | refine LeO.ite ?_ ?_
      | refine LeO.bind ?_ (fun _ => ?_)
theorem tellurionlaw04_CamCarved.mono : ∀ a0 a1 a2 a3 k, LeO (tellurionlaw04_CamCarved.f k a0 a1 a2 a3) (tellurionlaw04_CamCarved.f (k + 1) a0 a1 a2 a3) := by
  intro a0 a1 a2 a3 k
  obtain ⟨ih0, ih1, ih2⟩ := tellurionlaw04_CamCarved.mono_l k
  unfold tellurionlaw04_CamCarved.f
  repeat' first
      | (with_reducible exact ih0 _ _ _ _ _)
      | (with_reducible exact ih1 _ _ _ _ _ _)
      | (with_reducible exact ih2 _ _ _ _ _ _ _)
      | (with_reducible exact cam_Error.mono _ _ _)
      | (with_reducible exact tellurionlaw04_below.mono _ _ _)
      | (with_reducible exact tellurionref04_Cam.mono _ _)
      | (with_reducible exact tellurionref04_Same.mono _ _ _)
      | (with_reducible exact tellurionref04_Turn.mono _ _ _)
      | (with_reducible exact LeO.refl _)
      | (with_reducible exact LeO.none _)
      | (with_reducible refine LeO.ite ?_ ?_)
      | (with_reducible refine LeO.bind ?_ (fun _ => ?_))
      | exact ih0 _ _ _ _ _
      | exact ih1 _ _ _ _ _ _
      | exact ih2 _ _ _ _ _ _ _
      | exact cam_Error.mono _ _ _
      | exact tellurionlaw04_below.mono _ _ _
      | exact tellurionref04_Cam.mono _ _
      | exact tellurionref04_Same.mono _ _ _
      | exact tellurionref04_Turn.mono _ _ _
      | exact LeO.none _
      | refine LeO.ite ?_ ?_
      | refine LeO.bind ?_ (fun _ => ?_)
set_option maxHeartbeats 8000000 in
set_option maxRecDepth 100000 in
theorem tellurionlaw04_CamCarved.calls (k : Nat) (A0 : Option Addr) (c0 : Nat) (l0 : List Int) (a1 : Int) (A2 : Option Addr) (c2 : Nat) (l2 : List Int) (a3 : Int) (r : Bool) (w : World) (hr0 : Kd.C (Kd.int .i64) w A0 l0.length l0) (hc0 : l0.length ≤ c0) (hr2 : Kd.C (Kd.int .i64) w A2 l2.length l2) (hc2 : l2.length ≤ c2) (h : tellurionlaw04_CamCarved.f k l0 a1 l2 a3 = some r) :
    Calls Tryz.prog 9 #[.slice A0 l0.length c0, .int .i64 a1, .slice A2 l2.length c2, .int .i64 a3] w fun e w' => e = .returned (.bool r) ∧ Below w.heap.size w w' := by
  have HR0 := Aside0.mk hr0
  have HC0 := Aside0.mk hc0
  clear hr0 hc0
  have HR2 := Aside0.mk hr2
  have HC2 := Aside0.mk hc2
  clear hr2 hc2
  have HB := Aside0.mk (Below.refl w.heap.size w)
  have H : ((tellurionlaw04_short.f l0).bind fun t428 => (if t428 = true then ((tellurionlaw04_short.f l2).bind fun t429 => (if t429 = true then ((tellurionref04_Cam.f k l0).bind fun t430 => (if t430 = true then ((tellurionref04_Foot.f a1).bind fun t431 => (if t431 = true then ((tellurionref04_Cam.f k l2).bind fun t432 => (if t432 = true then (if (l2.length : Int) = (l0.length : Int) then (if a3 < 0 then (tellurionlaw04_CamCarved.j0 k l0 a1 l2 a3 true) else (tellurionlaw04_CamCarved.j0 k l0 a1 l2 a3 (decide (a3 ≥ (l0.length : Int))))) else (tellurionlaw04_CamCarved.j0 k l0 a1 l2 a3 true)) else (tellurionlaw04_CamCarved.j0 k l0 a1 l2 a3 true))) else (tellurionlaw04_CamCarved.j0 k l0 a1 l2 a3 true))) else (tellurionlaw04_CamCarved.j0 k l0 a1 l2 a3 true))) else (tellurionlaw04_CamCarved.j0 k l0 a1 l2 a3 true))) else (tellurionlaw04_CamCarved.j0 k l0 a1 l2 a3 true))) = some r := h
  clear h
  have HC5 := Aside0.mk H
  clear H
  go_enter Tryz.func9, Tryz.ntmps9
  go_upto_region 1 with (fail)
  go_cut [62] (fun v62 wc => ∃ (kq : Nat) (x62_4 : Bool), v62 = .bool x62_4 ∧ Aside0 (tellurionlaw04_CamCarved.j0 kq l0 a1 l2 a3 x62_4 = some r) ∧ Aside0 (kq ≤ k) ∧ Aside0 (Below w.heap.size w wc))
  case first =>
    have H := HC5.out
    clear HC5
    replace H := Option.bind_eq_some_iff.mp H
    obtain ⟨t428, A60, H⟩ := H
    replace H : (if t428 = true then ((tellurionlaw04_short.f l2).bind fun t429 => (if t429 = true then ((tellurionref04_Cam.f k l0).bind fun t430 => (if t430 = true then ((tellurionref04_Foot.f a1).bind fun t431 => (if t431 = true then ((tellurionref04_Cam.f k l2).bind fun t432 => (if t432 = true then (if (l2.length : Int) = (l0.length : Int) then (if a3 < 0 then (tellurionlaw04_CamCarved.j0 k l0 a1 l2 a3 true) else (tellurionlaw04_CamCarved.j0 k l0 a1 l2 a3 (decide (a3 ≥ (l0.length : Int))))) else (tellurionlaw04_CamCarved.j0 k l0 a1 l2 a3 true)) else (tellurionlaw04_CamCarved.j0 k l0 a1 l2 a3 true))) else (tellurionlaw04_CamCarved.j0 k l0 a1 l2 a3 true))) else (tellurionlaw04_CamCarved.j0 k l0 a1 l2 a3 true))) else (tellurionlaw04_CamCarved.j0 k l0 a1 l2 a3 true))) else (tellurionlaw04_CamCarved.j0 k l0 a1 l2 a3 true)) = some r := H
    have A6 := Aside0.mk A60
    clear A60
    by_cases c7 : t428 = true
    · subst c7
      have H1 : ((tellurionlaw04_short.f l2).bind fun t429 => (if t429 = true then ((tellurionref04_Cam.f k l0).bind fun t430 => (if t430 = true then ((tellurionref04_Foot.f a1).bind fun t431 => (if t431 = true then ((tellurionref04_Cam.f k l2).bind fun t432 => (if t432 = true then (if (l2.length : Int) = (l0.length : Int) then (if a3 < 0 then (tellurionlaw04_CamCarved.j0 k l0 a1 l2 a3 true) else (tellurionlaw04_CamCarved.j0 k l0 a1 l2 a3 (decide (a3 ≥ (l0.length : Int))))) else (tellurionlaw04_CamCarved.j0 k l0 a1 l2 a3 true)) else (tellurionlaw04_CamCarved.j0 k l0 a1 l2 a3 true))) else (tellurionlaw04_CamCarved.j0 k l0 a1 l2 a3 true))) else (tellurionlaw04_CamCarved.j0 k l0 a1 l2 a3 true))) else (tellurionlaw04_CamCarved.j0 k l0 a1 l2 a3 true))) = some r := by rw [if_pos rfl] at H; exact H
      clear H
      have H := H1
      clear H1
      replace H := Option.bind_eq_some_iff.mp H
      obtain ⟨t429, A80, H⟩ := H
      replace H : (if t429 = true then ((tellurionref04_Cam.f k l0).bind fun t430 => (if t430 = true then ((tellurionref04_Foot.f a1).bind fun t431 => (if t431 = true then ((tellurionref04_Cam.f k l2).bind fun t432 => (if t432 = true then (if (l2.length : Int) = (l0.length : Int) then (if a3 < 0 then (tellurionlaw04_CamCarved.j0 k l0 a1 l2 a3 true) else (tellurionlaw04_CamCarved.j0 k l0 a1 l2 a3 (decide (a3 ≥ (l0.length : Int))))) else (tellurionlaw04_CamCarved.j0 k l0 a1 l2 a3 true)) else (tellurionlaw04_CamCarved.j0 k l0 a1 l2 a3 true))) else (tellurionlaw04_CamCarved.j0 k l0 a1 l2 a3 true))) else (tellurionlaw04_CamCarved.j0 k l0 a1 l2 a3 true))) else (tellurionlaw04_CamCarved.j0 k l0 a1 l2 a3 true)) = some r := H
      have A8 := Aside0.mk A80
      clear A80
      by_cases c9 : t429 = true
      · subst c9
        have H1 : ((tellurionref04_Cam.f k l0).bind fun t430 => (if t430 = true then ((tellurionref04_Foot.f a1).bind fun t431 => (if t431 = true then ((tellurionref04_Cam.f k l2).bind fun t432 => (if t432 = true then (if (l2.length : Int) = (l0.length : Int) then (if a3 < 0 then (tellurionlaw04_CamCarved.j0 k l0 a1 l2 a3 true) else (tellurionlaw04_CamCarved.j0 k l0 a1 l2 a3 (decide (a3 ≥ (l0.length : Int))))) else (tellurionlaw04_CamCarved.j0 k l0 a1 l2 a3 true)) else (tellurionlaw04_CamCarved.j0 k l0 a1 l2 a3 true))) else (tellurionlaw04_CamCarved.j0 k l0 a1 l2 a3 true))) else (tellurionlaw04_CamCarved.j0 k l0 a1 l2 a3 true))) = some r := by rw [if_pos rfl] at H; exact H
        clear H
        have H := H1
        clear H1
        replace H := Option.bind_eq_some_iff.mp H
        obtain ⟨t430, A100, H⟩ := H
        replace H : (if t430 = true then ((tellurionref04_Foot.f a1).bind fun t431 => (if t431 = true then ((tellurionref04_Cam.f k l2).bind fun t432 => (if t432 = true then (if (l2.length : Int) = (l0.length : Int) then (if a3 < 0 then (tellurionlaw04_CamCarved.j0 k l0 a1 l2 a3 true) else (tellurionlaw04_CamCarved.j0 k l0 a1 l2 a3 (decide (a3 ≥ (l0.length : Int))))) else (tellurionlaw04_CamCarved.j0 k l0 a1 l2 a3 true)) else (tellurionlaw04_CamCarved.j0 k l0 a1 l2 a3 true))) else (tellurionlaw04_CamCarved.j0 k l0 a1 l2 a3 true))) else (tellurionlaw04_CamCarved.j0 k l0 a1 l2 a3 true)) = some r := H
        have A10 := Aside0.mk A100
        clear A100
        by_cases c11 : t430 = true
        · subst c11
          have H1 : ((tellurionref04_Foot.f a1).bind fun t431 => (if t431 = true then ((tellurionref04_Cam.f k l2).bind fun t432 => (if t432 = true then (if (l2.length : Int) = (l0.length : Int) then (if a3 < 0 then (tellurionlaw04_CamCarved.j0 k l0 a1 l2 a3 true) else (tellurionlaw04_CamCarved.j0 k l0 a1 l2 a3 (decide (a3 ≥ (l0.length : Int))))) else (tellurionlaw04_CamCarved.j0 k l0 a1 l2 a3 true)) else (tellurionlaw04_CamCarved.j0 k l0 a1 l2 a3 true))) else (tellurionlaw04_CamCarved.j0 k l0 a1 l2 a3 true))) = some r := by rw [if_pos rfl] at H; exact H
          clear H
          have H := H1
          clear H1
          replace H := Option.bind_eq_some_iff.mp H
          obtain ⟨t431, A120, H⟩ := H
          replace H : (if t431 = true then ((tellurionref04_Cam.f k l2).bind fun t432 => (if t432 = true then (if (l2.length : Int) = (l0.length : Int) then (if a3 < 0 then (tellurionlaw04_CamCarved.j0 k l0 a1 l2 a3 true) else (tellurionlaw04_CamCarved.j0 k l0 a1 l2 a3 (decide (a3 ≥ (l0.length : Int))))) else (tellurionlaw04_CamCarved.j0 k l0 a1 l2 a3 true)) else (tellurionlaw04_CamCarved.j0 k l0 a1 l2 a3 true))) else (tellurionlaw04_CamCarved.j0 k l0 a1 l2 a3 true)) = some r := H
          have A12 := Aside0.mk A120
          clear A120
          by_cases c13 : t431 = true
          · subst c13
            have H1 : ((tellurionref04_Cam.f k l2).bind fun t432 => (if t432 = true then (if (l2.length : Int) = (l0.length : Int) then (if a3 < 0 then (tellurionlaw04_CamCarved.j0 k l0 a1 l2 a3 true) else (tellurionlaw04_CamCarved.j0 k l0 a1 l2 a3 (decide (a3 ≥ (l0.length : Int))))) else (tellurionlaw04_CamCarved.j0 k l0 a1 l2 a3 true)) else (tellurionlaw04_CamCarved.j0 k l0 a1 l2 a3 true))) = some r := by rw [if_pos rfl] at H; exact H
            clear H
            have H := H1
            clear H1
            replace H := Option.bind_eq_some_iff.mp H
            obtain ⟨t432, A140, H⟩ := H
            replace H : (if t432 = true then (if (l2.length : Int) = (l0.length : Int) then (if a3 < 0 then (tellurionlaw04_CamCarved.j0 k l0 a1 l2 a3 true) else (tellurionlaw04_CamCarved.j0 k l0 a1 l2 a3 (decide (a3 ≥ (l0.length : Int))))) else (tellurionlaw04_CamCarved.j0 k l0 a1 l2 a3 true)) else (tellurionlaw04_CamCarved.j0 k l0 a1 l2 a3 true)) = some r := H
            have A14 := Aside0.mk A140
            clear A140
            by_cases c15 : t432 = true
            · subst c15
              have H1 : (if (l2.length : Int) = (l0.length : Int) then (if a3 < 0 then (tellurionlaw04_CamCarved.j0 k l0 a1 l2 a3 true) else (tellurionlaw04_CamCarved.j0 k l0 a1 l2 a3 (decide (a3 ≥ (l0.length : Int))))) else (tellurionlaw04_CamCarved.j0 k l0 a1 l2 a3 true)) = some r := by rw [if_pos rfl] at H; exact H
              clear H
              have H := H1
              clear H1
              by_cases c16 : (l2.length : Int) = (l0.length : Int)
              · rw [if_pos c16] at H
                have c16b0 : ((l2.length : Int) == (l0.length : Int)) = true := beq_iff_eq.mpr c16
                have c16b1 : ((l2.length : Int) != (l0.length : Int)) = false := bne_eq_false_iff_eq.mpr c16
                have c16b2 : (l2.length == l0.length) = true := by first | simpa using c16 | (simp at c16 ⊢; omega)
                clear c16
                (first | rw [c16b0] | (simp only [i64_w, i32_w]; rw [c16b0]) | skip)
                by_cases c17 : a3 < 0
                · rw [if_pos c17] at H
                  have c17b0 : decide (a3 < 0) = true := decide_eq_true c17
                  clear c17
                  have H' := Aside0.mk H
                  clear H
                  go_wp2_with (first | ((with_reducible refine gate_callee (f := 16) rfl ?_); refine goesL_ (some 24) rfl rfl Tryz.func16 (by kernel_rfl) rfl #[.slice A0 l0.length c0] rfl (by (try simp only [List.map_toArray, List.map_cons, List.map_nil]); first | done | rfl | (simp only [List.length_drop, List.length_take]; rfl)) ?_; (with_reducible refine (tellurionlaw04_short.calls _ _ l0 true _ ?side1 ?side2 A6.out).mono ?_); (case side1 => repeat (first | exact (Kd.C_below HR0.out HB.out) | (with_reducible refine Kd.C_alloc ?_ _) | (with_reducible refine Kd.C_drewN ?_ _) | (with_reducible refine Kd.C_drew ?_))); (case side2 => exact HC0.out); rintro e w' ⟨rfl, ⟨nd, rfl⟩⟩; refine ⟨_, rfl, ?_⟩) | (go_at_call 16; (with_reducible refine (tellurionlaw04_short.calls _ _ l2 true _ ?side1 ?side2 A8.out).mono ?_); (case side1 => repeat (first | exact (Kd.C_below HR2.out (by repeat (first | (with_reducible first | exact HB.out | apply below_alloc | apply pw_below_drewN | apply below_drew1) | exact HB.out))) | (with_reducible refine Kd.C_alloc ?_ _) | (with_reducible refine Kd.C_drewN ?_ _) | (with_reducible refine Kd.C_drew ?_))); (case side2 => exact HC2.out); rintro e w' ⟨rfl, ⟨nd, rfl⟩⟩) | (go_at_call 19; (with_reducible refine (tellurionref04_Cam.calls k _ _ l0 true _ ?side1 ?side2 A10.out).mono ?_); (case side1 => repeat (first | exact (Kd.C_below HR0.out (by repeat (first | (with_reducible first | exact HB.out | apply below_alloc | apply pw_below_drewN | apply below_drew1) | exact HB.out))) | (with_reducible refine Kd.C_alloc ?_ _) | (with_reducible refine Kd.C_drewN ?_ _) | (with_reducible refine Kd.C_drew ?_))); (case side2 => exact HC0.out); rintro e w' ⟨rfl, ⟨nd, rfl⟩⟩) | (go_at_call 31; (with_reducible refine (tellurionref04_Foot.calls a1 true _ A12.out).mono ?_); rintro e w' ⟨rfl, ⟨nd, rfl⟩⟩) | (go_at_call 19; (with_reducible refine (tellurionref04_Cam.calls k _ _ l2 true _ ?side1 ?side2 A14.out).mono ?_); (case side1 => repeat (first | exact (Kd.C_below HR2.out (by repeat (first | (with_reducible first | exact HB.out | apply below_alloc | apply pw_below_drewN | apply below_drew1) | exact HB.out))) | (with_reducible refine Kd.C_alloc ?_ _) | (with_reducible refine Kd.C_drewN ?_ _) | (with_reducible refine Kd.C_drew ?_))); (case side2 => exact HC2.out); rintro e w' ⟨rfl, ⟨nd, rfl⟩⟩))
                  go_meet
                  case rel => exact ⟨_, (true), (by first | rfl | (simp; done) | (simp [*]; done)), H', ⟨by first | omega | exact Nat.le_refl _⟩, ⟨by repeat (first | (with_reducible first | exact HB.out | apply below_alloc | apply pw_below_drewN | apply below_drew1) | exact HB.out)⟩⟩
                · rw [if_neg c17] at H
                  have c17b0 : decide (a3 < 0) = false := decide_eq_false c17
                  clear c17
                  have H' := Aside0.mk H
                  clear H
                  go_wp2_with (first | ((with_reducible refine gate_callee (f := 16) rfl ?_); refine goesL_ (some 24) rfl rfl Tryz.func16 (by kernel_rfl) rfl #[.slice A0 l0.length c0] rfl (by (try simp only [List.map_toArray, List.map_cons, List.map_nil]); first | done | rfl | (simp only [List.length_drop, List.length_take]; rfl)) ?_; (with_reducible refine (tellurionlaw04_short.calls _ _ l0 true _ ?side1 ?side2 A6.out).mono ?_); (case side1 => repeat (first | exact (Kd.C_below HR0.out HB.out) | (with_reducible refine Kd.C_alloc ?_ _) | (with_reducible refine Kd.C_drewN ?_ _) | (with_reducible refine Kd.C_drew ?_))); (case side2 => exact HC0.out); rintro e w' ⟨rfl, ⟨nd, rfl⟩⟩; refine ⟨_, rfl, ?_⟩) | (go_at_call 16; (with_reducible refine (tellurionlaw04_short.calls _ _ l2 true _ ?side1 ?side2 A8.out).mono ?_); (case side1 => repeat (first | exact (Kd.C_below HR2.out (by repeat (first | (with_reducible first | exact HB.out | apply below_alloc | apply pw_below_drewN | apply below_drew1) | exact HB.out))) | (with_reducible refine Kd.C_alloc ?_ _) | (with_reducible refine Kd.C_drewN ?_ _) | (with_reducible refine Kd.C_drew ?_))); (case side2 => exact HC2.out); rintro e w' ⟨rfl, ⟨nd, rfl⟩⟩) | (go_at_call 19; (with_reducible refine (tellurionref04_Cam.calls k _ _ l0 true _ ?side1 ?side2 A10.out).mono ?_); (case side1 => repeat (first | exact (Kd.C_below HR0.out (by repeat (first | (with_reducible first | exact HB.out | apply below_alloc | apply pw_below_drewN | apply below_drew1) | exact HB.out))) | (with_reducible refine Kd.C_alloc ?_ _) | (with_reducible refine Kd.C_drewN ?_ _) | (with_reducible refine Kd.C_drew ?_))); (case side2 => exact HC0.out); rintro e w' ⟨rfl, ⟨nd, rfl⟩⟩) | (go_at_call 31; (with_reducible refine (tellurionref04_Foot.calls a1 true _ A12.out).mono ?_); rintro e w' ⟨rfl, ⟨nd, rfl⟩⟩) | (go_at_call 19; (with_reducible refine (tellurionref04_Cam.calls k _ _ l2 true _ ?side1 ?side2 A14.out).mono ?_); (case side1 => repeat (first | exact (Kd.C_below HR2.out (by repeat (first | (with_reducible first | exact HB.out | apply below_alloc | apply pw_below_drewN | apply below_drew1) | exact HB.out))) | (with_reducible refine Kd.C_alloc ?_ _) | (with_reducible refine Kd.C_drewN ?_ _) | (with_reducible refine Kd.C_drew ?_))); (case side2 => exact HC2.out); rintro e w' ⟨rfl, ⟨nd, rfl⟩⟩))
                  go_meet
                  case rel => exact ⟨_, (decide (a3 ≥ (l0.length : Int))), (by first | rfl | (simp; done) | (simp [*]; done)), H', ⟨by first | omega | exact Nat.le_refl _⟩, ⟨by repeat (first | (with_reducible first | exact HB.out | apply below_alloc | apply pw_below_drewN | apply below_drew1) | exact HB.out)⟩⟩
              · rw [if_neg c16] at H
                have c16b0 : ((l2.length : Int) == (l0.length : Int)) = false := beq_eq_false_iff_ne.mpr c16
                have c16b1 : ((l2.length : Int) != (l0.length : Int)) = true := bne_iff_ne.mpr c16
                have c16b2 : (l2.length == l0.length) = false := by first | simpa using c16 | (simp at c16 ⊢; omega)
                (first | rw [c16b0] | (simp only [i64_w, i32_w]; rw [c16b0]) | skip)
                have H' := Aside0.mk H
                clear H
                go_wp2_with (first | ((with_reducible refine gate_callee (f := 16) rfl ?_); refine goesL_ (some 24) rfl rfl Tryz.func16 (by kernel_rfl) rfl #[.slice A0 l0.length c0] rfl (by (try simp only [List.map_toArray, List.map_cons, List.map_nil]); first | done | rfl | (simp only [List.length_drop, List.length_take]; rfl)) ?_; (with_reducible refine (tellurionlaw04_short.calls _ _ l0 true _ ?side1 ?side2 A6.out).mono ?_); (case side1 => repeat (first | exact (Kd.C_below HR0.out HB.out) | (with_reducible refine Kd.C_alloc ?_ _) | (with_reducible refine Kd.C_drewN ?_ _) | (with_reducible refine Kd.C_drew ?_))); (case side2 => exact HC0.out); rintro e w' ⟨rfl, ⟨nd, rfl⟩⟩; refine ⟨_, rfl, ?_⟩) | (go_at_call 16; (with_reducible refine (tellurionlaw04_short.calls _ _ l2 true _ ?side1 ?side2 A8.out).mono ?_); (case side1 => repeat (first | exact (Kd.C_below HR2.out (by repeat (first | (with_reducible first | exact HB.out | apply below_alloc | apply pw_below_drewN | apply below_drew1) | exact HB.out))) | (with_reducible refine Kd.C_alloc ?_ _) | (with_reducible refine Kd.C_drewN ?_ _) | (with_reducible refine Kd.C_drew ?_))); (case side2 => exact HC2.out); rintro e w' ⟨rfl, ⟨nd, rfl⟩⟩) | (go_at_call 19; (with_reducible refine (tellurionref04_Cam.calls k _ _ l0 true _ ?side1 ?side2 A10.out).mono ?_); (case side1 => repeat (first | exact (Kd.C_below HR0.out (by repeat (first | (with_reducible first | exact HB.out | apply below_alloc | apply pw_below_drewN | apply below_drew1) | exact HB.out))) | (with_reducible refine Kd.C_alloc ?_ _) | (with_reducible refine Kd.C_drewN ?_ _) | (with_reducible refine Kd.C_drew ?_))); (case side2 => exact HC0.out); rintro e w' ⟨rfl, ⟨nd, rfl⟩⟩) | (go_at_call 31; (with_reducible refine (tellurionref04_Foot.calls a1 true _ A12.out).mono ?_); rintro e w' ⟨rfl, ⟨nd, rfl⟩⟩) | (go_at_call 19; (with_reducible refine (tellurionref04_Cam.calls k _ _ l2 true _ ?side1 ?side2 A14.out).mono ?_); (case side1 => repeat (first | exact (Kd.C_below HR2.out (by repeat (first | (with_reducible first | exact HB.out | apply below_alloc | apply pw_below_drewN | apply below_drew1) | exact HB.out))) | (with_reducible refine Kd.C_alloc ?_ _) | (with_reducible refine Kd.C_drewN ?_ _) | (with_reducible refine Kd.C_drew ?_))); (case side2 => exact HC2.out); rintro e w' ⟨rfl, ⟨nd, rfl⟩⟩))
                go_meet
                case rel => exact ⟨_, (true), (by first | rfl | (simp; done) | (simp [*]; done)), H', ⟨by first | omega | exact Nat.le_refl _⟩, ⟨by repeat (first | (with_reducible first | exact HB.out | apply below_alloc | apply pw_below_drewN | apply below_drew1) | exact HB.out)⟩⟩
            · replace c15 := Bool.eq_false_iff.mpr c15
              subst c15
              have H1 : (tellurionlaw04_CamCarved.j0 k l0 a1 l2 a3 true) = some r := by rw [if_neg (show ¬ (false = true) by decide)] at H; exact H
              clear H
              have H := H1
              clear H1
              have H' := Aside0.mk H
              clear H
              go_wp2_with (first | ((with_reducible refine gate_callee (f := 16) rfl ?_); refine goesL_ (some 24) rfl rfl Tryz.func16 (by kernel_rfl) rfl #[.slice A0 l0.length c0] rfl (by (try simp only [List.map_toArray, List.map_cons, List.map_nil]); first | done | rfl | (simp only [List.length_drop, List.length_take]; rfl)) ?_; (with_reducible refine (tellurionlaw04_short.calls _ _ l0 true _ ?side1 ?side2 A6.out).mono ?_); (case side1 => repeat (first | exact (Kd.C_below HR0.out HB.out) | (with_reducible refine Kd.C_alloc ?_ _) | (with_reducible refine Kd.C_drewN ?_ _) | (with_reducible refine Kd.C_drew ?_))); (case side2 => exact HC0.out); rintro e w' ⟨rfl, ⟨nd, rfl⟩⟩; refine ⟨_, rfl, ?_⟩) | (go_at_call 16; (with_reducible refine (tellurionlaw04_short.calls _ _ l2 true _ ?side1 ?side2 A8.out).mono ?_); (case side1 => repeat (first | exact (Kd.C_below HR2.out (by repeat (first | (with_reducible first | exact HB.out | apply below_alloc | apply pw_below_drewN | apply below_drew1) | exact HB.out))) | (with_reducible refine Kd.C_alloc ?_ _) | (with_reducible refine Kd.C_drewN ?_ _) | (with_reducible refine Kd.C_drew ?_))); (case side2 => exact HC2.out); rintro e w' ⟨rfl, ⟨nd, rfl⟩⟩) | (go_at_call 19; (with_reducible refine (tellurionref04_Cam.calls k _ _ l0 true _ ?side1 ?side2 A10.out).mono ?_); (case side1 => repeat (first | exact (Kd.C_below HR0.out (by repeat (first | (with_reducible first | exact HB.out | apply below_alloc | apply pw_below_drewN | apply below_drew1) | exact HB.out))) | (with_reducible refine Kd.C_alloc ?_ _) | (with_reducible refine Kd.C_drewN ?_ _) | (with_reducible refine Kd.C_drew ?_))); (case side2 => exact HC0.out); rintro e w' ⟨rfl, ⟨nd, rfl⟩⟩) | (go_at_call 31; (with_reducible refine (tellurionref04_Foot.calls a1 true _ A12.out).mono ?_); rintro e w' ⟨rfl, ⟨nd, rfl⟩⟩) | (go_at_call 19; (with_reducible refine (tellurionref04_Cam.calls k _ _ l2 false _ ?side1 ?side2 A14.out).mono ?_); (case side1 => repeat (first | exact (Kd.C_below HR2.out (by repeat (first | (with_reducible first | exact HB.out | apply below_alloc | apply pw_below_drewN | apply below_drew1) | exact HB.out))) | (with_reducible refine Kd.C_alloc ?_ _) | (with_reducible refine Kd.C_drewN ?_ _) | (with_reducible refine Kd.C_drew ?_))); (case side2 => exact HC2.out); rintro e w' ⟨rfl, ⟨nd, rfl⟩⟩))
              go_meet
              case rel => exact ⟨_, (true), (by first | rfl | (simp; done) | (simp [*]; done)), H', ⟨by first | omega | exact Nat.le_refl _⟩, ⟨by repeat (first | (with_reducible first | exact HB.out | apply below_alloc | apply pw_below_drewN | apply below_drew1) | exact HB.out)⟩⟩
          · replace c13 := Bool.eq_false_iff.mpr c13
            subst c13
            have H1 : (tellurionlaw04_CamCarved.j0 k l0 a1 l2 a3 true) = some r := by rw [if_neg (show ¬ (false = true) by decide)] at H; exact H
            clear H
            have H := H1
            clear H1
            have H' := Aside0.mk H
            clear H
            go_wp2_with (first | ((with_reducible refine gate_callee (f := 16) rfl ?_); refine goesL_ (some 24) rfl rfl Tryz.func16 (by kernel_rfl) rfl #[.slice A0 l0.length c0] rfl (by (try simp only [List.map_toArray, List.map_cons, List.map_nil]); first | done | rfl | (simp only [List.length_drop, List.length_take]; rfl)) ?_; (with_reducible refine (tellurionlaw04_short.calls _ _ l0 true _ ?side1 ?side2 A6.out).mono ?_); (case side1 => repeat (first | exact (Kd.C_below HR0.out HB.out) | (with_reducible refine Kd.C_alloc ?_ _) | (with_reducible refine Kd.C_drewN ?_ _) | (with_reducible refine Kd.C_drew ?_))); (case side2 => exact HC0.out); rintro e w' ⟨rfl, ⟨nd, rfl⟩⟩; refine ⟨_, rfl, ?_⟩) | (go_at_call 16; (with_reducible refine (tellurionlaw04_short.calls _ _ l2 true _ ?side1 ?side2 A8.out).mono ?_); (case side1 => repeat (first | exact (Kd.C_below HR2.out (by repeat (first | (with_reducible first | exact HB.out | apply below_alloc | apply pw_below_drewN | apply below_drew1) | exact HB.out))) | (with_reducible refine Kd.C_alloc ?_ _) | (with_reducible refine Kd.C_drewN ?_ _) | (with_reducible refine Kd.C_drew ?_))); (case side2 => exact HC2.out); rintro e w' ⟨rfl, ⟨nd, rfl⟩⟩) | (go_at_call 19; (with_reducible refine (tellurionref04_Cam.calls k _ _ l0 true _ ?side1 ?side2 A10.out).mono ?_); (case side1 => repeat (first | exact (Kd.C_below HR0.out (by repeat (first | (with_reducible first | exact HB.out | apply below_alloc | apply pw_below_drewN | apply below_drew1) | exact HB.out))) | (with_reducible refine Kd.C_alloc ?_ _) | (with_reducible refine Kd.C_drewN ?_ _) | (with_reducible refine Kd.C_drew ?_))); (case side2 => exact HC0.out); rintro e w' ⟨rfl, ⟨nd, rfl⟩⟩) | (go_at_call 31; (with_reducible refine (tellurionref04_Foot.calls a1 false _ A12.out).mono ?_); rintro e w' ⟨rfl, ⟨nd, rfl⟩⟩))
            go_meet
            case rel => exact ⟨_, (true), (by first | rfl | (simp; done) | (simp [*]; done)), H', ⟨by first | omega | exact Nat.le_refl _⟩, ⟨by repeat (first | (with_reducible first | exact HB.out | apply below_alloc | apply pw_below_drewN | apply below_drew1) | exact HB.out)⟩⟩
        · replace c11 := Bool.eq_false_iff.mpr c11
          subst c11
          have H1 : (tellurionlaw04_CamCarved.j0 k l0 a1 l2 a3 true) = some r := by rw [if_neg (show ¬ (false = true) by decide)] at H; exact H
          clear H
          have H := H1
          clear H1
          have H' := Aside0.mk H
          clear H
          go_wp2_with (first | ((with_reducible refine gate_callee (f := 16) rfl ?_); refine goesL_ (some 24) rfl rfl Tryz.func16 (by kernel_rfl) rfl #[.slice A0 l0.length c0] rfl (by (try simp only [List.map_toArray, List.map_cons, List.map_nil]); first | done | rfl | (simp only [List.length_drop, List.length_take]; rfl)) ?_; (with_reducible refine (tellurionlaw04_short.calls _ _ l0 true _ ?side1 ?side2 A6.out).mono ?_); (case side1 => repeat (first | exact (Kd.C_below HR0.out HB.out) | (with_reducible refine Kd.C_alloc ?_ _) | (with_reducible refine Kd.C_drewN ?_ _) | (with_reducible refine Kd.C_drew ?_))); (case side2 => exact HC0.out); rintro e w' ⟨rfl, ⟨nd, rfl⟩⟩; refine ⟨_, rfl, ?_⟩) | (go_at_call 16; (with_reducible refine (tellurionlaw04_short.calls _ _ l2 true _ ?side1 ?side2 A8.out).mono ?_); (case side1 => repeat (first | exact (Kd.C_below HR2.out (by repeat (first | (with_reducible first | exact HB.out | apply below_alloc | apply pw_below_drewN | apply below_drew1) | exact HB.out))) | (with_reducible refine Kd.C_alloc ?_ _) | (with_reducible refine Kd.C_drewN ?_ _) | (with_reducible refine Kd.C_drew ?_))); (case side2 => exact HC2.out); rintro e w' ⟨rfl, ⟨nd, rfl⟩⟩) | (go_at_call 19; (with_reducible refine (tellurionref04_Cam.calls k _ _ l0 false _ ?side1 ?side2 A10.out).mono ?_); (case side1 => repeat (first | exact (Kd.C_below HR0.out (by repeat (first | (with_reducible first | exact HB.out | apply below_alloc | apply pw_below_drewN | apply below_drew1) | exact HB.out))) | (with_reducible refine Kd.C_alloc ?_ _) | (with_reducible refine Kd.C_drewN ?_ _) | (with_reducible refine Kd.C_drew ?_))); (case side2 => exact HC0.out); rintro e w' ⟨rfl, ⟨nd, rfl⟩⟩))
          go_meet
          case rel => exact ⟨_, (true), (by first | rfl | (simp; done) | (simp [*]; done)), H', ⟨by first | omega | exact Nat.le_refl _⟩, ⟨by repeat (first | (with_reducible first | exact HB.out | apply below_alloc | apply pw_below_drewN | apply below_drew1) | exact HB.out)⟩⟩
      · replace c9 := Bool.eq_false_iff.mpr c9
        subst c9
        have H1 : (tellurionlaw04_CamCarved.j0 k l0 a1 l2 a3 true) = some r := by rw [if_neg (show ¬ (false = true) by decide)] at H; exact H
        clear H
        have H := H1
        clear H1
        have H' := Aside0.mk H
        clear H
        go_wp2_with (first | ((with_reducible refine gate_callee (f := 16) rfl ?_); refine goesL_ (some 24) rfl rfl Tryz.func16 (by kernel_rfl) rfl #[.slice A0 l0.length c0] rfl (by (try simp only [List.map_toArray, List.map_cons, List.map_nil]); first | done | rfl | (simp only [List.length_drop, List.length_take]; rfl)) ?_; (with_reducible refine (tellurionlaw04_short.calls _ _ l0 true _ ?side1 ?side2 A6.out).mono ?_); (case side1 => repeat (first | exact (Kd.C_below HR0.out HB.out) | (with_reducible refine Kd.C_alloc ?_ _) | (with_reducible refine Kd.C_drewN ?_ _) | (with_reducible refine Kd.C_drew ?_))); (case side2 => exact HC0.out); rintro e w' ⟨rfl, ⟨nd, rfl⟩⟩; refine ⟨_, rfl, ?_⟩) | (go_at_call 16; (with_reducible refine (tellurionlaw04_short.calls _ _ l2 false _ ?side1 ?side2 A8.out).mono ?_); (case side1 => repeat (first | exact (Kd.C_below HR2.out (by repeat (first | (with_reducible first | exact HB.out | apply below_alloc | apply pw_below_drewN | apply below_drew1) | exact HB.out))) | (with_reducible refine Kd.C_alloc ?_ _) | (with_reducible refine Kd.C_drewN ?_ _) | (with_reducible refine Kd.C_drew ?_))); (case side2 => exact HC2.out); rintro e w' ⟨rfl, ⟨nd, rfl⟩⟩))
        go_meet
        case rel => exact ⟨_, (true), (by first | rfl | (simp; done) | (simp [*]; done)), H', ⟨by first | omega | exact Nat.le_refl _⟩, ⟨by repeat (first | (with_reducible first | exact HB.out | apply below_alloc | apply pw_below_drewN | apply below_drew1) | exact HB.out)⟩⟩
    · replace c7 := Bool.eq_false_iff.mpr c7
      subst c7
      have H1 : (tellurionlaw04_CamCarved.j0 k l0 a1 l2 a3 true) = some r := by rw [if_neg (show ¬ (false = true) by decide)] at H; exact H
      clear H
      have H := H1
      clear H1
      have H' := Aside0.mk H
      clear H
      go_wp2_with (first | ((with_reducible refine gate_callee (f := 16) rfl ?_); refine goesL_ (some 24) rfl rfl Tryz.func16 (by kernel_rfl) rfl #[.slice A0 l0.length c0] rfl (by (try simp only [List.map_toArray, List.map_cons, List.map_nil]); first | done | rfl | (simp only [List.length_drop, List.length_take]; rfl)) ?_; (with_reducible refine (tellurionlaw04_short.calls _ _ l0 false _ ?side1 ?side2 A6.out).mono ?_); (case side1 => repeat (first | exact (Kd.C_below HR0.out HB.out) | (with_reducible refine Kd.C_alloc ?_ _) | (with_reducible refine Kd.C_drewN ?_ _) | (with_reducible refine Kd.C_drew ?_))); (case side2 => exact HC0.out); rintro e w' ⟨rfl, ⟨nd, rfl⟩⟩; refine ⟨_, rfl, ?_⟩))
      go_meet
      case rel => exact ⟨_, (true), (by first | rfl | (simp; done) | (simp [*]; done)), H', ⟨by first | omega | exact Nat.le_refl _⟩, ⟨by repeat (first | (with_reducible first | exact HB.out | apply below_alloc | apply pw_below_drewN | apply below_drew1) | exact HB.out)⟩⟩
  case rest =>
    clear HC5
    try clear c1
    try clear c2
    try clear p2
    try clear c7
    try clear c9
    try clear c11
    try clear c13
    try clear c15
    try clear c16
    try clear c16b0
    try clear c16b1
    try clear c16b2
    try clear c17
    try clear c17b0
    obtain ⟨kq, x62_4, rfl, HA, HJ4, HB⟩ := hcut
    cases kq with
    | zero => exact absurd HA.out (by simp [tellurionlaw04_CamCarved.j0])
    | succ kj4 =>
      have H := HA.out
      clear HA
      simp only [tellurionlaw04_CamCarved.j0] at H
      by_cases c18 : x62_4 = true
      · subst c18
        have H1 : ((tellurionlaw04_known.f).bind fun t433 => (some t433)) = some r := by rw [if_pos rfl] at H; exact H
        clear H
        have H := H1
        clear H1
        replace H := Option.bind_eq_some_iff.mp H
        obtain ⟨t433, A190, H⟩ := H
        replace H : (some t433) = some r := H
        have A19 := Aside0.mk A190
        clear A190
        obtain rfl := Option.some.inj H
        go_wp2_with (first | ((with_reducible refine gate_callee (f := 11) rfl ?_); refine goesL_ (some 63) rfl rfl Tryz.func11 (by kernel_rfl) rfl #[] rfl (by (try simp only [List.map_toArray, List.map_cons, List.map_nil]); first | done | rfl | (simp only [List.length_drop, List.length_take]; rfl)) ?_; (with_reducible refine (tellurionlaw04_known.calls  t433 _ A19.out).mono ?_); rintro e w20 ⟨rfl, hb⟩; refine ⟨_, rfl, ?_⟩; have n0_ := Aside0.mk (below_step (by repeat (first | (with_reducible first | exact HB.out | apply below_alloc | apply pw_below_drewN | apply below_drew1) | exact HB.out)) hb); clear HB; have HB := n0_; clear n0_; (try clear hb); (try clear hb2); (try clear hk); (try clear hi)))
        go_ret
        exact ⟨by first | rfl | (simp [errW_none, errW_some] <;> rfl) | (simp [*, errW_none, errW_some] <;> rfl), by repeat (first | (with_reducible first | exact HB.out | apply below_alloc | apply pw_below_drewN | apply below_drew1) | exact HB.out)⟩
      · replace c18 := Bool.eq_false_iff.mpr c18
        subst c18
        have H1 : ((cam_Carve.f l0 a1).bind fun bt434 => ((tellurionref04_Turn.f kj4 l0 a3).bind fun t439 => ((cam_Carve.f t439 a1).bind fun bt442 => (if bt434.2.2 = 0 then ((tellurionref04_Cam.f kj4 bt434.1).bind fun t447 => (if t447 = true then (if (bt434.1.length : Int) = (l0.length : Int) then (if bt442.2.2 = 0 then (if bt442.2.1 = bt434.2.1 then ((tellurionref04_Turn.f kj4 bt434.1 a3).bind fun t448 => ((tellurionref04_Same.f kj4 bt442.1 t448).bind fun t451 => (tellurionlaw04_CamCarved.j1 kj4 l0 a1 l2 bt434.1 bt434.2.1 (!t451)))) else (tellurionlaw04_CamCarved.j1 kj4 l0 a1 l2 bt434.1 bt434.2.1 true)) else (tellurionlaw04_CamCarved.j1 kj4 l0 a1 l2 bt434.1 bt434.2.1 true)) else (tellurionlaw04_CamCarved.j1 kj4 l0 a1 l2 bt434.1 bt434.2.1 true)) else (tellurionlaw04_CamCarved.j1 kj4 l0 a1 l2 bt434.1 bt434.2.1 true))) else (tellurionlaw04_CamCarved.j1 kj4 l0 a1 l2 bt434.1 bt434.2.1 true))))) = some r := by rw [if_neg (show ¬ (false = true) by decide)] at H; exact H
        clear H
        have H := H1
        clear H1
        replace H := Option.bind_eq_some_iff.mp H
        obtain ⟨⟨t434, t435, t436⟩, A210, H⟩ := H
        replace H : ((tellurionref04_Turn.f kj4 l0 a3).bind fun t439 => ((cam_Carve.f t439 a1).bind fun bt442 => (if t436 = 0 then ((tellurionref04_Cam.f kj4 t434).bind fun t447 => (if t447 = true then (if (t434.length : Int) = (l0.length : Int) then (if bt442.2.2 = 0 then (if bt442.2.1 = t435 then ((tellurionref04_Turn.f kj4 t434 a3).bind fun t448 => ((tellurionref04_Same.f kj4 bt442.1 t448).bind fun t451 => (tellurionlaw04_CamCarved.j1 kj4 l0 a1 l2 t434 t435 (!t451)))) else (tellurionlaw04_CamCarved.j1 kj4 l0 a1 l2 t434 t435 true)) else (tellurionlaw04_CamCarved.j1 kj4 l0 a1 l2 t434 t435 true)) else (tellurionlaw04_CamCarved.j1 kj4 l0 a1 l2 t434 t435 true)) else (tellurionlaw04_CamCarved.j1 kj4 l0 a1 l2 t434 t435 true))) else (tellurionlaw04_CamCarved.j1 kj4 l0 a1 l2 t434 t435 true)))) = some r := H
        have A21 := Aside0.mk A210
        clear A210
        replace H := Option.bind_eq_some_iff.mp H
        obtain ⟨t439, A220, H⟩ := H
        replace H : ((cam_Carve.f t439 a1).bind fun bt442 => (if t436 = 0 then ((tellurionref04_Cam.f kj4 t434).bind fun t447 => (if t447 = true then (if (t434.length : Int) = (l0.length : Int) then (if bt442.2.2 = 0 then (if bt442.2.1 = t435 then ((tellurionref04_Turn.f kj4 t434 a3).bind fun t448 => ((tellurionref04_Same.f kj4 bt442.1 t448).bind fun t451 => (tellurionlaw04_CamCarved.j1 kj4 l0 a1 l2 t434 t435 (!t451)))) else (tellurionlaw04_CamCarved.j1 kj4 l0 a1 l2 t434 t435 true)) else (tellurionlaw04_CamCarved.j1 kj4 l0 a1 l2 t434 t435 true)) else (tellurionlaw04_CamCarved.j1 kj4 l0 a1 l2 t434 t435 true)) else (tellurionlaw04_CamCarved.j1 kj4 l0 a1 l2 t434 t435 true))) else (tellurionlaw04_CamCarved.j1 kj4 l0 a1 l2 t434 t435 true))) = some r := H
        have A22 := Aside0.mk A220
        clear A220
        replace H := Option.bind_eq_some_iff.mp H
        obtain ⟨⟨t442, t443, t444⟩, A230, H⟩ := H
        replace H : (if t436 = 0 then ((tellurionref04_Cam.f kj4 t434).bind fun t447 => (if t447 = true then (if (t434.length : Int) = (l0.length : Int) then (if t444 = 0 then (if t443 = t435 then ((tellurionref04_Turn.f kj4 t434 a3).bind fun t448 => ((tellurionref04_Same.f kj4 t442 t448).bind fun t451 => (tellurionlaw04_CamCarved.j1 kj4 l0 a1 l2 t434 t435 (!t451)))) else (tellurionlaw04_CamCarved.j1 kj4 l0 a1 l2 t434 t435 true)) else (tellurionlaw04_CamCarved.j1 kj4 l0 a1 l2 t434 t435 true)) else (tellurionlaw04_CamCarved.j1 kj4 l0 a1 l2 t434 t435 true)) else (tellurionlaw04_CamCarved.j1 kj4 l0 a1 l2 t434 t435 true))) else (tellurionlaw04_CamCarved.j1 kj4 l0 a1 l2 t434 t435 true)) = some r := H
        have A23 := Aside0.mk A230
        clear A230
        have HC24 := Aside0.mk H
        clear H
        go_upto_region 5 with (first | ((with_reducible refine gate_callee (f := 32) rfl ?_); refine goesL_ (some 67) rfl rfl Tryz.func32 (by kernel_rfl) rfl #[.slice A0 l0.length c0, .int .i64 a1] rfl (by (try simp only [List.map_toArray, List.map_cons, List.map_nil]); first | done | rfl | (simp only [List.length_drop, List.length_take]; rfl)) ?_; (with_reducible refine (cam_Carve.calls _ _ l0 a1 t434 t435 t436 _ ?side1 ?side2 A21.out).mono ?_); (case side1 => repeat (first | exact (Kd.C_below HR0.out HB.out) | (with_reducible refine Kd.C_alloc ?_ _) | (with_reducible refine Kd.C_drewN ?_ _) | (with_reducible refine Kd.C_drew ?_))); (case side2 => exact HC0.out); rintro e w25 ⟨v437, rfl, ho0, hb⟩; refine ⟨_, rfl, ?_⟩; have n0_ := Aside0.mk (Kd.R_lower ho0 (below_size (by repeat (first | (with_reducible first | exact HB.out | apply below_alloc | apply pw_below_drewN | apply below_drew1) | exact HB.out)))); have n1_ := Aside0.mk (below_step (by repeat (first | (with_reducible first | exact HB.out | apply below_alloc | apply pw_below_drewN | apply below_drew1) | exact HB.out)) hb); clear HB; have HO438 := n0_; have HB := n1_; clear n0_ n1_; (try clear hb); (try clear hb2); (try clear hk); (try clear hi); (try clear ho0)) | ((with_reducible refine gate_callee (f := 22) rfl ?_); refine goesL_ (some 74) rfl rfl Tryz.func22 (by kernel_rfl) rfl #[.slice A0 l0.length c0, .int .i64 a3] rfl (by (try simp only [List.map_toArray, List.map_cons, List.map_nil]); first | done | rfl | (simp only [List.length_drop, List.length_take]; rfl)) ?_; (with_reducible refine (tellurionref04_Turn.calls kj4 _ _ l0 a3 t439 _ ?side1 ?side2 A22.out).mono ?_); (case side1 => repeat (first | exact (Kd.C_below HR0.out HB.out) | (with_reducible refine Kd.C_alloc ?_ _) | (with_reducible refine Kd.C_drewN ?_ _) | (with_reducible refine Kd.C_drew ?_))); (case side2 => exact HC0.out); rintro e w26 ⟨v440, rfl, ho0, hb⟩; refine ⟨_, rfl, ?_⟩; have n0_ := Aside0.mk (Kd.R_elder' (by (with_reducible repeat (first | apply Kd.R_alloc | apply Kd.R_drewN | apply Kd.R_drew)); exact HO438.out) (Kd.R_base ho0) hb); have n1_ := Aside0.mk (Kd.R_lower (Kd.R_new' ho0 (Kd.R_lt (by (with_reducible repeat (first | apply Kd.R_alloc | apply Kd.R_drewN | apply Kd.R_drew)); exact HO438.out))) (below_size (by repeat (first | (with_reducible first | exact HB.out | apply below_alloc | apply pw_below_drewN | apply below_drew1) | exact HB.out)))); have n2_ := Aside0.mk (below_step (by repeat (first | (with_reducible first | exact HB.out | apply below_alloc | apply pw_below_drewN | apply below_drew1) | exact HB.out)) hb); clear HO438; clear HB; have HO438 := n0_; have HO441 := n1_; have HB := n2_; clear n0_ n1_ n2_; (try clear hb); (try clear hb2); (try clear hk); (try clear hi); (try clear ho0); obtain ⟨Ao27, co27, eo27⟩ := Kd.R_slice HO441.out; subst eo27) | ((with_reducible refine gate_callee (f := 32) rfl ?_); refine goesL_ (some 76) rfl rfl Tryz.func32 (by kernel_rfl) rfl #[.slice Ao27 t439.length co27, .int .i64 a1] rfl (by (try simp only [List.map_toArray, List.map_cons, List.map_nil]); first | done | rfl | (simp only [List.length_drop, List.length_take]; rfl)) ?_; (with_reducible refine (cam_Carve.calls _ _ t439 a1 t442 t443 t444 _ ?side1 ?side2 A23.out).mono ?_); (case side1 => repeat (first | exact (Kd.R_reads' HO441.out).2.2 | (with_reducible refine Kd.C_alloc ?_ _) | (with_reducible refine Kd.C_drewN ?_ _) | (with_reducible refine Kd.C_drew ?_))); (case side2 => exact (Kd.R_reads' HO441.out).2.1); rintro e w28 ⟨v445, rfl, ho0, hb⟩; refine ⟨_, rfl, ?_⟩; have n0_ := Aside0.mk (Kd.R_elder' (by (with_reducible repeat (first | apply Kd.R_alloc | apply Kd.R_drewN | apply Kd.R_drew)); exact HO438.out) (Kd.R_base ho0) hb); have n1_ := Aside0.mk (Kd.R_elder' (by (with_reducible repeat (first | apply Kd.R_alloc | apply Kd.R_drewN | apply Kd.R_drew)); exact HO441.out) (Kd.R_base ho0) hb); have n2_ := Aside0.mk (Kd.R_lower (Kd.R_new' (Kd.R_new' ho0 (Kd.R_lt (by (with_reducible repeat (first | apply Kd.R_alloc | apply Kd.R_drewN | apply Kd.R_drew)); exact HO438.out))) (Kd.R_lt (by (with_reducible repeat (first | apply Kd.R_alloc | apply Kd.R_drewN | apply Kd.R_drew)); exact HO441.out))) (below_size (by repeat (first | (with_reducible first | exact HB.out | apply below_alloc | apply pw_below_drewN | apply below_drew1) | exact HB.out)))); have n3_ := Aside0.mk (below_step (by repeat (first | (with_reducible first | exact HB.out | apply below_alloc | apply pw_below_drewN | apply below_drew1) | exact HB.out)) hb); clear HO438; clear HO441; clear HB; have HO438 := n0_; have HO441 := n1_; have HO446 := n2_; have HB := n3_; clear n0_ n1_ n2_ n3_; (try clear hb); (try clear hb2); (try clear hk); (try clear hi); (try clear ho0)))
        (try simp only [Act.put, List.setIfInBounds_toArray, List.set_cons_zero, List.set_cons_succ])
        go_cut [110] (fun v110 wc => ∃ (kq : Nat) (x110_23 : Bool), v110 = .bool x110_23 ∧ Aside0 (tellurionlaw04_CamCarved.j1 kq l0 a1 l2 t434 t435 x110_23 = some r) ∧ Aside0 (kq ≤ kj4) ∧ Aside0 (Kd.R (Kd.int .i64) 3 wc w.heap.size (fun _ => True) v437 t434) ∧ Aside0 (Below w.heap.size w wc))
        case first =>
          have H := HC24.out
          clear HC24
          by_cases c29 : t436 = 0
          · rw [if_pos c29] at H
            have c29b0 : (t436 == 0) = true := beq_iff_eq.mpr c29
            have c29b1 : (t436 != 0) = false := bne_eq_false_iff_eq.mpr c29
            clear c29
            (first | rw [c29b0] | (simp only [i64_w, i32_w]; rw [c29b0]) | skip)
            replace H := Option.bind_eq_some_iff.mp H
            obtain ⟨t447, A300, H⟩ := H
            replace H : (if t447 = true then (if (t434.length : Int) = (l0.length : Int) then (if t444 = 0 then (if t443 = t435 then ((tellurionref04_Turn.f kj4 t434 a3).bind fun t448 => ((tellurionref04_Same.f kj4 t442 t448).bind fun t451 => (tellurionlaw04_CamCarved.j1 kj4 l0 a1 l2 t434 t435 (!t451)))) else (tellurionlaw04_CamCarved.j1 kj4 l0 a1 l2 t434 t435 true)) else (tellurionlaw04_CamCarved.j1 kj4 l0 a1 l2 t434 t435 true)) else (tellurionlaw04_CamCarved.j1 kj4 l0 a1 l2 t434 t435 true)) else (tellurionlaw04_CamCarved.j1 kj4 l0 a1 l2 t434 t435 true)) = some r := H
            have A30 := Aside0.mk A300
            clear A300
            by_cases c31 : t447 = true
            · subst c31
              have H1 : (if (t434.length : Int) = (l0.length : Int) then (if t444 = 0 then (if t443 = t435 then ((tellurionref04_Turn.f kj4 t434 a3).bind fun t448 => ((tellurionref04_Same.f kj4 t442 t448).bind fun t451 => (tellurionlaw04_CamCarved.j1 kj4 l0 a1 l2 t434 t435 (!t451)))) else (tellurionlaw04_CamCarved.j1 kj4 l0 a1 l2 t434 t435 true)) else (tellurionlaw04_CamCarved.j1 kj4 l0 a1 l2 t434 t435 true)) else (tellurionlaw04_CamCarved.j1 kj4 l0 a1 l2 t434 t435 true)) = some r := by rw [if_pos rfl] at H; exact H
              clear H
              have H := H1
              clear H1
              by_cases c32 : (t434.length : Int) = (l0.length : Int)
              · rw [if_pos c32] at H
                have c32b0 : ((t434.length : Int) == (l0.length : Int)) = true := beq_iff_eq.mpr c32
                have c32b1 : ((t434.length : Int) != (l0.length : Int)) = false := bne_eq_false_iff_eq.mpr c32
                have c32b2 : (t434.length == l0.length) = true := by first | simpa using c32 | (simp at c32 ⊢; omega)
                clear c32
                by_cases c33 : t444 = 0
                · rw [if_pos c33] at H
                  have c33b0 : (t444 == 0) = true := beq_iff_eq.mpr c33
                  have c33b1 : (t444 != 0) = false := bne_eq_false_iff_eq.mpr c33
                  clear c33
                  by_cases c34 : t443 = t435
                  · rw [if_pos c34] at H
                    have c34b0 : (t443 == t435) = true := beq_iff_eq.mpr c34
                    have c34b1 : (t443 != t435) = false := bne_eq_false_iff_eq.mpr c34
                    clear c34
                    replace H := Option.bind_eq_some_iff.mp H
                    obtain ⟨t448, A350, H⟩ := H
                    replace H : ((tellurionref04_Same.f kj4 t442 t448).bind fun t451 => (tellurionlaw04_CamCarved.j1 kj4 l0 a1 l2 t434 t435 (!t451))) = some r := H
                    have A35 := Aside0.mk A350
                    clear A350
                    replace H := Option.bind_eq_some_iff.mp H
                    obtain ⟨t451, A360, H⟩ := H
                    replace H : (tellurionlaw04_CamCarved.j1 kj4 l0 a1 l2 t434 t435 (!t451)) = some r := H
                    have A36 := Aside0.mk A360
                    clear A360
                    have H' := Aside0.mk H
                    clear H
                    obtain ⟨Ao37, co37, eo37⟩ := Kd.R_slice HO438.out
                    subst eo37
                    go_wp2_with (first | (go_at_call 19; (with_reducible refine (tellurionref04_Cam.calls kj4 _ _ t434 true _ ?side1 ?side2 A30.out).mono ?_); (case side1 => repeat (first | exact (Kd.R_reads' HO438.out).2.2 | (with_reducible refine Kd.C_alloc ?_ _) | (with_reducible refine Kd.C_drewN ?_ _) | (with_reducible refine Kd.C_drew ?_))); (case side2 => exact (Kd.R_reads' HO438.out).2.1); rintro e w' ⟨rfl, ⟨nd, rfl⟩⟩) | (go_at_call 22; (with_reducible refine (tellurionref04_Turn.calls kj4 _ _ t434 a3 t448 _ ?side1 ?side2 A35.out).mono ?_); (case side1 => repeat (first | exact (Kd.R_reads' HO438.out).2.2 | (with_reducible refine Kd.C_alloc ?_ _) | (with_reducible refine Kd.C_drewN ?_ _) | (with_reducible refine Kd.C_drew ?_))); (case side2 => exact (Kd.R_reads' HO438.out).2.1); rintro e w38 ⟨v449, rfl, ho0, hb⟩; have n0_ := Aside0.mk (Kd.R_elder' (by (with_reducible repeat (first | apply Kd.R_alloc | apply Kd.R_drewN | apply Kd.R_drew)); exact HO438.out) (Kd.R_base ho0) hb); have n1_ := Aside0.mk (Kd.R_elder' (by (with_reducible repeat (first | apply Kd.R_alloc | apply Kd.R_drewN | apply Kd.R_drew)); exact HO441.out) (Kd.R_base ho0) hb); have n2_ := Aside0.mk (Kd.R_elder' (by (with_reducible repeat (first | apply Kd.R_alloc | apply Kd.R_drewN | apply Kd.R_drew)); exact HO446.out) (Kd.R_base ho0) hb); have n3_ := Aside0.mk (Kd.R_lower (Kd.R_new' (Kd.R_new' (Kd.R_new' ho0 (Kd.R_lt (by (with_reducible repeat (first | apply Kd.R_alloc | apply Kd.R_drewN | apply Kd.R_drew)); exact HO438.out))) (Kd.R_lt (by (with_reducible repeat (first | apply Kd.R_alloc | apply Kd.R_drewN | apply Kd.R_drew)); exact HO441.out))) (Kd.R_lt (by (with_reducible repeat (first | apply Kd.R_alloc | apply Kd.R_drewN | apply Kd.R_drew)); exact HO446.out))) (below_size (by repeat (first | (with_reducible first | exact HB.out | apply below_alloc | apply pw_below_drewN | apply below_drew1) | exact HB.out)))); have n4_ := Aside0.mk (below_step (by repeat (first | (with_reducible first | exact HB.out | apply below_alloc | apply pw_below_drewN | apply below_drew1) | exact HB.out)) hb); clear HO438; clear HO441; clear HO446; clear HB; have HO438 := n0_; have HO441 := n1_; have HO446 := n2_; have HO450 := n3_; have HB := n4_; clear n0_ n1_ n2_ n3_ n4_; (try clear hb); (try clear hb2); (try clear hk); (try clear hi); (try clear ho0); obtain ⟨Ao39, co39, eo39⟩ := Kd.R_slice HO446.out; subst eo39; obtain ⟨Ao40, co40, eo40⟩ := Kd.R_slice HO450.out; subst eo40) | (go_at_call 28; (with_reducible refine (tellurionref04_Same.calls kj4 _ _ t442 _ _ t448 t451 _ ?side1 ?side2 ?side3 ?side4 A36.out).mono ?_); (case side1 => repeat (first | exact (Kd.R_reads' HO446.out).2.2 | (with_reducible refine Kd.C_alloc ?_ _) | (with_reducible refine Kd.C_drewN ?_ _) | (with_reducible refine Kd.C_drew ?_))); (case side2 => exact (Kd.R_reads' HO446.out).2.1); (case side3 => repeat (first | exact (Kd.R_reads' HO450.out).2.2 | (with_reducible refine Kd.C_alloc ?_ _) | (with_reducible refine Kd.C_drewN ?_ _) | (with_reducible refine Kd.C_drew ?_))); (case side4 => exact (Kd.R_reads' HO450.out).2.1); rintro e w' ⟨rfl, ⟨nd, rfl⟩⟩))
                    go_meet
                    case rel => exact ⟨_, (!t451), (by first | rfl | (simp; done) | (simp [*]; done)), H', ⟨by have := HJ4.out; first | omega | exact Nat.le_refl _⟩, ⟨by (with_reducible repeat (first | apply Kd.R_alloc | apply Kd.R_drewN | apply Kd.R_drew)); exact Kd.R_mono HO438.out (fun _ hk => trivial)⟩, ⟨by repeat (first | (with_reducible first | exact HB.out | apply below_alloc | apply pw_below_drewN | apply below_drew1) | exact HB.out)⟩⟩
                  · rw [if_neg c34] at H
                    have c34b0 : (t443 == t435) = false := beq_eq_false_iff_ne.mpr c34
                    have c34b1 : (t443 != t435) = true := bne_iff_ne.mpr c34
                    have H' := Aside0.mk H
                    clear H
                    obtain ⟨Ao41, co41, eo41⟩ := Kd.R_slice HO438.out
                    subst eo41
                    go_wp2_with (first | (go_at_call 19; (with_reducible refine (tellurionref04_Cam.calls kj4 _ _ t434 true _ ?side1 ?side2 A30.out).mono ?_); (case side1 => repeat (first | exact (Kd.R_reads' HO438.out).2.2 | (with_reducible refine Kd.C_alloc ?_ _) | (with_reducible refine Kd.C_drewN ?_ _) | (with_reducible refine Kd.C_drew ?_))); (case side2 => exact (Kd.R_reads' HO438.out).2.1); rintro e w' ⟨rfl, ⟨nd, rfl⟩⟩))
                    go_meet
                    case rel => exact ⟨_, (true), (by first | rfl | (simp; done) | (simp [*]; done)), H', ⟨by have := HJ4.out; first | omega | exact Nat.le_refl _⟩, ⟨by (with_reducible repeat (first | apply Kd.R_alloc | apply Kd.R_drewN | apply Kd.R_drew)); exact Kd.R_mono HO438.out (fun _ hk => trivial)⟩, ⟨by repeat (first | (with_reducible first | exact HB.out | apply below_alloc | apply pw_below_drewN | apply below_drew1) | exact HB.out)⟩⟩
                · rw [if_neg c33] at H
                  have c33b0 : (t444 == 0) = false := beq_eq_false_iff_ne.mpr c33
                  have c33b1 : (t444 != 0) = true := bne_iff_ne.mpr c33
                  have H' := Aside0.mk H
                  clear H
                  obtain ⟨Ao42, co42, eo42⟩ := Kd.R_slice HO438.out
                  subst eo42
                  go_wp2_with (first | (go_at_call 19; (with_reducible refine (tellurionref04_Cam.calls kj4 _ _ t434 true _ ?side1 ?side2 A30.out).mono ?_); (case side1 => repeat (first | exact (Kd.R_reads' HO438.out).2.2 | (with_reducible refine Kd.C_alloc ?_ _) | (with_reducible refine Kd.C_drewN ?_ _) | (with_reducible refine Kd.C_drew ?_))); (case side2 => exact (Kd.R_reads' HO438.out).2.1); rintro e w' ⟨rfl, ⟨nd, rfl⟩⟩))
                  go_meet
                  case rel => exact ⟨_, (true), (by first | rfl | (simp; done) | (simp [*]; done)), H', ⟨by have := HJ4.out; first | omega | exact Nat.le_refl _⟩, ⟨by (with_reducible repeat (first | apply Kd.R_alloc | apply Kd.R_drewN | apply Kd.R_drew)); exact Kd.R_mono HO438.out (fun _ hk => trivial)⟩, ⟨by repeat (first | (with_reducible first | exact HB.out | apply below_alloc | apply pw_below_drewN | apply below_drew1) | exact HB.out)⟩⟩
              · rw [if_neg c32] at H
                have c32b0 : ((t434.length : Int) == (l0.length : Int)) = false := beq_eq_false_iff_ne.mpr c32
                have c32b1 : ((t434.length : Int) != (l0.length : Int)) = true := bne_iff_ne.mpr c32
                have c32b2 : (t434.length == l0.length) = false := by first | simpa using c32 | (simp at c32 ⊢; omega)
                have H' := Aside0.mk H
                clear H
                obtain ⟨Ao43, co43, eo43⟩ := Kd.R_slice HO438.out
                subst eo43
                go_wp2_with (first | (go_at_call 19; (with_reducible refine (tellurionref04_Cam.calls kj4 _ _ t434 true _ ?side1 ?side2 A30.out).mono ?_); (case side1 => repeat (first | exact (Kd.R_reads' HO438.out).2.2 | (with_reducible refine Kd.C_alloc ?_ _) | (with_reducible refine Kd.C_drewN ?_ _) | (with_reducible refine Kd.C_drew ?_))); (case side2 => exact (Kd.R_reads' HO438.out).2.1); rintro e w' ⟨rfl, ⟨nd, rfl⟩⟩))
                go_meet
                case rel => exact ⟨_, (true), (by first | rfl | (simp; done) | (simp [*]; done)), H', ⟨by have := HJ4.out; first | omega | exact Nat.le_refl _⟩, ⟨by (with_reducible repeat (first | apply Kd.R_alloc | apply Kd.R_drewN | apply Kd.R_drew)); exact Kd.R_mono HO438.out (fun _ hk => trivial)⟩, ⟨by repeat (first | (with_reducible first | exact HB.out | apply below_alloc | apply pw_below_drewN | apply below_drew1) | exact HB.out)⟩⟩
            · replace c31 := Bool.eq_false_iff.mpr c31
              subst c31
              have H1 : (tellurionlaw04_CamCarved.j1 kj4 l0 a1 l2 t434 t435 true) = some r := by rw [if_neg (show ¬ (false = true) by decide)] at H; exact H
              clear H
              have H := H1
              clear H1
              have H' := Aside0.mk H
              clear H
              obtain ⟨Ao44, co44, eo44⟩ := Kd.R_slice HO438.out
              subst eo44
              go_wp2_with (first | (go_at_call 19; (with_reducible refine (tellurionref04_Cam.calls kj4 _ _ t434 false _ ?side1 ?side2 A30.out).mono ?_); (case side1 => repeat (first | exact (Kd.R_reads' HO438.out).2.2 | (with_reducible refine Kd.C_alloc ?_ _) | (with_reducible refine Kd.C_drewN ?_ _) | (with_reducible refine Kd.C_drew ?_))); (case side2 => exact (Kd.R_reads' HO438.out).2.1); rintro e w' ⟨rfl, ⟨nd, rfl⟩⟩))
              go_meet
              case rel => exact ⟨_, (true), (by first | rfl | (simp; done) | (simp [*]; done)), H', ⟨by have := HJ4.out; first | omega | exact Nat.le_refl _⟩, ⟨by (with_reducible repeat (first | apply Kd.R_alloc | apply Kd.R_drewN | apply Kd.R_drew)); exact Kd.R_mono HO438.out (fun _ hk => trivial)⟩, ⟨by repeat (first | (with_reducible first | exact HB.out | apply below_alloc | apply pw_below_drewN | apply below_drew1) | exact HB.out)⟩⟩
          · rw [if_neg c29] at H
            have c29b0 : (t436 == 0) = false := beq_eq_false_iff_ne.mpr c29
            have c29b1 : (t436 != 0) = true := bne_iff_ne.mpr c29
            (first | rw [c29b0] | (simp only [i64_w, i32_w]; rw [c29b0]) | skip)
            have H' := Aside0.mk H
            clear H
            go_wp2
            go_meet
            case rel => exact ⟨_, (true), (by first | rfl | (simp; done) | (simp [*]; done)), H', ⟨by have := HJ4.out; first | omega | exact Nat.le_refl _⟩, ⟨by (with_reducible repeat (first | apply Kd.R_alloc | apply Kd.R_drewN | apply Kd.R_drew)); exact Kd.R_mono HO438.out (fun _ hk => trivial)⟩, ⟨by repeat (first | (with_reducible first | exact HB.out | apply below_alloc | apply pw_below_drewN | apply below_drew1) | exact HB.out)⟩⟩
        case rest =>
          clear HC24
          try clear c1
          try clear c2
          try clear p2
          try clear c3
          try clear c7
          try clear c9
          try clear c11
          try clear c13
          try clear c15
          try clear c16
          try clear c16b0
          try clear c16b1
          try clear c16b2
          try clear c17
          try clear c17b0
          try clear c18
          try clear c22
          try clear c29
          try clear c29b0
          try clear c29b1
          try clear c31
          try clear c32
          try clear c32b0
          try clear c32b1
          try clear c32b2
          try clear c33
          try clear c33b0
          try clear c33b1
          try clear c34
          try clear c34b0
          try clear c34b1
          try clear p2
          obtain ⟨kq, x110_23, rfl, HA, HJ23, HO_9, HB⟩ := hcut
          cases kq with
          | zero => exact absurd HA.out (by simp [tellurionlaw04_CamCarved.j1])
          | succ kj23 =>
            have H := HA.out
            clear HA
            simp only [tellurionlaw04_CamCarved.j1] at H
            by_cases c45 : x110_23 = true
            · subst c45
              have H1 : (some false) = some r := by rw [if_pos rfl] at H; exact H
              clear H
              have H := H1
              clear H1
              obtain rfl := Option.some.inj H
              go_wp2
              go_ret
              exact ⟨by first | rfl | (simp [errW_none, errW_some] <;> rfl) | (simp [*, errW_none, errW_some] <;> rfl), by repeat (first | (with_reducible first | exact HB.out | apply below_alloc | apply pw_below_drewN | apply below_drew1) | exact HB.out)⟩
            · replace c45 := Bool.eq_false_iff.mpr c45
              subst c45
              have H1 : ((cam_Follow.f t434 a1).bind fun bt452 => ((cam_Follow.f l2 a1).bind fun bt456 => (if bt452.2 = 0 then (tellurionlaw04_CamCarved.j2 kj23 l0 l2 t434 t435 bt452.1 bt456.1 (bt456.2 != 0)) else (tellurionlaw04_CamCarved.j2 kj23 l0 l2 t434 t435 bt452.1 bt456.1 true)))) = some r := by rw [if_neg (show ¬ (false = true) by decide)] at H; exact H
              clear H
              have H := H1
              clear H1
              replace H := Option.bind_eq_some_iff.mp H
              obtain ⟨⟨t452, t453⟩, A460, H⟩ := H
              replace H : ((cam_Follow.f l2 a1).bind fun bt456 => (if t453 = 0 then (tellurionlaw04_CamCarved.j2 kj23 l0 l2 t434 t435 t452 bt456.1 (bt456.2 != 0)) else (tellurionlaw04_CamCarved.j2 kj23 l0 l2 t434 t435 t452 bt456.1 true))) = some r := H
              have A46 := Aside0.mk A460
              clear A460
              replace H := Option.bind_eq_some_iff.mp H
              obtain ⟨⟨t456, t457⟩, A470, H⟩ := H
              replace H : (if t453 = 0 then (tellurionlaw04_CamCarved.j2 kj23 l0 l2 t434 t435 t452 t456 (t457 != 0)) else (tellurionlaw04_CamCarved.j2 kj23 l0 l2 t434 t435 t452 t456 true)) = some r := H
              have A47 := Aside0.mk A470
              clear A470
              have HC48 := Aside0.mk H
              clear H
              obtain ⟨Ao49, co49, eo49⟩ := Kd.R_slice HO_9.out
              subst eo49
              go_upto_region 9 with (first | ((with_reducible refine gate_callee (f := 33) rfl ?_); refine goesL_ (some 114) rfl rfl Tryz.func33 (by kernel_rfl) rfl #[.slice Ao49 t434.length co49, .int .i64 a1] rfl (by (try simp only [List.map_toArray, List.map_cons, List.map_nil]); first | done | rfl | (simp only [List.length_drop, List.length_take]; rfl)) ?_; (with_reducible refine (cam_Follow.calls _ _ t434 a1 t452 t453 _ ?side1 ?side2 A46.out).mono ?_); (case side1 => repeat (first | exact (Kd.R_reads' HO_9.out).2.2 | (with_reducible refine Kd.C_alloc ?_ _) | (with_reducible refine Kd.C_drewN ?_ _) | (with_reducible refine Kd.C_drew ?_))); (case side2 => exact (Kd.R_reads' HO_9.out).2.1); rintro e w50 ⟨v454, rfl, ho0, hb⟩; refine ⟨_, rfl, ?_⟩; have n0_ := Aside0.mk (Kd.R_elder' (by (with_reducible repeat (first | apply Kd.R_alloc | apply Kd.R_drewN | apply Kd.R_drew)); exact HO_9.out) (Kd.R_base ho0) hb); have n1_ := Aside0.mk (Kd.R_lower (Kd.R_new' ho0 (Kd.R_lt (by (with_reducible repeat (first | apply Kd.R_alloc | apply Kd.R_drewN | apply Kd.R_drew)); exact HO_9.out))) (below_size (by repeat (first | (with_reducible first | exact HB.out | apply below_alloc | apply pw_below_drewN | apply below_drew1) | exact HB.out)))); have n2_ := Aside0.mk (below_step (by repeat (first | (with_reducible first | exact HB.out | apply below_alloc | apply pw_below_drewN | apply below_drew1) | exact HB.out)) hb); clear HO_9; clear HB; have HO_9 := n0_; have HO455 := n1_; have HB := n2_; clear n0_ n1_ n2_; (try clear hb); (try clear hb2); (try clear hk); (try clear hi); (try clear ho0)) | ((with_reducible refine gate_callee (f := 33) rfl ?_); refine goesL_ (some 120) rfl rfl Tryz.func33 (by kernel_rfl) rfl #[.slice A2 l2.length c2, .int .i64 a1] rfl (by (try simp only [List.map_toArray, List.map_cons, List.map_nil]); first | done | rfl | (simp only [List.length_drop, List.length_take]; rfl)) ?_; (with_reducible refine (cam_Follow.calls _ _ l2 a1 t456 t457 _ ?side1 ?side2 A47.out).mono ?_); (case side1 => repeat (first | exact (Kd.C_below HR2.out HB.out) | (with_reducible refine Kd.C_alloc ?_ _) | (with_reducible refine Kd.C_drewN ?_ _) | (with_reducible refine Kd.C_drew ?_))); (case side2 => exact HC2.out); rintro e w51 ⟨v458, rfl, ho0, hb⟩; refine ⟨_, rfl, ?_⟩; have n0_ := Aside0.mk (Kd.R_elder' (by (with_reducible repeat (first | apply Kd.R_alloc | apply Kd.R_drewN | apply Kd.R_drew)); exact HO_9.out) (Kd.R_base ho0) hb); have n1_ := Aside0.mk (Kd.R_elder' (by (with_reducible repeat (first | apply Kd.R_alloc | apply Kd.R_drewN | apply Kd.R_drew)); exact HO455.out) (Kd.R_base ho0) hb); have n2_ := Aside0.mk (Kd.R_lower (Kd.R_new' (Kd.R_new' ho0 (Kd.R_lt (by (with_reducible repeat (first | apply Kd.R_alloc | apply Kd.R_drewN | apply Kd.R_drew)); exact HO_9.out))) (Kd.R_lt (by (with_reducible repeat (first | apply Kd.R_alloc | apply Kd.R_drewN | apply Kd.R_drew)); exact HO455.out))) (below_size (by repeat (first | (with_reducible first | exact HB.out | apply below_alloc | apply pw_below_drewN | apply below_drew1) | exact HB.out)))); have n3_ := Aside0.mk (below_step (by repeat (first | (with_reducible first | exact HB.out | apply below_alloc | apply pw_below_drewN | apply below_drew1) | exact HB.out)) hb); clear HO_9; clear HO455; clear HB; have HO_9 := n0_; have HO455 := n1_; have HO459 := n2_; have HB := n3_; clear n0_ n1_ n2_ n3_; (try clear hb); (try clear hb2); (try clear hk); (try clear hi); (try clear ho0)))
              (try simp only [Act.put, List.setIfInBounds_toArray, List.set_cons_zero, List.set_cons_succ])
              go_cut [128] (fun v128 wc => ∃ (kq : Nat) (x128_47 : Bool), v128 = .bool x128_47 ∧ Aside0 (tellurionlaw04_CamCarved.j2 kq l0 l2 t434 t435 t452 t456 x128_47 = some r) ∧ Aside0 (kq ≤ kj23) ∧ Aside0 (Kd.R (Kd.int .i64) 3 wc w.heap.size (fun k_ => some k_ ≠ (v454 : Value).ownBlock ∧ some k_ ≠ (v458 : Value).ownBlock) (.slice Ao49 t434.length co49) t434) ∧ Aside0 (Kd.R (Kd.int .i64) 3 wc w.heap.size (fun k_ => some k_ ≠ ((.slice Ao49 t434.length co49) : Value).ownBlock ∧ some k_ ≠ (v458 : Value).ownBlock) v454 t452) ∧ Aside0 (Kd.R (Kd.int .i64) 3 wc w.heap.size (fun k_ => some k_ ≠ ((.slice Ao49 t434.length co49) : Value).ownBlock ∧ some k_ ≠ (v454 : Value).ownBlock) v458 t456) ∧ Aside0 (Below w.heap.size w wc))
              case first =>
                have H := HC48.out
                clear HC48
                by_cases c52 : t453 = 0
                · rw [if_pos c52] at H
                  have c52b0 : (t453 == 0) = true := beq_iff_eq.mpr c52
                  have c52b1 : (t453 != 0) = false := bne_eq_false_iff_eq.mpr c52
                  clear c52
                  (first | rw [c52b0] | (simp only [i64_w, i32_w]; rw [c52b0]) | skip)
                  have H' := Aside0.mk H
                  clear H
                  go_wp2
                  go_meet
                  case rel => exact ⟨_, ((t457 != 0)), (by first | rfl | (simp; done) | (simp [*]; done)), H', ⟨by have := HJ4.out; have := HJ23.out; first | omega | exact Nat.le_refl _⟩, ⟨by (with_reducible repeat (first | apply Kd.R_alloc | apply Kd.R_drewN | apply Kd.R_drew)); exact Kd.R_mono HO_9.out (fun _ hk => ⟨hk.1.2, hk.2⟩)⟩, ⟨by (with_reducible repeat (first | apply Kd.R_alloc | apply Kd.R_drewN | apply Kd.R_drew)); exact Kd.R_mono HO455.out (fun _ hk => ⟨hk.1.2, hk.2⟩)⟩, ⟨by (with_reducible repeat (first | apply Kd.R_alloc | apply Kd.R_drewN | apply Kd.R_drew)); exact Kd.R_mono HO459.out (fun _ hk => ⟨hk.1.2, hk.2⟩)⟩, ⟨by repeat (first | (with_reducible first | exact HB.out | apply below_alloc | apply pw_below_drewN | apply below_drew1) | exact HB.out)⟩⟩
                · rw [if_neg c52] at H
                  have c52b0 : (t453 == 0) = false := beq_eq_false_iff_ne.mpr c52
                  have c52b1 : (t453 != 0) = true := bne_iff_ne.mpr c52
                  (first | rw [c52b0] | (simp only [i64_w, i32_w]; rw [c52b0]) | skip)
                  have H' := Aside0.mk H
                  clear H
                  go_wp2
                  go_meet
                  case rel => exact ⟨_, (true), (by first | rfl | (simp; done) | (simp [*]; done)), H', ⟨by have := HJ4.out; have := HJ23.out; first | omega | exact Nat.le_refl _⟩, ⟨by (with_reducible repeat (first | apply Kd.R_alloc | apply Kd.R_drewN | apply Kd.R_drew)); exact Kd.R_mono HO_9.out (fun _ hk => ⟨hk.1.2, hk.2⟩)⟩, ⟨by (with_reducible repeat (first | apply Kd.R_alloc | apply Kd.R_drewN | apply Kd.R_drew)); exact Kd.R_mono HO455.out (fun _ hk => ⟨hk.1.2, hk.2⟩)⟩, ⟨by (with_reducible repeat (first | apply Kd.R_alloc | apply Kd.R_drewN | apply Kd.R_drew)); exact Kd.R_mono HO459.out (fun _ hk => ⟨hk.1.2, hk.2⟩)⟩, ⟨by repeat (first | (with_reducible first | exact HB.out | apply below_alloc | apply pw_below_drewN | apply below_drew1) | exact HB.out)⟩⟩
              case rest =>
                clear HC48
                try clear c1
                try clear c2
                try clear p2
                try clear c3
                try clear c4
                try clear c5
                try clear c7
                try clear c9
                try clear c11
                try clear c13
                try clear c15
                try clear c16
                try clear c16b0
                try clear c16b1
                try clear c16b2
                try clear c17
                try clear c17b0
                try clear c18
                try clear c22
                try clear c29
                try clear c29b0
                try clear c29b1
                try clear c31
                try clear c32
                try clear c32b0
                try clear c32b1
                try clear c32b2
                try clear c33
                try clear c33b0
                try clear c33b1
                try clear c34
                try clear c34b0
                try clear c34b1
                try clear c45
                try clear c52
                try clear c52b0
                try clear c52b1
                try clear p2
                obtain ⟨kq, x128_47, rfl, HA, HJ47, HO_9, HO_15, HO_17, HB⟩ := hcut
                cases kq with
                | zero => exact absurd HA.out (by simp [tellurionlaw04_CamCarved.j2])
                | succ kj47 =>
                  have H := HA.out
                  clear HA
                  simp only [tellurionlaw04_CamCarved.j2] at H
                  by_cases c53 : x128_47 = true
                  · subst c53
                    have H1 : (some false) = some r := by rw [if_pos rfl] at H; exact H
                    clear H
                    have H := H1
                    clear H1
                    obtain rfl := Option.some.inj H
                    go_wp2
                    go_ret
                    exact ⟨by first | rfl | (simp [errW_none, errW_some] <;> rfl) | (simp [*, errW_none, errW_some] <;> rfl), by repeat (first | (with_reducible first | exact HB.out | apply below_alloc | apply pw_below_drewN | apply below_drew1) | exact HB.out)⟩
                  · replace c53 := Bool.eq_false_iff.mpr c53
                    subst c53
                    have H1 : ((cam_Error.f kj47 t452 l0).bind fun bt460 => ((cam_Error.f kj47 t456 l0).bind fun bt462 => (if bt460.2 = 0 then (if bt462.2 = 0 then (if bt460.1 = t435 then (if bt462.1 ≥ t435 then (if bt462.1 > t435 then ((tellurionlaw04_known.f).bind fun t464 => (some t464)) else ((tellurionlaw04_below.f kj47 l2 t434).bind fun t465 => (if t465 = true then ((tellurionlaw04_known.f).bind fun t466 => (some t466)) else (some false)))) else (some false)) else (some false)) else (some false)) else (some false)))) = some r := by rw [if_neg (show ¬ (false = true) by decide)] at H; exact H
                    clear H
                    have H := H1
                    clear H1
                    replace H := Option.bind_eq_some_iff.mp H
                    obtain ⟨⟨t460, t461⟩, A540, H⟩ := H
                    replace H : ((cam_Error.f kj47 t456 l0).bind fun bt462 => (if t461 = 0 then (if bt462.2 = 0 then (if t460 = t435 then (if bt462.1 ≥ t435 then (if bt462.1 > t435 then ((tellurionlaw04_known.f).bind fun t464 => (some t464)) else ((tellurionlaw04_below.f kj47 l2 t434).bind fun t465 => (if t465 = true then ((tellurionlaw04_known.f).bind fun t466 => (some t466)) else (some false)))) else (some false)) else (some false)) else (some false)) else (some false))) = some r := H
                    have A54 := Aside0.mk A540
                    clear A540
                    replace H := Option.bind_eq_some_iff.mp H
                    obtain ⟨⟨t462, t463⟩, A550, H⟩ := H
                    replace H : (if t461 = 0 then (if t463 = 0 then (if t460 = t435 then (if t462 ≥ t435 then (if t462 > t435 then ((tellurionlaw04_known.f).bind fun t464 => (some t464)) else ((tellurionlaw04_below.f kj47 l2 t434).bind fun t465 => (if t465 = true then ((tellurionlaw04_known.f).bind fun t466 => (some t466)) else (some false)))) else (some false)) else (some false)) else (some false)) else (some false)) = some r := H
                    have A55 := Aside0.mk A550
                    clear A550
                    by_cases c56 : t461 = 0
                    · rw [if_pos c56] at H
                      have c56b0 : (t461 == 0) = true := beq_iff_eq.mpr c56
                      have c56b1 : (t461 != 0) = false := bne_eq_false_iff_eq.mpr c56
                      clear c56
                      by_cases c57 : t463 = 0
                      · rw [if_pos c57] at H
                        have c57b0 : (t463 == 0) = true := beq_iff_eq.mpr c57
                        have c57b1 : (t463 != 0) = false := bne_eq_false_iff_eq.mpr c57
                        clear c57
                        by_cases c58 : t460 = t435
                        · rw [if_pos c58] at H
                          have c58b0 : (t460 == t435) = true := beq_iff_eq.mpr c58
                          have c58b1 : (t460 != t435) = false := bne_eq_false_iff_eq.mpr c58
                          clear c58
                          by_cases c59 : t462 ≥ t435
                          · rw [if_pos c59] at H
                            have c59b0 : decide (t435 ≤ t462) = true := decide_eq_true c59
                            clear c59
                            by_cases c60 : t462 > t435
                            · rw [if_pos c60] at H
                              have c60b0 : decide (t435 < t462) = true := decide_eq_true c60
                              clear c60
                              replace H := Option.bind_eq_some_iff.mp H
                              obtain ⟨t464, A610, H⟩ := H
                              replace H : (some t464) = some r := H
                              have A61 := Aside0.mk A610
                              clear A610
                              obtain rfl := Option.some.inj H
                              obtain ⟨Ao62, co62, eo62⟩ := Kd.R_slice HO_15.out
                              subst eo62
                              go_wp2_with (first | ((with_reducible refine gate_callee (f := 34) rfl ?_); refine goesL_ (some 132) rfl rfl Tryz.func34 (by kernel_rfl) rfl #[.slice Ao62 t452.length co62, .slice A0 l0.length c0] rfl (by (try simp only [List.map_toArray, List.map_cons, List.map_nil]); first | done | rfl | (simp only [List.length_drop, List.length_take]; rfl)) ?_; (with_reducible refine (cam_Error.calls kj47 _ _ t452 _ _ l0 t460 t461 _ ?side1 ?side2 ?side3 ?side4 A54.out).mono ?_); (case side1 => repeat (first | exact (Kd.R_reads' HO_15.out).2.2 | (with_reducible refine Kd.C_alloc ?_ _) | (with_reducible refine Kd.C_drewN ?_ _) | (with_reducible refine Kd.C_drew ?_))); (case side2 => exact (Kd.R_reads' HO_15.out).2.1); (case side3 => repeat (first | exact (Kd.C_below HR0.out HB.out) | (with_reducible refine Kd.C_alloc ?_ _) | (with_reducible refine Kd.C_drewN ?_ _) | (with_reducible refine Kd.C_drew ?_))); (case side4 => exact HC0.out); rintro e w63 ⟨rfl, hb⟩; refine ⟨_, rfl, ?_⟩; have n0_ := Aside0.mk (Kd.R_below (by (with_reducible repeat (first | apply Kd.R_alloc | apply Kd.R_drewN | apply Kd.R_drew)); exact HO_9.out) hb); have n1_ := Aside0.mk (Kd.R_below (by (with_reducible repeat (first | apply Kd.R_alloc | apply Kd.R_drewN | apply Kd.R_drew)); exact HO_15.out) hb); have n2_ := Aside0.mk (Kd.R_below (by (with_reducible repeat (first | apply Kd.R_alloc | apply Kd.R_drewN | apply Kd.R_drew)); exact HO_17.out) hb); have n3_ := Aside0.mk (below_step (by repeat (first | (with_reducible first | exact HB.out | apply below_alloc | apply pw_below_drewN | apply below_drew1) | exact HB.out)) hb); clear HO_9; clear HO_15; clear HO_17; clear HB; have HO_9 := n0_; have HO_15 := n1_; have HO_17 := n2_; have HB := n3_; clear n0_ n1_ n2_ n3_; (try clear hb); (try clear hb2); (try clear hk); (try clear hi); obtain ⟨Ao64, co64, eo64⟩ := Kd.R_slice HO_17.out; subst eo64) | ((with_reducible refine gate_callee (f := 34) rfl ?_); refine goesL_ (some 138) rfl rfl Tryz.func34 (by kernel_rfl) rfl #[.slice Ao64 t456.length co64, .slice A0 l0.length c0] rfl (by (try simp only [List.map_toArray, List.map_cons, List.map_nil]); first | done | rfl | (simp only [List.length_drop, List.length_take]; rfl)) ?_; (with_reducible refine (cam_Error.calls kj47 _ _ t456 _ _ l0 t462 t463 _ ?side1 ?side2 ?side3 ?side4 A55.out).mono ?_); (case side1 => repeat (first | exact (Kd.R_reads' HO_17.out).2.2 | (with_reducible refine Kd.C_alloc ?_ _) | (with_reducible refine Kd.C_drewN ?_ _) | (with_reducible refine Kd.C_drew ?_))); (case side2 => exact (Kd.R_reads' HO_17.out).2.1); (case side3 => repeat (first | exact (Kd.C_below HR0.out HB.out) | (with_reducible refine Kd.C_alloc ?_ _) | (with_reducible refine Kd.C_drewN ?_ _) | (with_reducible refine Kd.C_drew ?_))); (case side4 => exact HC0.out); rintro e w65 ⟨rfl, hb⟩; refine ⟨_, rfl, ?_⟩; have n0_ := Aside0.mk (Kd.R_below (by (with_reducible repeat (first | apply Kd.R_alloc | apply Kd.R_drewN | apply Kd.R_drew)); exact HO_9.out) hb); have n1_ := Aside0.mk (Kd.R_below (by (with_reducible repeat (first | apply Kd.R_alloc | apply Kd.R_drewN | apply Kd.R_drew)); exact HO_15.out) hb); have n2_ := Aside0.mk (Kd.R_below (by (with_reducible repeat (first | apply Kd.R_alloc | apply Kd.R_drewN | apply Kd.R_drew)); exact HO_17.out) hb); have n3_ := Aside0.mk (below_step (by repeat (first | (with_reducible first | exact HB.out | apply below_alloc | apply pw_below_drewN | apply below_drew1) | exact HB.out)) hb); clear HO_9; clear HO_15; clear HO_17; clear HB; have HO_9 := n0_; have HO_15 := n1_; have HO_17 := n2_; have HB := n3_; clear n0_ n1_ n2_ n3_; (try clear hb); (try clear hb2); (try clear hk); (try clear hi)) | (go_at_call 11; (with_reducible refine (tellurionlaw04_known.calls  t464 _ A61.out).mono ?_); rintro e w66 ⟨rfl, hb⟩; have n0_ := Aside0.mk (Kd.R_below (by (with_reducible repeat (first | apply Kd.R_alloc | apply Kd.R_drewN | apply Kd.R_drew)); exact HO_9.out) hb); have n1_ := Aside0.mk (Kd.R_below (by (with_reducible repeat (first | apply Kd.R_alloc | apply Kd.R_drewN | apply Kd.R_drew)); exact HO_15.out) hb); have n2_ := Aside0.mk (Kd.R_below (by (with_reducible repeat (first | apply Kd.R_alloc | apply Kd.R_drewN | apply Kd.R_drew)); exact HO_17.out) hb); have n3_ := Aside0.mk (below_step (by repeat (first | (with_reducible first | exact HB.out | apply below_alloc | apply pw_below_drewN | apply below_drew1) | exact HB.out)) hb); clear HO_9; clear HO_15; clear HO_17; clear HB; have HO_9 := n0_; have HO_15 := n1_; have HO_17 := n2_; have HB := n3_; clear n0_ n1_ n2_ n3_; (try clear hb); (try clear hb2); (try clear hk); (try clear hi)))
                              go_ret
                              exact ⟨by first | rfl | (simp [errW_none, errW_some] <;> rfl) | (simp [*, errW_none, errW_some] <;> rfl), by repeat (first | (with_reducible first | exact HB.out | apply below_alloc | apply pw_below_drewN | apply below_drew1) | exact HB.out)⟩
                            · rw [if_neg c60] at H
                              have c60b0 : decide (t435 < t462) = false := decide_eq_false c60
                              clear c60
                              replace H := Option.bind_eq_some_iff.mp H
                              obtain ⟨t465, A670, H⟩ := H
                              replace H : (if t465 = true then ((tellurionlaw04_known.f).bind fun t466 => (some t466)) else (some false)) = some r := H
                              have A67 := Aside0.mk A670
                              clear A670
                              by_cases c68 : t465 = true
                              · subst c68
                                have H1 : ((tellurionlaw04_known.f).bind fun t466 => (some t466)) = some r := by rw [if_pos rfl] at H; exact H
                                clear H
                                have H := H1
                                clear H1
                                replace H := Option.bind_eq_some_iff.mp H
                                obtain ⟨t466, A690, H⟩ := H
                                replace H : (some t466) = some r := H
                                have A69 := Aside0.mk A690
                                clear A690
                                obtain rfl := Option.some.inj H
                                obtain ⟨Ao70, co70, eo70⟩ := Kd.R_slice HO_15.out
                                subst eo70
                                go_wp2_with (first | ((with_reducible refine gate_callee (f := 34) rfl ?_); refine goesL_ (some 132) rfl rfl Tryz.func34 (by kernel_rfl) rfl #[.slice Ao70 t452.length co70, .slice A0 l0.length c0] rfl (by (try simp only [List.map_toArray, List.map_cons, List.map_nil]); first | done | rfl | (simp only [List.length_drop, List.length_take]; rfl)) ?_; (with_reducible refine (cam_Error.calls kj47 _ _ t452 _ _ l0 t460 t461 _ ?side1 ?side2 ?side3 ?side4 A54.out).mono ?_); (case side1 => repeat (first | exact (Kd.R_reads' HO_15.out).2.2 | (with_reducible refine Kd.C_alloc ?_ _) | (with_reducible refine Kd.C_drewN ?_ _) | (with_reducible refine Kd.C_drew ?_))); (case side2 => exact (Kd.R_reads' HO_15.out).2.1); (case side3 => repeat (first | exact (Kd.C_below HR0.out HB.out) | (with_reducible refine Kd.C_alloc ?_ _) | (with_reducible refine Kd.C_drewN ?_ _) | (with_reducible refine Kd.C_drew ?_))); (case side4 => exact HC0.out); rintro e w71 ⟨rfl, hb⟩; refine ⟨_, rfl, ?_⟩; have n0_ := Aside0.mk (Kd.R_below (by (with_reducible repeat (first | apply Kd.R_alloc | apply Kd.R_drewN | apply Kd.R_drew)); exact HO_9.out) hb); have n1_ := Aside0.mk (Kd.R_below (by (with_reducible repeat (first | apply Kd.R_alloc | apply Kd.R_drewN | apply Kd.R_drew)); exact HO_15.out) hb); have n2_ := Aside0.mk (Kd.R_below (by (with_reducible repeat (first | apply Kd.R_alloc | apply Kd.R_drewN | apply Kd.R_drew)); exact HO_17.out) hb); have n3_ := Aside0.mk (below_step (by repeat (first | (with_reducible first | exact HB.out | apply below_alloc | apply pw_below_drewN | apply below_drew1) | exact HB.out)) hb); clear HO_9; clear HO_15; clear HO_17; clear HB; have HO_9 := n0_; have HO_15 := n1_; have HO_17 := n2_; have HB := n3_; clear n0_ n1_ n2_ n3_; (try clear hb); (try clear hb2); (try clear hk); (try clear hi); obtain ⟨Ao72, co72, eo72⟩ := Kd.R_slice HO_17.out; subst eo72) | ((with_reducible refine gate_callee (f := 34) rfl ?_); refine goesL_ (some 138) rfl rfl Tryz.func34 (by kernel_rfl) rfl #[.slice Ao72 t456.length co72, .slice A0 l0.length c0] rfl (by (try simp only [List.map_toArray, List.map_cons, List.map_nil]); first | done | rfl | (simp only [List.length_drop, List.length_take]; rfl)) ?_; (with_reducible refine (cam_Error.calls kj47 _ _ t456 _ _ l0 t462 t463 _ ?side1 ?side2 ?side3 ?side4 A55.out).mono ?_); (case side1 => repeat (first | exact (Kd.R_reads' HO_17.out).2.2 | (with_reducible refine Kd.C_alloc ?_ _) | (with_reducible refine Kd.C_drewN ?_ _) | (with_reducible refine Kd.C_drew ?_))); (case side2 => exact (Kd.R_reads' HO_17.out).2.1); (case side3 => repeat (first | exact (Kd.C_below HR0.out HB.out) | (with_reducible refine Kd.C_alloc ?_ _) | (with_reducible refine Kd.C_drewN ?_ _) | (with_reducible refine Kd.C_drew ?_))); (case side4 => exact HC0.out); rintro e w73 ⟨rfl, hb⟩; refine ⟨_, rfl, ?_⟩; have n0_ := Aside0.mk (Kd.R_below (by (with_reducible repeat (first | apply Kd.R_alloc | apply Kd.R_drewN | apply Kd.R_drew)); exact HO_9.out) hb); have n1_ := Aside0.mk (Kd.R_below (by (with_reducible repeat (first | apply Kd.R_alloc | apply Kd.R_drewN | apply Kd.R_drew)); exact HO_15.out) hb); have n2_ := Aside0.mk (Kd.R_below (by (with_reducible repeat (first | apply Kd.R_alloc | apply Kd.R_drewN | apply Kd.R_drew)); exact HO_17.out) hb); have n3_ := Aside0.mk (below_step (by repeat (first | (with_reducible first | exact HB.out | apply below_alloc | apply pw_below_drewN | apply below_drew1) | exact HB.out)) hb); clear HO_9; clear HO_15; clear HO_17; clear HB; have HO_9 := n0_; have HO_15 := n1_; have HO_17 := n2_; have HB := n3_; clear n0_ n1_ n2_ n3_; (try clear hb); (try clear hb2); (try clear hk); (try clear hi)) | (go_at_call 35; (with_reducible refine (tellurionlaw04_below.calls kj47 _ _ l2 _ _ t434 true _ ?side1 ?side2 ?side3 ?side4 A67.out).mono ?_); (case side1 => repeat (first | exact (Kd.C_below HR2.out HB.out) | (with_reducible refine Kd.C_alloc ?_ _) | (with_reducible refine Kd.C_drewN ?_ _) | (with_reducible refine Kd.C_drew ?_))); (case side2 => exact HC2.out); (case side3 => repeat (first | exact (Kd.R_reads' HO_9.out).2.2 | (with_reducible refine Kd.C_alloc ?_ _) | (with_reducible refine Kd.C_drewN ?_ _) | (with_reducible refine Kd.C_drew ?_))); (case side4 => exact (Kd.R_reads' HO_9.out).2.1); rintro e w' ⟨rfl, ⟨nd, rfl⟩⟩) | (go_at_call 11; (with_reducible refine (tellurionlaw04_known.calls  t466 _ A69.out).mono ?_); rintro e w74 ⟨rfl, hb⟩; have n0_ := Aside0.mk (Kd.R_below (by (with_reducible repeat (first | apply Kd.R_alloc | apply Kd.R_drewN | apply Kd.R_drew)); exact HO_9.out) hb); have n1_ := Aside0.mk (Kd.R_below (by (with_reducible repeat (first | apply Kd.R_alloc | apply Kd.R_drewN | apply Kd.R_drew)); exact HO_15.out) hb); have n2_ := Aside0.mk (Kd.R_below (by (with_reducible repeat (first | apply Kd.R_alloc | apply Kd.R_drewN | apply Kd.R_drew)); exact HO_17.out) hb); have n3_ := Aside0.mk (below_step (by repeat (first | (with_reducible first | exact HB.out | apply below_alloc | apply pw_below_drewN | apply below_drew1) | exact HB.out)) hb); clear HO_9; clear HO_15; clear HO_17; clear HB; have HO_9 := n0_; have HO_15 := n1_; have HO_17 := n2_; have HB := n3_; clear n0_ n1_ n2_ n3_; (try clear hb); (try clear hb2); (try clear hk); (try clear hi)))
                                go_ret
                                exact ⟨by first | rfl | (simp [errW_none, errW_some] <;> rfl) | (simp [*, errW_none, errW_some] <;> rfl), by repeat (first | (with_reducible first | exact HB.out | apply below_alloc | apply pw_below_drewN | apply below_drew1) | exact HB.out)⟩
                              · replace c68 := Bool.eq_false_iff.mpr c68
                                subst c68
                                have H1 : (some false) = some r := by rw [if_neg (show ¬ (false = true) by decide)] at H; exact H
                                clear H
                                have H := H1
                                clear H1
                                obtain rfl := Option.some.inj H
                                obtain ⟨Ao75, co75, eo75⟩ := Kd.R_slice HO_15.out
                                subst eo75
                                go_wp2_with (first | ((with_reducible refine gate_callee (f := 34) rfl ?_); refine goesL_ (some 132) rfl rfl Tryz.func34 (by kernel_rfl) rfl #[.slice Ao75 t452.length co75, .slice A0 l0.length c0] rfl (by (try simp only [List.map_toArray, List.map_cons, List.map_nil]); first | done | rfl | (simp only [List.length_drop, List.length_take]; rfl)) ?_; (with_reducible refine (cam_Error.calls kj47 _ _ t452 _ _ l0 t460 t461 _ ?side1 ?side2 ?side3 ?side4 A54.out).mono ?_); (case side1 => repeat (first | exact (Kd.R_reads' HO_15.out).2.2 | (with_reducible refine Kd.C_alloc ?_ _) | (with_reducible refine Kd.C_drewN ?_ _) | (with_reducible refine Kd.C_drew ?_))); (case side2 => exact (Kd.R_reads' HO_15.out).2.1); (case side3 => repeat (first | exact (Kd.C_below HR0.out HB.out) | (with_reducible refine Kd.C_alloc ?_ _) | (with_reducible refine Kd.C_drewN ?_ _) | (with_reducible refine Kd.C_drew ?_))); (case side4 => exact HC0.out); rintro e w76 ⟨rfl, hb⟩; refine ⟨_, rfl, ?_⟩; have n0_ := Aside0.mk (Kd.R_below (by (with_reducible repeat (first | apply Kd.R_alloc | apply Kd.R_drewN | apply Kd.R_drew)); exact HO_9.out) hb); have n1_ := Aside0.mk (Kd.R_below (by (with_reducible repeat (first | apply Kd.R_alloc | apply Kd.R_drewN | apply Kd.R_drew)); exact HO_15.out) hb); have n2_ := Aside0.mk (Kd.R_below (by (with_reducible repeat (first | apply Kd.R_alloc | apply Kd.R_drewN | apply Kd.R_drew)); exact HO_17.out) hb); have n3_ := Aside0.mk (below_step (by repeat (first | (with_reducible first | exact HB.out | apply below_alloc | apply pw_below_drewN | apply below_drew1) | exact HB.out)) hb); clear HO_9; clear HO_15; clear HO_17; clear HB; have HO_9 := n0_; have HO_15 := n1_; have HO_17 := n2_; have HB := n3_; clear n0_ n1_ n2_ n3_; (try clear hb); (try clear hb2); (try clear hk); (try clear hi); obtain ⟨Ao77, co77, eo77⟩ := Kd.R_slice HO_17.out; subst eo77) | ((with_reducible refine gate_callee (f := 34) rfl ?_); refine goesL_ (some 138) rfl rfl Tryz.func34 (by kernel_rfl) rfl #[.slice Ao77 t456.length co77, .slice A0 l0.length c0] rfl (by (try simp only [List.map_toArray, List.map_cons, List.map_nil]); first | done | rfl | (simp only [List.length_drop, List.length_take]; rfl)) ?_; (with_reducible refine (cam_Error.calls kj47 _ _ t456 _ _ l0 t462 t463 _ ?side1 ?side2 ?side3 ?side4 A55.out).mono ?_); (case side1 => repeat (first | exact (Kd.R_reads' HO_17.out).2.2 | (with_reducible refine Kd.C_alloc ?_ _) | (with_reducible refine Kd.C_drewN ?_ _) | (with_reducible refine Kd.C_drew ?_))); (case side2 => exact (Kd.R_reads' HO_17.out).2.1); (case side3 => repeat (first | exact (Kd.C_below HR0.out HB.out) | (with_reducible refine Kd.C_alloc ?_ _) | (with_reducible refine Kd.C_drewN ?_ _) | (with_reducible refine Kd.C_drew ?_))); (case side4 => exact HC0.out); rintro e w78 ⟨rfl, hb⟩; refine ⟨_, rfl, ?_⟩; have n0_ := Aside0.mk (Kd.R_below (by (with_reducible repeat (first | apply Kd.R_alloc | apply Kd.R_drewN | apply Kd.R_drew)); exact HO_9.out) hb); have n1_ := Aside0.mk (Kd.R_below (by (with_reducible repeat (first | apply Kd.R_alloc | apply Kd.R_drewN | apply Kd.R_drew)); exact HO_15.out) hb); have n2_ := Aside0.mk (Kd.R_below (by (with_reducible repeat (first | apply Kd.R_alloc | apply Kd.R_drewN | apply Kd.R_drew)); exact HO_17.out) hb); have n3_ := Aside0.mk (below_step (by repeat (first | (with_reducible first | exact HB.out | apply below_alloc | apply pw_below_drewN | apply below_drew1) | exact HB.out)) hb); clear HO_9; clear HO_15; clear HO_17; clear HB; have HO_9 := n0_; have HO_15 := n1_; have HO_17 := n2_; have HB := n3_; clear n0_ n1_ n2_ n3_; (try clear hb); (try clear hb2); (try clear hk); (try clear hi)) | (go_at_call 35; (with_reducible refine (tellurionlaw04_below.calls kj47 _ _ l2 _ _ t434 false _ ?side1 ?side2 ?side3 ?side4 A67.out).mono ?_); (case side1 => repeat (first | exact (Kd.C_below HR2.out HB.out) | (with_reducible refine Kd.C_alloc ?_ _) | (with_reducible refine Kd.C_drewN ?_ _) | (with_reducible refine Kd.C_drew ?_))); (case side2 => exact HC2.out); (case side3 => repeat (first | exact (Kd.R_reads' HO_9.out).2.2 | (with_reducible refine Kd.C_alloc ?_ _) | (with_reducible refine Kd.C_drewN ?_ _) | (with_reducible refine Kd.C_drew ?_))); (case side4 => exact (Kd.R_reads' HO_9.out).2.1); rintro e w' ⟨rfl, ⟨nd, rfl⟩⟩))
                                go_ret
                                exact ⟨by first | rfl | (simp [errW_none, errW_some] <;> rfl) | (simp [*, errW_none, errW_some] <;> rfl), by repeat (first | (with_reducible first | exact HB.out | apply below_alloc | apply pw_below_drewN | apply below_drew1) | exact HB.out)⟩
                          · rw [if_neg c59] at H
                            have c59b0 : decide (t435 ≤ t462) = false := decide_eq_false c59
                            clear c59
                            obtain rfl := Option.some.inj H
                            obtain ⟨Ao79, co79, eo79⟩ := Kd.R_slice HO_15.out
                            subst eo79
                            go_wp2_with (first | ((with_reducible refine gate_callee (f := 34) rfl ?_); refine goesL_ (some 132) rfl rfl Tryz.func34 (by kernel_rfl) rfl #[.slice Ao79 t452.length co79, .slice A0 l0.length c0] rfl (by (try simp only [List.map_toArray, List.map_cons, List.map_nil]); first | done | rfl | (simp only [List.length_drop, List.length_take]; rfl)) ?_; (with_reducible refine (cam_Error.calls kj47 _ _ t452 _ _ l0 t460 t461 _ ?side1 ?side2 ?side3 ?side4 A54.out).mono ?_); (case side1 => repeat (first | exact (Kd.R_reads' HO_15.out).2.2 | (with_reducible refine Kd.C_alloc ?_ _) | (with_reducible refine Kd.C_drewN ?_ _) | (with_reducible refine Kd.C_drew ?_))); (case side2 => exact (Kd.R_reads' HO_15.out).2.1); (case side3 => repeat (first | exact (Kd.C_below HR0.out HB.out) | (with_reducible refine Kd.C_alloc ?_ _) | (with_reducible refine Kd.C_drewN ?_ _) | (with_reducible refine Kd.C_drew ?_))); (case side4 => exact HC0.out); rintro e w80 ⟨rfl, hb⟩; refine ⟨_, rfl, ?_⟩; have n0_ := Aside0.mk (Kd.R_below (by (with_reducible repeat (first | apply Kd.R_alloc | apply Kd.R_drewN | apply Kd.R_drew)); exact HO_9.out) hb); have n1_ := Aside0.mk (Kd.R_below (by (with_reducible repeat (first | apply Kd.R_alloc | apply Kd.R_drewN | apply Kd.R_drew)); exact HO_15.out) hb); have n2_ := Aside0.mk (Kd.R_below (by (with_reducible repeat (first | apply Kd.R_alloc | apply Kd.R_drewN | apply Kd.R_drew)); exact HO_17.out) hb); have n3_ := Aside0.mk (below_step (by repeat (first | (with_reducible first | exact HB.out | apply below_alloc | apply pw_below_drewN | apply below_drew1) | exact HB.out)) hb); clear HO_9; clear HO_15; clear HO_17; clear HB; have HO_9 := n0_; have HO_15 := n1_; have HO_17 := n2_; have HB := n3_; clear n0_ n1_ n2_ n3_; (try clear hb); (try clear hb2); (try clear hk); (try clear hi); obtain ⟨Ao81, co81, eo81⟩ := Kd.R_slice HO_17.out; subst eo81) | ((with_reducible refine gate_callee (f := 34) rfl ?_); refine goesL_ (some 138) rfl rfl Tryz.func34 (by kernel_rfl) rfl #[.slice Ao81 t456.length co81, .slice A0 l0.length c0] rfl (by (try simp only [List.map_toArray, List.map_cons, List.map_nil]); first | done | rfl | (simp only [List.length_drop, List.length_take]; rfl)) ?_; (with_reducible refine (cam_Error.calls kj47 _ _ t456 _ _ l0 t462 t463 _ ?side1 ?side2 ?side3 ?side4 A55.out).mono ?_); (case side1 => repeat (first | exact (Kd.R_reads' HO_17.out).2.2 | (with_reducible refine Kd.C_alloc ?_ _) | (with_reducible refine Kd.C_drewN ?_ _) | (with_reducible refine Kd.C_drew ?_))); (case side2 => exact (Kd.R_reads' HO_17.out).2.1); (case side3 => repeat (first | exact (Kd.C_below HR0.out HB.out) | (with_reducible refine Kd.C_alloc ?_ _) | (with_reducible refine Kd.C_drewN ?_ _) | (with_reducible refine Kd.C_drew ?_))); (case side4 => exact HC0.out); rintro e w82 ⟨rfl, hb⟩; refine ⟨_, rfl, ?_⟩; have n0_ := Aside0.mk (Kd.R_below (by (with_reducible repeat (first | apply Kd.R_alloc | apply Kd.R_drewN | apply Kd.R_drew)); exact HO_9.out) hb); have n1_ := Aside0.mk (Kd.R_below (by (with_reducible repeat (first | apply Kd.R_alloc | apply Kd.R_drewN | apply Kd.R_drew)); exact HO_15.out) hb); have n2_ := Aside0.mk (Kd.R_below (by (with_reducible repeat (first | apply Kd.R_alloc | apply Kd.R_drewN | apply Kd.R_drew)); exact HO_17.out) hb); have n3_ := Aside0.mk (below_step (by repeat (first | (with_reducible first | exact HB.out | apply below_alloc | apply pw_below_drewN | apply below_drew1) | exact HB.out)) hb); clear HO_9; clear HO_15; clear HO_17; clear HB; have HO_9 := n0_; have HO_15 := n1_; have HO_17 := n2_; have HB := n3_; clear n0_ n1_ n2_ n3_; (try clear hb); (try clear hb2); (try clear hk); (try clear hi)))
                            go_ret
                            exact ⟨by first | rfl | (simp [errW_none, errW_some] <;> rfl) | (simp [*, errW_none, errW_some] <;> rfl), by repeat (first | (with_reducible first | exact HB.out | apply below_alloc | apply pw_below_drewN | apply below_drew1) | exact HB.out)⟩
                        · rw [if_neg c58] at H
                          have c58b0 : (t460 == t435) = false := beq_eq_false_iff_ne.mpr c58
                          have c58b1 : (t460 != t435) = true := bne_iff_ne.mpr c58
                          obtain rfl := Option.some.inj H
                          obtain ⟨Ao83, co83, eo83⟩ := Kd.R_slice HO_15.out
                          subst eo83
                          go_wp2_with (first | ((with_reducible refine gate_callee (f := 34) rfl ?_); refine goesL_ (some 132) rfl rfl Tryz.func34 (by kernel_rfl) rfl #[.slice Ao83 t452.length co83, .slice A0 l0.length c0] rfl (by (try simp only [List.map_toArray, List.map_cons, List.map_nil]); first | done | rfl | (simp only [List.length_drop, List.length_take]; rfl)) ?_; (with_reducible refine (cam_Error.calls kj47 _ _ t452 _ _ l0 t460 t461 _ ?side1 ?side2 ?side3 ?side4 A54.out).mono ?_); (case side1 => repeat (first | exact (Kd.R_reads' HO_15.out).2.2 | (with_reducible refine Kd.C_alloc ?_ _) | (with_reducible refine Kd.C_drewN ?_ _) | (with_reducible refine Kd.C_drew ?_))); (case side2 => exact (Kd.R_reads' HO_15.out).2.1); (case side3 => repeat (first | exact (Kd.C_below HR0.out HB.out) | (with_reducible refine Kd.C_alloc ?_ _) | (with_reducible refine Kd.C_drewN ?_ _) | (with_reducible refine Kd.C_drew ?_))); (case side4 => exact HC0.out); rintro e w84 ⟨rfl, hb⟩; refine ⟨_, rfl, ?_⟩; have n0_ := Aside0.mk (Kd.R_below (by (with_reducible repeat (first | apply Kd.R_alloc | apply Kd.R_drewN | apply Kd.R_drew)); exact HO_9.out) hb); have n1_ := Aside0.mk (Kd.R_below (by (with_reducible repeat (first | apply Kd.R_alloc | apply Kd.R_drewN | apply Kd.R_drew)); exact HO_15.out) hb); have n2_ := Aside0.mk (Kd.R_below (by (with_reducible repeat (first | apply Kd.R_alloc | apply Kd.R_drewN | apply Kd.R_drew)); exact HO_17.out) hb); have n3_ := Aside0.mk (below_step (by repeat (first | (with_reducible first | exact HB.out | apply below_alloc | apply pw_below_drewN | apply below_drew1) | exact HB.out)) hb); clear HO_9; clear HO_15; clear HO_17; clear HB; have HO_9 := n0_; have HO_15 := n1_; have HO_17 := n2_; have HB := n3_; clear n0_ n1_ n2_ n3_; (try clear hb); (try clear hb2); (try clear hk); (try clear hi); obtain ⟨Ao85, co85, eo85⟩ := Kd.R_slice HO_17.out; subst eo85) | ((with_reducible refine gate_callee (f := 34) rfl ?_); refine goesL_ (some 138) rfl rfl Tryz.func34 (by kernel_rfl) rfl #[.slice Ao85 t456.length co85, .slice A0 l0.length c0] rfl (by (try simp only [List.map_toArray, List.map_cons, List.map_nil]); first | done | rfl | (simp only [List.length_drop, List.length_take]; rfl)) ?_; (with_reducible refine (cam_Error.calls kj47 _ _ t456 _ _ l0 t462 t463 _ ?side1 ?side2 ?side3 ?side4 A55.out).mono ?_); (case side1 => repeat (first | exact (Kd.R_reads' HO_17.out).2.2 | (with_reducible refine Kd.C_alloc ?_ _) | (with_reducible refine Kd.C_drewN ?_ _) | (with_reducible refine Kd.C_drew ?_))); (case side2 => exact (Kd.R_reads' HO_17.out).2.1); (case side3 => repeat (first | exact (Kd.C_below HR0.out HB.out) | (with_reducible refine Kd.C_alloc ?_ _) | (with_reducible refine Kd.C_drewN ?_ _) | (with_reducible refine Kd.C_drew ?_))); (case side4 => exact HC0.out); rintro e w86 ⟨rfl, hb⟩; refine ⟨_, rfl, ?_⟩; have n0_ := Aside0.mk (Kd.R_below (by (with_reducible repeat (first | apply Kd.R_alloc | apply Kd.R_drewN | apply Kd.R_drew)); exact HO_9.out) hb); have n1_ := Aside0.mk (Kd.R_below (by (with_reducible repeat (first | apply Kd.R_alloc | apply Kd.R_drewN | apply Kd.R_drew)); exact HO_15.out) hb); have n2_ := Aside0.mk (Kd.R_below (by (with_reducible repeat (first | apply Kd.R_alloc | apply Kd.R_drewN | apply Kd.R_drew)); exact HO_17.out) hb); have n3_ := Aside0.mk (below_step (by repeat (first | (with_reducible first | exact HB.out | apply below_alloc | apply pw_below_drewN | apply below_drew1) | exact HB.out)) hb); clear HO_9; clear HO_15; clear HO_17; clear HB; have HO_9 := n0_; have HO_15 := n1_; have HO_17 := n2_; have HB := n3_; clear n0_ n1_ n2_ n3_; (try clear hb); (try clear hb2); (try clear hk); (try clear hi)))
                          go_ret
                          exact ⟨by first | rfl | (simp [errW_none, errW_some] <;> rfl) | (simp [*, errW_none, errW_some] <;> rfl), by repeat (first | (with_reducible first | exact HB.out | apply below_alloc | apply pw_below_drewN | apply below_drew1) | exact HB.out)⟩
                      · rw [if_neg c57] at H
                        have c57b0 : (t463 == 0) = false := beq_eq_false_iff_ne.mpr c57
                        have c57b1 : (t463 != 0) = true := bne_iff_ne.mpr c57
                        obtain rfl := Option.some.inj H
                        obtain ⟨Ao87, co87, eo87⟩ := Kd.R_slice HO_15.out
                        subst eo87
                        go_wp2_with (first | ((with_reducible refine gate_callee (f := 34) rfl ?_); refine goesL_ (some 132) rfl rfl Tryz.func34 (by kernel_rfl) rfl #[.slice Ao87 t452.length co87, .slice A0 l0.length c0] rfl (by (try simp only [List.map_toArray, List.map_cons, List.map_nil]); first | done | rfl | (simp only [List.length_drop, List.length_take]; rfl)) ?_; (with_reducible refine (cam_Error.calls kj47 _ _ t452 _ _ l0 t460 t461 _ ?side1 ?side2 ?side3 ?side4 A54.out).mono ?_); (case side1 => repeat (first | exact (Kd.R_reads' HO_15.out).2.2 | (with_reducible refine Kd.C_alloc ?_ _) | (with_reducible refine Kd.C_drewN ?_ _) | (with_reducible refine Kd.C_drew ?_))); (case side2 => exact (Kd.R_reads' HO_15.out).2.1); (case side3 => repeat (first | exact (Kd.C_below HR0.out HB.out) | (with_reducible refine Kd.C_alloc ?_ _) | (with_reducible refine Kd.C_drewN ?_ _) | (with_reducible refine Kd.C_drew ?_))); (case side4 => exact HC0.out); rintro e w88 ⟨rfl, hb⟩; refine ⟨_, rfl, ?_⟩; have n0_ := Aside0.mk (Kd.R_below (by (with_reducible repeat (first | apply Kd.R_alloc | apply Kd.R_drewN | apply Kd.R_drew)); exact HO_9.out) hb); have n1_ := Aside0.mk (Kd.R_below (by (with_reducible repeat (first | apply Kd.R_alloc | apply Kd.R_drewN | apply Kd.R_drew)); exact HO_15.out) hb); have n2_ := Aside0.mk (Kd.R_below (by (with_reducible repeat (first | apply Kd.R_alloc | apply Kd.R_drewN | apply Kd.R_drew)); exact HO_17.out) hb); have n3_ := Aside0.mk (below_step (by repeat (first | (with_reducible first | exact HB.out | apply below_alloc | apply pw_below_drewN | apply below_drew1) | exact HB.out)) hb); clear HO_9; clear HO_15; clear HO_17; clear HB; have HO_9 := n0_; have HO_15 := n1_; have HO_17 := n2_; have HB := n3_; clear n0_ n1_ n2_ n3_; (try clear hb); (try clear hb2); (try clear hk); (try clear hi); obtain ⟨Ao89, co89, eo89⟩ := Kd.R_slice HO_17.out; subst eo89) | ((with_reducible refine gate_callee (f := 34) rfl ?_); refine goesL_ (some 138) rfl rfl Tryz.func34 (by kernel_rfl) rfl #[.slice Ao89 t456.length co89, .slice A0 l0.length c0] rfl (by (try simp only [List.map_toArray, List.map_cons, List.map_nil]); first | done | rfl | (simp only [List.length_drop, List.length_take]; rfl)) ?_; (with_reducible refine (cam_Error.calls kj47 _ _ t456 _ _ l0 t462 t463 _ ?side1 ?side2 ?side3 ?side4 A55.out).mono ?_); (case side1 => repeat (first | exact (Kd.R_reads' HO_17.out).2.2 | (with_reducible refine Kd.C_alloc ?_ _) | (with_reducible refine Kd.C_drewN ?_ _) | (with_reducible refine Kd.C_drew ?_))); (case side2 => exact (Kd.R_reads' HO_17.out).2.1); (case side3 => repeat (first | exact (Kd.C_below HR0.out HB.out) | (with_reducible refine Kd.C_alloc ?_ _) | (with_reducible refine Kd.C_drewN ?_ _) | (with_reducible refine Kd.C_drew ?_))); (case side4 => exact HC0.out); rintro e w90 ⟨rfl, hb⟩; refine ⟨_, rfl, ?_⟩; have n0_ := Aside0.mk (Kd.R_below (by (with_reducible repeat (first | apply Kd.R_alloc | apply Kd.R_drewN | apply Kd.R_drew)); exact HO_9.out) hb); have n1_ := Aside0.mk (Kd.R_below (by (with_reducible repeat (first | apply Kd.R_alloc | apply Kd.R_drewN | apply Kd.R_drew)); exact HO_15.out) hb); have n2_ := Aside0.mk (Kd.R_below (by (with_reducible repeat (first | apply Kd.R_alloc | apply Kd.R_drewN | apply Kd.R_drew)); exact HO_17.out) hb); have n3_ := Aside0.mk (below_step (by repeat (first | (with_reducible first | exact HB.out | apply below_alloc | apply pw_below_drewN | apply below_drew1) | exact HB.out)) hb); clear HO_9; clear HO_15; clear HO_17; clear HB; have HO_9 := n0_; have HO_15 := n1_; have HO_17 := n2_; have HB := n3_; clear n0_ n1_ n2_ n3_; (try clear hb); (try clear hb2); (try clear hk); (try clear hi)))
                        go_ret
                        exact ⟨by first | rfl | (simp [errW_none, errW_some] <;> rfl) | (simp [*, errW_none, errW_some] <;> rfl), by repeat (first | (with_reducible first | exact HB.out | apply below_alloc | apply pw_below_drewN | apply below_drew1) | exact HB.out)⟩
                    · rw [if_neg c56] at H
                      have c56b0 : (t461 == 0) = false := beq_eq_false_iff_ne.mpr c56
                      have c56b1 : (t461 != 0) = true := bne_iff_ne.mpr c56
                      obtain rfl := Option.some.inj H
                      obtain ⟨Ao91, co91, eo91⟩ := Kd.R_slice HO_15.out
                      subst eo91
                      go_wp2_with (first | ((with_reducible refine gate_callee (f := 34) rfl ?_); refine goesL_ (some 132) rfl rfl Tryz.func34 (by kernel_rfl) rfl #[.slice Ao91 t452.length co91, .slice A0 l0.length c0] rfl (by (try simp only [List.map_toArray, List.map_cons, List.map_nil]); first | done | rfl | (simp only [List.length_drop, List.length_take]; rfl)) ?_; (with_reducible refine (cam_Error.calls kj47 _ _ t452 _ _ l0 t460 t461 _ ?side1 ?side2 ?side3 ?side4 A54.out).mono ?_); (case side1 => repeat (first | exact (Kd.R_reads' HO_15.out).2.2 | (with_reducible refine Kd.C_alloc ?_ _) | (with_reducible refine Kd.C_drewN ?_ _) | (with_reducible refine Kd.C_drew ?_))); (case side2 => exact (Kd.R_reads' HO_15.out).2.1); (case side3 => repeat (first | exact (Kd.C_below HR0.out HB.out) | (with_reducible refine Kd.C_alloc ?_ _) | (with_reducible refine Kd.C_drewN ?_ _) | (with_reducible refine Kd.C_drew ?_))); (case side4 => exact HC0.out); rintro e w92 ⟨rfl, hb⟩; refine ⟨_, rfl, ?_⟩; have n0_ := Aside0.mk (Kd.R_below (by (with_reducible repeat (first | apply Kd.R_alloc | apply Kd.R_drewN | apply Kd.R_drew)); exact HO_9.out) hb); have n1_ := Aside0.mk (Kd.R_below (by (with_reducible repeat (first | apply Kd.R_alloc | apply Kd.R_drewN | apply Kd.R_drew)); exact HO_15.out) hb); have n2_ := Aside0.mk (Kd.R_below (by (with_reducible repeat (first | apply Kd.R_alloc | apply Kd.R_drewN | apply Kd.R_drew)); exact HO_17.out) hb); have n3_ := Aside0.mk (below_step (by repeat (first | (with_reducible first | exact HB.out | apply below_alloc | apply pw_below_drewN | apply below_drew1) | exact HB.out)) hb); clear HO_9; clear HO_15; clear HO_17; clear HB; have HO_9 := n0_; have HO_15 := n1_; have HO_17 := n2_; have HB := n3_; clear n0_ n1_ n2_ n3_; (try clear hb); (try clear hb2); (try clear hk); (try clear hi); obtain ⟨Ao93, co93, eo93⟩ := Kd.R_slice HO_17.out; subst eo93) | ((with_reducible refine gate_callee (f := 34) rfl ?_); refine goesL_ (some 138) rfl rfl Tryz.func34 (by kernel_rfl) rfl #[.slice Ao93 t456.length co93, .slice A0 l0.length c0] rfl (by (try simp only [List.map_toArray, List.map_cons, List.map_nil]); first | done | rfl | (simp only [List.length_drop, List.length_take]; rfl)) ?_; (with_reducible refine (cam_Error.calls kj47 _ _ t456 _ _ l0 t462 t463 _ ?side1 ?side2 ?side3 ?side4 A55.out).mono ?_); (case side1 => repeat (first | exact (Kd.R_reads' HO_17.out).2.2 | (with_reducible refine Kd.C_alloc ?_ _) | (with_reducible refine Kd.C_drewN ?_ _) | (with_reducible refine Kd.C_drew ?_))); (case side2 => exact (Kd.R_reads' HO_17.out).2.1); (case side3 => repeat (first | exact (Kd.C_below HR0.out HB.out) | (with_reducible refine Kd.C_alloc ?_ _) | (with_reducible refine Kd.C_drewN ?_ _) | (with_reducible refine Kd.C_drew ?_))); (case side4 => exact HC0.out); rintro e w94 ⟨rfl, hb⟩; refine ⟨_, rfl, ?_⟩; have n0_ := Aside0.mk (Kd.R_below (by (with_reducible repeat (first | apply Kd.R_alloc | apply Kd.R_drewN | apply Kd.R_drew)); exact HO_9.out) hb); have n1_ := Aside0.mk (Kd.R_below (by (with_reducible repeat (first | apply Kd.R_alloc | apply Kd.R_drewN | apply Kd.R_drew)); exact HO_15.out) hb); have n2_ := Aside0.mk (Kd.R_below (by (with_reducible repeat (first | apply Kd.R_alloc | apply Kd.R_drewN | apply Kd.R_drew)); exact HO_17.out) hb); have n3_ := Aside0.mk (below_step (by repeat (first | (with_reducible first | exact HB.out | apply below_alloc | apply pw_below_drewN | apply below_drew1) | exact HB.out)) hb); clear HO_9; clear HO_15; clear HO_17; clear HB; have HO_9 := n0_; have HO_15 := n1_; have HO_17 := n2_; have HB := n3_; clear n0_ n1_ n2_ n3_; (try clear hb); (try clear hb2); (try clear hk); (try clear hi)))
                      go_ret
                      exact ⟨by first | rfl | (simp [errW_none, errW_some] <;> rfl) | (simp [*, errW_none, errW_some] <;> rfl), by repeat (first | (with_reducible first | exact HB.out | apply below_alloc | apply pw_below_drewN | apply below_drew1) | exact HB.out)⟩
end Go.Proofs.YtbjimmemcmjpcabGreatDoor.Print
end
section
set_option linter.unusedVariables false
set_option linter.unusedSimpArgs false
namespace Go.Proofs.YtbjimmemcmjpcabGreatDoor.Print
open Go.RowKit Go.Proofs.YtbjimmemcmjpcabGreatDoorW.PrintWords Go.Proofs.YtbjimmemcmjpcabGreatDoorW.PrintLast Go.Proofs.YtbjimmemcmjpcabGreatDoorW.PrintMore
theorem carved_eval (K : Nat) (w o l t a b : List Int) (m c e y : Int) (hs0 : (w.length : Int) ≤ 27) (hs1 : (o.length : Int) ≤ 27) (c1 : isCamB w = true) (c2 : isFootB m = true) (c3 : isCamB o = true) (c4 : (o.length : Int) = (w.length : Int)) (c6 : ¬ c < 0) (c7 : ¬ c ≥ (w.length : Int))
    (e1 : tellurionref04_Cam.f (K + 3) w = some true) (e2 : tellurionref04_Cam.f (K + 3) o = some true) (f1 : cam_Carve.f w m = some (l, e, 0)) (e3 : tellurionref04_Turn.f (K + 2) w c = some t) (u : List Int) (f2 : cam_Carve.f t m = some (u, e, 0))
    (e4 : tellurionref04_Cam.f (K + 2) l = some true) (hl : (l.length : Int) = (w.length : Int)) (e5 : tellurionref04_Turn.f (K + 2) l c = some u) (e6 : tellurionref04_Same.f (K + 2) u u = some true)
    (f3 : cam_Follow.f l m = some (a, 0)) (f4 : cam_Follow.f o m = some (b, 0)) (e7 : cam_Error.f K a w = some (e, 0)) (e8 : cam_Error.f K b w = some (y, 0)) (hy : e ≤ y) (e9 : y = e → tellurionlaw04_below.f K o l = some true) : tellurionlaw04_CamCarved.f (K + 3) w m o c = some true := by
  have j2 : tellurionlaw04_CamCarved.j2 (K + 1) w o l e a b false = some true := by
    rw [tellurionlaw04_CamCarved.j2, if_neg (by simp), e7, e8]
    by_cases h : y > e
    · simp only [Option.bind_some, if_true, show y ≥ e from hy, h, tellurionlaw04_known.f]
    · have h2 : y = e := by omega
      simp only [Option.bind_some, if_true, show y ≥ e from hy, h, if_false, e9 h2, tellurionlaw04_known.f]
  have j1 : tellurionlaw04_CamCarved.j1 (K + 2) w m o l e false = some true := by
    rw [tellurionlaw04_CamCarved.j1, if_neg (by simp), f3, f4]
    simp only [Option.bind_some, if_true, bne_self_eq_false]
    exact j2
  unfold tellurionlaw04_CamCarved.f tellurionlaw04_short.f
  simp only [Option.bind_some, hs0, hs1, decide_true, if_true, e1, e2, refFoot_f, c2, c4, c6, c7, if_false, decide_false]
  rw [tellurionlaw04_CamCarved.j0, if_neg (by simp), f1]
  simp only [Option.bind_some, e3, f2, if_true, e4, hl, e5, e6, Bool.not_true, j1]
theorem camCarved_pure (w : List Int) (a : Int) (o : List Int) (c : Int) (hm0 : w.length ≤ maxLen) (hw0 : ∀ x ∈ w, (Lit.int .i64 x).wf = true) (ha : (Lit.int .i64 a).wf = true) (hm1 : o.length ≤ maxLen) (hw1 : ∀ x ∈ o, (Lit.int .i64 x).wf = true)
    (hc : (Lit.int .i64 c).wf = true) : ∃ k, tellurionlaw04_CamCarved.f k w a o c = some true := by
  clear hm0 hw0 ha hm1 hw1 hc
  have ej : ∀ k, tellurionlaw04_CamCarved.j0 (k + 1) w a o c true = some true := fun k => by simp only [tellurionlaw04_CamCarved.j0, if_true, tellurionlaw04_known.f, Option.bind_some]
  by_cases hs0 : (w.length : Int) ≤ 27
  case neg => exact ⟨1, by unfold tellurionlaw04_CamCarved.f tellurionlaw04_short.f; simp only [Option.bind_some, hs0, decide_false, Bool.false_eq_true, if_false, ej 0]⟩
  by_cases hs1 : (o.length : Int) ≤ 27
  case neg => exact ⟨1, by unfold tellurionlaw04_CamCarved.f tellurionlaw04_short.f; simp only [Option.bind_some, hs0, hs1, decide_false, decide_true, Bool.false_eq_true, if_true, if_false, ej 0]⟩
  obtain ⟨K1, h1⟩ := evR_cam w (by omega)
  obtain ⟨K2, h2⟩ := evR_cam o (by omega)
  by_cases g : isCamB w = true ∧ isFootB a = true ∧ isCamB o = true ∧ (o.length : Int) = (w.length : Int) ∧ ¬ c < 0 ∧ ¬ c ≥ (w.length : Int)
  case neg =>
    refine ⟨K1 + K2 + 1, ?_⟩
    have e1 := h1 (K1 + K2 + 1) (by omega)
    have e2 := h2 (K1 + K2 + 1) (by omega)
    simp only [] at e1 e2
    have e3 := ej (K1 + K2)
    unfold tellurionlaw04_CamCarved.f tellurionlaw04_short.f
    simp only [Option.bind_some, hs0, hs1, decide_true, if_true, e1, e2, refFoot_f]
    by_cases c1 : isCamB w = true
    · by_cases c2 : isFootB a = true
      · by_cases c3 : isCamB o = true
        · by_cases c4 : (o.length : Int) = (w.length : Int)
          · by_cases c6 : c < 0
            · simp only [c1, c2, c3, c4, c6, if_true, e3]
            · have c7 : c ≥ (w.length : Int) := Classical.byContradiction fun h => g ⟨c1, c2, c3, c4, c6, h⟩
              simp only [c1, c2, c3, c4, c6, c7, if_true, if_false, decide_true, e3]
          · simp only [c1, c2, c3, c4, if_true, if_false, Bool.false_eq_true, e3]
        · simp only [c1, c2, c3, if_true, if_false, Bool.false_eq_true, e3]
      · simp only [c1, c2, if_true, if_false, Bool.false_eq_true, e3]
    · simp only [c1, if_true, if_false, Bool.false_eq_true, e3]
  obtain ⟨c1, c2, c3, c4, c6, c7⟩ := g
  have ca : 0 ≤ a ∧ a ≤ 5 := by simpa [isFootB] using c2
  obtain ⟨m, rfl⟩ := Int.eq_ofNat_of_zero_le ca.1
  obtain ⟨hl, hv⟩ := (isCam_iff w).1 c1
  have hlo : o.length = w.length := by omega
  obtain ⟨e, he, hcv, g0, g1⟩ := carve_is c1 m
  have hct := carve_turn c1 m e c he g0 g1
  have hcc := cut_cam c1 m e
  have hcl := cut_len w m e
  have hft := cut_err c1 m e he g0 g1
  obtain ⟨b1, b2⟩ := cut_best c1 m e g1 c3 hlo
  have f1 : cam_Carve.f w (m : Int) = some (cutL w m e, (e : Int), 0) := by unfold cam_Carve.f; rw [if_pos ⟨c1, c2⟩, Int.toNat_natCast, hcv]
  have f2 : cam_Carve.f (turnL w c) (m : Int) = some (turnL (cutL w m e) c, (e : Int), 0) := by unfold cam_Carve.f; rw [if_pos ⟨turn_cam w c c1, c2⟩, Int.toNat_natCast, hct]
  have f3 := cam_Follow_yes (m := m) hcc (by omega)
  rw [hcl] at f3
  have f4 := cam_Follow_yes (m := m) c3 (by omega)
  have ka : isCamB (maxsL (cutL w m e) m w.length) = true := by rw [← hcl]; exact maxs_cam _ m hcc
  have kb := maxs_cam o m c3
  have la : (maxsL (cutL w m e) m w.length).length = w.length := by simp [maxsL]
  have lb := maxs_len o m
  obtain ⟨K3, h3⟩ := evR_turn w c (by omega) ⟨by omega, by omega⟩
  obtain ⟨K4, h4⟩ := evR_cam (cutL w m e) (by omega)
  obtain ⟨K5, h5⟩ := evR_turn (cutL w m e) c (by omega) ⟨by omega, by omega⟩
  obtain ⟨K6, h6⟩ := evR_same (turnL (cutL w m e) c) (turnL (cutL w m e) c) (by rw [turn_len]; omega)
  obtain ⟨K7, h7⟩ := evC_error ka c1 la.symm
  obtain ⟨K8, h8⟩ := evC_error kb c1 (by omega)
  obtain ⟨K9, h9⟩ := evL_below o (cutL w m e) (by omega) (by omega)
  generalize hK : K1 + K2 + K3 + K4 + K5 + K6 + K7 + K8 + K9 = K
  have e1 := h1 (K + 3) (by omega)
  have e2 := h2 (K + 3) (by omega)
  have e3 := h3 (K + 2) (by omega)
  have e4 := h4 (K + 2) (by omega)
  have e5 := h5 (K + 2) (by omega)
  have e6 := h6 (K + 2) (by omega)
  have e7 := h7 K (by omega)
  have e8 := h8 K (by omega)
  have e9 := h9 K (by omega)
  simp only [] at e1 e2 e3 e4 e5 e6 e7 e8 e9
  rw [c1] at e1
  rw [c3] at e2
  rw [hcc] at e4
  rw [hft] at e7
  exact ⟨K + 3, carved_eval K w o (cutL w m e) (turnL w c) (maxsL (cutL w m e) m w.length) (maxsL o m o.length) m c e (errC (maxsL o m o.length) w) hs0 hs1 c1 c2 c3 c4 c6 c7 e1 e2 f1 e3 (turnL (cutL w m e) c) f2 e4 (by omega) e5 (by simpa using e6) f3 f4 e7 e8 b1
    (fun h => by rw [e9, (below_iff o (cutL w m e) (by omega) (by omega)).2 (b2 h)])⟩
end Go.Proofs.YtbjimmemcmjpcabGreatDoor.Print
end

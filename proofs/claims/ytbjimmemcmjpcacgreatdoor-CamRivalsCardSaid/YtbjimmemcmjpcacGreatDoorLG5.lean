/- The law's Go function answers true for every input, and leaves its arguments as they were: its parts, the plain law, the row, the card. Joined by wip/pack.py. -/
import Derived.Test.YtbjimmemcmjpcacGreatDoorB3
import Derived.Test.YtbjimmemcmjpcacGreatDoorLG1
import Derived.Test.YtbjimmemcmjpcacGreatDoorLG2
import Derived.Test.YtbjimmemcmjpcacGreatDoorB20
import Derived.Test.YtbjimmemcmjpcacGreatDoorB9
import Derived.Test.YtbjimmemcmjpcacGreatDoorLG4
set_option linter.unusedVariables false
set_option linter.unusedSimpArgs false
set_option linter.unusedSectionVars false
section
namespace Go.Proofs.YtbjimmemcmjpcacGreatDoor.Print
open Go.RowKit YtbjimmemcmjpcacGreatDoorW.PrintWords YtbjimmemcmjpcacGreatDoorW.PrintLast YtbjimmemcmjpcacGreatDoorW.PrintMore
attribute [local go_sem] max2_int min2_int max_two min_two max_three min_three max_four min_four
mutual
def tellurionlaw04_CamRivals.j0 : Nat → List Int → List Int → Bool → Int → Int → Int → Int → Option (Bool)
 | 0, _, _, _, _, _, _, _ => none
 | k + 1, x1, x2, x47, x302000, x302001, x302002, x302003 => if x47 = true then ((tellurionlaw04_known.f).bind fun t307 => (some t307)) else ((cam_Nearest.f x302000 x302001 x302002 x302003 x1).bind fun bt308 => (if bt308.2.2 = 0 then (if (bt308.1.length : Int) = (x1.length : Int) then ((tellurionref04_Cam.f k bt308.1).bind fun t313 => (tellurionlaw04_CamRivals.j1 k x1 x2 bt308.1 bt308.2.1 (!t313) x302000 x302001 x302002 x302003)) else (tellurionlaw04_CamRivals.j1 k x1 x2 bt308.1 bt308.2.1 true x302000 x302001 x302002 x302003)) else (tellurionlaw04_CamRivals.j1 k x1 x2 bt308.1 bt308.2.1 true x302000 x302001 x302002 x302003)))
def tellurionlaw04_CamRivals.j1 : Nat → List Int → List Int → List Int → Int → Bool → Int → Int → Int → Int → Option (Bool)
 | 0, _, _, _, _, _, _, _, _, _ => none
 | k + 1, x1, x2, x7, x8, x69, x302000, x302001, x302002, x302003 => if x69 = true then (some false) else ((cam_Fits.f k x302000 x302001 x302002 x302003 x7).bind fun bt314 => ((cam_Error.f k x7 x1).bind fun bt316 => ((cam_Fits.f k x302000 x302001 x302002 x302003 x2).bind fun bt318 => ((cam_Error.f k x2 x1).bind fun bt320 => (if bt314.2 = 0 then (if bt314.1 = true then (if bt316.2 = 0 then (if bt316.1 = x8 then (if bt318.2 = 0 then (tellurionlaw04_CamRivals.j2 k x2 x7 x8 bt318.1 bt320.1 (bt320.2 != 0)) else (tellurionlaw04_CamRivals.j2 k x2 x7 x8 bt318.1 bt320.1 true)) else (tellurionlaw04_CamRivals.j2 k x2 x7 x8 bt318.1 bt320.1 true)) else (tellurionlaw04_CamRivals.j2 k x2 x7 x8 bt318.1 bt320.1 true)) else (tellurionlaw04_CamRivals.j2 k x2 x7 x8 bt318.1 bt320.1 true)) else (tellurionlaw04_CamRivals.j2 k x2 x7 x8 bt318.1 bt320.1 true))))))
def tellurionlaw04_CamRivals.j2 : Nat → List Int → List Int → Int → Bool → Int → Bool → Option (Bool)
 | 0, _, _, _, _, _, _ => none
 | k + 1, x2, x7, x8, x14, x16, x116 => if x116 = true then (some false) else (if x14 = true then (if x16 > x8 then ((tellurionlaw04_known.f).bind fun t322 => (some t322)) else (if x16 = x8 then ((tellurionref04_Before.f k x2 x7).bind fun t323 => (if t323 = true then (some false) else ((tellurionlaw04_known.f).bind fun t324 => (some t324)))) else (some false))) else ((tellurionlaw04_known.f).bind fun t325 => (some t325)))
end
def tellurionlaw04_CamRivals.f (k : Nat) (a0_0 : Int) (a0_1 : Int) (a0_2 : Int) (a0_3 : Int) (l1 : List Int) (l2 : List Int) : Option (Bool) := (tellurionlaw04_short.f l1).bind fun t302 => (if t302 = true then ((tellurionlaw04_short.f l2).bind fun t303 => (if t303 = true then ((tellurionref04_Rule.f a0_0 a0_1 a0_2 a0_3).bind fun t304 => (if t304 = true then ((tellurionref04_Cam.f k l1).bind fun t305 => (if t305 = true then ((tellurionref04_Cam.f k l2).bind fun t306 => (if t306 = true then (tellurionlaw04_CamRivals.j0 k l1 l2 ((l2.length : Int) != (l1.length : Int)) a0_0 a0_1 a0_2 a0_3) else (tellurionlaw04_CamRivals.j0 k l1 l2 true a0_0 a0_1 a0_2 a0_3))) else (tellurionlaw04_CamRivals.j0 k l1 l2 true a0_0 a0_1 a0_2 a0_3))) else (tellurionlaw04_CamRivals.j0 k l1 l2 true a0_0 a0_1 a0_2 a0_3))) else (tellurionlaw04_CamRivals.j0 k l1 l2 true a0_0 a0_1 a0_2 a0_3))) else (tellurionlaw04_CamRivals.j0 k l1 l2 true a0_0 a0_1 a0_2 a0_3))
theorem tellurionlaw04_CamRivals.mono_l : ∀ k, (∀ y0 y1 y2 y3 y4 y5 y6, LeO (tellurionlaw04_CamRivals.j0 k y0 y1 y2 y3 y4 y5 y6) (tellurionlaw04_CamRivals.j0 (k + 1) y0 y1 y2 y3 y4 y5 y6)) ∧ (∀ y0 y1 y2 y3 y4 y5 y6 y7 y8, LeO (tellurionlaw04_CamRivals.j1 k y0 y1 y2 y3 y4 y5 y6 y7 y8) (tellurionlaw04_CamRivals.j1 (k + 1) y0 y1 y2 y3 y4 y5 y6 y7 y8)) ∧ (∀ y0 y1 y2 y3 y4 y5, LeO (tellurionlaw04_CamRivals.j2 k y0 y1 y2 y3 y4 y5) (tellurionlaw04_CamRivals.j2 (k + 1) y0 y1 y2 y3 y4 y5))
 | 0 => ⟨fun _ _ _ _ _ _ _ r h => by simp [tellurionlaw04_CamRivals.j0] at h, fun _ _ _ _ _ _ _ _ _ r h => by simp [tellurionlaw04_CamRivals.j1] at h, fun _ _ _ _ _ _ r h => by simp [tellurionlaw04_CamRivals.j2] at h⟩
 | k + 1 => by
  obtain ⟨ih0, ih1, ih2⟩ := tellurionlaw04_CamRivals.mono_l k
  refine ⟨?_, ?_, ?_⟩
  ·
   intro y0 y1 y2 y3 y4 y5 y6
   unfold tellurionlaw04_CamRivals.j0
   repeat' first
   | (with_reducible exact ih0 _ _ _ _ _ _ _)
   | (with_reducible exact ih1 _ _ _ _ _ _ _ _ _)
   | (with_reducible exact ih2 _ _ _ _ _ _)
   | (with_reducible exact cam_Error.mono _ _ _)
   | (with_reducible exact cam_Fits.mono _ _ _ _ _ _)
   | (with_reducible exact tellurionref04_Before.mono _ _ _)
   | (with_reducible exact tellurionref04_Cam.mono _ _)
   | (with_reducible exact LeO.refl _)
   | (with_reducible exact LeO.none _)
   | (with_reducible refine LeO.ite ?_ ?_)
   | (with_reducible refine LeO.bind ?_ (fun _ => ?_))
   | exact ih0 _ _ _ _ _ _ _
   | exact ih1 _ _ _ _ _ _ _ _ _
   | exact ih2 _ _ _ _ _ _
   | exact cam_Error.mono _ _ _
   | exact cam_Fits.mono _ _ _ _ _ _
   | exact tellurionref04_Before.mono _ _ _
   | exact tellurionref04_Cam.mono _ _
   | exact LeO.none _
   | refine LeO.ite ?_ ?_
   | refine LeO.bind ?_ (fun _ => ?_)
  ·
   intro y0 y1 y2 y3 y4 y5 y6 y7 y8
   unfold tellurionlaw04_CamRivals.j1
   repeat' first
   | (with_reducible exact ih0 _ _ _ _ _ _ _)
   | (with_reducible exact ih1 _ _ _ _ _ _ _ _ _)
   | (with_reducible exact ih2 _ _ _ _ _ _)
   | (with_reducible exact cam_Error.mono _ _ _)
   | (with_reducible exact cam_Fits.mono _ _ _ _ _ _)
   | (with_reducible exact tellurionref04_Before.mono _ _ _)
   | (with_reducible exact tellurionref04_Cam.mono _ _)
   | (with_reducible exact LeO.refl _)
   | (with_reducible exact LeO.none _)
   | (with_reducible refine LeO.ite ?_ ?_)
   | (with_reducible refine LeO.bind ?_ (fun _ => ?_))
   | exact ih0 _ _ _ _ _ _ _
   | exact ih1 _ _ _ _ _ _ _ _ _
   | exact ih2 _ _ _ _ _ _
   | exact cam_Error.mono _ _ _
   | exact cam_Fits.mono _ _ _ _ _ _
   | exact tellurionref04_Before.mono _ _ _
   | exact tellurionref04_Cam.mono _ _
   | exact LeO.none _
   | refine LeO.ite ?_ ?_
   | refine LeO.bind ?_ (fun _ => ?_)
  ·
   intro y0 y1 y2 y3 y4 y5
   unfold tellurionlaw04_CamRivals.j2
   repeat' first
   | (with_reducible exact ih0 _ _ _ _ _ _ _)
   | (with_reducible exact ih1 _ _ _ _ _ _ _ _ _)
   | (with_reducible exact ih2 _ _ _ _ _ _)
   | (with_reducible exact cam_Error.mono _ _ _)
   | (with_reducible exact cam_Fits.mono _ _ _ _ _ _)
   | (with_reducible exact tellurionref04_Before.mono _ _ _)
   | (with_reducible exact tellurionref04_Cam.mono _ _)
   | (with_reducible exact LeO.refl _)
   | (with_reducible exact LeO.none _)
   | (with_reducible refine LeO.ite ?_ ?_)
   | (with_reducible refine LeO.bind ?_ (fun _ => ?_))
   | exact ih0 _ _ _ _ _ _ _
   | exact ih1 _ _ _ _ _ _ _ _ _
   | exact ih2 _ _ _ _ _ _
   | exact cam_Error.mono _ _ _
   | exact cam_Fits.mono _ _ _ _ _ _
   | exact tellurionref04_Before.mono _ _ _
   | exact tellurionref04_Cam.mono _ _
   | exact LeO.none _
   | refine LeO.ite ?_ ?_
   | refine LeO.bind ?_ (fun _ => ?_)
theorem tellurionlaw04_CamRivals.mono : ∀ a0 a1 a2 a3 a4 a5 k, LeO (tellurionlaw04_CamRivals.f k a0 a1 a2 a3 a4 a5) (tellurionlaw04_CamRivals.f (k + 1) a0 a1 a2 a3 a4 a5) := by
 intro a0 a1 a2 a3 a4 a5 k
 obtain ⟨ih0, ih1, ih2⟩ := tellurionlaw04_CamRivals.mono_l k
 unfold tellurionlaw04_CamRivals.f
 repeat' first
   | (with_reducible exact ih0 _ _ _ _ _ _ _)
   | (with_reducible exact ih1 _ _ _ _ _ _ _ _ _)
   | (with_reducible exact ih2 _ _ _ _ _ _)
   | (with_reducible exact cam_Error.mono _ _ _)
   | (with_reducible exact cam_Fits.mono _ _ _ _ _ _)
   | (with_reducible exact tellurionref04_Before.mono _ _ _)
   | (with_reducible exact tellurionref04_Cam.mono _ _)
   | (with_reducible exact LeO.refl _)
   | (with_reducible exact LeO.none _)
   | (with_reducible refine LeO.ite ?_ ?_)
   | (with_reducible refine LeO.bind ?_ (fun _ => ?_))
   | exact ih0 _ _ _ _ _ _ _
   | exact ih1 _ _ _ _ _ _ _ _ _
   | exact ih2 _ _ _ _ _ _
   | exact cam_Error.mono _ _ _
   | exact cam_Fits.mono _ _ _ _ _ _
   | exact tellurionref04_Before.mono _ _ _
   | exact tellurionref04_Cam.mono _ _
   | exact LeO.none _
   | refine LeO.ite ?_ ?_
   | refine LeO.bind ?_ (fun _ => ?_)
set_option maxHeartbeats 8000000 in
set_option maxRecDepth 100000 in
theorem tellurionlaw04_CamRivals.calls (k : Nat) (a0_0 : Int) (a0_1 : Int) (a0_2 : Int) (a0_3 : Int) (A1 : Option Addr) (c1 : Nat) (l1 : List Int) (A2 : Option Addr) (c2 : Nat) (l2 : List Int) (r : Bool) (w : World) (hr1 : Kd.C (Kd.int .i64) w A1 l1.length l1) (hc1 : l1.length ≤ c1) (hr2 : Kd.C (Kd.int .i64) w A2 l2.length l2) (hc2 : l2.length ≤ c2) (h : tellurionlaw04_CamRivals.f k a0_0 a0_1 a0_2 a0_3 l1 l2 = some r) :
  Calls Tryz.prog 5 #[.agg #[.int .i64 a0_0, .int .i64 a0_1, .int .i64 a0_2, .int .i64 a0_3], .slice A1 l1.length c1, .slice A2 l2.length c2] w fun e w' => e = .returned (.bool r) ∧ Below w.heap.size w w' := by
 have hu39 := Tryz.underlying39
 have HR1 := Aside0.mk hr1
 have HC1 := Aside0.mk hc1
 clear hr1 hc1
 have HR2 := Aside0.mk hr2
 have HC2 := Aside0.mk hc2
 clear hr2 hc2
 have HB := Aside0.mk (Below.refl w.heap.size w)
 have H : ((tellurionlaw04_short.f l1).bind fun t302 => (if t302 = true then ((tellurionlaw04_short.f l2).bind fun t303 => (if t303 = true then ((tellurionref04_Rule.f a0_0 a0_1 a0_2 a0_3).bind fun t304 => (if t304 = true then ((tellurionref04_Cam.f k l1).bind fun t305 => (if t305 = true then ((tellurionref04_Cam.f k l2).bind fun t306 => (if t306 = true then (tellurionlaw04_CamRivals.j0 k l1 l2 ((l2.length : Int) != (l1.length : Int)) a0_0 a0_1 a0_2 a0_3) else (tellurionlaw04_CamRivals.j0 k l1 l2 true a0_0 a0_1 a0_2 a0_3))) else (tellurionlaw04_CamRivals.j0 k l1 l2 true a0_0 a0_1 a0_2 a0_3))) else (tellurionlaw04_CamRivals.j0 k l1 l2 true a0_0 a0_1 a0_2 a0_3))) else (tellurionlaw04_CamRivals.j0 k l1 l2 true a0_0 a0_1 a0_2 a0_3))) else (tellurionlaw04_CamRivals.j0 k l1 l2 true a0_0 a0_1 a0_2 a0_3))) = some r := h
 clear h
 have HC4 := Aside0.mk H
 clear H
 go_enter Tryz.func5, Tryz.ntmps5
 go_upto_region 1 with (first | ((with_reducible refine gate_dst (N := 3) rfl ?_); (try (refine gate_guard (by rfl) ?_; dsimp only)); refine box_event ?hg (N := 3) ?hd (cs := #[.int .i64 a0_0, .int .i64 a0_1, .int .i64 a0_2, .int .i64 a0_3]) (t := 39) ?hr ?_; (case hd => rfl); (case hg => rfl); (case hr => first | (go_simp; done) | (go_simp; rfl)); intro gb301 hg w5 hbox hb; have n0_ := Aside0.mk (below_step (by repeat (first | (with_reducible first | exact HB.out | apply below_alloc | apply pw_below_drewN | apply below_drew1) | exact HB.out)) hb); have n1_ := Aside0.mk (hbox); have n2_ := Aside0.mk ((by rw [hg]; exact (below_size (by repeat (first | (with_reducible first | exact HB.out | apply below_alloc | apply pw_below_drewN | apply below_drew1) | exact HB.out))) : w.heap.size ≤ gb301)); have n3_ := Aside0.mk ((by rw [hg]; exact (below_size (by repeat (first | (with_reducible first | exact HB.out | apply below_alloc | apply pw_below_drewN | apply below_drew1) | exact HB.out))) : w.heap.size ≤ gb301)); clear HB; have HB := n0_; have BK301 := n1_; have GW301 := n2_; have GE301 := n3_; clear n0_ n1_ n2_ n3_; clear hb hbox hg))
 (try simp only [Act.put, List.setIfInBounds_toArray, List.set_cons_zero, List.set_cons_succ])
 go_cut [47] (fun v47 wc => ∃ (kq : Nat) (x47_3 : Bool), v47 = .bool x47_3 ∧ Aside0 (tellurionlaw04_CamRivals.j0 kq l1 l2 x47_3 a0_0 a0_1 a0_2 a0_3 = some r) ∧ Aside0 (kq ≤ k) ∧ Aside0 (wc.heap[gb301]? = some (.cells #[.int .i64 a0_0, .int .i64 a0_1, .int .i64 a0_2, .int .i64 a0_3] 39 (0, 0))) ∧ Aside0 (Below w.heap.size w wc))
 case first =>
  have H := HC4.out
  clear HC4
  replace H := Option.bind_eq_some_iff.mp H
  obtain ⟨t302, A60, H⟩ := H
  replace H : (if t302 = true then ((tellurionlaw04_short.f l2).bind fun t303 => (if t303 = true then ((tellurionref04_Rule.f a0_0 a0_1 a0_2 a0_3).bind fun t304 => (if t304 = true then ((tellurionref04_Cam.f k l1).bind fun t305 => (if t305 = true then ((tellurionref04_Cam.f k l2).bind fun t306 => (if t306 = true then (tellurionlaw04_CamRivals.j0 k l1 l2 ((l2.length : Int) != (l1.length : Int)) a0_0 a0_1 a0_2 a0_3) else (tellurionlaw04_CamRivals.j0 k l1 l2 true a0_0 a0_1 a0_2 a0_3))) else (tellurionlaw04_CamRivals.j0 k l1 l2 true a0_0 a0_1 a0_2 a0_3))) else (tellurionlaw04_CamRivals.j0 k l1 l2 true a0_0 a0_1 a0_2 a0_3))) else (tellurionlaw04_CamRivals.j0 k l1 l2 true a0_0 a0_1 a0_2 a0_3))) else (tellurionlaw04_CamRivals.j0 k l1 l2 true a0_0 a0_1 a0_2 a0_3)) = some r := H
  have A6 := Aside0.mk A60
  clear A60
  by_cases c7 : t302 = true
  ·
   subst c7
   have H1 : ((tellurionlaw04_short.f l2).bind fun t303 => (if t303 = true then ((tellurionref04_Rule.f a0_0 a0_1 a0_2 a0_3).bind fun t304 => (if t304 = true then ((tellurionref04_Cam.f k l1).bind fun t305 => (if t305 = true then ((tellurionref04_Cam.f k l2).bind fun t306 => (if t306 = true then (tellurionlaw04_CamRivals.j0 k l1 l2 ((l2.length : Int) != (l1.length : Int)) a0_0 a0_1 a0_2 a0_3) else (tellurionlaw04_CamRivals.j0 k l1 l2 true a0_0 a0_1 a0_2 a0_3))) else (tellurionlaw04_CamRivals.j0 k l1 l2 true a0_0 a0_1 a0_2 a0_3))) else (tellurionlaw04_CamRivals.j0 k l1 l2 true a0_0 a0_1 a0_2 a0_3))) else (tellurionlaw04_CamRivals.j0 k l1 l2 true a0_0 a0_1 a0_2 a0_3))) = some r := by rw [if_pos rfl] at H; exact H
   clear H
   have H := H1
   clear H1
   replace H := Option.bind_eq_some_iff.mp H
   obtain ⟨t303, A80, H⟩ := H
   replace H : (if t303 = true then ((tellurionref04_Rule.f a0_0 a0_1 a0_2 a0_3).bind fun t304 => (if t304 = true then ((tellurionref04_Cam.f k l1).bind fun t305 => (if t305 = true then ((tellurionref04_Cam.f k l2).bind fun t306 => (if t306 = true then (tellurionlaw04_CamRivals.j0 k l1 l2 ((l2.length : Int) != (l1.length : Int)) a0_0 a0_1 a0_2 a0_3) else (tellurionlaw04_CamRivals.j0 k l1 l2 true a0_0 a0_1 a0_2 a0_3))) else (tellurionlaw04_CamRivals.j0 k l1 l2 true a0_0 a0_1 a0_2 a0_3))) else (tellurionlaw04_CamRivals.j0 k l1 l2 true a0_0 a0_1 a0_2 a0_3))) else (tellurionlaw04_CamRivals.j0 k l1 l2 true a0_0 a0_1 a0_2 a0_3)) = some r := H
   have A8 := Aside0.mk A80
   clear A80
   by_cases c9 : t303 = true
   ·
    subst c9
    have H1 : ((tellurionref04_Rule.f a0_0 a0_1 a0_2 a0_3).bind fun t304 => (if t304 = true then ((tellurionref04_Cam.f k l1).bind fun t305 => (if t305 = true then ((tellurionref04_Cam.f k l2).bind fun t306 => (if t306 = true then (tellurionlaw04_CamRivals.j0 k l1 l2 ((l2.length : Int) != (l1.length : Int)) a0_0 a0_1 a0_2 a0_3) else (tellurionlaw04_CamRivals.j0 k l1 l2 true a0_0 a0_1 a0_2 a0_3))) else (tellurionlaw04_CamRivals.j0 k l1 l2 true a0_0 a0_1 a0_2 a0_3))) else (tellurionlaw04_CamRivals.j0 k l1 l2 true a0_0 a0_1 a0_2 a0_3))) = some r := by rw [if_pos rfl] at H; exact H
    clear H
    have H := H1
    clear H1
    replace H := Option.bind_eq_some_iff.mp H
    obtain ⟨t304, A100, H⟩ := H
    replace H : (if t304 = true then ((tellurionref04_Cam.f k l1).bind fun t305 => (if t305 = true then ((tellurionref04_Cam.f k l2).bind fun t306 => (if t306 = true then (tellurionlaw04_CamRivals.j0 k l1 l2 ((l2.length : Int) != (l1.length : Int)) a0_0 a0_1 a0_2 a0_3) else (tellurionlaw04_CamRivals.j0 k l1 l2 true a0_0 a0_1 a0_2 a0_3))) else (tellurionlaw04_CamRivals.j0 k l1 l2 true a0_0 a0_1 a0_2 a0_3))) else (tellurionlaw04_CamRivals.j0 k l1 l2 true a0_0 a0_1 a0_2 a0_3)) = some r := H
    have A10 := Aside0.mk A100
    clear A100
    by_cases c11 : t304 = true
    ·
     subst c11
     have H1 : ((tellurionref04_Cam.f k l1).bind fun t305 => (if t305 = true then ((tellurionref04_Cam.f k l2).bind fun t306 => (if t306 = true then (tellurionlaw04_CamRivals.j0 k l1 l2 ((l2.length : Int) != (l1.length : Int)) a0_0 a0_1 a0_2 a0_3) else (tellurionlaw04_CamRivals.j0 k l1 l2 true a0_0 a0_1 a0_2 a0_3))) else (tellurionlaw04_CamRivals.j0 k l1 l2 true a0_0 a0_1 a0_2 a0_3))) = some r := by rw [if_pos rfl] at H; exact H
     clear H
     have H := H1
     clear H1
     replace H := Option.bind_eq_some_iff.mp H
     obtain ⟨t305, A120, H⟩ := H
     replace H : (if t305 = true then ((tellurionref04_Cam.f k l2).bind fun t306 => (if t306 = true then (tellurionlaw04_CamRivals.j0 k l1 l2 ((l2.length : Int) != (l1.length : Int)) a0_0 a0_1 a0_2 a0_3) else (tellurionlaw04_CamRivals.j0 k l1 l2 true a0_0 a0_1 a0_2 a0_3))) else (tellurionlaw04_CamRivals.j0 k l1 l2 true a0_0 a0_1 a0_2 a0_3)) = some r := H
     have A12 := Aside0.mk A120
     clear A120
     by_cases c13 : t305 = true
     ·
      subst c13
      have H1 : ((tellurionref04_Cam.f k l2).bind fun t306 => (if t306 = true then (tellurionlaw04_CamRivals.j0 k l1 l2 ((l2.length : Int) != (l1.length : Int)) a0_0 a0_1 a0_2 a0_3) else (tellurionlaw04_CamRivals.j0 k l1 l2 true a0_0 a0_1 a0_2 a0_3))) = some r := by rw [if_pos rfl] at H; exact H
      clear H
      have H := H1
      clear H1
      replace H := Option.bind_eq_some_iff.mp H
      obtain ⟨t306, A140, H⟩ := H
      replace H : (if t306 = true then (tellurionlaw04_CamRivals.j0 k l1 l2 ((l2.length : Int) != (l1.length : Int)) a0_0 a0_1 a0_2 a0_3) else (tellurionlaw04_CamRivals.j0 k l1 l2 true a0_0 a0_1 a0_2 a0_3)) = some r := H
      have A14 := Aside0.mk A140
      clear A140
      by_cases c15 : t306 = true
      ·
       subst c15
       have H1 : (tellurionlaw04_CamRivals.j0 k l1 l2 ((l2.length : Int) != (l1.length : Int)) a0_0 a0_1 a0_2 a0_3) = some r := by rw [if_pos rfl] at H; exact H
       clear H
       have H := H1
       clear H1
       have H' := Aside0.mk H
       clear H
       go_wp2_with (first | ((with_reducible refine gate_callee (f := 10) rfl ?_); refine goesL_ (some 19) rfl rfl Tryz.func10 (by kernel_rfl) rfl #[.slice A1 l1.length c1] rfl (by (try simp only [List.map_toArray, List.map_cons, List.map_nil]); first | done | rfl | (simp only [List.length_drop, List.length_take]; rfl)) ?_; (with_reducible refine (tellurionlaw04_short.calls _ _ l1 true _ ?side1 ?side2 A6.out).mono ?_); (case side1 => repeat (first | exact (Kd.C_below HR1.out HB.out) | (with_reducible refine Kd.C_alloc ?_ _) | (with_reducible refine Kd.C_drewN ?_ _) | (with_reducible refine Kd.C_drew ?_))); (case side2 => exact HC1.out); rintro e w' ⟨rfl, ⟨nd, rfl⟩⟩; refine ⟨_, rfl, ?_⟩) | (go_at_call 10; (with_reducible refine (tellurionlaw04_short.calls _ _ l2 true _ ?side1 ?side2 A8.out).mono ?_); (case side1 => repeat (first | exact (Kd.C_below HR2.out (by repeat (first | (with_reducible first | exact HB.out | apply below_alloc | apply pw_below_drewN | apply below_drew1 | refine below_set ?_ GE301.out) | exact HB.out))) | (with_reducible refine Kd.C_alloc ?_ _) | (with_reducible refine Kd.C_drewN ?_ _) | (with_reducible refine Kd.C_drew ?_))); (case side2 => exact HC2.out); rintro e w' ⟨rfl, ⟨nd, rfl⟩⟩; have hcz16_0 : w5.cell? ⟨gb301, 0, none⟩ = some (.int .i64 a0_0) := (blk_cell BK301.out 0).trans rfl; have hcz16_1 : w5.cell? ⟨gb301, 1, none⟩ = some (.int .i64 a0_1) := (blk_cell BK301.out 1).trans rfl; have hcz16_2 : w5.cell? ⟨gb301, 2, none⟩ = some (.int .i64 a0_2) := (blk_cell BK301.out 2).trans rfl; have hcz16_3 : w5.cell? ⟨gb301, 3, none⟩ = some (.int .i64 a0_3) := (blk_cell BK301.out 3).trans rfl; have hfz16_0 := blk_frozen BK301.out 0; have hfz16_1 := blk_frozen BK301.out 1; have hfz16_2 := blk_frozen BK301.out 2; have hfz16_3 := blk_frozen BK301.out 3) | (go_at_call 21; (with_reducible refine (tellurionref04_Rule.calls a0_0 a0_1 a0_2 a0_3 true _ A10.out).mono ?_); rintro e w17 ⟨rfl, hb⟩; have n0_ := Aside0.mk (blk_below (g := gb301) (o := .cells #[.int .i64 a0_0, .int .i64 a0_1, .int .i64 a0_2, .int .i64 a0_3] 39 (0, 0)) (by (with_reducible repeat (first | refine blk_drewN ?_ _ | refine blk_drew ?_ | refine blk_alloc ?_ _)); exact BK301.out) hb); have n1_ := Aside0.mk (below_step (by repeat (first | (with_reducible first | exact HB.out | apply below_alloc | apply pw_below_drewN | apply below_drew1 | refine below_set ?_ GE301.out) | exact HB.out)) hb); clear BK301; clear HB; have BK301 := n0_; have HB := n1_; clear n0_ n1_; (try clear hb); (try clear hb2); (try clear hk); (try clear hi)) | (go_at_call 14; (with_reducible refine (tellurionref04_Cam.calls k _ _ l1 true _ ?side1 ?side2 A12.out).mono ?_); (case side1 => repeat (first | exact (Kd.C_below HR1.out HB.out) | (with_reducible refine Kd.C_alloc ?_ _) | (with_reducible refine Kd.C_drewN ?_ _) | (with_reducible refine Kd.C_drew ?_))); (case side2 => exact HC1.out); rintro e w' ⟨rfl, ⟨nd, rfl⟩⟩) | (go_at_call 14; (with_reducible refine (tellurionref04_Cam.calls k _ _ l2 true _ ?side1 ?side2 A14.out).mono ?_); (case side1 => repeat (first | exact (Kd.C_below HR2.out (by repeat (first | (with_reducible first | exact HB.out | apply below_alloc | apply pw_below_drewN | apply below_drew1 | refine below_set ?_ GE301.out) | exact HB.out))) | (with_reducible refine Kd.C_alloc ?_ _) | (with_reducible refine Kd.C_drewN ?_ _) | (with_reducible refine Kd.C_drew ?_))); (case side2 => exact HC2.out); rintro e w' ⟨rfl, ⟨nd, rfl⟩⟩))
       go_meet
       case rel => exact ⟨_, (((l2.length : Int) != (l1.length : Int))), (by first | rfl | (simp; done) | (simp [*]; done)), H', ⟨by first | omega | exact Nat.le_refl _⟩, ⟨by (with_reducible repeat (first | refine blk_drewN ?_ _ | refine blk_drew ?_ | refine blk_alloc ?_ _)); exact BK301.out⟩, ⟨by repeat (first | (with_reducible first | exact HB.out | apply below_alloc | apply pw_below_drewN | apply below_drew1 | refine below_set ?_ GE301.out) | exact HB.out)⟩⟩
      ·
       replace c15 := Bool.eq_false_iff.mpr c15
       subst c15
       have H1 : (tellurionlaw04_CamRivals.j0 k l1 l2 true a0_0 a0_1 a0_2 a0_3) = some r := by rw [if_neg (show ¬ (false = true) by decide)] at H; exact H
       clear H
       have H := H1
       clear H1
       have H' := Aside0.mk H
       clear H
       go_wp2_with (first | ((with_reducible refine gate_callee (f := 10) rfl ?_); refine goesL_ (some 19) rfl rfl Tryz.func10 (by kernel_rfl) rfl #[.slice A1 l1.length c1] rfl (by (try simp only [List.map_toArray, List.map_cons, List.map_nil]); first | done | rfl | (simp only [List.length_drop, List.length_take]; rfl)) ?_; (with_reducible refine (tellurionlaw04_short.calls _ _ l1 true _ ?side1 ?side2 A6.out).mono ?_); (case side1 => repeat (first | exact (Kd.C_below HR1.out HB.out) | (with_reducible refine Kd.C_alloc ?_ _) | (with_reducible refine Kd.C_drewN ?_ _) | (with_reducible refine Kd.C_drew ?_))); (case side2 => exact HC1.out); rintro e w' ⟨rfl, ⟨nd, rfl⟩⟩; refine ⟨_, rfl, ?_⟩) | (go_at_call 10; (with_reducible refine (tellurionlaw04_short.calls _ _ l2 true _ ?side1 ?side2 A8.out).mono ?_); (case side1 => repeat (first | exact (Kd.C_below HR2.out (by repeat (first | (with_reducible first | exact HB.out | apply below_alloc | apply pw_below_drewN | apply below_drew1 | refine below_set ?_ GE301.out) | exact HB.out))) | (with_reducible refine Kd.C_alloc ?_ _) | (with_reducible refine Kd.C_drewN ?_ _) | (with_reducible refine Kd.C_drew ?_))); (case side2 => exact HC2.out); rintro e w' ⟨rfl, ⟨nd, rfl⟩⟩; have hcz18_0 : w5.cell? ⟨gb301, 0, none⟩ = some (.int .i64 a0_0) := (blk_cell BK301.out 0).trans rfl; have hcz18_1 : w5.cell? ⟨gb301, 1, none⟩ = some (.int .i64 a0_1) := (blk_cell BK301.out 1).trans rfl; have hcz18_2 : w5.cell? ⟨gb301, 2, none⟩ = some (.int .i64 a0_2) := (blk_cell BK301.out 2).trans rfl; have hcz18_3 : w5.cell? ⟨gb301, 3, none⟩ = some (.int .i64 a0_3) := (blk_cell BK301.out 3).trans rfl; have hfz18_0 := blk_frozen BK301.out 0; have hfz18_1 := blk_frozen BK301.out 1; have hfz18_2 := blk_frozen BK301.out 2; have hfz18_3 := blk_frozen BK301.out 3) | (go_at_call 21; (with_reducible refine (tellurionref04_Rule.calls a0_0 a0_1 a0_2 a0_3 true _ A10.out).mono ?_); rintro e w19 ⟨rfl, hb⟩; have n0_ := Aside0.mk (blk_below (g := gb301) (o := .cells #[.int .i64 a0_0, .int .i64 a0_1, .int .i64 a0_2, .int .i64 a0_3] 39 (0, 0)) (by (with_reducible repeat (first | refine blk_drewN ?_ _ | refine blk_drew ?_ | refine blk_alloc ?_ _)); exact BK301.out) hb); have n1_ := Aside0.mk (below_step (by repeat (first | (with_reducible first | exact HB.out | apply below_alloc | apply pw_below_drewN | apply below_drew1 | refine below_set ?_ GE301.out) | exact HB.out)) hb); clear BK301; clear HB; have BK301 := n0_; have HB := n1_; clear n0_ n1_; (try clear hb); (try clear hb2); (try clear hk); (try clear hi)) | (go_at_call 14; (with_reducible refine (tellurionref04_Cam.calls k _ _ l1 true _ ?side1 ?side2 A12.out).mono ?_); (case side1 => repeat (first | exact (Kd.C_below HR1.out HB.out) | (with_reducible refine Kd.C_alloc ?_ _) | (with_reducible refine Kd.C_drewN ?_ _) | (with_reducible refine Kd.C_drew ?_))); (case side2 => exact HC1.out); rintro e w' ⟨rfl, ⟨nd, rfl⟩⟩) | (go_at_call 14; (with_reducible refine (tellurionref04_Cam.calls k _ _ l2 false _ ?side1 ?side2 A14.out).mono ?_); (case side1 => repeat (first | exact (Kd.C_below HR2.out (by repeat (first | (with_reducible first | exact HB.out | apply below_alloc | apply pw_below_drewN | apply below_drew1 | refine below_set ?_ GE301.out) | exact HB.out))) | (with_reducible refine Kd.C_alloc ?_ _) | (with_reducible refine Kd.C_drewN ?_ _) | (with_reducible refine Kd.C_drew ?_))); (case side2 => exact HC2.out); rintro e w' ⟨rfl, ⟨nd, rfl⟩⟩))
       go_meet
       case rel => exact ⟨_, (true), (by first | rfl | (simp; done) | (simp [*]; done)), H', ⟨by first | omega | exact Nat.le_refl _⟩, ⟨by (with_reducible repeat (first | refine blk_drewN ?_ _ | refine blk_drew ?_ | refine blk_alloc ?_ _)); exact BK301.out⟩, ⟨by repeat (first | (with_reducible first | exact HB.out | apply below_alloc | apply pw_below_drewN | apply below_drew1 | refine below_set ?_ GE301.out) | exact HB.out)⟩⟩
     ·
      replace c13 := Bool.eq_false_iff.mpr c13
      subst c13
      have H1 : (tellurionlaw04_CamRivals.j0 k l1 l2 true a0_0 a0_1 a0_2 a0_3) = some r := by rw [if_neg (show ¬ (false = true) by decide)] at H; exact H
      clear H
      have H := H1
      clear H1
      have H' := Aside0.mk H
      clear H
      go_wp2_with (first | ((with_reducible refine gate_callee (f := 10) rfl ?_); refine goesL_ (some 19) rfl rfl Tryz.func10 (by kernel_rfl) rfl #[.slice A1 l1.length c1] rfl (by (try simp only [List.map_toArray, List.map_cons, List.map_nil]); first | done | rfl | (simp only [List.length_drop, List.length_take]; rfl)) ?_; (with_reducible refine (tellurionlaw04_short.calls _ _ l1 true _ ?side1 ?side2 A6.out).mono ?_); (case side1 => repeat (first | exact (Kd.C_below HR1.out HB.out) | (with_reducible refine Kd.C_alloc ?_ _) | (with_reducible refine Kd.C_drewN ?_ _) | (with_reducible refine Kd.C_drew ?_))); (case side2 => exact HC1.out); rintro e w' ⟨rfl, ⟨nd, rfl⟩⟩; refine ⟨_, rfl, ?_⟩) | (go_at_call 10; (with_reducible refine (tellurionlaw04_short.calls _ _ l2 true _ ?side1 ?side2 A8.out).mono ?_); (case side1 => repeat (first | exact (Kd.C_below HR2.out (by repeat (first | (with_reducible first | exact HB.out | apply below_alloc | apply pw_below_drewN | apply below_drew1 | refine below_set ?_ GE301.out) | exact HB.out))) | (with_reducible refine Kd.C_alloc ?_ _) | (with_reducible refine Kd.C_drewN ?_ _) | (with_reducible refine Kd.C_drew ?_))); (case side2 => exact HC2.out); rintro e w' ⟨rfl, ⟨nd, rfl⟩⟩; have hcz20_0 : w5.cell? ⟨gb301, 0, none⟩ = some (.int .i64 a0_0) := (blk_cell BK301.out 0).trans rfl; have hcz20_1 : w5.cell? ⟨gb301, 1, none⟩ = some (.int .i64 a0_1) := (blk_cell BK301.out 1).trans rfl; have hcz20_2 : w5.cell? ⟨gb301, 2, none⟩ = some (.int .i64 a0_2) := (blk_cell BK301.out 2).trans rfl; have hcz20_3 : w5.cell? ⟨gb301, 3, none⟩ = some (.int .i64 a0_3) := (blk_cell BK301.out 3).trans rfl; have hfz20_0 := blk_frozen BK301.out 0; have hfz20_1 := blk_frozen BK301.out 1; have hfz20_2 := blk_frozen BK301.out 2; have hfz20_3 := blk_frozen BK301.out 3) | (go_at_call 21; (with_reducible refine (tellurionref04_Rule.calls a0_0 a0_1 a0_2 a0_3 true _ A10.out).mono ?_); rintro e w21 ⟨rfl, hb⟩; have n0_ := Aside0.mk (blk_below (g := gb301) (o := .cells #[.int .i64 a0_0, .int .i64 a0_1, .int .i64 a0_2, .int .i64 a0_3] 39 (0, 0)) (by (with_reducible repeat (first | refine blk_drewN ?_ _ | refine blk_drew ?_ | refine blk_alloc ?_ _)); exact BK301.out) hb); have n1_ := Aside0.mk (below_step (by repeat (first | (with_reducible first | exact HB.out | apply below_alloc | apply pw_below_drewN | apply below_drew1 | refine below_set ?_ GE301.out) | exact HB.out)) hb); clear BK301; clear HB; have BK301 := n0_; have HB := n1_; clear n0_ n1_; (try clear hb); (try clear hb2); (try clear hk); (try clear hi)) | (go_at_call 14; (with_reducible refine (tellurionref04_Cam.calls k _ _ l1 false _ ?side1 ?side2 A12.out).mono ?_); (case side1 => repeat (first | exact (Kd.C_below HR1.out HB.out) | (with_reducible refine Kd.C_alloc ?_ _) | (with_reducible refine Kd.C_drewN ?_ _) | (with_reducible refine Kd.C_drew ?_))); (case side2 => exact HC1.out); rintro e w' ⟨rfl, ⟨nd, rfl⟩⟩))
      go_meet
      case rel => exact ⟨_, (true), (by first | rfl | (simp; done) | (simp [*]; done)), H', ⟨by first | omega | exact Nat.le_refl _⟩, ⟨by (with_reducible repeat (first | refine blk_drewN ?_ _ | refine blk_drew ?_ | refine blk_alloc ?_ _)); exact BK301.out⟩, ⟨by repeat (first | (with_reducible first | exact HB.out | apply below_alloc | apply pw_below_drewN | apply below_drew1 | refine below_set ?_ GE301.out) | exact HB.out)⟩⟩
    ·
     replace c11 := Bool.eq_false_iff.mpr c11
     subst c11
     have H1 : (tellurionlaw04_CamRivals.j0 k l1 l2 true a0_0 a0_1 a0_2 a0_3) = some r := by rw [if_neg (show ¬ (false = true) by decide)] at H; exact H
     clear H
     have H := H1
     clear H1
     have H' := Aside0.mk H
     clear H
     go_wp2_with (first | ((with_reducible refine gate_callee (f := 10) rfl ?_); refine goesL_ (some 19) rfl rfl Tryz.func10 (by kernel_rfl) rfl #[.slice A1 l1.length c1] rfl (by (try simp only [List.map_toArray, List.map_cons, List.map_nil]); first | done | rfl | (simp only [List.length_drop, List.length_take]; rfl)) ?_; (with_reducible refine (tellurionlaw04_short.calls _ _ l1 true _ ?side1 ?side2 A6.out).mono ?_); (case side1 => repeat (first | exact (Kd.C_below HR1.out HB.out) | (with_reducible refine Kd.C_alloc ?_ _) | (with_reducible refine Kd.C_drewN ?_ _) | (with_reducible refine Kd.C_drew ?_))); (case side2 => exact HC1.out); rintro e w' ⟨rfl, ⟨nd, rfl⟩⟩; refine ⟨_, rfl, ?_⟩) | (go_at_call 10; (with_reducible refine (tellurionlaw04_short.calls _ _ l2 true _ ?side1 ?side2 A8.out).mono ?_); (case side1 => repeat (first | exact (Kd.C_below HR2.out (by repeat (first | (with_reducible first | exact HB.out | apply below_alloc | apply pw_below_drewN | apply below_drew1 | refine below_set ?_ GE301.out) | exact HB.out))) | (with_reducible refine Kd.C_alloc ?_ _) | (with_reducible refine Kd.C_drewN ?_ _) | (with_reducible refine Kd.C_drew ?_))); (case side2 => exact HC2.out); rintro e w' ⟨rfl, ⟨nd, rfl⟩⟩; have hcz22_0 : w5.cell? ⟨gb301, 0, none⟩ = some (.int .i64 a0_0) := (blk_cell BK301.out 0).trans rfl; have hcz22_1 : w5.cell? ⟨gb301, 1, none⟩ = some (.int .i64 a0_1) := (blk_cell BK301.out 1).trans rfl; have hcz22_2 : w5.cell? ⟨gb301, 2, none⟩ = some (.int .i64 a0_2) := (blk_cell BK301.out 2).trans rfl; have hcz22_3 : w5.cell? ⟨gb301, 3, none⟩ = some (.int .i64 a0_3) := (blk_cell BK301.out 3).trans rfl; have hfz22_0 := blk_frozen BK301.out 0; have hfz22_1 := blk_frozen BK301.out 1; have hfz22_2 := blk_frozen BK301.out 2; have hfz22_3 := blk_frozen BK301.out 3) | (go_at_call 21; (with_reducible refine (tellurionref04_Rule.calls a0_0 a0_1 a0_2 a0_3 false _ A10.out).mono ?_); rintro e w23 ⟨rfl, hb⟩; have n0_ := Aside0.mk (blk_below (g := gb301) (o := .cells #[.int .i64 a0_0, .int .i64 a0_1, .int .i64 a0_2, .int .i64 a0_3] 39 (0, 0)) (by (with_reducible repeat (first | refine blk_drewN ?_ _ | refine blk_drew ?_ | refine blk_alloc ?_ _)); exact BK301.out) hb); have n1_ := Aside0.mk (below_step (by repeat (first | (with_reducible first | exact HB.out | apply below_alloc | apply pw_below_drewN | apply below_drew1 | refine below_set ?_ GE301.out) | exact HB.out)) hb); clear BK301; clear HB; have BK301 := n0_; have HB := n1_; clear n0_ n1_; (try clear hb); (try clear hb2); (try clear hk); (try clear hi)))
     go_meet
     case rel => exact ⟨_, (true), (by first | rfl | (simp; done) | (simp [*]; done)), H', ⟨by first | omega | exact Nat.le_refl _⟩, ⟨by (with_reducible repeat (first | refine blk_drewN ?_ _ | refine blk_drew ?_ | refine blk_alloc ?_ _)); exact BK301.out⟩, ⟨by repeat (first | (with_reducible first | exact HB.out | apply below_alloc | apply pw_below_drewN | apply below_drew1 | refine below_set ?_ GE301.out) | exact HB.out)⟩⟩
   ·
    replace c9 := Bool.eq_false_iff.mpr c9
    subst c9
    have H1 : (tellurionlaw04_CamRivals.j0 k l1 l2 true a0_0 a0_1 a0_2 a0_3) = some r := by rw [if_neg (show ¬ (false = true) by decide)] at H; exact H
    clear H
    have H := H1
    clear H1
    have H' := Aside0.mk H
    clear H
    go_wp2_with (first | ((with_reducible refine gate_callee (f := 10) rfl ?_); refine goesL_ (some 19) rfl rfl Tryz.func10 (by kernel_rfl) rfl #[.slice A1 l1.length c1] rfl (by (try simp only [List.map_toArray, List.map_cons, List.map_nil]); first | done | rfl | (simp only [List.length_drop, List.length_take]; rfl)) ?_; (with_reducible refine (tellurionlaw04_short.calls _ _ l1 true _ ?side1 ?side2 A6.out).mono ?_); (case side1 => repeat (first | exact (Kd.C_below HR1.out HB.out) | (with_reducible refine Kd.C_alloc ?_ _) | (with_reducible refine Kd.C_drewN ?_ _) | (with_reducible refine Kd.C_drew ?_))); (case side2 => exact HC1.out); rintro e w' ⟨rfl, ⟨nd, rfl⟩⟩; refine ⟨_, rfl, ?_⟩) | (go_at_call 10; (with_reducible refine (tellurionlaw04_short.calls _ _ l2 false _ ?side1 ?side2 A8.out).mono ?_); (case side1 => repeat (first | exact (Kd.C_below HR2.out (by repeat (first | (with_reducible first | exact HB.out | apply below_alloc | apply pw_below_drewN | apply below_drew1 | refine below_set ?_ GE301.out) | exact HB.out))) | (with_reducible refine Kd.C_alloc ?_ _) | (with_reducible refine Kd.C_drewN ?_ _) | (with_reducible refine Kd.C_drew ?_))); (case side2 => exact HC2.out); rintro e w' ⟨rfl, ⟨nd, rfl⟩⟩))
    go_meet
    case rel => exact ⟨_, (true), (by first | rfl | (simp; done) | (simp [*]; done)), H', ⟨by first | omega | exact Nat.le_refl _⟩, ⟨by (with_reducible repeat (first | refine blk_drewN ?_ _ | refine blk_drew ?_ | refine blk_alloc ?_ _)); exact BK301.out⟩, ⟨by repeat (first | (with_reducible first | exact HB.out | apply below_alloc | apply pw_below_drewN | apply below_drew1 | refine below_set ?_ GE301.out) | exact HB.out)⟩⟩
  ·
   replace c7 := Bool.eq_false_iff.mpr c7
   subst c7
   have H1 : (tellurionlaw04_CamRivals.j0 k l1 l2 true a0_0 a0_1 a0_2 a0_3) = some r := by rw [if_neg (show ¬ (false = true) by decide)] at H; exact H
   clear H
   have H := H1
   clear H1
   have H' := Aside0.mk H
   clear H
   go_wp2_with (first | ((with_reducible refine gate_callee (f := 10) rfl ?_); refine goesL_ (some 19) rfl rfl Tryz.func10 (by kernel_rfl) rfl #[.slice A1 l1.length c1] rfl (by (try simp only [List.map_toArray, List.map_cons, List.map_nil]); first | done | rfl | (simp only [List.length_drop, List.length_take]; rfl)) ?_; (with_reducible refine (tellurionlaw04_short.calls _ _ l1 false _ ?side1 ?side2 A6.out).mono ?_); (case side1 => repeat (first | exact (Kd.C_below HR1.out HB.out) | (with_reducible refine Kd.C_alloc ?_ _) | (with_reducible refine Kd.C_drewN ?_ _) | (with_reducible refine Kd.C_drew ?_))); (case side2 => exact HC1.out); rintro e w' ⟨rfl, ⟨nd, rfl⟩⟩; refine ⟨_, rfl, ?_⟩))
   go_meet
   case rel => exact ⟨_, (true), (by first | rfl | (simp; done) | (simp [*]; done)), H', ⟨by first | omega | exact Nat.le_refl _⟩, ⟨by (with_reducible repeat (first | refine blk_drewN ?_ _ | refine blk_drew ?_ | refine blk_alloc ?_ _)); exact BK301.out⟩, ⟨by repeat (first | (with_reducible first | exact HB.out | apply below_alloc | apply pw_below_drewN | apply below_drew1 | refine below_set ?_ GE301.out) | exact HB.out)⟩⟩
 case rest =>
  clear HC4
  try clear c1
  try clear c2
  try clear p2
  try clear c5
  try clear c7
  try clear c9
  try clear c10
  try clear c11
  try clear c13
  try clear c15
  try clear hcz16_0
  try clear hcz16_1
  try clear hcz16_2
  try clear hcz16_3
  try clear hcz18_0
  try clear hcz18_1
  try clear hcz18_2
  try clear hcz18_3
  try clear hcz20_0
  try clear hcz20_1
  try clear hcz20_2
  try clear hcz20_3
  try clear hcz22_0
  try clear hcz22_1
  try clear hcz22_2
  try clear hcz22_3
  try clear hfz16_0
  try clear hfz16_1
  try clear hfz16_2
  try clear hfz16_3
  try clear hfz18_0
  try clear hfz18_1
  try clear hfz18_2
  try clear hfz18_3
  try clear hfz20_0
  try clear hfz20_1
  try clear hfz20_2
  try clear hfz20_3
  try clear hfz22_0
  try clear hfz22_1
  try clear hfz22_2
  try clear hfz22_3
  obtain ⟨kq, x47_3, rfl, HA, HJ3, BK301, HB⟩ := hcut
  cases kq with
  | zero => exact absurd HA.out (by simp [tellurionlaw04_CamRivals.j0])
  | succ kj3 =>
   have H := HA.out
   clear HA
   simp only [tellurionlaw04_CamRivals.j0] at H
   by_cases c24 : x47_3 = true
   ·
    subst c24
    have H1 : ((tellurionlaw04_known.f).bind fun t307 => (some t307)) = some r := by rw [if_pos rfl] at H; exact H
    clear H
    have H := H1
    clear H1
    replace H := Option.bind_eq_some_iff.mp H
    obtain ⟨t307, A250, H⟩ := H
    replace H : (some t307) = some r := H
    have A25 := Aside0.mk A250
    clear A250
    obtain rfl := Option.some.inj H
    go_wp2_with (first | ((with_reducible refine gate_callee (f := 11) rfl ?_); refine goesL_ (some 48) rfl rfl Tryz.func11 (by kernel_rfl) rfl #[] rfl (by (try simp only [List.map_toArray, List.map_cons, List.map_nil]); first | done | rfl | (simp only [List.length_drop, List.length_take]; rfl)) ?_; (with_reducible refine (tellurionlaw04_known.calls  t307 _ A25.out).mono ?_); rintro e w26 ⟨rfl, hb⟩; refine ⟨_, rfl, ?_⟩; have n0_ := Aside0.mk (blk_below (g := gb301) (o := .cells #[.int .i64 a0_0, .int .i64 a0_1, .int .i64 a0_2, .int .i64 a0_3] 39 (0, 0)) (by (with_reducible repeat (first | refine blk_drewN ?_ _ | refine blk_drew ?_ | refine blk_alloc ?_ _)); exact BK301.out) hb); have n1_ := Aside0.mk (below_step (by repeat (first | (with_reducible first | exact HB.out | apply below_alloc | apply pw_below_drewN | apply below_drew1 | refine below_set ?_ GE301.out) | exact HB.out)) hb); clear BK301; clear HB; have BK301 := n0_; have HB := n1_; clear n0_ n1_; (try clear hb); (try clear hb2); (try clear hk); (try clear hi)))
    go_ret
    exact ⟨by first | rfl | (simp [errW_none, errW_some] <;> rfl) | (simp [*, errW_none, errW_some] <;> rfl), by repeat (first | (with_reducible first | exact HB.out | apply below_alloc | apply pw_below_drewN | apply below_drew1 | refine below_set ?_ GE301.out) | exact HB.out)⟩
   ·
    replace c24 := Bool.eq_false_iff.mpr c24
    subst c24
    have H1 : ((cam_Nearest.f a0_0 a0_1 a0_2 a0_3 l1).bind fun bt308 => (if bt308.2.2 = 0 then (if (bt308.1.length : Int) = (l1.length : Int) then ((tellurionref04_Cam.f kj3 bt308.1).bind fun t313 => (tellurionlaw04_CamRivals.j1 kj3 l1 l2 bt308.1 bt308.2.1 (!t313) a0_0 a0_1 a0_2 a0_3)) else (tellurionlaw04_CamRivals.j1 kj3 l1 l2 bt308.1 bt308.2.1 true a0_0 a0_1 a0_2 a0_3)) else (tellurionlaw04_CamRivals.j1 kj3 l1 l2 bt308.1 bt308.2.1 true a0_0 a0_1 a0_2 a0_3))) = some r := by rw [if_neg (show ¬ (false = true) by decide)] at H; exact H
    clear H
    have H := H1
    clear H1
    replace H := Option.bind_eq_some_iff.mp H
    obtain ⟨⟨t308, t311, t312⟩, A270, H⟩ := H
    replace H : (if t312 = 0 then (if (t308.length : Int) = (l1.length : Int) then ((tellurionref04_Cam.f kj3 t308).bind fun t313 => (tellurionlaw04_CamRivals.j1 kj3 l1 l2 t308 t311 (!t313) a0_0 a0_1 a0_2 a0_3)) else (tellurionlaw04_CamRivals.j1 kj3 l1 l2 t308 t311 true a0_0 a0_1 a0_2 a0_3)) else (tellurionlaw04_CamRivals.j1 kj3 l1 l2 t308 t311 true a0_0 a0_1 a0_2 a0_3)) = some r := H
    have A27 := Aside0.mk A270
    clear A270
    have HC28 := Aside0.mk H
    clear H
    have hcz29_0 : wc.cell? ⟨gb301, 0, none⟩ = some (.int .i64 a0_0) := (blk_cell BK301.out 0).trans rfl
    have hcz29_1 : wc.cell? ⟨gb301, 1, none⟩ = some (.int .i64 a0_1) := (blk_cell BK301.out 1).trans rfl
    have hcz29_2 : wc.cell? ⟨gb301, 2, none⟩ = some (.int .i64 a0_2) := (blk_cell BK301.out 2).trans rfl
    have hcz29_3 : wc.cell? ⟨gb301, 3, none⟩ = some (.int .i64 a0_3) := (blk_cell BK301.out 3).trans rfl
    have hfz29_0 := blk_frozen BK301.out 0
    have hfz29_1 := blk_frozen BK301.out 1
    have hfz29_2 := blk_frozen BK301.out 2
    have hfz29_3 := blk_frozen BK301.out 3
    go_upto_region 4 with (first | ((with_reducible refine gate_callee (f := 22) rfl ?_); refine goesL_ (some 52) rfl rfl Tryz.func22 (by kernel_rfl) rfl #[.agg #[.int .i64 a0_0, .int .i64 a0_1, .int .i64 a0_2, .int .i64 a0_3], .slice A1 l1.length c1] rfl (by (try simp only [List.map_toArray, List.map_cons, List.map_nil]); first | done | rfl | (simp only [List.length_drop, List.length_take]; rfl)) ?_; (with_reducible refine (cam_Nearest.calls a0_0 a0_1 a0_2 a0_3 _ _ l1 t308 t311 t312 _ ?side1 ?side2 A27.out).mono ?_); (case side1 => repeat (first | exact (Kd.C_below HR1.out HB.out) | (with_reducible refine Kd.C_alloc ?_ _) | (with_reducible refine Kd.C_drewN ?_ _) | (with_reducible refine Kd.C_drew ?_))); (case side2 => exact HC1.out); rintro e w30 ⟨v309, rfl, ho0, hb⟩; refine ⟨_, rfl, ?_⟩; have n0_ := Aside0.mk (Kd.R_lower ho0 (below_size (by repeat (first | (with_reducible first | exact HB.out | apply below_alloc | apply pw_below_drewN | apply below_drew1 | refine below_set ?_ GE301.out) | exact HB.out)))); have n1_ := Aside0.mk (blk_below (g := gb301) (o := .cells #[.int .i64 a0_0, .int .i64 a0_1, .int .i64 a0_2, .int .i64 a0_3] 39 (0, 0)) (by (with_reducible repeat (first | refine blk_drewN ?_ _ | refine blk_drew ?_ | refine blk_alloc ?_ _)); exact BK301.out) hb); have n2_ := Aside0.mk (below_step (by repeat (first | (with_reducible first | exact HB.out | apply below_alloc | apply pw_below_drewN | apply below_drew1 | refine below_set ?_ GE301.out) | exact HB.out)) hb); clear BK301; clear HB; have HO310 := n0_; have BK301 := n1_; have HB := n2_; clear n0_ n1_ n2_; (try clear hb); (try clear hb2); (try clear hk); (try clear hi); (try clear ho0)))
    (try simp only [Act.put, List.setIfInBounds_toArray, List.set_cons_zero, List.set_cons_succ])
    go_cut [69] (fun v69 wc => ∃ (kq : Nat) (x69_27 : Bool), v69 = .bool x69_27 ∧ Aside0 (tellurionlaw04_CamRivals.j1 kq l1 l2 t308 t311 x69_27 a0_0 a0_1 a0_2 a0_3 = some r) ∧ Aside0 (kq ≤ kj3) ∧ Aside0 (Kd.R (Kd.int .i64) 3 wc w.heap.size (fun _ => True) v309 t308) ∧ Aside0 (wc.heap[gb301]? = some (.cells #[.int .i64 a0_0, .int .i64 a0_1, .int .i64 a0_2, .int .i64 a0_3] 39 (0, 0))) ∧ Aside0 (Below w.heap.size w wc))
    case first =>
     have H := HC28.out
     clear HC28
     by_cases c31 : t312 = 0
     ·
      rw [if_pos c31] at H
      have c31b0 : (t312 == 0) = true := beq_iff_eq.mpr c31
      have c31b1 : (t312 != 0) = false := bne_eq_false_iff_eq.mpr c31
      clear c31
      (first | rw [c31b0] | (simp only [i64_w, i32_w]; rw [c31b0]) | skip)
      by_cases c32 : (t308.length : Int) = (l1.length : Int)
      ·
       rw [if_pos c32] at H
       have c32b0 : ((t308.length : Int) == (l1.length : Int)) = true := beq_iff_eq.mpr c32
       have c32b1 : ((t308.length : Int) != (l1.length : Int)) = false := bne_eq_false_iff_eq.mpr c32
       have c32b2 : (t308.length == l1.length) = true := by first | simpa using c32 | (simp at c32 ⊢; omega)
       clear c32
       replace H := Option.bind_eq_some_iff.mp H
       obtain ⟨t313, A330, H⟩ := H
       replace H : (tellurionlaw04_CamRivals.j1 kj3 l1 l2 t308 t311 (!t313) a0_0 a0_1 a0_2 a0_3) = some r := H
       have A33 := Aside0.mk A330
       clear A330
       have H' := Aside0.mk H
       clear H
       obtain ⟨Ao34, co34, eo34⟩ := Kd.R_slice HO310.out
       subst eo34
       go_wp2_with (first | (go_at_call 14; (with_reducible refine (tellurionref04_Cam.calls kj3 _ _ t308 t313 _ ?side1 ?side2 A33.out).mono ?_); (case side1 => repeat (first | exact (Kd.R_reads' HO310.out).2.2 | (with_reducible refine Kd.C_alloc ?_ _) | (with_reducible refine Kd.C_drewN ?_ _) | (with_reducible refine Kd.C_drew ?_))); (case side2 => exact (Kd.R_reads' HO310.out).2.1); rintro e w' ⟨rfl, ⟨nd, rfl⟩⟩))
       go_meet
       case rel => exact ⟨_, (!t313), (by first | rfl | (simp; done) | (simp [*]; done)), H', ⟨by have := HJ3.out; first | omega | exact Nat.le_refl _⟩, ⟨by (with_reducible repeat (first | apply Kd.R_alloc | apply Kd.R_drewN | apply Kd.R_drew)); exact HO310.out⟩, ⟨by (with_reducible repeat (first | refine blk_drewN ?_ _ | refine blk_drew ?_ | refine blk_alloc ?_ _)); exact BK301.out⟩, ⟨by repeat (first | (with_reducible first | exact HB.out | apply below_alloc | apply pw_below_drewN | apply below_drew1 | refine below_set ?_ GE301.out) | exact HB.out)⟩⟩
      ·
       rw [if_neg c32] at H
       have c32b0 : ((t308.length : Int) == (l1.length : Int)) = false := beq_eq_false_iff_ne.mpr c32
       have c32b1 : ((t308.length : Int) != (l1.length : Int)) = true := bne_iff_ne.mpr c32
       have c32b2 : (t308.length == l1.length) = false := by first | simpa using c32 | (simp at c32 ⊢; omega)
       have H' := Aside0.mk H
       clear H
       obtain ⟨Ao35, co35, eo35⟩ := Kd.R_slice HO310.out
       subst eo35
       go_wp2
       go_meet
       case rel => exact ⟨_, (true), (by first | rfl | (simp; done) | (simp [*]; done)), H', ⟨by have := HJ3.out; first | omega | exact Nat.le_refl _⟩, ⟨by (with_reducible repeat (first | apply Kd.R_alloc | apply Kd.R_drewN | apply Kd.R_drew)); exact HO310.out⟩, ⟨by (with_reducible repeat (first | refine blk_drewN ?_ _ | refine blk_drew ?_ | refine blk_alloc ?_ _)); exact BK301.out⟩, ⟨by repeat (first | (with_reducible first | exact HB.out | apply below_alloc | apply pw_below_drewN | apply below_drew1 | refine below_set ?_ GE301.out) | exact HB.out)⟩⟩
     ·
      rw [if_neg c31] at H
      have c31b0 : (t312 == 0) = false := beq_eq_false_iff_ne.mpr c31
      have c31b1 : (t312 != 0) = true := bne_iff_ne.mpr c31
      (first | rw [c31b0] | (simp only [i64_w, i32_w]; rw [c31b0]) | skip)
      have H' := Aside0.mk H
      clear H
      go_wp2
      go_meet
      case rel => exact ⟨_, (true), (by first | rfl | (simp; done) | (simp [*]; done)), H', ⟨by have := HJ3.out; first | omega | exact Nat.le_refl _⟩, ⟨by (with_reducible repeat (first | apply Kd.R_alloc | apply Kd.R_drewN | apply Kd.R_drew)); exact HO310.out⟩, ⟨by (with_reducible repeat (first | refine blk_drewN ?_ _ | refine blk_drew ?_ | refine blk_alloc ?_ _)); exact BK301.out⟩, ⟨by repeat (first | (with_reducible first | exact HB.out | apply below_alloc | apply pw_below_drewN | apply below_drew1 | refine below_set ?_ GE301.out) | exact HB.out)⟩⟩
    case rest =>
     clear HC28
     try clear c1
     try clear c2
     try clear p2
     try clear c3
     try clear c5
     try clear c7
     try clear c9
     try clear c10
     try clear c11
     try clear c13
     try clear c15
     try clear c22
     try clear c24
     try clear c31
     try clear c31b0
     try clear c31b1
     try clear c32
     try clear c32b0
     try clear c32b1
     try clear c32b2
     try clear hcz16_0
     try clear hcz16_1
     try clear hcz16_2
     try clear hcz16_3
     try clear hcz18_0
     try clear hcz18_1
     try clear hcz18_2
     try clear hcz18_3
     try clear hcz20_0
     try clear hcz20_1
     try clear hcz20_2
     try clear hcz20_3
     try clear hcz22_0
     try clear hcz22_1
     try clear hcz22_2
     try clear hcz22_3
     try clear hcz29_0
     try clear hcz29_1
     try clear hcz29_2
     try clear hcz29_3
     try clear hfz16_0
     try clear hfz16_1
     try clear hfz16_2
     try clear hfz16_3
     try clear hfz18_0
     try clear hfz18_1
     try clear hfz18_2
     try clear hfz18_3
     try clear hfz20_0
     try clear hfz20_1
     try clear hfz20_2
     try clear hfz20_3
     try clear hfz22_0
     try clear hfz22_1
     try clear hfz22_2
     try clear hfz22_3
     try clear hfz29_0
     try clear hfz29_1
     try clear hfz29_2
     try clear hfz29_3
     try clear p2
     obtain ⟨kq, x69_27, rfl, HA, HJ27, HO_7, BK301, HB⟩ := hcut
     cases kq with
     | zero => exact absurd HA.out (by simp [tellurionlaw04_CamRivals.j1])
     | succ kj27 =>
      have H := HA.out
      clear HA
      simp only [tellurionlaw04_CamRivals.j1] at H
      by_cases c36 : x69_27 = true
      ·
       subst c36
       have H1 : (some false) = some r := by rw [if_pos rfl] at H; exact H
       clear H
       have H := H1
       clear H1
       obtain rfl := Option.some.inj H
       go_wp2
       go_ret
       exact ⟨by first | rfl | (simp [errW_none, errW_some] <;> rfl) | (simp [*, errW_none, errW_some] <;> rfl), by repeat (first | (with_reducible first | exact HB.out | apply below_alloc | apply pw_below_drewN | apply below_drew1 | refine below_set ?_ GE301.out) | exact HB.out)⟩
      ·
       replace c36 := Bool.eq_false_iff.mpr c36
       subst c36
       have H1 : ((cam_Fits.f kj27 a0_0 a0_1 a0_2 a0_3 t308).bind fun bt314 => ((cam_Error.f kj27 t308 l1).bind fun bt316 => ((cam_Fits.f kj27 a0_0 a0_1 a0_2 a0_3 l2).bind fun bt318 => ((cam_Error.f kj27 l2 l1).bind fun bt320 => (if bt314.2 = 0 then (if bt314.1 = true then (if bt316.2 = 0 then (if bt316.1 = t311 then (if bt318.2 = 0 then (tellurionlaw04_CamRivals.j2 kj27 l2 t308 t311 bt318.1 bt320.1 (bt320.2 != 0)) else (tellurionlaw04_CamRivals.j2 kj27 l2 t308 t311 bt318.1 bt320.1 true)) else (tellurionlaw04_CamRivals.j2 kj27 l2 t308 t311 bt318.1 bt320.1 true)) else (tellurionlaw04_CamRivals.j2 kj27 l2 t308 t311 bt318.1 bt320.1 true)) else (tellurionlaw04_CamRivals.j2 kj27 l2 t308 t311 bt318.1 bt320.1 true)) else (tellurionlaw04_CamRivals.j2 kj27 l2 t308 t311 bt318.1 bt320.1 true)))))) = some r := by rw [if_neg (show ¬ (false = true) by decide)] at H; exact H
       clear H
       have H := H1
       clear H1
       replace H := Option.bind_eq_some_iff.mp H
       obtain ⟨⟨t314, t315⟩, A370, H⟩ := H
       replace H : ((cam_Error.f kj27 t308 l1).bind fun bt316 => ((cam_Fits.f kj27 a0_0 a0_1 a0_2 a0_3 l2).bind fun bt318 => ((cam_Error.f kj27 l2 l1).bind fun bt320 => (if t315 = 0 then (if t314 = true then (if bt316.2 = 0 then (if bt316.1 = t311 then (if bt318.2 = 0 then (tellurionlaw04_CamRivals.j2 kj27 l2 t308 t311 bt318.1 bt320.1 (bt320.2 != 0)) else (tellurionlaw04_CamRivals.j2 kj27 l2 t308 t311 bt318.1 bt320.1 true)) else (tellurionlaw04_CamRivals.j2 kj27 l2 t308 t311 bt318.1 bt320.1 true)) else (tellurionlaw04_CamRivals.j2 kj27 l2 t308 t311 bt318.1 bt320.1 true)) else (tellurionlaw04_CamRivals.j2 kj27 l2 t308 t311 bt318.1 bt320.1 true)) else (tellurionlaw04_CamRivals.j2 kj27 l2 t308 t311 bt318.1 bt320.1 true))))) = some r := H
       have A37 := Aside0.mk A370
       clear A370
       replace H := Option.bind_eq_some_iff.mp H
       obtain ⟨⟨t316, t317⟩, A380, H⟩ := H
       replace H : ((cam_Fits.f kj27 a0_0 a0_1 a0_2 a0_3 l2).bind fun bt318 => ((cam_Error.f kj27 l2 l1).bind fun bt320 => (if t315 = 0 then (if t314 = true then (if t317 = 0 then (if t316 = t311 then (if bt318.2 = 0 then (tellurionlaw04_CamRivals.j2 kj27 l2 t308 t311 bt318.1 bt320.1 (bt320.2 != 0)) else (tellurionlaw04_CamRivals.j2 kj27 l2 t308 t311 bt318.1 bt320.1 true)) else (tellurionlaw04_CamRivals.j2 kj27 l2 t308 t311 bt318.1 bt320.1 true)) else (tellurionlaw04_CamRivals.j2 kj27 l2 t308 t311 bt318.1 bt320.1 true)) else (tellurionlaw04_CamRivals.j2 kj27 l2 t308 t311 bt318.1 bt320.1 true)) else (tellurionlaw04_CamRivals.j2 kj27 l2 t308 t311 bt318.1 bt320.1 true)))) = some r := H
       have A38 := Aside0.mk A380
       clear A380
       replace H := Option.bind_eq_some_iff.mp H
       obtain ⟨⟨t318, t319⟩, A390, H⟩ := H
       replace H : ((cam_Error.f kj27 l2 l1).bind fun bt320 => (if t315 = 0 then (if t314 = true then (if t317 = 0 then (if t316 = t311 then (if t319 = 0 then (tellurionlaw04_CamRivals.j2 kj27 l2 t308 t311 t318 bt320.1 (bt320.2 != 0)) else (tellurionlaw04_CamRivals.j2 kj27 l2 t308 t311 t318 bt320.1 true)) else (tellurionlaw04_CamRivals.j2 kj27 l2 t308 t311 t318 bt320.1 true)) else (tellurionlaw04_CamRivals.j2 kj27 l2 t308 t311 t318 bt320.1 true)) else (tellurionlaw04_CamRivals.j2 kj27 l2 t308 t311 t318 bt320.1 true)) else (tellurionlaw04_CamRivals.j2 kj27 l2 t308 t311 t318 bt320.1 true))) = some r := H
       have A39 := Aside0.mk A390
       clear A390
       replace H := Option.bind_eq_some_iff.mp H
       obtain ⟨⟨t320, t321⟩, A400, H⟩ := H
       replace H : (if t315 = 0 then (if t314 = true then (if t317 = 0 then (if t316 = t311 then (if t319 = 0 then (tellurionlaw04_CamRivals.j2 kj27 l2 t308 t311 t318 t320 (t321 != 0)) else (tellurionlaw04_CamRivals.j2 kj27 l2 t308 t311 t318 t320 true)) else (tellurionlaw04_CamRivals.j2 kj27 l2 t308 t311 t318 t320 true)) else (tellurionlaw04_CamRivals.j2 kj27 l2 t308 t311 t318 t320 true)) else (tellurionlaw04_CamRivals.j2 kj27 l2 t308 t311 t318 t320 true)) else (tellurionlaw04_CamRivals.j2 kj27 l2 t308 t311 t318 t320 true)) = some r := H
       have A40 := Aside0.mk A400
       clear A400
       have HC41 := Aside0.mk H
       clear H
       have hcz42_0 : wc.cell? ⟨gb301, 0, none⟩ = some (.int .i64 a0_0) := (blk_cell BK301.out 0).trans rfl
       have hcz42_1 : wc.cell? ⟨gb301, 1, none⟩ = some (.int .i64 a0_1) := (blk_cell BK301.out 1).trans rfl
       have hcz42_2 : wc.cell? ⟨gb301, 2, none⟩ = some (.int .i64 a0_2) := (blk_cell BK301.out 2).trans rfl
       have hcz42_3 : wc.cell? ⟨gb301, 3, none⟩ = some (.int .i64 a0_3) := (blk_cell BK301.out 3).trans rfl
       have hfz42_0 := blk_frozen BK301.out 0
       have hfz42_1 := blk_frozen BK301.out 1
       have hfz42_2 := blk_frozen BK301.out 2
       have hfz42_3 := blk_frozen BK301.out 3
       obtain ⟨Ao43, co43, eo43⟩ := Kd.R_slice HO_7.out
       subst eo43
       go_upto_region 10 with (first | ((with_reducible refine gate_callee (f := 23) rfl ?_); refine goesL_ (some 73) rfl rfl Tryz.func23 (by kernel_rfl) rfl #[.agg #[.int .i64 a0_0, .int .i64 a0_1, .int .i64 a0_2, .int .i64 a0_3], .slice Ao43 t308.length co43] rfl (by (try simp only [List.map_toArray, List.map_cons, List.map_nil]); first | done | rfl | (simp only [List.length_drop, List.length_take]; rfl)) ?_; (with_reducible refine (cam_Fits.calls kj27 a0_0 a0_1 a0_2 a0_3 _ _ t308 t314 t315 _ ?side1 ?side2 A37.out).mono ?_); (case side1 => repeat (first | exact (Kd.R_reads' HO_7.out).2.2 | (with_reducible refine Kd.C_alloc ?_ _) | (with_reducible refine Kd.C_drewN ?_ _) | (with_reducible refine Kd.C_drew ?_))); (case side2 => exact (Kd.R_reads' HO_7.out).2.1); rintro e w44 ⟨rfl, hb⟩; refine ⟨_, rfl, ?_⟩; have n0_ := Aside0.mk (Kd.R_below (by (with_reducible repeat (first | apply Kd.R_alloc | apply Kd.R_drewN | apply Kd.R_drew)); exact HO_7.out) hb); have n1_ := Aside0.mk (blk_below (g := gb301) (o := .cells #[.int .i64 a0_0, .int .i64 a0_1, .int .i64 a0_2, .int .i64 a0_3] 39 (0, 0)) (by (with_reducible repeat (first | refine blk_drewN ?_ _ | refine blk_drew ?_ | refine blk_alloc ?_ _)); exact BK301.out) hb); have n2_ := Aside0.mk (below_step (by repeat (first | (with_reducible first | exact HB.out | apply below_alloc | apply pw_below_drewN | apply below_drew1 | refine below_set ?_ GE301.out) | exact HB.out)) hb); clear HO_7; clear BK301; clear HB; have HO_7 := n0_; have BK301 := n1_; have HB := n2_; clear n0_ n1_ n2_; (try clear hb); (try clear hb2); (try clear hk); (try clear hi)) | ((with_reducible refine gate_callee (f := 24) rfl ?_); refine goesL_ (some 79) rfl rfl Tryz.func24 (by kernel_rfl) rfl #[.slice Ao43 t308.length co43, .slice A1 l1.length c1] rfl (by (try simp only [List.map_toArray, List.map_cons, List.map_nil]); first | done | rfl | (simp only [List.length_drop, List.length_take]; rfl)) ?_; (with_reducible refine (cam_Error.calls kj27 _ _ t308 _ _ l1 t316 t317 _ ?side1 ?side2 ?side3 ?side4 A38.out).mono ?_); (case side1 => repeat (first | exact (Kd.R_reads' HO_7.out).2.2 | (with_reducible refine Kd.C_alloc ?_ _) | (with_reducible refine Kd.C_drewN ?_ _) | (with_reducible refine Kd.C_drew ?_))); (case side2 => exact (Kd.R_reads' HO_7.out).2.1); (case side3 => repeat (first | exact (Kd.C_below HR1.out HB.out) | (with_reducible refine Kd.C_alloc ?_ _) | (with_reducible refine Kd.C_drewN ?_ _) | (with_reducible refine Kd.C_drew ?_))); (case side4 => exact HC1.out); rintro e w45 ⟨rfl, hb⟩; refine ⟨_, rfl, ?_⟩; have n0_ := Aside0.mk (Kd.R_below (by (with_reducible repeat (first | apply Kd.R_alloc | apply Kd.R_drewN | apply Kd.R_drew)); exact HO_7.out) hb); have n1_ := Aside0.mk (blk_below (g := gb301) (o := .cells #[.int .i64 a0_0, .int .i64 a0_1, .int .i64 a0_2, .int .i64 a0_3] 39 (0, 0)) (by (with_reducible repeat (first | refine blk_drewN ?_ _ | refine blk_drew ?_ | refine blk_alloc ?_ _)); exact BK301.out) hb); have n2_ := Aside0.mk (below_step (by repeat (first | (with_reducible first | exact HB.out | apply below_alloc | apply pw_below_drewN | apply below_drew1 | refine below_set ?_ GE301.out) | exact HB.out)) hb); clear HO_7; clear BK301; clear HB; have HO_7 := n0_; have BK301 := n1_; have HB := n2_; clear n0_ n1_ n2_; (try clear hb); (try clear hb2); (try clear hk); (try clear hi); have hcz46_0 : w45.cell? ⟨gb301, 0, none⟩ = some (.int .i64 a0_0) := (blk_cell BK301.out 0).trans rfl; have hcz46_1 : w45.cell? ⟨gb301, 1, none⟩ = some (.int .i64 a0_1) := (blk_cell BK301.out 1).trans rfl; have hcz46_2 : w45.cell? ⟨gb301, 2, none⟩ = some (.int .i64 a0_2) := (blk_cell BK301.out 2).trans rfl; have hcz46_3 : w45.cell? ⟨gb301, 3, none⟩ = some (.int .i64 a0_3) := (blk_cell BK301.out 3).trans rfl; have hfz46_0 := blk_frozen BK301.out 0; have hfz46_1 := blk_frozen BK301.out 1; have hfz46_2 := blk_frozen BK301.out 2; have hfz46_3 := blk_frozen BK301.out 3) | ((with_reducible refine gate_callee (f := 23) rfl ?_); refine goesL_ (some 85) rfl rfl Tryz.func23 (by kernel_rfl) rfl #[.agg #[.int .i64 a0_0, .int .i64 a0_1, .int .i64 a0_2, .int .i64 a0_3], .slice A2 l2.length c2] rfl (by (try simp only [List.map_toArray, List.map_cons, List.map_nil]); first | done | rfl | (simp only [List.length_drop, List.length_take]; rfl)) ?_; (with_reducible refine (cam_Fits.calls kj27 a0_0 a0_1 a0_2 a0_3 _ _ l2 t318 t319 _ ?side1 ?side2 A39.out).mono ?_); (case side1 => repeat (first | exact (Kd.C_below HR2.out HB.out) | (with_reducible refine Kd.C_alloc ?_ _) | (with_reducible refine Kd.C_drewN ?_ _) | (with_reducible refine Kd.C_drew ?_))); (case side2 => exact HC2.out); rintro e w47 ⟨rfl, hb⟩; refine ⟨_, rfl, ?_⟩; have n0_ := Aside0.mk (Kd.R_below (by (with_reducible repeat (first | apply Kd.R_alloc | apply Kd.R_drewN | apply Kd.R_drew)); exact HO_7.out) hb); have n1_ := Aside0.mk (blk_below (g := gb301) (o := .cells #[.int .i64 a0_0, .int .i64 a0_1, .int .i64 a0_2, .int .i64 a0_3] 39 (0, 0)) (by (with_reducible repeat (first | refine blk_drewN ?_ _ | refine blk_drew ?_ | refine blk_alloc ?_ _)); exact BK301.out) hb); have n2_ := Aside0.mk (below_step (by repeat (first | (with_reducible first | exact HB.out | apply below_alloc | apply pw_below_drewN | apply below_drew1 | refine below_set ?_ GE301.out) | exact HB.out)) hb); clear HO_7; clear BK301; clear HB; have HO_7 := n0_; have BK301 := n1_; have HB := n2_; clear n0_ n1_ n2_; (try clear hb); (try clear hb2); (try clear hk); (try clear hi)) | ((with_reducible refine gate_callee (f := 24) rfl ?_); refine goesL_ (some 91) rfl rfl Tryz.func24 (by kernel_rfl) rfl #[.slice A2 l2.length c2, .slice A1 l1.length c1] rfl (by (try simp only [List.map_toArray, List.map_cons, List.map_nil]); first | done | rfl | (simp only [List.length_drop, List.length_take]; rfl)) ?_; (with_reducible refine (cam_Error.calls kj27 _ _ l2 _ _ l1 t320 t321 _ ?side1 ?side2 ?side3 ?side4 A40.out).mono ?_); (case side1 => repeat (first | exact (Kd.C_below HR2.out HB.out) | (with_reducible refine Kd.C_alloc ?_ _) | (with_reducible refine Kd.C_drewN ?_ _) | (with_reducible refine Kd.C_drew ?_))); (case side2 => exact HC2.out); (case side3 => repeat (first | exact (Kd.C_below HR1.out HB.out) | (with_reducible refine Kd.C_alloc ?_ _) | (with_reducible refine Kd.C_drewN ?_ _) | (with_reducible refine Kd.C_drew ?_))); (case side4 => exact HC1.out); rintro e w48 ⟨rfl, hb⟩; refine ⟨_, rfl, ?_⟩; have n0_ := Aside0.mk (Kd.R_below (by (with_reducible repeat (first | apply Kd.R_alloc | apply Kd.R_drewN | apply Kd.R_drew)); exact HO_7.out) hb); have n1_ := Aside0.mk (blk_below (g := gb301) (o := .cells #[.int .i64 a0_0, .int .i64 a0_1, .int .i64 a0_2, .int .i64 a0_3] 39 (0, 0)) (by (with_reducible repeat (first | refine blk_drewN ?_ _ | refine blk_drew ?_ | refine blk_alloc ?_ _)); exact BK301.out) hb); have n2_ := Aside0.mk (below_step (by repeat (first | (with_reducible first | exact HB.out | apply below_alloc | apply pw_below_drewN | apply below_drew1 | refine below_set ?_ GE301.out) | exact HB.out)) hb); clear HO_7; clear BK301; clear HB; have HO_7 := n0_; have BK301 := n1_; have HB := n2_; clear n0_ n1_ n2_; (try clear hb); (try clear hb2); (try clear hk); (try clear hi)))
       (try simp only [Act.put, List.setIfInBounds_toArray, List.set_cons_zero, List.set_cons_succ])
       go_cut [116] (fun v116 wc => ∃ (kq : Nat) (x116_40 : Bool), v116 = .bool x116_40 ∧ Aside0 (tellurionlaw04_CamRivals.j2 kq l2 t308 t311 t318 t320 x116_40 = some r) ∧ Aside0 (kq ≤ kj27) ∧ Aside0 (Kd.R (Kd.int .i64) 3 wc w.heap.size (fun _ => True) (.slice Ao43 t308.length co43) t308) ∧ Aside0 (wc.heap[gb301]? = some (.cells #[.int .i64 a0_0, .int .i64 a0_1, .int .i64 a0_2, .int .i64 a0_3] 39 (0, 0))) ∧ Aside0 (Below w.heap.size w wc))
       case first =>
        have H := HC41.out
        clear HC41
        by_cases c49 : t315 = 0
        ·
         rw [if_pos c49] at H
         have c49b0 : (t315 == 0) = true := beq_iff_eq.mpr c49
         have c49b1 : (t315 != 0) = false := bne_eq_false_iff_eq.mpr c49
         clear c49
         (first | rw [c49b0] | (simp only [i64_w, i32_w]; rw [c49b0]) | skip)
         by_cases c50 : t314 = true
         ·
          subst c50
          have H1 : (if t317 = 0 then (if t316 = t311 then (if t319 = 0 then (tellurionlaw04_CamRivals.j2 kj27 l2 t308 t311 t318 t320 (t321 != 0)) else (tellurionlaw04_CamRivals.j2 kj27 l2 t308 t311 t318 t320 true)) else (tellurionlaw04_CamRivals.j2 kj27 l2 t308 t311 t318 t320 true)) else (tellurionlaw04_CamRivals.j2 kj27 l2 t308 t311 t318 t320 true)) = some r := by rw [if_pos rfl] at H; exact H
          clear H
          have H := H1
          clear H1
          by_cases c51 : t317 = 0
          ·
           rw [if_pos c51] at H
           have c51b0 : (t317 == 0) = true := beq_iff_eq.mpr c51
           have c51b1 : (t317 != 0) = false := bne_eq_false_iff_eq.mpr c51
           clear c51
           by_cases c52 : t316 = t311
           ·
            rw [if_pos c52] at H
            have c52b0 : (t316 == t311) = true := beq_iff_eq.mpr c52
            have c52b1 : (t316 != t311) = false := bne_eq_false_iff_eq.mpr c52
            clear c52
            by_cases c53 : t319 = 0
            ·
             rw [if_pos c53] at H
             have c53b0 : (t319 == 0) = true := beq_iff_eq.mpr c53
             have c53b1 : (t319 != 0) = false := bne_eq_false_iff_eq.mpr c53
             clear c53
             have H' := Aside0.mk H
             clear H
             go_wp2
             go_meet
             case rel => exact ⟨_, ((t321 != 0)), (by first | rfl | (simp; done) | (simp [*]; done)), H', ⟨by have := HJ3.out; have := HJ27.out; first | omega | exact Nat.le_refl _⟩, ⟨by (with_reducible repeat (first | apply Kd.R_alloc | apply Kd.R_drewN | apply Kd.R_drew)); exact HO_7.out⟩, ⟨by (with_reducible repeat (first | refine blk_drewN ?_ _ | refine blk_drew ?_ | refine blk_alloc ?_ _)); exact BK301.out⟩, ⟨by repeat (first | (with_reducible first | exact HB.out | apply below_alloc | apply pw_below_drewN | apply below_drew1 | refine below_set ?_ GE301.out) | exact HB.out)⟩⟩
            ·
             rw [if_neg c53] at H
             have c53b0 : (t319 == 0) = false := beq_eq_false_iff_ne.mpr c53
             have c53b1 : (t319 != 0) = true := bne_iff_ne.mpr c53
             have H' := Aside0.mk H
             clear H
             go_wp2
             go_meet
             case rel => exact ⟨_, (true), (by first | rfl | (simp; done) | (simp [*]; done)), H', ⟨by have := HJ3.out; have := HJ27.out; first | omega | exact Nat.le_refl _⟩, ⟨by (with_reducible repeat (first | apply Kd.R_alloc | apply Kd.R_drewN | apply Kd.R_drew)); exact HO_7.out⟩, ⟨by (with_reducible repeat (first | refine blk_drewN ?_ _ | refine blk_drew ?_ | refine blk_alloc ?_ _)); exact BK301.out⟩, ⟨by repeat (first | (with_reducible first | exact HB.out | apply below_alloc | apply pw_below_drewN | apply below_drew1 | refine below_set ?_ GE301.out) | exact HB.out)⟩⟩
           ·
            rw [if_neg c52] at H
            have c52b0 : (t316 == t311) = false := beq_eq_false_iff_ne.mpr c52
            have c52b1 : (t316 != t311) = true := bne_iff_ne.mpr c52
            have H' := Aside0.mk H
            clear H
            go_wp2
            go_meet
            case rel => exact ⟨_, (true), (by first | rfl | (simp; done) | (simp [*]; done)), H', ⟨by have := HJ3.out; have := HJ27.out; first | omega | exact Nat.le_refl _⟩, ⟨by (with_reducible repeat (first | apply Kd.R_alloc | apply Kd.R_drewN | apply Kd.R_drew)); exact HO_7.out⟩, ⟨by (with_reducible repeat (first | refine blk_drewN ?_ _ | refine blk_drew ?_ | refine blk_alloc ?_ _)); exact BK301.out⟩, ⟨by repeat (first | (with_reducible first | exact HB.out | apply below_alloc | apply pw_below_drewN | apply below_drew1 | refine below_set ?_ GE301.out) | exact HB.out)⟩⟩
          ·
           rw [if_neg c51] at H
           have c51b0 : (t317 == 0) = false := beq_eq_false_iff_ne.mpr c51
           have c51b1 : (t317 != 0) = true := bne_iff_ne.mpr c51
           have H' := Aside0.mk H
           clear H
           go_wp2
           go_meet
           case rel => exact ⟨_, (true), (by first | rfl | (simp; done) | (simp [*]; done)), H', ⟨by have := HJ3.out; have := HJ27.out; first | omega | exact Nat.le_refl _⟩, ⟨by (with_reducible repeat (first | apply Kd.R_alloc | apply Kd.R_drewN | apply Kd.R_drew)); exact HO_7.out⟩, ⟨by (with_reducible repeat (first | refine blk_drewN ?_ _ | refine blk_drew ?_ | refine blk_alloc ?_ _)); exact BK301.out⟩, ⟨by repeat (first | (with_reducible first | exact HB.out | apply below_alloc | apply pw_below_drewN | apply below_drew1 | refine below_set ?_ GE301.out) | exact HB.out)⟩⟩
         ·
          replace c50 := Bool.eq_false_iff.mpr c50
          subst c50
          have H1 : (tellurionlaw04_CamRivals.j2 kj27 l2 t308 t311 t318 t320 true) = some r := by rw [if_neg (show ¬ (false = true) by decide)] at H; exact H
          clear H
          have H := H1
          clear H1
          have H' := Aside0.mk H
          clear H
          go_wp2
          go_meet
          case rel => exact ⟨_, (true), (by first | rfl | (simp; done) | (simp [*]; done)), H', ⟨by have := HJ3.out; have := HJ27.out; first | omega | exact Nat.le_refl _⟩, ⟨by (with_reducible repeat (first | apply Kd.R_alloc | apply Kd.R_drewN | apply Kd.R_drew)); exact HO_7.out⟩, ⟨by (with_reducible repeat (first | refine blk_drewN ?_ _ | refine blk_drew ?_ | refine blk_alloc ?_ _)); exact BK301.out⟩, ⟨by repeat (first | (with_reducible first | exact HB.out | apply below_alloc | apply pw_below_drewN | apply below_drew1 | refine below_set ?_ GE301.out) | exact HB.out)⟩⟩
        ·
         rw [if_neg c49] at H
         have c49b0 : (t315 == 0) = false := beq_eq_false_iff_ne.mpr c49
         have c49b1 : (t315 != 0) = true := bne_iff_ne.mpr c49
         (first | rw [c49b0] | (simp only [i64_w, i32_w]; rw [c49b0]) | skip)
         have H' := Aside0.mk H
         clear H
         go_wp2
         go_meet
         case rel => exact ⟨_, (true), (by first | rfl | (simp; done) | (simp [*]; done)), H', ⟨by have := HJ3.out; have := HJ27.out; first | omega | exact Nat.le_refl _⟩, ⟨by (with_reducible repeat (first | apply Kd.R_alloc | apply Kd.R_drewN | apply Kd.R_drew)); exact HO_7.out⟩, ⟨by (with_reducible repeat (first | refine blk_drewN ?_ _ | refine blk_drew ?_ | refine blk_alloc ?_ _)); exact BK301.out⟩, ⟨by repeat (first | (with_reducible first | exact HB.out | apply below_alloc | apply pw_below_drewN | apply below_drew1 | refine below_set ?_ GE301.out) | exact HB.out)⟩⟩
       case rest =>
        clear HC41
        try clear c1
        try clear c2
        try clear p2
        try clear c3
        try clear c4
        try clear c5
        try clear c7
        try clear c9
        try clear c10
        try clear c11
        try clear c13
        try clear c15
        try clear c22
        try clear c23
        try clear c24
        try clear c31
        try clear c31b0
        try clear c31b1
        try clear c32
        try clear c32b0
        try clear c32b1
        try clear c32b2
        try clear c36
        try clear c49
        try clear c49b0
        try clear c49b1
        try clear c50
        try clear c51
        try clear c51b0
        try clear c51b1
        try clear c52
        try clear c52b0
        try clear c52b1
        try clear c53
        try clear c53b0
        try clear c53b1
        try clear hcz16_0
        try clear hcz16_1
        try clear hcz16_2
        try clear hcz16_3
        try clear hcz18_0
        try clear hcz18_1
        try clear hcz18_2
        try clear hcz18_3
        try clear hcz20_0
        try clear hcz20_1
        try clear hcz20_2
        try clear hcz20_3
        try clear hcz22_0
        try clear hcz22_1
        try clear hcz22_2
        try clear hcz22_3
        try clear hcz29_0
        try clear hcz29_1
        try clear hcz29_2
        try clear hcz29_3
        try clear hcz42_0
        try clear hcz42_1
        try clear hcz42_2
        try clear hcz42_3
        try clear hcz46_0
        try clear hcz46_1
        try clear hcz46_2
        try clear hcz46_3
        try clear hfz16_0
        try clear hfz16_1
        try clear hfz16_2
        try clear hfz16_3
        try clear hfz18_0
        try clear hfz18_1
        try clear hfz18_2
        try clear hfz18_3
        try clear hfz20_0
        try clear hfz20_1
        try clear hfz20_2
        try clear hfz20_3
        try clear hfz22_0
        try clear hfz22_1
        try clear hfz22_2
        try clear hfz22_3
        try clear hfz29_0
        try clear hfz29_1
        try clear hfz29_2
        try clear hfz29_3
        try clear hfz42_0
        try clear hfz42_1
        try clear hfz42_2
        try clear hfz42_3
        try clear hfz46_0
        try clear hfz46_1
        try clear hfz46_2
        try clear hfz46_3
        try clear p2
        obtain ⟨kq, x116_40, rfl, HA, HJ40, HO_7, BK301, HB⟩ := hcut
        cases kq with
        | zero => exact absurd HA.out (by simp [tellurionlaw04_CamRivals.j2])
        | succ kj40 =>
         have H := HA.out
         clear HA
         simp only [tellurionlaw04_CamRivals.j2] at H
         by_cases c54 : x116_40 = true
         ·
          subst c54
          have H1 : (some false) = some r := by rw [if_pos rfl] at H; exact H
          clear H
          have H := H1
          clear H1
          obtain rfl := Option.some.inj H
          go_wp2
          go_ret
          exact ⟨by first | rfl | (simp [errW_none, errW_some] <;> rfl) | (simp [*, errW_none, errW_some] <;> rfl), by repeat (first | (with_reducible first | exact HB.out | apply below_alloc | apply pw_below_drewN | apply below_drew1 | refine below_set ?_ GE301.out) | exact HB.out)⟩
         ·
          replace c54 := Bool.eq_false_iff.mpr c54
          subst c54
          have H1 : (if t318 = true then (if t320 > t311 then ((tellurionlaw04_known.f).bind fun t322 => (some t322)) else (if t320 = t311 then ((tellurionref04_Before.f kj40 l2 t308).bind fun t323 => (if t323 = true then (some false) else ((tellurionlaw04_known.f).bind fun t324 => (some t324)))) else (some false))) else ((tellurionlaw04_known.f).bind fun t325 => (some t325))) = some r := by rw [if_neg (show ¬ (false = true) by decide)] at H; exact H
          clear H
          have H := H1
          clear H1
          by_cases c55 : t318 = true
          ·
           subst c55
           have H1 : (if t320 > t311 then ((tellurionlaw04_known.f).bind fun t322 => (some t322)) else (if t320 = t311 then ((tellurionref04_Before.f kj40 l2 t308).bind fun t323 => (if t323 = true then (some false) else ((tellurionlaw04_known.f).bind fun t324 => (some t324)))) else (some false))) = some r := by rw [if_pos rfl] at H; exact H
           clear H
           have H := H1
           clear H1
           by_cases c56 : t320 > t311
           ·
            rw [if_pos c56] at H
            have c56b0 : decide (t311 < t320) = true := decide_eq_true c56
            clear c56
            replace H := Option.bind_eq_some_iff.mp H
            obtain ⟨t322, A570, H⟩ := H
            replace H : (some t322) = some r := H
            have A57 := Aside0.mk A570
            clear A570
            obtain rfl := Option.some.inj H
            go_wp2_with (first | (go_at_call 11; (with_reducible refine (tellurionlaw04_known.calls  t322 _ A57.out).mono ?_); rintro e w58 ⟨rfl, hb⟩; have n0_ := Aside0.mk (Kd.R_below (by (with_reducible repeat (first | apply Kd.R_alloc | apply Kd.R_drewN | apply Kd.R_drew)); exact HO_7.out) hb); have n1_ := Aside0.mk (blk_below (g := gb301) (o := .cells #[.int .i64 a0_0, .int .i64 a0_1, .int .i64 a0_2, .int .i64 a0_3] 39 (0, 0)) (by (with_reducible repeat (first | refine blk_drewN ?_ _ | refine blk_drew ?_ | refine blk_alloc ?_ _)); exact BK301.out) hb); have n2_ := Aside0.mk (below_step (by repeat (first | (with_reducible first | exact HB.out | apply below_alloc | apply pw_below_drewN | apply below_drew1 | refine below_set ?_ GE301.out) | exact HB.out)) hb); clear HO_7; clear BK301; clear HB; have HO_7 := n0_; have BK301 := n1_; have HB := n2_; clear n0_ n1_ n2_; (try clear hb); (try clear hb2); (try clear hk); (try clear hi)))
            go_ret
            exact ⟨by first | rfl | (simp [errW_none, errW_some] <;> rfl) | (simp [*, errW_none, errW_some] <;> rfl), by repeat (first | (with_reducible first | exact HB.out | apply below_alloc | apply pw_below_drewN | apply below_drew1 | refine below_set ?_ GE301.out) | exact HB.out)⟩
           ·
            rw [if_neg c56] at H
            have c56b0 : decide (t311 < t320) = false := decide_eq_false c56
            clear c56
            by_cases c59 : t320 = t311
            ·
             rw [if_pos c59] at H
             have c59b0 : (t320 == t311) = true := beq_iff_eq.mpr c59
             have c59b1 : (t320 != t311) = false := bne_eq_false_iff_eq.mpr c59
             clear c59
             replace H := Option.bind_eq_some_iff.mp H
             obtain ⟨t323, A600, H⟩ := H
             replace H : (if t323 = true then (some false) else ((tellurionlaw04_known.f).bind fun t324 => (some t324))) = some r := H
             have A60 := Aside0.mk A600
             clear A600
             by_cases c61 : t323 = true
             ·
              subst c61
              have H1 : (some false) = some r := by rw [if_pos rfl] at H; exact H
              clear H
              have H := H1
              clear H1
              obtain rfl := Option.some.inj H
              go_wp2_with (first | (go_at_call 25; (with_reducible refine (tellurionref04_Before.calls kj40 _ _ l2 _ _ t308 true _ ?side1 ?side2 ?side3 ?side4 A60.out).mono ?_); (case side1 => repeat (first | exact (Kd.C_below HR2.out HB.out) | (with_reducible refine Kd.C_alloc ?_ _) | (with_reducible refine Kd.C_drewN ?_ _) | (with_reducible refine Kd.C_drew ?_))); (case side2 => exact HC2.out); (case side3 => repeat (first | exact (Kd.R_reads' HO_7.out).2.2 | (with_reducible refine Kd.C_alloc ?_ _) | (with_reducible refine Kd.C_drewN ?_ _) | (with_reducible refine Kd.C_drew ?_))); (case side4 => exact (Kd.R_reads' HO_7.out).2.1); rintro e w' ⟨rfl, ⟨nd, rfl⟩⟩))
              go_ret
              exact ⟨by first | rfl | (simp [errW_none, errW_some] <;> rfl) | (simp [*, errW_none, errW_some] <;> rfl), by repeat (first | (with_reducible first | exact HB.out | apply below_alloc | apply pw_below_drewN | apply below_drew1 | refine below_set ?_ GE301.out) | exact HB.out)⟩
             ·
              replace c61 := Bool.eq_false_iff.mpr c61
              subst c61
              have H1 : ((tellurionlaw04_known.f).bind fun t324 => (some t324)) = some r := by rw [if_neg (show ¬ (false = true) by decide)] at H; exact H
              clear H
              have H := H1
              clear H1
              replace H := Option.bind_eq_some_iff.mp H
              obtain ⟨t324, A620, H⟩ := H
              replace H : (some t324) = some r := H
              have A62 := Aside0.mk A620
              clear A620
              obtain rfl := Option.some.inj H
              go_wp2_with (first | (go_at_call 25; (with_reducible refine (tellurionref04_Before.calls kj40 _ _ l2 _ _ t308 false _ ?side1 ?side2 ?side3 ?side4 A60.out).mono ?_); (case side1 => repeat (first | exact (Kd.C_below HR2.out HB.out) | (with_reducible refine Kd.C_alloc ?_ _) | (with_reducible refine Kd.C_drewN ?_ _) | (with_reducible refine Kd.C_drew ?_))); (case side2 => exact HC2.out); (case side3 => repeat (first | exact (Kd.R_reads' HO_7.out).2.2 | (with_reducible refine Kd.C_alloc ?_ _) | (with_reducible refine Kd.C_drewN ?_ _) | (with_reducible refine Kd.C_drew ?_))); (case side4 => exact (Kd.R_reads' HO_7.out).2.1); rintro e w' ⟨rfl, ⟨nd, rfl⟩⟩) | (go_at_call 11; (with_reducible refine (tellurionlaw04_known.calls  t324 _ A62.out).mono ?_); rintro e w63 ⟨rfl, hb⟩; have n0_ := Aside0.mk (Kd.R_below (by (with_reducible repeat (first | apply Kd.R_alloc | apply Kd.R_drewN | apply Kd.R_drew)); exact HO_7.out) hb); have n1_ := Aside0.mk (blk_below (g := gb301) (o := .cells #[.int .i64 a0_0, .int .i64 a0_1, .int .i64 a0_2, .int .i64 a0_3] 39 (0, 0)) (by (with_reducible repeat (first | refine blk_drewN ?_ _ | refine blk_drew ?_ | refine blk_alloc ?_ _)); exact BK301.out) hb); have n2_ := Aside0.mk (below_step (by repeat (first | (with_reducible first | exact HB.out | apply below_alloc | apply pw_below_drewN | apply below_drew1 | refine below_set ?_ GE301.out) | exact HB.out)) hb); clear HO_7; clear BK301; clear HB; have HO_7 := n0_; have BK301 := n1_; have HB := n2_; clear n0_ n1_ n2_; (try clear hb); (try clear hb2); (try clear hk); (try clear hi)))
              go_ret
              exact ⟨by first | rfl | (simp [errW_none, errW_some] <;> rfl) | (simp [*, errW_none, errW_some] <;> rfl), by repeat (first | (with_reducible first | exact HB.out | apply below_alloc | apply pw_below_drewN | apply below_drew1 | refine below_set ?_ GE301.out) | exact HB.out)⟩
            ·
             rw [if_neg c59] at H
             have c59b0 : (t320 == t311) = false := beq_eq_false_iff_ne.mpr c59
             have c59b1 : (t320 != t311) = true := bne_iff_ne.mpr c59
             obtain rfl := Option.some.inj H
             go_wp2
             go_ret
             exact ⟨by first | rfl | (simp [errW_none, errW_some] <;> rfl) | (simp [*, errW_none, errW_some] <;> rfl), by repeat (first | (with_reducible first | exact HB.out | apply below_alloc | apply pw_below_drewN | apply below_drew1 | refine below_set ?_ GE301.out) | exact HB.out)⟩
          ·
           replace c55 := Bool.eq_false_iff.mpr c55
           subst c55
           have H1 : ((tellurionlaw04_known.f).bind fun t325 => (some t325)) = some r := by rw [if_neg (show ¬ (false = true) by decide)] at H; exact H
           clear H
           have H := H1
           clear H1
           replace H := Option.bind_eq_some_iff.mp H
           obtain ⟨t325, A640, H⟩ := H
           replace H : (some t325) = some r := H
           have A64 := Aside0.mk A640
           clear A640
           obtain rfl := Option.some.inj H
           go_wp2_with (first | (go_at_call 11; (with_reducible refine (tellurionlaw04_known.calls  t325 _ A64.out).mono ?_); rintro e w65 ⟨rfl, hb⟩; have n0_ := Aside0.mk (Kd.R_below (by (with_reducible repeat (first | apply Kd.R_alloc | apply Kd.R_drewN | apply Kd.R_drew)); exact HO_7.out) hb); have n1_ := Aside0.mk (blk_below (g := gb301) (o := .cells #[.int .i64 a0_0, .int .i64 a0_1, .int .i64 a0_2, .int .i64 a0_3] 39 (0, 0)) (by (with_reducible repeat (first | refine blk_drewN ?_ _ | refine blk_drew ?_ | refine blk_alloc ?_ _)); exact BK301.out) hb); have n2_ := Aside0.mk (below_step (by repeat (first | (with_reducible first | exact HB.out | apply below_alloc | apply pw_below_drewN | apply below_drew1 | refine below_set ?_ GE301.out) | exact HB.out)) hb); clear HO_7; clear BK301; clear HB; have HO_7 := n0_; have BK301 := n1_; have HB := n2_; clear n0_ n1_ n2_; (try clear hb); (try clear hb2); (try clear hk); (try clear hi)))
           go_ret
           exact ⟨by first | rfl | (simp [errW_none, errW_some] <;> rfl) | (simp [*, errW_none, errW_some] <;> rfl), by repeat (first | (with_reducible first | exact HB.out | apply below_alloc | apply pw_below_drewN | apply below_drew1 | refine below_set ?_ GE301.out) | exact HB.out)⟩
end Go.Proofs.YtbjimmemcmjpcacGreatDoor.Print
end
section
namespace Go.Proofs.YtbjimmemcmjpcacGreatDoor.Print
open Go.RowKit YtbjimmemcmjpcacGreatDoorW.PrintWords YtbjimmemcmjpcacGreatDoorW.PrintLast YtbjimmemcmjpcacGreatDoorW.PrintMore
def befL : List Int → List Int → Bool
 | a :: x, b :: y => if a = b then befL x y else decide (a < b)
 | _, _ => false
theorem befL_le : ∀ {x y : List Int}, x.length = y.length → leL x y → befL y x = false
 | [], [], _, _ => rfl
 | [], _ :: _, h, _ => by simp at h
 | _ :: _, [], h, _ => by simp at h
 | a :: x, b :: y, h, hle => by
  simp only [leL] at hle
  unfold befL
  by_cases he : b = a
  ·
   rw [if_pos he]
   rcases hle with h1 | h1
   ·
    omega
   ·
    exact befL_le (by simpa using h) h1.2
  ·
   rw [if_neg he]
   rcases hle with h1 | h1
   ·
    exact decide_eq_false (by omega)
   ·
    exact absurd h1.1.symm he
theorem refBef_l (x y : List Int) (hxy : y.length = x.length) (hl : x.length ≤ 1000) : ∀ (q i : Nat), i + q = x.length → Ev (fun k => tellurionref04_Before.l0 k x y (i : Int)) (befL (x.drop i) (y.drop i))
 | 0, i, h => by
  obtain rfl : i = x.length := by omega
  have h1 : Ev (fun k => tellurionref04_Before.j1 k x y (x.length : Int) false) false := by
   refine Ev.step (f := fun _ => some false) (fun k => ?_) (Ev.now _)
   rw [tellurionref04_Before.j1, if_neg (by simp), hxy]; simp
  rw [List.drop_length, List.drop_eq_nil_of_le (by omega)]
  refine Ev.step (fun k => ?_) h1
  rw [tellurionref04_Before.l0, if_neg (by omega)]
 | q + 1, i, h => by
  have hi : i < x.length := by omega
  have hj : i < y.length := by omega
  have e1 : rd x (i : Int) = x[i] := by simp [rd, List.getD_eq_getElem?_getD, hi]
  have e2 : rd y (i : Int) = y[i] := by simp [rd, List.getD_eq_getElem?_getD, hj]
  rw [List.drop_eq_getElem_cons hi, List.drop_eq_getElem_cons hj, befL]
  have hin : Ev (fun k => tellurionref04_Before.j1 k x y (i : Int) true) (if x[i] = y[i] then befL (x.drop (i + 1)) (y.drop (i + 1)) else decide (x[i] < y[i])) := by
   by_cases he : x[i] = y[i]
   ·
    rw [if_pos he]
    refine Ev.step (fun k => ?_) (refBef_l x y hxy hl q (i + 1) (by omega))
    rw [tellurionref04_Before.j1, if_pos rfl, if_pos (by omega), if_pos (by omega), if_pos (by omega), e1, e2, if_pos he, w64 _ (by omega)]
    rfl
   ·
    rw [if_neg he]
    refine Ev.step (f := fun _ => some _) (fun k => ?_) (Ev.now _)
    rw [tellurionref04_Before.j1, if_pos rfl, if_pos (by omega), if_pos (by omega), if_pos (by omega), e1, e2, if_neg he]
  refine Ev.step (fun k => ?_) hin
  rw [tellurionref04_Before.l0, if_pos (by omega), decide_eq_true (by omega)]
theorem evR_before (x y : List Int) (hxy : y.length = x.length) (hl : x.length ≤ 1000) : Ev (fun k => tellurionref04_Before.f k x y) (befL x y) := by
 have := refBef_l x y hxy hl x.length 0 (by omega)
 rwa [List.drop_zero, List.drop_zero] at this
theorem rivals_eval (K : Nat) (lw hg sl ch : Int) (w o r : List Int) (n y : Int) (is : Bool) (hs0 : (w.length : Int) ≤ 27) (hs1 : (o.length : Int) ≤ 27) (c1 : ruleB lw hg sl ch = true) (hol : (o.length : Int) = (w.length : Int)) (hrl : (r.length : Int) = (w.length : Int))
  (e1 : tellurionref04_Cam.f (K + 3) w = some true) (e2 : tellurionref04_Cam.f (K + 3) o = some true) (e3 : cam_Nearest.f lw hg sl ch w = some (r, n, 0)) (e4 : tellurionref04_Cam.f (K + 2) r = some true)
  (e5 : cam_Fits.f (K + 1) lw hg sl ch r = some (true, 0)) (e6 : cam_Error.f (K + 1) r w = some (n, 0)) (e7 : cam_Fits.f (K + 1) lw hg sl ch o = some (is, 0)) (e8 : cam_Error.f (K + 1) o w = some (y, 0))
  (e9 : is = true → n ≤ y) (e10 : is = true → y = n → tellurionref04_Before.f K o r = some false) : tellurionlaw04_CamRivals.f (K + 3) lw hg sl ch w o = some true := by
 have j2 : tellurionlaw04_CamRivals.j2 (K + 1) o r n is y false = some true := by
  rw [tellurionlaw04_CamRivals.j2, if_neg (by simp)]
  cases is with
  | false => simp only [Bool.false_eq_true, if_false, tellurionlaw04_known.f, Option.bind_some]
  | true =>
   have h1 := e9 rfl
   by_cases h2 : y > n
   ·
    simp only [if_true, h2, tellurionlaw04_known.f, Option.bind_some]
   ·
    have h3 : y = n := by omega
    simp only [if_true, h2, if_false, h3, e10 rfl h3, Option.bind_some, Bool.false_eq_true, tellurionlaw04_known.f, Int.lt_irrefl, gt_iff_lt]
 have j1 : tellurionlaw04_CamRivals.j1 (K + 2) w o r n false lw hg sl ch = some true := by
  rw [tellurionlaw04_CamRivals.j1, if_neg (by simp), e5, e6, e7, e8]
  simp only [Option.bind_some, if_true, bne_self_eq_false, j2]
 unfold tellurionlaw04_CamRivals.f tellurionlaw04_short.f
 simp only [Option.bind_some, hs0, hs1, decide_true, if_true, refRule_f, c1, e1, e2]
 rw [hol, bne_self_eq_false, tellurionlaw04_CamRivals.j0, if_neg (by simp), e3]
 simp only [Option.bind_some, if_true, hrl, e4, Bool.not_true, j1]
theorem camRivals_pure (lw hg sl ch : Int) (w o : List Int) (h0 : (Lit.int .i64 lw).wf = true) (h1 : (Lit.int .i64 hg).wf = true) (h2 : (Lit.int .i64 sl).wf = true) (h3 : (Lit.int .i64 ch).wf = true) (hm : w.length ≤ maxLen) (hw : ∀ x ∈ w, (Lit.int .i64 x).wf = true)
  (hm1 : o.length ≤ maxLen) (hw1 : ∀ x ∈ o, (Lit.int .i64 x).wf = true) : ∃ k, tellurionlaw04_CamRivals.f k lw hg sl ch w o = some true := by
 clear h0 h1 h2 h3 hm hw hm1 hw1
 have ej : ∀ k, tellurionlaw04_CamRivals.j0 (k + 1) w o true lw hg sl ch = some true := fun k => by simp only [tellurionlaw04_CamRivals.j0, if_true, tellurionlaw04_known.f, Option.bind_some]
 by_cases hs0 : (w.length : Int) ≤ 27
 case neg => exact ⟨1, by unfold tellurionlaw04_CamRivals.f tellurionlaw04_short.f; simp only [Option.bind_some, hs0, decide_false, Bool.false_eq_true, if_false, ej 0]⟩
 by_cases hs1 : (o.length : Int) ≤ 27
 case neg => exact ⟨1, by unfold tellurionlaw04_CamRivals.f tellurionlaw04_short.f; simp only [Option.bind_some, hs0, hs1, decide_false, decide_true, Bool.false_eq_true, if_true, if_false, ej 0]⟩
 obtain ⟨K1, h1⟩ := evR_cam w (by omega)
 obtain ⟨K2, h2⟩ := evR_cam o (by omega)
 by_cases g : ruleB lw hg sl ch = true ∧ isCamB w = true ∧ isCamB o = true ∧ o.length = w.length
 case neg =>
  refine ⟨K1 + K2 + 1, ?_⟩
  have e1 := h1 (K1 + K2 + 1) (by omega)
  have e2 := h2 (K1 + K2 + 1) (by omega)
  simp only [] at e1 e2
  have e3 := ej (K1 + K2)
  unfold tellurionlaw04_CamRivals.f tellurionlaw04_short.f
  simp only [Option.bind_some, hs0, hs1, decide_true, if_true, e1, e2, refRule_f]
  cases c1 : ruleB lw hg sl ch with
  | false => simp only [Bool.false_eq_true, if_false, e3]
  | true =>
   cases c2 : isCamB w with
   | false => simp only [Bool.false_eq_true, if_false, if_true, e3]
   | true =>
    cases c3 : isCamB o with
    | false => simp only [Bool.false_eq_true, if_false, if_true, e3]
    | true =>
     have : ((o.length : Int) != (w.length : Int)) = true := by simp; exact fun h => g ⟨c1, c2, c3, by omega⟩
     simp only [if_true, this, e3]
 obtain ⟨c1, c2, c3, c4⟩ := g
 obtain ⟨hl, hb⟩ := cam_atM' c2
 obtain ⟨hlo, hbo⟩ := cam_atM' c3
 have hrb := rule_bd c1
 obtain ⟨l1, l2, l3⟩ := near_least lw hg sl ch w ⟨hrb.1, hrb.2.1.1, hrb.2.2⟩ (by omega) hb
 have hfirst := near_first lw hg sl ch (bsN lw hg sl ch w 31 0 30) w (by omega) (by omega)
 obtain ⟨r, hr⟩ := Option.isSome_iff_exists.1 ((near_some lw hg sl ch (bsN lw hg sl ch w 31 0 30) w (by omega) (by omega)).2 l1.1)
 rw [hr] at hfirst
 have e3 : cam_Nearest.f lw hg sl ch w = some (r, bsN lw hg sl ch w 31 0 30, 0) := by
  unfold cam_Nearest.f
  rw [if_pos ⟨c1, c2⟩, hr]; rfl
 generalize hn : bsN lw hg sl ch w 31 0 30 = n at l1 l2 l3 hfirst e3
 have hrl : r.length = w.length := hfirst.1.len
 have hfit := FitE_iff.1 hfirst.1
 have hrc : isCamB r = true := by
  simp only [isCamB, Bool.and_eq_true, List.all_eq_true, decide_eq_true_eq]
  refine ⟨by omega, fun x hx => ?_⟩
  obtain ⟨i, hi, rfl⟩ := List.mem_iff_getElem.1 hx
  have := hfit.1.span i (by omega)
  rw [show r[i] = atM r i by simp [atM, List.getD_eq_getElem?_getD, hi]]
  simp [isH]; omega
 have hrf : fitsB lw hg sl ch r = true := (fitsB_iff lw hg sl ch r).2 (by rw [hrl]; exact hfit.1)
 have herr : errC r w = n := by
  have hle : errC r w ≤ n := (errC_le r w n).2 ⟨l2, fun i hi => by rw [rdA, rdA]; have := hfit.2 i (by omega); omega⟩
  by_cases hlt : errC r w < n
  ·
   refine absurd ⟨r, FitE_iff.2 ⟨hfit.1, fun k hk => ?_⟩⟩ (l1.2 (errC r w) hlt)
   have := errC_at r w k (by omega)
   rwa [rdA, rdA] at this
  ·
   omega
 have hriv : fitsB lw hg sl ch o = true → NearFit lw hg sl ch w (errC o w) o := fun hf => by
  have hf2 := (fitsB_iff lw hg sl ch o).1 hf
  rw [c4] at hf2
  refine FitE_iff.2 ⟨hf2, fun k hk => ?_⟩
  have := errC_at o w k (by omega)
  rwa [rdA, rdA] at this
 obtain ⟨K3, h3⟩ := evR_cam r (by omega)
 obtain ⟨K4, h4⟩ := evC_fits c1 hrc
 obtain ⟨K5, h5⟩ := evC_error hrc c2 hrl.symm
 obtain ⟨K6, h6⟩ := evC_fits c1 c3
 obtain ⟨K7, h7⟩ := evC_error c3 c2 c4.symm
 obtain ⟨K8, h8⟩ := evR_before o r (by omega) (by omega)
 generalize hK : K1 + K2 + K3 + K4 + K5 + K6 + K7 + K8 = K
 have e1 := h1 (K + 3) (by omega)
 have e2 := h2 (K + 3) (by omega)
 have e4 := h3 (K + 2) (by omega)
 have e5 := h4 (K + 1) (by omega)
 have e6 := h5 (K + 1) (by omega)
 have e7 := h6 (K + 1) (by omega)
 have e8 := h7 (K + 1) (by omega)
 have e9 := h8 K (by omega)
 simp only [] at e1 e2 e4 e5 e6 e7 e8 e9
 rw [c2] at e1
 rw [c3] at e2
 rw [hrc] at e4
 rw [hrf] at e5
 rw [herr] at e6
 refine ⟨K + 3, rivals_eval K lw hg sl ch w o r n (errC o w) (fitsB lw hg sl ch o) hs0 hs1 c1 (by omega) (by omega) e1 e2 e3 e4 e5 e6 e7 e8 (fun hf => ?_) (fun hf hy => ?_)⟩
 ·
  by_cases hlt : errC o w < n
  ·
   exact absurd ⟨o, hriv hf⟩ (l1.2 _ hlt)
  ·
   omega
 ·
  have hNF := hriv hf
  rw [hy] at hNF
  rw [e9, befL_le (by omega) (hfirst.2 o hNF)]
end Go.Proofs.YtbjimmemcmjpcacGreatDoor.Print
end

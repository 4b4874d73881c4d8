/- The law's Go function answers true for every input, and leaves its arguments as they were: its parts, the plain law, the row, the card. Joined by wip/pack.py. -/
import Derived.Test.YtbjimmemcmjpcabGreatDoorB3
import Derived.Test.YtbjimmemcmjpcabGreatDoorLV1
import Derived.Test.YtbjimmemcmjpcabGreatDoorB19
import Derived.Test.YtbjimmemcmjpcabGreatDoorLV2
import Derived.Test.YtbjimmemcmjpcabGreatDoorB20
import Derived.Test.YtbjimmemcmjpcabGreatDoorLV3
set_option linter.unusedVariables false
set_option linter.unusedSimpArgs false
set_option linter.unusedSectionVars false
section
namespace Go.Proofs.YtbjimmemcmjpcabGreatDoor.Print
open Go.RowKit YtbjimmemcmjpcabGreatDoorW.PrintWords YtbjimmemcmjpcabGreatDoorW.PrintLast YtbjimmemcmjpcabGreatDoorW.PrintMore
attribute [local go_sem] max2_int min2_int max_two min_two max_three min_three max_four min_four
mutual
def tl_CamBack.j0 : Nat → Int → Int → Int → Bool → Int → List Int → Option (Bool)
 | 0, _, _, _, _, _, _ => none
 | k + 1, x1, x2, x3, x59, x389000, x389001 => if x59 = true then ((tellurionlaw04_known.f).bind fun t394 => (some t394)) else ((cam_Retreats.f k x389000 x389001 x1).bind fun bt395 => ((cam_Stations.f k x389000 x389001 0 x1).bind fun bt399 => (if bt395.2.2.2 = 0 then (if bt399.2 = 0 then (if bt395.1 < 0 then (tl_CamBack.j1 k x1 x2 x3 bt395.1 bt395.2.1 bt395.2.2.1 bt399.1 true x389000 x389001) else (if bt395.2.1 < 0 then (tl_CamBack.j1 k x1 x2 x3 bt395.1 bt395.2.1 bt395.2.2.1 bt399.1 true x389000 x389001) else (if bt395.2.2.1 < 0 then (tl_CamBack.j1 k x1 x2 x3 bt395.1 bt395.2.1 bt395.2.2.1 bt399.1 true x389000 x389001) else (if (bt399.1.length : Int) > 2001 then (tl_CamBack.j1 k x1 x2 x3 bt395.1 bt395.2.1 bt395.2.2.1 bt399.1 true x389000 x389001) else (if bt395.1 > (bt399.1.length : Int) then (tl_CamBack.j1 k x1 x2 x3 bt395.1 bt395.2.1 bt395.2.2.1 bt399.1 true x389000 x389001) else (if ((bt395.1 == 0) != (bt395.2.1 == 0)) = true then (tl_CamBack.j1 k x1 x2 x3 bt395.1 bt395.2.1 bt395.2.2.1 bt399.1 true x389000 x389001) else (tl_CamBack.j1 k x1 x2 x3 bt395.1 bt395.2.1 bt395.2.2.1 bt399.1 ((bt395.1 == 0) != (bt395.2.2.1 == 0)) x389000 x389001))))))) else (tl_CamBack.j1 k x1 x2 x3 bt395.1 bt395.2.1 bt395.2.2.1 bt399.1 true x389000 x389001)) else (tl_CamBack.j1 k x1 x2 x3 bt395.1 bt395.2.1 bt395.2.2.1 bt399.1 true x389000 x389001))))
def tl_CamBack.j1 : Nat → Int → Int → Int → Int → Int → Int → List Int → Bool → Int → List Int → Option (Bool)
 | 0, _, _, _, _, _, _, _, _, _, _ => none
 | k + 1, x1, x2, x3, x9, x10, x11, x13, x117, x389000, x389001 => if x117 = true then (some false) else (tl_CamBack.l0 k x1 x2 x3 x9 x10 x11 x13 0 x389000 x389001)
def tl_CamBack.l0 : Nat → Int → Int → Int → Int → Int → Int → List Int → Int → Int → List Int → Option (Bool)
 | 0, _, _, _, _, _, _, _, _, _, _ => none
 | k + 1, x1, x2, x3, x9, x10, x11, x13, x15, x389000, x389001 => if (wrap64 (x15 + 1)) < (x13.length : Int) then (if 0 ≤ x15 then (if x15 < (x13.length : Int) then (if x2 < (rd x13 x15) then (tl_CamBack.j3 k x1 x2 x3 x9 x10 x11 x13 x15 true x389000 x389001) else (if 0 ≤ (wrap64 (x15 + 1)) then (tl_CamBack.j3 k x1 x2 x3 x9 x10 x11 x13 x15 (decide (x3 > (rd x13 (wrap64 (x15 + 1))))) x389000 x389001) else (none))) else (none)) else (none)) else (if x1 < (wrap64 (2 * (x389001.length : Int))) then (tl_CamBack.j4 k x1 x9 (x389001.length : Int) true x389000 x389001) else ((tr_Time.f (wrap64 (x1 + (x389001.length : Int)))).bind fun t409 => (tl_CamBack.j4 k x1 x9 (x389001.length : Int) (!t409) x389000 x389001)))
def tl_CamBack.j3 : Nat → Int → Int → Int → Int → Int → Int → List Int → Int → Bool → Int → List Int → Option (Bool)
 | 0, _, _, _, _, _, _, _, _, _, _, _ => none
 | k + 1, x1, x2, x3, x9, x10, x11, x13, x15, x139, x389000, x389001 => if x139 = true then (tl_CamBack.l0 k x1 x2 x3 x9 x10 x11 x13 (wrap64 (x15 + 1)) x389000 x389001) else ((cam_Place.f x389000 x389001 x2).bind fun bt405 => ((cam_Place.f x389000 x389001 x3).bind fun bt407 => (if bt405.2 = 0 then (if bt407.2 = 0 then (if (wrap64 (bt405.1 - bt407.1)) > x11 then (some false) else (if bt405.1 > bt407.1 then (if (wrap64 (x3 - x2)) > x10 then (some false) else (tl_CamBack.l0 k x1 x2 x3 x9 x10 x11 x13 (wrap64 (x15 + 1)) x389000 x389001)) else (tl_CamBack.l0 k x1 x2 x3 x9 x10 x11 x13 (wrap64 (x15 + 1)) x389000 x389001))) else (some false)) else (some false))))
def tl_CamBack.j4 : Nat → Int → Int → Int → Bool → Int → List Int → Option (Bool)
 | 0, _, _, _, _, _, _ => none
 | k + 1, x1, x9, x20, x190, x389000, x389001 => if x190 = true then ((tellurionlaw04_known.f).bind fun t410 => (some t410)) else ((cam_Stations.f k x389000 x389001 (wrap64 ((wrap64 (x1 - x20)) + 1)) x1).bind fun bt411 => ((cam_Retreats.f k x389000 x389001 (wrap64 (x1 + x20))).bind fun bt415 => (if bt411.2 = 0 then (if bt415.2.2.2 = 0 then (if ((bt411.1.length : Int) % 2) = 0 then (if bt415.1 = (wrap64 (x9 + (wrap64 ((bt411.1.length : Int) / 2)))) then ((tellurionlaw04_known.f).bind fun t419 => (some t419)) else (some false)) else (some false)) else (some false)) else (some false))))
end
def tl_CamBack.f (k : Nat) (a0_0 : Int) (l0_1 : List Int) (a1 : Int) (a2 : Int) (a3 : Int) : Option (Bool) := (tl_slim.f a0_0 l0_1).bind fun t389 => (if t389 = true then ((tr_Motion.f k a0_0 l0_1).bind fun t390 => (if t390 = true then ((tr_Time.f a1).bind fun t391 => (if t391 = true then ((tr_Time.f a2).bind fun t392 => (if t392 = true then ((tr_Time.f a3).bind fun t393 => (if t393 = true then (if a3 < a2 then (tl_CamBack.j0 k a1 a2 a3 true a0_0 l0_1) else (tl_CamBack.j0 k a1 a2 a3 (decide (a3 > a1)) a0_0 l0_1)) else (tl_CamBack.j0 k a1 a2 a3 true a0_0 l0_1))) else (tl_CamBack.j0 k a1 a2 a3 true a0_0 l0_1))) else (tl_CamBack.j0 k a1 a2 a3 true a0_0 l0_1))) else (tl_CamBack.j0 k a1 a2 a3 true a0_0 l0_1))) else (tl_CamBack.j0 k a1 a2 a3 true a0_0 l0_1))
theorem tl_CamBack.mono_l : ∀ k, (∀ y0 y1 y2 y3 y4 y5, LeO (tl_CamBack.j0 k y0 y1 y2 y3 y4 y5) (tl_CamBack.j0 (k + 1) y0 y1 y2 y3 y4 y5)) ∧ (∀ y0 y1 y2 y3 y4 y5 y6 y7 y8 y9, LeO (tl_CamBack.j1 k y0 y1 y2 y3 y4 y5 y6 y7 y8 y9) (tl_CamBack.j1 (k + 1) y0 y1 y2 y3 y4 y5 y6 y7 y8 y9)) ∧ (∀ y0 y1 y2 y3 y4 y5 y6 y7 y8 y9, LeO (tl_CamBack.l0 k y0 y1 y2 y3 y4 y5 y6 y7 y8 y9) (tl_CamBack.l0 (k + 1) y0 y1 y2 y3 y4 y5 y6 y7 y8 y9)) ∧ (∀ y0 y1 y2 y3 y4 y5 y6 y7 y8 y9 y10, LeO (tl_CamBack.j3 k y0 y1 y2 y3 y4 y5 y6 y7 y8 y9 y10) (tl_CamBack.j3 (k + 1) y0 y1 y2 y3 y4 y5 y6 y7 y8 y9 y10)) ∧ (∀ y0 y1 y2 y3 y4 y5, LeO (tl_CamBack.j4 k y0 y1 y2 y3 y4 y5) (tl_CamBack.j4 (k + 1) y0 y1 y2 y3 y4 y5))
 | 0 => ⟨fun _ _ _ _ _ _ r h => by simp [tl_CamBack.j0] at h, fun _ _ _ _ _ _ _ _ _ _ r h => by simp [tl_CamBack.j1] at h, fun _ _ _ _ _ _ _ _ _ _ r h => by simp [tl_CamBack.l0] at h, fun _ _ _ _ _ _ _ _ _ _ _ r h => by simp [tl_CamBack.j3] at h, fun _ _ _ _ _ _ r h => by simp [tl_CamBack.j4] at h⟩
 | k + 1 => by
  obtain ⟨ih0, ih1, ih2, ih3, ih4⟩ := tl_CamBack.mono_l k
  refine ⟨?_, ?_, ?_, ?_, ?_⟩
  ·
   intro y0 y1 y2 y3 y4 y5
   unfold tl_CamBack.j0
   repeat' first
   | (with_reducible exact ih0 _ _ _ _ _ _)
   | (with_reducible exact ih1 _ _ _ _ _ _ _ _ _ _)
   | (with_reducible exact ih2 _ _ _ _ _ _ _ _ _ _)
   | (with_reducible exact ih3 _ _ _ _ _ _ _ _ _ _ _)
   | (with_reducible exact ih4 _ _ _ _ _ _)
   | (with_reducible exact cam_Retreats.mono _ _ _ _)
   | (with_reducible exact cam_Stations.mono _ _ _ _ _)
   | (with_reducible exact tr_Motion.mono _ _ _)
   | (with_reducible exact LeO.refl _)
   | (with_reducible exact LeO.none _)
   | (with_reducible refine LeO.ite ?_ ?_)
   | (with_reducible refine LeO.bind ?_ (fun _ => ?_))
   | exact ih0 _ _ _ _ _ _
   | exact ih1 _ _ _ _ _ _ _ _ _ _
   | exact ih2 _ _ _ _ _ _ _ _ _ _
   | exact ih3 _ _ _ _ _ _ _ _ _ _ _
   | exact ih4 _ _ _ _ _ _
   | exact cam_Retreats.mono _ _ _ _
   | exact cam_Stations.mono _ _ _ _ _
   | exact tr_Motion.mono _ _ _
   | exact LeO.none _
   | refine LeO.ite ?_ ?_
   | refine LeO.bind ?_ (fun _ => ?_)
  ·
   intro y0 y1 y2 y3 y4 y5 y6 y7 y8 y9
   unfold tl_CamBack.j1
   repeat' first
   | (with_reducible exact ih0 _ _ _ _ _ _)
   | (with_reducible exact ih1 _ _ _ _ _ _ _ _ _ _)
   | (with_reducible exact ih2 _ _ _ _ _ _ _ _ _ _)
   | (with_reducible exact ih3 _ _ _ _ _ _ _ _ _ _ _)
   | (with_reducible exact ih4 _ _ _ _ _ _)
   | (with_reducible exact cam_Retreats.mono _ _ _ _)
   | (with_reducible exact cam_Stations.mono _ _ _ _ _)
   | (with_reducible exact tr_Motion.mono _ _ _)
   | (with_reducible exact LeO.refl _)
   | (with_reducible exact LeO.none _)
   | (with_reducible refine LeO.ite ?_ ?_)
   | (with_reducible refine LeO.bind ?_ (fun _ => ?_))
   | exact ih0 _ _ _ _ _ _
   | exact ih1 _ _ _ _ _ _ _ _ _ _
   | exact ih2 _ _ _ _ _ _ _ _ _ _
   | exact ih3 _ _ _ _ _ _ _ _ _ _ _
   | exact ih4 _ _ _ _ _ _
   | exact cam_Retreats.mono _ _ _ _
   | exact cam_Stations.mono _ _ _ _ _
   | exact tr_Motion.mono _ _ _
   | exact LeO.none _
   | refine LeO.ite ?_ ?_
   | refine LeO.bind ?_ (fun _ => ?_)
  ·
   intro y0 y1 y2 y3 y4 y5 y6 y7 y8 y9
   unfold tl_CamBack.l0
   repeat' first
   | (with_reducible exact ih0 _ _ _ _ _ _)
   | (with_reducible exact ih1 _ _ _ _ _ _ _ _ _ _)
   | (with_reducible exact ih2 _ _ _ _ _ _ _ _ _ _)
   | (with_reducible exact ih3 _ _ _ _ _ _ _ _ _ _ _)
   | (with_reducible exact ih4 _ _ _ _ _ _)
   | (with_reducible exact cam_Retreats.mono _ _ _ _)
   | (with_reducible exact cam_Stations.mono _ _ _ _ _)
   | (with_reducible exact tr_Motion.mono _ _ _)
   | (with_reducible exact LeO.refl _)
   | (with_reducible exact LeO.none _)
   | (with_reducible refine LeO.ite ?_ ?_)
   | (with_reducible refine LeO.bind ?_ (fun _ => ?_))
   | exact ih0 _ _ _ _ _ _
   | exact ih1 _ _ _ _ _ _ _ _ _ _
   | exact ih2 _ _ _ _ _ _ _ _ _ _
   | exact ih3 _ _ _ _ _ _ _ _ _ _ _
   | exact ih4 _ _ _ _ _ _
   | exact cam_Retreats.mono _ _ _ _
   | exact cam_Stations.mono _ _ _ _ _
   | exact tr_Motion.mono _ _ _
   | exact LeO.none _
   | refine LeO.ite ?_ ?_
   | refine LeO.bind ?_ (fun _ => ?_)
  ·
   intro y0 y1 y2 y3 y4 y5 y6 y7 y8 y9 y10
   unfold tl_CamBack.j3
   repeat' first
   | (with_reducible exact ih0 _ _ _ _ _ _)
   | (with_reducible exact ih1 _ _ _ _ _ _ _ _ _ _)
   | (with_reducible exact ih2 _ _ _ _ _ _ _ _ _ _)
   | (with_reducible exact ih3 _ _ _ _ _ _ _ _ _ _ _)
   | (with_reducible exact ih4 _ _ _ _ _ _)
   | (with_reducible exact cam_Retreats.mono _ _ _ _)
   | (with_reducible exact cam_Stations.mono _ _ _ _ _)
   | (with_reducible exact tr_Motion.mono _ _ _)
   | (with_reducible exact LeO.refl _)
   | (with_reducible exact LeO.none _)
   | (with_reducible refine LeO.ite ?_ ?_)
   | (with_reducible refine LeO.bind ?_ (fun _ => ?_))
   | exact ih0 _ _ _ _ _ _
   | exact ih1 _ _ _ _ _ _ _ _ _ _
   | exact ih2 _ _ _ _ _ _ _ _ _ _
   | exact ih3 _ _ _ _ _ _ _ _ _ _ _
   | exact ih4 _ _ _ _ _ _
   | exact cam_Retreats.mono _ _ _ _
   | exact cam_Stations.mono _ _ _ _ _
   | exact tr_Motion.mono _ _ _
   | exact LeO.none _
   | refine LeO.ite ?_ ?_
   | refine LeO.bind ?_ (fun _ => ?_)
  ·
   intro y0 y1 y2 y3 y4 y5
   unfold tl_CamBack.j4
   repeat' first
   | (with_reducible exact ih0 _ _ _ _ _ _)
   | (with_reducible exact ih1 _ _ _ _ _ _ _ _ _ _)
   | (with_reducible exact ih2 _ _ _ _ _ _ _ _ _ _)
   | (with_reducible exact ih3 _ _ _ _ _ _ _ _ _ _ _)
   | (with_reducible exact ih4 _ _ _ _ _ _)
   | (with_reducible exact cam_Retreats.mono _ _ _ _)
   | (with_reducible exact cam_Stations.mono _ _ _ _ _)
   | (with_reducible exact tr_Motion.mono _ _ _)
   | (with_reducible exact LeO.refl _)
   | (with_reducible exact LeO.none _)
   | (with_reducible refine LeO.ite ?_ ?_)
   | (with_reducible refine LeO.bind ?_ (fun _ => ?_))
   | exact ih0 _ _ _ _ _ _
   | exact ih1 _ _ _ _ _ _ _ _ _ _
   | exact ih2 _ _ _ _ _ _ _ _ _ _
   | exact ih3 _ _ _ _ _ _ _ _ _ _ _
   | exact ih4 _ _ _ _ _ _
   | exact cam_Retreats.mono _ _ _ _
   | exact cam_Stations.mono _ _ _ _ _
   | exact tr_Motion.mono _ _ _
   | exact LeO.none _
   | refine LeO.ite ?_ ?_
   | refine LeO.bind ?_ (fun _ => ?_)
theorem tl_CamBack.mono : ∀ a0 a1 a2 a3 a4 k, LeO (tl_CamBack.f k a0 a1 a2 a3 a4) (tl_CamBack.f (k + 1) a0 a1 a2 a3 a4) := by
 intro a0 a1 a2 a3 a4 k
 obtain ⟨ih0, ih1, ih2, ih3, ih4⟩ := tl_CamBack.mono_l k
 unfold tl_CamBack.f
 repeat' first
   | (with_reducible exact ih0 _ _ _ _ _ _)
   | (with_reducible exact ih1 _ _ _ _ _ _ _ _ _ _)
   | (with_reducible exact ih2 _ _ _ _ _ _ _ _ _ _)
   | (with_reducible exact ih3 _ _ _ _ _ _ _ _ _ _ _)
   | (with_reducible exact ih4 _ _ _ _ _ _)
   | (with_reducible exact cam_Retreats.mono _ _ _ _)
   | (with_reducible exact cam_Stations.mono _ _ _ _ _)
   | (with_reducible exact tr_Motion.mono _ _ _)
   | (with_reducible exact LeO.refl _)
   | (with_reducible exact LeO.none _)
   | (with_reducible refine LeO.ite ?_ ?_)
   | (with_reducible refine LeO.bind ?_ (fun _ => ?_))
   | exact ih0 _ _ _ _ _ _
   | exact ih1 _ _ _ _ _ _ _ _ _ _
   | exact ih2 _ _ _ _ _ _ _ _ _ _
   | exact ih3 _ _ _ _ _ _ _ _ _ _ _
   | exact ih4 _ _ _ _ _ _
   | exact cam_Retreats.mono _ _ _ _
   | exact cam_Stations.mono _ _ _ _ _
   | exact tr_Motion.mono _ _ _
   | exact LeO.none _
   | refine LeO.ite ?_ ?_
   | refine LeO.bind ?_ (fun _ => ?_)
set_option maxHeartbeats 8000000 in
set_option maxRecDepth 100000 in
theorem tl_CamBack.calls (k : Nat) (a0_0 : Int) (A0_1 : Option Addr) (c0_1 : Nat) (l0_1 : List Int) (a1 : Int) (a2 : Int) (a3 : Int) (r : Bool) (w : World) (hr0_1 : Kd.C (Kd.int .i64) w A0_1 l0_1.length l0_1) (hc0_1 : l0_1.length ≤ c0_1) (h : tl_CamBack.f k a0_0 l0_1 a1 a2 a3 = some r) :
  Calls Tryz.prog 8 #[.agg #[.int .i64 a0_0, .slice A0_1 l0_1.length c0_1], .int .i64 a1, .int .i64 a2, .int .i64 a3] w fun e w' => e = .returned (.bool r) ∧ Below w.heap.size w w' := by
 have hu24 := Tryz.underlying24
 have HR0_1 := Aside0.mk hr0_1
 have HC0_1 := Aside0.mk hc0_1
 clear hr0_1 hc0_1
 have HB := Aside0.mk (Below.refl w.heap.size w)
 have H : ((tl_slim.f a0_0 l0_1).bind fun t389 => (if t389 = true then ((tr_Motion.f k a0_0 l0_1).bind fun t390 => (if t390 = true then ((tr_Time.f a1).bind fun t391 => (if t391 = true then ((tr_Time.f a2).bind fun t392 => (if t392 = true then ((tr_Time.f a3).bind fun t393 => (if t393 = true then (if a3 < a2 then (tl_CamBack.j0 k a1 a2 a3 true a0_0 l0_1) else (tl_CamBack.j0 k a1 a2 a3 (decide (a3 > a1)) a0_0 l0_1)) else (tl_CamBack.j0 k a1 a2 a3 true a0_0 l0_1))) else (tl_CamBack.j0 k a1 a2 a3 true a0_0 l0_1))) else (tl_CamBack.j0 k a1 a2 a3 true a0_0 l0_1))) else (tl_CamBack.j0 k a1 a2 a3 true a0_0 l0_1))) else (tl_CamBack.j0 k a1 a2 a3 true a0_0 l0_1))) = some r := h
 clear h
 have HC5 := Aside0.mk H
 clear H
 go_enter Tryz.func8, Tryz.ntmps8
 go_upto_region 1 with (first | ((with_reducible refine gate_dst (N := 4) rfl ?_); (try (refine gate_guard (by rfl) ?_; dsimp only)); refine box_event ?hg (N := 4) ?hd (cs := #[.int .i64 a0_0, .slice A0_1 l0_1.length c0_1]) (t := 24) ?hr ?_; (case hd => rfl); (case hg => rfl); (case hr => first | (go_simp; done) | (go_simp; rfl)); intro gb388 hg w6 hbox hb; have n0_ := Aside0.mk (below_step (by repeat (first | (with_reducible first | exact HB.out | apply below_alloc | apply pw_below_drewN | apply below_drew1) | exact HB.out)) hb); have n1_ := Aside0.mk (hbox); have n2_ := Aside0.mk ((by rw [hg]; exact (below_size (by repeat (first | (with_reducible first | exact HB.out | apply below_alloc | apply pw_below_drewN | apply below_drew1) | exact HB.out))) : w.heap.size ≤ gb388)); have n3_ := Aside0.mk ((by rw [hg]; exact (below_size (by repeat (first | (with_reducible first | exact HB.out | apply below_alloc | apply pw_below_drewN | apply below_drew1) | exact HB.out))) : w.heap.size ≤ gb388)); clear HB; have HB := n0_; have BK388 := n1_; have GW388 := n2_; have GE388 := n3_; clear n0_ n1_ n2_ n3_; clear hb hbox hg))
 (try simp only [Act.put, List.setIfInBounds_toArray, List.set_cons_zero, List.set_cons_succ])
 go_cut [59] (fun v59 wc => ∃ (kq : Nat) (x59_4 : Bool), v59 = .bool x59_4 ∧ Aside0 (tl_CamBack.j0 kq a1 a2 a3 x59_4 a0_0 l0_1 = some r) ∧ Aside0 (kq ≤ k) ∧ Aside0 (wc.heap[gb388]? = some (.cells #[.int .i64 a0_0, (.slice A0_1 l0_1.length c0_1)] 24 (0, 0))) ∧ Aside0 (Below w.heap.size w wc))
 case first =>
  have H := HC5.out
  clear HC5
  replace H := Option.bind_eq_some_iff.mp H
  obtain ⟨t389, A70, H⟩ := H
  replace H : (if t389 = true then ((tr_Motion.f k a0_0 l0_1).bind fun t390 => (if t390 = true then ((tr_Time.f a1).bind fun t391 => (if t391 = true then ((tr_Time.f a2).bind fun t392 => (if t392 = true then ((tr_Time.f a3).bind fun t393 => (if t393 = true then (if a3 < a2 then (tl_CamBack.j0 k a1 a2 a3 true a0_0 l0_1) else (tl_CamBack.j0 k a1 a2 a3 (decide (a3 > a1)) a0_0 l0_1)) else (tl_CamBack.j0 k a1 a2 a3 true a0_0 l0_1))) else (tl_CamBack.j0 k a1 a2 a3 true a0_0 l0_1))) else (tl_CamBack.j0 k a1 a2 a3 true a0_0 l0_1))) else (tl_CamBack.j0 k a1 a2 a3 true a0_0 l0_1))) else (tl_CamBack.j0 k a1 a2 a3 true a0_0 l0_1)) = some r := H
  have A7 := Aside0.mk A70
  clear A70
  by_cases c8 : t389 = true
  ·
   subst c8
   have H1 : ((tr_Motion.f k a0_0 l0_1).bind fun t390 => (if t390 = true then ((tr_Time.f a1).bind fun t391 => (if t391 = true then ((tr_Time.f a2).bind fun t392 => (if t392 = true then ((tr_Time.f a3).bind fun t393 => (if t393 = true then (if a3 < a2 then (tl_CamBack.j0 k a1 a2 a3 true a0_0 l0_1) else (tl_CamBack.j0 k a1 a2 a3 (decide (a3 > a1)) a0_0 l0_1)) else (tl_CamBack.j0 k a1 a2 a3 true a0_0 l0_1))) else (tl_CamBack.j0 k a1 a2 a3 true a0_0 l0_1))) else (tl_CamBack.j0 k a1 a2 a3 true a0_0 l0_1))) else (tl_CamBack.j0 k a1 a2 a3 true a0_0 l0_1))) = some r := by rw [if_pos rfl] at H; exact H
   clear H
   have H := H1
   clear H1
   replace H := Option.bind_eq_some_iff.mp H
   obtain ⟨t390, A90, H⟩ := H
   replace H : (if t390 = true then ((tr_Time.f a1).bind fun t391 => (if t391 = true then ((tr_Time.f a2).bind fun t392 => (if t392 = true then ((tr_Time.f a3).bind fun t393 => (if t393 = true then (if a3 < a2 then (tl_CamBack.j0 k a1 a2 a3 true a0_0 l0_1) else (tl_CamBack.j0 k a1 a2 a3 (decide (a3 > a1)) a0_0 l0_1)) else (tl_CamBack.j0 k a1 a2 a3 true a0_0 l0_1))) else (tl_CamBack.j0 k a1 a2 a3 true a0_0 l0_1))) else (tl_CamBack.j0 k a1 a2 a3 true a0_0 l0_1))) else (tl_CamBack.j0 k a1 a2 a3 true a0_0 l0_1)) = some r := H
   have A9 := Aside0.mk A90
   clear A90
   by_cases c10 : t390 = true
   ·
    subst c10
    have H1 : ((tr_Time.f a1).bind fun t391 => (if t391 = true then ((tr_Time.f a2).bind fun t392 => (if t392 = true then ((tr_Time.f a3).bind fun t393 => (if t393 = true then (if a3 < a2 then (tl_CamBack.j0 k a1 a2 a3 true a0_0 l0_1) else (tl_CamBack.j0 k a1 a2 a3 (decide (a3 > a1)) a0_0 l0_1)) else (tl_CamBack.j0 k a1 a2 a3 true a0_0 l0_1))) else (tl_CamBack.j0 k a1 a2 a3 true a0_0 l0_1))) else (tl_CamBack.j0 k a1 a2 a3 true a0_0 l0_1))) = some r := by rw [if_pos rfl] at H; exact H
    clear H
    have H := H1
    clear H1
    replace H := Option.bind_eq_some_iff.mp H
    obtain ⟨t391, A110, H⟩ := H
    replace H : (if t391 = true then ((tr_Time.f a2).bind fun t392 => (if t392 = true then ((tr_Time.f a3).bind fun t393 => (if t393 = true then (if a3 < a2 then (tl_CamBack.j0 k a1 a2 a3 true a0_0 l0_1) else (tl_CamBack.j0 k a1 a2 a3 (decide (a3 > a1)) a0_0 l0_1)) else (tl_CamBack.j0 k a1 a2 a3 true a0_0 l0_1))) else (tl_CamBack.j0 k a1 a2 a3 true a0_0 l0_1))) else (tl_CamBack.j0 k a1 a2 a3 true a0_0 l0_1)) = some r := H
    have A11 := Aside0.mk A110
    clear A110
    by_cases c12 : t391 = true
    ·
     subst c12
     have H1 : ((tr_Time.f a2).bind fun t392 => (if t392 = true then ((tr_Time.f a3).bind fun t393 => (if t393 = true then (if a3 < a2 then (tl_CamBack.j0 k a1 a2 a3 true a0_0 l0_1) else (tl_CamBack.j0 k a1 a2 a3 (decide (a3 > a1)) a0_0 l0_1)) else (tl_CamBack.j0 k a1 a2 a3 true a0_0 l0_1))) else (tl_CamBack.j0 k a1 a2 a3 true a0_0 l0_1))) = some r := by rw [if_pos rfl] at H; exact H
     clear H
     have H := H1
     clear H1
     replace H := Option.bind_eq_some_iff.mp H
     obtain ⟨t392, A130, H⟩ := H
     replace H : (if t392 = true then ((tr_Time.f a3).bind fun t393 => (if t393 = true then (if a3 < a2 then (tl_CamBack.j0 k a1 a2 a3 true a0_0 l0_1) else (tl_CamBack.j0 k a1 a2 a3 (decide (a3 > a1)) a0_0 l0_1)) else (tl_CamBack.j0 k a1 a2 a3 true a0_0 l0_1))) else (tl_CamBack.j0 k a1 a2 a3 true a0_0 l0_1)) = some r := H
     have A13 := Aside0.mk A130
     clear A130
     by_cases c14 : t392 = true
     ·
      subst c14
      have H1 : ((tr_Time.f a3).bind fun t393 => (if t393 = true then (if a3 < a2 then (tl_CamBack.j0 k a1 a2 a3 true a0_0 l0_1) else (tl_CamBack.j0 k a1 a2 a3 (decide (a3 > a1)) a0_0 l0_1)) else (tl_CamBack.j0 k a1 a2 a3 true a0_0 l0_1))) = some r := by rw [if_pos rfl] at H; exact H
      clear H
      have H := H1
      clear H1
      replace H := Option.bind_eq_some_iff.mp H
      obtain ⟨t393, A150, H⟩ := H
      replace H : (if t393 = true then (if a3 < a2 then (tl_CamBack.j0 k a1 a2 a3 true a0_0 l0_1) else (tl_CamBack.j0 k a1 a2 a3 (decide (a3 > a1)) a0_0 l0_1)) else (tl_CamBack.j0 k a1 a2 a3 true a0_0 l0_1)) = some r := H
      have A15 := Aside0.mk A150
      clear A150
      by_cases c16 : t393 = true
      ·
       subst c16
       have H1 : (if a3 < a2 then (tl_CamBack.j0 k a1 a2 a3 true a0_0 l0_1) else (tl_CamBack.j0 k a1 a2 a3 (decide (a3 > a1)) a0_0 l0_1)) = some r := by rw [if_pos rfl] at H; exact H
       clear H
       have H := H1
       clear H1
       by_cases c17 : a3 < a2
       ·
        rw [if_pos c17] at H
        have c17b0 : decide (a3 < a2) = true := decide_eq_true c17
        clear c17
        (first | rw [c17b0] | (simp only [i64_w, i32_w]; rw [c17b0]) | skip)
        as_aux_lemma =>
         have H' := Aside0.mk H
         clear H
         have hcz18_0 : w6.cell? ⟨gb388, 0, none⟩ = some (.int .i64 a0_0) := (blk_cell BK388.out 0).trans rfl
         have hcz18_1 : w6.cell? ⟨gb388, 1, none⟩ = some (.slice A0_1 l0_1.length c0_1) := (blk_cell BK388.out 1).trans rfl
         have hfz18_0 := blk_frozen BK388.out 0
         have hfz18_1 := blk_frozen BK388.out 1
         go_wp2_with (first | ((with_reducible refine gate_callee (f := 10) rfl ?_); refine goesL_ (some 28) rfl rfl Tryz.func10 (by kernel_rfl) rfl #[.agg #[.int .i64 a0_0, .slice A0_1 l0_1.length c0_1]] rfl (by (try simp only [List.map_toArray, List.map_cons, List.map_nil]); first | done | rfl | (simp only [List.length_drop, List.length_take]; rfl)) ?_; (with_reducible refine (tl_slim.calls a0_0 _ _ l0_1 true _ ?side1 ?side2 A7.out).mono ?_); (case side1 => repeat (first | exact (Kd.C_below HR0_1.out HB.out) | (with_reducible refine Kd.C_alloc ?_ _) | (with_reducible refine Kd.C_drewN ?_ _) | (with_reducible refine Kd.C_drew ?_))); (case side2 => exact HC0_1.out); rintro e w19 ⟨rfl, hb⟩; refine ⟨_, rfl, ?_⟩; have n0_ := Aside0.mk (blk_below (g := gb388) (o := .cells #[.int .i64 a0_0, .slice A0_1 l0_1.length c0_1] 24 (0, 0)) (by (with_reducible repeat (first | refine blk_drewN ?_ _ | refine blk_drew ?_ | refine blk_alloc ?_ _)); exact BK388.out) hb); have n1_ := Aside0.mk (below_step (by repeat (first | (with_reducible first | exact HB.out | apply below_alloc | apply pw_below_drewN | apply below_drew1 | refine below_set ?_ GE388.out) | exact HB.out)) hb); clear BK388; clear HB; have BK388 := n0_; have HB := n1_; clear n0_ n1_; (try clear hb); (try clear hb2); (try clear hk); (try clear hi); have hcz20_0 : w19.cell? ⟨gb388, 0, none⟩ = some (.int .i64 a0_0) := (blk_cell BK388.out 0).trans rfl; have hcz20_1 : w19.cell? ⟨gb388, 1, none⟩ = some (.slice A0_1 l0_1.length c0_1) := (blk_cell BK388.out 1).trans rfl; have hfz20_0 := blk_frozen BK388.out 0; have hfz20_1 := blk_frozen BK388.out 1) | (go_at_call 13; (with_reducible refine (tr_Motion.calls k a0_0 _ _ l0_1 true _ ?side1 ?side2 A9.out).mono ?_); (case side1 => repeat (first | exact (Kd.C_below HR0_1.out HB.out) | (with_reducible refine Kd.C_alloc ?_ _) | (with_reducible refine Kd.C_drewN ?_ _) | (with_reducible refine Kd.C_drew ?_))); (case side2 => exact HC0_1.out); rintro e w21 ⟨rfl, hb⟩; have n0_ := Aside0.mk (blk_below (g := gb388) (o := .cells #[.int .i64 a0_0, .slice A0_1 l0_1.length c0_1] 24 (0, 0)) (by (with_reducible repeat (first | refine blk_drewN ?_ _ | refine blk_drew ?_ | refine blk_alloc ?_ _)); exact BK388.out) hb); have n1_ := Aside0.mk (below_step (by repeat (first | (with_reducible first | exact HB.out | apply below_alloc | apply pw_below_drewN | apply below_drew1 | refine below_set ?_ GE388.out) | exact HB.out)) hb); clear BK388; clear HB; have BK388 := n0_; have HB := n1_; clear n0_ n1_; (try clear hb); (try clear hb2); (try clear hk); (try clear hi)) | (go_at_call 14; (with_reducible refine (tr_Time.calls a1 true _ A11.out).mono ?_); rintro e w' ⟨rfl, ⟨nd, rfl⟩⟩) | (go_at_call 14; (with_reducible refine (tr_Time.calls a2 true _ A13.out).mono ?_); rintro e w' ⟨rfl, ⟨nd, rfl⟩⟩) | (go_at_call 14; (with_reducible refine (tr_Time.calls a3 true _ A15.out).mono ?_); rintro e w' ⟨rfl, ⟨nd, rfl⟩⟩))
         go_meet
         case rel => exact ⟨_, (true), (by first | rfl | (simp; done) | (simp [*]; done)), H', ⟨by first | omega | exact Nat.le_refl _⟩, ⟨by (with_reducible repeat (first | refine blk_drewN ?_ _ | refine blk_drew ?_ | refine blk_alloc ?_ _)); exact BK388.out⟩, ⟨by repeat (first | (with_reducible first | exact HB.out | apply below_alloc | apply pw_below_drewN | apply below_drew1 | refine below_set ?_ GE388.out) | exact HB.out)⟩⟩
       ·
        rw [if_neg c17] at H
        have c17b0 : decide (a3 < a2) = false := decide_eq_false c17
        clear c17
        (first | rw [c17b0] | (simp only [i64_w, i32_w]; rw [c17b0]) | skip)
        as_aux_lemma =>
         have H' := Aside0.mk H
         clear H
         have hcz22_0 : w6.cell? ⟨gb388, 0, none⟩ = some (.int .i64 a0_0) := (blk_cell BK388.out 0).trans rfl
         have hcz22_1 : w6.cell? ⟨gb388, 1, none⟩ = some (.slice A0_1 l0_1.length c0_1) := (blk_cell BK388.out 1).trans rfl
         have hfz22_0 := blk_frozen BK388.out 0
         have hfz22_1 := blk_frozen BK388.out 1
         go_wp2_with (first | ((with_reducible refine gate_callee (f := 10) rfl ?_); refine goesL_ (some 28) rfl rfl Tryz.func10 (by kernel_rfl) rfl #[.agg #[.int .i64 a0_0, .slice A0_1 l0_1.length c0_1]] rfl (by (try simp only [List.map_toArray, List.map_cons, List.map_nil]); first | done | rfl | (simp only [List.length_drop, List.length_take]; rfl)) ?_; (with_reducible refine (tl_slim.calls a0_0 _ _ l0_1 true _ ?side1 ?side2 A7.out).mono ?_); (case side1 => repeat (first | exact (Kd.C_below HR0_1.out HB.out) | (with_reducible refine Kd.C_alloc ?_ _) | (with_reducible refine Kd.C_drewN ?_ _) | (with_reducible refine Kd.C_drew ?_))); (case side2 => exact HC0_1.out); rintro e w23 ⟨rfl, hb⟩; refine ⟨_, rfl, ?_⟩; have n0_ := Aside0.mk (blk_below (g := gb388) (o := .cells #[.int .i64 a0_0, .slice A0_1 l0_1.length c0_1] 24 (0, 0)) (by (with_reducible repeat (first | refine blk_drewN ?_ _ | refine blk_drew ?_ | refine blk_alloc ?_ _)); exact BK388.out) hb); have n1_ := Aside0.mk (below_step (by repeat (first | (with_reducible first | exact HB.out | apply below_alloc | apply pw_below_drewN | apply below_drew1 | refine below_set ?_ GE388.out) | exact HB.out)) hb); clear BK388; clear HB; have BK388 := n0_; have HB := n1_; clear n0_ n1_; (try clear hb); (try clear hb2); (try clear hk); (try clear hi); have hcz24_0 : w23.cell? ⟨gb388, 0, none⟩ = some (.int .i64 a0_0) := (blk_cell BK388.out 0).trans rfl; have hcz24_1 : w23.cell? ⟨gb388, 1, none⟩ = some (.slice A0_1 l0_1.length c0_1) := (blk_cell BK388.out 1).trans rfl; have hfz24_0 := blk_frozen BK388.out 0; have hfz24_1 := blk_frozen BK388.out 1) | (go_at_call 13; (with_reducible refine (tr_Motion.calls k a0_0 _ _ l0_1 true _ ?side1 ?side2 A9.out).mono ?_); (case side1 => repeat (first | exact (Kd.C_below HR0_1.out HB.out) | (with_reducible refine Kd.C_alloc ?_ _) | (with_reducible refine Kd.C_drewN ?_ _) | (with_reducible refine Kd.C_drew ?_))); (case side2 => exact HC0_1.out); rintro e w25 ⟨rfl, hb⟩; have n0_ := Aside0.mk (blk_below (g := gb388) (o := .cells #[.int .i64 a0_0, .slice A0_1 l0_1.length c0_1] 24 (0, 0)) (by (with_reducible repeat (first | refine blk_drewN ?_ _ | refine blk_drew ?_ | refine blk_alloc ?_ _)); exact BK388.out) hb); have n1_ := Aside0.mk (below_step (by repeat (first | (with_reducible first | exact HB.out | apply below_alloc | apply pw_below_drewN | apply below_drew1 | refine below_set ?_ GE388.out) | exact HB.out)) hb); clear BK388; clear HB; have BK388 := n0_; have HB := n1_; clear n0_ n1_; (try clear hb); (try clear hb2); (try clear hk); (try clear hi)) | (go_at_call 14; (with_reducible refine (tr_Time.calls a1 true _ A11.out).mono ?_); rintro e w' ⟨rfl, ⟨nd, rfl⟩⟩) | (go_at_call 14; (with_reducible refine (tr_Time.calls a2 true _ A13.out).mono ?_); rintro e w' ⟨rfl, ⟨nd, rfl⟩⟩) | (go_at_call 14; (with_reducible refine (tr_Time.calls a3 true _ A15.out).mono ?_); rintro e w' ⟨rfl, ⟨nd, rfl⟩⟩))
         go_meet
         case rel => exact ⟨_, (decide (a3 > a1)), (by first | rfl | (simp; done) | (simp [*]; done)), H', ⟨by first | omega | exact Nat.le_refl _⟩, ⟨by (with_reducible repeat (first | refine blk_drewN ?_ _ | refine blk_drew ?_ | refine blk_alloc ?_ _)); exact BK388.out⟩, ⟨by repeat (first | (with_reducible first | exact HB.out | apply below_alloc | apply pw_below_drewN | apply below_drew1 | refine below_set ?_ GE388.out) | exact HB.out)⟩⟩
      ·
       replace c16 := Bool.eq_false_iff.mpr c16
       subst c16
       have H1 : (tl_CamBack.j0 k a1 a2 a3 true a0_0 l0_1) = some r := by rw [if_neg (show ¬ (false = true) by decide)] at H; exact H
       clear H
       have H := H1
       clear H1
       as_aux_lemma =>
        have H' := Aside0.mk H
        clear H
        have hcz26_0 : w6.cell? ⟨gb388, 0, none⟩ = some (.int .i64 a0_0) := (blk_cell BK388.out 0).trans rfl
        have hcz26_1 : w6.cell? ⟨gb388, 1, none⟩ = some (.slice A0_1 l0_1.length c0_1) := (blk_cell BK388.out 1).trans rfl
        have hfz26_0 := blk_frozen BK388.out 0
        have hfz26_1 := blk_frozen BK388.out 1
        go_wp2_with (first | ((with_reducible refine gate_callee (f := 10) rfl ?_); refine goesL_ (some 28) rfl rfl Tryz.func10 (by kernel_rfl) rfl #[.agg #[.int .i64 a0_0, .slice A0_1 l0_1.length c0_1]] rfl (by (try simp only [List.map_toArray, List.map_cons, List.map_nil]); first | done | rfl | (simp only [List.length_drop, List.length_take]; rfl)) ?_; (with_reducible refine (tl_slim.calls a0_0 _ _ l0_1 true _ ?side1 ?side2 A7.out).mono ?_); (case side1 => repeat (first | exact (Kd.C_below HR0_1.out HB.out) | (with_reducible refine Kd.C_alloc ?_ _) | (with_reducible refine Kd.C_drewN ?_ _) | (with_reducible refine Kd.C_drew ?_))); (case side2 => exact HC0_1.out); rintro e w27 ⟨rfl, hb⟩; refine ⟨_, rfl, ?_⟩; have n0_ := Aside0.mk (blk_below (g := gb388) (o := .cells #[.int .i64 a0_0, .slice A0_1 l0_1.length c0_1] 24 (0, 0)) (by (with_reducible repeat (first | refine blk_drewN ?_ _ | refine blk_drew ?_ | refine blk_alloc ?_ _)); exact BK388.out) hb); have n1_ := Aside0.mk (below_step (by repeat (first | (with_reducible first | exact HB.out | apply below_alloc | apply pw_below_drewN | apply below_drew1 | refine below_set ?_ GE388.out) | exact HB.out)) hb); clear BK388; clear HB; have BK388 := n0_; have HB := n1_; clear n0_ n1_; (try clear hb); (try clear hb2); (try clear hk); (try clear hi); have hcz28_0 : w27.cell? ⟨gb388, 0, none⟩ = some (.int .i64 a0_0) := (blk_cell BK388.out 0).trans rfl; have hcz28_1 : w27.cell? ⟨gb388, 1, none⟩ = some (.slice A0_1 l0_1.length c0_1) := (blk_cell BK388.out 1).trans rfl; have hfz28_0 := blk_frozen BK388.out 0; have hfz28_1 := blk_frozen BK388.out 1) | (go_at_call 13; (with_reducible refine (tr_Motion.calls k a0_0 _ _ l0_1 true _ ?side1 ?side2 A9.out).mono ?_); (case side1 => repeat (first | exact (Kd.C_below HR0_1.out HB.out) | (with_reducible refine Kd.C_alloc ?_ _) | (with_reducible refine Kd.C_drewN ?_ _) | (with_reducible refine Kd.C_drew ?_))); (case side2 => exact HC0_1.out); rintro e w29 ⟨rfl, hb⟩; have n0_ := Aside0.mk (blk_below (g := gb388) (o := .cells #[.int .i64 a0_0, .slice A0_1 l0_1.length c0_1] 24 (0, 0)) (by (with_reducible repeat (first | refine blk_drewN ?_ _ | refine blk_drew ?_ | refine blk_alloc ?_ _)); exact BK388.out) hb); have n1_ := Aside0.mk (below_step (by repeat (first | (with_reducible first | exact HB.out | apply below_alloc | apply pw_below_drewN | apply below_drew1 | refine below_set ?_ GE388.out) | exact HB.out)) hb); clear BK388; clear HB; have BK388 := n0_; have HB := n1_; clear n0_ n1_; (try clear hb); (try clear hb2); (try clear hk); (try clear hi)) | (go_at_call 14; (with_reducible refine (tr_Time.calls a1 true _ A11.out).mono ?_); rintro e w' ⟨rfl, ⟨nd, rfl⟩⟩) | (go_at_call 14; (with_reducible refine (tr_Time.calls a2 true _ A13.out).mono ?_); rintro e w' ⟨rfl, ⟨nd, rfl⟩⟩) | (go_at_call 14; (with_reducible refine (tr_Time.calls a3 false _ A15.out).mono ?_); rintro e w' ⟨rfl, ⟨nd, rfl⟩⟩))
        go_meet
        case rel => exact ⟨_, (true), (by first | rfl | (simp; done) | (simp [*]; done)), H', ⟨by first | omega | exact Nat.le_refl _⟩, ⟨by (with_reducible repeat (first | refine blk_drewN ?_ _ | refine blk_drew ?_ | refine blk_alloc ?_ _)); exact BK388.out⟩, ⟨by repeat (first | (with_reducible first | exact HB.out | apply below_alloc | apply pw_below_drewN | apply below_drew1 | refine below_set ?_ GE388.out) | exact HB.out)⟩⟩
     ·
      replace c14 := Bool.eq_false_iff.mpr c14
      subst c14
      have H1 : (tl_CamBack.j0 k a1 a2 a3 true a0_0 l0_1) = some r := by rw [if_neg (show ¬ (false = true) by decide)] at H; exact H
      clear H
      have H := H1
      clear H1
      as_aux_lemma =>
       have H' := Aside0.mk H
       clear H
       have hcz30_0 : w6.cell? ⟨gb388, 0, none⟩ = some (.int .i64 a0_0) := (blk_cell BK388.out 0).trans rfl
       have hcz30_1 : w6.cell? ⟨gb388, 1, none⟩ = some (.slice A0_1 l0_1.length c0_1) := (blk_cell BK388.out 1).trans rfl
       have hfz30_0 := blk_frozen BK388.out 0
       have hfz30_1 := blk_frozen BK388.out 1
       go_wp2_with (first | ((with_reducible refine gate_callee (f := 10) rfl ?_); refine goesL_ (some 28) rfl rfl Tryz.func10 (by kernel_rfl) rfl #[.agg #[.int .i64 a0_0, .slice A0_1 l0_1.length c0_1]] rfl (by (try simp only [List.map_toArray, List.map_cons, List.map_nil]); first | done | rfl | (simp only [List.length_drop, List.length_take]; rfl)) ?_; (with_reducible refine (tl_slim.calls a0_0 _ _ l0_1 true _ ?side1 ?side2 A7.out).mono ?_); (case side1 => repeat (first | exact (Kd.C_below HR0_1.out HB.out) | (with_reducible refine Kd.C_alloc ?_ _) | (with_reducible refine Kd.C_drewN ?_ _) | (with_reducible refine Kd.C_drew ?_))); (case side2 => exact HC0_1.out); rintro e w31 ⟨rfl, hb⟩; refine ⟨_, rfl, ?_⟩; have n0_ := Aside0.mk (blk_below (g := gb388) (o := .cells #[.int .i64 a0_0, .slice A0_1 l0_1.length c0_1] 24 (0, 0)) (by (with_reducible repeat (first | refine blk_drewN ?_ _ | refine blk_drew ?_ | refine blk_alloc ?_ _)); exact BK388.out) hb); have n1_ := Aside0.mk (below_step (by repeat (first | (with_reducible first | exact HB.out | apply below_alloc | apply pw_below_drewN | apply below_drew1 | refine below_set ?_ GE388.out) | exact HB.out)) hb); clear BK388; clear HB; have BK388 := n0_; have HB := n1_; clear n0_ n1_; (try clear hb); (try clear hb2); (try clear hk); (try clear hi); have hcz32_0 : w31.cell? ⟨gb388, 0, none⟩ = some (.int .i64 a0_0) := (blk_cell BK388.out 0).trans rfl; have hcz32_1 : w31.cell? ⟨gb388, 1, none⟩ = some (.slice A0_1 l0_1.length c0_1) := (blk_cell BK388.out 1).trans rfl; have hfz32_0 := blk_frozen BK388.out 0; have hfz32_1 := blk_frozen BK388.out 1) | (go_at_call 13; (with_reducible refine (tr_Motion.calls k a0_0 _ _ l0_1 true _ ?side1 ?side2 A9.out).mono ?_); (case side1 => repeat (first | exact (Kd.C_below HR0_1.out HB.out) | (with_reducible refine Kd.C_alloc ?_ _) | (with_reducible refine Kd.C_drewN ?_ _) | (with_reducible refine Kd.C_drew ?_))); (case side2 => exact HC0_1.out); rintro e w33 ⟨rfl, hb⟩; have n0_ := Aside0.mk (blk_below (g := gb388) (o := .cells #[.int .i64 a0_0, .slice A0_1 l0_1.length c0_1] 24 (0, 0)) (by (with_reducible repeat (first | refine blk_drewN ?_ _ | refine blk_drew ?_ | refine blk_alloc ?_ _)); exact BK388.out) hb); have n1_ := Aside0.mk (below_step (by repeat (first | (with_reducible first | exact HB.out | apply below_alloc | apply pw_below_drewN | apply below_drew1 | refine below_set ?_ GE388.out) | exact HB.out)) hb); clear BK388; clear HB; have BK388 := n0_; have HB := n1_; clear n0_ n1_; (try clear hb); (try clear hb2); (try clear hk); (try clear hi)) | (go_at_call 14; (with_reducible refine (tr_Time.calls a1 true _ A11.out).mono ?_); rintro e w' ⟨rfl, ⟨nd, rfl⟩⟩) | (go_at_call 14; (with_reducible refine (tr_Time.calls a2 false _ A13.out).mono ?_); rintro e w' ⟨rfl, ⟨nd, rfl⟩⟩))
       go_meet
       case rel => exact ⟨_, (true), (by first | rfl | (simp; done) | (simp [*]; done)), H', ⟨by first | omega | exact Nat.le_refl _⟩, ⟨by (with_reducible repeat (first | refine blk_drewN ?_ _ | refine blk_drew ?_ | refine blk_alloc ?_ _)); exact BK388.out⟩, ⟨by repeat (first | (with_reducible first | exact HB.out | apply below_alloc | apply pw_below_drewN | apply below_drew1 | refine below_set ?_ GE388.out) | exact HB.out)⟩⟩
    ·
     replace c12 := Bool.eq_false_iff.mpr c12
     subst c12
     have H1 : (tl_CamBack.j0 k a1 a2 a3 true a0_0 l0_1) = some r := by rw [if_neg (show ¬ (false = true) by decide)] at H; exact H
     clear H
     have H := H1
     clear H1
     as_aux_lemma =>
      have H' := Aside0.mk H
      clear H
      have hcz34_0 : w6.cell? ⟨gb388, 0, none⟩ = some (.int .i64 a0_0) := (blk_cell BK388.out 0).trans rfl
      have hcz34_1 : w6.cell? ⟨gb388, 1, none⟩ = some (.slice A0_1 l0_1.length c0_1) := (blk_cell BK388.out 1).trans rfl
      have hfz34_0 := blk_frozen BK388.out 0
      have hfz34_1 := blk_frozen BK388.out 1
      go_wp2_with (first | ((with_reducible refine gate_callee (f := 10) rfl ?_); refine goesL_ (some 28) rfl rfl Tryz.func10 (by kernel_rfl) rfl #[.agg #[.int .i64 a0_0, .slice A0_1 l0_1.length c0_1]] rfl (by (try simp only [List.map_toArray, List.map_cons, List.map_nil]); first | done | rfl | (simp only [List.length_drop, List.length_take]; rfl)) ?_; (with_reducible refine (tl_slim.calls a0_0 _ _ l0_1 true _ ?side1 ?side2 A7.out).mono ?_); (case side1 => repeat (first | exact (Kd.C_below HR0_1.out HB.out) | (with_reducible refine Kd.C_alloc ?_ _) | (with_reducible refine Kd.C_drewN ?_ _) | (with_reducible refine Kd.C_drew ?_))); (case side2 => exact HC0_1.out); rintro e w35 ⟨rfl, hb⟩; refine ⟨_, rfl, ?_⟩; have n0_ := Aside0.mk (blk_below (g := gb388) (o := .cells #[.int .i64 a0_0, .slice A0_1 l0_1.length c0_1] 24 (0, 0)) (by (with_reducible repeat (first | refine blk_drewN ?_ _ | refine blk_drew ?_ | refine blk_alloc ?_ _)); exact BK388.out) hb); have n1_ := Aside0.mk (below_step (by repeat (first | (with_reducible first | exact HB.out | apply below_alloc | apply pw_below_drewN | apply below_drew1 | refine below_set ?_ GE388.out) | exact HB.out)) hb); clear BK388; clear HB; have BK388 := n0_; have HB := n1_; clear n0_ n1_; (try clear hb); (try clear hb2); (try clear hk); (try clear hi); have hcz36_0 : w35.cell? ⟨gb388, 0, none⟩ = some (.int .i64 a0_0) := (blk_cell BK388.out 0).trans rfl; have hcz36_1 : w35.cell? ⟨gb388, 1, none⟩ = some (.slice A0_1 l0_1.length c0_1) := (blk_cell BK388.out 1).trans rfl; have hfz36_0 := blk_frozen BK388.out 0; have hfz36_1 := blk_frozen BK388.out 1) | (go_at_call 13; (with_reducible refine (tr_Motion.calls k a0_0 _ _ l0_1 true _ ?side1 ?side2 A9.out).mono ?_); (case side1 => repeat (first | exact (Kd.C_below HR0_1.out HB.out) | (with_reducible refine Kd.C_alloc ?_ _) | (with_reducible refine Kd.C_drewN ?_ _) | (with_reducible refine Kd.C_drew ?_))); (case side2 => exact HC0_1.out); rintro e w37 ⟨rfl, hb⟩; have n0_ := Aside0.mk (blk_below (g := gb388) (o := .cells #[.int .i64 a0_0, .slice A0_1 l0_1.length c0_1] 24 (0, 0)) (by (with_reducible repeat (first | refine blk_drewN ?_ _ | refine blk_drew ?_ | refine blk_alloc ?_ _)); exact BK388.out) hb); have n1_ := Aside0.mk (below_step (by repeat (first | (with_reducible first | exact HB.out | apply below_alloc | apply pw_below_drewN | apply below_drew1 | refine below_set ?_ GE388.out) | exact HB.out)) hb); clear BK388; clear HB; have BK388 := n0_; have HB := n1_; clear n0_ n1_; (try clear hb); (try clear hb2); (try clear hk); (try clear hi)) | (go_at_call 14; (with_reducible refine (tr_Time.calls a1 false _ A11.out).mono ?_); rintro e w' ⟨rfl, ⟨nd, rfl⟩⟩))
      go_meet
      case rel => exact ⟨_, (true), (by first | rfl | (simp; done) | (simp [*]; done)), H', ⟨by first | omega | exact Nat.le_refl _⟩, ⟨by (with_reducible repeat (first | refine blk_drewN ?_ _ | refine blk_drew ?_ | refine blk_alloc ?_ _)); exact BK388.out⟩, ⟨by repeat (first | (with_reducible first | exact HB.out | apply below_alloc | apply pw_below_drewN | apply below_drew1 | refine below_set ?_ GE388.out) | exact HB.out)⟩⟩
   ·
    replace c10 := Bool.eq_false_iff.mpr c10
    subst c10
    have H1 : (tl_CamBack.j0 k a1 a2 a3 true a0_0 l0_1) = some r := by rw [if_neg (show ¬ (false = true) by decide)] at H; exact H
    clear H
    have H := H1
    clear H1
    as_aux_lemma =>
     have H' := Aside0.mk H
     clear H
     have hcz38_0 : w6.cell? ⟨gb388, 0, none⟩ = some (.int .i64 a0_0) := (blk_cell BK388.out 0).trans rfl
     have hcz38_1 : w6.cell? ⟨gb388, 1, none⟩ = some (.slice A0_1 l0_1.length c0_1) := (blk_cell BK388.out 1).trans rfl
     have hfz38_0 := blk_frozen BK388.out 0
     have hfz38_1 := blk_frozen BK388.out 1
     go_wp2_with (first | ((with_reducible refine gate_callee (f := 10) rfl ?_); refine goesL_ (some 28) rfl rfl Tryz.func10 (by kernel_rfl) rfl #[.agg #[.int .i64 a0_0, .slice A0_1 l0_1.length c0_1]] rfl (by (try simp only [List.map_toArray, List.map_cons, List.map_nil]); first | done | rfl | (simp only [List.length_drop, List.length_take]; rfl)) ?_; (with_reducible refine (tl_slim.calls a0_0 _ _ l0_1 true _ ?side1 ?side2 A7.out).mono ?_); (case side1 => repeat (first | exact (Kd.C_below HR0_1.out HB.out) | (with_reducible refine Kd.C_alloc ?_ _) | (with_reducible refine Kd.C_drewN ?_ _) | (with_reducible refine Kd.C_drew ?_))); (case side2 => exact HC0_1.out); rintro e w39 ⟨rfl, hb⟩; refine ⟨_, rfl, ?_⟩; have n0_ := Aside0.mk (blk_below (g := gb388) (o := .cells #[.int .i64 a0_0, .slice A0_1 l0_1.length c0_1] 24 (0, 0)) (by (with_reducible repeat (first | refine blk_drewN ?_ _ | refine blk_drew ?_ | refine blk_alloc ?_ _)); exact BK388.out) hb); have n1_ := Aside0.mk (below_step (by repeat (first | (with_reducible first | exact HB.out | apply below_alloc | apply pw_below_drewN | apply below_drew1 | refine below_set ?_ GE388.out) | exact HB.out)) hb); clear BK388; clear HB; have BK388 := n0_; have HB := n1_; clear n0_ n1_; (try clear hb); (try clear hb2); (try clear hk); (try clear hi); have hcz40_0 : w39.cell? ⟨gb388, 0, none⟩ = some (.int .i64 a0_0) := (blk_cell BK388.out 0).trans rfl; have hcz40_1 : w39.cell? ⟨gb388, 1, none⟩ = some (.slice A0_1 l0_1.length c0_1) := (blk_cell BK388.out 1).trans rfl; have hfz40_0 := blk_frozen BK388.out 0; have hfz40_1 := blk_frozen BK388.out 1) | (go_at_call 13; (with_reducible refine (tr_Motion.calls k a0_0 _ _ l0_1 false _ ?side1 ?side2 A9.out).mono ?_); (case side1 => repeat (first | exact (Kd.C_below HR0_1.out HB.out) | (with_reducible refine Kd.C_alloc ?_ _) | (with_reducible refine Kd.C_drewN ?_ _) | (with_reducible refine Kd.C_drew ?_))); (case side2 => exact HC0_1.out); rintro e w41 ⟨rfl, hb⟩; have n0_ := Aside0.mk (blk_below (g := gb388) (o := .cells #[.int .i64 a0_0, .slice A0_1 l0_1.length c0_1] 24 (0, 0)) (by (with_reducible repeat (first | refine blk_drewN ?_ _ | refine blk_drew ?_ | refine blk_alloc ?_ _)); exact BK388.out) hb); have n1_ := Aside0.mk (below_step (by repeat (first | (with_reducible first | exact HB.out | apply below_alloc | apply pw_below_drewN | apply below_drew1 | refine below_set ?_ GE388.out) | exact HB.out)) hb); clear BK388; clear HB; have BK388 := n0_; have HB := n1_; clear n0_ n1_; (try clear hb); (try clear hb2); (try clear hk); (try clear hi)))
     go_meet
     case rel => exact ⟨_, (true), (by first | rfl | (simp; done) | (simp [*]; done)), H', ⟨by first | omega | exact Nat.le_refl _⟩, ⟨by (with_reducible repeat (first | refine blk_drewN ?_ _ | refine blk_drew ?_ | refine blk_alloc ?_ _)); exact BK388.out⟩, ⟨by repeat (first | (with_reducible first | exact HB.out | apply below_alloc | apply pw_below_drewN | apply below_drew1 | refine below_set ?_ GE388.out) | exact HB.out)⟩⟩
  ·
   replace c8 := Bool.eq_false_iff.mpr c8
   subst c8
   have H1 : (tl_CamBack.j0 k a1 a2 a3 true a0_0 l0_1) = some r := by rw [if_neg (show ¬ (false = true) by decide)] at H; exact H
   clear H
   have H := H1
   clear H1
   as_aux_lemma =>
    have H' := Aside0.mk H
    clear H
    have hcz42_0 : w6.cell? ⟨gb388, 0, none⟩ = some (.int .i64 a0_0) := (blk_cell BK388.out 0).trans rfl
    have hcz42_1 : w6.cell? ⟨gb388, 1, none⟩ = some (.slice A0_1 l0_1.length c0_1) := (blk_cell BK388.out 1).trans rfl
    have hfz42_0 := blk_frozen BK388.out 0
    have hfz42_1 := blk_frozen BK388.out 1
    go_wp2_with (first | ((with_reducible refine gate_callee (f := 10) rfl ?_); refine goesL_ (some 28) rfl rfl Tryz.func10 (by kernel_rfl) rfl #[.agg #[.int .i64 a0_0, .slice A0_1 l0_1.length c0_1]] rfl (by (try simp only [List.map_toArray, List.map_cons, List.map_nil]); first | done | rfl | (simp only [List.length_drop, List.length_take]; rfl)) ?_; (with_reducible refine (tl_slim.calls a0_0 _ _ l0_1 false _ ?side1 ?side2 A7.out).mono ?_); (case side1 => repeat (first | exact (Kd.C_below HR0_1.out HB.out) | (with_reducible refine Kd.C_alloc ?_ _) | (with_reducible refine Kd.C_drewN ?_ _) | (with_reducible refine Kd.C_drew ?_))); (case side2 => exact HC0_1.out); rintro e w43 ⟨rfl, hb⟩; refine ⟨_, rfl, ?_⟩; have n0_ := Aside0.mk (blk_below (g := gb388) (o := .cells #[.int .i64 a0_0, .slice A0_1 l0_1.length c0_1] 24 (0, 0)) (by (with_reducible repeat (first | refine blk_drewN ?_ _ | refine blk_drew ?_ | refine blk_alloc ?_ _)); exact BK388.out) hb); have n1_ := Aside0.mk (below_step (by repeat (first | (with_reducible first | exact HB.out | apply below_alloc | apply pw_below_drewN | apply below_drew1 | refine below_set ?_ GE388.out) | exact HB.out)) hb); clear BK388; clear HB; have BK388 := n0_; have HB := n1_; clear n0_ n1_; (try clear hb); (try clear hb2); (try clear hk); (try clear hi)))
    go_meet
    case rel => exact ⟨_, (true), (by first | rfl | (simp; done) | (simp [*]; done)), H', ⟨by first | omega | exact Nat.le_refl _⟩, ⟨by (with_reducible repeat (first | refine blk_drewN ?_ _ | refine blk_drew ?_ | refine blk_alloc ?_ _)); exact BK388.out⟩, ⟨by repeat (first | (with_reducible first | exact HB.out | apply below_alloc | apply pw_below_drewN | apply below_drew1 | refine below_set ?_ GE388.out) | exact HB.out)⟩⟩
 case rest =>
  clear HC5
  try clear c1
  try clear p2
  try clear c8
  try clear c10
  try clear c12
  try clear c14
  try clear c16
  try clear c17
  try clear c17b0
  try clear hcz18_0
  try clear hcz18_1
  try clear hcz20_0
  try clear hcz20_1
  try clear hcz22_0
  try clear hcz22_1
  try clear hcz24_0
  try clear hcz24_1
  try clear hcz26_0
  try clear hcz26_1
  try clear hcz28_0
  try clear hcz28_1
  try clear hcz30_0
  try clear hcz30_1
  try clear hcz32_0
  try clear hcz32_1
  try clear hcz34_0
  try clear hcz34_1
  try clear hcz36_0
  try clear hcz36_1
  try clear hcz38_0
  try clear hcz38_1
  try clear hcz40_0
  try clear hcz40_1
  try clear hcz42_0
  try clear hcz42_1
  try clear hfz18_0
  try clear hfz18_1
  try clear hfz20_0
  try clear hfz20_1
  try clear hfz22_0
  try clear hfz22_1
  try clear hfz24_0
  try clear hfz24_1
  try clear hfz26_0
  try clear hfz26_1
  try clear hfz28_0
  try clear hfz28_1
  try clear hfz30_0
  try clear hfz30_1
  try clear hfz32_0
  try clear hfz32_1
  try clear hfz34_0
  try clear hfz34_1
  try clear hfz36_0
  try clear hfz36_1
  try clear hfz38_0
  try clear hfz38_1
  try clear hfz40_0
  try clear hfz40_1
  try clear hfz42_0
  try clear hfz42_1
  obtain ⟨kq, x59_4, rfl, HA, HJ4, BK388, HB⟩ := hcut
  cases kq with
  | zero => exact absurd HA.out (by simp [tl_CamBack.j0])
  | succ kj4 =>
   have H := HA.out
   clear HA
   simp only [tl_CamBack.j0] at H
   by_cases c44 : x59_4 = true
   ·
    subst c44
    have H1 : ((tellurionlaw04_known.f).bind fun t394 => (some t394)) = some r := by rw [if_pos rfl] at H; exact H
    clear H
    have H := H1
    clear H1
    replace H := Option.bind_eq_some_iff.mp H
    obtain ⟨t394, A450, H⟩ := H
    replace H : (some t394) = some r := H
    have A45 := Aside0.mk A450
    clear A450
    as_aux_lemma =>
     obtain rfl := Option.some.inj H
     go_wp2_with (first | ((with_reducible refine gate_callee (f := 11) rfl ?_); refine goesL_ (some 60) rfl rfl Tryz.func11 (by kernel_rfl) rfl #[] rfl (by (try simp only [List.map_toArray, List.map_cons, List.map_nil]); first | done | rfl | (simp only [List.length_drop, List.length_take]; rfl)) ?_; (with_reducible refine (tellurionlaw04_known.calls  t394 _ A45.out).mono ?_); rintro e w46 ⟨rfl, hb⟩; refine ⟨_, rfl, ?_⟩; have n0_ := Aside0.mk (blk_below (g := gb388) (o := .cells #[.int .i64 a0_0, .slice A0_1 l0_1.length c0_1] 24 (0, 0)) (by (with_reducible repeat (first | refine blk_drewN ?_ _ | refine blk_drew ?_ | refine blk_alloc ?_ _)); exact BK388.out) hb); have n1_ := Aside0.mk (below_step (by repeat (first | (with_reducible first | exact HB.out | apply below_alloc | apply pw_below_drewN | apply below_drew1 | refine below_set ?_ GE388.out) | exact HB.out)) hb); clear BK388; clear HB; have BK388 := n0_; have HB := n1_; clear n0_ n1_; (try clear hb); (try clear hb2); (try clear hk); (try clear hi)))
     go_ret
     exact ⟨by first | rfl | (simp [errW_none, errW_some] <;> rfl) | (simp [*, errW_none, errW_some] <;> rfl), by repeat (first | (with_reducible first | exact HB.out | apply below_alloc | apply pw_below_drewN | apply below_drew1 | refine below_set ?_ GE388.out) | exact HB.out)⟩
   ·
    replace c44 := Bool.eq_false_iff.mpr c44
    subst c44
    have H1 : ((cam_Retreats.f kj4 a0_0 l0_1 a1).bind fun bt395 => ((cam_Stations.f kj4 a0_0 l0_1 0 a1).bind fun bt399 => (if bt395.2.2.2 = 0 then (if bt399.2 = 0 then (if bt395.1 < 0 then (tl_CamBack.j1 kj4 a1 a2 a3 bt395.1 bt395.2.1 bt395.2.2.1 bt399.1 true a0_0 l0_1) else (if bt395.2.1 < 0 then (tl_CamBack.j1 kj4 a1 a2 a3 bt395.1 bt395.2.1 bt395.2.2.1 bt399.1 true a0_0 l0_1) else (if bt395.2.2.1 < 0 then (tl_CamBack.j1 kj4 a1 a2 a3 bt395.1 bt395.2.1 bt395.2.2.1 bt399.1 true a0_0 l0_1) else (if (bt399.1.length : Int) > 2001 then (tl_CamBack.j1 kj4 a1 a2 a3 bt395.1 bt395.2.1 bt395.2.2.1 bt399.1 true a0_0 l0_1) else (if bt395.1 > (bt399.1.length : Int) then (tl_CamBack.j1 kj4 a1 a2 a3 bt395.1 bt395.2.1 bt395.2.2.1 bt399.1 true a0_0 l0_1) else (if ((bt395.1 == 0) != (bt395.2.1 == 0)) = true then (tl_CamBack.j1 kj4 a1 a2 a3 bt395.1 bt395.2.1 bt395.2.2.1 bt399.1 true a0_0 l0_1) else (tl_CamBack.j1 kj4 a1 a2 a3 bt395.1 bt395.2.1 bt395.2.2.1 bt399.1 ((bt395.1 == 0) != (bt395.2.2.1 == 0)) a0_0 l0_1))))))) else (tl_CamBack.j1 kj4 a1 a2 a3 bt395.1 bt395.2.1 bt395.2.2.1 bt399.1 true a0_0 l0_1)) else (tl_CamBack.j1 kj4 a1 a2 a3 bt395.1 bt395.2.1 bt395.2.2.1 bt399.1 true a0_0 l0_1)))) = some r := by rw [if_neg (show ¬ (false = true) by decide)] at H; exact H
    clear H
    have H := H1
    clear H1
    replace H := Option.bind_eq_some_iff.mp H
    obtain ⟨⟨t395, t396, t397, t398⟩, A470, H⟩ := H
    replace H : ((cam_Stations.f kj4 a0_0 l0_1 0 a1).bind fun bt399 => (if t398 = 0 then (if bt399.2 = 0 then (if t395 < 0 then (tl_CamBack.j1 kj4 a1 a2 a3 t395 t396 t397 bt399.1 true a0_0 l0_1) else (if t396 < 0 then (tl_CamBack.j1 kj4 a1 a2 a3 t395 t396 t397 bt399.1 true a0_0 l0_1) else (if t397 < 0 then (tl_CamBack.j1 kj4 a1 a2 a3 t395 t396 t397 bt399.1 true a0_0 l0_1) else (if (bt399.1.length : Int) > 2001 then (tl_CamBack.j1 kj4 a1 a2 a3 t395 t396 t397 bt399.1 true a0_0 l0_1) else (if t395 > (bt399.1.length : Int) then (tl_CamBack.j1 kj4 a1 a2 a3 t395 t396 t397 bt399.1 true a0_0 l0_1) else (if ((t395 == 0) != (t396 == 0)) = true then (tl_CamBack.j1 kj4 a1 a2 a3 t395 t396 t397 bt399.1 true a0_0 l0_1) else (tl_CamBack.j1 kj4 a1 a2 a3 t395 t396 t397 bt399.1 ((t395 == 0) != (t397 == 0)) a0_0 l0_1))))))) else (tl_CamBack.j1 kj4 a1 a2 a3 t395 t396 t397 bt399.1 true a0_0 l0_1)) else (tl_CamBack.j1 kj4 a1 a2 a3 t395 t396 t397 bt399.1 true a0_0 l0_1))) = some r := H
    have A47 := Aside0.mk A470
    clear A470
    replace H := Option.bind_eq_some_iff.mp H
    obtain ⟨⟨t399, t402⟩, A480, H⟩ := H
    replace H : (if t398 = 0 then (if t402 = 0 then (if t395 < 0 then (tl_CamBack.j1 kj4 a1 a2 a3 t395 t396 t397 t399 true a0_0 l0_1) else (if t396 < 0 then (tl_CamBack.j1 kj4 a1 a2 a3 t395 t396 t397 t399 true a0_0 l0_1) else (if t397 < 0 then (tl_CamBack.j1 kj4 a1 a2 a3 t395 t396 t397 t399 true a0_0 l0_1) else (if (t399.length : Int) > 2001 then (tl_CamBack.j1 kj4 a1 a2 a3 t395 t396 t397 t399 true a0_0 l0_1) else (if t395 > (t399.length : Int) then (tl_CamBack.j1 kj4 a1 a2 a3 t395 t396 t397 t399 true a0_0 l0_1) else (if ((t395 == 0) != (t396 == 0)) = true then (tl_CamBack.j1 kj4 a1 a2 a3 t395 t396 t397 t399 true a0_0 l0_1) else (tl_CamBack.j1 kj4 a1 a2 a3 t395 t396 t397 t399 ((t395 == 0) != (t397 == 0)) a0_0 l0_1))))))) else (tl_CamBack.j1 kj4 a1 a2 a3 t395 t396 t397 t399 true a0_0 l0_1)) else (tl_CamBack.j1 kj4 a1 a2 a3 t395 t396 t397 t399 true a0_0 l0_1)) = some r := H
    have A48 := Aside0.mk A480
    clear A480
    have HC49 := Aside0.mk H
    clear H
    have hcz50_0 : wc.cell? ⟨gb388, 0, none⟩ = some (.int .i64 a0_0) := (blk_cell BK388.out 0).trans rfl
    have hcz50_1 : wc.cell? ⟨gb388, 1, none⟩ = some (.slice A0_1 l0_1.length c0_1) := (blk_cell BK388.out 1).trans rfl
    have hfz50_0 := blk_frozen BK388.out 0
    have hfz50_1 := blk_frozen BK388.out 1
    go_upto_region 5 with (first | ((with_reducible refine gate_callee (f := 12) rfl ?_); refine goesL_ (some 64) rfl rfl Tryz.func12 (by kernel_rfl) rfl #[.agg #[.int .i64 a0_0, .slice A0_1 l0_1.length c0_1], .int .i64 a1] rfl (by (try simp only [List.map_toArray, List.map_cons, List.map_nil]); first | done | rfl | (simp only [List.length_drop, List.length_take]; rfl)) ?_; (with_reducible refine (cam_Retreats.calls kj4 a0_0 _ _ l0_1 a1 t395 t396 t397 t398 _ ?side1 ?side2 A47.out).mono ?_); (case side1 => repeat (first | exact (Kd.C_below HR0_1.out HB.out) | (with_reducible refine Kd.C_alloc ?_ _) | (with_reducible refine Kd.C_drewN ?_ _) | (with_reducible refine Kd.C_drew ?_))); (case side2 => exact HC0_1.out); rintro e w51 ⟨rfl, hb⟩; refine ⟨_, rfl, ?_⟩; have n0_ := Aside0.mk (blk_below (g := gb388) (o := .cells #[.int .i64 a0_0, .slice A0_1 l0_1.length c0_1] 24 (0, 0)) (by (with_reducible repeat (first | refine blk_drewN ?_ _ | refine blk_drew ?_ | refine blk_alloc ?_ _)); exact BK388.out) hb); have n1_ := Aside0.mk (below_step (by repeat (first | (with_reducible first | exact HB.out | apply below_alloc | apply pw_below_drewN | apply below_drew1 | refine below_set ?_ GE388.out) | exact HB.out)) hb); clear BK388; clear HB; have BK388 := n0_; have HB := n1_; clear n0_ n1_; (try clear hb); (try clear hb2); (try clear hk); (try clear hi); have hcz52_0 : w51.cell? ⟨gb388, 0, none⟩ = some (.int .i64 a0_0) := (blk_cell BK388.out 0).trans rfl; have hcz52_1 : w51.cell? ⟨gb388, 1, none⟩ = some (.slice A0_1 l0_1.length c0_1) := (blk_cell BK388.out 1).trans rfl; have hfz52_0 := blk_frozen BK388.out 0; have hfz52_1 := blk_frozen BK388.out 1) | ((with_reducible refine gate_callee (f := 30) rfl ?_); refine goesL_ (some 72) rfl rfl Tryz.func30 (by kernel_rfl) rfl #[.agg #[.int .i64 a0_0, .slice A0_1 l0_1.length c0_1], .int .i64 0, .int .i64 a1] rfl (by (try simp only [List.map_toArray, List.map_cons, List.map_nil]); first | done | rfl | (simp only [List.length_drop, List.length_take]; rfl)) ?_; (with_reducible refine (cam_Stations.calls kj4 a0_0 _ _ l0_1 0 a1 t399 t402 _ ?side1 ?side2 A48.out).mono ?_); (case side1 => repeat (first | exact (Kd.C_below HR0_1.out HB.out) | (with_reducible refine Kd.C_alloc ?_ _) | (with_reducible refine Kd.C_drewN ?_ _) | (with_reducible refine Kd.C_drew ?_))); (case side2 => exact HC0_1.out); rintro e w53 ⟨v400, rfl, ho0, hb⟩; refine ⟨_, rfl, ?_⟩; have n0_ := Aside0.mk (Kd.R_lower ho0 (below_size (by repeat (first | (with_reducible first | exact HB.out | apply below_alloc | apply pw_below_drewN | apply below_drew1 | refine below_set ?_ GE388.out) | exact HB.out)))); have n1_ := Aside0.mk (blk_below (g := gb388) (o := .cells #[.int .i64 a0_0, .slice A0_1 l0_1.length c0_1] 24 (0, 0)) (by (with_reducible repeat (first | refine blk_drewN ?_ _ | refine blk_drew ?_ | refine blk_alloc ?_ _)); exact BK388.out) hb); have n2_ := Aside0.mk (below_step (by repeat (first | (with_reducible first | exact HB.out | apply below_alloc | apply pw_below_drewN | apply below_drew1 | refine below_set ?_ GE388.out) | exact HB.out)) hb); clear BK388; clear HB; have HO401 := n0_; have BK388 := n1_; have HB := n2_; clear n0_ n1_ n2_; (try clear hb); (try clear hb2); (try clear hk); (try clear hi); (try clear ho0)))
    (try simp only [Act.put, List.setIfInBounds_toArray, List.set_cons_zero, List.set_cons_succ])
    go_cut [117] (fun v117 wc => ∃ (kq : Nat) (x117_48 : Bool), v117 = .bool x117_48 ∧ Aside0 (tl_CamBack.j1 kq a1 a2 a3 t395 t396 t397 t399 x117_48 a0_0 l0_1 = some r) ∧ Aside0 (kq ≤ kj4) ∧ Aside0 (Kd.R (Kd.int .i64) 3 wc w.heap.size (fun _ => True) v400 t399) ∧ Aside0 (wc.heap[gb388]? = some (.cells #[.int .i64 a0_0, (.slice A0_1 l0_1.length c0_1)] 24 (0, 0))) ∧ Aside0 (Below w.heap.size w wc))
    case first =>
     have H := HC49.out
     clear HC49
     by_cases c54 : t398 = 0
     ·
      rw [if_pos c54] at H
      have c54b0 : (t398 == 0) = true := beq_iff_eq.mpr c54
      have c54b1 : (t398 != 0) = false := bne_eq_false_iff_eq.mpr c54
      clear c54
      (first | rw [c54b0] | (simp only [i64_w, i32_w]; rw [c54b0]) | skip)
      by_cases c55 : t402 = 0
      ·
       rw [if_pos c55] at H
       have c55b0 : (t402 == 0) = true := beq_iff_eq.mpr c55
       have c55b1 : (t402 != 0) = false := bne_eq_false_iff_eq.mpr c55
       clear c55
       by_cases c56 : t395 < 0
       ·
        rw [if_pos c56] at H
        have c56b0 : decide (t395 < 0) = true := decide_eq_true c56
        clear c56
        as_aux_lemma =>
         have H' := Aside0.mk H
         clear H
         go_wp2
         go_meet
         case rel => exact ⟨_, (true), (by first | rfl | (simp; done) | (simp [*]; done)), H', ⟨by have := HJ4.out; first | omega | exact Nat.le_refl _⟩, ⟨by (with_reducible repeat (first | apply Kd.R_alloc | apply Kd.R_drewN | apply Kd.R_drew)); exact HO401.out⟩, ⟨by (with_reducible repeat (first | refine blk_drewN ?_ _ | refine blk_drew ?_ | refine blk_alloc ?_ _)); exact BK388.out⟩, ⟨by repeat (first | (with_reducible first | exact HB.out | apply below_alloc | apply pw_below_drewN | apply below_drew1 | refine below_set ?_ GE388.out) | exact HB.out)⟩⟩
       ·
        rw [if_neg c56] at H
        have c56b0 : decide (t395 < 0) = false := decide_eq_false c56
        clear c56
        by_cases c57 : t396 < 0
        ·
         rw [if_pos c57] at H
         have c57b0 : decide (t396 < 0) = true := decide_eq_true c57
         clear c57
         as_aux_lemma =>
          have H' := Aside0.mk H
          clear H
          go_wp2
          go_meet
          case rel => exact ⟨_, (true), (by first | rfl | (simp; done) | (simp [*]; done)), H', ⟨by have := HJ4.out; first | omega | exact Nat.le_refl _⟩, ⟨by (with_reducible repeat (first | apply Kd.R_alloc | apply Kd.R_drewN | apply Kd.R_drew)); exact HO401.out⟩, ⟨by (with_reducible repeat (first | refine blk_drewN ?_ _ | refine blk_drew ?_ | refine blk_alloc ?_ _)); exact BK388.out⟩, ⟨by repeat (first | (with_reducible first | exact HB.out | apply below_alloc | apply pw_below_drewN | apply below_drew1 | refine below_set ?_ GE388.out) | exact HB.out)⟩⟩
        ·
         rw [if_neg c57] at H
         have c57b0 : decide (t396 < 0) = false := decide_eq_false c57
         clear c57
         by_cases c58 : t397 < 0
         ·
          rw [if_pos c58] at H
          have c58b0 : decide (t397 < 0) = true := decide_eq_true c58
          clear c58
          as_aux_lemma =>
           have H' := Aside0.mk H
           clear H
           go_wp2
           go_meet
           case rel => exact ⟨_, (true), (by first | rfl | (simp; done) | (simp [*]; done)), H', ⟨by have := HJ4.out; first | omega | exact Nat.le_refl _⟩, ⟨by (with_reducible repeat (first | apply Kd.R_alloc | apply Kd.R_drewN | apply Kd.R_drew)); exact HO401.out⟩, ⟨by (with_reducible repeat (first | refine blk_drewN ?_ _ | refine blk_drew ?_ | refine blk_alloc ?_ _)); exact BK388.out⟩, ⟨by repeat (first | (with_reducible first | exact HB.out | apply below_alloc | apply pw_below_drewN | apply below_drew1 | refine below_set ?_ GE388.out) | exact HB.out)⟩⟩
         ·
          rw [if_neg c58] at H
          have c58b0 : decide (t397 < 0) = false := decide_eq_false c58
          clear c58
          by_cases c59 : (t399.length : Int) > 2001
          ·
           rw [if_pos c59] at H
           have c59b0 : decide (2001 < (t399.length : Int)) = true := decide_eq_true c59
           have c59b1 : decide (2001 < t399.length) = true := decide_eq_true (by omega)
           clear c59
           as_aux_lemma =>
            have H' := Aside0.mk H
            clear H
            obtain ⟨Ao60, co60, eo60⟩ := Kd.R_slice HO401.out
            subst eo60
            go_wp2
            go_meet
            case rel => exact ⟨_, (true), (by first | rfl | (simp; done) | (simp [*]; done)), H', ⟨by have := HJ4.out; first | omega | exact Nat.le_refl _⟩, ⟨by (with_reducible repeat (first | apply Kd.R_alloc | apply Kd.R_drewN | apply Kd.R_drew)); exact HO401.out⟩, ⟨by (with_reducible repeat (first | refine blk_drewN ?_ _ | refine blk_drew ?_ | refine blk_alloc ?_ _)); exact BK388.out⟩, ⟨by repeat (first | (with_reducible first | exact HB.out | apply below_alloc | apply pw_below_drewN | apply below_drew1 | refine below_set ?_ GE388.out) | exact HB.out)⟩⟩
          ·
           rw [if_neg c59] at H
           have c59b0 : decide (2001 < (t399.length : Int)) = false := decide_eq_false c59
           have c59b1 : decide (2001 < t399.length) = false := decide_eq_false (by omega)
           clear c59
           by_cases c61 : t395 > (t399.length : Int)
           ·
            rw [if_pos c61] at H
            have c61b0 : decide ((t399.length : Int) < t395) = true := decide_eq_true c61
            clear c61
            as_aux_lemma =>
             have H' := Aside0.mk H
             clear H
             obtain ⟨Ao62, co62, eo62⟩ := Kd.R_slice HO401.out
             subst eo62
             go_wp2
             go_meet
             case rel => exact ⟨_, (true), (by first | rfl | (simp; done) | (simp [*]; done)), H', ⟨by have := HJ4.out; first | omega | exact Nat.le_refl _⟩, ⟨by (with_reducible repeat (first | apply Kd.R_alloc | apply Kd.R_drewN | apply Kd.R_drew)); exact HO401.out⟩, ⟨by (with_reducible repeat (first | refine blk_drewN ?_ _ | refine blk_drew ?_ | refine blk_alloc ?_ _)); exact BK388.out⟩, ⟨by repeat (first | (with_reducible first | exact HB.out | apply below_alloc | apply pw_below_drewN | apply below_drew1 | refine below_set ?_ GE388.out) | exact HB.out)⟩⟩
           ·
            rw [if_neg c61] at H
            have c61b0 : decide ((t399.length : Int) < t395) = false := decide_eq_false c61
            clear c61
            by_cases c63 : ((t395 == 0) != (t396 == 0)) = true
            ·
             rw [if_pos c63] at H
             have c63b0 : ((t395 == 0) != (t396 == 0)) = true := c63
             (try (have c63b1 : decide ((t395 == 0) = (t396 == 0)) = false := by simpa using c63))
             (try (have c63b2 : ((t395 == 0) == (t396 == 0)) = false := by simpa using c63))
             (try (have c63b3 : ¬ ((t395 == 0) = (t396 == 0)) := by simpa using c63))
             clear c63
             as_aux_lemma =>
              have H' := Aside0.mk H
              clear H
              obtain ⟨Ao64, co64, eo64⟩ := Kd.R_slice HO401.out
              subst eo64
              go_wp2
              go_meet
              case rel => exact ⟨_, (true), (by first | rfl | (simp; done) | (simp [*]; done)), H', ⟨by have := HJ4.out; first | omega | exact Nat.le_refl _⟩, ⟨by (with_reducible repeat (first | apply Kd.R_alloc | apply Kd.R_drewN | apply Kd.R_drew)); exact HO401.out⟩, ⟨by (with_reducible repeat (first | refine blk_drewN ?_ _ | refine blk_drew ?_ | refine blk_alloc ?_ _)); exact BK388.out⟩, ⟨by repeat (first | (with_reducible first | exact HB.out | apply below_alloc | apply pw_below_drewN | apply below_drew1 | refine below_set ?_ GE388.out) | exact HB.out)⟩⟩
            ·
             rw [if_neg c63] at H
             have c63b0 : ((t395 == 0) != (t396 == 0)) = false := by simpa using c63
             (try (have c63b1 : decide ((t395 == 0) = (t396 == 0)) = true := by simpa using c63))
             (try (have c63b2 : ((t395 == 0) == (t396 == 0)) = true := by simpa using c63))
             clear c63
             as_aux_lemma =>
              have H' := Aside0.mk H
              clear H
              obtain ⟨Ao65, co65, eo65⟩ := Kd.R_slice HO401.out
              subst eo65
              go_wp2
              go_meet
              case rel => exact ⟨_, (((t395 == 0) != (t397 == 0))), (by first | rfl | (simp; done) | (simp [*]; done)), H', ⟨by have := HJ4.out; first | omega | exact Nat.le_refl _⟩, ⟨by (with_reducible repeat (first | apply Kd.R_alloc | apply Kd.R_drewN | apply Kd.R_drew)); exact HO401.out⟩, ⟨by (with_reducible repeat (first | refine blk_drewN ?_ _ | refine blk_drew ?_ | refine blk_alloc ?_ _)); exact BK388.out⟩, ⟨by repeat (first | (with_reducible first | exact HB.out | apply below_alloc | apply pw_below_drewN | apply below_drew1 | refine below_set ?_ GE388.out) | exact HB.out)⟩⟩
      ·
       rw [if_neg c55] at H
       have c55b0 : (t402 == 0) = false := beq_eq_false_iff_ne.mpr c55
       have c55b1 : (t402 != 0) = true := bne_iff_ne.mpr c55
       as_aux_lemma =>
        have H' := Aside0.mk H
        clear H
        go_wp2
        go_meet
        case rel => exact ⟨_, (true), (by first | rfl | (simp; done) | (simp [*]; done)), H', ⟨by have := HJ4.out; first | omega | exact Nat.le_refl _⟩, ⟨by (with_reducible repeat (first | apply Kd.R_alloc | apply Kd.R_drewN | apply Kd.R_drew)); exact HO401.out⟩, ⟨by (with_reducible repeat (first | refine blk_drewN ?_ _ | refine blk_drew ?_ | refine blk_alloc ?_ _)); exact BK388.out⟩, ⟨by repeat (first | (with_reducible first | exact HB.out | apply below_alloc | apply pw_below_drewN | apply below_drew1 | refine below_set ?_ GE388.out) | exact HB.out)⟩⟩
     ·
      rw [if_neg c54] at H
      have c54b0 : (t398 == 0) = false := beq_eq_false_iff_ne.mpr c54
      have c54b1 : (t398 != 0) = true := bne_iff_ne.mpr c54
      (first | rw [c54b0] | (simp only [i64_w, i32_w]; rw [c54b0]) | skip)
      as_aux_lemma =>
       have H' := Aside0.mk H
       clear H
       go_wp2
       go_meet
       case rel => exact ⟨_, (true), (by first | rfl | (simp; done) | (simp [*]; done)), H', ⟨by have := HJ4.out; first | omega | exact Nat.le_refl _⟩, ⟨by (with_reducible repeat (first | apply Kd.R_alloc | apply Kd.R_drewN | apply Kd.R_drew)); exact HO401.out⟩, ⟨by (with_reducible repeat (first | refine blk_drewN ?_ _ | refine blk_drew ?_ | refine blk_alloc ?_ _)); exact BK388.out⟩, ⟨by repeat (first | (with_reducible first | exact HB.out | apply below_alloc | apply pw_below_drewN | apply below_drew1 | refine below_set ?_ GE388.out) | exact HB.out)⟩⟩
    case rest =>
     clear HC49
     try clear c1
     try clear p2
     try clear c3
     try clear c4
     try clear c5
     try clear c6
     try clear c8
     try clear c10
     try clear c11
     try clear c12
     try clear c14
     try clear c16
     try clear c17
     try clear c17b0
     try clear c30
     try clear c44
     try clear c54
     try clear c54b0
     try clear c54b1
     try clear c55
     try clear c55b0
     try clear c55b1
     try clear c56
     try clear c56b0
     try clear c57
     try clear c57b0
     try clear c58
     try clear c58b0
     try clear c59
     try clear c59b0
     try clear c59b1
     try clear c61
     try clear c61b0
     try clear c63
     try clear c63b0
     try clear c63b1
     try clear c63b2
     try clear hcz18_0
     try clear hcz18_1
     try clear hcz20_0
     try clear hcz20_1
     try clear hcz22_0
     try clear hcz22_1
     try clear hcz24_0
     try clear hcz24_1
     try clear hcz26_0
     try clear hcz26_1
     try clear hcz28_0
     try clear hcz28_1
     try clear hcz30_0
     try clear hcz30_1
     try clear hcz32_0
     try clear hcz32_1
     try clear hcz34_0
     try clear hcz34_1
     try clear hcz36_0
     try clear hcz36_1
     try clear hcz38_0
     try clear hcz38_1
     try clear hcz40_0
     try clear hcz40_1
     try clear hcz42_0
     try clear hcz42_1
     try clear hcz50_0
     try clear hcz50_1
     try clear hcz52_0
     try clear hcz52_1
     try clear hfz18_0
     try clear hfz18_1
     try clear hfz20_0
     try clear hfz20_1
     try clear hfz22_0
     try clear hfz22_1
     try clear hfz24_0
     try clear hfz24_1
     try clear hfz26_0
     try clear hfz26_1
     try clear hfz28_0
     try clear hfz28_1
     try clear hfz30_0
     try clear hfz30_1
     try clear hfz32_0
     try clear hfz32_1
     try clear hfz34_0
     try clear hfz34_1
     try clear hfz36_0
     try clear hfz36_1
     try clear hfz38_0
     try clear hfz38_1
     try clear hfz40_0
     try clear hfz40_1
     try clear hfz42_0
     try clear hfz42_1
     try clear hfz50_0
     try clear hfz50_1
     try clear hfz52_0
     try clear hfz52_1
     try clear p2
     obtain ⟨kq, x117_48, rfl, HA, HJ48, HO_13, BK388, HB⟩ := hcut
     cases kq with
     | zero => exact absurd HA.out (by simp [tl_CamBack.j1])
     | succ kj48 =>
      have H := HA.out
      clear HA
      simp only [tl_CamBack.j1] at H
      by_cases c66 : x117_48 = true
      ·
       subst c66
       have H1 : (some false) = some r := by rw [if_pos rfl] at H; exact H
       clear H
       have H := H1
       clear H1
       as_aux_lemma =>
        obtain rfl := Option.some.inj H
        go_wp2
        go_ret
        exact ⟨by first | rfl | (simp [errW_none, errW_some] <;> rfl) | (simp [*, errW_none, errW_some] <;> rfl), by repeat (first | (with_reducible first | exact HB.out | apply below_alloc | apply pw_below_drewN | apply below_drew1 | refine below_set ?_ GE388.out) | exact HB.out)⟩
      ·
       replace c66 := Bool.eq_false_iff.mpr c66
       subst c66
       have H1 : (tl_CamBack.l0 kj48 a1 a2 a3 t395 t396 t397 t399 0 a0_0 l0_1) = some r := by rw [if_neg (show ¬ (false = true) by decide)] at H; exact H
       clear H
       have H := H1
       clear H1
       have H' := Aside0.mk H
       clear H
       go_wp2
       go_loopg [15] kj48 (fun kq v15 w' => ∃ (x15_3 : Int), v15 = .int .i64 x15_3 ∧ Aside0 (tl_CamBack.l0 kq a1 a2 a3 t395 t396 t397 t399 x15_3 a0_0 l0_1 = some r) ∧ Aside0 (kq ≤ kj48) ∧ Aside0 (Kd.R (Kd.int .i64) 3 w' w.heap.size (fun _ => True) v400 t399) ∧ Aside0 (w'.heap[gb388]? = some (.cells #[.int .i64 a0_0, (.slice A0_1 l0_1.length c0_1)] 24 (0, 0))) ∧ Aside0 (Below w.heap.size w w'))
       case atStart => exact ⟨(0), (by first | rfl | (simp; done) | (simp [*]; done)), H', ⟨Nat.le_refl _⟩, ⟨by (with_reducible repeat (first | apply Kd.R_alloc | apply Kd.R_drewN | apply Kd.R_drew)); exact HO_13.out⟩, ⟨by (with_reducible repeat (first | refine blk_drewN ?_ _ | refine blk_drew ?_ | refine blk_alloc ?_ _)); exact BK388.out⟩, ⟨by repeat (first | (with_reducible first | exact HB.out | apply below_alloc | apply pw_below_drewN | apply below_drew1 | refine below_set ?_ GE388.out) | exact HB.out)⟩⟩
       case round =>
        clear H'
        try clear c1
        try clear p2
        try clear c3
        try clear c4
        try clear c5
        try clear c6
        try clear c8
        try clear c10
        try clear c11
        try clear c12
        try clear c14
        try clear c16
        try clear c17
        try clear c17b0
        try clear c30
        try clear c44
        try clear c54
        try clear c54b0
        try clear c54b1
        try clear c55
        try clear c55b0
        try clear c55b1
        try clear c56
        try clear c56b0
        try clear c57
        try clear c57b0
        try clear c58
        try clear c58b0
        try clear c59
        try clear c59b0
        try clear c59b1
        try clear c61
        try clear c61b0
        try clear c63
        try clear c63b0
        try clear c63b1
        try clear c63b2
        try clear c66
        try clear hcz18_0
        try clear hcz18_1
        try clear hcz20_0
        try clear hcz20_1
        try clear hcz22_0
        try clear hcz22_1
        try clear hcz24_0
        try clear hcz24_1
        try clear hcz26_0
        try clear hcz26_1
        try clear hcz28_0
        try clear hcz28_1
        try clear hcz30_0
        try clear hcz30_1
        try clear hcz32_0
        try clear hcz32_1
        try clear hcz34_0
        try clear hcz34_1
        try clear hcz36_0
        try clear hcz36_1
        try clear hcz38_0
        try clear hcz38_1
        try clear hcz40_0
        try clear hcz40_1
        try clear hcz42_0
        try clear hcz42_1
        try clear hcz50_0
        try clear hcz50_1
        try clear hcz52_0
        try clear hcz52_1
        try clear hfz18_0
        try clear hfz18_1
        try clear hfz20_0
        try clear hfz20_1
        try clear hfz22_0
        try clear hfz22_1
        try clear hfz24_0
        try clear hfz24_1
        try clear hfz26_0
        try clear hfz26_1
        try clear hfz28_0
        try clear hfz28_1
        try clear hfz30_0
        try clear hfz30_1
        try clear hfz32_0
        try clear hfz32_1
        try clear hfz34_0
        try clear hfz34_1
        try clear hfz36_0
        try clear hfz36_1
        try clear hfz38_0
        try clear hfz38_1
        try clear hfz40_0
        try clear hfz40_1
        try clear hfz42_0
        try clear hfz42_1
        try clear hfz50_0
        try clear hfz50_1
        try clear hfz52_0
        try clear hfz52_1
        try clear p2
        obtain ⟨x15_3, rfl, HA, HK3, HO_13, BK388, HB⟩ := hrel
        cases gk with
        | zero => exact absurd HA.out (by simp [tl_CamBack.l0])
        | succ k3 =>
         have H := HA.out
         clear HA
         simp only [tl_CamBack.l0] at H
         by_cases c67 : (wrap64 (x15_3 + 1)) < (t399.length : Int)
         ·
          rw [if_pos c67] at H
          have c67b0 : decide ((wrap64 (x15_3 + 1)) < (t399.length : Int)) = true := decide_eq_true c67
          clear c67
          have HC68 := Aside0.mk H
          clear H
          obtain ⟨Ao69, co69, eo69⟩ := Kd.R_slice HO_13.out
          subst eo69
          go_upto_region 10 with (fail)
          go_cut [139] (fun v139 wc => ∃ (kq : Nat) (x139_67 : Bool), v139 = .bool x139_67 ∧ Aside0 (tl_CamBack.j3 kq a1 a2 a3 t395 t396 t397 t399 x15_3 x139_67 a0_0 l0_1 = some r) ∧ Aside0 (kq ≤ k3) ∧ Aside0 (Kd.R (Kd.int .i64) 3 wc w.heap.size (fun _ => True) (.slice Ao69 t399.length co69) t399) ∧ Aside0 (wc.heap[gb388]? = some (.cells #[.int .i64 a0_0, (.slice A0_1 l0_1.length c0_1)] 24 (0, 0))) ∧ Aside0 (Below w.heap.size w wc))
          case first =>
           have H := HC68.out
           clear HC68
           by_cases c70 : 0 ≤ x15_3
           ·
            rw [if_pos c70] at H
            have c70b0 : decide (0 ≤ x15_3) = true := decide_eq_true c70
            clear c70
            (first | rw [c70b0] | (simp only [i64_w, i32_w]; rw [c70b0]) | skip)
            by_cases c71 : x15_3 < (t399.length : Int)
            ·
             rw [if_pos c71] at H
             have c71b0 : decide (x15_3 < (t399.length : Int)) = true := decide_eq_true c71
             clear c71
             by_cases c72 : a2 < (rd t399 x15_3)
             ·
              rw [if_pos c72] at H
              have c72b0 : decide (a2 < (rd t399 x15_3)) = true := decide_eq_true c72
              clear c72
              as_aux_lemma =>
               have H' := Aside0.mk H
               clear H
               have p403 : 0 ≤ (x15_3 : Int) := of_decide_eq_true (by first | (with_reducible assumption) | assumption)
               have q403 : x15_3 < (t399.length : Int) := of_decide_eq_true (by first | (with_reducible assumption) | assumption)
               obtain ⟨ad403, e403, hx403_0⟩ := Kd.at_int (Kd.R_reads' HO_13.out).2.2 x15_3 p403 q403
               cases e403
               replace p403 := eq_true p403
               replace q403 := eq_true q403
               go_wp2
               go_meet
               case rel => exact ⟨_, (true), (by first | rfl | (simp; done) | (simp [*]; done)), H', ⟨by have := HJ4.out; have := HJ48.out; have := HK3.out; first | omega | exact Nat.le_refl _⟩, ⟨by (with_reducible repeat (first | apply Kd.R_alloc | apply Kd.R_drewN | apply Kd.R_drew)); exact HO_13.out⟩, ⟨by (with_reducible repeat (first | refine blk_drewN ?_ _ | refine blk_drew ?_ | refine blk_alloc ?_ _)); exact BK388.out⟩, ⟨by repeat (first | (with_reducible first | exact HB.out | apply below_alloc | apply pw_below_drewN | apply below_drew1 | refine below_set ?_ GE388.out) | exact HB.out)⟩⟩
             ·
              rw [if_neg c72] at H
              have c72b0 : decide (a2 < (rd t399 x15_3)) = false := decide_eq_false c72
              clear c72
              obtain ⟨ji73, hji73⟩ : ∃ j_ : Int, (wrap64 (x15_3 + 1)) = j_ := ⟨_, rfl⟩
              replace H : (if 0 ≤ (ji73) then (tl_CamBack.j3 k3 a1 a2 a3 t395 t396 t397 t399 x15_3 (decide (a3 > (rd t399 (ji73)))) a0_0 l0_1) else (none)) = some r := by first | (rw [hji73] at H; exact H) | (simp only [hji73] at H ⊢; exact H)
              (try rw [hji73] at c67b0)
              have hji73w : (IntKind.i64.wrap (x15_3 + 1)) = ji73 := (i64_w _).trans hji73
              by_cases c74 : 0 ≤ (ji73)
              ·
               rw [if_pos c74] at H
               have c74b0 : decide (0 ≤ (ji73)) = true := decide_eq_true c74
               clear c74
               as_aux_lemma =>
                have H' := Aside0.mk H
                clear H
                have p403 : 0 ≤ (x15_3 : Int) := of_decide_eq_true (by first | (with_reducible assumption) | assumption)
                have q403 : x15_3 < (t399.length : Int) := of_decide_eq_true (by first | (with_reducible assumption) | assumption)
                obtain ⟨ad403, e403, hx403_0⟩ := Kd.at_int (Kd.R_reads' HO_13.out).2.2 x15_3 p403 q403
                cases e403
                replace p403 := eq_true p403
                replace q403 := eq_true q403
                have p404 : 0 ≤ ((ji73) : Int) := of_decide_eq_true (by first | (with_reducible assumption) | assumption)
                have q404 : (ji73) < (t399.length : Int) := of_decide_eq_true (by first | (with_reducible assumption) | assumption)
                obtain ⟨ad404, e404, hx404_0⟩ := Kd.at_int (Kd.R_reads' HO_13.out).2.2 (ji73) p404 q404
                obtain rfl : ad403 = ad404 := (by injection e404)
                replace p404 := eq_true p404
                replace q404 := eq_true q404
                go_wp2
                go_meet
                case rel => exact ⟨_, (decide (a3 > (rd t399 (ji73)))), (by first | rfl | (simp; done) | (simp only [← hji73] <;> (first | rfl | simp)) | (simp [*]; done)), H', ⟨by have := HJ4.out; have := HJ48.out; have := HK3.out; first | omega | exact Nat.le_refl _⟩, ⟨by (with_reducible repeat (first | apply Kd.R_alloc | apply Kd.R_drewN | apply Kd.R_drew)); exact HO_13.out⟩, ⟨by (with_reducible repeat (first | refine blk_drewN ?_ _ | refine blk_drew ?_ | refine blk_alloc ?_ _)); exact BK388.out⟩, ⟨by repeat (first | (with_reducible first | exact HB.out | apply below_alloc | apply pw_below_drewN | apply below_drew1 | refine below_set ?_ GE388.out) | exact HB.out)⟩⟩
              ·
               rw [if_neg c74] at H
               exact absurd H (by simp)
            ·
             rw [if_neg c71] at H
             exact absurd H (by simp)
           ·
            rw [if_neg c70] at H
            exact absurd H (by simp)
          case rest =>
           clear HC68
           try clear c1
           try clear p2
           try clear c3
           try clear c4
           try clear p4
           try clear q4
           try clear hx4
           try clear c5
           try clear c6
           try clear p6
           try clear c7
           try clear c8
           try clear c10
           try clear c11
           try clear c12
           try clear c14
           try clear c16
           try clear c17
           try clear c17b0
           try clear c30
           try clear p40
           try clear q40
           try clear hx40
           try clear c44
           try clear c54
           try clear c54b0
           try clear c54b1
           try clear c55
           try clear c55b0
           try clear c55b1
           try clear c56
           try clear c56b0
           try clear c57
           try clear c57b0
           try clear c58
           try clear c58b0
           try clear c59
           try clear c59b0
           try clear c59b1
           try clear c61
           try clear c61b0
           try clear c63
           try clear c63b0
           try clear c63b1
           try clear c63b2
           try clear p64
           try clear c66
           try clear c67
           try clear c67b0
           try clear c70
           try clear c70b0
           try clear c71
           try clear c71b0
           try clear c72
           try clear c72b0
           try clear c74
           try clear c74b0
           try clear hcz18_0
           try clear hcz18_1
           try clear hcz20_0
           try clear hcz20_1
           try clear hcz22_0
           try clear hcz22_1
           try clear hcz24_0
           try clear hcz24_1
           try clear hcz26_0
           try clear hcz26_1
           try clear hcz28_0
           try clear hcz28_1
           try clear hcz30_0
           try clear hcz30_1
           try clear hcz32_0
           try clear hcz32_1
           try clear hcz34_0
           try clear hcz34_1
           try clear hcz36_0
           try clear hcz36_1
           try clear hcz38_0
           try clear hcz38_1
           try clear hcz40_0
           try clear hcz40_1
           try clear hcz42_0
           try clear hcz42_1
           try clear hcz50_0
           try clear hcz50_1
           try clear hcz52_0
           try clear hcz52_1
           try clear hfz18_0
           try clear hfz18_1
           try clear hfz20_0
           try clear hfz20_1
           try clear hfz22_0
           try clear hfz22_1
           try clear hfz24_0
           try clear hfz24_1
           try clear hfz26_0
           try clear hfz26_1
           try clear hfz28_0
           try clear hfz28_1
           try clear hfz30_0
           try clear hfz30_1
           try clear hfz32_0
           try clear hfz32_1
           try clear hfz34_0
           try clear hfz34_1
           try clear hfz36_0
           try clear hfz36_1
           try clear hfz38_0
           try clear hfz38_1
           try clear hfz40_0
           try clear hfz40_1
           try clear hfz42_0
           try clear hfz42_1
           try clear hfz50_0
           try clear hfz50_1
           try clear hfz52_0
           try clear hfz52_1
           try clear hx403_0
           try clear hx404_0
           try clear p2
           try clear p403
           try clear p404
           try clear q403
           try clear q404
           obtain ⟨kq, x139_67, rfl, HA, HJ67, HO_13, BK388, HB⟩ := hcut
           cases kq with
           | zero => exact absurd HA.out (by simp [tl_CamBack.j3])
           | succ kj67 =>
            have H := HA.out
            clear HA
            simp only [tl_CamBack.j3] at H
            by_cases c75 : x139_67 = true
            ·
             subst c75
             have H1 : (tl_CamBack.l0 kj67 a1 a2 a3 t395 t396 t397 t399 (wrap64 (x15_3 + 1)) a0_0 l0_1) = some r := by rw [if_pos rfl] at H; exact H
             clear H
             have H := H1
             clear H1
             as_aux_lemma =>
              have H' := Aside0.mk H
              clear H
              go_wp2
              go_roundg kj67
              case measure => have := HJ4.out; have := HJ48.out; have := HK3.out; have := HJ67.out; omega
              case rel => exact ⟨(wrap64 (x15_3 + 1)), (by first | rfl | (simp; done) | (simp [*]; done)), H', ⟨by have := HJ4.out; have := HJ48.out; have := HK3.out; have := HJ67.out; omega⟩, ⟨by (with_reducible repeat (first | apply Kd.R_alloc | apply Kd.R_drewN | apply Kd.R_drew)); exact HO_13.out⟩, ⟨by (with_reducible repeat (first | refine blk_drewN ?_ _ | refine blk_drew ?_ | refine blk_alloc ?_ _)); exact BK388.out⟩, ⟨by repeat (first | (with_reducible first | exact HB.out | apply below_alloc | apply pw_below_drewN | apply below_drew1 | refine below_set ?_ GE388.out) | exact HB.out)⟩⟩
            ·
             replace c75 := Bool.eq_false_iff.mpr c75
             subst c75
             have H1 : ((cam_Place.f a0_0 l0_1 a2).bind fun bt405 => ((cam_Place.f a0_0 l0_1 a3).bind fun bt407 => (if bt405.2 = 0 then (if bt407.2 = 0 then (if (wrap64 (bt405.1 - bt407.1)) > t397 then (some false) else (if bt405.1 > bt407.1 then (if (wrap64 (a3 - a2)) > t396 then (some false) else (tl_CamBack.l0 kj67 a1 a2 a3 t395 t396 t397 t399 (wrap64 (x15_3 + 1)) a0_0 l0_1)) else (tl_CamBack.l0 kj67 a1 a2 a3 t395 t396 t397 t399 (wrap64 (x15_3 + 1)) a0_0 l0_1))) else (some false)) else (some false)))) = some r := by rw [if_neg (show ¬ (false = true) by decide)] at H; exact H
             clear H
             have H := H1
             clear H1
             replace H := Option.bind_eq_some_iff.mp H
             obtain ⟨⟨t405, t406⟩, A760, H⟩ := H
             replace H : ((cam_Place.f a0_0 l0_1 a3).bind fun bt407 => (if t406 = 0 then (if bt407.2 = 0 then (if (wrap64 (t405 - bt407.1)) > t397 then (some false) else (if t405 > bt407.1 then (if (wrap64 (a3 - a2)) > t396 then (some false) else (tl_CamBack.l0 kj67 a1 a2 a3 t395 t396 t397 t399 (wrap64 (x15_3 + 1)) a0_0 l0_1)) else (tl_CamBack.l0 kj67 a1 a2 a3 t395 t396 t397 t399 (wrap64 (x15_3 + 1)) a0_0 l0_1))) else (some false)) else (some false))) = some r := H
             have A76 := Aside0.mk A760
             clear A760
             replace H := Option.bind_eq_some_iff.mp H
             obtain ⟨⟨t407, t408⟩, A770, H⟩ := H
             replace H : (if t406 = 0 then (if t408 = 0 then (if (wrap64 (t405 - t407)) > t397 then (some false) else (if t405 > t407 then (if (wrap64 (a3 - a2)) > t396 then (some false) else (tl_CamBack.l0 kj67 a1 a2 a3 t395 t396 t397 t399 (wrap64 (x15_3 + 1)) a0_0 l0_1)) else (tl_CamBack.l0 kj67 a1 a2 a3 t395 t396 t397 t399 (wrap64 (x15_3 + 1)) a0_0 l0_1))) else (some false)) else (some false)) = some r := H
             have A77 := Aside0.mk A770
             clear A770
             by_cases c78 : t406 = 0
             ·
              rw [if_pos c78] at H
              have c78b0 : (t406 == 0) = true := beq_iff_eq.mpr c78
              have c78b1 : (t406 != 0) = false := bne_eq_false_iff_eq.mpr c78
              clear c78
              by_cases c79 : t408 = 0
              ·
               rw [if_pos c79] at H
               have c79b0 : (t408 == 0) = true := beq_iff_eq.mpr c79
               have c79b1 : (t408 != 0) = false := bne_eq_false_iff_eq.mpr c79
               clear c79
               by_cases c80 : (wrap64 (t405 - t407)) > t397
               ·
                rw [if_pos c80] at H
                have c80b0 : decide (t397 < (wrap64 (t405 - t407))) = true := decide_eq_true c80
                clear c80
                as_aux_lemma =>
                 obtain rfl := Option.some.inj H
                 have hcz81_0 : wc.cell? ⟨gb388, 0, none⟩ = some (.int .i64 a0_0) := (blk_cell BK388.out 0).trans rfl
                 have hcz81_1 : wc.cell? ⟨gb388, 1, none⟩ = some (.slice A0_1 l0_1.length c0_1) := (blk_cell BK388.out 1).trans rfl
                 have hfz81_0 := blk_frozen BK388.out 0
                 have hfz81_1 := blk_frozen BK388.out 1
                 go_wp2_with (first | ((with_reducible refine gate_callee (f := 24) rfl ?_); refine goesL_ (some 143) rfl rfl Tryz.func24 (by kernel_rfl) rfl #[.agg #[.int .i64 a0_0, .slice A0_1 l0_1.length c0_1], .int .i64 a2] rfl (by (try simp only [List.map_toArray, List.map_cons, List.map_nil]); first | done | rfl | (simp only [List.length_drop, List.length_take]; rfl)) ?_; (with_reducible refine (cam_Place.calls a0_0 _ _ l0_1 a2 t405 t406 _ ?side1 ?side2 A76.out).mono ?_); (case side1 => repeat (first | exact (Kd.C_below HR0_1.out HB.out) | (with_reducible refine Kd.C_alloc ?_ _) | (with_reducible refine Kd.C_drewN ?_ _) | (with_reducible refine Kd.C_drew ?_))); (case side2 => exact HC0_1.out); rintro e w82 ⟨rfl, hb⟩; refine ⟨_, rfl, ?_⟩; have n0_ := Aside0.mk (Kd.R_below (by (with_reducible repeat (first | apply Kd.R_alloc | apply Kd.R_drewN | apply Kd.R_drew)); exact HO_13.out) hb); have n1_ := Aside0.mk (blk_below (g := gb388) (o := .cells #[.int .i64 a0_0, .slice A0_1 l0_1.length c0_1] 24 (0, 0)) (by (with_reducible repeat (first | refine blk_drewN ?_ _ | refine blk_drew ?_ | refine blk_alloc ?_ _)); exact BK388.out) hb); have n2_ := Aside0.mk (below_step (by repeat (first | (with_reducible first | exact HB.out | apply below_alloc | apply pw_below_drewN | apply below_drew1 | refine below_set ?_ GE388.out) | exact HB.out)) hb); clear HO_13; clear BK388; clear HB; have HO_13 := n0_; have BK388 := n1_; have HB := n2_; clear n0_ n1_ n2_; (try clear hb); (try clear hb2); (try clear hk); (try clear hi); have hcz83_0 : w82.cell? ⟨gb388, 0, none⟩ = some (.int .i64 a0_0) := (blk_cell BK388.out 0).trans rfl; have hcz83_1 : w82.cell? ⟨gb388, 1, none⟩ = some (.slice A0_1 l0_1.length c0_1) := (blk_cell BK388.out 1).trans rfl; have hfz83_0 := blk_frozen BK388.out 0; have hfz83_1 := blk_frozen BK388.out 1) | ((with_reducible refine gate_callee (f := 24) rfl ?_); refine goesL_ (some 149) rfl rfl Tryz.func24 (by kernel_rfl) rfl #[.agg #[.int .i64 a0_0, .slice A0_1 l0_1.length c0_1], .int .i64 a3] rfl (by (try simp only [List.map_toArray, List.map_cons, List.map_nil]); first | done | rfl | (simp only [List.length_drop, List.length_take]; rfl)) ?_; (with_reducible refine (cam_Place.calls a0_0 _ _ l0_1 a3 t407 t408 _ ?side1 ?side2 A77.out).mono ?_); (case side1 => repeat (first | exact (Kd.C_below HR0_1.out HB.out) | (with_reducible refine Kd.C_alloc ?_ _) | (with_reducible refine Kd.C_drewN ?_ _) | (with_reducible refine Kd.C_drew ?_))); (case side2 => exact HC0_1.out); rintro e w84 ⟨rfl, hb⟩; refine ⟨_, rfl, ?_⟩; have n0_ := Aside0.mk (Kd.R_below (by (with_reducible repeat (first | apply Kd.R_alloc | apply Kd.R_drewN | apply Kd.R_drew)); exact HO_13.out) hb); have n1_ := Aside0.mk (blk_below (g := gb388) (o := .cells #[.int .i64 a0_0, .slice A0_1 l0_1.length c0_1] 24 (0, 0)) (by (with_reducible repeat (first | refine blk_drewN ?_ _ | refine blk_drew ?_ | refine blk_alloc ?_ _)); exact BK388.out) hb); have n2_ := Aside0.mk (below_step (by repeat (first | (with_reducible first | exact HB.out | apply below_alloc | apply pw_below_drewN | apply below_drew1 | refine below_set ?_ GE388.out) | exact HB.out)) hb); clear HO_13; clear BK388; clear HB; have HO_13 := n0_; have BK388 := n1_; have HB := n2_; clear n0_ n1_ n2_; (try clear hb); (try clear hb2); (try clear hk); (try clear hi)))
                 go_ret
                 exact ⟨by first | rfl | (simp [errW_none, errW_some] <;> rfl) | (simp [*, errW_none, errW_some] <;> rfl), by repeat (first | (with_reducible first | exact HB.out | apply below_alloc | apply pw_below_drewN | apply below_drew1 | refine below_set ?_ GE388.out) | exact HB.out)⟩
               ·
                rw [if_neg c80] at H
                have c80b0 : decide (t397 < (wrap64 (t405 - t407))) = false := decide_eq_false c80
                clear c80
                by_cases c85 : t405 > t407
                ·
                 rw [if_pos c85] at H
                 have c85b0 : decide (t407 < t405) = true := decide_eq_true c85
                 clear c85
                 by_cases c86 : (wrap64 (a3 - a2)) > t396
                 ·
                  rw [if_pos c86] at H
                  have c86b0 : decide (t396 < (wrap64 (a3 - a2))) = true := decide_eq_true c86
                  clear c86
                  as_aux_lemma =>
                   obtain rfl := Option.some.inj H
                   have hcz87_0 : wc.cell? ⟨gb388, 0, none⟩ = some (.int .i64 a0_0) := (blk_cell BK388.out 0).trans rfl
                   have hcz87_1 : wc.cell? ⟨gb388, 1, none⟩ = some (.slice A0_1 l0_1.length c0_1) := (blk_cell BK388.out 1).trans rfl
                   have hfz87_0 := blk_frozen BK388.out 0
                   have hfz87_1 := blk_frozen BK388.out 1
                   go_wp2_with (first | ((with_reducible refine gate_callee (f := 24) rfl ?_); refine goesL_ (some 143) rfl rfl Tryz.func24 (by kernel_rfl) rfl #[.agg #[.int .i64 a0_0, .slice A0_1 l0_1.length c0_1], .int .i64 a2] rfl (by (try simp only [List.map_toArray, List.map_cons, List.map_nil]); first | done | rfl | (simp only [List.length_drop, List.length_take]; rfl)) ?_; (with_reducible refine (cam_Place.calls a0_0 _ _ l0_1 a2 t405 t406 _ ?side1 ?side2 A76.out).mono ?_); (case side1 => repeat (first | exact (Kd.C_below HR0_1.out HB.out) | (with_reducible refine Kd.C_alloc ?_ _) | (with_reducible refine Kd.C_drewN ?_ _) | (with_reducible refine Kd.C_drew ?_))); (case side2 => exact HC0_1.out); rintro e w88 ⟨rfl, hb⟩; refine ⟨_, rfl, ?_⟩; have n0_ := Aside0.mk (Kd.R_below (by (with_reducible repeat (first | apply Kd.R_alloc | apply Kd.R_drewN | apply Kd.R_drew)); exact HO_13.out) hb); have n1_ := Aside0.mk (blk_below (g := gb388) (o := .cells #[.int .i64 a0_0, .slice A0_1 l0_1.length c0_1] 24 (0, 0)) (by (with_reducible repeat (first | refine blk_drewN ?_ _ | refine blk_drew ?_ | refine blk_alloc ?_ _)); exact BK388.out) hb); have n2_ := Aside0.mk (below_step (by repeat (first | (with_reducible first | exact HB.out | apply below_alloc | apply pw_below_drewN | apply below_drew1 | refine below_set ?_ GE388.out) | exact HB.out)) hb); clear HO_13; clear BK388; clear HB; have HO_13 := n0_; have BK388 := n1_; have HB := n2_; clear n0_ n1_ n2_; (try clear hb); (try clear hb2); (try clear hk); (try clear hi); have hcz89_0 : w88.cell? ⟨gb388, 0, none⟩ = some (.int .i64 a0_0) := (blk_cell BK388.out 0).trans rfl; have hcz89_1 : w88.cell? ⟨gb388, 1, none⟩ = some (.slice A0_1 l0_1.length c0_1) := (blk_cell BK388.out 1).trans rfl; have hfz89_0 := blk_frozen BK388.out 0; have hfz89_1 := blk_frozen BK388.out 1) | ((with_reducible refine gate_callee (f := 24) rfl ?_); refine goesL_ (some 149) rfl rfl Tryz.func24 (by kernel_rfl) rfl #[.agg #[.int .i64 a0_0, .slice A0_1 l0_1.length c0_1], .int .i64 a3] rfl (by (try simp only [List.map_toArray, List.map_cons, List.map_nil]); first | done | rfl | (simp only [List.length_drop, List.length_take]; rfl)) ?_; (with_reducible refine (cam_Place.calls a0_0 _ _ l0_1 a3 t407 t408 _ ?side1 ?side2 A77.out).mono ?_); (case side1 => repeat (first | exact (Kd.C_below HR0_1.out HB.out) | (with_reducible refine Kd.C_alloc ?_ _) | (with_reducible refine Kd.C_drewN ?_ _) | (with_reducible refine Kd.C_drew ?_))); (case side2 => exact HC0_1.out); rintro e w90 ⟨rfl, hb⟩; refine ⟨_, rfl, ?_⟩; have n0_ := Aside0.mk (Kd.R_below (by (with_reducible repeat (first | apply Kd.R_alloc | apply Kd.R_drewN | apply Kd.R_drew)); exact HO_13.out) hb); have n1_ := Aside0.mk (blk_below (g := gb388) (o := .cells #[.int .i64 a0_0, .slice A0_1 l0_1.length c0_1] 24 (0, 0)) (by (with_reducible repeat (first | refine blk_drewN ?_ _ | refine blk_drew ?_ | refine blk_alloc ?_ _)); exact BK388.out) hb); have n2_ := Aside0.mk (below_step (by repeat (first | (with_reducible first | exact HB.out | apply below_alloc | apply pw_below_drewN | apply below_drew1 | refine below_set ?_ GE388.out) | exact HB.out)) hb); clear HO_13; clear BK388; clear HB; have HO_13 := n0_; have BK388 := n1_; have HB := n2_; clear n0_ n1_ n2_; (try clear hb); (try clear hb2); (try clear hk); (try clear hi)))
                   go_ret
                   exact ⟨by first | rfl | (simp [errW_none, errW_some] <;> rfl) | (simp [*, errW_none, errW_some] <;> rfl), by repeat (first | (with_reducible first | exact HB.out | apply below_alloc | apply pw_below_drewN | apply below_drew1 | refine below_set ?_ GE388.out) | exact HB.out)⟩
                 ·
                  rw [if_neg c86] at H
                  have c86b0 : decide (t396 < (wrap64 (a3 - a2))) = false := decide_eq_false c86
                  clear c86
                  as_aux_lemma =>
                   have H' := Aside0.mk H
                   clear H
                   have hcz91_0 : wc.cell? ⟨gb388, 0, none⟩ = some (.int .i64 a0_0) := (blk_cell BK388.out 0).trans rfl
                   have hcz91_1 : wc.cell? ⟨gb388, 1, none⟩ = some (.slice A0_1 l0_1.length c0_1) := (blk_cell BK388.out 1).trans rfl
                   have hfz91_0 := blk_frozen BK388.out 0
                   have hfz91_1 := blk_frozen BK388.out 1
                   go_wp2_with (first | ((with_reducible refine gate_callee (f := 24) rfl ?_); refine goesL_ (some 143) rfl rfl Tryz.func24 (by kernel_rfl) rfl #[.agg #[.int .i64 a0_0, .slice A0_1 l0_1.length c0_1], .int .i64 a2] rfl (by (try simp only [List.map_toArray, List.map_cons, List.map_nil]); first | done | rfl | (simp only [List.length_drop, List.length_take]; rfl)) ?_; (with_reducible refine (cam_Place.calls a0_0 _ _ l0_1 a2 t405 t406 _ ?side1 ?side2 A76.out).mono ?_); (case side1 => repeat (first | exact (Kd.C_below HR0_1.out HB.out) | (with_reducible refine Kd.C_alloc ?_ _) | (with_reducible refine Kd.C_drewN ?_ _) | (with_reducible refine Kd.C_drew ?_))); (case side2 => exact HC0_1.out); rintro e w92 ⟨rfl, hb⟩; refine ⟨_, rfl, ?_⟩; have n0_ := Aside0.mk (Kd.R_below (by (with_reducible repeat (first | apply Kd.R_alloc | apply Kd.R_drewN | apply Kd.R_drew)); exact HO_13.out) hb); have n1_ := Aside0.mk (blk_below (g := gb388) (o := .cells #[.int .i64 a0_0, .slice A0_1 l0_1.length c0_1] 24 (0, 0)) (by (with_reducible repeat (first | refine blk_drewN ?_ _ | refine blk_drew ?_ | refine blk_alloc ?_ _)); exact BK388.out) hb); have n2_ := Aside0.mk (below_step (by repeat (first | (with_reducible first | exact HB.out | apply below_alloc | apply pw_below_drewN | apply below_drew1 | refine below_set ?_ GE388.out) | exact HB.out)) hb); clear HO_13; clear BK388; clear HB; have HO_13 := n0_; have BK388 := n1_; have HB := n2_; clear n0_ n1_ n2_; (try clear hb); (try clear hb2); (try clear hk); (try clear hi); have hcz93_0 : w92.cell? ⟨gb388, 0, none⟩ = some (.int .i64 a0_0) := (blk_cell BK388.out 0).trans rfl; have hcz93_1 : w92.cell? ⟨gb388, 1, none⟩ = some (.slice A0_1 l0_1.length c0_1) := (blk_cell BK388.out 1).trans rfl; have hfz93_0 := blk_frozen BK388.out 0; have hfz93_1 := blk_frozen BK388.out 1) | ((with_reducible refine gate_callee (f := 24) rfl ?_); refine goesL_ (some 149) rfl rfl Tryz.func24 (by kernel_rfl) rfl #[.agg #[.int .i64 a0_0, .slice A0_1 l0_1.length c0_1], .int .i64 a3] rfl (by (try simp only [List.map_toArray, List.map_cons, List.map_nil]); first | done | rfl | (simp only [List.length_drop, List.length_take]; rfl)) ?_; (with_reducible refine (cam_Place.calls a0_0 _ _ l0_1 a3 t407 t408 _ ?side1 ?side2 A77.out).mono ?_); (case side1 => repeat (first | exact (Kd.C_below HR0_1.out HB.out) | (with_reducible refine Kd.C_alloc ?_ _) | (with_reducible refine Kd.C_drewN ?_ _) | (with_reducible refine Kd.C_drew ?_))); (case side2 => exact HC0_1.out); rintro e w94 ⟨rfl, hb⟩; refine ⟨_, rfl, ?_⟩; have n0_ := Aside0.mk (Kd.R_below (by (with_reducible repeat (first | apply Kd.R_alloc | apply Kd.R_drewN | apply Kd.R_drew)); exact HO_13.out) hb); have n1_ := Aside0.mk (blk_below (g := gb388) (o := .cells #[.int .i64 a0_0, .slice A0_1 l0_1.length c0_1] 24 (0, 0)) (by (with_reducible repeat (first | refine blk_drewN ?_ _ | refine blk_drew ?_ | refine blk_alloc ?_ _)); exact BK388.out) hb); have n2_ := Aside0.mk (below_step (by repeat (first | (with_reducible first | exact HB.out | apply below_alloc | apply pw_below_drewN | apply below_drew1 | refine below_set ?_ GE388.out) | exact HB.out)) hb); clear HO_13; clear BK388; clear HB; have HO_13 := n0_; have BK388 := n1_; have HB := n2_; clear n0_ n1_ n2_; (try clear hb); (try clear hb2); (try clear hk); (try clear hi)))
                   go_roundg kj67
                   case measure => have := HJ4.out; have := HJ48.out; have := HK3.out; have := HJ67.out; omega
                   case rel => exact ⟨(wrap64 (x15_3 + 1)), (by first | rfl | (simp; done) | (simp [*]; done)), H', ⟨by have := HJ4.out; have := HJ48.out; have := HK3.out; have := HJ67.out; omega⟩, ⟨by (with_reducible repeat (first | apply Kd.R_alloc | apply Kd.R_drewN | apply Kd.R_drew)); exact HO_13.out⟩, ⟨by (with_reducible repeat (first | refine blk_drewN ?_ _ | refine blk_drew ?_ | refine blk_alloc ?_ _)); exact BK388.out⟩, ⟨by repeat (first | (with_reducible first | exact HB.out | apply below_alloc | apply pw_below_drewN | apply below_drew1 | refine below_set ?_ GE388.out) | exact HB.out)⟩⟩
                ·
                 rw [if_neg c85] at H
                 have c85b0 : decide (t407 < t405) = false := decide_eq_false c85
                 clear c85
                 as_aux_lemma =>
                  have H' := Aside0.mk H
                  clear H
                  have hcz95_0 : wc.cell? ⟨gb388, 0, none⟩ = some (.int .i64 a0_0) := (blk_cell BK388.out 0).trans rfl
                  have hcz95_1 : wc.cell? ⟨gb388, 1, none⟩ = some (.slice A0_1 l0_1.length c0_1) := (blk_cell BK388.out 1).trans rfl
                  have hfz95_0 := blk_frozen BK388.out 0
                  have hfz95_1 := blk_frozen BK388.out 1
                  go_wp2_with (first | ((with_reducible refine gate_callee (f := 24) rfl ?_); refine goesL_ (some 143) rfl rfl Tryz.func24 (by kernel_rfl) rfl #[.agg #[.int .i64 a0_0, .slice A0_1 l0_1.length c0_1], .int .i64 a2] rfl (by (try simp only [List.map_toArray, List.map_cons, List.map_nil]); first | done | rfl | (simp only [List.length_drop, List.length_take]; rfl)) ?_; (with_reducible refine (cam_Place.calls a0_0 _ _ l0_1 a2 t405 t406 _ ?side1 ?side2 A76.out).mono ?_); (case side1 => repeat (first | exact (Kd.C_below HR0_1.out HB.out) | (with_reducible refine Kd.C_alloc ?_ _) | (with_reducible refine Kd.C_drewN ?_ _) | (with_reducible refine Kd.C_drew ?_))); (case side2 => exact HC0_1.out); rintro e w96 ⟨rfl, hb⟩; refine ⟨_, rfl, ?_⟩; have n0_ := Aside0.mk (Kd.R_below (by (with_reducible repeat (first | apply Kd.R_alloc | apply Kd.R_drewN | apply Kd.R_drew)); exact HO_13.out) hb); have n1_ := Aside0.mk (blk_below (g := gb388) (o := .cells #[.int .i64 a0_0, .slice A0_1 l0_1.length c0_1] 24 (0, 0)) (by (with_reducible repeat (first | refine blk_drewN ?_ _ | refine blk_drew ?_ | refine blk_alloc ?_ _)); exact BK388.out) hb); have n2_ := Aside0.mk (below_step (by repeat (first | (with_reducible first | exact HB.out | apply below_alloc | apply pw_below_drewN | apply below_drew1 | refine below_set ?_ GE388.out) | exact HB.out)) hb); clear HO_13; clear BK388; clear HB; have HO_13 := n0_; have BK388 := n1_; have HB := n2_; clear n0_ n1_ n2_; (try clear hb); (try clear hb2); (try clear hk); (try clear hi); have hcz97_0 : w96.cell? ⟨gb388, 0, none⟩ = some (.int .i64 a0_0) := (blk_cell BK388.out 0).trans rfl; have hcz97_1 : w96.cell? ⟨gb388, 1, none⟩ = some (.slice A0_1 l0_1.length c0_1) := (blk_cell BK388.out 1).trans rfl; have hfz97_0 := blk_frozen BK388.out 0; have hfz97_1 := blk_frozen BK388.out 1) | ((with_reducible refine gate_callee (f := 24) rfl ?_); refine goesL_ (some 149) rfl rfl Tryz.func24 (by kernel_rfl) rfl #[.agg #[.int .i64 a0_0, .slice A0_1 l0_1.length c0_1], .int .i64 a3] rfl (by (try simp only [List.map_toArray, List.map_cons, List.map_nil]); first | done | rfl | (simp only [List.length_drop, List.length_take]; rfl)) ?_; (with_reducible refine (cam_Place.calls a0_0 _ _ l0_1 a3 t407 t408 _ ?side1 ?side2 A77.out).mono ?_); (case side1 => repeat (first | exact (Kd.C_below HR0_1.out HB.out) | (with_reducible refine Kd.C_alloc ?_ _) | (with_reducible refine Kd.C_drewN ?_ _) | (with_reducible refine Kd.C_drew ?_))); (case side2 => exact HC0_1.out); rintro e w98 ⟨rfl, hb⟩; refine ⟨_, rfl, ?_⟩; have n0_ := Aside0.mk (Kd.R_below (by (with_reducible repeat (first | apply Kd.R_alloc | apply Kd.R_drewN | apply Kd.R_drew)); exact HO_13.out) hb); have n1_ := Aside0.mk (blk_below (g := gb388) (o := .cells #[.int .i64 a0_0, .slice A0_1 l0_1.length c0_1] 24 (0, 0)) (by (with_reducible repeat (first | refine blk_drewN ?_ _ | refine blk_drew ?_ | refine blk_alloc ?_ _)); exact BK388.out) hb); have n2_ := Aside0.mk (below_step (by repeat (first | (with_reducible first | exact HB.out | apply below_alloc | apply pw_below_drewN | apply below_drew1 | refine below_set ?_ GE388.out) | exact HB.out)) hb); clear HO_13; clear BK388; clear HB; have HO_13 := n0_; have BK388 := n1_; have HB := n2_; clear n0_ n1_ n2_; (try clear hb); (try clear hb2); (try clear hk); (try clear hi)))
                  go_roundg kj67
                  case measure => have := HJ4.out; have := HJ48.out; have := HK3.out; have := HJ67.out; omega
                  case rel => exact ⟨(wrap64 (x15_3 + 1)), (by first | rfl | (simp; done) | (simp [*]; done)), H', ⟨by have := HJ4.out; have := HJ48.out; have := HK3.out; have := HJ67.out; omega⟩, ⟨by (with_reducible repeat (first | apply Kd.R_alloc | apply Kd.R_drewN | apply Kd.R_drew)); exact HO_13.out⟩, ⟨by (with_reducible repeat (first | refine blk_drewN ?_ _ | refine blk_drew ?_ | refine blk_alloc ?_ _)); exact BK388.out⟩, ⟨by repeat (first | (with_reducible first | exact HB.out | apply below_alloc | apply pw_below_drewN | apply below_drew1 | refine below_set ?_ GE388.out) | exact HB.out)⟩⟩
              ·
               rw [if_neg c79] at H
               have c79b0 : (t408 == 0) = false := beq_eq_false_iff_ne.mpr c79
               have c79b1 : (t408 != 0) = true := bne_iff_ne.mpr c79
               as_aux_lemma =>
                obtain rfl := Option.some.inj H
                have hcz99_0 : wc.cell? ⟨gb388, 0, none⟩ = some (.int .i64 a0_0) := (blk_cell BK388.out 0).trans rfl
                have hcz99_1 : wc.cell? ⟨gb388, 1, none⟩ = some (.slice A0_1 l0_1.length c0_1) := (blk_cell BK388.out 1).trans rfl
                have hfz99_0 := blk_frozen BK388.out 0
                have hfz99_1 := blk_frozen BK388.out 1
                go_wp2_with (first | ((with_reducible refine gate_callee (f := 24) rfl ?_); refine goesL_ (some 143) rfl rfl Tryz.func24 (by kernel_rfl) rfl #[.agg #[.int .i64 a0_0, .slice A0_1 l0_1.length c0_1], .int .i64 a2] rfl (by (try simp only [List.map_toArray, List.map_cons, List.map_nil]); first | done | rfl | (simp only [List.length_drop, List.length_take]; rfl)) ?_; (with_reducible refine (cam_Place.calls a0_0 _ _ l0_1 a2 t405 t406 _ ?side1 ?side2 A76.out).mono ?_); (case side1 => repeat (first | exact (Kd.C_below HR0_1.out HB.out) | (with_reducible refine Kd.C_alloc ?_ _) | (with_reducible refine Kd.C_drewN ?_ _) | (with_reducible refine Kd.C_drew ?_))); (case side2 => exact HC0_1.out); rintro e w100 ⟨rfl, hb⟩; refine ⟨_, rfl, ?_⟩; have n0_ := Aside0.mk (Kd.R_below (by (with_reducible repeat (first | apply Kd.R_alloc | apply Kd.R_drewN | apply Kd.R_drew)); exact HO_13.out) hb); have n1_ := Aside0.mk (blk_below (g := gb388) (o := .cells #[.int .i64 a0_0, .slice A0_1 l0_1.length c0_1] 24 (0, 0)) (by (with_reducible repeat (first | refine blk_drewN ?_ _ | refine blk_drew ?_ | refine blk_alloc ?_ _)); exact BK388.out) hb); have n2_ := Aside0.mk (below_step (by repeat (first | (with_reducible first | exact HB.out | apply below_alloc | apply pw_below_drewN | apply below_drew1 | refine below_set ?_ GE388.out) | exact HB.out)) hb); clear HO_13; clear BK388; clear HB; have HO_13 := n0_; have BK388 := n1_; have HB := n2_; clear n0_ n1_ n2_; (try clear hb); (try clear hb2); (try clear hk); (try clear hi); have hcz101_0 : w100.cell? ⟨gb388, 0, none⟩ = some (.int .i64 a0_0) := (blk_cell BK388.out 0).trans rfl; have hcz101_1 : w100.cell? ⟨gb388, 1, none⟩ = some (.slice A0_1 l0_1.length c0_1) := (blk_cell BK388.out 1).trans rfl; have hfz101_0 := blk_frozen BK388.out 0; have hfz101_1 := blk_frozen BK388.out 1) | ((with_reducible refine gate_callee (f := 24) rfl ?_); refine goesL_ (some 149) rfl rfl Tryz.func24 (by kernel_rfl) rfl #[.agg #[.int .i64 a0_0, .slice A0_1 l0_1.length c0_1], .int .i64 a3] rfl (by (try simp only [List.map_toArray, List.map_cons, List.map_nil]); first | done | rfl | (simp only [List.length_drop, List.length_take]; rfl)) ?_; (with_reducible refine (cam_Place.calls a0_0 _ _ l0_1 a3 t407 t408 _ ?side1 ?side2 A77.out).mono ?_); (case side1 => repeat (first | exact (Kd.C_below HR0_1.out HB.out) | (with_reducible refine Kd.C_alloc ?_ _) | (with_reducible refine Kd.C_drewN ?_ _) | (with_reducible refine Kd.C_drew ?_))); (case side2 => exact HC0_1.out); rintro e w102 ⟨rfl, hb⟩; refine ⟨_, rfl, ?_⟩; have n0_ := Aside0.mk (Kd.R_below (by (with_reducible repeat (first | apply Kd.R_alloc | apply Kd.R_drewN | apply Kd.R_drew)); exact HO_13.out) hb); have n1_ := Aside0.mk (blk_below (g := gb388) (o := .cells #[.int .i64 a0_0, .slice A0_1 l0_1.length c0_1] 24 (0, 0)) (by (with_reducible repeat (first | refine blk_drewN ?_ _ | refine blk_drew ?_ | refine blk_alloc ?_ _)); exact BK388.out) hb); have n2_ := Aside0.mk (below_step (by repeat (first | (with_reducible first | exact HB.out | apply below_alloc | apply pw_below_drewN | apply below_drew1 | refine below_set ?_ GE388.out) | exact HB.out)) hb); clear HO_13; clear BK388; clear HB; have HO_13 := n0_; have BK388 := n1_; have HB := n2_; clear n0_ n1_ n2_; (try clear hb); (try clear hb2); (try clear hk); (try clear hi)))
                go_ret
                exact ⟨by first | rfl | (simp [errW_none, errW_some] <;> rfl) | (simp [*, errW_none, errW_some] <;> rfl), by repeat (first | (with_reducible first | exact HB.out | apply below_alloc | apply pw_below_drewN | apply below_drew1 | refine below_set ?_ GE388.out) | exact HB.out)⟩
             ·
              rw [if_neg c78] at H
              have c78b0 : (t406 == 0) = false := beq_eq_false_iff_ne.mpr c78
              have c78b1 : (t406 != 0) = true := bne_iff_ne.mpr c78
              as_aux_lemma =>
               obtain rfl := Option.some.inj H
               have hcz103_0 : wc.cell? ⟨gb388, 0, none⟩ = some (.int .i64 a0_0) := (blk_cell BK388.out 0).trans rfl
               have hcz103_1 : wc.cell? ⟨gb388, 1, none⟩ = some (.slice A0_1 l0_1.length c0_1) := (blk_cell BK388.out 1).trans rfl
               have hfz103_0 := blk_frozen BK388.out 0
               have hfz103_1 := blk_frozen BK388.out 1
               go_wp2_with (first | ((with_reducible refine gate_callee (f := 24) rfl ?_); refine goesL_ (some 143) rfl rfl Tryz.func24 (by kernel_rfl) rfl #[.agg #[.int .i64 a0_0, .slice A0_1 l0_1.length c0_1], .int .i64 a2] rfl (by (try simp only [List.map_toArray, List.map_cons, List.map_nil]); first | done | rfl | (simp only [List.length_drop, List.length_take]; rfl)) ?_; (with_reducible refine (cam_Place.calls a0_0 _ _ l0_1 a2 t405 t406 _ ?side1 ?side2 A76.out).mono ?_); (case side1 => repeat (first | exact (Kd.C_below HR0_1.out HB.out) | (with_reducible refine Kd.C_alloc ?_ _) | (with_reducible refine Kd.C_drewN ?_ _) | (with_reducible refine Kd.C_drew ?_))); (case side2 => exact HC0_1.out); rintro e w104 ⟨rfl, hb⟩; refine ⟨_, rfl, ?_⟩; have n0_ := Aside0.mk (Kd.R_below (by (with_reducible repeat (first | apply Kd.R_alloc | apply Kd.R_drewN | apply Kd.R_drew)); exact HO_13.out) hb); have n1_ := Aside0.mk (blk_below (g := gb388) (o := .cells #[.int .i64 a0_0, .slice A0_1 l0_1.length c0_1] 24 (0, 0)) (by (with_reducible repeat (first | refine blk_drewN ?_ _ | refine blk_drew ?_ | refine blk_alloc ?_ _)); exact BK388.out) hb); have n2_ := Aside0.mk (below_step (by repeat (first | (with_reducible first | exact HB.out | apply below_alloc | apply pw_below_drewN | apply below_drew1 | refine below_set ?_ GE388.out) | exact HB.out)) hb); clear HO_13; clear BK388; clear HB; have HO_13 := n0_; have BK388 := n1_; have HB := n2_; clear n0_ n1_ n2_; (try clear hb); (try clear hb2); (try clear hk); (try clear hi); have hcz105_0 : w104.cell? ⟨gb388, 0, none⟩ = some (.int .i64 a0_0) := (blk_cell BK388.out 0).trans rfl; have hcz105_1 : w104.cell? ⟨gb388, 1, none⟩ = some (.slice A0_1 l0_1.length c0_1) := (blk_cell BK388.out 1).trans rfl; have hfz105_0 := blk_frozen BK388.out 0; have hfz105_1 := blk_frozen BK388.out 1) | ((with_reducible refine gate_callee (f := 24) rfl ?_); refine goesL_ (some 149) rfl rfl Tryz.func24 (by kernel_rfl) rfl #[.agg #[.int .i64 a0_0, .slice A0_1 l0_1.length c0_1], .int .i64 a3] rfl (by (try simp only [List.map_toArray, List.map_cons, List.map_nil]); first | done | rfl | (simp only [List.length_drop, List.length_take]; rfl)) ?_; (with_reducible refine (cam_Place.calls a0_0 _ _ l0_1 a3 t407 t408 _ ?side1 ?side2 A77.out).mono ?_); (case side1 => repeat (first | exact (Kd.C_below HR0_1.out HB.out) | (with_reducible refine Kd.C_alloc ?_ _) | (with_reducible refine Kd.C_drewN ?_ _) | (with_reducible refine Kd.C_drew ?_))); (case side2 => exact HC0_1.out); rintro e w106 ⟨rfl, hb⟩; refine ⟨_, rfl, ?_⟩; have n0_ := Aside0.mk (Kd.R_below (by (with_reducible repeat (first | apply Kd.R_alloc | apply Kd.R_drewN | apply Kd.R_drew)); exact HO_13.out) hb); have n1_ := Aside0.mk (blk_below (g := gb388) (o := .cells #[.int .i64 a0_0, .slice A0_1 l0_1.length c0_1] 24 (0, 0)) (by (with_reducible repeat (first | refine blk_drewN ?_ _ | refine blk_drew ?_ | refine blk_alloc ?_ _)); exact BK388.out) hb); have n2_ := Aside0.mk (below_step (by repeat (first | (with_reducible first | exact HB.out | apply below_alloc | apply pw_below_drewN | apply below_drew1 | refine below_set ?_ GE388.out) | exact HB.out)) hb); clear HO_13; clear BK388; clear HB; have HO_13 := n0_; have BK388 := n1_; have HB := n2_; clear n0_ n1_ n2_; (try clear hb); (try clear hb2); (try clear hk); (try clear hi)))
               go_ret
               exact ⟨by first | rfl | (simp [errW_none, errW_some] <;> rfl) | (simp [*, errW_none, errW_some] <;> rfl), by repeat (first | (with_reducible first | exact HB.out | apply below_alloc | apply pw_below_drewN | apply below_drew1 | refine below_set ?_ GE388.out) | exact HB.out)⟩
         ·
          rw [if_neg c67] at H
          have c67b0 : decide ((wrap64 (x15_3 + 1)) < (t399.length : Int)) = false := decide_eq_false c67
          clear c67
          have HC107 := Aside0.mk H
          clear H
          obtain ⟨Ao108, co108, eo108⟩ := Kd.R_slice HO_13.out
          subst eo108
          have hcz109_0 : wr.cell? ⟨gb388, 0, none⟩ = some (.int .i64 a0_0) := (blk_cell BK388.out 0).trans rfl
          have hcz109_1 : wr.cell? ⟨gb388, 1, none⟩ = some (.slice A0_1 l0_1.length c0_1) := (blk_cell BK388.out 1).trans rfl
          have hfz109_0 := blk_frozen BK388.out 0
          have hfz109_1 := blk_frozen BK388.out 1
          go_upto_region 16 with (fail)
          go_cut [190] (fun v190 wc => ∃ (kq : Nat) (x190_106 : Bool), v190 = .bool x190_106 ∧ Aside0 (tl_CamBack.j4 kq a1 t395 (l0_1.length : Int) x190_106 a0_0 l0_1 = some r) ∧ Aside0 (kq ≤ k3) ∧ Aside0 (wc.heap[gb388]? = some (.cells #[.int .i64 a0_0, (.slice A0_1 l0_1.length c0_1)] 24 (0, 0))) ∧ Aside0 (Below w.heap.size w wc))
          case first =>
           have H := HC107.out
           clear HC107
           by_cases c110 : a1 < (wrap64 (2 * (l0_1.length : Int)))
           ·
            rw [if_pos c110] at H
            have c110b0 : decide (a1 < (wrap64 (2 * (l0_1.length : Int)))) = true := decide_eq_true c110
            clear c110
            (first | rw [c110b0] | (simp only [i64_w, i32_w]; rw [c110b0]) | skip)
            as_aux_lemma =>
             have H' := Aside0.mk H
             clear H
             go_wp2
             go_meet
             case rel => exact ⟨_, (true), (by first | rfl | (simp; done) | (simp [*]; done)), H', ⟨by have := HJ4.out; have := HJ48.out; have := HK3.out; first | omega | exact Nat.le_refl _⟩, ⟨by (with_reducible repeat (first | refine blk_drewN ?_ _ | refine blk_drew ?_ | refine blk_alloc ?_ _)); exact BK388.out⟩, ⟨by repeat (first | (with_reducible first | exact HB.out | apply below_alloc | apply pw_below_drewN | apply below_drew1 | refine below_set ?_ GE388.out) | exact HB.out)⟩⟩
           ·
            rw [if_neg c110] at H
            have c110b0 : decide (a1 < (wrap64 (2 * (l0_1.length : Int)))) = false := decide_eq_false c110
            clear c110
            (first | rw [c110b0] | (simp only [i64_w, i32_w]; rw [c110b0]) | skip)
            replace H := Option.bind_eq_some_iff.mp H
            obtain ⟨t409, A1110, H⟩ := H
            replace H : (tl_CamBack.j4 k3 a1 t395 (l0_1.length : Int) (!t409) a0_0 l0_1) = some r := H
            have A111 := Aside0.mk A1110
            clear A1110
            as_aux_lemma =>
             have H' := Aside0.mk H
             clear H
             go_wp2_with (first | (go_at_call 14; (with_reducible refine (tr_Time.calls (wrap64 (a1 + (l0_1.length : Int))) t409 _ A111.out).mono ?_); rintro e w' ⟨rfl, ⟨nd, rfl⟩⟩))
             go_meet
             case rel => exact ⟨_, (!t409), (by first | rfl | (simp; done) | (simp [*]; done)), H', ⟨by have := HJ4.out; have := HJ48.out; have := HK3.out; first | omega | exact Nat.le_refl _⟩, ⟨by (with_reducible repeat (first | refine blk_drewN ?_ _ | refine blk_drew ?_ | refine blk_alloc ?_ _)); exact BK388.out⟩, ⟨by repeat (first | (with_reducible first | exact HB.out | apply below_alloc | apply pw_below_drewN | apply below_drew1 | refine below_set ?_ GE388.out) | exact HB.out)⟩⟩
          case rest =>
           clear HC107
           try clear c1
           try clear c2
           try clear p2
           try clear c3
           try clear c4
           try clear p4
           try clear q4
           try clear hx4
           try clear c5
           try clear c6
           try clear p6
           try clear c7
           try clear c8
           try clear c10
           try clear c11
           try clear c12
           try clear c14
           try clear c16
           try clear c17
           try clear c17b0
           try clear c24
           try clear c30
           try clear p40
           try clear q40
           try clear hx40
           try clear c44
           try clear c54
           try clear c54b0
           try clear c54b1
           try clear c55
           try clear c55b0
           try clear c55b1
           try clear c56
           try clear c56b0
           try clear c57
           try clear c57b0
           try clear c58
           try clear c58b0
           try clear c59
           try clear c59b0
           try clear c59b1
           try clear c61
           try clear c61b0
           try clear c63
           try clear c63b0
           try clear c63b1
           try clear c63b2
           try clear p64
           try clear c66
           try clear c67
           try clear c67b0
           try clear c70
           try clear c70b0
           try clear c71
           try clear c71b0
           try clear c72
           try clear c72b0
           try clear c74
           try clear c74b0
           try clear c75
           try clear c78
           try clear c78b0
           try clear c78b1
           try clear c79
           try clear c79b0
           try clear c79b1
           try clear c80
           try clear c80b0
           try clear c85
           try clear c85b0
           try clear c86
           try clear c86b0
           try clear c110
           try clear c110b0
           try clear hcz101_0
           try clear hcz101_1
           try clear hcz103_0
           try clear hcz103_1
           try clear hcz105_0
           try clear hcz105_1
           try clear hcz109_0
           try clear hcz109_1
           try clear hcz18_0
           try clear hcz18_1
           try clear hcz20_0
           try clear hcz20_1
           try clear hcz22_0
           try clear hcz22_1
           try clear hcz24_0
           try clear hcz24_1
           try clear hcz26_0
           try clear hcz26_1
           try clear hcz28_0
           try clear hcz28_1
           try clear hcz30_0
           try clear hcz30_1
           try clear hcz32_0
           try clear hcz32_1
           try clear hcz34_0
           try clear hcz34_1
           try clear hcz36_0
           try clear hcz36_1
           try clear hcz38_0
           try clear hcz38_1
           try clear hcz40_0
           try clear hcz40_1
           try clear hcz42_0
           try clear hcz42_1
           try clear hcz50_0
           try clear hcz50_1
           try clear hcz52_0
           try clear hcz52_1
           try clear hcz81_0
           try clear hcz81_1
           try clear hcz83_0
           try clear hcz83_1
           try clear hcz87_0
           try clear hcz87_1
           try clear hcz89_0
           try clear hcz89_1
           try clear hcz91_0
           try clear hcz91_1
           try clear hcz93_0
           try clear hcz93_1
           try clear hcz95_0
           try clear hcz95_1
           try clear hcz97_0
           try clear hcz97_1
           try clear hcz99_0
           try clear hcz99_1
           try clear hfz101_0
           try clear hfz101_1
           try clear hfz103_0
           try clear hfz103_1
           try clear hfz105_0
           try clear hfz105_1
           try clear hfz109_0
           try clear hfz109_1
           try clear hfz18_0
           try clear hfz18_1
           try clear hfz20_0
           try clear hfz20_1
           try clear hfz22_0
           try clear hfz22_1
           try clear hfz24_0
           try clear hfz24_1
           try clear hfz26_0
           try clear hfz26_1
           try clear hfz28_0
           try clear hfz28_1
           try clear hfz30_0
           try clear hfz30_1
           try clear hfz32_0
           try clear hfz32_1
           try clear hfz34_0
           try clear hfz34_1
           try clear hfz36_0
           try clear hfz36_1
           try clear hfz38_0
           try clear hfz38_1
           try clear hfz40_0
           try clear hfz40_1
           try clear hfz42_0
           try clear hfz42_1
           try clear hfz50_0
           try clear hfz50_1
           try clear hfz52_0
           try clear hfz52_1
           try clear hfz81_0
           try clear hfz81_1
           try clear hfz83_0
           try clear hfz83_1
           try clear hfz87_0
           try clear hfz87_1
           try clear hfz89_0
           try clear hfz89_1
           try clear hfz91_0
           try clear hfz91_1
           try clear hfz93_0
           try clear hfz93_1
           try clear hfz95_0
           try clear hfz95_1
           try clear hfz97_0
           try clear hfz97_1
           try clear hfz99_0
           try clear hfz99_1
           try clear hx403_0
           try clear hx404_0
           try clear p2
           try clear p4
           try clear p40
           try clear p403
           try clear p404
           try clear p6
           try clear p64
           try clear q4
           try clear q40
           try clear q403
           try clear q404
           obtain ⟨kq, x190_106, rfl, HA, HJ106, BK388, HB⟩ := hcut
           cases kq with
           | zero => exact absurd HA.out (by simp [tl_CamBack.j4])
           | succ kj106 =>
            have H := HA.out
            clear HA
            simp only [tl_CamBack.j4] at H
            by_cases c112 : x190_106 = true
            ·
             subst c112
             have H1 : ((tellurionlaw04_known.f).bind fun t410 => (some t410)) = some r := by rw [if_pos rfl] at H; exact H
             clear H
             have H := H1
             clear H1
             replace H := Option.bind_eq_some_iff.mp H
             obtain ⟨t410, A1130, H⟩ := H
             replace H : (some t410) = some r := H
             have A113 := Aside0.mk A1130
             clear A1130
             as_aux_lemma =>
              obtain rfl := Option.some.inj H
              go_wp2_with (first | ((with_reducible refine gate_callee (f := 11) rfl ?_); refine goesL_ (some 191) rfl rfl Tryz.func11 (by kernel_rfl) rfl #[] rfl (by (try simp only [List.map_toArray, List.map_cons, List.map_nil]); first | done | rfl | (simp only [List.length_drop, List.length_take]; rfl)) ?_; (with_reducible refine (tellurionlaw04_known.calls  t410 _ A113.out).mono ?_); rintro e w114 ⟨rfl, hb⟩; refine ⟨_, rfl, ?_⟩; have n0_ := Aside0.mk (blk_below (g := gb388) (o := .cells #[.int .i64 a0_0, .slice A0_1 l0_1.length c0_1] 24 (0, 0)) (by (with_reducible repeat (first | refine blk_drewN ?_ _ | refine blk_drew ?_ | refine blk_alloc ?_ _)); exact BK388.out) hb); have n1_ := Aside0.mk (below_step (by repeat (first | (with_reducible first | exact HB.out | apply below_alloc | apply pw_below_drewN | apply below_drew1 | refine below_set ?_ GE388.out) | exact HB.out)) hb); clear BK388; clear HB; have BK388 := n0_; have HB := n1_; clear n0_ n1_; (try clear hb); (try clear hb2); (try clear hk); (try clear hi)))
              go_ret
              exact ⟨by first | rfl | (simp [errW_none, errW_some] <;> rfl) | (simp [*, errW_none, errW_some] <;> rfl), by repeat (first | (with_reducible first | exact HB.out | apply below_alloc | apply pw_below_drewN | apply below_drew1 | refine below_set ?_ GE388.out) | exact HB.out)⟩
            ·
             replace c112 := Bool.eq_false_iff.mpr c112
             subst c112
             have H1 : ((cam_Stations.f kj106 a0_0 l0_1 (wrap64 ((wrap64 (a1 - (l0_1.length : Int))) + 1)) a1).bind fun bt411 => ((cam_Retreats.f kj106 a0_0 l0_1 (wrap64 (a1 + (l0_1.length : Int)))).bind fun bt415 => (if bt411.2 = 0 then (if bt415.2.2.2 = 0 then (if ((bt411.1.length : Int) % 2) = 0 then (if bt415.1 = (wrap64 (t395 + (wrap64 ((bt411.1.length : Int) / 2)))) then ((tellurionlaw04_known.f).bind fun t419 => (some t419)) else (some false)) else (some false)) else (some false)) else (some false)))) = some r := by rw [if_neg (show ¬ (false = true) by decide)] at H; exact H
             clear H
             have H := H1
             clear H1
             replace H := Option.bind_eq_some_iff.mp H
             obtain ⟨⟨t411, t414⟩, A1150, H⟩ := H
             replace H : ((cam_Retreats.f kj106 a0_0 l0_1 (wrap64 (a1 + (l0_1.length : Int)))).bind fun bt415 => (if t414 = 0 then (if bt415.2.2.2 = 0 then (if ((t411.length : Int) % 2) = 0 then (if bt415.1 = (wrap64 (t395 + (wrap64 ((t411.length : Int) / 2)))) then ((tellurionlaw04_known.f).bind fun t419 => (some t419)) else (some false)) else (some false)) else (some false)) else (some false))) = some r := H
             have A115 := Aside0.mk A1150
             clear A1150
             replace H := Option.bind_eq_some_iff.mp H
             obtain ⟨⟨t415, t416, t417, t418⟩, A1160, H⟩ := H
             replace H : (if t414 = 0 then (if t418 = 0 then (if ((t411.length : Int) % 2) = 0 then (if t415 = (wrap64 (t395 + (wrap64 ((t411.length : Int) / 2)))) then ((tellurionlaw04_known.f).bind fun t419 => (some t419)) else (some false)) else (some false)) else (some false)) else (some false)) = some r := H
             have A116 := Aside0.mk A1160
             clear A1160
             by_cases c117 : t414 = 0
             ·
              rw [if_pos c117] at H
              have c117b0 : (t414 == 0) = true := beq_iff_eq.mpr c117
              have c117b1 : (t414 != 0) = false := bne_eq_false_iff_eq.mpr c117
              clear c117
              by_cases c118 : t418 = 0
              ·
               rw [if_pos c118] at H
               have c118b0 : (t418 == 0) = true := beq_iff_eq.mpr c118
               have c118b1 : (t418 != 0) = false := bne_eq_false_iff_eq.mpr c118
               clear c118
               by_cases c119 : ((t411.length : Int) % 2) = 0
               ·
                rw [if_pos c119] at H
                have c119b0 : (((t411.length : Int) % 2) == 0) = true := beq_iff_eq.mpr c119
                have c119b1 : (((t411.length : Int) % 2) != 0) = false := bne_eq_false_iff_eq.mpr c119
                clear c119
                by_cases c120 : t415 = (wrap64 (t395 + (wrap64 ((t411.length : Int) / 2))))
                ·
                 rw [if_pos c120] at H
                 have c120b0 : (t415 == (wrap64 (t395 + (wrap64 ((t411.length : Int) / 2))))) = true := beq_iff_eq.mpr c120
                 have c120b1 : (t415 != (wrap64 (t395 + (wrap64 ((t411.length : Int) / 2))))) = false := bne_eq_false_iff_eq.mpr c120
                 clear c120
                 replace H := Option.bind_eq_some_iff.mp H
                 obtain ⟨t419, A1210, H⟩ := H
                 replace H : (some t419) = some r := H
                 have A121 := Aside0.mk A1210
                 clear A1210
                 as_aux_lemma =>
                  obtain rfl := Option.some.inj H
                  have hcz122_0 : wc.cell? ⟨gb388, 0, none⟩ = some (.int .i64 a0_0) := (blk_cell BK388.out 0).trans rfl
                  have hcz122_1 : wc.cell? ⟨gb388, 1, none⟩ = some (.slice A0_1 l0_1.length c0_1) := (blk_cell BK388.out 1).trans rfl
                  have hfz122_0 := blk_frozen BK388.out 0
                  have hfz122_1 := blk_frozen BK388.out 1
                  go_wp2_with (first | ((with_reducible refine gate_callee (f := 30) rfl ?_); refine goesL_ (some 199) rfl rfl Tryz.func30 (by kernel_rfl) rfl #[.agg #[.int .i64 a0_0, .slice A0_1 l0_1.length c0_1], .int .i64 (wrap64 ((wrap64 (a1 - (l0_1.length : Int))) + 1)), .int .i64 a1] rfl (by (try simp only [List.map_toArray, List.map_cons, List.map_nil]); first | done | rfl | (simp only [List.length_drop, List.length_take]; rfl)) ?_; (with_reducible refine (cam_Stations.calls kj106 a0_0 _ _ l0_1 (wrap64 ((wrap64 (a1 - (l0_1.length : Int))) + 1)) a1 t411 t414 _ ?side1 ?side2 A115.out).mono ?_); (case side1 => repeat (first | exact (Kd.C_below HR0_1.out HB.out) | (with_reducible refine Kd.C_alloc ?_ _) | (with_reducible refine Kd.C_drewN ?_ _) | (with_reducible refine Kd.C_drew ?_))); (case side2 => exact HC0_1.out); rintro e w123 ⟨v412, rfl, ho0, hb⟩; refine ⟨_, rfl, ?_⟩; have n0_ := Aside0.mk (Kd.R_lower ho0 (below_size (by repeat (first | (with_reducible first | exact HB.out | apply below_alloc | apply pw_below_drewN | apply below_drew1 | refine below_set ?_ GE388.out) | exact HB.out)))); have n1_ := Aside0.mk (blk_below (g := gb388) (o := .cells #[.int .i64 a0_0, .slice A0_1 l0_1.length c0_1] 24 (0, 0)) (by (with_reducible repeat (first | refine blk_drewN ?_ _ | refine blk_drew ?_ | refine blk_alloc ?_ _)); exact BK388.out) hb); have n2_ := Aside0.mk (below_step (by repeat (first | (with_reducible first | exact HB.out | apply below_alloc | apply pw_below_drewN | apply below_drew1 | refine below_set ?_ GE388.out) | exact HB.out)) hb); clear BK388; clear HB; have HO413 := n0_; have BK388 := n1_; have HB := n2_; clear n0_ n1_ n2_; (try clear hb); (try clear hb2); (try clear hk); (try clear hi); (try clear ho0); have hcz124_0 : w123.cell? ⟨gb388, 0, none⟩ = some (.int .i64 a0_0) := (blk_cell BK388.out 0).trans rfl; have hcz124_1 : w123.cell? ⟨gb388, 1, none⟩ = some (.slice A0_1 l0_1.length c0_1) := (blk_cell BK388.out 1).trans rfl; have hfz124_0 := blk_frozen BK388.out 0; have hfz124_1 := blk_frozen BK388.out 1) | ((with_reducible refine gate_callee (f := 12) rfl ?_); refine goesL_ (some 207) rfl rfl Tryz.func12 (by kernel_rfl) rfl #[.agg #[.int .i64 a0_0, .slice A0_1 l0_1.length c0_1], .int .i64 (wrap64 (a1 + (l0_1.length : Int)))] rfl (by (try simp only [List.map_toArray, List.map_cons, List.map_nil]); first | done | rfl | (simp only [List.length_drop, List.length_take]; rfl)) ?_; (with_reducible refine (cam_Retreats.calls kj106 a0_0 _ _ l0_1 (wrap64 (a1 + (l0_1.length : Int))) t415 t416 t417 t418 _ ?side1 ?side2 A116.out).mono ?_); (case side1 => repeat (first | exact (Kd.C_below HR0_1.out HB.out) | (with_reducible refine Kd.C_alloc ?_ _) | (with_reducible refine Kd.C_drewN ?_ _) | (with_reducible refine Kd.C_drew ?_))); (case side2 => exact HC0_1.out); rintro e w125 ⟨rfl, hb⟩; refine ⟨_, rfl, ?_⟩; have n0_ := Aside0.mk (Kd.R_below (by (with_reducible repeat (first | apply Kd.R_alloc | apply Kd.R_drewN | apply Kd.R_drew)); exact HO413.out) hb); have n1_ := Aside0.mk (blk_below (g := gb388) (o := .cells #[.int .i64 a0_0, .slice A0_1 l0_1.length c0_1] 24 (0, 0)) (by (with_reducible repeat (first | refine blk_drewN ?_ _ | refine blk_drew ?_ | refine blk_alloc ?_ _)); exact BK388.out) hb); have n2_ := Aside0.mk (below_step (by repeat (first | (with_reducible first | exact HB.out | apply below_alloc | apply pw_below_drewN | apply below_drew1 | refine below_set ?_ GE388.out) | exact HB.out)) hb); clear HO413; clear BK388; clear HB; have HO413 := n0_; have BK388 := n1_; have HB := n2_; clear n0_ n1_ n2_; (try clear hb); (try clear hb2); (try clear hk); (try clear hi); obtain ⟨Ao126, co126, eo126⟩ := Kd.R_slice HO413.out; subst eo126) | (go_at_call 11; (with_reducible refine (tellurionlaw04_known.calls  t419 _ A121.out).mono ?_); rintro e w127 ⟨rfl, hb⟩; have n0_ := Aside0.mk (Kd.R_below (by (with_reducible repeat (first | apply Kd.R_alloc | apply Kd.R_drewN | apply Kd.R_drew)); exact HO413.out) hb); have n1_ := Aside0.mk (blk_below (g := gb388) (o := .cells #[.int .i64 a0_0, .slice A0_1 l0_1.length c0_1] 24 (0, 0)) (by (with_reducible repeat (first | refine blk_drewN ?_ _ | refine blk_drew ?_ | refine blk_alloc ?_ _)); exact BK388.out) hb); have n2_ := Aside0.mk (below_step (by repeat (first | (with_reducible first | exact HB.out | apply below_alloc | apply pw_below_drewN | apply below_drew1 | refine below_set ?_ GE388.out) | exact HB.out)) hb); clear HO413; clear BK388; clear HB; have HO413 := n0_; have BK388 := n1_; have HB := n2_; clear n0_ n1_ n2_; (try clear hb); (try clear hb2); (try clear hk); (try clear hi)))
                  go_ret
                  exact ⟨by first | rfl | (simp [errW_none, errW_some] <;> rfl) | (simp [*, errW_none, errW_some] <;> rfl), by repeat (first | (with_reducible first | exact HB.out | apply below_alloc | apply pw_below_drewN | apply below_drew1 | refine below_set ?_ GE388.out) | exact HB.out)⟩
                ·
                 rw [if_neg c120] at H
                 have c120b0 : (t415 == (wrap64 (t395 + (wrap64 ((t411.length : Int) / 2))))) = false := beq_eq_false_iff_ne.mpr c120
                 have c120b1 : (t415 != (wrap64 (t395 + (wrap64 ((t411.length : Int) / 2))))) = true := bne_iff_ne.mpr c120
                 as_aux_lemma =>
                  obtain rfl := Option.some.inj H
                  have hcz128_0 : wc.cell? ⟨gb388, 0, none⟩ = some (.int .i64 a0_0) := (blk_cell BK388.out 0).trans rfl
                  have hcz128_1 : wc.cell? ⟨gb388, 1, none⟩ = some (.slice A0_1 l0_1.length c0_1) := (blk_cell BK388.out 1).trans rfl
                  have hfz128_0 := blk_frozen BK388.out 0
                  have hfz128_1 := blk_frozen BK388.out 1
                  go_wp2_with (first | ((with_reducible refine gate_callee (f := 30) rfl ?_); refine goesL_ (some 199) rfl rfl Tryz.func30 (by kernel_rfl) rfl #[.agg #[.int .i64 a0_0, .slice A0_1 l0_1.length c0_1], .int .i64 (wrap64 ((wrap64 (a1 - (l0_1.length : Int))) + 1)), .int .i64 a1] rfl (by (try simp only [List.map_toArray, List.map_cons, List.map_nil]); first | done | rfl | (simp only [List.length_drop, List.length_take]; rfl)) ?_; (with_reducible refine (cam_Stations.calls kj106 a0_0 _ _ l0_1 (wrap64 ((wrap64 (a1 - (l0_1.length : Int))) + 1)) a1 t411 t414 _ ?side1 ?side2 A115.out).mono ?_); (case side1 => repeat (first | exact (Kd.C_below HR0_1.out HB.out) | (with_reducible refine Kd.C_alloc ?_ _) | (with_reducible refine Kd.C_drewN ?_ _) | (with_reducible refine Kd.C_drew ?_))); (case side2 => exact HC0_1.out); rintro e w129 ⟨v412, rfl, ho0, hb⟩; refine ⟨_, rfl, ?_⟩; have n0_ := Aside0.mk (Kd.R_lower ho0 (below_size (by repeat (first | (with_reducible first | exact HB.out | apply below_alloc | apply pw_below_drewN | apply below_drew1 | refine below_set ?_ GE388.out) | exact HB.out)))); have n1_ := Aside0.mk (blk_below (g := gb388) (o := .cells #[.int .i64 a0_0, .slice A0_1 l0_1.length c0_1] 24 (0, 0)) (by (with_reducible repeat (first | refine blk_drewN ?_ _ | refine blk_drew ?_ | refine blk_alloc ?_ _)); exact BK388.out) hb); have n2_ := Aside0.mk (below_step (by repeat (first | (with_reducible first | exact HB.out | apply below_alloc | apply pw_below_drewN | apply below_drew1 | refine below_set ?_ GE388.out) | exact HB.out)) hb); clear BK388; clear HB; have HO413 := n0_; have BK388 := n1_; have HB := n2_; clear n0_ n1_ n2_; (try clear hb); (try clear hb2); (try clear hk); (try clear hi); (try clear ho0); have hcz130_0 : w129.cell? ⟨gb388, 0, none⟩ = some (.int .i64 a0_0) := (blk_cell BK388.out 0).trans rfl; have hcz130_1 : w129.cell? ⟨gb388, 1, none⟩ = some (.slice A0_1 l0_1.length c0_1) := (blk_cell BK388.out 1).trans rfl; have hfz130_0 := blk_frozen BK388.out 0; have hfz130_1 := blk_frozen BK388.out 1) | ((with_reducible refine gate_callee (f := 12) rfl ?_); refine goesL_ (some 207) rfl rfl Tryz.func12 (by kernel_rfl) rfl #[.agg #[.int .i64 a0_0, .slice A0_1 l0_1.length c0_1], .int .i64 (wrap64 (a1 + (l0_1.length : Int)))] rfl (by (try simp only [List.map_toArray, List.map_cons, List.map_nil]); first | done | rfl | (simp only [List.length_drop, List.length_take]; rfl)) ?_; (with_reducible refine (cam_Retreats.calls kj106 a0_0 _ _ l0_1 (wrap64 (a1 + (l0_1.length : Int))) t415 t416 t417 t418 _ ?side1 ?side2 A116.out).mono ?_); (case side1 => repeat (first | exact (Kd.C_below HR0_1.out HB.out) | (with_reducible refine Kd.C_alloc ?_ _) | (with_reducible refine Kd.C_drewN ?_ _) | (with_reducible refine Kd.C_drew ?_))); (case side2 => exact HC0_1.out); rintro e w131 ⟨rfl, hb⟩; refine ⟨_, rfl, ?_⟩; have n0_ := Aside0.mk (Kd.R_below (by (with_reducible repeat (first | apply Kd.R_alloc | apply Kd.R_drewN | apply Kd.R_drew)); exact HO413.out) hb); have n1_ := Aside0.mk (blk_below (g := gb388) (o := .cells #[.int .i64 a0_0, .slice A0_1 l0_1.length c0_1] 24 (0, 0)) (by (with_reducible repeat (first | refine blk_drewN ?_ _ | refine blk_drew ?_ | refine blk_alloc ?_ _)); exact BK388.out) hb); have n2_ := Aside0.mk (below_step (by repeat (first | (with_reducible first | exact HB.out | apply below_alloc | apply pw_below_drewN | apply below_drew1 | refine below_set ?_ GE388.out) | exact HB.out)) hb); clear HO413; clear BK388; clear HB; have HO413 := n0_; have BK388 := n1_; have HB := n2_; clear n0_ n1_ n2_; (try clear hb); (try clear hb2); (try clear hk); (try clear hi); obtain ⟨Ao132, co132, eo132⟩ := Kd.R_slice HO413.out; subst eo132))
                  go_ret
                  exact ⟨by first | rfl | (simp [errW_none, errW_some] <;> rfl) | (simp [*, errW_none, errW_some] <;> rfl), by repeat (first | (with_reducible first | exact HB.out | apply below_alloc | apply pw_below_drewN | apply below_drew1 | refine below_set ?_ GE388.out) | exact HB.out)⟩
               ·
                rw [if_neg c119] at H
                have c119b0 : (((t411.length : Int) % 2) == 0) = false := beq_eq_false_iff_ne.mpr c119
                have c119b1 : (((t411.length : Int) % 2) != 0) = true := bne_iff_ne.mpr c119
                as_aux_lemma =>
                 obtain rfl := Option.some.inj H
                 have hcz133_0 : wc.cell? ⟨gb388, 0, none⟩ = some (.int .i64 a0_0) := (blk_cell BK388.out 0).trans rfl
                 have hcz133_1 : wc.cell? ⟨gb388, 1, none⟩ = some (.slice A0_1 l0_1.length c0_1) := (blk_cell BK388.out 1).trans rfl
                 have hfz133_0 := blk_frozen BK388.out 0
                 have hfz133_1 := blk_frozen BK388.out 1
                 go_wp2_with (first | ((with_reducible refine gate_callee (f := 30) rfl ?_); refine goesL_ (some 199) rfl rfl Tryz.func30 (by kernel_rfl) rfl #[.agg #[.int .i64 a0_0, .slice A0_1 l0_1.length c0_1], .int .i64 (wrap64 ((wrap64 (a1 - (l0_1.length : Int))) + 1)), .int .i64 a1] rfl (by (try simp only [List.map_toArray, List.map_cons, List.map_nil]); first | done | rfl | (simp only [List.length_drop, List.length_take]; rfl)) ?_; (with_reducible refine (cam_Stations.calls kj106 a0_0 _ _ l0_1 (wrap64 ((wrap64 (a1 - (l0_1.length : Int))) + 1)) a1 t411 t414 _ ?side1 ?side2 A115.out).mono ?_); (case side1 => repeat (first | exact (Kd.C_below HR0_1.out HB.out) | (with_reducible refine Kd.C_alloc ?_ _) | (with_reducible refine Kd.C_drewN ?_ _) | (with_reducible refine Kd.C_drew ?_))); (case side2 => exact HC0_1.out); rintro e w134 ⟨v412, rfl, ho0, hb⟩; refine ⟨_, rfl, ?_⟩; have n0_ := Aside0.mk (Kd.R_lower ho0 (below_size (by repeat (first | (with_reducible first | exact HB.out | apply below_alloc | apply pw_below_drewN | apply below_drew1 | refine below_set ?_ GE388.out) | exact HB.out)))); have n1_ := Aside0.mk (blk_below (g := gb388) (o := .cells #[.int .i64 a0_0, .slice A0_1 l0_1.length c0_1] 24 (0, 0)) (by (with_reducible repeat (first | refine blk_drewN ?_ _ | refine blk_drew ?_ | refine blk_alloc ?_ _)); exact BK388.out) hb); have n2_ := Aside0.mk (below_step (by repeat (first | (with_reducible first | exact HB.out | apply below_alloc | apply pw_below_drewN | apply below_drew1 | refine below_set ?_ GE388.out) | exact HB.out)) hb); clear BK388; clear HB; have HO413 := n0_; have BK388 := n1_; have HB := n2_; clear n0_ n1_ n2_; (try clear hb); (try clear hb2); (try clear hk); (try clear hi); (try clear ho0); have hcz135_0 : w134.cell? ⟨gb388, 0, none⟩ = some (.int .i64 a0_0) := (blk_cell BK388.out 0).trans rfl; have hcz135_1 : w134.cell? ⟨gb388, 1, none⟩ = some (.slice A0_1 l0_1.length c0_1) := (blk_cell BK388.out 1).trans rfl; have hfz135_0 := blk_frozen BK388.out 0; have hfz135_1 := blk_frozen BK388.out 1) | ((with_reducible refine gate_callee (f := 12) rfl ?_); refine goesL_ (some 207) rfl rfl Tryz.func12 (by kernel_rfl) rfl #[.agg #[.int .i64 a0_0, .slice A0_1 l0_1.length c0_1], .int .i64 (wrap64 (a1 + (l0_1.length : Int)))] rfl (by (try simp only [List.map_toArray, List.map_cons, List.map_nil]); first | done | rfl | (simp only [List.length_drop, List.length_take]; rfl)) ?_; (with_reducible refine (cam_Retreats.calls kj106 a0_0 _ _ l0_1 (wrap64 (a1 + (l0_1.length : Int))) t415 t416 t417 t418 _ ?side1 ?side2 A116.out).mono ?_); (case side1 => repeat (first | exact (Kd.C_below HR0_1.out HB.out) | (with_reducible refine Kd.C_alloc ?_ _) | (with_reducible refine Kd.C_drewN ?_ _) | (with_reducible refine Kd.C_drew ?_))); (case side2 => exact HC0_1.out); rintro e w136 ⟨rfl, hb⟩; refine ⟨_, rfl, ?_⟩; have n0_ := Aside0.mk (Kd.R_below (by (with_reducible repeat (first | apply Kd.R_alloc | apply Kd.R_drewN | apply Kd.R_drew)); exact HO413.out) hb); have n1_ := Aside0.mk (blk_below (g := gb388) (o := .cells #[.int .i64 a0_0, .slice A0_1 l0_1.length c0_1] 24 (0, 0)) (by (with_reducible repeat (first | refine blk_drewN ?_ _ | refine blk_drew ?_ | refine blk_alloc ?_ _)); exact BK388.out) hb); have n2_ := Aside0.mk (below_step (by repeat (first | (with_reducible first | exact HB.out | apply below_alloc | apply pw_below_drewN | apply below_drew1 | refine below_set ?_ GE388.out) | exact HB.out)) hb); clear HO413; clear BK388; clear HB; have HO413 := n0_; have BK388 := n1_; have HB := n2_; clear n0_ n1_ n2_; (try clear hb); (try clear hb2); (try clear hk); (try clear hi); obtain ⟨Ao137, co137, eo137⟩ := Kd.R_slice HO413.out; subst eo137))
                 go_ret
                 exact ⟨by first | rfl | (simp [errW_none, errW_some] <;> rfl) | (simp [*, errW_none, errW_some] <;> rfl), by repeat (first | (with_reducible first | exact HB.out | apply below_alloc | apply pw_below_drewN | apply below_drew1 | refine below_set ?_ GE388.out) | exact HB.out)⟩
              ·
               rw [if_neg c118] at H
               have c118b0 : (t418 == 0) = false := beq_eq_false_iff_ne.mpr c118
               have c118b1 : (t418 != 0) = true := bne_iff_ne.mpr c118
               as_aux_lemma =>
                obtain rfl := Option.some.inj H
                have hcz138_0 : wc.cell? ⟨gb388, 0, none⟩ = some (.int .i64 a0_0) := (blk_cell BK388.out 0).trans rfl
                have hcz138_1 : wc.cell? ⟨gb388, 1, none⟩ = some (.slice A0_1 l0_1.length c0_1) := (blk_cell BK388.out 1).trans rfl
                have hfz138_0 := blk_frozen BK388.out 0
                have hfz138_1 := blk_frozen BK388.out 1
                go_wp2_with (first | ((with_reducible refine gate_callee (f := 30) rfl ?_); refine goesL_ (some 199) rfl rfl Tryz.func30 (by kernel_rfl) rfl #[.agg #[.int .i64 a0_0, .slice A0_1 l0_1.length c0_1], .int .i64 (wrap64 ((wrap64 (a1 - (l0_1.length : Int))) + 1)), .int .i64 a1] rfl (by (try simp only [List.map_toArray, List.map_cons, List.map_nil]); first | done | rfl | (simp only [List.length_drop, List.length_take]; rfl)) ?_; (with_reducible refine (cam_Stations.calls kj106 a0_0 _ _ l0_1 (wrap64 ((wrap64 (a1 - (l0_1.length : Int))) + 1)) a1 t411 t414 _ ?side1 ?side2 A115.out).mono ?_); (case side1 => repeat (first | exact (Kd.C_below HR0_1.out HB.out) | (with_reducible refine Kd.C_alloc ?_ _) | (with_reducible refine Kd.C_drewN ?_ _) | (with_reducible refine Kd.C_drew ?_))); (case side2 => exact HC0_1.out); rintro e w139 ⟨v412, rfl, ho0, hb⟩; refine ⟨_, rfl, ?_⟩; have n0_ := Aside0.mk (Kd.R_lower ho0 (below_size (by repeat (first | (with_reducible first | exact HB.out | apply below_alloc | apply pw_below_drewN | apply below_drew1 | refine below_set ?_ GE388.out) | exact HB.out)))); have n1_ := Aside0.mk (blk_below (g := gb388) (o := .cells #[.int .i64 a0_0, .slice A0_1 l0_1.length c0_1] 24 (0, 0)) (by (with_reducible repeat (first | refine blk_drewN ?_ _ | refine blk_drew ?_ | refine blk_alloc ?_ _)); exact BK388.out) hb); have n2_ := Aside0.mk (below_step (by repeat (first | (with_reducible first | exact HB.out | apply below_alloc | apply pw_below_drewN | apply below_drew1 | refine below_set ?_ GE388.out) | exact HB.out)) hb); clear BK388; clear HB; have HO413 := n0_; have BK388 := n1_; have HB := n2_; clear n0_ n1_ n2_; (try clear hb); (try clear hb2); (try clear hk); (try clear hi); (try clear ho0); have hcz140_0 : w139.cell? ⟨gb388, 0, none⟩ = some (.int .i64 a0_0) := (blk_cell BK388.out 0).trans rfl; have hcz140_1 : w139.cell? ⟨gb388, 1, none⟩ = some (.slice A0_1 l0_1.length c0_1) := (blk_cell BK388.out 1).trans rfl; have hfz140_0 := blk_frozen BK388.out 0; have hfz140_1 := blk_frozen BK388.out 1) | ((with_reducible refine gate_callee (f := 12) rfl ?_); refine goesL_ (some 207) rfl rfl Tryz.func12 (by kernel_rfl) rfl #[.agg #[.int .i64 a0_0, .slice A0_1 l0_1.length c0_1], .int .i64 (wrap64 (a1 + (l0_1.length : Int)))] rfl (by (try simp only [List.map_toArray, List.map_cons, List.map_nil]); first | done | rfl | (simp only [List.length_drop, List.length_take]; rfl)) ?_; (with_reducible refine (cam_Retreats.calls kj106 a0_0 _ _ l0_1 (wrap64 (a1 + (l0_1.length : Int))) t415 t416 t417 t418 _ ?side1 ?side2 A116.out).mono ?_); (case side1 => repeat (first | exact (Kd.C_below HR0_1.out HB.out) | (with_reducible refine Kd.C_alloc ?_ _) | (with_reducible refine Kd.C_drewN ?_ _) | (with_reducible refine Kd.C_drew ?_))); (case side2 => exact HC0_1.out); rintro e w141 ⟨rfl, hb⟩; refine ⟨_, rfl, ?_⟩; have n0_ := Aside0.mk (Kd.R_below (by (with_reducible repeat (first | apply Kd.R_alloc | apply Kd.R_drewN | apply Kd.R_drew)); exact HO413.out) hb); have n1_ := Aside0.mk (blk_below (g := gb388) (o := .cells #[.int .i64 a0_0, .slice A0_1 l0_1.length c0_1] 24 (0, 0)) (by (with_reducible repeat (first | refine blk_drewN ?_ _ | refine blk_drew ?_ | refine blk_alloc ?_ _)); exact BK388.out) hb); have n2_ := Aside0.mk (below_step (by repeat (first | (with_reducible first | exact HB.out | apply below_alloc | apply pw_below_drewN | apply below_drew1 | refine below_set ?_ GE388.out) | exact HB.out)) hb); clear HO413; clear BK388; clear HB; have HO413 := n0_; have BK388 := n1_; have HB := n2_; clear n0_ n1_ n2_; (try clear hb); (try clear hb2); (try clear hk); (try clear hi)))
                go_ret
                exact ⟨by first | rfl | (simp [errW_none, errW_some] <;> rfl) | (simp [*, errW_none, errW_some] <;> rfl), by repeat (first | (with_reducible first | exact HB.out | apply below_alloc | apply pw_below_drewN | apply below_drew1 | refine below_set ?_ GE388.out) | exact HB.out)⟩
             ·
              rw [if_neg c117] at H
              have c117b0 : (t414 == 0) = false := beq_eq_false_iff_ne.mpr c117
              have c117b1 : (t414 != 0) = true := bne_iff_ne.mpr c117
              as_aux_lemma =>
               obtain rfl := Option.some.inj H
               have hcz142_0 : wc.cell? ⟨gb388, 0, none⟩ = some (.int .i64 a0_0) := (blk_cell BK388.out 0).trans rfl
               have hcz142_1 : wc.cell? ⟨gb388, 1, none⟩ = some (.slice A0_1 l0_1.length c0_1) := (blk_cell BK388.out 1).trans rfl
               have hfz142_0 := blk_frozen BK388.out 0
               have hfz142_1 := blk_frozen BK388.out 1
               go_wp2_with (first | ((with_reducible refine gate_callee (f := 30) rfl ?_); refine goesL_ (some 199) rfl rfl Tryz.func30 (by kernel_rfl) rfl #[.agg #[.int .i64 a0_0, .slice A0_1 l0_1.length c0_1], .int .i64 (wrap64 ((wrap64 (a1 - (l0_1.length : Int))) + 1)), .int .i64 a1] rfl (by (try simp only [List.map_toArray, List.map_cons, List.map_nil]); first | done | rfl | (simp only [List.length_drop, List.length_take]; rfl)) ?_; (with_reducible refine (cam_Stations.calls kj106 a0_0 _ _ l0_1 (wrap64 ((wrap64 (a1 - (l0_1.length : Int))) + 1)) a1 t411 t414 _ ?side1 ?side2 A115.out).mono ?_); (case side1 => repeat (first | exact (Kd.C_below HR0_1.out HB.out) | (with_reducible refine Kd.C_alloc ?_ _) | (with_reducible refine Kd.C_drewN ?_ _) | (with_reducible refine Kd.C_drew ?_))); (case side2 => exact HC0_1.out); rintro e w143 ⟨v412, rfl, ho0, hb⟩; refine ⟨_, rfl, ?_⟩; have n0_ := Aside0.mk (Kd.R_lower ho0 (below_size (by repeat (first | (with_reducible first | exact HB.out | apply below_alloc | apply pw_below_drewN | apply below_drew1 | refine below_set ?_ GE388.out) | exact HB.out)))); have n1_ := Aside0.mk (blk_below (g := gb388) (o := .cells #[.int .i64 a0_0, .slice A0_1 l0_1.length c0_1] 24 (0, 0)) (by (with_reducible repeat (first | refine blk_drewN ?_ _ | refine blk_drew ?_ | refine blk_alloc ?_ _)); exact BK388.out) hb); have n2_ := Aside0.mk (below_step (by repeat (first | (with_reducible first | exact HB.out | apply below_alloc | apply pw_below_drewN | apply below_drew1 | refine below_set ?_ GE388.out) | exact HB.out)) hb); clear BK388; clear HB; have HO413 := n0_; have BK388 := n1_; have HB := n2_; clear n0_ n1_ n2_; (try clear hb); (try clear hb2); (try clear hk); (try clear hi); (try clear ho0); have hcz144_0 : w143.cell? ⟨gb388, 0, none⟩ = some (.int .i64 a0_0) := (blk_cell BK388.out 0).trans rfl; have hcz144_1 : w143.cell? ⟨gb388, 1, none⟩ = some (.slice A0_1 l0_1.length c0_1) := (blk_cell BK388.out 1).trans rfl; have hfz144_0 := blk_frozen BK388.out 0; have hfz144_1 := blk_frozen BK388.out 1) | ((with_reducible refine gate_callee (f := 12) rfl ?_); refine goesL_ (some 207) rfl rfl Tryz.func12 (by kernel_rfl) rfl #[.agg #[.int .i64 a0_0, .slice A0_1 l0_1.length c0_1], .int .i64 (wrap64 (a1 + (l0_1.length : Int)))] rfl (by (try simp only [List.map_toArray, List.map_cons, List.map_nil]); first | done | rfl | (simp only [List.length_drop, List.length_take]; rfl)) ?_; (with_reducible refine (cam_Retreats.calls kj106 a0_0 _ _ l0_1 (wrap64 (a1 + (l0_1.length : Int))) t415 t416 t417 t418 _ ?side1 ?side2 A116.out).mono ?_); (case side1 => repeat (first | exact (Kd.C_below HR0_1.out HB.out) | (with_reducible refine Kd.C_alloc ?_ _) | (with_reducible refine Kd.C_drewN ?_ _) | (with_reducible refine Kd.C_drew ?_))); (case side2 => exact HC0_1.out); rintro e w145 ⟨rfl, hb⟩; refine ⟨_, rfl, ?_⟩; have n0_ := Aside0.mk (Kd.R_below (by (with_reducible repeat (first | apply Kd.R_alloc | apply Kd.R_drewN | apply Kd.R_drew)); exact HO413.out) hb); have n1_ := Aside0.mk (blk_below (g := gb388) (o := .cells #[.int .i64 a0_0, .slice A0_1 l0_1.length c0_1] 24 (0, 0)) (by (with_reducible repeat (first | refine blk_drewN ?_ _ | refine blk_drew ?_ | refine blk_alloc ?_ _)); exact BK388.out) hb); have n2_ := Aside0.mk (below_step (by repeat (first | (with_reducible first | exact HB.out | apply below_alloc | apply pw_below_drewN | apply below_drew1 | refine below_set ?_ GE388.out) | exact HB.out)) hb); clear HO413; clear BK388; clear HB; have HO413 := n0_; have BK388 := n1_; have HB := n2_; clear n0_ n1_ n2_; (try clear hb); (try clear hb2); (try clear hk); (try clear hi)))
               go_ret
               exact ⟨by first | rfl | (simp [errW_none, errW_some] <;> rfl) | (simp [*, errW_none, errW_some] <;> rfl), by repeat (first | (with_reducible first | exact HB.out | apply below_alloc | apply pw_below_drewN | apply below_drew1 | refine below_set ?_ GE388.out) | exact HB.out)⟩
end Go.Proofs.YtbjimmemcmjpcabGreatDoor.Print
end
section
namespace Go.Proofs.YtbjimmemcmjpcabGreatDoor.Print
open Go.RowKit YtbjimmemcmjpcabGreatDoorW.PrintWords YtbjimmemcmjpcabGreatDoorW.PrintLast YtbjimmemcmjpcabGreatDoorW.PrintMore
theorem camPlaceK_f (u : Int) (l : List Int) (t : Int) : cam_Place.f u l t = some (if isMotionB u l = true ∧ isTimeB t = true then (plc u l t, 0) else (0, 2)) := by
 unfold cam_Place.f
 rw [isMotion_f, isTime_f]
 simp only [Option.bind_some]
 by_cases hm : isMotionB u l = true
 ·
  by_cases ht : isTimeB t = true
  ·
   have hb := time_bd ht
   simp only [hm, ht, if_true, place_f hm hb.1 (by omega), Option.bind_some, and_self]
  ·
   simp only [hm, ht, if_true, if_false, Bool.false_eq_true, and_false]
 ·
  simp only [hm, if_false, Bool.false_eq_true, false_and]
section
variable {u : Int} {l : List Int} {t a b : Int} (c1 : isMotionB u l = true) (ct : isTimeB t = true) (ca : isTimeB a = true) (cb : isTimeB b = true) (hab : a ≤ b) (hbt : b ≤ t)
include c1 ct
theorem back_j4t (x : Int) : Ev (fun k => tl_CamBack.j4 k t x (l.length : Int) true u l) true := by
 refine Ev.step (f := fun _ => some true) (fun k => ?_) (Ev.now _)
 rw [tl_CamBack.j4, if_pos rfl]; rfl
theorem back_j4f (h2 : 2 * (l.length : Int) ≤ t) (ht : isTimeB (t + (l.length : Int)) = true) : Ev (fun k => tl_CamBack.j4 k t (cntD u l (stL u l 0 t)) (l.length : Int) false u l) true := by
 have hm := motion_len c1
 have htb := time_bd ct
 have ht2 := time_bd ht
 obtain ⟨g1, g2⟩ := one_more c1 t h2
 have hlen := stL_len u l (t - (l.length : Int) + 1) t
 have hlen0 := stL_len u l 0 t
 have hcb := cntD_bd u l (stL u l 0 t)
 have hst := evC_Stations u l (t - (l.length : Int) + 1) t
 rw [if_pos ⟨c1, by simp [isTimeB]; omega, ct, by omega⟩] at hst
 have hre := evC_retreats u l (t + (l.length : Int))
 rw [if_pos ⟨c1, ht⟩] at hre
 have hR : (retT u l (t + (l.length : Int))).1 = cntD u l (stL u l 0 t) + ((stL u l (t - (l.length : Int) + 1) t).length : Int) / 2 := by
  unfold retT; rw [retK_cnt, Int.zero_add, g2]
 generalize retT u l (t + (l.length : Int)) = R at hre hR
 generalize stL u l (t - (l.length : Int) + 1) t = T at hst g1 hR hlen
 generalize cntD u l (stL u l 0 t) = N at hcb hR ⊢
 have e1 : wrap64 (wrap64 (t - (l.length : Int)) + 1) = t - (l.length : Int) + 1 := by rw [w64 (t - (l.length : Int)) (by omega), w64 _ (by omega)]
 have e2 : wrap64 (t + (l.length : Int)) = t + (l.length : Int) := w64 _ (by omega)
 have e3 : wrap64 (N + wrap64 ((T.length : Int) / 2)) = N + (T.length : Int) / 2 := by rw [w64 ((T.length : Int) / 2) (by omega), w64 _ (by omega)]
 refine Ev.step (fun k => ?_) (Ev.bind (f := fun k (s : List Int × Int) => (cam_Retreats.f k u l (t + (l.length : Int))).bind fun r => (if s.2 = 0 then (if r.2.2.2 = 0 then (if ((s.1.length : Int) % 2) = 0 then (if r.1 = (wrap64 (N + (wrap64 ((s.1.length : Int) / 2)))) then ((tellurionlaw04_known.f).bind fun t419 => (some t419)) else (some false)) else (some false)) else (some false)) else (some false))) hst (Ev.bind (f := fun k (r : Int × Int × Int × Int) => (if (0 : Int) = 0 then (if r.2.2.2 = 0 then (if ((T.length : Int) % 2) = 0 then (if r.1 = (wrap64 (N + (wrap64 ((T.length : Int) / 2)))) then ((tellurionlaw04_known.f).bind fun t419 => (some t419)) else (some false)) else (some false)) else (some false)) else (some false))) hre (Ev.congr (f := fun _ => some true) (fun k => ?_) (Ev.now _))))
 ·
  rw [tl_CamBack.j4, if_neg (by simp), e1, e2]
 ·
  simp only [if_true, e3, hR, g1, tellurionlaw04_known.f, Option.bind_some]
theorem back_end (i : Nat) (lo fa : Int) (hi : ¬ i + 1 < (stL u l 0 t).length) (hi2 : i ≤ 100000) : Ev (fun k => tl_CamBack.l0 k t a b (cntD u l (stL u l 0 t)) lo fa (stL u l 0 t) (i : Int) u l) true := by
 have hm := motion_len c1
 have htb := time_bd ct
 have e0 : wrap64 ((i : Int) + 1) = (i : Int) + 1 := w64 _ (by omega)
 have e1 : wrap64 (2 * (l.length : Int)) = 2 * (l.length : Int) := w64 _ (by omega)
 have e2 : wrap64 (t + (l.length : Int)) = t + (l.length : Int) := w64 _ (by omega)
 by_cases h2 : t < 2 * (l.length : Int)
 ·
  refine Ev.step (fun k => ?_) (back_j4t c1 ct (cntD u l (stL u l 0 t)))
  rw [tl_CamBack.l0, e0, e1, if_neg (by omega), if_pos h2]
 ·
  cases ht : isTimeB (t + (l.length : Int)) with
  | false =>
   refine Ev.step (fun k => ?_) (back_j4t c1 ct (cntD u l (stL u l 0 t)))
   rw [tl_CamBack.l0, e0, e1, e2, if_neg (by omega), if_neg h2, refTime_f, ht]
   rfl
  | true =>
   refine Ev.step (fun k => ?_) (back_j4f c1 ct (by omega) ht)
   rw [tl_CamBack.l0, e0, e1, e2, if_neg (by omega), if_neg h2, refTime_f, ht]
   rfl
include ca cb hab hbt
theorem back_l0 : ∀ (q i : Nat), i + q = (stL u l 0 t).length → Ev (fun k => tl_CamBack.l0 k t a b (cntD u l (stL u l 0 t)) (retT u l t).2.1 (retT u l t).2.2 (stL u l 0 t) (i : Int) u l) true
 | 0, i, hi => by
  have hlen := stL_len u l 0 t
  have htb := time_bd ct
  exact back_end c1 ct i _ _ (by omega) (by omega)
 | q + 1, i, hi => by
  have hlen := stL_len u l 0 t
  have htb := time_bd ct
  have hta := time_bd ca
  have htc := time_bd cb
  by_cases hlt : i + 1 < (stL u l 0 t).length
  ·
   have ih := back_l0 q (i + 1) (by omega)
   have p := stL_pair (u := u) (l := l) (a := 0) (b := t) (by omega) i hlt
   have e0 : wrap64 ((i : Int) + 1) = ((i + 1 : Nat) : Int) := by rw [w64 _ (by omega)]; omega
   have hpa := camPlaceK_f u l a
   rw [if_pos ⟨c1, ca⟩] at hpa
   have hpb := camPlaceK_f u l b
   rw [if_pos ⟨c1, cb⟩] at hpb
   have ba := plc_bd c1 (t := a) hta.1 (by omega)
   have bb := plc_bd c1 (t := b) htc.1 (by omega)
   have j3t : Ev (fun k => tl_CamBack.j3 k t a b (cntD u l (stL u l 0 t)) (retT u l t).2.1 (retT u l t).2.2 (stL u l 0 t) (i : Int) true u l) true := by
    refine Ev.step (fun k => ?_) ih
    rw [tl_CamBack.j3, if_pos rfl, e0]
   by_cases h1 : a < rd (stL u l 0 t) (i : Int)
   ·
    refine Ev.step (fun k => ?_) j3t
    rw [tl_CamBack.l0, e0, if_pos (by omega), if_pos (by omega), if_pos (by omega), if_pos h1]
   ·
    by_cases h2 : b > rd (stL u l 0 t) ((i + 1 : Nat) : Int)
    ·
     refine Ev.step (fun k => ?_) j3t
     rw [tl_CamBack.l0, e0, if_pos (by omega), if_pos (by omega), if_pos (by omega), if_neg h1, if_pos (by omega), decide_eq_true h2]
    ·
     have hkey : plc u l a - plc u l b ≤ (retT u l t).2.2 ∧ (plc u l a > plc u l b → b - a ≤ (retT u l t).2.1) := by
      have hm0 := retK_mono u l (stL u l 0 t) 0 0 0
      by_cases hd : 0 < spd u l (rd (stL u l 0 t) (i : Int) - 1)
      ·
       have g1 := pair_back c1 p hd (x := a) (y := b) (by omega) hab (by omega)
       have g2 := retK_pair u l (stL u l 0 t) 0 0 0 i hlt hd
       unfold retT
       exact ⟨by omega, fun _ => by omega⟩
      ·
       have g0 := (station_is c1 p.sa).1
       have g1 := pair_fwd c1 p (by omega) (x := a) (y := b) (by omega) hab (by omega)
       unfold retT
       exact ⟨by omega, fun _ => by omega⟩
     have j3f : Ev (fun k => tl_CamBack.j3 k t a b (cntD u l (stL u l 0 t)) (retT u l t).2.1 (retT u l t).2.2 (stL u l 0 t) (i : Int) false u l) true := by
      generalize plc u l a = x at hpa ba hkey
      generalize plc u l b = y at hpb bb hkey
      refine Ev.step (fun k => ?_) ih
      rw [tl_CamBack.j3, if_neg (by simp), hpa, hpb]
      simp only [Option.bind_some, if_true]
      rw [w64 (x - y) (by omega), w64 (b - a) (by omega), if_neg (by omega), e0]
      by_cases hxy : x > y
      ·
       have := hkey.2 hxy
       rw [if_pos hxy, if_neg (by omega)]
      ·
       rw [if_neg hxy]
     refine Ev.step (fun k => ?_) j3f
     rw [tl_CamBack.l0, e0, if_pos (by omega), if_pos (by omega), if_pos (by omega), if_neg h1, if_pos (by omega), decide_eq_false h2]
  ·
   exact back_end c1 ct i _ _ hlt (by omega)
theorem back_j0 : Ev (fun k => tl_CamBack.j0 k t a b false u l) true := by
 have htb := time_bd ct
 have hlen := stL_len u l 0 t
 have hl0 := back_l0 c1 ct ca cb hab hbt (stL u l 0 t).length 0 (by omega)
 have hcb := cntD_bd u l (stL u l 0 t)
 have hmono := retK_mono u l (stL u l 0 t) 0 0 0
 have hz := retK_zero u l (stL u l 0 t) 0 0 0 (by omega) (by omega) (fun i hi hd => by
  have p := stL_pair (u := u) (l := l) (a := 0) (b := t) (by omega) i hi
  exact ⟨by have := p.lt; omega, pair_pos c1 p hd⟩)
 have hR1 : (retT u l t).1 = cntD u l (stL u l 0 t) := by unfold retT; rw [retK_cnt, Int.zero_add]
 have hst := evC_Stations u l 0 t
 rw [if_pos ⟨c1, by decide, ct, htb.1⟩] at hst
 have hre := evC_retreats u l t
 rw [if_pos ⟨c1, ct⟩] at hre
 have hz' : (cntD u l (stL u l 0 t) = 0 → (retT u l t).2.1 = 0 ∧ (retT u l t).2.2 = 0) ∧ (cntD u l (stL u l 0 t) ≠ 0 → 0 < (retT u l t).2.1 ∧ 0 < (retT u l t).2.2) := hz
 have hmono' : 0 ≤ (retT u l t).2.1 ∧ 0 ≤ (retT u l t).2.2 := hmono
 clear hz hmono
 generalize hLo : (retT u l t).2.1 = lo at hl0 hz' hmono' hre
 generalize hFa : (retT u l t).2.2 = fa at hl0 hz' hmono' hre
 rw [hR1] at hre
 generalize hN : cntD u l (stL u l 0 t) = N at hl0 hz' hcb hre
 generalize hL : stL u l 0 t = L at hl0 hcb hst hlen
 have hj1 : Ev (fun k => tl_CamBack.j1 k t a b N lo fa L false u l) true := by
  refine Ev.step (fun k => ?_) hl0
  rw [tl_CamBack.j1, if_neg (by simp)]
  rfl
 have e1 : ((N == 0) != (lo == 0)) = false := by
  by_cases h0 : N = 0
  ·
   have := (hz'.1 h0).1; simp [h0, this]
  ·
   have := (hz'.2 h0).1; have h1 : lo ≠ 0 := by omega
   rw [beq_eq_false_iff_ne.2 h0, beq_eq_false_iff_ne.2 h1]; rfl
 have e2 : ((N == 0) != (fa == 0)) = false := by
  by_cases h0 : N = 0
  ·
   have := (hz'.1 h0).2; simp [h0, this]
  ·
   have := (hz'.2 h0).2; have h1 : fa ≠ 0 := by omega
   rw [beq_eq_false_iff_ne.2 h0, beq_eq_false_iff_ne.2 h1]; rfl
 refine Ev.step (fun k => ?_) (Ev.bind (f := fun k (bt395 : Int × Int × Int × Int) => ((cam_Stations.f k u l 0 t).bind fun bt399 => (if bt395.2.2.2 = 0 then (if bt399.2 = 0 then (if bt395.1 < 0 then (tl_CamBack.j1 k t a b bt395.1 bt395.2.1 bt395.2.2.1 bt399.1 true u l) else (if bt395.2.1 < 0 then (tl_CamBack.j1 k t a b bt395.1 bt395.2.1 bt395.2.2.1 bt399.1 true u l) else (if bt395.2.2.1 < 0 then (tl_CamBack.j1 k t a b bt395.1 bt395.2.1 bt395.2.2.1 bt399.1 true u l) else (if (bt399.1.length : Int) > 2001 then (tl_CamBack.j1 k t a b bt395.1 bt395.2.1 bt395.2.2.1 bt399.1 true u l) else (if bt395.1 > (bt399.1.length : Int) then (tl_CamBack.j1 k t a b bt395.1 bt395.2.1 bt395.2.2.1 bt399.1 true u l) else (if ((bt395.1 == 0) != (bt395.2.1 == 0)) = true then (tl_CamBack.j1 k t a b bt395.1 bt395.2.1 bt395.2.2.1 bt399.1 true u l) else (tl_CamBack.j1 k t a b bt395.1 bt395.2.1 bt395.2.2.1 bt399.1 ((bt395.1 == 0) != (bt395.2.2.1 == 0)) u l))))))) else (tl_CamBack.j1 k t a b bt395.1 bt395.2.1 bt395.2.2.1 bt399.1 true u l)) else (tl_CamBack.j1 k t a b bt395.1 bt395.2.1 bt395.2.2.1 bt399.1 true u l)))) hre
  (Ev.bind (f := fun k (bt399 : List Int × Int) => (if (0 : Int) = 0 then (if bt399.2 = 0 then (if N < 0 then (tl_CamBack.j1 k t a b N lo fa bt399.1 true u l) else (if lo < 0 then (tl_CamBack.j1 k t a b N lo fa bt399.1 true u l) else (if fa < 0 then (tl_CamBack.j1 k t a b N lo fa bt399.1 true u l) else (if (bt399.1.length : Int) > 2001 then (tl_CamBack.j1 k t a b N lo fa bt399.1 true u l) else (if N > (bt399.1.length : Int) then (tl_CamBack.j1 k t a b N lo fa bt399.1 true u l) else (if ((N == 0) != (lo == 0)) = true then (tl_CamBack.j1 k t a b N lo fa bt399.1 true u l) else (tl_CamBack.j1 k t a b N lo fa bt399.1 ((N == 0) != (fa == 0)) u l))))))) else (tl_CamBack.j1 k t a b N lo fa bt399.1 true u l)) else (tl_CamBack.j1 k t a b N lo fa bt399.1 true u l))) hst (Ev.congr (fun k => ?_) hj1)))
 ·
  rw [tl_CamBack.j0, if_neg (by simp)]
 ·
  simp only [if_true]
  rw [if_neg (by omega), if_neg (by omega), if_neg (by omega), if_neg (by omega), if_neg (by omega), e1, e2, if_neg (by simp)]
end
theorem camBack_pure (u : Int) (l : List Int) (t a b : Int) (hu : (Lit.int .i64 u).wf = true) (hm : l.length ≤ maxLen) (hw : ∀ x ∈ l, (Lit.int .i64 x).wf = true) (ht : (Lit.int .i64 t).wf = true) (ha : (Lit.int .i64 a).wf = true) (hb : (Lit.int .i64 b).wf = true) :
  ∃ k, tl_CamBack.f k u l t a b = some true := by
 clear hu hm hw ht ha hb
 have ej : ∀ k, tl_CamBack.j0 (k + 1) t a b true u l = some true := fun k => by simp only [tl_CamBack.j0, if_true, tellurionlaw04_known.f, Option.bind_some]
 by_cases hs : (l.length : Int) ≤ 27
 case neg => exact ⟨1, by unfold tl_CamBack.f tl_slim.f; simp only [Option.bind_some, hs, decide_false, Bool.false_eq_true, if_false, ej 0]⟩
 obtain ⟨K1, h1⟩ := evR_motion u l (by omega)
 by_cases g : isMotionB u l = true ∧ isTimeB t = true ∧ isTimeB a = true ∧ isTimeB b = true ∧ a ≤ b ∧ b ≤ t
 ·
  obtain ⟨c1, c2, c3, c4, c5, c6⟩ := g
  obtain ⟨K2, h2⟩ := back_j0 c1 c2 c3 c4 c5 c6
  refine ⟨K1 + K2, ?_⟩
  have e1 := h1 (K1 + K2) (by omega)
  have e2 := h2 (K1 + K2) (by omega)
  simp only [] at e1 e2
  unfold tl_CamBack.f tl_slim.f
  simp only [Option.bind_some, hs, decide_true, if_true, e1, c1, refTime_f, c2, c3, c4]
  rw [if_neg (by omega), decide_eq_false (by omega), e2]
 ·
  refine ⟨K1 + 1, ?_⟩
  have e1 := h1 (K1 + 1) (by omega)
  simp only [] at e1
  have e3 := ej K1
  unfold tl_CamBack.f tl_slim.f
  simp only [Option.bind_some, hs, decide_true, if_true, e1, refTime_f]
  cases c1 : isMotionB u l with
  | false => simp only [Bool.false_eq_true, if_false, e3]
  | true =>
   cases c2 : isTimeB t with
   | false => simp only [Bool.false_eq_true, if_false, if_true, e3]
   | true =>
    cases c3 : isTimeB a with
    | false => simp only [Bool.false_eq_true, if_false, if_true, e3]
    | true =>
     cases c4 : isTimeB b with
     | false => simp only [Bool.false_eq_true, if_false, if_true, e3]
     | true =>
      by_cases c5 : b < a
      ·
       simp only [if_true, c5, e3]
      ·
       have : decide (b > t) = true := decide_eq_true (Int.not_le.1 fun h => g ⟨c1, c2, c3, c4, by omega, h⟩)
       simp only [if_true, c5, if_false, this, e3]
end Go.Proofs.YtbjimmemcmjpcabGreatDoor.Print
end

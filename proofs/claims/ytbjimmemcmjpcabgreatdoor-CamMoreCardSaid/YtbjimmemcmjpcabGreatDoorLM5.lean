/- The law's Go function answers true for every input, and leaves its arguments as they were: its parts, the plain law, the row, the card. Joined by wip/pack.py. -/
import Derived.Test.YtbjimmemcmjpcabGreatDoorB3
import Derived.Test.YtbjimmemcmjpcabGreatDoorLM1
import Derived.Test.YtbjimmemcmjpcabGreatDoorB20
import Derived.Test.YtbjimmemcmjpcabGreatDoorB14
import Derived.Test.YtbjimmemcmjpcabGreatDoorB9
import Derived.Test.YtbjimmemcmjpcabGreatDoorLM3
import Derived.Test.YtbjimmemcmjpcabGreatDoorLM4
import Derived.Test.YtbjimmemcmjpcabGreatDoorLM2
set_option linter.unusedVariables false
set_option linter.unusedSimpArgs false
set_option linter.unusedSectionVars false
section
namespace Go.Proofs.YtbjimmemcmjpcabGreatDoor.Print
open Go.RowKit YtbjimmemcmjpcabGreatDoorW.PrintWords YtbjimmemcmjpcabGreatDoorW.PrintLast YtbjimmemcmjpcabGreatDoorW.PrintMore
attribute [local go_sem] max2_int min2_int max_two min_two max_three min_three max_four min_four
mutual
def tl_CamMore.j0 : Nat → List Int → Int → Int → List (S66) → Bool → Int → Int → Int → Int → Option (Bool)
 | 0, _, _, _, _, _, _, _, _, _ => none
 | k + 1, x1, x2, x3, x4, x68, x261000, x261001, x261002, x261003 => if x68 = true then ((tellurionlaw04_known.f).bind fun t266 => (some t266)) else ((cam_Nearest.f x261000 x261001 x261002 x261003 x1).bind fun bt268 => ((cam_Nearest.f (mx 0 (wrap64 (x261000 - x2))) (mn 30 (wrap64 (x261001 + x2))) (mn 30 (wrap64 (x261002 + x2))) (mn 24 (wrap64 (x261003 + x2))) x1).bind fun bt273 => ((tr_Turn.f k x1 x3).bind fun t278 => ((cam_Nearest.f x261000 x261001 x261002 x261003 t278).bind fun bt281 => (if bt268.2.2 = 0 then (if bt273.2.2 = 0 then (if bt281.2.2 = 0 then (if bt273.2.1 > bt268.2.1 then (tl_CamMore.j1 k x1 x4 true x261000 x261001 x261002 x261003 (mx 0 (wrap64 (x261000 - x2))) (mn 30 (wrap64 (x261001 + x2))) (mn 30 (wrap64 (x261002 + x2))) (mn 24 (wrap64 (x261003 + x2)))) else (tl_CamMore.j1 k x1 x4 (bt281.2.1 != bt268.2.1) x261000 x261001 x261002 x261003 (mx 0 (wrap64 (x261000 - x2))) (mn 30 (wrap64 (x261001 + x2))) (mn 30 (wrap64 (x261002 + x2))) (mn 24 (wrap64 (x261003 + x2))))) else (tl_CamMore.j1 k x1 x4 true x261000 x261001 x261002 x261003 (mx 0 (wrap64 (x261000 - x2))) (mn 30 (wrap64 (x261001 + x2))) (mn 30 (wrap64 (x261002 + x2))) (mn 24 (wrap64 (x261003 + x2))))) else (tl_CamMore.j1 k x1 x4 true x261000 x261001 x261002 x261003 (mx 0 (wrap64 (x261000 - x2))) (mn 30 (wrap64 (x261001 + x2))) (mn 30 (wrap64 (x261002 + x2))) (mn 24 (wrap64 (x261003 + x2))))) else (tl_CamMore.j1 k x1 x4 true x261000 x261001 x261002 x261003 (mx 0 (wrap64 (x261000 - x2))) (mn 30 (wrap64 (x261001 + x2))) (mn 30 (wrap64 (x261002 + x2))) (mn 24 (wrap64 (x261003 + x2)))))))))
def tl_CamMore.j1 : Nat → List Int → List (S66) → Bool → Int → Int → Int → Int → Int → Int → Int → Int → Option (Bool)
 | 0, _, _, _, _, _, _, _, _, _, _, _ => none
 | k + 1, x1, x4, x133, x261000, x261001, x261002, x261003, x268000, x268001, x268002, x268003 => if x133 = true then (some false) else ((cam_Known.f x261000 x261001 x261002 x261003 (x1.length : Int) x4).bind fun bt286 => ((cam_Known.f x268000 x268001 x268002 x268003 (x1.length : Int) x4).bind fun bt290 => (if bt286.2 = 0 then (if bt290.2 = 0 then (if (bt286.1.length : Int) = (x1.length : Int) then (tl_CamMore.j2 k bt286.1 bt290.1 ((bt290.1.length : Int) != (x1.length : Int))) else (tl_CamMore.j2 k bt286.1 bt290.1 true)) else (if bt290.2 = 7 then (tl_CamMore.j2 k bt286.1 bt290.1 true) else (tl_CamMore.j2 k bt286.1 bt290.1 true))) else (if bt286.2 = 7 then (if bt290.2 = 0 then (tl_CamMore.j2 k bt286.1 bt290.1 false) else (if bt290.2 = 7 then (tl_CamMore.j2 k bt286.1 bt290.1 false) else (tl_CamMore.j2 k bt286.1 bt290.1 true))) else (tl_CamMore.j2 k bt286.1 bt290.1 true)))))
def tl_CamMore.j2 : Nat → List (S48) → List (S48) → Bool → Option (Bool)
 | 0, _, _, _ => none
 | k + 1, x21, x23, x185 => if x185 = true then (some false) else (tl_CamMore.l0 k x21 x23 0)
def tl_CamMore.l0 : Nat → List (S48) → List (S48) → Int → Option (Bool)
 | 0, _, _, _ => none
 | k + 1, x21, x23, x25 => if x25 < (x21.length : Int) then (if 0 ≤ x25 then (if x25 < (x23.length : Int) then (if ((rd_T48 x23 x25).f0) > ((rd_T48 x21 x25).f0) then (some false) else (if ((rd_T48 x23 x25).f1) < ((rd_T48 x21 x25).f1) then (some false) else (tl_CamMore.l0 k x21 x23 (wrap64 (x25 + 1))))) else (none)) else (none)) else ((tellurionlaw04_known.f).bind fun t298 => (some t298))
end
def tl_CamMore.f (k : Nat) (a0_0 : Int) (a0_1 : Int) (a0_2 : Int) (a0_3 : Int) (l1 : List Int) (a2 : Int) (a3 : Int) (l4 : List (S66)) : Option (Bool) := (tl_short.f l1).bind fun t261 => (if t261 = true then ((tl_many.f l4).bind fun t262 => (if t262 = true then ((tr_Rule.f a0_0 a0_1 a0_2 a0_3).bind fun t263 => (if t263 = true then ((tr_Cam.f k l1).bind fun t264 => (if t264 = true then (if a2 < 0 then (tl_CamMore.j0 k l1 a2 a3 l4 true a0_0 a0_1 a0_2 a0_3) else (if a2 > 30 then (tl_CamMore.j0 k l1 a2 a3 l4 true a0_0 a0_1 a0_2 a0_3) else (if a3 < 0 then (tl_CamMore.j0 k l1 a2 a3 l4 true a0_0 a0_1 a0_2 a0_3) else (if a3 ≥ (l1.length : Int) then (tl_CamMore.j0 k l1 a2 a3 l4 true a0_0 a0_1 a0_2 a0_3) else ((tr_Gauges.f k (l1.length : Int) l4).bind fun t265 => (tl_CamMore.j0 k l1 a2 a3 l4 (!t265) a0_0 a0_1 a0_2 a0_3)))))) else (tl_CamMore.j0 k l1 a2 a3 l4 true a0_0 a0_1 a0_2 a0_3))) else (tl_CamMore.j0 k l1 a2 a3 l4 true a0_0 a0_1 a0_2 a0_3))) else (tl_CamMore.j0 k l1 a2 a3 l4 true a0_0 a0_1 a0_2 a0_3))) else (tl_CamMore.j0 k l1 a2 a3 l4 true a0_0 a0_1 a0_2 a0_3))
theorem tl_CamMore.mono_l : ∀ k, (∀ y0 y1 y2 y3 y4 y5 y6 y7 y8, LeO (tl_CamMore.j0 k y0 y1 y2 y3 y4 y5 y6 y7 y8) (tl_CamMore.j0 (k + 1) y0 y1 y2 y3 y4 y5 y6 y7 y8)) ∧ (∀ y0 y1 y2 y3 y4 y5 y6 y7 y8 y9 y10, LeO (tl_CamMore.j1 k y0 y1 y2 y3 y4 y5 y6 y7 y8 y9 y10) (tl_CamMore.j1 (k + 1) y0 y1 y2 y3 y4 y5 y6 y7 y8 y9 y10)) ∧ (∀ y0 y1 y2, LeO (tl_CamMore.j2 k y0 y1 y2) (tl_CamMore.j2 (k + 1) y0 y1 y2)) ∧ (∀ y0 y1 y2, LeO (tl_CamMore.l0 k y0 y1 y2) (tl_CamMore.l0 (k + 1) y0 y1 y2))
 | 0 => ⟨fun _ _ _ _ _ _ _ _ _ r h => by simp [tl_CamMore.j0] at h, fun _ _ _ _ _ _ _ _ _ _ _ r h => by simp [tl_CamMore.j1] at h, fun _ _ _ r h => by simp [tl_CamMore.j2] at h, fun _ _ _ r h => by simp [tl_CamMore.l0] at h⟩
 | k + 1 => by
  obtain ⟨ih0, ih1, ih2, ih3⟩ := tl_CamMore.mono_l k
  refine ⟨?_, ?_, ?_, ?_⟩
  ·
   intro y0 y1 y2 y3 y4 y5 y6 y7 y8
   unfold tl_CamMore.j0
   repeat' first
   | (with_reducible exact ih0 _ _ _ _ _ _ _ _ _)
   | (with_reducible exact ih1 _ _ _ _ _ _ _ _ _ _ _)
   | (with_reducible exact ih2 _ _ _)
   | (with_reducible exact ih3 _ _ _)
   | (with_reducible exact tr_Cam.mono _ _)
   | (with_reducible exact tr_Gauges.mono _ _ _)
   | (with_reducible exact tr_Turn.mono _ _ _)
   | (with_reducible exact LeO.refl _)
   | (with_reducible exact LeO.none _)
   | (with_reducible refine LeO.ite ?_ ?_)
   | (with_reducible refine LeO.bind ?_ (fun _ => ?_))
   | exact ih0 _ _ _ _ _ _ _ _ _
   | exact ih1 _ _ _ _ _ _ _ _ _ _ _
   | exact ih2 _ _ _
   | exact ih3 _ _ _
   | exact tr_Cam.mono _ _
   | exact tr_Gauges.mono _ _ _
   | exact tr_Turn.mono _ _ _
   | exact LeO.none _
   | refine LeO.ite ?_ ?_
   | refine LeO.bind ?_ (fun _ => ?_)
  ·
   intro y0 y1 y2 y3 y4 y5 y6 y7 y8 y9 y10
   unfold tl_CamMore.j1
   repeat' first
   | (with_reducible exact ih0 _ _ _ _ _ _ _ _ _)
   | (with_reducible exact ih1 _ _ _ _ _ _ _ _ _ _ _)
   | (with_reducible exact ih2 _ _ _)
   | (with_reducible exact ih3 _ _ _)
   | (with_reducible exact tr_Cam.mono _ _)
   | (with_reducible exact tr_Gauges.mono _ _ _)
   | (with_reducible exact tr_Turn.mono _ _ _)
   | (with_reducible exact LeO.refl _)
   | (with_reducible exact LeO.none _)
   | (with_reducible refine LeO.ite ?_ ?_)
   | (with_reducible refine LeO.bind ?_ (fun _ => ?_))
   | exact ih0 _ _ _ _ _ _ _ _ _
   | exact ih1 _ _ _ _ _ _ _ _ _ _ _
   | exact ih2 _ _ _
   | exact ih3 _ _ _
   | exact tr_Cam.mono _ _
   | exact tr_Gauges.mono _ _ _
   | exact tr_Turn.mono _ _ _
   | exact LeO.none _
   | refine LeO.ite ?_ ?_
   | refine LeO.bind ?_ (fun _ => ?_)
  ·
   intro y0 y1 y2
   unfold tl_CamMore.j2
   repeat' first
   | (with_reducible exact ih0 _ _ _ _ _ _ _ _ _)
   | (with_reducible exact ih1 _ _ _ _ _ _ _ _ _ _ _)
   | (with_reducible exact ih2 _ _ _)
   | (with_reducible exact ih3 _ _ _)
   | (with_reducible exact tr_Cam.mono _ _)
   | (with_reducible exact tr_Gauges.mono _ _ _)
   | (with_reducible exact tr_Turn.mono _ _ _)
   | (with_reducible exact LeO.refl _)
   | (with_reducible exact LeO.none _)
   | (with_reducible refine LeO.ite ?_ ?_)
   | (with_reducible refine LeO.bind ?_ (fun _ => ?_))
   | exact ih0 _ _ _ _ _ _ _ _ _
   | exact ih1 _ _ _ _ _ _ _ _ _ _ _
   | exact ih2 _ _ _
   | exact ih3 _ _ _
   | exact tr_Cam.mono _ _
   | exact tr_Gauges.mono _ _ _
   | exact tr_Turn.mono _ _ _
   | exact LeO.none _
   | refine LeO.ite ?_ ?_
   | refine LeO.bind ?_ (fun _ => ?_)
  ·
   intro y0 y1 y2
   unfold tl_CamMore.l0
   repeat' first
   | (with_reducible exact ih0 _ _ _ _ _ _ _ _ _)
   | (with_reducible exact ih1 _ _ _ _ _ _ _ _ _ _ _)
   | (with_reducible exact ih2 _ _ _)
   | (with_reducible exact ih3 _ _ _)
   | (with_reducible exact tr_Cam.mono _ _)
   | (with_reducible exact tr_Gauges.mono _ _ _)
   | (with_reducible exact tr_Turn.mono _ _ _)
   | (with_reducible exact LeO.refl _)
   | (with_reducible exact LeO.none _)
   | (with_reducible refine LeO.ite ?_ ?_)
   | (with_reducible refine LeO.bind ?_ (fun _ => ?_))
   | exact ih0 _ _ _ _ _ _ _ _ _
   | exact ih1 _ _ _ _ _ _ _ _ _ _ _
   | exact ih2 _ _ _
   | exact ih3 _ _ _
   | exact tr_Cam.mono _ _
   | exact tr_Gauges.mono _ _ _
   | exact tr_Turn.mono _ _ _
   | exact LeO.none _
   | refine LeO.ite ?_ ?_
   | refine LeO.bind ?_ (fun _ => ?_)
theorem tl_CamMore.mono : ∀ a0 a1 a2 a3 a4 a5 a6 a7 k, LeO (tl_CamMore.f k a0 a1 a2 a3 a4 a5 a6 a7) (tl_CamMore.f (k + 1) a0 a1 a2 a3 a4 a5 a6 a7) := by
 intro a0 a1 a2 a3 a4 a5 a6 a7 k
 obtain ⟨ih0, ih1, ih2, ih3⟩ := tl_CamMore.mono_l k
 unfold tl_CamMore.f
 repeat' first
   | (with_reducible exact ih0 _ _ _ _ _ _ _ _ _)
   | (with_reducible exact ih1 _ _ _ _ _ _ _ _ _ _ _)
   | (with_reducible exact ih2 _ _ _)
   | (with_reducible exact ih3 _ _ _)
   | (with_reducible exact tr_Cam.mono _ _)
   | (with_reducible exact tr_Gauges.mono _ _ _)
   | (with_reducible exact tr_Turn.mono _ _ _)
   | (with_reducible exact LeO.refl _)
   | (with_reducible exact LeO.none _)
   | (with_reducible refine LeO.ite ?_ ?_)
   | (with_reducible refine LeO.bind ?_ (fun _ => ?_))
   | exact ih0 _ _ _ _ _ _ _ _ _
   | exact ih1 _ _ _ _ _ _ _ _ _ _ _
   | exact ih2 _ _ _
   | exact ih3 _ _ _
   | exact tr_Cam.mono _ _
   | exact tr_Gauges.mono _ _ _
   | exact tr_Turn.mono _ _ _
   | exact LeO.none _
   | refine LeO.ite ?_ ?_
   | refine LeO.bind ?_ (fun _ => ?_)
def tl_CamMore.T6 : Bool × List (List Nat × List Nat) := (true, [([], []), ([], []), ([], []), ([1, 2], [1, 2]), ([0, 3, 3], [0, 3]), ([4], [4]), ([5], [5]), ([5], [5]), ([5], [5]), ([6, 4, 0, 1, 2, 3, 4, 5, 6], [6]), ([7, 9, 0, 1, 2, 3, 4, 5, 6, 7, 9], [7]), ([8, 10, 0, 1, 2, 3, 4, 5, 6, 7, 8, 9, 10], [8])])
def tl_CamMore.B6 : List Nat := [0, 0, 0, 6, 15, 31, 63, 63, 63, 127, 767, 2047]
theorem tl_CamMore.tab6 : rtab .any (opsOf Tryz.f4 6) = tl_CamMore.T6 := by kernel_rfl
theorem tl_CamMore.bits6 : waitsOk tl_CamMore.T6.2 tl_CamMore.B6 = true := by kernel_rfl
def tl_CamMore.T16 : Bool × List (List Nat × List Nat) := (true, [([], []), ([], []), ([0, 1], [0, 1]), ([2], [2]), ([3], [3]), ([], []), ([], []), ([5, 6], [5, 6]), ([7], [7]), ([8], [8]), ([4, 9], [4, 9]), ([10], [10]), ([11], [11]), ([11], [11]), ([12, 13, 11], [11, 12, 13]), ([14, 11], [11, 14]), ([15, 11], [11, 15]), ([11], [11]), ([11], [11]), ([17, 18, 11], [11, 17, 18]), ([19, 11], [11, 19]), ([20, 11], [11, 20]), ([16, 21, 11], [11, 16, 21]), ([11, 22], [11, 22])])
def tl_CamMore.B16 : List Nat := [0, 0, 3, 7, 15, 0, 0, 96, 224, 480, 1023, 2047, 4095, 4095, 16383, 32767, 65535, 4095, 4095, 397311, 921599, 1970175, 4194303, 8388607]
theorem tl_CamMore.tab16 : rtab .any (opsOf Tryz.f4 16) = tl_CamMore.T16 := by kernel_rfl
theorem tl_CamMore.bits16 : waitsOk tl_CamMore.T16.2 tl_CamMore.B16 = true := by kernel_rfl
set_option maxHeartbeats 8000000 in
set_option maxRecDepth 100000 in
theorem tl_CamMore.calls (k : Nat) (a0_0 : Int) (a0_1 : Int) (a0_2 : Int) (a0_3 : Int) (A1 : Option Addr) (c1 : Nat) (l1 : List Int) (a2 : Int) (a3 : Int) (A4 : Option Addr) (c4 : Nat) (l4 : List (S66)) (r : Bool) (w : World) (hr1 : Kd.C (Kd.int .i64) w A1 l1.length l1) (hc1 : l1.length ≤ c1) (hr4 : Kd.C k66 w A4 l4.length l4) (hc4 : l4.length ≤ c4) (h : tl_CamMore.f k a0_0 a0_1 a0_2 a0_3 l1 a2 a3 l4 = some r) :
  Calls Tryz.prog 4 #[.agg #[.int .i64 a0_0, .int .i64 a0_1, .int .i64 a0_2, .int .i64 a0_3], .slice A1 l1.length c1, .int .i64 a2, .int .i64 a3, .slice A4 l4.length c4] w fun e w' => e = .returned (.bool r) ∧ Below w.heap.size w w' := by
 have hu35 := Tryz.underlying35
 have HR1 := Aside0.mk hr1
 have HC1 := Aside0.mk hc1
 clear hr1 hc1
 have HR4 := Aside0.mk hr4
 have HC4 := Aside0.mk hc4
 clear hr4 hc4
 have HB := Aside0.mk (Below.refl w.heap.size w)
 have H : ((tl_short.f l1).bind fun t261 => (if t261 = true then ((tl_many.f l4).bind fun t262 => (if t262 = true then ((tr_Rule.f a0_0 a0_1 a0_2 a0_3).bind fun t263 => (if t263 = true then ((tr_Cam.f k l1).bind fun t264 => (if t264 = true then (if a2 < 0 then (tl_CamMore.j0 k l1 a2 a3 l4 true a0_0 a0_1 a0_2 a0_3) else (if a2 > 30 then (tl_CamMore.j0 k l1 a2 a3 l4 true a0_0 a0_1 a0_2 a0_3) else (if a3 < 0 then (tl_CamMore.j0 k l1 a2 a3 l4 true a0_0 a0_1 a0_2 a0_3) else (if a3 ≥ (l1.length : Int) then (tl_CamMore.j0 k l1 a2 a3 l4 true a0_0 a0_1 a0_2 a0_3) else ((tr_Gauges.f k (l1.length : Int) l4).bind fun t265 => (tl_CamMore.j0 k l1 a2 a3 l4 (!t265) a0_0 a0_1 a0_2 a0_3)))))) else (tl_CamMore.j0 k l1 a2 a3 l4 true a0_0 a0_1 a0_2 a0_3))) else (tl_CamMore.j0 k l1 a2 a3 l4 true a0_0 a0_1 a0_2 a0_3))) else (tl_CamMore.j0 k l1 a2 a3 l4 true a0_0 a0_1 a0_2 a0_3))) else (tl_CamMore.j0 k l1 a2 a3 l4 true a0_0 a0_1 a0_2 a0_3))) = some r := h
 clear h
 have HC6 := Aside0.mk H
 clear H
 go_enter Tryz.func4, Tryz.ntmps4
 go_upto_region 1 with (first | ((with_reducible refine gate_dst (N := 5) rfl ?_); (try (refine gate_guard (by rfl) ?_; dsimp only)); refine box_event ?hg (N := 5) ?hd (cs := #[.int .i64 a0_0, .int .i64 a0_1, .int .i64 a0_2, .int .i64 a0_3]) (t := 35) ?hr ?_; (case hd => rfl); (case hg => rfl); (case hr => first | (go_simp; done) | (go_simp; rfl)); intro gb260 hg w7 hbox hb; have n0_ := Aside0.mk (below_step (by repeat (first | (with_reducible first | exact HB.out | apply below_alloc | apply pw_below_drewN | apply below_drew1) | exact HB.out)) hb); have n1_ := Aside0.mk (hbox); have n2_ := Aside0.mk ((by rw [hg]; exact (below_size (by repeat (first | (with_reducible first | exact HB.out | apply below_alloc | apply pw_below_drewN | apply below_drew1) | exact HB.out))) : w.heap.size ≤ gb260)); have n3_ := Aside0.mk ((by rw [hg]; exact (below_size (by repeat (first | (with_reducible first | exact HB.out | apply below_alloc | apply pw_below_drewN | apply below_drew1) | exact HB.out))) : w.heap.size ≤ gb260)); clear HB; have HB := n0_; have BK260 := n1_; have GW260 := n2_; have GE260 := n3_; clear n0_ n1_ n2_ n3_; clear hb hbox hg))
 (try simp only [Act.put, List.setIfInBounds_toArray, List.set_cons_zero, List.set_cons_succ])
 go_cut [68] (fun v68 wc => ∃ (kq : Nat) (x68_5 : Bool), v68 = .bool x68_5 ∧ Aside0 (tl_CamMore.j0 kq l1 a2 a3 l4 x68_5 a0_0 a0_1 a0_2 a0_3 = some r) ∧ Aside0 (kq ≤ k) ∧ Aside0 (wc.heap[gb260]? = some (.cells #[.int .i64 a0_0, .int .i64 a0_1, .int .i64 a0_2, .int .i64 a0_3] 35 (0, 0))) ∧ Aside0 (Below w.heap.size w wc))
 case first =>
  have H := HC6.out
  clear HC6
  replace H := Option.bind_eq_some_iff.mp H
  obtain ⟨t261, A80, H⟩ := H
  replace H : (if t261 = true then ((tl_many.f l4).bind fun t262 => (if t262 = true then ((tr_Rule.f a0_0 a0_1 a0_2 a0_3).bind fun t263 => (if t263 = true then ((tr_Cam.f k l1).bind fun t264 => (if t264 = true then (if a2 < 0 then (tl_CamMore.j0 k l1 a2 a3 l4 true a0_0 a0_1 a0_2 a0_3) else (if a2 > 30 then (tl_CamMore.j0 k l1 a2 a3 l4 true a0_0 a0_1 a0_2 a0_3) else (if a3 < 0 then (tl_CamMore.j0 k l1 a2 a3 l4 true a0_0 a0_1 a0_2 a0_3) else (if a3 ≥ (l1.length : Int) then (tl_CamMore.j0 k l1 a2 a3 l4 true a0_0 a0_1 a0_2 a0_3) else ((tr_Gauges.f k (l1.length : Int) l4).bind fun t265 => (tl_CamMore.j0 k l1 a2 a3 l4 (!t265) a0_0 a0_1 a0_2 a0_3)))))) else (tl_CamMore.j0 k l1 a2 a3 l4 true a0_0 a0_1 a0_2 a0_3))) else (tl_CamMore.j0 k l1 a2 a3 l4 true a0_0 a0_1 a0_2 a0_3))) else (tl_CamMore.j0 k l1 a2 a3 l4 true a0_0 a0_1 a0_2 a0_3))) else (tl_CamMore.j0 k l1 a2 a3 l4 true a0_0 a0_1 a0_2 a0_3)) = some r := H
  have A8 := Aside0.mk A80
  clear A80
  by_cases c9 : t261 = true
  ·
   subst c9
   have H1 : ((tl_many.f l4).bind fun t262 => (if t262 = true then ((tr_Rule.f a0_0 a0_1 a0_2 a0_3).bind fun t263 => (if t263 = true then ((tr_Cam.f k l1).bind fun t264 => (if t264 = true then (if a2 < 0 then (tl_CamMore.j0 k l1 a2 a3 l4 true a0_0 a0_1 a0_2 a0_3) else (if a2 > 30 then (tl_CamMore.j0 k l1 a2 a3 l4 true a0_0 a0_1 a0_2 a0_3) else (if a3 < 0 then (tl_CamMore.j0 k l1 a2 a3 l4 true a0_0 a0_1 a0_2 a0_3) else (if a3 ≥ (l1.length : Int) then (tl_CamMore.j0 k l1 a2 a3 l4 true a0_0 a0_1 a0_2 a0_3) else ((tr_Gauges.f k (l1.length : Int) l4).bind fun t265 => (tl_CamMore.j0 k l1 a2 a3 l4 (!t265) a0_0 a0_1 a0_2 a0_3)))))) else (tl_CamMore.j0 k l1 a2 a3 l4 true a0_0 a0_1 a0_2 a0_3))) else (tl_CamMore.j0 k l1 a2 a3 l4 true a0_0 a0_1 a0_2 a0_3))) else (tl_CamMore.j0 k l1 a2 a3 l4 true a0_0 a0_1 a0_2 a0_3))) = some r := by rw [if_pos rfl] at H; exact H
   clear H
   have H := H1
   clear H1
   replace H := Option.bind_eq_some_iff.mp H
   obtain ⟨t262, A100, H⟩ := H
   replace H : (if t262 = true then ((tr_Rule.f a0_0 a0_1 a0_2 a0_3).bind fun t263 => (if t263 = true then ((tr_Cam.f k l1).bind fun t264 => (if t264 = true then (if a2 < 0 then (tl_CamMore.j0 k l1 a2 a3 l4 true a0_0 a0_1 a0_2 a0_3) else (if a2 > 30 then (tl_CamMore.j0 k l1 a2 a3 l4 true a0_0 a0_1 a0_2 a0_3) else (if a3 < 0 then (tl_CamMore.j0 k l1 a2 a3 l4 true a0_0 a0_1 a0_2 a0_3) else (if a3 ≥ (l1.length : Int) then (tl_CamMore.j0 k l1 a2 a3 l4 true a0_0 a0_1 a0_2 a0_3) else ((tr_Gauges.f k (l1.length : Int) l4).bind fun t265 => (tl_CamMore.j0 k l1 a2 a3 l4 (!t265) a0_0 a0_1 a0_2 a0_3)))))) else (tl_CamMore.j0 k l1 a2 a3 l4 true a0_0 a0_1 a0_2 a0_3))) else (tl_CamMore.j0 k l1 a2 a3 l4 true a0_0 a0_1 a0_2 a0_3))) else (tl_CamMore.j0 k l1 a2 a3 l4 true a0_0 a0_1 a0_2 a0_3)) = some r := H
   have A10 := Aside0.mk A100
   clear A100
   by_cases c11 : t262 = true
   ·
    subst c11
    have H1 : ((tr_Rule.f a0_0 a0_1 a0_2 a0_3).bind fun t263 => (if t263 = true then ((tr_Cam.f k l1).bind fun t264 => (if t264 = true then (if a2 < 0 then (tl_CamMore.j0 k l1 a2 a3 l4 true a0_0 a0_1 a0_2 a0_3) else (if a2 > 30 then (tl_CamMore.j0 k l1 a2 a3 l4 true a0_0 a0_1 a0_2 a0_3) else (if a3 < 0 then (tl_CamMore.j0 k l1 a2 a3 l4 true a0_0 a0_1 a0_2 a0_3) else (if a3 ≥ (l1.length : Int) then (tl_CamMore.j0 k l1 a2 a3 l4 true a0_0 a0_1 a0_2 a0_3) else ((tr_Gauges.f k (l1.length : Int) l4).bind fun t265 => (tl_CamMore.j0 k l1 a2 a3 l4 (!t265) a0_0 a0_1 a0_2 a0_3)))))) else (tl_CamMore.j0 k l1 a2 a3 l4 true a0_0 a0_1 a0_2 a0_3))) else (tl_CamMore.j0 k l1 a2 a3 l4 true a0_0 a0_1 a0_2 a0_3))) = some r := by rw [if_pos rfl] at H; exact H
    clear H
    have H := H1
    clear H1
    replace H := Option.bind_eq_some_iff.mp H
    obtain ⟨t263, A120, H⟩ := H
    replace H : (if t263 = true then ((tr_Cam.f k l1).bind fun t264 => (if t264 = true then (if a2 < 0 then (tl_CamMore.j0 k l1 a2 a3 l4 true a0_0 a0_1 a0_2 a0_3) else (if a2 > 30 then (tl_CamMore.j0 k l1 a2 a3 l4 true a0_0 a0_1 a0_2 a0_3) else (if a3 < 0 then (tl_CamMore.j0 k l1 a2 a3 l4 true a0_0 a0_1 a0_2 a0_3) else (if a3 ≥ (l1.length : Int) then (tl_CamMore.j0 k l1 a2 a3 l4 true a0_0 a0_1 a0_2 a0_3) else ((tr_Gauges.f k (l1.length : Int) l4).bind fun t265 => (tl_CamMore.j0 k l1 a2 a3 l4 (!t265) a0_0 a0_1 a0_2 a0_3)))))) else (tl_CamMore.j0 k l1 a2 a3 l4 true a0_0 a0_1 a0_2 a0_3))) else (tl_CamMore.j0 k l1 a2 a3 l4 true a0_0 a0_1 a0_2 a0_3)) = some r := H
    have A12 := Aside0.mk A120
    clear A120
    by_cases c13 : t263 = true
    ·
     subst c13
     have H1 : ((tr_Cam.f k l1).bind fun t264 => (if t264 = true then (if a2 < 0 then (tl_CamMore.j0 k l1 a2 a3 l4 true a0_0 a0_1 a0_2 a0_3) else (if a2 > 30 then (tl_CamMore.j0 k l1 a2 a3 l4 true a0_0 a0_1 a0_2 a0_3) else (if a3 < 0 then (tl_CamMore.j0 k l1 a2 a3 l4 true a0_0 a0_1 a0_2 a0_3) else (if a3 ≥ (l1.length : Int) then (tl_CamMore.j0 k l1 a2 a3 l4 true a0_0 a0_1 a0_2 a0_3) else ((tr_Gauges.f k (l1.length : Int) l4).bind fun t265 => (tl_CamMore.j0 k l1 a2 a3 l4 (!t265) a0_0 a0_1 a0_2 a0_3)))))) else (tl_CamMore.j0 k l1 a2 a3 l4 true a0_0 a0_1 a0_2 a0_3))) = some r := by rw [if_pos rfl] at H; exact H
     clear H
     have H := H1
     clear H1
     replace H := Option.bind_eq_some_iff.mp H
     obtain ⟨t264, A140, H⟩ := H
     replace H : (if t264 = true then (if a2 < 0 then (tl_CamMore.j0 k l1 a2 a3 l4 true a0_0 a0_1 a0_2 a0_3) else (if a2 > 30 then (tl_CamMore.j0 k l1 a2 a3 l4 true a0_0 a0_1 a0_2 a0_3) else (if a3 < 0 then (tl_CamMore.j0 k l1 a2 a3 l4 true a0_0 a0_1 a0_2 a0_3) else (if a3 ≥ (l1.length : Int) then (tl_CamMore.j0 k l1 a2 a3 l4 true a0_0 a0_1 a0_2 a0_3) else ((tr_Gauges.f k (l1.length : Int) l4).bind fun t265 => (tl_CamMore.j0 k l1 a2 a3 l4 (!t265) a0_0 a0_1 a0_2 a0_3)))))) else (tl_CamMore.j0 k l1 a2 a3 l4 true a0_0 a0_1 a0_2 a0_3)) = some r := H
     have A14 := Aside0.mk A140
     clear A140
     by_cases c15 : t264 = true
     ·
      subst c15
      have H1 : (if a2 < 0 then (tl_CamMore.j0 k l1 a2 a3 l4 true a0_0 a0_1 a0_2 a0_3) else (if a2 > 30 then (tl_CamMore.j0 k l1 a2 a3 l4 true a0_0 a0_1 a0_2 a0_3) else (if a3 < 0 then (tl_CamMore.j0 k l1 a2 a3 l4 true a0_0 a0_1 a0_2 a0_3) else (if a3 ≥ (l1.length : Int) then (tl_CamMore.j0 k l1 a2 a3 l4 true a0_0 a0_1 a0_2 a0_3) else ((tr_Gauges.f k (l1.length : Int) l4).bind fun t265 => (tl_CamMore.j0 k l1 a2 a3 l4 (!t265) a0_0 a0_1 a0_2 a0_3)))))) = some r := by rw [if_pos rfl] at H; exact H
      clear H
      have H := H1
      clear H1
      by_cases c16 : a2 < 0
      ·
       rw [if_pos c16] at H
       have c16b0 : decide (a2 < 0) = true := decide_eq_true c16
       clear c16
       (first | rw [c16b0] | (simp only [i64_w, i32_w]; rw [c16b0]) | skip)
       as_aux_lemma =>
        have H' := Aside0.mk H
        clear H
        go_wp2_with (first | ((with_reducible refine gate_callee (f := 16) rfl ?_); refine goesL_ (some 27) rfl rfl Tryz.func16 (by kernel_rfl) rfl #[.slice A1 l1.length c1] rfl (by (try simp only [List.map_toArray, List.map_cons, List.map_nil]); first | done | rfl | (simp only [List.length_drop, List.length_take]; rfl)) ?_; (with_reducible refine (tl_short.calls _ _ l1 true _ ?side1 ?side2 A8.out).mono ?_); (case side1 => repeat (first | exact (Kd.C_below HR1.out HB.out) | (with_reducible refine Kd.C_alloc ?_ _) | (with_reducible refine Kd.C_drewN ?_ _) | (with_reducible refine Kd.C_drew ?_))); (case side2 => exact HC1.out); rintro e w' ⟨rfl, ⟨nd, rfl⟩⟩; refine ⟨_, rfl, ?_⟩) | (go_at_call 17; (with_reducible refine (tl_many.calls _ _ l4 true _ ?side1 ?side2 A10.out).mono ?_); (case side1 => repeat (first | exact (Kd.C_below HR4.out (by repeat (first | (with_reducible first | exact HB.out | apply below_alloc | apply pw_below_drewN | apply below_drew1 | refine below_set ?_ GE260.out) | exact HB.out))) | (with_reducible refine Kd.C_alloc ?_ _) | (with_reducible refine Kd.C_drewN ?_ _) | (with_reducible refine Kd.C_drew ?_))); (case side2 => exact HC4.out); rintro e w' ⟨rfl, ⟨nd, rfl⟩⟩; have hcz17_0 : w7.cell? ⟨gb260, 0, none⟩ = some (.int .i64 a0_0) := (blk_cell BK260.out 0).trans rfl; have hcz17_1 : w7.cell? ⟨gb260, 1, none⟩ = some (.int .i64 a0_1) := (blk_cell BK260.out 1).trans rfl; have hcz17_2 : w7.cell? ⟨gb260, 2, none⟩ = some (.int .i64 a0_2) := (blk_cell BK260.out 2).trans rfl; have hcz17_3 : w7.cell? ⟨gb260, 3, none⟩ = some (.int .i64 a0_3) := (blk_cell BK260.out 3).trans rfl; have hfz17_0 := blk_frozen BK260.out 0; have hfz17_1 := blk_frozen BK260.out 1; have hfz17_2 := blk_frozen BK260.out 2; have hfz17_3 := blk_frozen BK260.out 3) | (go_at_call 18; (with_reducible refine (tr_Rule.calls a0_0 a0_1 a0_2 a0_3 true _ A12.out).mono ?_); rintro e w18 ⟨rfl, hb⟩; have n0_ := Aside0.mk (blk_below (g := gb260) (o := .cells #[.int .i64 a0_0, .int .i64 a0_1, .int .i64 a0_2, .int .i64 a0_3] 35 (0, 0)) (by (with_reducible repeat (first | refine blk_drewN ?_ _ | refine blk_drew ?_ | refine blk_alloc ?_ _)); exact BK260.out) hb); have n1_ := Aside0.mk (below_step (by repeat (first | (with_reducible first | exact HB.out | apply below_alloc | apply pw_below_drewN | apply below_drew1 | refine below_set ?_ GE260.out) | exact HB.out)) hb); clear BK260; clear HB; have BK260 := n0_; have HB := n1_; clear n0_ n1_; (try clear hb); (try clear hb2); (try clear hk); (try clear hi)) | (go_at_call 19; (with_reducible refine (tr_Cam.calls k _ _ l1 true _ ?side1 ?side2 A14.out).mono ?_); (case side1 => repeat (first | exact (Kd.C_below HR1.out HB.out) | (with_reducible refine Kd.C_alloc ?_ _) | (with_reducible refine Kd.C_drewN ?_ _) | (with_reducible refine Kd.C_drew ?_))); (case side2 => exact HC1.out); rintro e w' ⟨rfl, ⟨nd, rfl⟩⟩))
        go_meet
        case rel => exact ⟨_, (true), (by first | rfl | (simp; done) | (simp [*]; done)), H', ⟨by first | omega | exact Nat.le_refl _⟩, ⟨by (with_reducible repeat (first | refine blk_drewN ?_ _ | refine blk_drew ?_ | refine blk_alloc ?_ _)); exact BK260.out⟩, ⟨by repeat (first | (with_reducible first | exact HB.out | apply below_alloc | apply pw_below_drewN | apply below_drew1 | refine below_set ?_ GE260.out) | exact HB.out)⟩⟩
      ·
       rw [if_neg c16] at H
       have c16b0 : decide (a2 < 0) = false := decide_eq_false c16
       clear c16
       (first | rw [c16b0] | (simp only [i64_w, i32_w]; rw [c16b0]) | skip)
       by_cases c19 : a2 > 30
       ·
        rw [if_pos c19] at H
        have c19b0 : decide (30 < a2) = true := decide_eq_true c19
        clear c19
        as_aux_lemma =>
         have H' := Aside0.mk H
         clear H
         go_wp2_with (first | ((with_reducible refine gate_callee (f := 16) rfl ?_); refine goesL_ (some 27) rfl rfl Tryz.func16 (by kernel_rfl) rfl #[.slice A1 l1.length c1] rfl (by (try simp only [List.map_toArray, List.map_cons, List.map_nil]); first | done | rfl | (simp only [List.length_drop, List.length_take]; rfl)) ?_; (with_reducible refine (tl_short.calls _ _ l1 true _ ?side1 ?side2 A8.out).mono ?_); (case side1 => repeat (first | exact (Kd.C_below HR1.out HB.out) | (with_reducible refine Kd.C_alloc ?_ _) | (with_reducible refine Kd.C_drewN ?_ _) | (with_reducible refine Kd.C_drew ?_))); (case side2 => exact HC1.out); rintro e w' ⟨rfl, ⟨nd, rfl⟩⟩; refine ⟨_, rfl, ?_⟩) | (go_at_call 17; (with_reducible refine (tl_many.calls _ _ l4 true _ ?side1 ?side2 A10.out).mono ?_); (case side1 => repeat (first | exact (Kd.C_below HR4.out (by repeat (first | (with_reducible first | exact HB.out | apply below_alloc | apply pw_below_drewN | apply below_drew1 | refine below_set ?_ GE260.out) | exact HB.out))) | (with_reducible refine Kd.C_alloc ?_ _) | (with_reducible refine Kd.C_drewN ?_ _) | (with_reducible refine Kd.C_drew ?_))); (case side2 => exact HC4.out); rintro e w' ⟨rfl, ⟨nd, rfl⟩⟩; have hcz20_0 : w7.cell? ⟨gb260, 0, none⟩ = some (.int .i64 a0_0) := (blk_cell BK260.out 0).trans rfl; have hcz20_1 : w7.cell? ⟨gb260, 1, none⟩ = some (.int .i64 a0_1) := (blk_cell BK260.out 1).trans rfl; have hcz20_2 : w7.cell? ⟨gb260, 2, none⟩ = some (.int .i64 a0_2) := (blk_cell BK260.out 2).trans rfl; have hcz20_3 : w7.cell? ⟨gb260, 3, none⟩ = some (.int .i64 a0_3) := (blk_cell BK260.out 3).trans rfl; have hfz20_0 := blk_frozen BK260.out 0; have hfz20_1 := blk_frozen BK260.out 1; have hfz20_2 := blk_frozen BK260.out 2; have hfz20_3 := blk_frozen BK260.out 3) | (go_at_call 18; (with_reducible refine (tr_Rule.calls a0_0 a0_1 a0_2 a0_3 true _ A12.out).mono ?_); rintro e w21 ⟨rfl, hb⟩; have n0_ := Aside0.mk (blk_below (g := gb260) (o := .cells #[.int .i64 a0_0, .int .i64 a0_1, .int .i64 a0_2, .int .i64 a0_3] 35 (0, 0)) (by (with_reducible repeat (first | refine blk_drewN ?_ _ | refine blk_drew ?_ | refine blk_alloc ?_ _)); exact BK260.out) hb); have n1_ := Aside0.mk (below_step (by repeat (first | (with_reducible first | exact HB.out | apply below_alloc | apply pw_below_drewN | apply below_drew1 | refine below_set ?_ GE260.out) | exact HB.out)) hb); clear BK260; clear HB; have BK260 := n0_; have HB := n1_; clear n0_ n1_; (try clear hb); (try clear hb2); (try clear hk); (try clear hi)) | (go_at_call 19; (with_reducible refine (tr_Cam.calls k _ _ l1 true _ ?side1 ?side2 A14.out).mono ?_); (case side1 => repeat (first | exact (Kd.C_below HR1.out HB.out) | (with_reducible refine Kd.C_alloc ?_ _) | (with_reducible refine Kd.C_drewN ?_ _) | (with_reducible refine Kd.C_drew ?_))); (case side2 => exact HC1.out); rintro e w' ⟨rfl, ⟨nd, rfl⟩⟩))
         go_meet
         case rel => exact ⟨_, (true), (by first | rfl | (simp; done) | (simp [*]; done)), H', ⟨by first | omega | exact Nat.le_refl _⟩, ⟨by (with_reducible repeat (first | refine blk_drewN ?_ _ | refine blk_drew ?_ | refine blk_alloc ?_ _)); exact BK260.out⟩, ⟨by repeat (first | (with_reducible first | exact HB.out | apply below_alloc | apply pw_below_drewN | apply below_drew1 | refine below_set ?_ GE260.out) | exact HB.out)⟩⟩
       ·
        rw [if_neg c19] at H
        have c19b0 : decide (30 < a2) = false := decide_eq_false c19
        clear c19
        by_cases c22 : a3 < 0
        ·
         rw [if_pos c22] at H
         have c22b0 : decide (a3 < 0) = true := decide_eq_true c22
         clear c22
         as_aux_lemma =>
          have H' := Aside0.mk H
          clear H
          go_wp2_with (first | ((with_reducible refine gate_callee (f := 16) rfl ?_); refine goesL_ (some 27) rfl rfl Tryz.func16 (by kernel_rfl) rfl #[.slice A1 l1.length c1] rfl (by (try simp only [List.map_toArray, List.map_cons, List.map_nil]); first | done | rfl | (simp only [List.length_drop, List.length_take]; rfl)) ?_; (with_reducible refine (tl_short.calls _ _ l1 true _ ?side1 ?side2 A8.out).mono ?_); (case side1 => repeat (first | exact (Kd.C_below HR1.out HB.out) | (with_reducible refine Kd.C_alloc ?_ _) | (with_reducible refine Kd.C_drewN ?_ _) | (with_reducible refine Kd.C_drew ?_))); (case side2 => exact HC1.out); rintro e w' ⟨rfl, ⟨nd, rfl⟩⟩; refine ⟨_, rfl, ?_⟩) | (go_at_call 17; (with_reducible refine (tl_many.calls _ _ l4 true _ ?side1 ?side2 A10.out).mono ?_); (case side1 => repeat (first | exact (Kd.C_below HR4.out (by repeat (first | (with_reducible first | exact HB.out | apply below_alloc | apply pw_below_drewN | apply below_drew1 | refine below_set ?_ GE260.out) | exact HB.out))) | (with_reducible refine Kd.C_alloc ?_ _) | (with_reducible refine Kd.C_drewN ?_ _) | (with_reducible refine Kd.C_drew ?_))); (case side2 => exact HC4.out); rintro e w' ⟨rfl, ⟨nd, rfl⟩⟩; have hcz23_0 : w7.cell? ⟨gb260, 0, none⟩ = some (.int .i64 a0_0) := (blk_cell BK260.out 0).trans rfl; have hcz23_1 : w7.cell? ⟨gb260, 1, none⟩ = some (.int .i64 a0_1) := (blk_cell BK260.out 1).trans rfl; have hcz23_2 : w7.cell? ⟨gb260, 2, none⟩ = some (.int .i64 a0_2) := (blk_cell BK260.out 2).trans rfl; have hcz23_3 : w7.cell? ⟨gb260, 3, none⟩ = some (.int .i64 a0_3) := (blk_cell BK260.out 3).trans rfl; have hfz23_0 := blk_frozen BK260.out 0; have hfz23_1 := blk_frozen BK260.out 1; have hfz23_2 := blk_frozen BK260.out 2; have hfz23_3 := blk_frozen BK260.out 3) | (go_at_call 18; (with_reducible refine (tr_Rule.calls a0_0 a0_1 a0_2 a0_3 true _ A12.out).mono ?_); rintro e w24 ⟨rfl, hb⟩; have n0_ := Aside0.mk (blk_below (g := gb260) (o := .cells #[.int .i64 a0_0, .int .i64 a0_1, .int .i64 a0_2, .int .i64 a0_3] 35 (0, 0)) (by (with_reducible repeat (first | refine blk_drewN ?_ _ | refine blk_drew ?_ | refine blk_alloc ?_ _)); exact BK260.out) hb); have n1_ := Aside0.mk (below_step (by repeat (first | (with_reducible first | exact HB.out | apply below_alloc | apply pw_below_drewN | apply below_drew1 | refine below_set ?_ GE260.out) | exact HB.out)) hb); clear BK260; clear HB; have BK260 := n0_; have HB := n1_; clear n0_ n1_; (try clear hb); (try clear hb2); (try clear hk); (try clear hi)) | (go_at_call 19; (with_reducible refine (tr_Cam.calls k _ _ l1 true _ ?side1 ?side2 A14.out).mono ?_); (case side1 => repeat (first | exact (Kd.C_below HR1.out HB.out) | (with_reducible refine Kd.C_alloc ?_ _) | (with_reducible refine Kd.C_drewN ?_ _) | (with_reducible refine Kd.C_drew ?_))); (case side2 => exact HC1.out); rintro e w' ⟨rfl, ⟨nd, rfl⟩⟩))
          go_meet
          case rel => exact ⟨_, (true), (by first | rfl | (simp; done) | (simp [*]; done)), H', ⟨by first | omega | exact Nat.le_refl _⟩, ⟨by (with_reducible repeat (first | refine blk_drewN ?_ _ | refine blk_drew ?_ | refine blk_alloc ?_ _)); exact BK260.out⟩, ⟨by repeat (first | (with_reducible first | exact HB.out | apply below_alloc | apply pw_below_drewN | apply below_drew1 | refine below_set ?_ GE260.out) | exact HB.out)⟩⟩
        ·
         rw [if_neg c22] at H
         have c22b0 : decide (a3 < 0) = false := decide_eq_false c22
         clear c22
         by_cases c25 : a3 ≥ (l1.length : Int)
         ·
          rw [if_pos c25] at H
          have c25b0 : decide ((l1.length : Int) ≤ a3) = true := decide_eq_true c25
          clear c25
          as_aux_lemma =>
           have H' := Aside0.mk H
           clear H
           go_wp2_with (first | ((with_reducible refine gate_callee (f := 16) rfl ?_); refine goesL_ (some 27) rfl rfl Tryz.func16 (by kernel_rfl) rfl #[.slice A1 l1.length c1] rfl (by (try simp only [List.map_toArray, List.map_cons, List.map_nil]); first | done | rfl | (simp only [List.length_drop, List.length_take]; rfl)) ?_; (with_reducible refine (tl_short.calls _ _ l1 true _ ?side1 ?side2 A8.out).mono ?_); (case side1 => repeat (first | exact (Kd.C_below HR1.out HB.out) | (with_reducible refine Kd.C_alloc ?_ _) | (with_reducible refine Kd.C_drewN ?_ _) | (with_reducible refine Kd.C_drew ?_))); (case side2 => exact HC1.out); rintro e w' ⟨rfl, ⟨nd, rfl⟩⟩; refine ⟨_, rfl, ?_⟩) | (go_at_call 17; (with_reducible refine (tl_many.calls _ _ l4 true _ ?side1 ?side2 A10.out).mono ?_); (case side1 => repeat (first | exact (Kd.C_below HR4.out (by repeat (first | (with_reducible first | exact HB.out | apply below_alloc | apply pw_below_drewN | apply below_drew1 | refine below_set ?_ GE260.out) | exact HB.out))) | (with_reducible refine Kd.C_alloc ?_ _) | (with_reducible refine Kd.C_drewN ?_ _) | (with_reducible refine Kd.C_drew ?_))); (case side2 => exact HC4.out); rintro e w' ⟨rfl, ⟨nd, rfl⟩⟩; have hcz26_0 : w7.cell? ⟨gb260, 0, none⟩ = some (.int .i64 a0_0) := (blk_cell BK260.out 0).trans rfl; have hcz26_1 : w7.cell? ⟨gb260, 1, none⟩ = some (.int .i64 a0_1) := (blk_cell BK260.out 1).trans rfl; have hcz26_2 : w7.cell? ⟨gb260, 2, none⟩ = some (.int .i64 a0_2) := (blk_cell BK260.out 2).trans rfl; have hcz26_3 : w7.cell? ⟨gb260, 3, none⟩ = some (.int .i64 a0_3) := (blk_cell BK260.out 3).trans rfl; have hfz26_0 := blk_frozen BK260.out 0; have hfz26_1 := blk_frozen BK260.out 1; have hfz26_2 := blk_frozen BK260.out 2; have hfz26_3 := blk_frozen BK260.out 3) | (go_at_call 18; (with_reducible refine (tr_Rule.calls a0_0 a0_1 a0_2 a0_3 true _ A12.out).mono ?_); rintro e w27 ⟨rfl, hb⟩; have n0_ := Aside0.mk (blk_below (g := gb260) (o := .cells #[.int .i64 a0_0, .int .i64 a0_1, .int .i64 a0_2, .int .i64 a0_3] 35 (0, 0)) (by (with_reducible repeat (first | refine blk_drewN ?_ _ | refine blk_drew ?_ | refine blk_alloc ?_ _)); exact BK260.out) hb); have n1_ := Aside0.mk (below_step (by repeat (first | (with_reducible first | exact HB.out | apply below_alloc | apply pw_below_drewN | apply below_drew1 | refine below_set ?_ GE260.out) | exact HB.out)) hb); clear BK260; clear HB; have BK260 := n0_; have HB := n1_; clear n0_ n1_; (try clear hb); (try clear hb2); (try clear hk); (try clear hi)) | (go_at_call 19; (with_reducible refine (tr_Cam.calls k _ _ l1 true _ ?side1 ?side2 A14.out).mono ?_); (case side1 => repeat (first | exact (Kd.C_below HR1.out HB.out) | (with_reducible refine Kd.C_alloc ?_ _) | (with_reducible refine Kd.C_drewN ?_ _) | (with_reducible refine Kd.C_drew ?_))); (case side2 => exact HC1.out); rintro e w' ⟨rfl, ⟨nd, rfl⟩⟩))
           go_meet
           case rel => exact ⟨_, (true), (by first | rfl | (simp; done) | (simp [*]; done)), H', ⟨by first | omega | exact Nat.le_refl _⟩, ⟨by (with_reducible repeat (first | refine blk_drewN ?_ _ | refine blk_drew ?_ | refine blk_alloc ?_ _)); exact BK260.out⟩, ⟨by repeat (first | (with_reducible first | exact HB.out | apply below_alloc | apply pw_below_drewN | apply below_drew1 | refine below_set ?_ GE260.out) | exact HB.out)⟩⟩
         ·
          rw [if_neg c25] at H
          have c25b0 : decide ((l1.length : Int) ≤ a3) = false := decide_eq_false c25
          clear c25
          replace H := Option.bind_eq_some_iff.mp H
          obtain ⟨t265, A280, H⟩ := H
          replace H : (tl_CamMore.j0 k l1 a2 a3 l4 (!t265) a0_0 a0_1 a0_2 a0_3) = some r := H
          have A28 := Aside0.mk A280
          clear A280
          as_aux_lemma =>
           have H' := Aside0.mk H
           clear H
           go_wp2_with (first | ((with_reducible refine gate_callee (f := 16) rfl ?_); refine goesL_ (some 27) rfl rfl Tryz.func16 (by kernel_rfl) rfl #[.slice A1 l1.length c1] rfl (by (try simp only [List.map_toArray, List.map_cons, List.map_nil]); first | done | rfl | (simp only [List.length_drop, List.length_take]; rfl)) ?_; (with_reducible refine (tl_short.calls _ _ l1 true _ ?side1 ?side2 A8.out).mono ?_); (case side1 => repeat (first | exact (Kd.C_below HR1.out HB.out) | (with_reducible refine Kd.C_alloc ?_ _) | (with_reducible refine Kd.C_drewN ?_ _) | (with_reducible refine Kd.C_drew ?_))); (case side2 => exact HC1.out); rintro e w' ⟨rfl, ⟨nd, rfl⟩⟩; refine ⟨_, rfl, ?_⟩) | (go_at_call 17; (with_reducible refine (tl_many.calls _ _ l4 true _ ?side1 ?side2 A10.out).mono ?_); (case side1 => repeat (first | exact (Kd.C_below HR4.out (by repeat (first | (with_reducible first | exact HB.out | apply below_alloc | apply pw_below_drewN | apply below_drew1 | refine below_set ?_ GE260.out) | exact HB.out))) | (with_reducible refine Kd.C_alloc ?_ _) | (with_reducible refine Kd.C_drewN ?_ _) | (with_reducible refine Kd.C_drew ?_))); (case side2 => exact HC4.out); rintro e w' ⟨rfl, ⟨nd, rfl⟩⟩; have hcz29_0 : w7.cell? ⟨gb260, 0, none⟩ = some (.int .i64 a0_0) := (blk_cell BK260.out 0).trans rfl; have hcz29_1 : w7.cell? ⟨gb260, 1, none⟩ = some (.int .i64 a0_1) := (blk_cell BK260.out 1).trans rfl; have hcz29_2 : w7.cell? ⟨gb260, 2, none⟩ = some (.int .i64 a0_2) := (blk_cell BK260.out 2).trans rfl; have hcz29_3 : w7.cell? ⟨gb260, 3, none⟩ = some (.int .i64 a0_3) := (blk_cell BK260.out 3).trans rfl; have hfz29_0 := blk_frozen BK260.out 0; have hfz29_1 := blk_frozen BK260.out 1; have hfz29_2 := blk_frozen BK260.out 2; have hfz29_3 := blk_frozen BK260.out 3) | (go_at_call 18; (with_reducible refine (tr_Rule.calls a0_0 a0_1 a0_2 a0_3 true _ A12.out).mono ?_); rintro e w30 ⟨rfl, hb⟩; have n0_ := Aside0.mk (blk_below (g := gb260) (o := .cells #[.int .i64 a0_0, .int .i64 a0_1, .int .i64 a0_2, .int .i64 a0_3] 35 (0, 0)) (by (with_reducible repeat (first | refine blk_drewN ?_ _ | refine blk_drew ?_ | refine blk_alloc ?_ _)); exact BK260.out) hb); have n1_ := Aside0.mk (below_step (by repeat (first | (with_reducible first | exact HB.out | apply below_alloc | apply pw_below_drewN | apply below_drew1 | refine below_set ?_ GE260.out) | exact HB.out)) hb); clear BK260; clear HB; have BK260 := n0_; have HB := n1_; clear n0_ n1_; (try clear hb); (try clear hb2); (try clear hk); (try clear hi)) | (go_at_call 19; (with_reducible refine (tr_Cam.calls k _ _ l1 true _ ?side1 ?side2 A14.out).mono ?_); (case side1 => repeat (first | exact (Kd.C_below HR1.out HB.out) | (with_reducible refine Kd.C_alloc ?_ _) | (with_reducible refine Kd.C_drewN ?_ _) | (with_reducible refine Kd.C_drew ?_))); (case side2 => exact HC1.out); rintro e w' ⟨rfl, ⟨nd, rfl⟩⟩) | (go_at_call 20; (with_reducible refine (tr_Gauges.calls k (l1.length : Int) _ _ l4 t265 _ ?side1 ?side2 A28.out).mono ?_); (case side1 => repeat (first | exact (Kd.C_below HR4.out (by repeat (first | (with_reducible first | exact HB.out | apply below_alloc | apply pw_below_drewN | apply below_drew1 | refine below_set ?_ GE260.out) | exact HB.out))) | (with_reducible refine Kd.C_alloc ?_ _) | (with_reducible refine Kd.C_drewN ?_ _) | (with_reducible refine Kd.C_drew ?_))); (case side2 => exact HC4.out); rintro e w' ⟨rfl, ⟨nd, rfl⟩⟩))
           go_meet
           case rel => exact ⟨_, (!t265), (by first | rfl | (simp; done) | (simp [*]; done)), H', ⟨by first | omega | exact Nat.le_refl _⟩, ⟨by (with_reducible repeat (first | refine blk_drewN ?_ _ | refine blk_drew ?_ | refine blk_alloc ?_ _)); exact BK260.out⟩, ⟨by repeat (first | (with_reducible first | exact HB.out | apply below_alloc | apply pw_below_drewN | apply below_drew1 | refine below_set ?_ GE260.out) | exact HB.out)⟩⟩
     ·
      replace c15 := Bool.eq_false_iff.mpr c15
      subst c15
      have H1 : (tl_CamMore.j0 k l1 a2 a3 l4 true a0_0 a0_1 a0_2 a0_3) = some r := by rw [if_neg (show ¬ (false = true) by decide)] at H; exact H
      clear H
      have H := H1
      clear H1
      as_aux_lemma =>
       have H' := Aside0.mk H
       clear H
       go_wp2_with (first | ((with_reducible refine gate_callee (f := 16) rfl ?_); refine goesL_ (some 27) rfl rfl Tryz.func16 (by kernel_rfl) rfl #[.slice A1 l1.length c1] rfl (by (try simp only [List.map_toArray, List.map_cons, List.map_nil]); first | done | rfl | (simp only [List.length_drop, List.length_take]; rfl)) ?_; (with_reducible refine (tl_short.calls _ _ l1 true _ ?side1 ?side2 A8.out).mono ?_); (case side1 => repeat (first | exact (Kd.C_below HR1.out HB.out) | (with_reducible refine Kd.C_alloc ?_ _) | (with_reducible refine Kd.C_drewN ?_ _) | (with_reducible refine Kd.C_drew ?_))); (case side2 => exact HC1.out); rintro e w' ⟨rfl, ⟨nd, rfl⟩⟩; refine ⟨_, rfl, ?_⟩) | (go_at_call 17; (with_reducible refine (tl_many.calls _ _ l4 true _ ?side1 ?side2 A10.out).mono ?_); (case side1 => repeat (first | exact (Kd.C_below HR4.out (by repeat (first | (with_reducible first | exact HB.out | apply below_alloc | apply pw_below_drewN | apply below_drew1 | refine below_set ?_ GE260.out) | exact HB.out))) | (with_reducible refine Kd.C_alloc ?_ _) | (with_reducible refine Kd.C_drewN ?_ _) | (with_reducible refine Kd.C_drew ?_))); (case side2 => exact HC4.out); rintro e w' ⟨rfl, ⟨nd, rfl⟩⟩; have hcz31_0 : w7.cell? ⟨gb260, 0, none⟩ = some (.int .i64 a0_0) := (blk_cell BK260.out 0).trans rfl; have hcz31_1 : w7.cell? ⟨gb260, 1, none⟩ = some (.int .i64 a0_1) := (blk_cell BK260.out 1).trans rfl; have hcz31_2 : w7.cell? ⟨gb260, 2, none⟩ = some (.int .i64 a0_2) := (blk_cell BK260.out 2).trans rfl; have hcz31_3 : w7.cell? ⟨gb260, 3, none⟩ = some (.int .i64 a0_3) := (blk_cell BK260.out 3).trans rfl; have hfz31_0 := blk_frozen BK260.out 0; have hfz31_1 := blk_frozen BK260.out 1; have hfz31_2 := blk_frozen BK260.out 2; have hfz31_3 := blk_frozen BK260.out 3) | (go_at_call 18; (with_reducible refine (tr_Rule.calls a0_0 a0_1 a0_2 a0_3 true _ A12.out).mono ?_); rintro e w32 ⟨rfl, hb⟩; have n0_ := Aside0.mk (blk_below (g := gb260) (o := .cells #[.int .i64 a0_0, .int .i64 a0_1, .int .i64 a0_2, .int .i64 a0_3] 35 (0, 0)) (by (with_reducible repeat (first | refine blk_drewN ?_ _ | refine blk_drew ?_ | refine blk_alloc ?_ _)); exact BK260.out) hb); have n1_ := Aside0.mk (below_step (by repeat (first | (with_reducible first | exact HB.out | apply below_alloc | apply pw_below_drewN | apply below_drew1 | refine below_set ?_ GE260.out) | exact HB.out)) hb); clear BK260; clear HB; have BK260 := n0_; have HB := n1_; clear n0_ n1_; (try clear hb); (try clear hb2); (try clear hk); (try clear hi)) | (go_at_call 19; (with_reducible refine (tr_Cam.calls k _ _ l1 false _ ?side1 ?side2 A14.out).mono ?_); (case side1 => repeat (first | exact (Kd.C_below HR1.out HB.out) | (with_reducible refine Kd.C_alloc ?_ _) | (with_reducible refine Kd.C_drewN ?_ _) | (with_reducible refine Kd.C_drew ?_))); (case side2 => exact HC1.out); rintro e w' ⟨rfl, ⟨nd, rfl⟩⟩))
       go_meet
       case rel => exact ⟨_, (true), (by first | rfl | (simp; done) | (simp [*]; done)), H', ⟨by first | omega | exact Nat.le_refl _⟩, ⟨by (with_reducible repeat (first | refine blk_drewN ?_ _ | refine blk_drew ?_ | refine blk_alloc ?_ _)); exact BK260.out⟩, ⟨by repeat (first | (with_reducible first | exact HB.out | apply below_alloc | apply pw_below_drewN | apply below_drew1 | refine below_set ?_ GE260.out) | exact HB.out)⟩⟩
    ·
     replace c13 := Bool.eq_false_iff.mpr c13
     subst c13
     have H1 : (tl_CamMore.j0 k l1 a2 a3 l4 true a0_0 a0_1 a0_2 a0_3) = some r := by rw [if_neg (show ¬ (false = true) by decide)] at H; exact H
     clear H
     have H := H1
     clear H1
     as_aux_lemma =>
      have H' := Aside0.mk H
      clear H
      go_wp2_with (first | ((with_reducible refine gate_callee (f := 16) rfl ?_); refine goesL_ (some 27) rfl rfl Tryz.func16 (by kernel_rfl) rfl #[.slice A1 l1.length c1] rfl (by (try simp only [List.map_toArray, List.map_cons, List.map_nil]); first | done | rfl | (simp only [List.length_drop, List.length_take]; rfl)) ?_; (with_reducible refine (tl_short.calls _ _ l1 true _ ?side1 ?side2 A8.out).mono ?_); (case side1 => repeat (first | exact (Kd.C_below HR1.out HB.out) | (with_reducible refine Kd.C_alloc ?_ _) | (with_reducible refine Kd.C_drewN ?_ _) | (with_reducible refine Kd.C_drew ?_))); (case side2 => exact HC1.out); rintro e w' ⟨rfl, ⟨nd, rfl⟩⟩; refine ⟨_, rfl, ?_⟩) | (go_at_call 17; (with_reducible refine (tl_many.calls _ _ l4 true _ ?side1 ?side2 A10.out).mono ?_); (case side1 => repeat (first | exact (Kd.C_below HR4.out (by repeat (first | (with_reducible first | exact HB.out | apply below_alloc | apply pw_below_drewN | apply below_drew1 | refine below_set ?_ GE260.out) | exact HB.out))) | (with_reducible refine Kd.C_alloc ?_ _) | (with_reducible refine Kd.C_drewN ?_ _) | (with_reducible refine Kd.C_drew ?_))); (case side2 => exact HC4.out); rintro e w' ⟨rfl, ⟨nd, rfl⟩⟩; have hcz33_0 : w7.cell? ⟨gb260, 0, none⟩ = some (.int .i64 a0_0) := (blk_cell BK260.out 0).trans rfl; have hcz33_1 : w7.cell? ⟨gb260, 1, none⟩ = some (.int .i64 a0_1) := (blk_cell BK260.out 1).trans rfl; have hcz33_2 : w7.cell? ⟨gb260, 2, none⟩ = some (.int .i64 a0_2) := (blk_cell BK260.out 2).trans rfl; have hcz33_3 : w7.cell? ⟨gb260, 3, none⟩ = some (.int .i64 a0_3) := (blk_cell BK260.out 3).trans rfl; have hfz33_0 := blk_frozen BK260.out 0; have hfz33_1 := blk_frozen BK260.out 1; have hfz33_2 := blk_frozen BK260.out 2; have hfz33_3 := blk_frozen BK260.out 3) | (go_at_call 18; (with_reducible refine (tr_Rule.calls a0_0 a0_1 a0_2 a0_3 false _ A12.out).mono ?_); rintro e w34 ⟨rfl, hb⟩; have n0_ := Aside0.mk (blk_below (g := gb260) (o := .cells #[.int .i64 a0_0, .int .i64 a0_1, .int .i64 a0_2, .int .i64 a0_3] 35 (0, 0)) (by (with_reducible repeat (first | refine blk_drewN ?_ _ | refine blk_drew ?_ | refine blk_alloc ?_ _)); exact BK260.out) hb); have n1_ := Aside0.mk (below_step (by repeat (first | (with_reducible first | exact HB.out | apply below_alloc | apply pw_below_drewN | apply below_drew1 | refine below_set ?_ GE260.out) | exact HB.out)) hb); clear BK260; clear HB; have BK260 := n0_; have HB := n1_; clear n0_ n1_; (try clear hb); (try clear hb2); (try clear hk); (try clear hi)))
      go_meet
      case rel => exact ⟨_, (true), (by first | rfl | (simp; done) | (simp [*]; done)), H', ⟨by first | omega | exact Nat.le_refl _⟩, ⟨by (with_reducible repeat (first | refine blk_drewN ?_ _ | refine blk_drew ?_ | refine blk_alloc ?_ _)); exact BK260.out⟩, ⟨by repeat (first | (with_reducible first | exact HB.out | apply below_alloc | apply pw_below_drewN | apply below_drew1 | refine below_set ?_ GE260.out) | exact HB.out)⟩⟩
   ·
    replace c11 := Bool.eq_false_iff.mpr c11
    subst c11
    have H1 : (tl_CamMore.j0 k l1 a2 a3 l4 true a0_0 a0_1 a0_2 a0_3) = some r := by rw [if_neg (show ¬ (false = true) by decide)] at H; exact H
    clear H
    have H := H1
    clear H1
    as_aux_lemma =>
     have H' := Aside0.mk H
     clear H
     go_wp2_with (first | ((with_reducible refine gate_callee (f := 16) rfl ?_); refine goesL_ (some 27) rfl rfl Tryz.func16 (by kernel_rfl) rfl #[.slice A1 l1.length c1] rfl (by (try simp only [List.map_toArray, List.map_cons, List.map_nil]); first | done | rfl | (simp only [List.length_drop, List.length_take]; rfl)) ?_; (with_reducible refine (tl_short.calls _ _ l1 true _ ?side1 ?side2 A8.out).mono ?_); (case side1 => repeat (first | exact (Kd.C_below HR1.out HB.out) | (with_reducible refine Kd.C_alloc ?_ _) | (with_reducible refine Kd.C_drewN ?_ _) | (with_reducible refine Kd.C_drew ?_))); (case side2 => exact HC1.out); rintro e w' ⟨rfl, ⟨nd, rfl⟩⟩; refine ⟨_, rfl, ?_⟩) | (go_at_call 17; (with_reducible refine (tl_many.calls _ _ l4 false _ ?side1 ?side2 A10.out).mono ?_); (case side1 => repeat (first | exact (Kd.C_below HR4.out (by repeat (first | (with_reducible first | exact HB.out | apply below_alloc | apply pw_below_drewN | apply below_drew1 | refine below_set ?_ GE260.out) | exact HB.out))) | (with_reducible refine Kd.C_alloc ?_ _) | (with_reducible refine Kd.C_drewN ?_ _) | (with_reducible refine Kd.C_drew ?_))); (case side2 => exact HC4.out); rintro e w' ⟨rfl, ⟨nd, rfl⟩⟩))
     go_meet
     case rel => exact ⟨_, (true), (by first | rfl | (simp; done) | (simp [*]; done)), H', ⟨by first | omega | exact Nat.le_refl _⟩, ⟨by (with_reducible repeat (first | refine blk_drewN ?_ _ | refine blk_drew ?_ | refine blk_alloc ?_ _)); exact BK260.out⟩, ⟨by repeat (first | (with_reducible first | exact HB.out | apply below_alloc | apply pw_below_drewN | apply below_drew1 | refine below_set ?_ GE260.out) | exact HB.out)⟩⟩
  ·
   replace c9 := Bool.eq_false_iff.mpr c9
   subst c9
   have H1 : (tl_CamMore.j0 k l1 a2 a3 l4 true a0_0 a0_1 a0_2 a0_3) = some r := by rw [if_neg (show ¬ (false = true) by decide)] at H; exact H
   clear H
   have H := H1
   clear H1
   as_aux_lemma =>
    have H' := Aside0.mk H
    clear H
    go_wp2_with (first | ((with_reducible refine gate_callee (f := 16) rfl ?_); refine goesL_ (some 27) rfl rfl Tryz.func16 (by kernel_rfl) rfl #[.slice A1 l1.length c1] rfl (by (try simp only [List.map_toArray, List.map_cons, List.map_nil]); first | done | rfl | (simp only [List.length_drop, List.length_take]; rfl)) ?_; (with_reducible refine (tl_short.calls _ _ l1 false _ ?side1 ?side2 A8.out).mono ?_); (case side1 => repeat (first | exact (Kd.C_below HR1.out HB.out) | (with_reducible refine Kd.C_alloc ?_ _) | (with_reducible refine Kd.C_drewN ?_ _) | (with_reducible refine Kd.C_drew ?_))); (case side2 => exact HC1.out); rintro e w' ⟨rfl, ⟨nd, rfl⟩⟩; refine ⟨_, rfl, ?_⟩))
    go_meet
    case rel => exact ⟨_, (true), (by first | rfl | (simp; done) | (simp [*]; done)), H', ⟨by first | omega | exact Nat.le_refl _⟩, ⟨by (with_reducible repeat (first | refine blk_drewN ?_ _ | refine blk_drew ?_ | refine blk_alloc ?_ _)); exact BK260.out⟩, ⟨by repeat (first | (with_reducible first | exact HB.out | apply below_alloc | apply pw_below_drewN | apply below_drew1 | refine below_set ?_ GE260.out) | exact HB.out)⟩⟩
 case rest =>
  clear HC6
  try clear c1
  try clear c2
  try clear p2
  try clear c4
  try clear c9
  try clear c11
  try clear c13
  try clear c15
  try clear c16
  try clear c16b0
  try clear c19
  try clear c19b0
  try clear c22
  try clear c22b0
  try clear c25
  try clear c25b0
  try clear hcz17_0
  try clear hcz17_1
  try clear hcz17_2
  try clear hcz17_3
  try clear hcz20_0
  try clear hcz20_1
  try clear hcz20_2
  try clear hcz20_3
  try clear hcz23_0
  try clear hcz23_1
  try clear hcz23_2
  try clear hcz23_3
  try clear hcz26_0
  try clear hcz26_1
  try clear hcz26_2
  try clear hcz26_3
  try clear hcz29_0
  try clear hcz29_1
  try clear hcz29_2
  try clear hcz29_3
  try clear hcz31_0
  try clear hcz31_1
  try clear hcz31_2
  try clear hcz31_3
  try clear hcz33_0
  try clear hcz33_1
  try clear hcz33_2
  try clear hcz33_3
  try clear hfz17_0
  try clear hfz17_1
  try clear hfz17_2
  try clear hfz17_3
  try clear hfz20_0
  try clear hfz20_1
  try clear hfz20_2
  try clear hfz20_3
  try clear hfz23_0
  try clear hfz23_1
  try clear hfz23_2
  try clear hfz23_3
  try clear hfz26_0
  try clear hfz26_1
  try clear hfz26_2
  try clear hfz26_3
  try clear hfz29_0
  try clear hfz29_1
  try clear hfz29_2
  try clear hfz29_3
  try clear hfz31_0
  try clear hfz31_1
  try clear hfz31_2
  try clear hfz31_3
  try clear hfz33_0
  try clear hfz33_1
  try clear hfz33_2
  try clear hfz33_3
  obtain ⟨kq, x68_5, rfl, HA, HJ5, BK260, HB⟩ := hcut
  cases kq with
  | zero => exact absurd HA.out (by simp [tl_CamMore.j0])
  | succ kj5 =>
   have H := HA.out
   clear HA
   simp only [tl_CamMore.j0] at H
   by_cases c35 : x68_5 = true
   ·
    subst c35
    have H1 : ((tellurionlaw04_known.f).bind fun t266 => (some t266)) = some r := by rw [if_pos rfl] at H; exact H
    clear H
    have H := H1
    clear H1
    replace H := Option.bind_eq_some_iff.mp H
    obtain ⟨t266, A360, H⟩ := H
    replace H : (some t266) = some r := H
    have A36 := Aside0.mk A360
    clear A360
    as_aux_lemma =>
     obtain rfl := Option.some.inj H
     go_wp2_with (first | ((with_reducible refine gate_callee (f := 11) rfl ?_); refine goesL_ (some 69) rfl rfl Tryz.func11 (by kernel_rfl) rfl #[] rfl (by (try simp only [List.map_toArray, List.map_cons, List.map_nil]); first | done | rfl | (simp only [List.length_drop, List.length_take]; rfl)) ?_; (with_reducible refine (tellurionlaw04_known.calls  t266 _ A36.out).mono ?_); rintro e w37 ⟨rfl, hb⟩; refine ⟨_, rfl, ?_⟩; have n0_ := Aside0.mk (blk_below (g := gb260) (o := .cells #[.int .i64 a0_0, .int .i64 a0_1, .int .i64 a0_2, .int .i64 a0_3] 35 (0, 0)) (by (with_reducible repeat (first | refine blk_drewN ?_ _ | refine blk_drew ?_ | refine blk_alloc ?_ _)); exact BK260.out) hb); have n1_ := Aside0.mk (below_step (by repeat (first | (with_reducible first | exact HB.out | apply below_alloc | apply pw_below_drewN | apply below_drew1 | refine below_set ?_ GE260.out) | exact HB.out)) hb); clear BK260; clear HB; have BK260 := n0_; have HB := n1_; clear n0_ n1_; (try clear hb); (try clear hb2); (try clear hk); (try clear hi)))
     go_ret
     exact ⟨by first | rfl | (simp [errW_none, errW_some] <;> rfl) | (simp [*, errW_none, errW_some] <;> rfl), by repeat (first | (with_reducible first | exact HB.out | apply below_alloc | apply pw_below_drewN | apply below_drew1 | refine below_set ?_ GE260.out) | exact HB.out)⟩
   ·
    replace c35 := Bool.eq_false_iff.mpr c35
    subst c35
    have H1 : ((cam_Nearest.f a0_0 a0_1 a0_2 a0_3 l1).bind fun bt268 => ((cam_Nearest.f (mx 0 (wrap64 (a0_0 - a2))) (mn 30 (wrap64 (a0_1 + a2))) (mn 30 (wrap64 (a0_2 + a2))) (mn 24 (wrap64 (a0_3 + a2))) l1).bind fun bt273 => ((tr_Turn.f kj5 l1 a3).bind fun t278 => ((cam_Nearest.f a0_0 a0_1 a0_2 a0_3 t278).bind fun bt281 => (if bt268.2.2 = 0 then (if bt273.2.2 = 0 then (if bt281.2.2 = 0 then (if bt273.2.1 > bt268.2.1 then (tl_CamMore.j1 kj5 l1 l4 true a0_0 a0_1 a0_2 a0_3 (mx 0 (wrap64 (a0_0 - a2))) (mn 30 (wrap64 (a0_1 + a2))) (mn 30 (wrap64 (a0_2 + a2))) (mn 24 (wrap64 (a0_3 + a2)))) else (tl_CamMore.j1 kj5 l1 l4 (bt281.2.1 != bt268.2.1) a0_0 a0_1 a0_2 a0_3 (mx 0 (wrap64 (a0_0 - a2))) (mn 30 (wrap64 (a0_1 + a2))) (mn 30 (wrap64 (a0_2 + a2))) (mn 24 (wrap64 (a0_3 + a2))))) else (tl_CamMore.j1 kj5 l1 l4 true a0_0 a0_1 a0_2 a0_3 (mx 0 (wrap64 (a0_0 - a2))) (mn 30 (wrap64 (a0_1 + a2))) (mn 30 (wrap64 (a0_2 + a2))) (mn 24 (wrap64 (a0_3 + a2))))) else (tl_CamMore.j1 kj5 l1 l4 true a0_0 a0_1 a0_2 a0_3 (mx 0 (wrap64 (a0_0 - a2))) (mn 30 (wrap64 (a0_1 + a2))) (mn 30 (wrap64 (a0_2 + a2))) (mn 24 (wrap64 (a0_3 + a2))))) else (tl_CamMore.j1 kj5 l1 l4 true a0_0 a0_1 a0_2 a0_3 (mx 0 (wrap64 (a0_0 - a2))) (mn 30 (wrap64 (a0_1 + a2))) (mn 30 (wrap64 (a0_2 + a2))) (mn 24 (wrap64 (a0_3 + a2))))))))) = some r := by rw [if_neg (show ¬ (false = true) by decide)] at H; exact H
    clear H
    have H := H1
    clear H1
    obtain ⟨ji38, hji38⟩ : ∃ j_ : Int, (mx 0 (wrap64 (a0_0 - a2))) = j_ := ⟨_, rfl⟩
    replace H : ((cam_Nearest.f a0_0 a0_1 a0_2 a0_3 l1).bind fun bt268 => ((cam_Nearest.f (ji38) (mn 30 (wrap64 (a0_1 + a2))) (mn 30 (wrap64 (a0_2 + a2))) (mn 24 (wrap64 (a0_3 + a2))) l1).bind fun bt273 => ((tr_Turn.f kj5 l1 a3).bind fun t278 => ((cam_Nearest.f a0_0 a0_1 a0_2 a0_3 t278).bind fun bt281 => (if bt268.2.2 = 0 then (if bt273.2.2 = 0 then (if bt281.2.2 = 0 then (if bt273.2.1 > bt268.2.1 then (tl_CamMore.j1 kj5 l1 l4 true a0_0 a0_1 a0_2 a0_3 ji38 (mn 30 (wrap64 (a0_1 + a2))) (mn 30 (wrap64 (a0_2 + a2))) (mn 24 (wrap64 (a0_3 + a2)))) else (tl_CamMore.j1 kj5 l1 l4 (bt281.2.1 != bt268.2.1) a0_0 a0_1 a0_2 a0_3 ji38 (mn 30 (wrap64 (a0_1 + a2))) (mn 30 (wrap64 (a0_2 + a2))) (mn 24 (wrap64 (a0_3 + a2))))) else (tl_CamMore.j1 kj5 l1 l4 true a0_0 a0_1 a0_2 a0_3 ji38 (mn 30 (wrap64 (a0_1 + a2))) (mn 30 (wrap64 (a0_2 + a2))) (mn 24 (wrap64 (a0_3 + a2))))) else (tl_CamMore.j1 kj5 l1 l4 true a0_0 a0_1 a0_2 a0_3 ji38 (mn 30 (wrap64 (a0_1 + a2))) (mn 30 (wrap64 (a0_2 + a2))) (mn 24 (wrap64 (a0_3 + a2))))) else (tl_CamMore.j1 kj5 l1 l4 true a0_0 a0_1 a0_2 a0_3 ji38 (mn 30 (wrap64 (a0_1 + a2))) (mn 30 (wrap64 (a0_2 + a2))) (mn 24 (wrap64 (a0_3 + a2))))))))) = some r := by first | (rw [hji38] at H; exact H) | (simp only [hji38] at H ⊢; exact H)
    have hji38_ : (if 0 < (wrap64 (a0_0 - a2)) then (wrap64 (a0_0 - a2)) else 0) = ji38 := hji38
    obtain ⟨ji39, hji39⟩ : ∃ j_ : Int, (mn 30 (wrap64 (a0_1 + a2))) = j_ := ⟨_, rfl⟩
    replace H : ((cam_Nearest.f a0_0 a0_1 a0_2 a0_3 l1).bind fun bt268 => ((cam_Nearest.f (ji38) (ji39) (mn 30 (wrap64 (a0_2 + a2))) (mn 24 (wrap64 (a0_3 + a2))) l1).bind fun bt273 => ((tr_Turn.f kj5 l1 a3).bind fun t278 => ((cam_Nearest.f a0_0 a0_1 a0_2 a0_3 t278).bind fun bt281 => (if bt268.2.2 = 0 then (if bt273.2.2 = 0 then (if bt281.2.2 = 0 then (if bt273.2.1 > bt268.2.1 then (tl_CamMore.j1 kj5 l1 l4 true a0_0 a0_1 a0_2 a0_3 ji38 ji39 (mn 30 (wrap64 (a0_2 + a2))) (mn 24 (wrap64 (a0_3 + a2)))) else (tl_CamMore.j1 kj5 l1 l4 (bt281.2.1 != bt268.2.1) a0_0 a0_1 a0_2 a0_3 ji38 ji39 (mn 30 (wrap64 (a0_2 + a2))) (mn 24 (wrap64 (a0_3 + a2))))) else (tl_CamMore.j1 kj5 l1 l4 true a0_0 a0_1 a0_2 a0_3 ji38 ji39 (mn 30 (wrap64 (a0_2 + a2))) (mn 24 (wrap64 (a0_3 + a2))))) else (tl_CamMore.j1 kj5 l1 l4 true a0_0 a0_1 a0_2 a0_3 ji38 ji39 (mn 30 (wrap64 (a0_2 + a2))) (mn 24 (wrap64 (a0_3 + a2))))) else (tl_CamMore.j1 kj5 l1 l4 true a0_0 a0_1 a0_2 a0_3 ji38 ji39 (mn 30 (wrap64 (a0_2 + a2))) (mn 24 (wrap64 (a0_3 + a2))))))))) = some r := by first | (rw [hji39] at H; exact H) | (simp only [hji39] at H ⊢; exact H)
    have hji39_ : (if (wrap64 (a0_1 + a2)) < 30 then (wrap64 (a0_1 + a2)) else 30) = ji39 := hji39
    obtain ⟨ji40, hji40⟩ : ∃ j_ : Int, (mn 30 (wrap64 (a0_2 + a2))) = j_ := ⟨_, rfl⟩
    replace H : ((cam_Nearest.f a0_0 a0_1 a0_2 a0_3 l1).bind fun bt268 => ((cam_Nearest.f (ji38) (ji39) (ji40) (mn 24 (wrap64 (a0_3 + a2))) l1).bind fun bt273 => ((tr_Turn.f kj5 l1 a3).bind fun t278 => ((cam_Nearest.f a0_0 a0_1 a0_2 a0_3 t278).bind fun bt281 => (if bt268.2.2 = 0 then (if bt273.2.2 = 0 then (if bt281.2.2 = 0 then (if bt273.2.1 > bt268.2.1 then (tl_CamMore.j1 kj5 l1 l4 true a0_0 a0_1 a0_2 a0_3 ji38 ji39 ji40 (mn 24 (wrap64 (a0_3 + a2)))) else (tl_CamMore.j1 kj5 l1 l4 (bt281.2.1 != bt268.2.1) a0_0 a0_1 a0_2 a0_3 ji38 ji39 ji40 (mn 24 (wrap64 (a0_3 + a2))))) else (tl_CamMore.j1 kj5 l1 l4 true a0_0 a0_1 a0_2 a0_3 ji38 ji39 ji40 (mn 24 (wrap64 (a0_3 + a2))))) else (tl_CamMore.j1 kj5 l1 l4 true a0_0 a0_1 a0_2 a0_3 ji38 ji39 ji40 (mn 24 (wrap64 (a0_3 + a2))))) else (tl_CamMore.j1 kj5 l1 l4 true a0_0 a0_1 a0_2 a0_3 ji38 ji39 ji40 (mn 24 (wrap64 (a0_3 + a2))))))))) = some r := by first | (rw [hji40] at H; exact H) | (simp only [hji40] at H ⊢; exact H)
    have hji40_ : (if (wrap64 (a0_2 + a2)) < 30 then (wrap64 (a0_2 + a2)) else 30) = ji40 := hji40
    obtain ⟨ji41, hji41⟩ : ∃ j_ : Int, (mn 24 (wrap64 (a0_3 + a2))) = j_ := ⟨_, rfl⟩
    replace H : ((cam_Nearest.f a0_0 a0_1 a0_2 a0_3 l1).bind fun bt268 => ((cam_Nearest.f (ji38) (ji39) (ji40) (ji41) l1).bind fun bt273 => ((tr_Turn.f kj5 l1 a3).bind fun t278 => ((cam_Nearest.f a0_0 a0_1 a0_2 a0_3 t278).bind fun bt281 => (if bt268.2.2 = 0 then (if bt273.2.2 = 0 then (if bt281.2.2 = 0 then (if bt273.2.1 > bt268.2.1 then (tl_CamMore.j1 kj5 l1 l4 true a0_0 a0_1 a0_2 a0_3 ji38 ji39 ji40 ji41) else (tl_CamMore.j1 kj5 l1 l4 (bt281.2.1 != bt268.2.1) a0_0 a0_1 a0_2 a0_3 ji38 ji39 ji40 ji41)) else (tl_CamMore.j1 kj5 l1 l4 true a0_0 a0_1 a0_2 a0_3 ji38 ji39 ji40 ji41)) else (tl_CamMore.j1 kj5 l1 l4 true a0_0 a0_1 a0_2 a0_3 ji38 ji39 ji40 ji41)) else (tl_CamMore.j1 kj5 l1 l4 true a0_0 a0_1 a0_2 a0_3 ji38 ji39 ji40 ji41)))))) = some r := by first | (rw [hji41] at H; exact H) | (simp only [hji41] at H ⊢; exact H)
    have hji41_ : (if (wrap64 (a0_3 + a2)) < 24 then (wrap64 (a0_3 + a2)) else 24) = ji41 := hji41
    replace H := Option.bind_eq_some_iff.mp H
    obtain ⟨⟨t268, t271, t272⟩, A420, H⟩ := H
    replace H : ((cam_Nearest.f (ji38) (ji39) (ji40) (ji41) l1).bind fun bt273 => ((tr_Turn.f kj5 l1 a3).bind fun t278 => ((cam_Nearest.f a0_0 a0_1 a0_2 a0_3 t278).bind fun bt281 => (if t272 = 0 then (if bt273.2.2 = 0 then (if bt281.2.2 = 0 then (if bt273.2.1 > t271 then (tl_CamMore.j1 kj5 l1 l4 true a0_0 a0_1 a0_2 a0_3 ji38 ji39 ji40 ji41) else (tl_CamMore.j1 kj5 l1 l4 (bt281.2.1 != t271) a0_0 a0_1 a0_2 a0_3 ji38 ji39 ji40 ji41)) else (tl_CamMore.j1 kj5 l1 l4 true a0_0 a0_1 a0_2 a0_3 ji38 ji39 ji40 ji41)) else (tl_CamMore.j1 kj5 l1 l4 true a0_0 a0_1 a0_2 a0_3 ji38 ji39 ji40 ji41)) else (tl_CamMore.j1 kj5 l1 l4 true a0_0 a0_1 a0_2 a0_3 ji38 ji39 ji40 ji41))))) = some r := H
    have A42 := Aside0.mk A420
    clear A420
    replace H := Option.bind_eq_some_iff.mp H
    obtain ⟨⟨t273, t276, t277⟩, A430, H⟩ := H
    replace H : ((tr_Turn.f kj5 l1 a3).bind fun t278 => ((cam_Nearest.f a0_0 a0_1 a0_2 a0_3 t278).bind fun bt281 => (if t272 = 0 then (if t277 = 0 then (if bt281.2.2 = 0 then (if t276 > t271 then (tl_CamMore.j1 kj5 l1 l4 true a0_0 a0_1 a0_2 a0_3 ji38 ji39 ji40 ji41) else (tl_CamMore.j1 kj5 l1 l4 (bt281.2.1 != t271) a0_0 a0_1 a0_2 a0_3 ji38 ji39 ji40 ji41)) else (tl_CamMore.j1 kj5 l1 l4 true a0_0 a0_1 a0_2 a0_3 ji38 ji39 ji40 ji41)) else (tl_CamMore.j1 kj5 l1 l4 true a0_0 a0_1 a0_2 a0_3 ji38 ji39 ji40 ji41)) else (tl_CamMore.j1 kj5 l1 l4 true a0_0 a0_1 a0_2 a0_3 ji38 ji39 ji40 ji41)))) = some r := H
    have A43 := Aside0.mk A430
    clear A430
    replace H := Option.bind_eq_some_iff.mp H
    obtain ⟨t278, A440, H⟩ := H
    replace H : ((cam_Nearest.f a0_0 a0_1 a0_2 a0_3 t278).bind fun bt281 => (if t272 = 0 then (if t277 = 0 then (if bt281.2.2 = 0 then (if t276 > t271 then (tl_CamMore.j1 kj5 l1 l4 true a0_0 a0_1 a0_2 a0_3 ji38 ji39 ji40 ji41) else (tl_CamMore.j1 kj5 l1 l4 (bt281.2.1 != t271) a0_0 a0_1 a0_2 a0_3 ji38 ji39 ji40 ji41)) else (tl_CamMore.j1 kj5 l1 l4 true a0_0 a0_1 a0_2 a0_3 ji38 ji39 ji40 ji41)) else (tl_CamMore.j1 kj5 l1 l4 true a0_0 a0_1 a0_2 a0_3 ji38 ji39 ji40 ji41)) else (tl_CamMore.j1 kj5 l1 l4 true a0_0 a0_1 a0_2 a0_3 ji38 ji39 ji40 ji41))) = some r := H
    have A44 := Aside0.mk A440
    clear A440
    replace H := Option.bind_eq_some_iff.mp H
    obtain ⟨⟨t281, t284, t285⟩, A450, H⟩ := H
    replace H : (if t272 = 0 then (if t277 = 0 then (if t285 = 0 then (if t276 > t271 then (tl_CamMore.j1 kj5 l1 l4 true a0_0 a0_1 a0_2 a0_3 ji38 ji39 ji40 ji41) else (tl_CamMore.j1 kj5 l1 l4 (t284 != t271) a0_0 a0_1 a0_2 a0_3 ji38 ji39 ji40 ji41)) else (tl_CamMore.j1 kj5 l1 l4 true a0_0 a0_1 a0_2 a0_3 ji38 ji39 ji40 ji41)) else (tl_CamMore.j1 kj5 l1 l4 true a0_0 a0_1 a0_2 a0_3 ji38 ji39 ji40 ji41)) else (tl_CamMore.j1 kj5 l1 l4 true a0_0 a0_1 a0_2 a0_3 ji38 ji39 ji40 ji41)) = some r := H
    have A45 := Aside0.mk A450
    clear A450
    have HC46 := Aside0.mk H
    clear H
    have hcz47_0 : wc.cell? ⟨gb260, 0, none⟩ = some (.int .i64 a0_0) := (blk_cell BK260.out 0).trans rfl
    have hcz47_1 : wc.cell? ⟨gb260, 1, none⟩ = some (.int .i64 a0_1) := (blk_cell BK260.out 1).trans rfl
    have hcz47_2 : wc.cell? ⟨gb260, 2, none⟩ = some (.int .i64 a0_2) := (blk_cell BK260.out 2).trans rfl
    have hcz47_3 : wc.cell? ⟨gb260, 3, none⟩ = some (.int .i64 a0_3) := (blk_cell BK260.out 3).trans rfl
    have hfz47_0 := blk_frozen BK260.out 0
    have hfz47_1 := blk_frozen BK260.out 1
    have hfz47_2 := blk_frozen BK260.out 2
    have hfz47_3 := blk_frozen BK260.out 3
    try go_wp2_with (first | ((with_reducible refine gate_dst (N := 11) rfl ?_); (try (refine gate_guard (by rfl) ?_; dsimp only)); refine box_event ?hg (N := 11) ?hd (cs := #[.int .i64 0, .int .i64 0, .int .i64 0, .int .i64 0]) (t := 35) ?hr ?_; (case hd => rfl); (case hg => rfl); (case hr => first | (go_simp; done) | (go_simp; rfl)); intro gb267 hg w48 hbox hb; have n0_ := Aside0.mk (blk_below (g := gb260) (o := .cells #[.int .i64 a0_0, .int .i64 a0_1, .int .i64 a0_2, .int .i64 a0_3] 35 (0, 0)) (by (with_reducible repeat (first | refine blk_drewN ?_ _ | refine blk_drew ?_ | refine blk_alloc ?_ _)); exact BK260.out) hb); have n1_ := Aside0.mk (below_step (by repeat (first | (with_reducible first | exact HB.out | apply below_alloc | apply pw_below_drewN | apply below_drew1 | refine below_set ?_ GE260.out) | exact HB.out)) hb); have n2_ := Aside0.mk (hbox); have n3_ := Aside0.mk ((by rw [hg]; exact (below_size (by repeat (first | (with_reducible first | exact HB.out | apply below_alloc | apply pw_below_drewN | apply below_drew1 | refine below_set ?_ GE260.out) | exact HB.out))) : w.heap.size ≤ gb267)); have n4_ := Aside0.mk ((by rw [hg]; exact (below_size (by repeat (first | (with_reducible first | exact HB.out | apply below_alloc | apply pw_below_drewN | apply below_drew1 | refine below_set ?_ GE260.out) | exact HB.out))) : w.heap.size ≤ gb267)); have n5_ := Aside0.mk ((by rw [hg]; exact Nat.ne_of_lt (blk_lt (g := gb260) (o := .cells #[.int .i64 a0_0, .int .i64 a0_1, .int .i64 a0_2, .int .i64 a0_3] 35 (0, 0)) (by (with_reducible repeat (first | refine blk_drewN ?_ _ | refine blk_drew ?_ | refine blk_alloc ?_ _)); exact BK260.out)) : gb260 ≠ gb267)); have n6_ := Aside0.mk ((by rw [hg]; exact Nat.ne_of_gt (blk_lt (g := gb260) (o := .cells #[.int .i64 a0_0, .int .i64 a0_1, .int .i64 a0_2, .int .i64 a0_3] 35 (0, 0)) (by (with_reducible repeat (first | refine blk_drewN ?_ _ | refine blk_drew ?_ | refine blk_alloc ?_ _)); exact BK260.out)) : gb267 ≠ gb260)); clear BK260; clear HB; have BK260 := n0_; have HB := n1_; have BK267 := n2_; have GW267 := n3_; have GE267 := n4_; have NB260_267 := n5_; have NB267_260 := n6_; clear n0_ n1_ n2_ n3_ n4_ n5_ n6_; clear hb hbox hg; have hnb49 := NB267_260.out; have hnc49 := NB260_267.out; have hcz50_0 : w48.cell? ⟨gb267, 0, none⟩ = some (.int .i64 0) := (blk_cell BK267.out 0).trans rfl; have hcz50_1 : w48.cell? ⟨gb267, 1, none⟩ = some (.int .i64 0) := (blk_cell BK267.out 1).trans rfl; have hcz50_2 : w48.cell? ⟨gb267, 2, none⟩ = some (.int .i64 0) := (blk_cell BK267.out 2).trans rfl; have hcz50_3 : w48.cell? ⟨gb267, 3, none⟩ = some (.int .i64 0) := (blk_cell BK267.out 3).trans rfl; have hfz50_0 := blk_frozen BK267.out 0; have hfz50_1 := blk_frozen BK267.out 1; have hfz50_2 := blk_frozen BK267.out 2; have hfz50_3 := blk_frozen BK267.out 3; have hcz51_0 : w48.cell? ⟨gb260, 0, none⟩ = some (.int .i64 a0_0) := (blk_cell BK260.out 0).trans rfl; have hcz51_1 : w48.cell? ⟨gb260, 1, none⟩ = some (.int .i64 a0_1) := (blk_cell BK260.out 1).trans rfl; have hcz51_2 : w48.cell? ⟨gb260, 2, none⟩ = some (.int .i64 a0_2) := (blk_cell BK260.out 2).trans rfl; have hcz51_3 : w48.cell? ⟨gb260, 3, none⟩ = some (.int .i64 a0_3) := (blk_cell BK260.out 3).trans rfl; have hfz51_0 := blk_frozen BK260.out 0; have hfz51_1 := blk_frozen BK260.out 1; have hfz51_2 := blk_frozen BK260.out 2; have hfz51_3 := blk_frozen BK260.out 3) | ((with_reducible refine gate_callee (f := 21) rfl ?_); refine goesL_ (some 94) rfl rfl Tryz.func21 (by kernel_rfl) rfl #[.agg #[.int .i64 a0_0, .int .i64 a0_1, .int .i64 a0_2, .int .i64 a0_3], .slice A1 l1.length c1] rfl (by (try simp only [List.map_toArray, List.map_cons, List.map_nil]); first | done | rfl | (simp only [List.length_drop, List.length_take]; rfl)) ?_; (with_reducible refine (cam_Nearest.calls a0_0 a0_1 a0_2 a0_3 _ _ l1 t268 t271 t272 _ ?side1 ?side2 A42.out).mono ?_); (case side1 => exact Kd.C_below HR1.out (by repeat (first | (with_reducible first | exact HB.out | apply below_alloc | apply pw_below_drewN | apply below_drew1 | refine below_set ?_ GE260.out | refine below_set ?_ GE267.out) | exact HB.out))); (case side2 => exact HC1.out); rintro e w52 ⟨v269, rfl, ho0, hb⟩; refine ⟨_, rfl, ?_⟩; have n0_ := Aside0.mk (Kd.R_lower ho0 (below_size (by repeat (first | (with_reducible first | exact HB.out | apply below_alloc | apply pw_below_drewN | apply below_drew1 | refine below_set ?_ GE260.out | refine below_set ?_ GE267.out) | exact HB.out)))); have n1_ := Aside0.mk (blk_below (g := gb260) (o := .cells #[.int .i64 a0_0, .int .i64 a0_1, .int .i64 a0_2, .int .i64 a0_3] 35 (0, 0)) (by (with_reducible repeat (first | refine blk_drewN ?_ _ | refine blk_drew ?_ | refine blk_alloc ?_ _)); refine blk_far ?_ NB260_267.out _; (with_reducible repeat (first | refine blk_drewN ?_ _ | refine blk_drew ?_ | refine blk_alloc ?_ _)); refine blk_far ?_ NB260_267.out _; (with_reducible repeat (first | refine blk_drewN ?_ _ | refine blk_drew ?_ | refine blk_alloc ?_ _)); refine blk_far ?_ NB260_267.out _; (with_reducible repeat (first | refine blk_drewN ?_ _ | refine blk_drew ?_ | refine blk_alloc ?_ _)); refine blk_far ?_ NB260_267.out _; (with_reducible repeat (first | refine blk_drewN ?_ _ | refine blk_drew ?_ | refine blk_alloc ?_ _)); exact BK260.out) hb); have n2_ := Aside0.mk (blk_below (g := gb267) (o := .cells #[.int .i64 ji38, .int .i64 ji39, .int .i64 ji40, .int .i64 ji41] 35 (0, 0)) (by (with_reducible repeat (first | refine blk_drewN ?_ _ | refine blk_drew ?_ | refine blk_alloc ?_ _)); refine blk_put (cs := #[.int .i64 ji38, .int .i64 ji39, .int .i64 ji40, .int .i64 0]) ?_ 3 _ rfl; (with_reducible repeat (first | refine blk_drewN ?_ _ | refine blk_drew ?_ | refine blk_alloc ?_ _)); refine blk_put (cs := #[.int .i64 ji38, .int .i64 ji39, .int .i64 0, .int .i64 0]) ?_ 2 _ rfl; (with_reducible repeat (first | refine blk_drewN ?_ _ | refine blk_drew ?_ | refine blk_alloc ?_ _)); refine blk_put (cs := #[.int .i64 ji38, .int .i64 0, .int .i64 0, .int .i64 0]) ?_ 1 _ rfl; (with_reducible repeat (first | refine blk_drewN ?_ _ | refine blk_drew ?_ | refine blk_alloc ?_ _)); refine blk_put (cs := #[.int .i64 0, .int .i64 0, .int .i64 0, .int .i64 0]) ?_ 0 _ rfl; (with_reducible repeat (first | refine blk_drewN ?_ _ | refine blk_drew ?_ | refine blk_alloc ?_ _)); exact BK267.out) hb); have n3_ := Aside0.mk (below_step (by repeat (first | (with_reducible first | exact HB.out | apply below_alloc | apply pw_below_drewN | apply below_drew1 | refine below_set ?_ GE260.out | refine below_set ?_ GE267.out) | exact HB.out)) hb); clear BK260; clear BK267; clear HB; have HO270 := n0_; have BK260 := n1_; have BK267 := n2_; have HB := n3_; clear n0_ n1_ n2_ n3_; (try clear hb); (try clear hb2); (try clear hk); (try clear hi); (try clear ho0); have hcz53_0 : w52.cell? ⟨gb267, 0, none⟩ = some (.int .i64 ji38) := (blk_cell BK267.out 0).trans rfl; have hcz53_1 : w52.cell? ⟨gb267, 1, none⟩ = some (.int .i64 ji39) := (blk_cell BK267.out 1).trans rfl; have hcz53_2 : w52.cell? ⟨gb267, 2, none⟩ = some (.int .i64 ji40) := (blk_cell BK267.out 2).trans rfl; have hcz53_3 : w52.cell? ⟨gb267, 3, none⟩ = some (.int .i64 ji41) := (blk_cell BK267.out 3).trans rfl; have hfz53_0 := blk_frozen BK267.out 0; have hfz53_1 := blk_frozen BK267.out 1; have hfz53_2 := blk_frozen BK267.out 2; have hfz53_3 := blk_frozen BK267.out 3) | ((with_reducible refine gate_callee (f := 21) rfl ?_); refine goesL_ (some 101) rfl rfl Tryz.func21 (by kernel_rfl) rfl #[.agg #[.int .i64 ji38, .int .i64 ji39, .int .i64 ji40, .int .i64 ji41], .slice A1 l1.length c1] rfl (by (try simp only [List.map_toArray, List.map_cons, List.map_nil]); first | done | (simp only [hji38, hji39, hji40, hji41]; rfl) | rfl | (simp only [List.length_drop, List.length_take]; rfl)) ?_; (with_reducible refine (cam_Nearest.calls ji38 ji39 ji40 ji41 _ _ l1 t273 t276 t277 _ ?side1 ?side2 A43.out).mono ?_); (case side1 => repeat (first | exact (Kd.C_below HR1.out HB.out) | (with_reducible refine Kd.C_alloc ?_ _) | (with_reducible refine Kd.C_drewN ?_ _) | (with_reducible refine Kd.C_drew ?_))); (case side2 => exact HC1.out); rintro e w54 ⟨v274, rfl, ho0, hb⟩; refine ⟨_, rfl, ?_⟩; have n0_ := Aside0.mk (Kd.R_elder' (by (with_reducible repeat (first | apply Kd.R_alloc | apply Kd.R_drewN | apply Kd.R_drew)); exact HO270.out) (Kd.R_base ho0) hb); have n1_ := Aside0.mk (Kd.R_lower (Kd.R_new' ho0 (Kd.R_lt (by (with_reducible repeat (first | apply Kd.R_alloc | apply Kd.R_drewN | apply Kd.R_drew)); exact HO270.out))) (below_size (by repeat (first | (with_reducible first | exact HB.out | apply below_alloc | apply pw_below_drewN | apply below_drew1 | refine below_set ?_ GE260.out | refine below_set ?_ GE267.out) | exact HB.out)))); have n2_ := Aside0.mk (blk_below (g := gb260) (o := .cells #[.int .i64 a0_0, .int .i64 a0_1, .int .i64 a0_2, .int .i64 a0_3] 35 (0, 0)) (by (with_reducible repeat (first | refine blk_drewN ?_ _ | refine blk_drew ?_ | refine blk_alloc ?_ _)); exact BK260.out) hb); have n3_ := Aside0.mk (blk_below (g := gb267) (o := .cells #[.int .i64 ji38, .int .i64 ji39, .int .i64 ji40, .int .i64 ji41] 35 (0, 0)) (by (with_reducible repeat (first | refine blk_drewN ?_ _ | refine blk_drew ?_ | refine blk_alloc ?_ _)); exact BK267.out) hb); have n4_ := Aside0.mk (below_step (by repeat (first | (with_reducible first | exact HB.out | apply below_alloc | apply pw_below_drewN | apply below_drew1 | refine below_set ?_ GE260.out | refine below_set ?_ GE267.out) | exact HB.out)) hb); clear HO270; clear BK260; clear BK267; clear HB; have HO270 := n0_; have HO275 := n1_; have BK260 := n2_; have BK267 := n3_; have HB := n4_; clear n0_ n1_ n2_ n3_ n4_; (try clear hb); (try clear hb2); (try clear hk); (try clear hi); (try clear ho0)))
    have n0_ := Aside0.mk (Kd.R_drew HO270.out)
    have n1_ := Aside0.mk (Kd.R_drew HO275.out)
    have n2_ := Aside0.mk (blk_drew BK260.out)
    have n3_ := Aside0.mk (blk_drew BK267.out)
    have n4_ := Aside0.mk (below_drew1 HB.out)
    clear HO270
    clear HO275
    clear BK260
    clear BK267
    clear HB
    have HO270 := n0_
    have HO275 := n1_
    have BK260 := n2_
    have BK267 := n3_
    have HB := n4_
    clear n0_ n1_ n2_ n3_ n4_
    refine start_ (n := 12) (S := fun w' => w'.cell? ⟨gb260, 0, none⟩ = some (.int .i64 a0_0) ∧ w'.cell? ⟨gb260, 1, none⟩ = some (.int .i64 a0_1) ∧ w'.cell? ⟨gb260, 2, none⟩ = some (.int .i64 a0_2) ∧ w'.cell? ⟨gb260, 3, none⟩ = some (.int .i64 a0_3)) (ds := []) #[false, false, false, false, false, false, false, false, false, false, false, false] (by kernel_rfl) rfl rfl ⟨(blk_cell BK260.out 0).trans rfl, (blk_cell BK260.out 1).trans rfl, (blk_cell BK260.out 2).trans rfl, (blk_cell BK260.out 3).trans rfl⟩ (fun hHeld => ?_); refine with_tabW tl_CamMore.tab6 tl_CamMore.bits6 (fun HT_ HW_ => ?_)
    generalize w54.drew = w55 at HO270 HO275 BK260 BK267 HB hHeld ⊢
    refine pure_ (i := 1) (N := some 107) (v := ?_) (a' := ?_) #[false, true, false, false, false, false, false, false, false, false, false, false] rfl rfl (any_of HT_.out (by kernel_rfl)) (fun _ _ _ h => h) (Or.inl ⟨by rfl, ?_⟩) ?_ ?_
    rotate_left
    ·
     intro w'
     go_simp
     with_reducible rfl
    rotate_left
    ·
     simp only [Act.put, List.setIfInBounds_toArray, List.set_cons_zero, List.set_cons_succ, i64_w, i32_w]
     rfl
    refine pure_ (i := 2) (N := some 108) (v := ?_) (a' := ?_) #[false, true, true, false, false, false, false, false, false, false, false, false] rfl rfl (any_of HT_.out (by kernel_rfl)) (fun _ _ _ h => h) (Or.inl ⟨by rfl, ?_⟩) ?_ ?_
    rotate_left
    ·
     intro w'
     go_simp
     with_reducible rfl
    rotate_left
    ·
     simp only [Act.put, List.setIfInBounds_toArray, List.set_cons_zero, List.set_cons_succ, i64_w, i32_w]
     rfl
    refine take_ (i := 0) (N := some 106) (v := ?_) (a' := ?_) #[true, true, true, false, false, false, false, false, false, false, false, false] rfl rfl (take_ofW HT_.out HW_.out (by kernel_rfl)) (fun _ _ _ h => h) (Or.inl ⟨by rfl, ?_⟩) hHeld ?_ ?_
    rotate_left
    ·
     rintro w' ⟨s0, s1, s2, s3⟩
     go_simp
     with_reducible rfl
    rotate_left
    ·
     simp only [Act.put, List.setIfInBounds_toArray, List.set_cons_zero, List.set_cons_succ, i64_w, i32_w]
     rfl
    refine one_ (i := 3) (N := some 109) #[true, true, true, true, false, false, false, false, false, false, false, false] rfl rfl (one_of HT_.out (by kernel_rfl)) (by decide) (fun K hK => ?_)
    refine goes_ Tryz.func22 (by kernel_rfl) rfl #[.slice A1 l1.length c1, .int .i64 a3] (by rfl) rfl rfl (by (try simp only [List.map_toArray, List.map_cons, List.map_nil]); first | done | rfl | (simp only [List.length_drop, List.length_take]; rfl)) ?_
    with_reducible refine (tr_Turn.calls kj5 _ _ l1 a3 t278 _ ?side1 ?side2 A44.out).mono ?_
    (case side1 => repeat (first | exact (Kd.C_below HR1.out HB.out) | (with_reducible refine Kd.C_alloc ?_ _) | (with_reducible refine Kd.C_drewN ?_ _) | (with_reducible refine Kd.C_drew ?_)))
    (case side2 => exact HC1.out)
    rintro e w56 ⟨v279, rfl, ho0, hb⟩
    refine ⟨_, rfl, ?_⟩
    have n0_ := Aside0.mk (Kd.R_elder' (by (with_reducible repeat (first | apply Kd.R_alloc | apply Kd.R_drewN | apply Kd.R_drew)); exact HO270.out) (Kd.R_base ho0) hb)
    have n1_ := Aside0.mk (Kd.R_elder' (by (with_reducible repeat (first | apply Kd.R_alloc | apply Kd.R_drewN | apply Kd.R_drew)); exact HO275.out) (Kd.R_base ho0) hb)
    have n2_ := Aside0.mk (Kd.R_lower (Kd.R_new' (Kd.R_new' ho0 (Kd.R_lt (by (with_reducible repeat (first | apply Kd.R_alloc | apply Kd.R_drewN | apply Kd.R_drew)); exact HO270.out))) (Kd.R_lt (by (with_reducible repeat (first | apply Kd.R_alloc | apply Kd.R_drewN | apply Kd.R_drew)); exact HO275.out))) (below_size (by repeat (first | (with_reducible first | exact HB.out | apply below_alloc | apply pw_below_drewN | apply below_drew1 | refine below_set ?_ GE260.out | refine below_set ?_ GE267.out) | exact HB.out))))
    have n3_ := Aside0.mk (blk_below (g := gb260) (o := .cells #[.int .i64 a0_0, .int .i64 a0_1, .int .i64 a0_2, .int .i64 a0_3] 35 (0, 0)) (by (with_reducible repeat (first | refine blk_drewN ?_ _ | refine blk_drew ?_ | refine blk_alloc ?_ _)); exact BK260.out) hb)
    have n4_ := Aside0.mk (blk_below (g := gb267) (o := .cells #[.int .i64 ji38, .int .i64 ji39, .int .i64 ji40, .int .i64 ji41] 35 (0, 0)) (by (with_reducible repeat (first | refine blk_drewN ?_ _ | refine blk_drew ?_ | refine blk_alloc ?_ _)); exact BK267.out) hb)
    have n5_ := Aside0.mk (below_step (by repeat (first | (with_reducible first | exact HB.out | apply below_alloc | apply pw_below_drewN | apply below_drew1 | refine below_set ?_ GE260.out | refine below_set ?_ GE267.out) | exact HB.out)) hb)
    clear HO270
    clear HO275
    clear BK260
    clear BK267
    clear HB
    have HO270 := n0_
    have HO275 := n1_
    have HO280 := n2_
    have BK260 := n3_
    have BK267 := n4_
    have HB := n5_
    clear n0_ n1_ n2_ n3_ n4_ n5_
    (try clear hb)
    (try clear hb2)
    (try clear hk)
    (try clear hi)
    (try clear ho0)
    obtain ⟨Ao57, co57, eo57⟩ := Kd.R_slice HO280.out
    (first | subst eo57 | (injection eo57 with f1_ f2_ f3_; have f4_ := f1_.symm; have f5_ := f3_.symm; clear f1_ f2_ f3_; subst f4_; subst f5_))
    refine hK.out _ _ ⟨(blk_cell BK260.out 0).trans rfl, (blk_cell BK260.out 1).trans rfl, (blk_cell BK260.out 2).trans rfl, (blk_cell BK260.out 3).trans rfl⟩ (fun hHeld => ?_)
    clear hK K
    refine norm_ (a' := ?_) ?_ ?_
    rotate_left
    ·
     show Act.put _ (some 109) _ = _
     simp only [Act.put, List.setIfInBounds_toArray, List.set_cons_zero, List.set_cons_succ, i64_w, i32_w]
     rfl
    refine one_ (i := 4) (N := some 110) #[true, true, true, true, true, false, false, false, false, false, false, false] rfl rfl (one_of HT_.out (by kernel_rfl)) (by decide) (fun K hK => ?_)
    refine goes_ Tryz.func21 (by kernel_rfl) rfl #[.agg #[.int .i64 a0_0, .int .i64 a0_1, .int .i64 a0_2, .int .i64 a0_3], .slice Ao57 t278.length co57] (by rfl) rfl rfl (by (try simp only [List.map_toArray, List.map_cons, List.map_nil]); first | done | rfl | (simp only [List.length_drop, List.length_take]; rfl)) ?_
    with_reducible refine (cam_Nearest.calls a0_0 a0_1 a0_2 a0_3 _ _ t278 t281 t284 t285 _ ?side1 ?side2 A45.out).mono ?_
    (case side1 => repeat (first | exact (Kd.R_reads' HO280.out).2.2 | (with_reducible refine Kd.C_alloc ?_ _) | (with_reducible refine Kd.C_drewN ?_ _) | (with_reducible refine Kd.C_drew ?_)))
    (case side2 => exact (Kd.R_reads' HO280.out).2.1)
    rintro e w58 ⟨v282, rfl, ho0, hb⟩
    refine ⟨_, rfl, ?_⟩
    have n0_ := Aside0.mk (Kd.R_elder' (by (with_reducible repeat (first | apply Kd.R_alloc | apply Kd.R_drewN | apply Kd.R_drew)); exact HO270.out) (Kd.R_base ho0) hb)
    have n1_ := Aside0.mk (Kd.R_elder' (by (with_reducible repeat (first | apply Kd.R_alloc | apply Kd.R_drewN | apply Kd.R_drew)); exact HO275.out) (Kd.R_base ho0) hb)
    have n2_ := Aside0.mk (Kd.R_elder' (by (with_reducible repeat (first | apply Kd.R_alloc | apply Kd.R_drewN | apply Kd.R_drew)); exact HO280.out) (Kd.R_base ho0) hb)
    have n3_ := Aside0.mk (Kd.R_lower (Kd.R_new' (Kd.R_new' (Kd.R_new' ho0 (Kd.R_lt (by (with_reducible repeat (first | apply Kd.R_alloc | apply Kd.R_drewN | apply Kd.R_drew)); exact HO270.out))) (Kd.R_lt (by (with_reducible repeat (first | apply Kd.R_alloc | apply Kd.R_drewN | apply Kd.R_drew)); exact HO275.out))) (Kd.R_lt (by (with_reducible repeat (first | apply Kd.R_alloc | apply Kd.R_drewN | apply Kd.R_drew)); exact HO280.out))) (below_size (by repeat (first | (with_reducible first | exact HB.out | apply below_alloc | apply pw_below_drewN | apply below_drew1 | refine below_set ?_ GE260.out | refine below_set ?_ GE267.out) | exact HB.out))))
    have n4_ := Aside0.mk (blk_below (g := gb260) (o := .cells #[.int .i64 a0_0, .int .i64 a0_1, .int .i64 a0_2, .int .i64 a0_3] 35 (0, 0)) (by (with_reducible repeat (first | refine blk_drewN ?_ _ | refine blk_drew ?_ | refine blk_alloc ?_ _)); exact BK260.out) hb)
    have n5_ := Aside0.mk (blk_below (g := gb267) (o := .cells #[.int .i64 ji38, .int .i64 ji39, .int .i64 ji40, .int .i64 ji41] 35 (0, 0)) (by (with_reducible repeat (first | refine blk_drewN ?_ _ | refine blk_drew ?_ | refine blk_alloc ?_ _)); exact BK267.out) hb)
    have n6_ := Aside0.mk (below_step (by repeat (first | (with_reducible first | exact HB.out | apply below_alloc | apply pw_below_drewN | apply below_drew1 | refine below_set ?_ GE260.out | refine below_set ?_ GE267.out) | exact HB.out)) hb)
    clear HO270
    clear HO275
    clear HO280
    clear BK260
    clear BK267
    clear HB
    have HO270 := n0_
    have HO275 := n1_
    have HO280 := n2_
    have HO283 := n3_
    have BK260 := n4_
    have BK267 := n5_
    have HB := n6_
    clear n0_ n1_ n2_ n3_ n4_ n5_ n6_
    (try clear hb)
    (try clear hb2)
    (try clear hk)
    (try clear hi)
    (try clear ho0)
    refine hK.out _ _ ⟨(blk_cell BK260.out 0).trans rfl, (blk_cell BK260.out 1).trans rfl, (blk_cell BK260.out 2).trans rfl, (blk_cell BK260.out 3).trans rfl⟩ (fun hHeld => ?_)
    clear hK K
    refine norm_ (a' := ?_) ?_ ?_
    rotate_left
    ·
     show Act.put _ (some 110) _ = _
     simp only [Act.put, List.setIfInBounds_toArray, List.set_cons_zero, List.set_cons_succ, i64_w, i32_w]
     rfl
    refine pure_ (i := 5) (N := some 105) (v := ?_) (a' := ?_) #[true, true, true, true, true, true, false, false, false, false, false, false] rfl rfl (any_of HT_.out (by kernel_rfl)) (fun _ _ _ h => h) (Or.inl ⟨by rfl, ?_⟩) ?_ ?_
    rotate_left
    ·
     intro w'
     go_simp
     with_reducible rfl
    rotate_left
    ·
     simp only [Act.put, List.setIfInBounds_toArray, List.set_cons_zero, List.set_cons_succ, i64_w, i32_w]
     rfl
    refine pure_ (i := 6) (N := some 111) (v := ?_) (a' := ?_) #[true, true, true, true, true, true, true, false, false, false, false, false] rfl rfl (any_of HT_.out (by kernel_rfl)) (fun _ _ _ h => h) (Or.inl ⟨by rfl, ?_⟩) ?_ ?_
    rotate_left
    ·
     intro w'
     go_simp
     with_reducible rfl
    rotate_left
    ·
     simp only [Act.put, List.setIfInBounds_toArray, List.set_cons_zero, List.set_cons_succ, i64_w, i32_w]
     rfl
    refine pure_ (i := 7) (N := some 112) (v := ?_) (a' := ?_) #[true, true, true, true, true, true, true, true, false, false, false, false] rfl rfl (any_of HT_.out (by kernel_rfl)) (fun _ _ _ h => h) (Or.inl ⟨by rfl, ?_⟩) ?_ ?_
    rotate_left
    ·
     intro w'
     go_simp
     with_reducible rfl
    rotate_left
    ·
     simp only [Act.put, List.setIfInBounds_toArray, List.set_cons_zero, List.set_cons_succ, i64_w, i32_w]
     rfl
    refine pure_ (i := 8) (N := some 113) (v := ?_) (a' := ?_) #[true, true, true, true, true, true, true, true, true, false, false, false] rfl rfl (any_of HT_.out (by kernel_rfl)) (fun _ _ _ h => h) (Or.inl ⟨by rfl, ?_⟩) ?_ ?_
    rotate_left
    ·
     intro w'
     go_simp
     with_reducible rfl
    rotate_left
    ·
     simp only [Act.put, List.setIfInBounds_toArray, List.set_cons_zero, List.set_cons_succ, i64_w, i32_w]
     rfl
    refine pure_ (i := 9) (N := some 18) (v := ?_) (a' := ?_) #[true, true, true, true, true, true, true, true, true, true, false, false] rfl rfl (any_of HT_.out (by kernel_rfl)) (fun _ _ _ h => h) (Or.inl ⟨by rfl, ?_⟩) ?_ ?_
    rotate_left
    ·
     intro w'
     go_simp
     with_reducible rfl
    rotate_left
    ·
     simp only [Act.put, List.setIfInBounds_toArray, List.set_cons_zero, List.set_cons_succ, i64_w, i32_w]
     rfl
    refine pure_ (i := 10) (N := some 19) (v := ?_) (a' := ?_) #[true, true, true, true, true, true, true, true, true, true, true, false] rfl rfl (any_of HT_.out (by kernel_rfl)) (fun _ _ _ h => h) (Or.inl ⟨by rfl, ?_⟩) ?_ ?_
    rotate_left
    ·
     intro w'
     go_simp
     with_reducible rfl
    rotate_left
    ·
     simp only [Act.put, List.setIfInBounds_toArray, List.set_cons_zero, List.set_cons_succ, i64_w, i32_w]
     rfl
    refine pure_ (i := 11) (N := some 20) (v := ?_) (a' := ?_) #[true, true, true, true, true, true, true, true, true, true, true, true] rfl rfl (any_of HT_.out (by kernel_rfl)) (fun _ _ _ h => h) (Or.inl ⟨by rfl, ?_⟩) ?_ ?_
    rotate_left
    ·
     intro w'
     go_simp
     with_reducible rfl
    rotate_left
    ·
     simp only [Act.put, List.setIfInBounds_toArray, List.set_cons_zero, List.set_cons_succ, i64_w, i32_w]
     rfl
    refine done_ (done_of HT_.out (by kernel_rfl)) ?_
    go_upto_region 7 with (fail)
    go_cut [133] (fun v133 wc => ∃ (kq : Nat) (x133_45 : Bool), v133 = .bool x133_45 ∧ Aside0 (tl_CamMore.j1 kq l1 l4 x133_45 a0_0 a0_1 a0_2 a0_3 ji38 ji39 ji40 ji41 = some r) ∧ Aside0 (kq ≤ kj5) ∧ Aside0 (wc.heap[gb260]? = some (.cells #[.int .i64 a0_0, .int .i64 a0_1, .int .i64 a0_2, .int .i64 a0_3] 35 (0, 0))) ∧ Aside0 (wc.heap[gb267]? = some (.cells #[.int .i64 ji38, .int .i64 ji39, .int .i64 ji40, .int .i64 ji41] 35 (0, 0))) ∧ Aside0 (Below w.heap.size w wc))
    case first =>
     have H := HC46.out
     clear HC46
     by_cases c59 : t272 = 0
     ·
      rw [if_pos c59] at H
      have c59b0 : (t272 == 0) = true := beq_iff_eq.mpr c59
      have c59b1 : (t272 != 0) = false := bne_eq_false_iff_eq.mpr c59
      clear c59
      (first | rw [c59b0] | (simp only [i64_w, i32_w]; rw [c59b0]) | skip)
      by_cases c60 : t277 = 0
      ·
       rw [if_pos c60] at H
       have c60b0 : (t277 == 0) = true := beq_iff_eq.mpr c60
       have c60b1 : (t277 != 0) = false := bne_eq_false_iff_eq.mpr c60
       clear c60
       by_cases c61 : t285 = 0
       ·
        rw [if_pos c61] at H
        have c61b0 : (t285 == 0) = true := beq_iff_eq.mpr c61
        have c61b1 : (t285 != 0) = false := bne_eq_false_iff_eq.mpr c61
        clear c61
        by_cases c62 : t276 > t271
        ·
         rw [if_pos c62] at H
         have c62b0 : decide (t271 < t276) = true := decide_eq_true c62
         clear c62
         as_aux_lemma =>
          have H' := Aside0.mk H
          clear H
          go_wp2
          go_meet
          case rel => exact ⟨_, (true), (by first | rfl | (simp; done) | (simp [*]; done)), H', ⟨by have := HJ5.out; first | omega | exact Nat.le_refl _⟩, ⟨by (with_reducible repeat (first | refine blk_drewN ?_ _ | refine blk_drew ?_ | refine blk_alloc ?_ _)); exact BK260.out⟩, ⟨by (with_reducible repeat (first | refine blk_drewN ?_ _ | refine blk_drew ?_ | refine blk_alloc ?_ _)); exact BK267.out⟩, ⟨by repeat (first | (with_reducible first | exact HB.out | apply below_alloc | apply pw_below_drewN | apply below_drew1 | refine below_set ?_ GE260.out | refine below_set ?_ GE267.out) | exact HB.out)⟩⟩
        ·
         rw [if_neg c62] at H
         have c62b0 : decide (t271 < t276) = false := decide_eq_false c62
         clear c62
         as_aux_lemma =>
          have H' := Aside0.mk H
          clear H
          go_wp2
          go_meet
          case rel => exact ⟨_, ((t284 != t271)), (by first | rfl | (simp; done) | (simp [*]; done)), H', ⟨by have := HJ5.out; first | omega | exact Nat.le_refl _⟩, ⟨by (with_reducible repeat (first | refine blk_drewN ?_ _ | refine blk_drew ?_ | refine blk_alloc ?_ _)); exact BK260.out⟩, ⟨by (with_reducible repeat (first | refine blk_drewN ?_ _ | refine blk_drew ?_ | refine blk_alloc ?_ _)); exact BK267.out⟩, ⟨by repeat (first | (with_reducible first | exact HB.out | apply below_alloc | apply pw_below_drewN | apply below_drew1 | refine below_set ?_ GE260.out | refine below_set ?_ GE267.out) | exact HB.out)⟩⟩
       ·
        rw [if_neg c61] at H
        have c61b0 : (t285 == 0) = false := beq_eq_false_iff_ne.mpr c61
        have c61b1 : (t285 != 0) = true := bne_iff_ne.mpr c61
        as_aux_lemma =>
         have H' := Aside0.mk H
         clear H
         go_wp2
         go_meet
         case rel => exact ⟨_, (true), (by first | rfl | (simp; done) | (simp [*]; done)), H', ⟨by have := HJ5.out; first | omega | exact Nat.le_refl _⟩, ⟨by (with_reducible repeat (first | refine blk_drewN ?_ _ | refine blk_drew ?_ | refine blk_alloc ?_ _)); exact BK260.out⟩, ⟨by (with_reducible repeat (first | refine blk_drewN ?_ _ | refine blk_drew ?_ | refine blk_alloc ?_ _)); exact BK267.out⟩, ⟨by repeat (first | (with_reducible first | exact HB.out | apply below_alloc | apply pw_below_drewN | apply below_drew1 | refine below_set ?_ GE260.out | refine below_set ?_ GE267.out) | exact HB.out)⟩⟩
      ·
       rw [if_neg c60] at H
       have c60b0 : (t277 == 0) = false := beq_eq_false_iff_ne.mpr c60
       have c60b1 : (t277 != 0) = true := bne_iff_ne.mpr c60
       as_aux_lemma =>
        have H' := Aside0.mk H
        clear H
        go_wp2
        go_meet
        case rel => exact ⟨_, (true), (by first | rfl | (simp; done) | (simp [*]; done)), H', ⟨by have := HJ5.out; first | omega | exact Nat.le_refl _⟩, ⟨by (with_reducible repeat (first | refine blk_drewN ?_ _ | refine blk_drew ?_ | refine blk_alloc ?_ _)); exact BK260.out⟩, ⟨by (with_reducible repeat (first | refine blk_drewN ?_ _ | refine blk_drew ?_ | refine blk_alloc ?_ _)); exact BK267.out⟩, ⟨by repeat (first | (with_reducible first | exact HB.out | apply below_alloc | apply pw_below_drewN | apply below_drew1 | refine below_set ?_ GE260.out | refine below_set ?_ GE267.out) | exact HB.out)⟩⟩
     ·
      rw [if_neg c59] at H
      have c59b0 : (t272 == 0) = false := beq_eq_false_iff_ne.mpr c59
      have c59b1 : (t272 != 0) = true := bne_iff_ne.mpr c59
      (first | rw [c59b0] | (simp only [i64_w, i32_w]; rw [c59b0]) | skip)
      as_aux_lemma =>
       have H' := Aside0.mk H
       clear H
       go_wp2
       go_meet
       case rel => exact ⟨_, (true), (by first | rfl | (simp; done) | (simp [*]; done)), H', ⟨by have := HJ5.out; first | omega | exact Nat.le_refl _⟩, ⟨by (with_reducible repeat (first | refine blk_drewN ?_ _ | refine blk_drew ?_ | refine blk_alloc ?_ _)); exact BK260.out⟩, ⟨by (with_reducible repeat (first | refine blk_drewN ?_ _ | refine blk_drew ?_ | refine blk_alloc ?_ _)); exact BK267.out⟩, ⟨by repeat (first | (with_reducible first | exact HB.out | apply below_alloc | apply pw_below_drewN | apply below_drew1 | refine below_set ?_ GE260.out | refine below_set ?_ GE267.out) | exact HB.out)⟩⟩
    case rest =>
     clear HC46
     try clear c1
     try clear c2
     try clear p2
     try clear c3
     try clear c4
     try clear c5
     try clear c6
     try clear p6
     try clear c9
     try clear c11
     try clear c13
     try clear c15
     try clear c16
     try clear c16b0
     try clear c19
     try clear c19b0
     try clear c21
     try clear c22
     try clear c22b0
     try clear c25
     try clear c25b0
     try clear c35
     try clear c49
     try clear c59
     try clear c59b0
     try clear c59b1
     try clear c60
     try clear c60b0
     try clear c60b1
     try clear c61
     try clear c61b0
     try clear c61b1
     try clear c62
     try clear c62b0
     try clear hcz17_0
     try clear hcz17_1
     try clear hcz17_2
     try clear hcz17_3
     try clear hcz20_0
     try clear hcz20_1
     try clear hcz20_2
     try clear hcz20_3
     try clear hcz23_0
     try clear hcz23_1
     try clear hcz23_2
     try clear hcz23_3
     try clear hcz26_0
     try clear hcz26_1
     try clear hcz26_2
     try clear hcz26_3
     try clear hcz29_0
     try clear hcz29_1
     try clear hcz29_2
     try clear hcz29_3
     try clear hcz31_0
     try clear hcz31_1
     try clear hcz31_2
     try clear hcz31_3
     try clear hcz33_0
     try clear hcz33_1
     try clear hcz33_2
     try clear hcz33_3
     try clear hcz47_0
     try clear hcz47_1
     try clear hcz47_2
     try clear hcz47_3
     try clear hcz50_0
     try clear hcz50_1
     try clear hcz50_2
     try clear hcz50_3
     try clear hcz51_0
     try clear hcz51_1
     try clear hcz51_2
     try clear hcz51_3
     try clear hcz53_0
     try clear hcz53_1
     try clear hcz53_2
     try clear hcz53_3
     try clear hfz17_0
     try clear hfz17_1
     try clear hfz17_2
     try clear hfz17_3
     try clear hfz20_0
     try clear hfz20_1
     try clear hfz20_2
     try clear hfz20_3
     try clear hfz23_0
     try clear hfz23_1
     try clear hfz23_2
     try clear hfz23_3
     try clear hfz26_0
     try clear hfz26_1
     try clear hfz26_2
     try clear hfz26_3
     try clear hfz29_0
     try clear hfz29_1
     try clear hfz29_2
     try clear hfz29_3
     try clear hfz31_0
     try clear hfz31_1
     try clear hfz31_2
     try clear hfz31_3
     try clear hfz33_0
     try clear hfz33_1
     try clear hfz33_2
     try clear hfz33_3
     try clear hfz47_0
     try clear hfz47_1
     try clear hfz47_2
     try clear hfz47_3
     try clear hfz50_0
     try clear hfz50_1
     try clear hfz50_2
     try clear hfz50_3
     try clear hfz51_0
     try clear hfz51_1
     try clear hfz51_2
     try clear hfz51_3
     try clear hfz53_0
     try clear hfz53_1
     try clear hfz53_2
     try clear hfz53_3
     try clear p2
     obtain ⟨kq, x133_45, rfl, HA, HJ45, BK260, BK267, HB⟩ := hcut
     cases kq with
     | zero => exact absurd HA.out (by simp [tl_CamMore.j1])
     | succ kj45 =>
      have H := HA.out
      clear HA
      simp only [tl_CamMore.j1] at H
      by_cases c63 : x133_45 = true
      ·
       subst c63
       have H1 : (some false) = some r := by rw [if_pos rfl] at H; exact H
       clear H
       have H := H1
       clear H1
       as_aux_lemma =>
        obtain rfl := Option.some.inj H
        go_wp2
        go_ret
        exact ⟨by first | rfl | (simp [errW_none, errW_some] <;> rfl) | (simp only [← hji38, ← hji39, ← hji40, ← hji41]; first | rfl | (simp [errW_none, errW_some] <;> rfl)) | (simp [*, errW_none, errW_some] <;> rfl), by repeat (first | (with_reducible first | exact HB.out | apply below_alloc | apply pw_below_drewN | apply below_drew1 | refine below_set ?_ GE260.out | refine below_set ?_ GE267.out) | exact HB.out)⟩
      ·
       replace c63 := Bool.eq_false_iff.mpr c63
       subst c63
       have H1 : ((cam_Known.f a0_0 a0_1 a0_2 a0_3 (l1.length : Int) l4).bind fun bt286 => ((cam_Known.f ji38 ji39 ji40 ji41 (l1.length : Int) l4).bind fun bt290 => (if bt286.2 = 0 then (if bt290.2 = 0 then (if (bt286.1.length : Int) = (l1.length : Int) then (tl_CamMore.j2 kj45 bt286.1 bt290.1 ((bt290.1.length : Int) != (l1.length : Int))) else (tl_CamMore.j2 kj45 bt286.1 bt290.1 true)) else (if bt290.2 = 7 then (tl_CamMore.j2 kj45 bt286.1 bt290.1 true) else (tl_CamMore.j2 kj45 bt286.1 bt290.1 true))) else (if bt286.2 = 7 then (if bt290.2 = 0 then (tl_CamMore.j2 kj45 bt286.1 bt290.1 false) else (if bt290.2 = 7 then (tl_CamMore.j2 kj45 bt286.1 bt290.1 false) else (tl_CamMore.j2 kj45 bt286.1 bt290.1 true))) else (tl_CamMore.j2 kj45 bt286.1 bt290.1 true))))) = some r := by rw [if_neg (show ¬ (false = true) by decide)] at H; exact H
       clear H
       have H := H1
       clear H1
       replace H := Option.bind_eq_some_iff.mp H
       obtain ⟨⟨t286, t289⟩, A640, H⟩ := H
       replace H : ((cam_Known.f ji38 ji39 ji40 ji41 (l1.length : Int) l4).bind fun bt290 => (if t289 = 0 then (if bt290.2 = 0 then (if (t286.length : Int) = (l1.length : Int) then (tl_CamMore.j2 kj45 t286 bt290.1 ((bt290.1.length : Int) != (l1.length : Int))) else (tl_CamMore.j2 kj45 t286 bt290.1 true)) else (if bt290.2 = 7 then (tl_CamMore.j2 kj45 t286 bt290.1 true) else (tl_CamMore.j2 kj45 t286 bt290.1 true))) else (if t289 = 7 then (if bt290.2 = 0 then (tl_CamMore.j2 kj45 t286 bt290.1 false) else (if bt290.2 = 7 then (tl_CamMore.j2 kj45 t286 bt290.1 false) else (tl_CamMore.j2 kj45 t286 bt290.1 true))) else (tl_CamMore.j2 kj45 t286 bt290.1 true)))) = some r := H
       have A64 := Aside0.mk A640
       clear A640
       replace H := Option.bind_eq_some_iff.mp H
       obtain ⟨⟨t290, t293⟩, A650, H⟩ := H
       replace H : (if t289 = 0 then (if t293 = 0 then (if (t286.length : Int) = (l1.length : Int) then (tl_CamMore.j2 kj45 t286 t290 ((t290.length : Int) != (l1.length : Int))) else (tl_CamMore.j2 kj45 t286 t290 true)) else (if t293 = 7 then (tl_CamMore.j2 kj45 t286 t290 true) else (tl_CamMore.j2 kj45 t286 t290 true))) else (if t289 = 7 then (if t293 = 0 then (tl_CamMore.j2 kj45 t286 t290 false) else (if t293 = 7 then (tl_CamMore.j2 kj45 t286 t290 false) else (tl_CamMore.j2 kj45 t286 t290 true))) else (tl_CamMore.j2 kj45 t286 t290 true))) = some r := H
       have A65 := Aside0.mk A650
       clear A650
       have HC66 := Aside0.mk H
       clear H
       have hnb67 := NB260_267.out
       have hnc67 := NB267_260.out
       have hcz68_0 : wc.cell? ⟨gb260, 0, none⟩ = some (.int .i64 a0_0) := (blk_cell BK260.out 0).trans rfl
       have hcz68_1 : wc.cell? ⟨gb260, 1, none⟩ = some (.int .i64 a0_1) := (blk_cell BK260.out 1).trans rfl
       have hcz68_2 : wc.cell? ⟨gb260, 2, none⟩ = some (.int .i64 a0_2) := (blk_cell BK260.out 2).trans rfl
       have hcz68_3 : wc.cell? ⟨gb260, 3, none⟩ = some (.int .i64 a0_3) := (blk_cell BK260.out 3).trans rfl
       have hfz68_0 := blk_frozen BK260.out 0
       have hfz68_1 := blk_frozen BK260.out 1
       have hfz68_2 := blk_frozen BK260.out 2
       have hfz68_3 := blk_frozen BK260.out 3
       go_upto_region 11 with (first | ((with_reducible refine gate_callee (f := 23) rfl ?_); refine goesL_ (some 139) rfl rfl Tryz.func23 (by kernel_rfl) rfl #[.agg #[.int .i64 a0_0, .int .i64 a0_1, .int .i64 a0_2, .int .i64 a0_3], .int .i64 (l1.length : Int), .slice A4 l4.length c4] rfl (by (try simp only [List.map_toArray, List.map_cons, List.map_nil]); first | done | rfl | (simp only [List.length_drop, List.length_take]; rfl)) ?_; (with_reducible refine (cam_Known.calls a0_0 a0_1 a0_2 a0_3 (l1.length : Int) _ _ l4 t286 t289 _ ?side1 ?side2 A64.out).mono ?_); (case side1 => repeat (first | exact (Kd.C_below HR4.out HB.out) | (with_reducible refine Kd.C_alloc ?_ _) | (with_reducible refine Kd.C_drewN ?_ _) | (with_reducible refine Kd.C_drew ?_))); (case side2 => exact HC4.out); rintro e w69 ⟨v287, rfl, ho0, hb⟩; refine ⟨_, rfl, ?_⟩; have n0_ := Aside0.mk (Kd.R_lower ho0 (below_size (by repeat (first | (with_reducible first | exact HB.out | apply below_alloc | apply pw_below_drewN | apply below_drew1 | refine below_set ?_ GE260.out | refine below_set ?_ GE267.out) | exact HB.out)))); have n1_ := Aside0.mk (blk_below (g := gb260) (o := .cells #[.int .i64 a0_0, .int .i64 a0_1, .int .i64 a0_2, .int .i64 a0_3] 35 (0, 0)) (by (with_reducible repeat (first | refine blk_drewN ?_ _ | refine blk_drew ?_ | refine blk_alloc ?_ _)); exact BK260.out) hb); have n2_ := Aside0.mk (blk_below (g := gb267) (o := .cells #[.int .i64 ji38, .int .i64 ji39, .int .i64 ji40, .int .i64 ji41] 35 (0, 0)) (by (with_reducible repeat (first | refine blk_drewN ?_ _ | refine blk_drew ?_ | refine blk_alloc ?_ _)); exact BK267.out) hb); have n3_ := Aside0.mk (below_step (by repeat (first | (with_reducible first | exact HB.out | apply below_alloc | apply pw_below_drewN | apply below_drew1 | refine below_set ?_ GE260.out | refine below_set ?_ GE267.out) | exact HB.out)) hb); clear BK260; clear BK267; clear HB; have HO288 := n0_; have BK260 := n1_; have BK267 := n2_; have HB := n3_; clear n0_ n1_ n2_ n3_; (try clear hb); (try clear hb2); (try clear hk); (try clear hi); (try clear ho0); have hcz70_0 : w69.cell? ⟨gb267, 0, none⟩ = some (.int .i64 ji38) := (blk_cell BK267.out 0).trans rfl; have hcz70_1 : w69.cell? ⟨gb267, 1, none⟩ = some (.int .i64 ji39) := (blk_cell BK267.out 1).trans rfl; have hcz70_2 : w69.cell? ⟨gb267, 2, none⟩ = some (.int .i64 ji40) := (blk_cell BK267.out 2).trans rfl; have hcz70_3 : w69.cell? ⟨gb267, 3, none⟩ = some (.int .i64 ji41) := (blk_cell BK267.out 3).trans rfl; have hfz70_0 := blk_frozen BK267.out 0; have hfz70_1 := blk_frozen BK267.out 1; have hfz70_2 := blk_frozen BK267.out 2; have hfz70_3 := blk_frozen BK267.out 3) | ((with_reducible refine gate_callee (f := 23) rfl ?_); refine goesL_ (some 147) rfl rfl Tryz.func23 (by kernel_rfl) rfl #[.agg #[.int .i64 ji38, .int .i64 ji39, .int .i64 ji40, .int .i64 ji41], .int .i64 (l1.length : Int), .slice A4 l4.length c4] rfl (by (try simp only [List.map_toArray, List.map_cons, List.map_nil]); first | done | (simp only [hji38, hji39, hji40, hji41]; rfl) | rfl | (simp only [List.length_drop, List.length_take]; rfl)) ?_; (with_reducible refine (cam_Known.calls ji38 ji39 ji40 ji41 (l1.length : Int) _ _ l4 t290 t293 _ ?side1 ?side2 A65.out).mono ?_); (case side1 => repeat (first | exact (Kd.C_below HR4.out HB.out) | (with_reducible refine Kd.C_alloc ?_ _) | (with_reducible refine Kd.C_drewN ?_ _) | (with_reducible refine Kd.C_drew ?_))); (case side2 => exact HC4.out); rintro e w71 ⟨v291, rfl, ho0, hb⟩; refine ⟨_, rfl, ?_⟩; have n0_ := Aside0.mk (Kd.R_elder' (by (with_reducible repeat (first | apply Kd.R_alloc | apply Kd.R_drewN | apply Kd.R_drew)); exact HO288.out) (Kd.R_base ho0) hb); have n1_ := Aside0.mk (Kd.R_lower (Kd.R_new' ho0 (Kd.R_lt (by (with_reducible repeat (first | apply Kd.R_alloc | apply Kd.R_drewN | apply Kd.R_drew)); exact HO288.out))) (below_size (by repeat (first | (with_reducible first | exact HB.out | apply below_alloc | apply pw_below_drewN | apply below_drew1 | refine below_set ?_ GE260.out | refine below_set ?_ GE267.out) | exact HB.out)))); have n2_ := Aside0.mk (blk_below (g := gb260) (o := .cells #[.int .i64 a0_0, .int .i64 a0_1, .int .i64 a0_2, .int .i64 a0_3] 35 (0, 0)) (by (with_reducible repeat (first | refine blk_drewN ?_ _ | refine blk_drew ?_ | refine blk_alloc ?_ _)); exact BK260.out) hb); have n3_ := Aside0.mk (blk_below (g := gb267) (o := .cells #[.int .i64 ji38, .int .i64 ji39, .int .i64 ji40, .int .i64 ji41] 35 (0, 0)) (by (with_reducible repeat (first | refine blk_drewN ?_ _ | refine blk_drew ?_ | refine blk_alloc ?_ _)); exact BK267.out) hb); have n4_ := Aside0.mk (below_step (by repeat (first | (with_reducible first | exact HB.out | apply below_alloc | apply pw_below_drewN | apply below_drew1 | refine below_set ?_ GE260.out | refine below_set ?_ GE267.out) | exact HB.out)) hb); clear HO288; clear BK260; clear BK267; clear HB; have HO288 := n0_; have HO292 := n1_; have BK260 := n2_; have BK267 := n3_; have HB := n4_; clear n0_ n1_ n2_ n3_ n4_; (try clear hb); (try clear hb2); (try clear hk); (try clear hi); (try clear ho0)))
       (try simp only [Act.put, List.setIfInBounds_toArray, List.set_cons_zero, List.set_cons_succ])
       go_cut [185] (fun v185 wc => ∃ (kq : Nat) (x185_65 : Bool), v185 = .bool x185_65 ∧ Aside0 (tl_CamMore.j2 kq t286 t290 x185_65 = some r) ∧ Aside0 (kq ≤ kj45) ∧ Aside0 (Kd.R k48 48 wc w.heap.size (fun k_ => some k_ ≠ (v291 : Value).ownBlock) v287 t286) ∧ Aside0 (Kd.R k48 48 wc w.heap.size (fun k_ => some k_ ≠ (v287 : Value).ownBlock) v291 t290) ∧ Aside0 (wc.heap[gb260]? = some (.cells #[.int .i64 a0_0, .int .i64 a0_1, .int .i64 a0_2, .int .i64 a0_3] 35 (0, 0))) ∧ Aside0 (wc.heap[gb267]? = some (.cells #[.int .i64 ji38, .int .i64 ji39, .int .i64 ji40, .int .i64 ji41] 35 (0, 0))) ∧ Aside0 (Below w.heap.size w wc))
       case first =>
        have H := HC66.out
        clear HC66
        by_cases c72 : t289 = 0
        ·
         rw [if_pos c72] at H
         have c72b0 : (t289 == 0) = true := beq_iff_eq.mpr c72
         have c72b1 : (t289 != 0) = false := bne_eq_false_iff_eq.mpr c72
         clear c72
         (first | rw [c72b0] | (simp only [i64_w, i32_w]; rw [c72b0]) | skip)
         by_cases c73 : t293 = 0
         ·
          rw [if_pos c73] at H
          have c73b0 : (t293 == 0) = true := beq_iff_eq.mpr c73
          have c73b1 : (t293 != 0) = false := bne_eq_false_iff_eq.mpr c73
          clear c73
          by_cases c74 : (t286.length : Int) = (l1.length : Int)
          ·
           rw [if_pos c74] at H
           have c74b0 : ((t286.length : Int) == (l1.length : Int)) = true := beq_iff_eq.mpr c74
           have c74b1 : ((t286.length : Int) != (l1.length : Int)) = false := bne_eq_false_iff_eq.mpr c74
           have c74b2 : (t286.length == l1.length) = true := by first | simpa using c74 | (simp at c74 ⊢; omega)
           clear c74
           as_aux_lemma =>
            have H' := Aside0.mk H
            clear H
            obtain ⟨Ao75, co75, eo75⟩ := Kd.R_slice HO288.out
            subst eo75
            obtain ⟨Ao76, co76, eo76⟩ := Kd.R_slice HO292.out
            subst eo76
            go_wp2
            go_meet
            case rel => exact ⟨_, (((t290.length : Int) != (l1.length : Int))), (by first | rfl | (simp; done) | (simp [*]; done)), H', ⟨by have := HJ5.out; have := HJ45.out; first | omega | exact Nat.le_refl _⟩, ⟨by (with_reducible repeat (first | apply Kd.R_alloc | apply Kd.R_drewN | apply Kd.R_drew)); exact Kd.R_mono HO288.out (fun _ hk => hk.2)⟩, ⟨by (with_reducible repeat (first | apply Kd.R_alloc | apply Kd.R_drewN | apply Kd.R_drew)); exact Kd.R_mono HO292.out (fun _ hk => hk.2)⟩, ⟨by (with_reducible repeat (first | refine blk_drewN ?_ _ | refine blk_drew ?_ | refine blk_alloc ?_ _)); exact BK260.out⟩, ⟨by (with_reducible repeat (first | refine blk_drewN ?_ _ | refine blk_drew ?_ | refine blk_alloc ?_ _)); exact BK267.out⟩, ⟨by repeat (first | (with_reducible first | exact HB.out | apply below_alloc | apply pw_below_drewN | apply below_drew1 | refine below_set ?_ GE260.out | refine below_set ?_ GE267.out) | exact HB.out)⟩⟩
          ·
           rw [if_neg c74] at H
           have c74b0 : ((t286.length : Int) == (l1.length : Int)) = false := beq_eq_false_iff_ne.mpr c74
           have c74b1 : ((t286.length : Int) != (l1.length : Int)) = true := bne_iff_ne.mpr c74
           have c74b2 : (t286.length == l1.length) = false := by first | simpa using c74 | (simp at c74 ⊢; omega)
           as_aux_lemma =>
            have H' := Aside0.mk H
            clear H
            obtain ⟨Ao77, co77, eo77⟩ := Kd.R_slice HO288.out
            subst eo77
            go_wp2
            go_meet
            case rel => exact ⟨_, (true), (by first | rfl | (simp; done) | (simp [*]; done)), H', ⟨by have := HJ5.out; have := HJ45.out; first | omega | exact Nat.le_refl _⟩, ⟨by (with_reducible repeat (first | apply Kd.R_alloc | apply Kd.R_drewN | apply Kd.R_drew)); exact Kd.R_mono HO288.out (fun _ hk => hk.2)⟩, ⟨by (with_reducible repeat (first | apply Kd.R_alloc | apply Kd.R_drewN | apply Kd.R_drew)); exact Kd.R_mono HO292.out (fun _ hk => hk.2)⟩, ⟨by (with_reducible repeat (first | refine blk_drewN ?_ _ | refine blk_drew ?_ | refine blk_alloc ?_ _)); exact BK260.out⟩, ⟨by (with_reducible repeat (first | refine blk_drewN ?_ _ | refine blk_drew ?_ | refine blk_alloc ?_ _)); exact BK267.out⟩, ⟨by repeat (first | (with_reducible first | exact HB.out | apply below_alloc | apply pw_below_drewN | apply below_drew1 | refine below_set ?_ GE260.out | refine below_set ?_ GE267.out) | exact HB.out)⟩⟩
         ·
          rw [if_neg c73] at H
          have c73b0 : (t293 == 0) = false := beq_eq_false_iff_ne.mpr c73
          have c73b1 : (t293 != 0) = true := bne_iff_ne.mpr c73
          by_cases c78 : t293 = 7
          ·
           rw [if_pos c78] at H
           have c78b0 : (t293 == 7) = true := beq_iff_eq.mpr c78
           have c78b1 : (t293 != 7) = false := bne_eq_false_iff_eq.mpr c78
           clear c78
           as_aux_lemma =>
            have H' := Aside0.mk H
            clear H
            go_wp2
            go_meet
            case rel => exact ⟨_, (true), (by first | rfl | (simp; done) | (simp [*]; done)), H', ⟨by have := HJ5.out; have := HJ45.out; first | omega | exact Nat.le_refl _⟩, ⟨by (with_reducible repeat (first | apply Kd.R_alloc | apply Kd.R_drewN | apply Kd.R_drew)); exact Kd.R_mono HO288.out (fun _ hk => hk.2)⟩, ⟨by (with_reducible repeat (first | apply Kd.R_alloc | apply Kd.R_drewN | apply Kd.R_drew)); exact Kd.R_mono HO292.out (fun _ hk => hk.2)⟩, ⟨by (with_reducible repeat (first | refine blk_drewN ?_ _ | refine blk_drew ?_ | refine blk_alloc ?_ _)); exact BK260.out⟩, ⟨by (with_reducible repeat (first | refine blk_drewN ?_ _ | refine blk_drew ?_ | refine blk_alloc ?_ _)); exact BK267.out⟩, ⟨by repeat (first | (with_reducible first | exact HB.out | apply below_alloc | apply pw_below_drewN | apply below_drew1 | refine below_set ?_ GE260.out | refine below_set ?_ GE267.out) | exact HB.out)⟩⟩
          ·
           rw [if_neg c78] at H
           have c78b0 : (t293 == 7) = false := beq_eq_false_iff_ne.mpr c78
           have c78b1 : (t293 != 7) = true := bne_iff_ne.mpr c78
           as_aux_lemma =>
            have H' := Aside0.mk H
            clear H
            go_wp2
            go_meet
            case rel => exact ⟨_, (true), (by first | rfl | (simp; done) | (simp [*]; done)), H', ⟨by have := HJ5.out; have := HJ45.out; first | omega | exact Nat.le_refl _⟩, ⟨by (with_reducible repeat (first | apply Kd.R_alloc | apply Kd.R_drewN | apply Kd.R_drew)); exact Kd.R_mono HO288.out (fun _ hk => hk.2)⟩, ⟨by (with_reducible repeat (first | apply Kd.R_alloc | apply Kd.R_drewN | apply Kd.R_drew)); exact Kd.R_mono HO292.out (fun _ hk => hk.2)⟩, ⟨by (with_reducible repeat (first | refine blk_drewN ?_ _ | refine blk_drew ?_ | refine blk_alloc ?_ _)); exact BK260.out⟩, ⟨by (with_reducible repeat (first | refine blk_drewN ?_ _ | refine blk_drew ?_ | refine blk_alloc ?_ _)); exact BK267.out⟩, ⟨by repeat (first | (with_reducible first | exact HB.out | apply below_alloc | apply pw_below_drewN | apply below_drew1 | refine below_set ?_ GE260.out | refine below_set ?_ GE267.out) | exact HB.out)⟩⟩
        ·
         rw [if_neg c72] at H
         have c72b0 : (t289 == 0) = false := beq_eq_false_iff_ne.mpr c72
         have c72b1 : (t289 != 0) = true := bne_iff_ne.mpr c72
         (first | rw [c72b0] | (simp only [i64_w, i32_w]; rw [c72b0]) | skip)
         by_cases c79 : t289 = 7
         ·
          rw [if_pos c79] at H
          have c79b0 : (t289 == 7) = true := beq_iff_eq.mpr c79
          have c79b1 : (t289 != 7) = false := bne_eq_false_iff_eq.mpr c79
          clear c79
          by_cases c80 : t293 = 0
          ·
           rw [if_pos c80] at H
           have c80b0 : (t293 == 0) = true := beq_iff_eq.mpr c80
           have c80b1 : (t293 != 0) = false := bne_eq_false_iff_eq.mpr c80
           clear c80
           as_aux_lemma =>
            have H' := Aside0.mk H
            clear H
            go_wp2
            go_meet
            case rel => exact ⟨_, (false), (by first | rfl | (simp; done) | (simp [*]; done)), H', ⟨by have := HJ5.out; have := HJ45.out; first | omega | exact Nat.le_refl _⟩, ⟨by (with_reducible repeat (first | apply Kd.R_alloc | apply Kd.R_drewN | apply Kd.R_drew)); exact Kd.R_mono HO288.out (fun _ hk => hk.2)⟩, ⟨by (with_reducible repeat (first | apply Kd.R_alloc | apply Kd.R_drewN | apply Kd.R_drew)); exact Kd.R_mono HO292.out (fun _ hk => hk.2)⟩, ⟨by (with_reducible repeat (first | refine blk_drewN ?_ _ | refine blk_drew ?_ | refine blk_alloc ?_ _)); exact BK260.out⟩, ⟨by (with_reducible repeat (first | refine blk_drewN ?_ _ | refine blk_drew ?_ | refine blk_alloc ?_ _)); exact BK267.out⟩, ⟨by repeat (first | (with_reducible first | exact HB.out | apply below_alloc | apply pw_below_drewN | apply below_drew1 | refine below_set ?_ GE260.out | refine below_set ?_ GE267.out) | exact HB.out)⟩⟩
          ·
           rw [if_neg c80] at H
           have c80b0 : (t293 == 0) = false := beq_eq_false_iff_ne.mpr c80
           have c80b1 : (t293 != 0) = true := bne_iff_ne.mpr c80
           by_cases c81 : t293 = 7
           ·
            rw [if_pos c81] at H
            have c81b0 : (t293 == 7) = true := beq_iff_eq.mpr c81
            have c81b1 : (t293 != 7) = false := bne_eq_false_iff_eq.mpr c81
            clear c81
            as_aux_lemma =>
             have H' := Aside0.mk H
             clear H
             go_wp2
             go_meet
             case rel => exact ⟨_, (false), (by first | rfl | (simp; done) | (simp [*]; done)), H', ⟨by have := HJ5.out; have := HJ45.out; first | omega | exact Nat.le_refl _⟩, ⟨by (with_reducible repeat (first | apply Kd.R_alloc | apply Kd.R_drewN | apply Kd.R_drew)); exact Kd.R_mono HO288.out (fun _ hk => hk.2)⟩, ⟨by (with_reducible repeat (first | apply Kd.R_alloc | apply Kd.R_drewN | apply Kd.R_drew)); exact Kd.R_mono HO292.out (fun _ hk => hk.2)⟩, ⟨by (with_reducible repeat (first | refine blk_drewN ?_ _ | refine blk_drew ?_ | refine blk_alloc ?_ _)); exact BK260.out⟩, ⟨by (with_reducible repeat (first | refine blk_drewN ?_ _ | refine blk_drew ?_ | refine blk_alloc ?_ _)); exact BK267.out⟩, ⟨by repeat (first | (with_reducible first | exact HB.out | apply below_alloc | apply pw_below_drewN | apply below_drew1 | refine below_set ?_ GE260.out | refine below_set ?_ GE267.out) | exact HB.out)⟩⟩
           ·
            rw [if_neg c81] at H
            have c81b0 : (t293 == 7) = false := beq_eq_false_iff_ne.mpr c81
            have c81b1 : (t293 != 7) = true := bne_iff_ne.mpr c81
            as_aux_lemma =>
             have H' := Aside0.mk H
             clear H
             go_wp2
             go_meet
             case rel => exact ⟨_, (true), (by first | rfl | (simp; done) | (simp [*]; done)), H', ⟨by have := HJ5.out; have := HJ45.out; first | omega | exact Nat.le_refl _⟩, ⟨by (with_reducible repeat (first | apply Kd.R_alloc | apply Kd.R_drewN | apply Kd.R_drew)); exact Kd.R_mono HO288.out (fun _ hk => hk.2)⟩, ⟨by (with_reducible repeat (first | apply Kd.R_alloc | apply Kd.R_drewN | apply Kd.R_drew)); exact Kd.R_mono HO292.out (fun _ hk => hk.2)⟩, ⟨by (with_reducible repeat (first | refine blk_drewN ?_ _ | refine blk_drew ?_ | refine blk_alloc ?_ _)); exact BK260.out⟩, ⟨by (with_reducible repeat (first | refine blk_drewN ?_ _ | refine blk_drew ?_ | refine blk_alloc ?_ _)); exact BK267.out⟩, ⟨by repeat (first | (with_reducible first | exact HB.out | apply below_alloc | apply pw_below_drewN | apply below_drew1 | refine below_set ?_ GE260.out | refine below_set ?_ GE267.out) | exact HB.out)⟩⟩
         ·
          rw [if_neg c79] at H
          have c79b0 : (t289 == 7) = false := beq_eq_false_iff_ne.mpr c79
          have c79b1 : (t289 != 7) = true := bne_iff_ne.mpr c79
          as_aux_lemma =>
           have H' := Aside0.mk H
           clear H
           go_wp2
           go_meet
           case rel => exact ⟨_, (true), (by first | rfl | (simp; done) | (simp [*]; done)), H', ⟨by have := HJ5.out; have := HJ45.out; first | omega | exact Nat.le_refl _⟩, ⟨by (with_reducible repeat (first | apply Kd.R_alloc | apply Kd.R_drewN | apply Kd.R_drew)); exact Kd.R_mono HO288.out (fun _ hk => hk.2)⟩, ⟨by (with_reducible repeat (first | apply Kd.R_alloc | apply Kd.R_drewN | apply Kd.R_drew)); exact Kd.R_mono HO292.out (fun _ hk => hk.2)⟩, ⟨by (with_reducible repeat (first | refine blk_drewN ?_ _ | refine blk_drew ?_ | refine blk_alloc ?_ _)); exact BK260.out⟩, ⟨by (with_reducible repeat (first | refine blk_drewN ?_ _ | refine blk_drew ?_ | refine blk_alloc ?_ _)); exact BK267.out⟩, ⟨by repeat (first | (with_reducible first | exact HB.out | apply below_alloc | apply pw_below_drewN | apply below_drew1 | refine below_set ?_ GE260.out | refine below_set ?_ GE267.out) | exact HB.out)⟩⟩
       case rest =>
        clear HC66
        try clear c1
        try clear c2
        try clear p2
        try clear c3
        try clear c4
        try clear c5
        try clear c6
        try clear p6
        try clear c7
        try clear c8
        try clear c9
        try clear c11
        try clear c13
        try clear c15
        try clear c16
        try clear c16b0
        try clear c19
        try clear c19b0
        try clear c21
        try clear c22
        try clear c22b0
        try clear c23
        try clear c25
        try clear c25b0
        try clear c35
        try clear c49
        try clear c59
        try clear c59b0
        try clear c59b1
        try clear c60
        try clear c60b0
        try clear c60b1
        try clear c61
        try clear c61b0
        try clear c61b1
        try clear c62
        try clear c62b0
        try clear c63
        try clear p64
        try clear c67
        try clear c72
        try clear c72b0
        try clear c72b1
        try clear c73
        try clear c73b0
        try clear c73b1
        try clear c74
        try clear c74b0
        try clear c74b1
        try clear c74b2
        try clear c78
        try clear c78b0
        try clear c78b1
        try clear c79
        try clear c79b0
        try clear c79b1
        try clear c80
        try clear c80b0
        try clear c80b1
        try clear c81
        try clear c81b0
        try clear c81b1
        try clear hcz17_0
        try clear hcz17_1
        try clear hcz17_2
        try clear hcz17_3
        try clear hcz20_0
        try clear hcz20_1
        try clear hcz20_2
        try clear hcz20_3
        try clear hcz23_0
        try clear hcz23_1
        try clear hcz23_2
        try clear hcz23_3
        try clear hcz26_0
        try clear hcz26_1
        try clear hcz26_2
        try clear hcz26_3
        try clear hcz29_0
        try clear hcz29_1
        try clear hcz29_2
        try clear hcz29_3
        try clear hcz31_0
        try clear hcz31_1
        try clear hcz31_2
        try clear hcz31_3
        try clear hcz33_0
        try clear hcz33_1
        try clear hcz33_2
        try clear hcz33_3
        try clear hcz47_0
        try clear hcz47_1
        try clear hcz47_2
        try clear hcz47_3
        try clear hcz50_0
        try clear hcz50_1
        try clear hcz50_2
        try clear hcz50_3
        try clear hcz51_0
        try clear hcz51_1
        try clear hcz51_2
        try clear hcz51_3
        try clear hcz53_0
        try clear hcz53_1
        try clear hcz53_2
        try clear hcz53_3
        try clear hcz68_0
        try clear hcz68_1
        try clear hcz68_2
        try clear hcz68_3
        try clear hcz70_0
        try clear hcz70_1
        try clear hcz70_2
        try clear hcz70_3
        try clear hfz17_0
        try clear hfz17_1
        try clear hfz17_2
        try clear hfz17_3
        try clear hfz20_0
        try clear hfz20_1
        try clear hfz20_2
        try clear hfz20_3
        try clear hfz23_0
        try clear hfz23_1
        try clear hfz23_2
        try clear hfz23_3
        try clear hfz26_0
        try clear hfz26_1
        try clear hfz26_2
        try clear hfz26_3
        try clear hfz29_0
        try clear hfz29_1
        try clear hfz29_2
        try clear hfz29_3
        try clear hfz31_0
        try clear hfz31_1
        try clear hfz31_2
        try clear hfz31_3
        try clear hfz33_0
        try clear hfz33_1
        try clear hfz33_2
        try clear hfz33_3
        try clear hfz47_0
        try clear hfz47_1
        try clear hfz47_2
        try clear hfz47_3
        try clear hfz50_0
        try clear hfz50_1
        try clear hfz50_2
        try clear hfz50_3
        try clear hfz51_0
        try clear hfz51_1
        try clear hfz51_2
        try clear hfz51_3
        try clear hfz53_0
        try clear hfz53_1
        try clear hfz53_2
        try clear hfz53_3
        try clear hfz68_0
        try clear hfz68_1
        try clear hfz68_2
        try clear hfz68_3
        try clear hfz70_0
        try clear hfz70_1
        try clear hfz70_2
        try clear hfz70_3
        try clear p2
        try clear p6
        obtain ⟨kq, x185_65, rfl, HA, HJ65, HO_21, HO_23, BK260, BK267, HB⟩ := hcut
        cases kq with
        | zero => exact absurd HA.out (by simp [tl_CamMore.j2])
        | succ kj65 =>
         have H := HA.out
         clear HA
         simp only [tl_CamMore.j2] at H
         by_cases c82 : x185_65 = true
         ·
          subst c82
          have H1 : (some false) = some r := by rw [if_pos rfl] at H; exact H
          clear H
          have H := H1
          clear H1
          as_aux_lemma =>
           obtain rfl := Option.some.inj H
           go_wp2
           go_ret
           exact ⟨by first | rfl | (simp [errW_none, errW_some] <;> rfl) | (simp only [← hji38, ← hji39, ← hji40, ← hji41]; first | rfl | (simp [errW_none, errW_some] <;> rfl)) | (simp [*, errW_none, errW_some] <;> rfl), by repeat (first | (with_reducible first | exact HB.out | apply below_alloc | apply pw_below_drewN | apply below_drew1 | refine below_set ?_ GE260.out | refine below_set ?_ GE267.out) | exact HB.out)⟩
         ·
          replace c82 := Bool.eq_false_iff.mpr c82
          subst c82
          have H1 : (tl_CamMore.l0 kj65 t286 t290 0) = some r := by rw [if_neg (show ¬ (false = true) by decide)] at H; exact H
          clear H
          have H := H1
          clear H1
          have H' := Aside0.mk H
          clear H
          go_wp2
          go_loopg [25] kj65 (fun kq v25 w' => ∃ (x25_4 : Int), v25 = .int .i64 x25_4 ∧ Aside0 (tl_CamMore.l0 kq t286 t290 x25_4 = some r) ∧ Aside0 (kq ≤ kj65) ∧ Aside0 (Kd.R k48 48 w' w.heap.size (fun k_ => some k_ ≠ (v291 : Value).ownBlock) v287 t286) ∧ Aside0 (Kd.R k48 48 w' w.heap.size (fun k_ => some k_ ≠ (v287 : Value).ownBlock) v291 t290) ∧ Aside0 (w'.heap[gb260]? = some (.cells #[.int .i64 a0_0, .int .i64 a0_1, .int .i64 a0_2, .int .i64 a0_3] 35 (0, 0))) ∧ Aside0 (w'.heap[gb267]? = some (.cells #[.int .i64 ji38, .int .i64 ji39, .int .i64 ji40, .int .i64 ji41] 35 (0, 0))) ∧ Aside0 (Below w.heap.size w w'))
          case atStart => exact ⟨(0), (by first | rfl | (simp; done) | (simp [*]; done)), H', ⟨Nat.le_refl _⟩, ⟨by (with_reducible repeat (first | apply Kd.R_alloc | apply Kd.R_drewN | apply Kd.R_drew)); exact HO_21.out⟩, ⟨by (with_reducible repeat (first | apply Kd.R_alloc | apply Kd.R_drewN | apply Kd.R_drew)); exact HO_23.out⟩, ⟨by (with_reducible repeat (first | refine blk_drewN ?_ _ | refine blk_drew ?_ | refine blk_alloc ?_ _)); exact BK260.out⟩, ⟨by (with_reducible repeat (first | refine blk_drewN ?_ _ | refine blk_drew ?_ | refine blk_alloc ?_ _)); exact BK267.out⟩, ⟨by repeat (first | (with_reducible first | exact HB.out | apply below_alloc | apply pw_below_drewN | apply below_drew1 | refine below_set ?_ GE260.out | refine below_set ?_ GE267.out) | exact HB.out)⟩⟩
          case round =>
           clear H'
           try clear c1
           try clear c2
           try clear p2
           try clear c3
           try clear c4
           try clear c5
           try clear c6
           try clear p6
           try clear c7
           try clear c8
           try clear c9
           try clear c11
           try clear c13
           try clear c15
           try clear c16
           try clear c16b0
           try clear c19
           try clear c19b0
           try clear c21
           try clear c22
           try clear c22b0
           try clear c23
           try clear c25
           try clear c25b0
           try clear c35
           try clear c49
           try clear c59
           try clear c59b0
           try clear c59b1
           try clear c60
           try clear c60b0
           try clear c60b1
           try clear c61
           try clear c61b0
           try clear c61b1
           try clear c62
           try clear c62b0
           try clear c63
           try clear p64
           try clear c67
           try clear c72
           try clear c72b0
           try clear c72b1
           try clear c73
           try clear c73b0
           try clear c73b1
           try clear c74
           try clear c74b0
           try clear c74b1
           try clear c74b2
           try clear c78
           try clear c78b0
           try clear c78b1
           try clear c79
           try clear c79b0
           try clear c79b1
           try clear c80
           try clear c80b0
           try clear c80b1
           try clear c81
           try clear c81b0
           try clear c81b1
           try clear c82
           try clear hcz17_0
           try clear hcz17_1
           try clear hcz17_2
           try clear hcz17_3
           try clear hcz20_0
           try clear hcz20_1
           try clear hcz20_2
           try clear hcz20_3
           try clear hcz23_0
           try clear hcz23_1
           try clear hcz23_2
           try clear hcz23_3
           try clear hcz26_0
           try clear hcz26_1
           try clear hcz26_2
           try clear hcz26_3
           try clear hcz29_0
           try clear hcz29_1
           try clear hcz29_2
           try clear hcz29_3
           try clear hcz31_0
           try clear hcz31_1
           try clear hcz31_2
           try clear hcz31_3
           try clear hcz33_0
           try clear hcz33_1
           try clear hcz33_2
           try clear hcz33_3
           try clear hcz47_0
           try clear hcz47_1
           try clear hcz47_2
           try clear hcz47_3
           try clear hcz50_0
           try clear hcz50_1
           try clear hcz50_2
           try clear hcz50_3
           try clear hcz51_0
           try clear hcz51_1
           try clear hcz51_2
           try clear hcz51_3
           try clear hcz53_0
           try clear hcz53_1
           try clear hcz53_2
           try clear hcz53_3
           try clear hcz68_0
           try clear hcz68_1
           try clear hcz68_2
           try clear hcz68_3
           try clear hcz70_0
           try clear hcz70_1
           try clear hcz70_2
           try clear hcz70_3
           try clear hfz17_0
           try clear hfz17_1
           try clear hfz17_2
           try clear hfz17_3
           try clear hfz20_0
           try clear hfz20_1
           try clear hfz20_2
           try clear hfz20_3
           try clear hfz23_0
           try clear hfz23_1
           try clear hfz23_2
           try clear hfz23_3
           try clear hfz26_0
           try clear hfz26_1
           try clear hfz26_2
           try clear hfz26_3
           try clear hfz29_0
           try clear hfz29_1
           try clear hfz29_2
           try clear hfz29_3
           try clear hfz31_0
           try clear hfz31_1
           try clear hfz31_2
           try clear hfz31_3
           try clear hfz33_0
           try clear hfz33_1
           try clear hfz33_2
           try clear hfz33_3
           try clear hfz47_0
           try clear hfz47_1
           try clear hfz47_2
           try clear hfz47_3
           try clear hfz50_0
           try clear hfz50_1
           try clear hfz50_2
           try clear hfz50_3
           try clear hfz51_0
           try clear hfz51_1
           try clear hfz51_2
           try clear hfz51_3
           try clear hfz53_0
           try clear hfz53_1
           try clear hfz53_2
           try clear hfz53_3
           try clear hfz68_0
           try clear hfz68_1
           try clear hfz68_2
           try clear hfz68_3
           try clear hfz70_0
           try clear hfz70_1
           try clear hfz70_2
           try clear hfz70_3
           try clear p2
           try clear p6
           try clear p64
           obtain ⟨x25_4, rfl, HA, HK4, HO_21, HO_23, BK260, BK267, HB⟩ := hrel
           cases gk with
           | zero => exact absurd HA.out (by simp [tl_CamMore.l0])
           | succ k4 =>
            have H := HA.out
            clear HA
            simp only [tl_CamMore.l0] at H
            by_cases c83 : x25_4 < (t286.length : Int)
            ·
             rw [if_pos c83] at H
             have c83b0 : decide (x25_4 < (t286.length : Int)) = true := decide_eq_true c83
             clear c83
             by_cases c84 : 0 ≤ x25_4
             ·
              rw [if_pos c84] at H
              have c84b0 : decide (0 ≤ x25_4) = true := decide_eq_true c84
              clear c84
              by_cases c85 : x25_4 < (t290.length : Int)
              ·
               rw [if_pos c85] at H
               have c85b0 : decide (x25_4 < (t290.length : Int)) = true := decide_eq_true c85
               clear c85
               by_cases c86 : ((rd_T48 t290 x25_4).f0) > ((rd_T48 t286 x25_4).f0)
               ·
                rw [if_pos c86] at H
                have c86b0 : decide (((rd_T48 t286 x25_4).f0) < ((rd_T48 t290 x25_4).f0)) = true := decide_eq_true c86
                clear c86
                as_aux_lemma =>
                 obtain rfl := Option.some.inj H
                 obtain ⟨Ao87, co87, eo87⟩ := Kd.R_slice HO_21.out
                 subst eo87
                 try go_wp2
                 have n0_ := Aside0.mk (Kd.R_drew HO_21.out)
                 have n1_ := Aside0.mk (Kd.R_drew HO_23.out)
                 have n2_ := Aside0.mk (blk_drew BK260.out)
                 have n3_ := Aside0.mk (blk_drew BK267.out)
                 have n4_ := Aside0.mk (below_drew1 HB.out)
                 clear HO_21
                 clear HO_23
                 clear BK260
                 clear BK267
                 clear HB
                 have HO_21 := n0_
                 have HO_23 := n1_
                 have BK260 := n2_
                 have BK267 := n3_
                 have HB := n4_
                 clear n0_ n1_ n2_ n3_ n4_
                 obtain ⟨Ao89, co89, eo89⟩ := Kd.R_slice HO_23.out
                 (first | subst eo89 | (injection eo89 with f1_ f2_ f3_; have f4_ := f1_.symm; have f5_ := f3_.symm; clear f1_ f2_ f3_; subst f4_; subst f5_))
                 have p294 : 0 ≤ (x25_4 : Int) := of_decide_eq_true (by first | (with_reducible assumption) | assumption)
                 have q294 : x25_4 < (t290.length : Int) := of_decide_eq_true (by first | (with_reducible assumption) | assumption)
                 obtain ⟨ad294, e294, hx294_0, hx294_1⟩ := at_T48 (Kd.R_reads' HO_23.out).2.2 x25_4 p294 q294
                 cases e294
                 replace p294 := eq_true p294
                 replace q294 := eq_true q294
                 have p295 : 0 ≤ (x25_4 : Int) := of_decide_eq_true (by first | (with_reducible assumption) | assumption)
                 have q295 : x25_4 < (t286.length : Int) := of_decide_eq_true (by first | (with_reducible assumption) | assumption)
                 obtain ⟨ad295, e295, hx295_0, hx295_1⟩ := at_T48 (Kd.R_reads' HO_21.out).2.2 x25_4 p295 q295
                 cases e295
                 replace p295 := eq_true p295
                 replace q295 := eq_true q295
                 refine start_ (n := 24) (S := fun w' => w'.cell? (ad294.add ((x25_4).toNat * 2)) = some (.int .i64 ((rd_T48 t290 x25_4).f0)) ∧ w'.cell? ⟨(ad294.add ((x25_4).toNat * 2)).block, (ad294.add ((x25_4).toNat * 2)).off + 1, none⟩ = some (.int .i64 ((rd_T48 t290 x25_4).f1)) ∧ w'.cell? (ad295.add ((x25_4).toNat * 2)) = some (.int .i64 ((rd_T48 t286 x25_4).f0)) ∧ w'.cell? ⟨(ad295.add ((x25_4).toNat * 2)).block, (ad295.add ((x25_4).toNat * 2)).off + 1, none⟩ = some (.int .i64 ((rd_T48 t286 x25_4).f1))) (ds := []) #[false, false, false, false, false, false, false, false, false, false, false, false, false, false, false, false, false, false, false, false, false, false, false, false] (by kernel_rfl) rfl rfl ⟨hx294_0, hx294_1, hx295_0, hx295_1⟩ (fun hHeld => ?_); refine with_tabW tl_CamMore.tab16 tl_CamMore.bits16 (fun HT_ HW_ => ?_)
                 generalize wr.drew = w88 at HO_21 HO_23 BK260 BK267 HB hx294_0 hx294_1 hx295_0 hx295_1 hHeld ⊢
                 refine pure_ (i := 0) (N := some 192) (v := ?_) (a' := ?_) #[true, false, false, false, false, false, false, false, false, false, false, false, false, false, false, false, false, false, false, false, false, false, false, false] rfl rfl (any_of HT_.out (by kernel_rfl)) (fun _ _ _ h => h) (Or.inl ⟨by rfl, ?_⟩) ?_ ?_
                 rotate_left
                 ·
                  intro w'
                  go_simp
                  with_reducible rfl
                 rotate_left
                 ·
                  simp only [Act.put, List.setIfInBounds_toArray, List.set_cons_zero, List.set_cons_succ, i64_w, i32_w]
                  rfl
                 refine pure_ (i := 1) (N := some 193) (v := ?_) (a' := ?_) #[true, true, false, false, false, false, false, false, false, false, false, false, false, false, false, false, false, false, false, false, false, false, false, false] rfl rfl (any_of HT_.out (by kernel_rfl)) (fun _ _ _ h => h) (Or.inl ⟨by rfl, ?_⟩) ?_ ?_
                 rotate_left
                 ·
                  intro w'
                  go_simp
                  with_reducible rfl
                 rotate_left
                 ·
                  simp only [Act.put, List.setIfInBounds_toArray, List.set_cons_zero, List.set_cons_succ, i64_w, i32_w]
                  rfl
                 refine pure_ (i := 2) (N := some 194) (v := ?_) (a' := ?_) #[true, true, true, false, false, false, false, false, false, false, false, false, false, false, false, false, false, false, false, false, false, false, false, false] rfl rfl (any_of HT_.out (by kernel_rfl)) (fun _ _ _ h => h) (Or.inl ⟨by rfl, ?_⟩) ?_ ?_
                 rotate_left
                 ·
                  intro w'
                  go_simp
                  with_reducible rfl
                 rotate_left
                 ·
                  simp only [Act.put, List.setIfInBounds_toArray, List.set_cons_zero, List.set_cons_succ, i64_w, i32_w]
                  rfl
                 refine pure_ (i := 3) (N := some 195) (v := ?_) (a' := ?_) #[true, true, true, true, false, false, false, false, false, false, false, false, false, false, false, false, false, false, false, false, false, false, false, false] rfl rfl (any_of HT_.out (by kernel_rfl)) (fun _ _ _ h => h) (Or.inl ⟨by rfl, ?_⟩) ?_ ?_
                 rotate_left
                 ·
                  intro w'
                  go_simp
                  with_reducible rfl
                 rotate_left
                 ·
                  simp only [Act.put, List.setIfInBounds_toArray, List.set_cons_zero, List.set_cons_succ, i64_w, i32_w]
                  rfl
                 refine pure_ (i := 5) (N := some 197) (v := ?_) (a' := ?_) #[true, true, true, true, false, true, false, false, false, false, false, false, false, false, false, false, false, false, false, false, false, false, false, false] rfl rfl (any_of HT_.out (by kernel_rfl)) (fun _ _ _ h => h) (Or.inl ⟨by rfl, ?_⟩) ?_ ?_
                 rotate_left
                 ·
                  intro w'
                  go_simp
                  with_reducible rfl
                 rotate_left
                 ·
                  simp only [Act.put, List.setIfInBounds_toArray, List.set_cons_zero, List.set_cons_succ, i64_w, i32_w]
                  rfl
                 refine pure_ (i := 6) (N := some 198) (v := ?_) (a' := ?_) #[true, true, true, true, false, true, true, false, false, false, false, false, false, false, false, false, false, false, false, false, false, false, false, false] rfl rfl (any_of HT_.out (by kernel_rfl)) (fun _ _ _ h => h) (Or.inl ⟨by rfl, ?_⟩) ?_ ?_
                 rotate_left
                 ·
                  intro w'
                  go_simp
                  with_reducible rfl
                 rotate_left
                 ·
                  simp only [Act.put, List.setIfInBounds_toArray, List.set_cons_zero, List.set_cons_succ, i64_w, i32_w]
                  rfl
                 refine pure_ (i := 7) (N := some 199) (v := ?_) (a' := ?_) #[true, true, true, true, false, true, true, true, false, false, false, false, false, false, false, false, false, false, false, false, false, false, false, false] rfl rfl (any_of HT_.out (by kernel_rfl)) (fun _ _ _ h => h) (Or.inl ⟨by rfl, ?_⟩) ?_ ?_
                 rotate_left
                 ·
                  intro w'
                  go_simp
                  with_reducible rfl
                 rotate_left
                 ·
                  simp only [Act.put, List.setIfInBounds_toArray, List.set_cons_zero, List.set_cons_succ, i64_w, i32_w]
                  rfl
                 refine pure_ (i := 8) (N := some 200) (v := ?_) (a' := ?_) #[true, true, true, true, false, true, true, true, true, false, false, false, false, false, false, false, false, false, false, false, false, false, false, false] rfl rfl (any_of HT_.out (by kernel_rfl)) (fun _ _ _ h => h) (Or.inl ⟨by rfl, ?_⟩) ?_ ?_
                 rotate_left
                 ·
                  intro w'
                  go_simp
                  with_reducible rfl
                 rotate_left
                 ·
                  simp only [Act.put, List.setIfInBounds_toArray, List.set_cons_zero, List.set_cons_succ, i64_w, i32_w]
                  rfl
                 refine take_ (i := 4) (N := some 196) (v := ?_) (a' := ?_) #[true, true, true, true, true, true, true, true, true, false, false, false, false, false, false, false, false, false, false, false, false, false, false, false] rfl rfl (take_ofW HT_.out HW_.out (by kernel_rfl)) (fun _ _ _ h => h) (Or.inl ⟨by rfl, ?_⟩) hHeld ?_ ?_
                 rotate_left
                 ·
                  rintro w' ⟨s0, s1, s2, s3⟩
                  go_simp
                  with_reducible rfl
                 rotate_left
                 ·
                  simp only [Act.put, List.setIfInBounds_toArray, List.set_cons_zero, List.set_cons_succ, i64_w, i32_w]
                  rfl
                 refine take_ (i := 9) (N := some 201) (v := ?_) (a' := ?_) #[true, true, true, true, true, true, true, true, true, true, false, false, false, false, false, false, false, false, false, false, false, false, false, false] rfl rfl (take_ofW HT_.out HW_.out (by kernel_rfl)) (fun _ _ _ h => h) (Or.inl ⟨by rfl, ?_⟩) hHeld ?_ ?_
                 rotate_left
                 ·
                  rintro w' ⟨s0, s1, s2, s3⟩
                  go_simp
                  with_reducible rfl
                 rotate_left
                 ·
                  simp only [Act.put, List.setIfInBounds_toArray, List.set_cons_zero, List.set_cons_succ, i64_w, i32_w]
                  rfl
                 refine pure_ (i := 10) (N := some 202) (v := ?_) (a' := ?_) #[true, true, true, true, true, true, true, true, true, true, true, false, false, false, false, false, false, false, false, false, false, false, false, false] rfl rfl (any_of HT_.out (by kernel_rfl)) (fun _ _ _ h => h) (Or.inl ⟨by rfl, ?_⟩) ?_ ?_
                 rotate_left
                 ·
                  intro w'
                  go_simp
                  with_reducible rfl
                 rotate_left
                 ·
                  simp only [Act.put, List.setIfInBounds_toArray, List.set_cons_zero, List.set_cons_succ, i64_w, i32_w]
                  rfl
                 refine pure_ (i := 11) (N := some 203) (v := ?_) (a' := ?_) #[true, true, true, true, true, true, true, true, true, true, true, true, false, false, false, false, false, false, false, false, false, false, false, false] rfl rfl (any_of HT_.out (by kernel_rfl)) (fun _ _ _ h => h) (Or.inl ⟨by rfl, ?_⟩) ?_ ?_
                 rotate_left
                 ·
                  intro w'
                  go_simp
                  with_reducible rfl
                 rotate_left
                 ·
                  simp only [Act.put, List.setIfInBounds_toArray, List.set_cons_zero, List.set_cons_succ, i64_w, i32_w]
                  rfl
                 refine pure_ (i := 12) (N := some 204) (v := undef) (a' := ?_) #[true, true, true, true, true, true, true, true, true, true, true, true, true, false, false, false, false, false, false, false, false, false, false, false] rfl rfl (any_of HT_.out (by kernel_rfl)) (fun _ _ _ h => h) (Or.inr ⟨by rfl, rfl⟩) ?_ ?_
                 rotate_left
                 ·
                  simp only [Act.put, List.setIfInBounds_toArray, List.set_cons_zero, List.set_cons_succ, i64_w, i32_w]
                  rfl
                 refine pure_ (i := 13) (N := some 205) (v := undef) (a' := ?_) #[true, true, true, true, true, true, true, true, true, true, true, true, true, true, false, false, false, false, false, false, false, false, false, false] rfl rfl (any_of HT_.out (by kernel_rfl)) (fun _ _ _ h => h) (Or.inr ⟨by rfl, rfl⟩) ?_ ?_
                 rotate_left
                 ·
                  simp only [Act.put, List.setIfInBounds_toArray, List.set_cons_zero, List.set_cons_succ, i64_w, i32_w]
                  rfl
                 refine pure_ (i := 14) (N := some 206) (v := undef) (a' := ?_) #[true, true, true, true, true, true, true, true, true, true, true, true, true, true, true, false, false, false, false, false, false, false, false, false] rfl rfl (any_of HT_.out (by kernel_rfl)) (fun _ _ _ h => h) (Or.inr ⟨by rfl, rfl⟩) ?_ ?_
                 rotate_left
                 ·
                  simp only [Act.put, List.setIfInBounds_toArray, List.set_cons_zero, List.set_cons_succ, i64_w, i32_w]
                  rfl
                 refine pure_ (i := 15) (N := some 207) (v := undef) (a' := ?_) #[true, true, true, true, true, true, true, true, true, true, true, true, true, true, true, true, false, false, false, false, false, false, false, false] rfl rfl (any_of HT_.out (by kernel_rfl)) (fun _ _ _ h => h) (Or.inr ⟨by rfl, rfl⟩) ?_ ?_
                 rotate_left
                 ·
                  simp only [Act.put, List.setIfInBounds_toArray, List.set_cons_zero, List.set_cons_succ, i64_w, i32_w]
                  rfl
                 refine pure_ (i := 16) (N := some 208) (v := undef) (a' := ?_) #[true, true, true, true, true, true, true, true, true, true, true, true, true, true, true, true, true, false, false, false, false, false, false, false] rfl rfl (any_of HT_.out (by kernel_rfl)) (fun _ _ _ h => h) (Or.inr ⟨by rfl, rfl⟩) ?_ ?_
                 rotate_left
                 ·
                  simp only [Act.put, List.setIfInBounds_toArray, List.set_cons_zero, List.set_cons_succ, i64_w, i32_w]
                  rfl
                 refine pure_ (i := 17) (N := some 209) (v := undef) (a' := ?_) #[true, true, true, true, true, true, true, true, true, true, true, true, true, true, true, true, true, true, false, false, false, false, false, false] rfl rfl (any_of HT_.out (by kernel_rfl)) (fun _ _ _ h => h) (Or.inr ⟨by rfl, rfl⟩) ?_ ?_
                 rotate_left
                 ·
                  simp only [Act.put, List.setIfInBounds_toArray, List.set_cons_zero, List.set_cons_succ, i64_w, i32_w]
                  rfl
                 refine pure_ (i := 18) (N := some 210) (v := undef) (a' := ?_) #[true, true, true, true, true, true, true, true, true, true, true, true, true, true, true, true, true, true, true, false, false, false, false, false] rfl rfl (any_of HT_.out (by kernel_rfl)) (fun _ _ _ h => h) (Or.inr ⟨by rfl, rfl⟩) ?_ ?_
                 rotate_left
                 ·
                  simp only [Act.put, List.setIfInBounds_toArray, List.set_cons_zero, List.set_cons_succ, i64_w, i32_w]
                  rfl
                 refine pure_ (i := 19) (N := some 211) (v := undef) (a' := ?_) #[true, true, true, true, true, true, true, true, true, true, true, true, true, true, true, true, true, true, true, true, false, false, false, false] rfl rfl (any_of HT_.out (by kernel_rfl)) (fun _ _ _ h => h) (Or.inr ⟨by rfl, rfl⟩) ?_ ?_
                 rotate_left
                 ·
                  simp only [Act.put, List.setIfInBounds_toArray, List.set_cons_zero, List.set_cons_succ, i64_w, i32_w]
                  rfl
                 refine pure_ (i := 20) (N := some 212) (v := undef) (a' := ?_) #[true, true, true, true, true, true, true, true, true, true, true, true, true, true, true, true, true, true, true, true, true, false, false, false] rfl rfl (any_of HT_.out (by kernel_rfl)) (fun _ _ _ h => h) (Or.inr ⟨by rfl, rfl⟩) ?_ ?_
                 rotate_left
                 ·
                  simp only [Act.put, List.setIfInBounds_toArray, List.set_cons_zero, List.set_cons_succ, i64_w, i32_w]
                  rfl
                 refine pure_ (i := 21) (N := some 213) (v := undef) (a' := ?_) #[true, true, true, true, true, true, true, true, true, true, true, true, true, true, true, true, true, true, true, true, true, true, false, false] rfl rfl (any_of HT_.out (by kernel_rfl)) (fun _ _ _ h => h) (Or.inr ⟨by rfl, rfl⟩) ?_ ?_
                 rotate_left
                 ·
                  simp only [Act.put, List.setIfInBounds_toArray, List.set_cons_zero, List.set_cons_succ, i64_w, i32_w]
                  rfl
                 refine pure_ (i := 22) (N := some 214) (v := undef) (a' := ?_) #[true, true, true, true, true, true, true, true, true, true, true, true, true, true, true, true, true, true, true, true, true, true, true, false] rfl rfl (any_of HT_.out (by kernel_rfl)) (fun _ _ _ h => h) (Or.inr ⟨by rfl, rfl⟩) ?_ ?_
                 rotate_left
                 ·
                  simp only [Act.put, List.setIfInBounds_toArray, List.set_cons_zero, List.set_cons_succ, i64_w, i32_w]
                  rfl
                 refine pure_ (i := 23) (N := some 215) (v := ?_) (a' := ?_) #[true, true, true, true, true, true, true, true, true, true, true, true, true, true, true, true, true, true, true, true, true, true, true, true] rfl rfl (any_of HT_.out (by kernel_rfl)) (fun _ _ _ h => h) (Or.inl ⟨by rfl, ?_⟩) ?_ ?_
                 rotate_left
                 ·
                  intro w'
                  go_simp
                  with_reducible rfl
                 rotate_left
                 ·
                  simp only [Act.put, List.setIfInBounds_toArray, List.set_cons_zero, List.set_cons_succ, i64_w, i32_w]
                  rfl
                 refine done_ (done_of HT_.out (by kernel_rfl)) ?_
                 try go_wp2
                 go_ret
                 exact ⟨by first | rfl | (simp [errW_none, errW_some] <;> rfl) | (simp only [← hji38, ← hji39, ← hji40, ← hji41]; first | rfl | (simp [errW_none, errW_some] <;> rfl)) | (simp [*, errW_none, errW_some] <;> rfl), by repeat (first | (with_reducible first | exact HB.out | apply below_alloc | apply pw_below_drewN | apply below_drew1 | refine below_set ?_ GE260.out | refine below_set ?_ GE267.out) | exact HB.out)⟩
               ·
                rw [if_neg c86] at H
                have c86b0 : decide (((rd_T48 t286 x25_4).f0) < ((rd_T48 t290 x25_4).f0)) = false := decide_eq_false c86
                clear c86
                by_cases c90 : ((rd_T48 t290 x25_4).f1) < ((rd_T48 t286 x25_4).f1)
                ·
                 rw [if_pos c90] at H
                 have c90b0 : decide (((rd_T48 t290 x25_4).f1) < ((rd_T48 t286 x25_4).f1)) = true := decide_eq_true c90
                 clear c90
                 as_aux_lemma =>
                  obtain rfl := Option.some.inj H
                  obtain ⟨Ao91, co91, eo91⟩ := Kd.R_slice HO_21.out
                  subst eo91
                  try go_wp2
                  have n0_ := Aside0.mk (Kd.R_drew HO_21.out)
                  have n1_ := Aside0.mk (Kd.R_drew HO_23.out)
                  have n2_ := Aside0.mk (blk_drew BK260.out)
                  have n3_ := Aside0.mk (blk_drew BK267.out)
                  have n4_ := Aside0.mk (below_drew1 HB.out)
                  clear HO_21
                  clear HO_23
                  clear BK260
                  clear BK267
                  clear HB
                  have HO_21 := n0_
                  have HO_23 := n1_
                  have BK260 := n2_
                  have BK267 := n3_
                  have HB := n4_
                  clear n0_ n1_ n2_ n3_ n4_
                  obtain ⟨Ao93, co93, eo93⟩ := Kd.R_slice HO_23.out
                  (first | subst eo93 | (injection eo93 with f1_ f2_ f3_; have f4_ := f1_.symm; have f5_ := f3_.symm; clear f1_ f2_ f3_; subst f4_; subst f5_))
                  have p294 : 0 ≤ (x25_4 : Int) := of_decide_eq_true (by first | (with_reducible assumption) | assumption)
                  have q294 : x25_4 < (t290.length : Int) := of_decide_eq_true (by first | (with_reducible assumption) | assumption)
                  obtain ⟨ad294, e294, hx294_0, hx294_1⟩ := at_T48 (Kd.R_reads' HO_23.out).2.2 x25_4 p294 q294
                  cases e294
                  replace p294 := eq_true p294
                  replace q294 := eq_true q294
                  have p295 : 0 ≤ (x25_4 : Int) := of_decide_eq_true (by first | (with_reducible assumption) | assumption)
                  have q295 : x25_4 < (t286.length : Int) := of_decide_eq_true (by first | (with_reducible assumption) | assumption)
                  obtain ⟨ad295, e295, hx295_0, hx295_1⟩ := at_T48 (Kd.R_reads' HO_21.out).2.2 x25_4 p295 q295
                  cases e295
                  replace p295 := eq_true p295
                  replace q295 := eq_true q295
                  have p296 : 0 ≤ (x25_4 : Int) := of_decide_eq_true (by first | (with_reducible assumption) | assumption)
                  have q296 : x25_4 < (t290.length : Int) := of_decide_eq_true (by first | (with_reducible assumption) | assumption)
                  obtain ⟨ad296, e296, hx296_0, hx296_1⟩ := at_T48 (Kd.R_reads' HO_23.out).2.2 x25_4 p296 q296
                  obtain rfl : ad294 = ad296 := (by injection e296)
                  replace p296 := eq_true p296
                  replace q296 := eq_true q296
                  have p297 : 0 ≤ (x25_4 : Int) := of_decide_eq_true (by first | (with_reducible assumption) | assumption)
                  have q297 : x25_4 < (t286.length : Int) := of_decide_eq_true (by first | (with_reducible assumption) | assumption)
                  obtain ⟨ad297, e297, hx297_0, hx297_1⟩ := at_T48 (Kd.R_reads' HO_21.out).2.2 x25_4 p297 q297
                  obtain rfl : ad295 = ad297 := (by injection e297)
                  replace p297 := eq_true p297
                  replace q297 := eq_true q297
                  refine start_ (n := 24) (S := fun w' => w'.cell? (ad294.add ((x25_4).toNat * 2)) = some (.int .i64 ((rd_T48 t290 x25_4).f0)) ∧ w'.cell? ⟨(ad294.add ((x25_4).toNat * 2)).block, (ad294.add ((x25_4).toNat * 2)).off + 1, none⟩ = some (.int .i64 ((rd_T48 t290 x25_4).f1)) ∧ w'.cell? (ad295.add ((x25_4).toNat * 2)) = some (.int .i64 ((rd_T48 t286 x25_4).f0)) ∧ w'.cell? ⟨(ad295.add ((x25_4).toNat * 2)).block, (ad295.add ((x25_4).toNat * 2)).off + 1, none⟩ = some (.int .i64 ((rd_T48 t286 x25_4).f1)) ∧ w'.cell? (ad294.add ((x25_4).toNat * 2)) = some (.int .i64 ((rd_T48 t290 x25_4).f0)) ∧ w'.cell? ⟨(ad294.add ((x25_4).toNat * 2)).block, (ad294.add ((x25_4).toNat * 2)).off + 1, none⟩ = some (.int .i64 ((rd_T48 t290 x25_4).f1)) ∧ w'.cell? (ad295.add ((x25_4).toNat * 2)) = some (.int .i64 ((rd_T48 t286 x25_4).f0)) ∧ w'.cell? ⟨(ad295.add ((x25_4).toNat * 2)).block, (ad295.add ((x25_4).toNat * 2)).off + 1, none⟩ = some (.int .i64 ((rd_T48 t286 x25_4).f1))) (ds := []) #[false, false, false, false, false, false, false, false, false, false, false, false, false, false, false, false, false, false, false, false, false, false, false, false] (by kernel_rfl) rfl rfl ⟨hx294_0, hx294_1, hx295_0, hx295_1, hx296_0, hx296_1, hx297_0, hx297_1⟩ (fun hHeld => ?_); refine with_tabW tl_CamMore.tab16 tl_CamMore.bits16 (fun HT_ HW_ => ?_)
                  generalize wr.drew = w92 at HO_21 HO_23 BK260 BK267 HB hx294_0 hx294_1 hx295_0 hx295_1 hx296_0 hx296_1 hx297_0 hx297_1 hHeld ⊢
                  refine pure_ (i := 0) (N := some 192) (v := ?_) (a' := ?_) #[true, false, false, false, false, false, false, false, false, false, false, false, false, false, false, false, false, false, false, false, false, false, false, false] rfl rfl (any_of HT_.out (by kernel_rfl)) (fun _ _ _ h => h) (Or.inl ⟨by rfl, ?_⟩) ?_ ?_
                  rotate_left
                  ·
                   intro w'
                   go_simp
                   with_reducible rfl
                  rotate_left
                  ·
                   simp only [Act.put, List.setIfInBounds_toArray, List.set_cons_zero, List.set_cons_succ, i64_w, i32_w]
                   rfl
                  refine pure_ (i := 1) (N := some 193) (v := ?_) (a' := ?_) #[true, true, false, false, false, false, false, false, false, false, false, false, false, false, false, false, false, false, false, false, false, false, false, false] rfl rfl (any_of HT_.out (by kernel_rfl)) (fun _ _ _ h => h) (Or.inl ⟨by rfl, ?_⟩) ?_ ?_
                  rotate_left
                  ·
                   intro w'
                   go_simp
                   with_reducible rfl
                  rotate_left
                  ·
                   simp only [Act.put, List.setIfInBounds_toArray, List.set_cons_zero, List.set_cons_succ, i64_w, i32_w]
                   rfl
                  refine pure_ (i := 2) (N := some 194) (v := ?_) (a' := ?_) #[true, true, true, false, false, false, false, false, false, false, false, false, false, false, false, false, false, false, false, false, false, false, false, false] rfl rfl (any_of HT_.out (by kernel_rfl)) (fun _ _ _ h => h) (Or.inl ⟨by rfl, ?_⟩) ?_ ?_
                  rotate_left
                  ·
                   intro w'
                   go_simp
                   with_reducible rfl
                  rotate_left
                  ·
                   simp only [Act.put, List.setIfInBounds_toArray, List.set_cons_zero, List.set_cons_succ, i64_w, i32_w]
                   rfl
                  refine pure_ (i := 3) (N := some 195) (v := ?_) (a' := ?_) #[true, true, true, true, false, false, false, false, false, false, false, false, false, false, false, false, false, false, false, false, false, false, false, false] rfl rfl (any_of HT_.out (by kernel_rfl)) (fun _ _ _ h => h) (Or.inl ⟨by rfl, ?_⟩) ?_ ?_
                  rotate_left
                  ·
                   intro w'
                   go_simp
                   with_reducible rfl
                  rotate_left
                  ·
                   simp only [Act.put, List.setIfInBounds_toArray, List.set_cons_zero, List.set_cons_succ, i64_w, i32_w]
                   rfl
                  refine pure_ (i := 5) (N := some 197) (v := ?_) (a' := ?_) #[true, true, true, true, false, true, false, false, false, false, false, false, false, false, false, false, false, false, false, false, false, false, false, false] rfl rfl (any_of HT_.out (by kernel_rfl)) (fun _ _ _ h => h) (Or.inl ⟨by rfl, ?_⟩) ?_ ?_
                  rotate_left
                  ·
                   intro w'
                   go_simp
                   with_reducible rfl
                  rotate_left
                  ·
                   simp only [Act.put, List.setIfInBounds_toArray, List.set_cons_zero, List.set_cons_succ, i64_w, i32_w]
                   rfl
                  refine pure_ (i := 6) (N := some 198) (v := ?_) (a' := ?_) #[true, true, true, true, false, true, true, false, false, false, false, false, false, false, false, false, false, false, false, false, false, false, false, false] rfl rfl (any_of HT_.out (by kernel_rfl)) (fun _ _ _ h => h) (Or.inl ⟨by rfl, ?_⟩) ?_ ?_
                  rotate_left
                  ·
                   intro w'
                   go_simp
                   with_reducible rfl
                  rotate_left
                  ·
                   simp only [Act.put, List.setIfInBounds_toArray, List.set_cons_zero, List.set_cons_succ, i64_w, i32_w]
                   rfl
                  refine pure_ (i := 7) (N := some 199) (v := ?_) (a' := ?_) #[true, true, true, true, false, true, true, true, false, false, false, false, false, false, false, false, false, false, false, false, false, false, false, false] rfl rfl (any_of HT_.out (by kernel_rfl)) (fun _ _ _ h => h) (Or.inl ⟨by rfl, ?_⟩) ?_ ?_
                  rotate_left
                  ·
                   intro w'
                   go_simp
                   with_reducible rfl
                  rotate_left
                  ·
                   simp only [Act.put, List.setIfInBounds_toArray, List.set_cons_zero, List.set_cons_succ, i64_w, i32_w]
                   rfl
                  refine pure_ (i := 8) (N := some 200) (v := ?_) (a' := ?_) #[true, true, true, true, false, true, true, true, true, false, false, false, false, false, false, false, false, false, false, false, false, false, false, false] rfl rfl (any_of HT_.out (by kernel_rfl)) (fun _ _ _ h => h) (Or.inl ⟨by rfl, ?_⟩) ?_ ?_
                  rotate_left
                  ·
                   intro w'
                   go_simp
                   with_reducible rfl
                  rotate_left
                  ·
                   simp only [Act.put, List.setIfInBounds_toArray, List.set_cons_zero, List.set_cons_succ, i64_w, i32_w]
                   rfl
                  refine take_ (i := 4) (N := some 196) (v := ?_) (a' := ?_) #[true, true, true, true, true, true, true, true, true, false, false, false, false, false, false, false, false, false, false, false, false, false, false, false] rfl rfl (take_ofW HT_.out HW_.out (by kernel_rfl)) (fun _ _ _ h => h) (Or.inl ⟨by rfl, ?_⟩) hHeld ?_ ?_
                  rotate_left
                  ·
                   rintro w' ⟨s0, s1, s2, s3, s4, s5, s6, s7⟩
                   go_simp
                   with_reducible rfl
                  rotate_left
                  ·
                   simp only [Act.put, List.setIfInBounds_toArray, List.set_cons_zero, List.set_cons_succ, i64_w, i32_w]
                   rfl
                  refine take_ (i := 9) (N := some 201) (v := ?_) (a' := ?_) #[true, true, true, true, true, true, true, true, true, true, false, false, false, false, false, false, false, false, false, false, false, false, false, false] rfl rfl (take_ofW HT_.out HW_.out (by kernel_rfl)) (fun _ _ _ h => h) (Or.inl ⟨by rfl, ?_⟩) hHeld ?_ ?_
                  rotate_left
                  ·
                   rintro w' ⟨s0, s1, s2, s3, s4, s5, s6, s7⟩
                   go_simp
                   with_reducible rfl
                  rotate_left
                  ·
                   simp only [Act.put, List.setIfInBounds_toArray, List.set_cons_zero, List.set_cons_succ, i64_w, i32_w]
                   rfl
                  refine pure_ (i := 10) (N := some 202) (v := ?_) (a' := ?_) #[true, true, true, true, true, true, true, true, true, true, true, false, false, false, false, false, false, false, false, false, false, false, false, false] rfl rfl (any_of HT_.out (by kernel_rfl)) (fun _ _ _ h => h) (Or.inl ⟨by rfl, ?_⟩) ?_ ?_
                  rotate_left
                  ·
                   intro w'
                   go_simp
                   with_reducible rfl
                  rotate_left
                  ·
                   simp only [Act.put, List.setIfInBounds_toArray, List.set_cons_zero, List.set_cons_succ, i64_w, i32_w]
                   rfl
                  refine pure_ (i := 11) (N := some 203) (v := ?_) (a' := ?_) #[true, true, true, true, true, true, true, true, true, true, true, true, false, false, false, false, false, false, false, false, false, false, false, false] rfl rfl (any_of HT_.out (by kernel_rfl)) (fun _ _ _ h => h) (Or.inl ⟨by rfl, ?_⟩) ?_ ?_
                  rotate_left
                  ·
                   intro w'
                   go_simp
                   with_reducible rfl
                  rotate_left
                  ·
                   simp only [Act.put, List.setIfInBounds_toArray, List.set_cons_zero, List.set_cons_succ, i64_w, i32_w]
                   rfl
                  refine pure_ (i := 12) (N := some 204) (v := ?_) (a' := ?_) #[true, true, true, true, true, true, true, true, true, true, true, true, true, false, false, false, false, false, false, false, false, false, false, false] rfl rfl (any_of HT_.out (by kernel_rfl)) (fun _ _ _ h => h) (Or.inl ⟨by rfl, ?_⟩) ?_ ?_
                  rotate_left
                  ·
                   intro w'
                   go_simp
                   with_reducible rfl
                  rotate_left
                  ·
                   simp only [Act.put, List.setIfInBounds_toArray, List.set_cons_zero, List.set_cons_succ, i64_w, i32_w]
                   rfl
                  refine pure_ (i := 13) (N := some 205) (v := ?_) (a' := ?_) #[true, true, true, true, true, true, true, true, true, true, true, true, true, true, false, false, false, false, false, false, false, false, false, false] rfl rfl (any_of HT_.out (by kernel_rfl)) (fun _ _ _ h => h) (Or.inl ⟨by rfl, ?_⟩) ?_ ?_
                  rotate_left
                  ·
                   intro w'
                   go_simp
                   with_reducible rfl
                  rotate_left
                  ·
                   simp only [Act.put, List.setIfInBounds_toArray, List.set_cons_zero, List.set_cons_succ, i64_w, i32_w]
                   rfl
                  refine pure_ (i := 14) (N := some 206) (v := ?_) (a' := ?_) #[true, true, true, true, true, true, true, true, true, true, true, true, true, true, true, false, false, false, false, false, false, false, false, false] rfl rfl (any_of HT_.out (by kernel_rfl)) (fun _ _ _ h => h) (Or.inl ⟨by rfl, ?_⟩) ?_ ?_
                  rotate_left
                  ·
                   intro w'
                   go_simp
                   with_reducible rfl
                  rotate_left
                  ·
                   simp only [Act.put, List.setIfInBounds_toArray, List.set_cons_zero, List.set_cons_succ, i64_w, i32_w]
                   rfl
                  refine pure_ (i := 15) (N := some 207) (v := ?_) (a' := ?_) #[true, true, true, true, true, true, true, true, true, true, true, true, true, true, true, true, false, false, false, false, false, false, false, false] rfl rfl (any_of HT_.out (by kernel_rfl)) (fun _ _ _ h => h) (Or.inl ⟨by rfl, ?_⟩) ?_ ?_
                  rotate_left
                  ·
                   intro w'
                   go_simp
                   with_reducible rfl
                  rotate_left
                  ·
                   simp only [Act.put, List.setIfInBounds_toArray, List.set_cons_zero, List.set_cons_succ, i64_w, i32_w]
                   rfl
                  refine pure_ (i := 17) (N := some 209) (v := ?_) (a' := ?_) #[true, true, true, true, true, true, true, true, true, true, true, true, true, true, true, true, false, true, false, false, false, false, false, false] rfl rfl (any_of HT_.out (by kernel_rfl)) (fun _ _ _ h => h) (Or.inl ⟨by rfl, ?_⟩) ?_ ?_
                  rotate_left
                  ·
                   intro w'
                   go_simp
                   with_reducible rfl
                  rotate_left
                  ·
                   simp only [Act.put, List.setIfInBounds_toArray, List.set_cons_zero, List.set_cons_succ, i64_w, i32_w]
                   rfl
                  refine pure_ (i := 18) (N := some 210) (v := ?_) (a' := ?_) #[true, true, true, true, true, true, true, true, true, true, true, true, true, true, true, true, false, true, true, false, false, false, false, false] rfl rfl (any_of HT_.out (by kernel_rfl)) (fun _ _ _ h => h) (Or.inl ⟨by rfl, ?_⟩) ?_ ?_
                  rotate_left
                  ·
                   intro w'
                   go_simp
                   with_reducible rfl
                  rotate_left
                  ·
                   simp only [Act.put, List.setIfInBounds_toArray, List.set_cons_zero, List.set_cons_succ, i64_w, i32_w]
                   rfl
                  refine pure_ (i := 19) (N := some 211) (v := ?_) (a' := ?_) #[true, true, true, true, true, true, true, true, true, true, true, true, true, true, true, true, false, true, true, true, false, false, false, false] rfl rfl (any_of HT_.out (by kernel_rfl)) (fun _ _ _ h => h) (Or.inl ⟨by rfl, ?_⟩) ?_ ?_
                  rotate_left
                  ·
                   intro w'
                   go_simp
                   with_reducible rfl
                  rotate_left
                  ·
                   simp only [Act.put, List.setIfInBounds_toArray, List.set_cons_zero, List.set_cons_succ, i64_w, i32_w]
                   rfl
                  refine pure_ (i := 20) (N := some 212) (v := ?_) (a' := ?_) #[true, true, true, true, true, true, true, true, true, true, true, true, true, true, true, true, false, true, true, true, true, false, false, false] rfl rfl (any_of HT_.out (by kernel_rfl)) (fun _ _ _ h => h) (Or.inl ⟨by rfl, ?_⟩) ?_ ?_
                  rotate_left
                  ·
                   intro w'
                   go_simp
                   with_reducible rfl
                  rotate_left
                  ·
                   simp only [Act.put, List.setIfInBounds_toArray, List.set_cons_zero, List.set_cons_succ, i64_w, i32_w]
                   rfl
                  refine take_ (i := 16) (N := some 208) (v := ?_) (a' := ?_) #[true, true, true, true, true, true, true, true, true, true, true, true, true, true, true, true, true, true, true, true, true, false, false, false] rfl rfl (take_ofW HT_.out HW_.out (by kernel_rfl)) (fun _ _ _ h => h) (Or.inl ⟨by rfl, ?_⟩) hHeld ?_ ?_
                  rotate_left
                  ·
                   rintro w' ⟨s0, s1, s2, s3, s4, s5, s6, s7⟩
                   go_simp
                   with_reducible rfl
                  rotate_left
                  ·
                   simp only [Act.put, List.setIfInBounds_toArray, List.set_cons_zero, List.set_cons_succ, i64_w, i32_w]
                   rfl
                  refine take_ (i := 21) (N := some 213) (v := ?_) (a' := ?_) #[true, true, true, true, true, true, true, true, true, true, true, true, true, true, true, true, true, true, true, true, true, true, false, false] rfl rfl (take_ofW HT_.out HW_.out (by kernel_rfl)) (fun _ _ _ h => h) (Or.inl ⟨by rfl, ?_⟩) hHeld ?_ ?_
                  rotate_left
                  ·
                   rintro w' ⟨s0, s1, s2, s3, s4, s5, s6, s7⟩
                   go_simp
                   with_reducible rfl
                  rotate_left
                  ·
                   simp only [Act.put, List.setIfInBounds_toArray, List.set_cons_zero, List.set_cons_succ, i64_w, i32_w]
                   rfl
                  refine pure_ (i := 22) (N := some 214) (v := ?_) (a' := ?_) #[true, true, true, true, true, true, true, true, true, true, true, true, true, true, true, true, true, true, true, true, true, true, true, false] rfl rfl (any_of HT_.out (by kernel_rfl)) (fun _ _ _ h => h) (Or.inl ⟨by rfl, ?_⟩) ?_ ?_
                  rotate_left
                  ·
                   intro w'
                   go_simp
                   with_reducible rfl
                  rotate_left
                  ·
                   simp only [Act.put, List.setIfInBounds_toArray, List.set_cons_zero, List.set_cons_succ, i64_w, i32_w]
                   rfl
                  refine pure_ (i := 23) (N := some 215) (v := ?_) (a' := ?_) #[true, true, true, true, true, true, true, true, true, true, true, true, true, true, true, true, true, true, true, true, true, true, true, true] rfl rfl (any_of HT_.out (by kernel_rfl)) (fun _ _ _ h => h) (Or.inl ⟨by rfl, ?_⟩) ?_ ?_
                  rotate_left
                  ·
                   intro w'
                   go_simp
                   with_reducible rfl
                  rotate_left
                  ·
                   simp only [Act.put, List.setIfInBounds_toArray, List.set_cons_zero, List.set_cons_succ, i64_w, i32_w]
                   rfl
                  refine done_ (done_of HT_.out (by kernel_rfl)) ?_
                  try go_wp2
                  go_ret
                  exact ⟨by first | rfl | (simp [errW_none, errW_some] <;> rfl) | (simp only [← hji38, ← hji39, ← hji40, ← hji41]; first | rfl | (simp [errW_none, errW_some] <;> rfl)) | (simp [*, errW_none, errW_some] <;> rfl), by repeat (first | (with_reducible first | exact HB.out | apply below_alloc | apply pw_below_drewN | apply below_drew1 | refine below_set ?_ GE260.out | refine below_set ?_ GE267.out) | exact HB.out)⟩
                ·
                 rw [if_neg c90] at H
                 have c90b0 : decide (((rd_T48 t290 x25_4).f1) < ((rd_T48 t286 x25_4).f1)) = false := decide_eq_false c90
                 clear c90
                 as_aux_lemma =>
                  have H' := Aside0.mk H
                  clear H
                  obtain ⟨Ao94, co94, eo94⟩ := Kd.R_slice HO_21.out
                  subst eo94
                  try go_wp2
                  have n0_ := Aside0.mk (Kd.R_drew HO_21.out)
                  have n1_ := Aside0.mk (Kd.R_drew HO_23.out)
                  have n2_ := Aside0.mk (blk_drew BK260.out)
                  have n3_ := Aside0.mk (blk_drew BK267.out)
                  have n4_ := Aside0.mk (below_drew1 HB.out)
                  clear HO_21
                  clear HO_23
                  clear BK260
                  clear BK267
                  clear HB
                  have HO_21 := n0_
                  have HO_23 := n1_
                  have BK260 := n2_
                  have BK267 := n3_
                  have HB := n4_
                  clear n0_ n1_ n2_ n3_ n4_
                  obtain ⟨Ao96, co96, eo96⟩ := Kd.R_slice HO_23.out
                  (first | subst eo96 | (injection eo96 with f1_ f2_ f3_; have f4_ := f1_.symm; have f5_ := f3_.symm; clear f1_ f2_ f3_; subst f4_; subst f5_))
                  have p294 : 0 ≤ (x25_4 : Int) := of_decide_eq_true (by first | (with_reducible assumption) | assumption)
                  have q294 : x25_4 < (t290.length : Int) := of_decide_eq_true (by first | (with_reducible assumption) | assumption)
                  obtain ⟨ad294, e294, hx294_0, hx294_1⟩ := at_T48 (Kd.R_reads' HO_23.out).2.2 x25_4 p294 q294
                  cases e294
                  replace p294 := eq_true p294
                  replace q294 := eq_true q294
                  have p295 : 0 ≤ (x25_4 : Int) := of_decide_eq_true (by first | (with_reducible assumption) | assumption)
                  have q295 : x25_4 < (t286.length : Int) := of_decide_eq_true (by first | (with_reducible assumption) | assumption)
                  obtain ⟨ad295, e295, hx295_0, hx295_1⟩ := at_T48 (Kd.R_reads' HO_21.out).2.2 x25_4 p295 q295
                  cases e295
                  replace p295 := eq_true p295
                  replace q295 := eq_true q295
                  have p296 : 0 ≤ (x25_4 : Int) := of_decide_eq_true (by first | (with_reducible assumption) | assumption)
                  have q296 : x25_4 < (t290.length : Int) := of_decide_eq_true (by first | (with_reducible assumption) | assumption)
                  obtain ⟨ad296, e296, hx296_0, hx296_1⟩ := at_T48 (Kd.R_reads' HO_23.out).2.2 x25_4 p296 q296
                  obtain rfl : ad294 = ad296 := (by injection e296)
                  replace p296 := eq_true p296
                  replace q296 := eq_true q296
                  have p297 : 0 ≤ (x25_4 : Int) := of_decide_eq_true (by first | (with_reducible assumption) | assumption)
                  have q297 : x25_4 < (t286.length : Int) := of_decide_eq_true (by first | (with_reducible assumption) | assumption)
                  obtain ⟨ad297, e297, hx297_0, hx297_1⟩ := at_T48 (Kd.R_reads' HO_21.out).2.2 x25_4 p297 q297
                  obtain rfl : ad295 = ad297 := (by injection e297)
                  replace p297 := eq_true p297
                  replace q297 := eq_true q297
                  refine start_ (n := 24) (S := fun w' => w'.cell? (ad294.add ((x25_4).toNat * 2)) = some (.int .i64 ((rd_T48 t290 x25_4).f0)) ∧ w'.cell? ⟨(ad294.add ((x25_4).toNat * 2)).block, (ad294.add ((x25_4).toNat * 2)).off + 1, none⟩ = some (.int .i64 ((rd_T48 t290 x25_4).f1)) ∧ w'.cell? (ad295.add ((x25_4).toNat * 2)) = some (.int .i64 ((rd_T48 t286 x25_4).f0)) ∧ w'.cell? ⟨(ad295.add ((x25_4).toNat * 2)).block, (ad295.add ((x25_4).toNat * 2)).off + 1, none⟩ = some (.int .i64 ((rd_T48 t286 x25_4).f1)) ∧ w'.cell? (ad294.add ((x25_4).toNat * 2)) = some (.int .i64 ((rd_T48 t290 x25_4).f0)) ∧ w'.cell? ⟨(ad294.add ((x25_4).toNat * 2)).block, (ad294.add ((x25_4).toNat * 2)).off + 1, none⟩ = some (.int .i64 ((rd_T48 t290 x25_4).f1)) ∧ w'.cell? (ad295.add ((x25_4).toNat * 2)) = some (.int .i64 ((rd_T48 t286 x25_4).f0)) ∧ w'.cell? ⟨(ad295.add ((x25_4).toNat * 2)).block, (ad295.add ((x25_4).toNat * 2)).off + 1, none⟩ = some (.int .i64 ((rd_T48 t286 x25_4).f1))) (ds := []) #[false, false, false, false, false, false, false, false, false, false, false, false, false, false, false, false, false, false, false, false, false, false, false, false] (by kernel_rfl) rfl rfl ⟨hx294_0, hx294_1, hx295_0, hx295_1, hx296_0, hx296_1, hx297_0, hx297_1⟩ (fun hHeld => ?_); refine with_tabW tl_CamMore.tab16 tl_CamMore.bits16 (fun HT_ HW_ => ?_)
                  generalize wr.drew = w95 at HO_21 HO_23 BK260 BK267 HB hx294_0 hx294_1 hx295_0 hx295_1 hx296_0 hx296_1 hx297_0 hx297_1 hHeld ⊢
                  refine pure_ (i := 0) (N := some 192) (v := ?_) (a' := ?_) #[true, false, false, false, false, false, false, false, false, false, false, false, false, false, false, false, false, false, false, false, false, false, false, false] rfl rfl (any_of HT_.out (by kernel_rfl)) (fun _ _ _ h => h) (Or.inl ⟨by rfl, ?_⟩) ?_ ?_
                  rotate_left
                  ·
                   intro w'
                   go_simp
                   with_reducible rfl
                  rotate_left
                  ·
                   simp only [Act.put, List.setIfInBounds_toArray, List.set_cons_zero, List.set_cons_succ, i64_w, i32_w]
                   rfl
                  refine pure_ (i := 1) (N := some 193) (v := ?_) (a' := ?_) #[true, true, false, false, false, false, false, false, false, false, false, false, false, false, false, false, false, false, false, false, false, false, false, false] rfl rfl (any_of HT_.out (by kernel_rfl)) (fun _ _ _ h => h) (Or.inl ⟨by rfl, ?_⟩) ?_ ?_
                  rotate_left
                  ·
                   intro w'
                   go_simp
                   with_reducible rfl
                  rotate_left
                  ·
                   simp only [Act.put, List.setIfInBounds_toArray, List.set_cons_zero, List.set_cons_succ, i64_w, i32_w]
                   rfl
                  refine pure_ (i := 2) (N := some 194) (v := ?_) (a' := ?_) #[true, true, true, false, false, false, false, false, false, false, false, false, false, false, false, false, false, false, false, false, false, false, false, false] rfl rfl (any_of HT_.out (by kernel_rfl)) (fun _ _ _ h => h) (Or.inl ⟨by rfl, ?_⟩) ?_ ?_
                  rotate_left
                  ·
                   intro w'
                   go_simp
                   with_reducible rfl
                  rotate_left
                  ·
                   simp only [Act.put, List.setIfInBounds_toArray, List.set_cons_zero, List.set_cons_succ, i64_w, i32_w]
                   rfl
                  refine pure_ (i := 3) (N := some 195) (v := ?_) (a' := ?_) #[true, true, true, true, false, false, false, false, false, false, false, false, false, false, false, false, false, false, false, false, false, false, false, false] rfl rfl (any_of HT_.out (by kernel_rfl)) (fun _ _ _ h => h) (Or.inl ⟨by rfl, ?_⟩) ?_ ?_
                  rotate_left
                  ·
                   intro w'
                   go_simp
                   with_reducible rfl
                  rotate_left
                  ·
                   simp only [Act.put, List.setIfInBounds_toArray, List.set_cons_zero, List.set_cons_succ, i64_w, i32_w]
                   rfl
                  refine pure_ (i := 5) (N := some 197) (v := ?_) (a' := ?_) #[true, true, true, true, false, true, false, false, false, false, false, false, false, false, false, false, false, false, false, false, false, false, false, false] rfl rfl (any_of HT_.out (by kernel_rfl)) (fun _ _ _ h => h) (Or.inl ⟨by rfl, ?_⟩) ?_ ?_
                  rotate_left
                  ·
                   intro w'
                   go_simp
                   with_reducible rfl
                  rotate_left
                  ·
                   simp only [Act.put, List.setIfInBounds_toArray, List.set_cons_zero, List.set_cons_succ, i64_w, i32_w]
                   rfl
                  refine pure_ (i := 6) (N := some 198) (v := ?_) (a' := ?_) #[true, true, true, true, false, true, true, false, false, false, false, false, false, false, false, false, false, false, false, false, false, false, false, false] rfl rfl (any_of HT_.out (by kernel_rfl)) (fun _ _ _ h => h) (Or.inl ⟨by rfl, ?_⟩) ?_ ?_
                  rotate_left
                  ·
                   intro w'
                   go_simp
                   with_reducible rfl
                  rotate_left
                  ·
                   simp only [Act.put, List.setIfInBounds_toArray, List.set_cons_zero, List.set_cons_succ, i64_w, i32_w]
                   rfl
                  refine pure_ (i := 7) (N := some 199) (v := ?_) (a' := ?_) #[true, true, true, true, false, true, true, true, false, false, false, false, false, false, false, false, false, false, false, false, false, false, false, false] rfl rfl (any_of HT_.out (by kernel_rfl)) (fun _ _ _ h => h) (Or.inl ⟨by rfl, ?_⟩) ?_ ?_
                  rotate_left
                  ·
                   intro w'
                   go_simp
                   with_reducible rfl
                  rotate_left
                  ·
                   simp only [Act.put, List.setIfInBounds_toArray, List.set_cons_zero, List.set_cons_succ, i64_w, i32_w]
                   rfl
                  refine pure_ (i := 8) (N := some 200) (v := ?_) (a' := ?_) #[true, true, true, true, false, true, true, true, true, false, false, false, false, false, false, false, false, false, false, false, false, false, false, false] rfl rfl (any_of HT_.out (by kernel_rfl)) (fun _ _ _ h => h) (Or.inl ⟨by rfl, ?_⟩) ?_ ?_
                  rotate_left
                  ·
                   intro w'
                   go_simp
                   with_reducible rfl
                  rotate_left
                  ·
                   simp only [Act.put, List.setIfInBounds_toArray, List.set_cons_zero, List.set_cons_succ, i64_w, i32_w]
                   rfl
                  refine take_ (i := 4) (N := some 196) (v := ?_) (a' := ?_) #[true, true, true, true, true, true, true, true, true, false, false, false, false, false, false, false, false, false, false, false, false, false, false, false] rfl rfl (take_ofW HT_.out HW_.out (by kernel_rfl)) (fun _ _ _ h => h) (Or.inl ⟨by rfl, ?_⟩) hHeld ?_ ?_
                  rotate_left
                  ·
                   rintro w' ⟨s0, s1, s2, s3, s4, s5, s6, s7⟩
                   go_simp
                   with_reducible rfl
                  rotate_left
                  ·
                   simp only [Act.put, List.setIfInBounds_toArray, List.set_cons_zero, List.set_cons_succ, i64_w, i32_w]
                   rfl
                  refine take_ (i := 9) (N := some 201) (v := ?_) (a' := ?_) #[true, true, true, true, true, true, true, true, true, true, false, false, false, false, false, false, false, false, false, false, false, false, false, false] rfl rfl (take_ofW HT_.out HW_.out (by kernel_rfl)) (fun _ _ _ h => h) (Or.inl ⟨by rfl, ?_⟩) hHeld ?_ ?_
                  rotate_left
                  ·
                   rintro w' ⟨s0, s1, s2, s3, s4, s5, s6, s7⟩
                   go_simp
                   with_reducible rfl
                  rotate_left
                  ·
                   simp only [Act.put, List.setIfInBounds_toArray, List.set_cons_zero, List.set_cons_succ, i64_w, i32_w]
                   rfl
                  refine pure_ (i := 10) (N := some 202) (v := ?_) (a' := ?_) #[true, true, true, true, true, true, true, true, true, true, true, false, false, false, false, false, false, false, false, false, false, false, false, false] rfl rfl (any_of HT_.out (by kernel_rfl)) (fun _ _ _ h => h) (Or.inl ⟨by rfl, ?_⟩) ?_ ?_
                  rotate_left
                  ·
                   intro w'
                   go_simp
                   with_reducible rfl
                  rotate_left
                  ·
                   simp only [Act.put, List.setIfInBounds_toArray, List.set_cons_zero, List.set_cons_succ, i64_w, i32_w]
                   rfl
                  refine pure_ (i := 11) (N := some 203) (v := ?_) (a' := ?_) #[true, true, true, true, true, true, true, true, true, true, true, true, false, false, false, false, false, false, false, false, false, false, false, false] rfl rfl (any_of HT_.out (by kernel_rfl)) (fun _ _ _ h => h) (Or.inl ⟨by rfl, ?_⟩) ?_ ?_
                  rotate_left
                  ·
                   intro w'
                   go_simp
                   with_reducible rfl
                  rotate_left
                  ·
                   simp only [Act.put, List.setIfInBounds_toArray, List.set_cons_zero, List.set_cons_succ, i64_w, i32_w]
                   rfl
                  refine pure_ (i := 12) (N := some 204) (v := ?_) (a' := ?_) #[true, true, true, true, true, true, true, true, true, true, true, true, true, false, false, false, false, false, false, false, false, false, false, false] rfl rfl (any_of HT_.out (by kernel_rfl)) (fun _ _ _ h => h) (Or.inl ⟨by rfl, ?_⟩) ?_ ?_
                  rotate_left
                  ·
                   intro w'
                   go_simp
                   with_reducible rfl
                  rotate_left
                  ·
                   simp only [Act.put, List.setIfInBounds_toArray, List.set_cons_zero, List.set_cons_succ, i64_w, i32_w]
                   rfl
                  refine pure_ (i := 13) (N := some 205) (v := ?_) (a' := ?_) #[true, true, true, true, true, true, true, true, true, true, true, true, true, true, false, false, false, false, false, false, false, false, false, false] rfl rfl (any_of HT_.out (by kernel_rfl)) (fun _ _ _ h => h) (Or.inl ⟨by rfl, ?_⟩) ?_ ?_
                  rotate_left
                  ·
                   intro w'
                   go_simp
                   with_reducible rfl
                  rotate_left
                  ·
                   simp only [Act.put, List.setIfInBounds_toArray, List.set_cons_zero, List.set_cons_succ, i64_w, i32_w]
                   rfl
                  refine pure_ (i := 14) (N := some 206) (v := ?_) (a' := ?_) #[true, true, true, true, true, true, true, true, true, true, true, true, true, true, true, false, false, false, false, false, false, false, false, false] rfl rfl (any_of HT_.out (by kernel_rfl)) (fun _ _ _ h => h) (Or.inl ⟨by rfl, ?_⟩) ?_ ?_
                  rotate_left
                  ·
                   intro w'
                   go_simp
                   with_reducible rfl
                  rotate_left
                  ·
                   simp only [Act.put, List.setIfInBounds_toArray, List.set_cons_zero, List.set_cons_succ, i64_w, i32_w]
                   rfl
                  refine pure_ (i := 15) (N := some 207) (v := ?_) (a' := ?_) #[true, true, true, true, true, true, true, true, true, true, true, true, true, true, true, true, false, false, false, false, false, false, false, false] rfl rfl (any_of HT_.out (by kernel_rfl)) (fun _ _ _ h => h) (Or.inl ⟨by rfl, ?_⟩) ?_ ?_
                  rotate_left
                  ·
                   intro w'
                   go_simp
                   with_reducible rfl
                  rotate_left
                  ·
                   simp only [Act.put, List.setIfInBounds_toArray, List.set_cons_zero, List.set_cons_succ, i64_w, i32_w]
                   rfl
                  refine pure_ (i := 17) (N := some 209) (v := ?_) (a' := ?_) #[true, true, true, true, true, true, true, true, true, true, true, true, true, true, true, true, false, true, false, false, false, false, false, false] rfl rfl (any_of HT_.out (by kernel_rfl)) (fun _ _ _ h => h) (Or.inl ⟨by rfl, ?_⟩) ?_ ?_
                  rotate_left
                  ·
                   intro w'
                   go_simp
                   with_reducible rfl
                  rotate_left
                  ·
                   simp only [Act.put, List.setIfInBounds_toArray, List.set_cons_zero, List.set_cons_succ, i64_w, i32_w]
                   rfl
                  refine pure_ (i := 18) (N := some 210) (v := ?_) (a' := ?_) #[true, true, true, true, true, true, true, true, true, true, true, true, true, true, true, true, false, true, true, false, false, false, false, false] rfl rfl (any_of HT_.out (by kernel_rfl)) (fun _ _ _ h => h) (Or.inl ⟨by rfl, ?_⟩) ?_ ?_
                  rotate_left
                  ·
                   intro w'
                   go_simp
                   with_reducible rfl
                  rotate_left
                  ·
                   simp only [Act.put, List.setIfInBounds_toArray, List.set_cons_zero, List.set_cons_succ, i64_w, i32_w]
                   rfl
                  refine pure_ (i := 19) (N := some 211) (v := ?_) (a' := ?_) #[true, true, true, true, true, true, true, true, true, true, true, true, true, true, true, true, false, true, true, true, false, false, false, false] rfl rfl (any_of HT_.out (by kernel_rfl)) (fun _ _ _ h => h) (Or.inl ⟨by rfl, ?_⟩) ?_ ?_
                  rotate_left
                  ·
                   intro w'
                   go_simp
                   with_reducible rfl
                  rotate_left
                  ·
                   simp only [Act.put, List.setIfInBounds_toArray, List.set_cons_zero, List.set_cons_succ, i64_w, i32_w]
                   rfl
                  refine pure_ (i := 20) (N := some 212) (v := ?_) (a' := ?_) #[true, true, true, true, true, true, true, true, true, true, true, true, true, true, true, true, false, true, true, true, true, false, false, false] rfl rfl (any_of HT_.out (by kernel_rfl)) (fun _ _ _ h => h) (Or.inl ⟨by rfl, ?_⟩) ?_ ?_
                  rotate_left
                  ·
                   intro w'
                   go_simp
                   with_reducible rfl
                  rotate_left
                  ·
                   simp only [Act.put, List.setIfInBounds_toArray, List.set_cons_zero, List.set_cons_succ, i64_w, i32_w]
                   rfl
                  refine take_ (i := 16) (N := some 208) (v := ?_) (a' := ?_) #[true, true, true, true, true, true, true, true, true, true, true, true, true, true, true, true, true, true, true, true, true, false, false, false] rfl rfl (take_ofW HT_.out HW_.out (by kernel_rfl)) (fun _ _ _ h => h) (Or.inl ⟨by rfl, ?_⟩) hHeld ?_ ?_
                  rotate_left
                  ·
                   rintro w' ⟨s0, s1, s2, s3, s4, s5, s6, s7⟩
                   go_simp
                   with_reducible rfl
                  rotate_left
                  ·
                   simp only [Act.put, List.setIfInBounds_toArray, List.set_cons_zero, List.set_cons_succ, i64_w, i32_w]
                   rfl
                  refine take_ (i := 21) (N := some 213) (v := ?_) (a' := ?_) #[true, true, true, true, true, true, true, true, true, true, true, true, true, true, true, true, true, true, true, true, true, true, false, false] rfl rfl (take_ofW HT_.out HW_.out (by kernel_rfl)) (fun _ _ _ h => h) (Or.inl ⟨by rfl, ?_⟩) hHeld ?_ ?_
                  rotate_left
                  ·
                   rintro w' ⟨s0, s1, s2, s3, s4, s5, s6, s7⟩
                   go_simp
                   with_reducible rfl
                  rotate_left
                  ·
                   simp only [Act.put, List.setIfInBounds_toArray, List.set_cons_zero, List.set_cons_succ, i64_w, i32_w]
                   rfl
                  refine pure_ (i := 22) (N := some 214) (v := ?_) (a' := ?_) #[true, true, true, true, true, true, true, true, true, true, true, true, true, true, true, true, true, true, true, true, true, true, true, false] rfl rfl (any_of HT_.out (by kernel_rfl)) (fun _ _ _ h => h) (Or.inl ⟨by rfl, ?_⟩) ?_ ?_
                  rotate_left
                  ·
                   intro w'
                   go_simp
                   with_reducible rfl
                  rotate_left
                  ·
                   simp only [Act.put, List.setIfInBounds_toArray, List.set_cons_zero, List.set_cons_succ, i64_w, i32_w]
                   rfl
                  refine pure_ (i := 23) (N := some 215) (v := ?_) (a' := ?_) #[true, true, true, true, true, true, true, true, true, true, true, true, true, true, true, true, true, true, true, true, true, true, true, true] rfl rfl (any_of HT_.out (by kernel_rfl)) (fun _ _ _ h => h) (Or.inl ⟨by rfl, ?_⟩) ?_ ?_
                  rotate_left
                  ·
                   intro w'
                   go_simp
                   with_reducible rfl
                  rotate_left
                  ·
                   simp only [Act.put, List.setIfInBounds_toArray, List.set_cons_zero, List.set_cons_succ, i64_w, i32_w]
                   rfl
                  refine done_ (done_of HT_.out (by kernel_rfl)) ?_
                  try go_wp2
                  go_roundg k4
                  case measure => have := HJ5.out; have := HJ45.out; have := HJ65.out; have := HK4.out; omega
                  case rel => exact ⟨(wrap64 (x25_4 + 1)), (by first | rfl | (simp; done) | (simp [*]; done)), H', ⟨by have := HJ5.out; have := HJ45.out; have := HJ65.out; have := HK4.out; omega⟩, ⟨by (with_reducible repeat (first | apply Kd.R_alloc | apply Kd.R_drewN | apply Kd.R_drew)); exact HO_21.out⟩, ⟨by (with_reducible repeat (first | apply Kd.R_alloc | apply Kd.R_drewN | apply Kd.R_drew)); exact HO_23.out⟩, ⟨by (with_reducible repeat (first | refine blk_drewN ?_ _ | refine blk_drew ?_ | refine blk_alloc ?_ _)); exact BK260.out⟩, ⟨by (with_reducible repeat (first | refine blk_drewN ?_ _ | refine blk_drew ?_ | refine blk_alloc ?_ _)); exact BK267.out⟩, ⟨by repeat (first | (with_reducible first | exact HB.out | apply below_alloc | apply pw_below_drewN | apply below_drew1 | refine below_set ?_ GE260.out | refine below_set ?_ GE267.out) | exact HB.out)⟩⟩
              ·
               rw [if_neg c85] at H
               exact absurd H (by simp)
             ·
              rw [if_neg c84] at H
              exact absurd H (by simp)
            ·
             rw [if_neg c83] at H
             have c83b0 : decide (x25_4 < (t286.length : Int)) = false := decide_eq_false c83
             clear c83
             replace H := Option.bind_eq_some_iff.mp H
             obtain ⟨t298, A970, H⟩ := H
             replace H : (some t298) = some r := H
             have A97 := Aside0.mk A970
             clear A970
             as_aux_lemma =>
              obtain rfl := Option.some.inj H
              obtain ⟨Ao98, co98, eo98⟩ := Kd.R_slice HO_21.out
              subst eo98
              go_wp2_with (first | ((with_reducible refine gate_callee (f := 11) rfl ?_); refine goesL_ (some 216) rfl rfl Tryz.func11 (by kernel_rfl) rfl #[] rfl (by (try simp only [List.map_toArray, List.map_cons, List.map_nil]); first | done | rfl | (simp only [List.length_drop, List.length_take]; rfl)) ?_; (with_reducible refine (tellurionlaw04_known.calls  t298 _ A97.out).mono ?_); rintro e w99 ⟨rfl, hb⟩; refine ⟨_, rfl, ?_⟩; have n0_ := Aside0.mk (Kd.R_below (by (with_reducible repeat (first | apply Kd.R_alloc | apply Kd.R_drewN | apply Kd.R_drew)); exact HO_21.out) hb); have n1_ := Aside0.mk (Kd.R_below (by (with_reducible repeat (first | apply Kd.R_alloc | apply Kd.R_drewN | apply Kd.R_drew)); exact HO_23.out) hb); have n2_ := Aside0.mk (blk_below (g := gb260) (o := .cells #[.int .i64 a0_0, .int .i64 a0_1, .int .i64 a0_2, .int .i64 a0_3] 35 (0, 0)) (by (with_reducible repeat (first | refine blk_drewN ?_ _ | refine blk_drew ?_ | refine blk_alloc ?_ _)); exact BK260.out) hb); have n3_ := Aside0.mk (blk_below (g := gb267) (o := .cells #[.int .i64 ji38, .int .i64 ji39, .int .i64 ji40, .int .i64 ji41] 35 (0, 0)) (by (with_reducible repeat (first | refine blk_drewN ?_ _ | refine blk_drew ?_ | refine blk_alloc ?_ _)); exact BK267.out) hb); have n4_ := Aside0.mk (below_step (by repeat (first | (with_reducible first | exact HB.out | apply below_alloc | apply pw_below_drewN | apply below_drew1 | refine below_set ?_ GE260.out | refine below_set ?_ GE267.out) | exact HB.out)) hb); clear HO_21; clear HO_23; clear BK260; clear BK267; clear HB; have HO_21 := n0_; have HO_23 := n1_; have BK260 := n2_; have BK267 := n3_; have HB := n4_; clear n0_ n1_ n2_ n3_ n4_; (try clear hb); (try clear hb2); (try clear hk); (try clear hi)))
              go_ret
              exact ⟨by first | rfl | (simp [errW_none, errW_some] <;> rfl) | (simp only [← hji38, ← hji39, ← hji40, ← hji41]; first | rfl | (simp [errW_none, errW_some] <;> rfl)) | (simp [*, errW_none, errW_some] <;> rfl), by repeat (first | (with_reducible first | exact HB.out | apply below_alloc | apply pw_below_drewN | apply below_drew1 | refine below_set ?_ GE260.out | refine below_set ?_ GE267.out) | exact HB.out)⟩
end Go.Proofs.YtbjimmemcmjpcabGreatDoor.Print
end
section
namespace Go.Proofs.YtbjimmemcmjpcabGreatDoor.Print
open Go.RowKit YtbjimmemcmjpcabGreatDoorW.PrintWords YtbjimmemcmjpcabGreatDoorW.PrintLast YtbjimmemcmjpcabGreatDoorW.PrintMore
theorem more_l0 (A B : List SP) (hl : A.length ≤ 1000) (h : ∀ j : Nat, j < A.length → j < B.length ∧ (rd_T48 B (j : Int)).f0 ≤ (rd_T48 A (j : Int)).f0 ∧ (rd_T48 A (j : Int)).f1 ≤ (rd_T48 B (j : Int)).f1) : ∀ (q i : Nat), i + q = A.length → Ev (fun k => tl_CamMore.l0 k A B (i : Int)) true
 | 0, i, hi => by
  refine Ev.step (f := fun _ => some true) (fun k => ?_) (Ev.now _)
  rw [tl_CamMore.l0, if_neg (by omega)]; rfl
 | q + 1, i, hi => by
  have hj := h i (by omega)
  refine Ev.step (fun k => ?_) (more_l0 A B hl h q (i + 1) (by omega))
  rw [tl_CamMore.l0, if_pos (by omega), if_pos (by omega), if_pos (by omega), if_neg (by omega), if_neg (by omega), w64 _ (by omega)]
  rfl
theorem more_eval (K : Nat) (lw hg sl ch m b : Int) (w t l0 l1 l2 : List Int) (G : List GA) (A B : List SP) (n n1 eA eB lw' hg' sl' ch' : Int) (hs0 : (w.length : Int) ≤ 27) (hs1 : (G.length : Int) ≤ 11) (c1 : ruleB lw hg sl ch = true) (c2 : ¬ m < 0) (c3 : ¬ m > 30) (c4 : ¬ b < 0) (c5 : ¬ b ≥ (w.length : Int))
  (x1 : mx 0 (wrap64 (lw - m)) = lw') (x2 : mn 30 (wrap64 (hg + m)) = hg') (x3 : mn 30 (wrap64 (sl + m)) = sl') (x4 : mn 24 (wrap64 (ch + m)) = ch')
  (e1 : tr_Cam.f (K + 3) w = some true) (e2 : tr_Gauges.f (K + 3) (w.length : Int) G = some true) (f1 : cam_Nearest.f lw hg sl ch w = some (l0, n, 0)) (f2 : cam_Nearest.f lw' hg' sl' ch' w = some (l1, n1, 0)) (e3 : tr_Turn.f (K + 2) w b = some t) (f3 : cam_Nearest.f lw hg sl ch t = some (l2, n, 0)) (hn : n1 ≤ n)
  (f4 : cam_Known.f lw hg sl ch (w.length : Int) G = some (A, eA)) (f5 : cam_Known.f lw' hg' sl' ch' (w.length : Int) G = some (B, eB)) (hA : eA = 0 ∨ eA = 7) (hB : eB = 0 ∨ eB = 7) (hAB : eA = 0 → eB = 0 ∧ (A.length : Int) = (w.length : Int) ∧ (B.length : Int) = (w.length : Int)) (e4 : tl_CamMore.l0 K A B 0 = some true) : tl_CamMore.f (K + 3) lw hg sl ch w m b G = some true := by
 have j2 : tl_CamMore.j2 (K + 1) A B false = some true := by
  rw [tl_CamMore.j2, if_neg (by simp), e4]
 have j1 : tl_CamMore.j1 (K + 2) w G false lw hg sl ch lw' hg' sl' ch' = some true := by
  rw [tl_CamMore.j1, if_neg (by simp), f4, f5]
  simp only [Option.bind_some]
  rcases hA with rfl | rfl
  ·
   obtain ⟨rfl, h1, h2⟩ := hAB rfl
   rw [if_pos rfl, if_pos rfl, if_pos h1, h2, bne_self_eq_false, j2]
  ·
   rw [if_neg (by decide), if_pos rfl]
   rcases hB with rfl | rfl
   ·
    rw [if_pos rfl, j2]
   ·
    rw [if_neg (by decide), if_pos rfl, j2]
 unfold tl_CamMore.f tl_short.f tl_many.f
 simp only [Option.bind_some, hs0, hs1, decide_true, if_true, refRule_f, c1, e1, c2, c3, c4, c5, if_false, e2, Bool.not_true]
 rw [tl_CamMore.j0, if_neg (by simp), x1, x2, x3, x4, f1, f2]
 simp only [Option.bind_some, e3, f3, if_true, bne_self_eq_false]
 rw [if_neg (by omega), j1]
theorem camMore_pure (lw hg sl ch : Int) (w : List Int) (m b : Int) (G : List GA) (h0 : (Lit.int .i64 lw).wf = true) (h1 : (Lit.int .i64 hg).wf = true) (h2 : (Lit.int .i64 sl).wf = true) (h3 : (Lit.int .i64 ch).wf = true) (hm : w.length ≤ maxLen) (hw : ∀ x ∈ w, (Lit.int .i64 x).wf = true)
  (h4 : (Lit.int .i64 m).wf = true) (h5 : (Lit.int .i64 b).wf = true) (h6 : G.length ≤ maxLen) (h7 : ∀ x ∈ G, (Lit.int .i64 x.f0).wf = true ∧ (Lit.int .i64 x.f1).wf = true ∧ (Lit.int .i64 x.f2).wf = true) : ∃ k, tl_CamMore.f k lw hg sl ch w m b G = some true := by
 clear h0 h1 h2 h3 hm hw h4 h5 h6 h7
 have ej : ∀ k, tl_CamMore.j0 (k + 1) w m b G true lw hg sl ch = some true := fun k => by simp only [tl_CamMore.j0, if_true, tellurionlaw04_known.f, Option.bind_some]
 by_cases hs0 : (w.length : Int) ≤ 27
 case neg => exact ⟨1, by unfold tl_CamMore.f tl_short.f; simp only [Option.bind_some, hs0, decide_false, Bool.false_eq_true, if_false, ej 0]⟩
 by_cases hs1 : (G.length : Int) ≤ 11
 case neg => exact ⟨1, by unfold tl_CamMore.f tl_short.f tl_many.f; simp only [Option.bind_some, hs0, hs1, decide_false, decide_true, Bool.false_eq_true, if_true, if_false, ej 0]⟩
 obtain ⟨K1, h1⟩ := evR_cam w (by omega)
 obtain ⟨K2, h2⟩ := evR_gauges (w.length : Int) (by omega) G (by omega)
 by_cases g : ruleB lw hg sl ch = true ∧ isCamB w = true ∧ ¬ m < 0 ∧ ¬ m > 30 ∧ ¬ b < 0 ∧ ¬ b ≥ (w.length : Int) ∧ gaugesB (w.length : Int) G = true
 case neg =>
  refine ⟨K1 + K2 + 1, ?_⟩
  have e1 := h1 (K1 + K2 + 1) (by omega)
  have e2 := h2 (K1 + K2 + 1) (by omega)
  simp only [] at e1 e2
  have e3 := ej (K1 + K2)
  unfold tl_CamMore.f tl_short.f tl_many.f
  simp only [Option.bind_some, hs0, hs1, decide_true, if_true, e1, refRule_f]
  cases c1 : ruleB lw hg sl ch with
  | false => simp only [Bool.false_eq_true, if_false, e3]
  | true =>
   cases c2 : isCamB w with
   | false => simp only [Bool.false_eq_true, if_false, if_true, e3]
   | true =>
    by_cases c3 : m < 0
    ·
     simp only [if_true, c3, e3]
    ·
     by_cases c4 : m > 30
     ·
      simp only [if_true, c3, if_false, c4, e3]
     ·
      by_cases c5 : b < 0
      ·
       simp only [if_true, c3, if_false, c4, c5, e3]
      ·
       by_cases c6 : b ≥ (w.length : Int)
       ·
        simp only [if_true, c3, if_false, c4, c5, c6, e3]
       ·
        cases c7 : gaugesB (w.length : Int) G with
        | false =>
         rw [c7] at e2
         simp only [if_true, c3, if_false, c4, c5, c6, e2, Option.bind_some, Bool.not_false, e3]
        | true => exact absurd ⟨c1, c2, c3, c4, c5, c6, c7⟩ g
 obtain ⟨c1, c2, c3, c4, c5, c6, c7⟩ := g
 obtain ⟨hl, hb⟩ : (3 ≤ w.length ∧ w.length ≤ 24) ∧ ∀ k, k < w.length → 0 ≤ atM w k ∧ atM w k ≤ 30 := by
  have hb : 3 ≤ w.length ∧ w.length ≤ 24 := by simp only [isCamB, Bool.and_eq_true, decide_eq_true_eq] at c2; exact c2.1
  exact ⟨hb, fun k hk => by rw [← rd_atM]; exact isCam_rd c2 k hk⟩
 have hrb := rule_bd c1
 obtain ⟨bn, rfl⟩ := Int.eq_ofNat_of_zero_le (show 0 ≤ b by omega)
 have x1 : mx 0 (wrap64 (lw - m)) = max 0 (lw - m) := by rw [w64 _ (by omega)]; unfold mx; split <;> omega
 have x2 : mn 30 (wrap64 (hg + m)) = min 30 (hg + m) := by rw [w64 _ (by omega)]; unfold mn; split <;> omega
 have x3 : mn 30 (wrap64 (sl + m)) = min 30 (sl + m) := by rw [w64 _ (by omega)]; unfold mn; split <;> omega
 have x4 : mn 24 (wrap64 (ch + m)) = min 24 (ch + m) := by rw [w64 _ (by omega)]; unfold mn; split <;> omega
 have y : (max 0 (lw - m) ≤ lw ∧ hg ≤ min 30 (hg + m) ∧ sl ≤ min 30 (sl + m) ∧ ch ≤ min 24 (ch + m)) ∧ (0 ≤ max 0 (lw - m) ∧ max 0 (lw - m) ≤ min 30 (hg + m) ∧ min 30 (hg + m) ≤ 30 ∧ 0 ≤ min 30 (sl + m) ∧ min 30 (sl + m) ≤ 30 ∧ 0 ≤ min 24 (ch + m) ∧ min 24 (ch + m) ≤ 24) := by omega
 generalize max 0 (lw - m) = lw' at x1 y
 generalize min 30 (hg + m) = hg' at x2 y
 generalize min 30 (sl + m) = sl' at x3 y
 generalize min 24 (ch + m) = ch' at x4 y
 have c1' : ruleB lw' hg' sl' ch' = true := by unfold ruleB; exact decide_eq_true (by omega)
 have hrb' := rule_bd c1'
 have hwt : isCamB (turnL w (bn : Int)) = true := turn_cam w _ c2
 have hlt : (turnL w (bn : Int)).length = w.length := turn_len w _
 have hbt : ∀ k, k < (turnL w (bn : Int)).length → 0 ≤ atM (turnL w (bn : Int)) k ∧ atM (turnL w (bn : Int)) k ≤ 30 := fun k hk => by rw [← rd_atM]; exact isCam_rd hwt k hk
 obtain ⟨p1, p2, p3⟩ := near_least lw hg sl ch w ⟨hrb.1, hrb.2.1.1, hrb.2.2⟩ (by omega) hb
 obtain ⟨q1, q2, q3⟩ := near_least lw' hg' sl' ch' w ⟨hrb'.1, hrb'.2.1.1, hrb'.2.2⟩ (by omega) hb
 obtain ⟨r1, r2, r3⟩ := near_least lw hg sl ch (turnL w (bn : Int)) ⟨hrb.1, hrb.2.1.1, hrb.2.2⟩ (by omega) hbt
 have f1 : cam_Nearest.f lw hg sl ch w = some ((nearR lw hg sl ch w (bsN lw hg sl ch w 31 0 30)).getD [], bsN lw hg sl ch w 31 0 30, 0) := by unfold cam_Nearest.f; rw [if_pos ⟨c1, c2⟩]
 have f2 : cam_Nearest.f lw' hg' sl' ch' w = some ((nearR lw' hg' sl' ch' w (bsN lw' hg' sl' ch' w 31 0 30)).getD [], bsN lw' hg' sl' ch' w 31 0 30, 0) := by unfold cam_Nearest.f; rw [if_pos ⟨c1', c2⟩]
 have f3 : cam_Nearest.f lw hg sl ch (turnL w (bn : Int)) = some ((nearR lw hg sl ch (turnL w (bn : Int)) (bsN lw hg sl ch (turnL w (bn : Int)) 31 0 30)).getD [], bsN lw hg sl ch (turnL w (bn : Int)) 31 0 30, 0) := by unfold cam_Nearest.f; rw [if_pos ⟨c1, hwt⟩]
 have hsame : bsN lw hg sl ch (turnL w (bn : Int)) 31 0 30 = bsN lw hg sl ch w 31 0 30 := by
  refine IsLeast.unique r1 ?_
  exact ⟨(near_turn_iff lw hg sl ch _ w (by omega) bn (by omega)).2 p1.1, fun x hx h => p1.2 x hx ((near_turn_iff lw hg sl ch _ w (by omega) bn (by omega)).1 h)⟩
 rw [hsame] at f3
 have hmono : bsN lw' hg' sl' ch' w 31 0 30 ≤ bsN lw hg sl ch w 31 0 30 := by
  by_cases hc : bsN lw hg sl ch w 31 0 30 < bsN lw' hg' sl' ch' w 31 0 30
  ·
   obtain ⟨l, hl'⟩ := p1.1
   exact absurd ⟨l, hl'.mono (fun k _ => by unfold loE; omega) (fun k _ => by unfold hiE; omega) (by omega) (by omega)⟩ (q1.2 _ hc)
  ·
   omega
 generalize (nearR lw hg sl ch w (bsN lw hg sl ch w 31 0 30)).getD [] = l0 at f1
 generalize (nearR lw' hg' sl' ch' w (bsN lw' hg' sl' ch' w 31 0 30)).getD [] = l1 at f2
 generalize (nearR lw hg sl ch (turnL w (bn : Int)) (bsN lw hg sl ch w 31 0 30)).getD [] = l2 at f3
 generalize bsN lw hg sl ch w 31 0 30 = n at f1 f3 hmono
 generalize bsN lw' hg' sl' ch' w 31 0 30 = n1 at f2 hmono
 have hga : G.length ≤ 8 ∧ G.all (gOK (w.length : Int)) = true := by
  have h := c7
  simp only [gaugesB, Bool.and_eq_true, decide_eq_true_eq] at h
  exact ⟨h.2, h.1⟩
 have kA := cam_Known_is (a := (w.length : Int)) c1 (by omega) hga.1 hga.2
 have kB := cam_Known_is (a := (w.length : Int)) c1' (by omega) hga.1 hga.2
 rw [Int.toNat_natCast] at kA kB
 have htr : ∀ l, Truth lw hg sl ch w.length G l → Truth lw' hg' sl' ch' w.length G l := fun l h => ⟨h.1.mono (fun k _ => by omega) (fun k _ => by omega) (by omega) (by omega), h.2⟩
 obtain ⟨A, eA, B, eB, g1, g2, g3, g4, g5, hloop⟩ : ∃ A eA B eB, cam_Known.f lw hg sl ch (w.length : Int) G = some (A, eA) ∧ cam_Known.f lw' hg' sl' ch' (w.length : Int) G = some (B, eB) ∧ (eA = 0 ∨ eA = 7) ∧ (eB = 0 ∨ eB = 7) ∧ (eA = 0 → eB = 0 ∧ A.length = w.length ∧ B.length = w.length) ∧ Ev (fun k => tl_CamMore.l0 k A B 0) true := by
  rcases kA with ⟨A, a1, a2, a3, a4⟩ | ⟨a1, a2⟩
  ·
   rcases kB with ⟨B, b1, b2, b3, b4⟩ | ⟨b1, b2⟩
   ·
    refine ⟨A, 0, B, 0, a1, b1, .inl rfl, .inl rfl, fun _ => ⟨rfl, a2, b2⟩, more_l0 A B (by omega) (fun j hj => ⟨by omega, ?_⟩) A.length 0 (by omega)⟩
    obtain ⟨l, hl'⟩ := a3
    rcases a4 j (by omega) with ⟨_, e2⟩ | ⟨⟨la, ta, ea⟩, ⟨lb, tb, eb⟩, _⟩
    ·
     exact absurd ⟨l, hl', rfl⟩ (e2 (atM l j))
    ·
     rcases b4 j (by omega) with ⟨_, e2⟩ | ⟨_, _, e3⟩
     ·
      exact absurd ⟨l, htr l hl', rfl⟩ (e2 (atM l j))
     ·
      have k1 := e3 _ ⟨la, htr la ta, ea⟩
      have k2 := e3 _ ⟨lb, htr lb tb, eb⟩
      exact ⟨k1.1, k2.2⟩
   ·
    obtain ⟨l, hl'⟩ := a3
    exact absurd (htr l hl') (b2 l)
  ·
   rcases kB with ⟨B, b1, b2, b3, b4⟩ | ⟨b1, b2⟩
   ·
    exact ⟨[], 7, B, 0, a1, b1, .inr rfl, .inl rfl, fun h => absurd h (by decide), more_l0 [] B (by simp) (fun j hj => by simp at hj) 0 0 rfl⟩
   ·
    exact ⟨[], 7, [], 7, a1, b1, .inr rfl, .inr rfl, fun h => absurd h (by decide), more_l0 [] [] (by simp) (fun j hj => by simp at hj) 0 0 rfl⟩
 obtain ⟨K3, h3⟩ := evR_turn w (bn : Int) (by omega) (by omega)
 obtain ⟨K4, h4⟩ := hloop
 generalize hK : K1 + K2 + K3 + K4 = K
 have e1 := h1 (K + 3) (by omega)
 have e2 := h2 (K + 3) (by omega)
 have e3 := h3 (K + 2) (by omega)
 have e4 := h4 K (by omega)
 simp only [] at e1 e2 e3 e4
 rw [c2] at e1
 rw [c7] at e2
 exact ⟨K + 3, more_eval K lw hg sl ch m bn w (turnL w (bn : Int)) l0 l1 l2 G A B n n1 eA eB lw' hg' sl' ch' hs0 hs1 c1 c3 c4 c5 c6 x1 x2 x3 x4 e1 e2 f1 f2 e3 f3 hmono g1 g2 g3 g4 (fun h => ⟨(g5 h).1, by have := (g5 h).2.1; omega, by have := (g5 h).2.2; omega⟩) e4⟩
end Go.Proofs.YtbjimmemcmjpcabGreatDoor.Print
end

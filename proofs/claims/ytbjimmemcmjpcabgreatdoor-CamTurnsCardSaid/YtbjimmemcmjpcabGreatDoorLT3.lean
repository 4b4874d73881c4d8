/- The law's Go function answers true for every input, and leaves its arguments as they were: its parts, the plain law, the row, the card. Joined by wip/pack.py. -/
import Derived.Test.YtbjimmemcmjpcabGreatDoorLT2
import Derived.Test.YtbjimmemcmjpcabGreatDoorB19
import Derived.Test.YtbjimmemcmjpcabGreatDoorLT1
import Derived.Test.YtbjimmemcmjpcabGreatDoorB4
set_option linter.unusedVariables false
set_option linter.unusedSimpArgs false
set_option linter.unusedSectionVars false
section
namespace Go.Proofs.YtbjimmemcmjpcabGreatDoor.Print
open Go.RowKit YtbjimmemcmjpcabGreatDoorW.PrintWords YtbjimmemcmjpcabGreatDoorW.PrintLast YtbjimmemcmjpcabGreatDoorW.PrintMore
def isTimeB (n : Int) : Bool := decide (0 ≤ n) && decide (n ≤ 2000)
theorem isTime_f (n : Int) : cam_isTime.f n = some (isTimeB n) := by unfold cam_isTime.f; rw [in_f]; rfl
theorem refTime_f (n : Int) : tellurionref04_Time.f n = some (isTimeB n) := by unfold tellurionref04_Time.f; rw [refIn_f]; rfl
theorem refMotion_l (u : Int) (l : List Int) (hl : l.length ≤ 1000000000000) : ∀ (q j : Nat), j + q = l.length → Ev (fun k => tellurionref04_Motion.l0 k (j : Int) u l) ((decide (1 ≤ u ∧ u ≤ 50) && decide (3 ≤ l.length ∧ l.length ≤ 24)) && (l.drop j).all isO)
 | 0, j, h => by
  obtain rfl : j = l.length := by omega
  refine Ev.step (f := fun _ => some _) (fun k => ?_) (Ev.now _)
  rw [tellurionref04_Motion.l0, if_neg (by omega), refIn_f, refIn_f, List.drop_length]
  simp only [Option.bind_some, List.all_nil, Bool.and_true]
  by_cases h1 : 1 ≤ u <;> by_cases h2 : u ≤ 50 <;> by_cases h3 : 3 ≤ l.length <;> by_cases h4 : l.length ≤ 24 <;> simp [h1, h2, h3, h4] <;> omega
 | q + 1, j, h => by
  have hlt : j < l.length := by omega
  have hrd : rd l (j : Int) = l[j] := by simp [rd, List.getD_eq_getElem?_getD, hlt]
  rw [List.drop_eq_getElem_cons hlt, List.all_cons]
  have ih := refMotion_l u l hl q (j + 1) (by omega)
  cases hb : isO l[j] with
  | false =>
   refine Ev.step (f := fun _ => some _) (fun k => ?_) (Ev.now _)
   rw [tellurionref04_Motion.l0, if_pos (by omega), if_pos (by omega), refIn_f, hrd]
   simp only [Option.bind_some]
   rw [if_neg (by unfold isO at hb; rw [hb]; simp)]
   simp
  | true =>
   rw [Bool.true_and]
   refine Ev.step (fun k => ?_) ih
   rw [tellurionref04_Motion.l0, if_pos (by omega), if_pos (by omega), refIn_f, hrd]
   simp only [Option.bind_some]
   rw [if_pos (by unfold isO at hb; exact hb), w64 _ (by omega)]
   rfl
theorem evR_motion (u : Int) (l : List Int) (hl : l.length ≤ 1000000000000) : Ev (fun k => tellurionref04_Motion.f k u l) (isMotionB u l) := by
 have h := refMotion_l u l hl l.length 0 (by omega)
 rw [List.drop_zero] at h
 exact h
section
variable {u : Int} {l : List Int} (h : isMotionB u l = true)
include h
end
theorem time_bd {n : Int} (h : isTimeB n = true) : 0 ≤ n ∧ n ≤ 2000 := by simpa [isTimeB] using h
theorem mn_min' (a b : Int) : mn a b = min a b := by unfold mn; split <;> omega
theorem mx_max' (a b : Int) : mx a b = max a b := by unfold mx; split <;> omega
def isSpotB (n : Int) : Bool := decide (-200000 ≤ n) && decide (n ≤ 200000)
theorem refSpot_f (n : Int) : tellurionref04_Spot.f n = some (isSpotB n) := by unfold tellurionref04_Spot.f; rw [refIn_f]; rfl
theorem spot_bd {n : Int} (h : isSpotB n = true) : -200000 ≤ n ∧ n ≤ 200000 := by simpa [isSpotB] using h
def passB (u : Int) (l : List Int) (p t : Int) : Bool := decide (plc u l t = p ∨ (plc u l t < p ∧ p < plc u l (t + 1)) ∨ (plc u l (t + 1) < p ∧ p < plc u l t))
def passL (u : Int) (l : List Int) (p a b : Int) : List Int := (nums a (b + 1 - a).toNat).filter (passB u l p)
theorem passL_len (u : Int) (l : List Int) (p a b : Int) : (passL u l p a b).length ≤ (b + 1 - a).toNat := by
 unfold passL
 refine Nat.le_trans (List.length_filter_le _ _) ?_
 rw [nums_len]; exact Nat.le_refl _
theorem mem_passL {u : Int} {l : List Int} {p a b x : Int} : x ∈ passL u l p a b ↔ (a ≤ x ∧ x ≤ b) ∧ passB u l p x = true := by
 unfold passL
 rw [List.mem_filter, mem_nums]
 constructor
 ·
  rintro ⟨h1, h2⟩; exact ⟨by omega, h2⟩
 ·
  rintro ⟨h1, h2⟩; exact ⟨by omega, h2⟩
section
variable {u : Int} {l : List Int} (h : isMotionB u l = true)
include h
theorem camPasses_l (p b : Int) (hb : b ≤ 100000) : ∀ (d : Nat) (a : Int) (acc : List Int), 0 ≤ a → d = (b + 1 - a).toNat → acc.length + d ≤ 1000000 → Ev (fun k => cam_Passes.l0 k p acc (b + 1) a u l) (acc ++ (nums a d).filter (passB u l p), 0)
 | 0, a, acc, ha, hd, hc => by
  refine Ev.step (f := fun _ => some _) (fun k => ?_) (Ev.now _)
  rw [cam_Passes.l0, if_neg (by omega)]
  simp [nums]
 | d + 1, a, acc, ha, hd, hc => by
  have ih := fun acc' hc' => camPasses_l p b hb d (a + 1) acc' (by omega) (by omega) hc'
  have p1 := plc_bd h (t := a) (by omega) (by omega)
  have p2 := plc_bd h (t := a + 1) (by omega) (by omega)
  have e0 : wrap64 (a + 1) = a + 1 := w64 _ (by omega)
  have q1 := place_f h (t := a) (by omega) (by omega)
  have q2 := place_f h (t := a + 1) (by omega) (by omega)
  have hw : cam_within.f p (wrap64 ((mn (plc u l a) (plc u l (a + 1))) + 1)) (wrap64 ((mx (plc u l a) (plc u l (a + 1))) - 1)) = some (decide (min (plc u l a) (plc u l (a + 1)) + 1 ≤ p) && decide (p ≤ max (plc u l a) (plc u l (a + 1)) - 1)) := by
   unfold cam_within.f
   rw [mn_min', mx_max', w64 _ (by omega), w64 _ (by omega), in_f]; rfl
  rw [nums, List.filter_cons]
  cases hs : passB u l p a with
  | true =>
   have := ih (acc ++ [a]) (by simp; omega)
   rw [if_pos rfl, List.append_cons]
   refine Ev.step (fun k => ?_) this
   rw [cam_Passes.l0, if_pos (by omega), q1, Option.bind_some, e0, q2, Option.bind_some]
   simp only [passB, decide_eq_true_eq] at hs
   by_cases e1 : plc u l a = p
   ·
    rw [if_pos e1, if_pos (by omega)]
   ·
    rw [if_neg e1, hw, Option.bind_some, if_pos (by simp; omega), if_pos (by omega)]
  | false =>
   refine Ev.step (fun k => ?_) (ih acc (by omega))
   rw [cam_Passes.l0, if_pos (by omega), q1, Option.bind_some, e0, q2, Option.bind_some]
   simp only [passB, decide_eq_false_iff_not] at hs
   rw [if_neg (fun e => hs (.inl e)), hw, Option.bind_some, if_neg (by simp; omega)]
theorem evC_passes' (p b : Int) (h0 : 0 ≤ b) (hb : b ≤ 2000) : Ev (fun k => cam_Passes.l0 k p [] (wrap64 (b + 1)) 0 u l) (passL u l p 0 b, 0) := by
 have := camPasses_l h p b (by omega) (b + 1 - 0).toNat 0 [] (by omega) rfl (by simp; omega)
 rw [List.nil_append] at this
 rw [w64 _ (by omega)]
 exact this
end
theorem evC_passes (u : Int) (l : List Int) (p t : Int) : Ev (fun k => cam_Passes.f k u l p t) (if isMotionB u l = true ∧ isSpotB p = true ∧ isTimeB t = true then (passL u l p 0 t, 0) else ([], 2)) := by
 have hbad : Ev (fun k => cam_Passes.j0 k p t true u l) ([], 2) := by
  refine Ev.step (f := fun _ => some _) (fun k => ?_) (Ev.now _)
  rw [cam_Passes.j0, if_pos rfl]
 have hsp : cam_in.f p (-200000) 200000 = some (isSpotB p) := in_f _ _ _
 by_cases hm : isMotionB u l = true
 ·
  by_cases hp : isSpotB p = true
  ·
   by_cases ht : isTimeB t = true
   ·
    rw [if_pos ⟨hm, hp, ht⟩]
    have hb := time_bd ht
    have h3 : Ev (fun k => cam_Passes.j0 k p t false u l) (passL u l p 0 t, 0) := by
     refine Ev.step (fun k => ?_) (evC_passes' hm p t hb.1 hb.2)
     rw [cam_Passes.j0, if_neg (by simp)]
    refine Ev.congr (fun k => ?_) h3
    unfold cam_Passes.f
    simp only [isMotion_f, isTime_f, hsp, Option.bind_some, hm, hp, ht, if_true, Bool.not_true]
   ·
    rw [if_neg (fun h => ht h.2.2)]
    refine Ev.congr (fun k => ?_) hbad
    unfold cam_Passes.f
    simp only [isMotion_f, isTime_f, hsp, Option.bind_some, hm, hp, ht, if_true, Bool.not_false]
  ·
   rw [if_neg (fun h => hp h.2.1)]
   refine Ev.congr (fun k => ?_) hbad
   unfold cam_Passes.f
   simp only [isMotion_f, hsp, Option.bind_some, hm, hp, if_true, if_false, Bool.false_eq_true]
 ·
  rw [if_neg (fun h => hm h.1)]
  refine Ev.congr (fun k => ?_) hbad
  unfold cam_Passes.f
  simp only [isMotion_f, Option.bind_some, hm, if_false, Bool.false_eq_true]
theorem camPlace_f (u : Int) (l : List Int) (t : Int) : cam_Place.f u l t = some (if isMotionB u l = true ∧ isTimeB t = true then (plc u l t, 0) else (0, 2)) := by
 unfold cam_Place.f
 rw [isMotion_f, isTime_f]
 simp only [Option.bind_some]
 by_cases hm : isMotionB u l = true
 ·
  by_cases ht : isTimeB t = true
  ·
   have hb := time_bd ht
   simp only [hm, ht, if_true, place_f hm hb.1 (by omega), Option.bind_some, and_self]
  ·
   simp only [hm, ht, if_true, if_false, Bool.false_eq_true, and_false]
 ·
  simp only [hm, if_false, Bool.false_eq_true, false_and]
theorem plc_turn (u : Int) (l : List Int) (t : Int) : plc u l (t + (l.length : Int)) = plc u l t + (l.length : Int) * u := by
 unfold plc; rw [Int.add_emod_right, Int.add_mul]; omega
theorem passB_turn (u : Int) (l : List Int) (p t : Int) : passB u l (p + (l.length : Int) * u) (t + (l.length : Int)) = passB u l p t := by
 unfold passB
 rw [show t + (l.length : Int) + 1 = t + 1 + (l.length : Int) by omega, plc_turn, plc_turn]
 apply decide_eq_decide.2
 generalize plc u l t = a
 generalize plc u l (t + 1) = b
 generalize (l.length : Int) * u = z
 omega
theorem nums_add : ∀ (d e : Nat) (a : Int), nums a (d + e) = nums a d ++ nums (a + (d : Int)) e
 | 0, e, a => by simp [nums]
 | d + 1, e, a => by
  rw [show d + 1 + e = (d + e) + 1 by omega, nums, nums, nums_add d e (a + 1), List.cons_append]
  congr 3; omega
theorem nums_shift (c : Int) : ∀ (d : Nat) (a : Int), nums (a + c) d = (nums a d).map (· + c)
 | 0, _ => rfl
 | d + 1, a => by
  rw [nums, nums, List.map_cons, ← nums_shift c d (a + 1)]
  congr 2; omega
theorem filter_shift (c : Int) (P Q : Int → Bool) (L : List Int) (h : ∀ x ∈ L, P (x + c) = Q x) : (L.map (· + c)).filter P = (L.filter Q).map (· + c) := by
 induction L with
 | nil => rfl
 | cons x L ih =>
  have hx := h x (by simp)
  have ih := ih fun y hy => h y (by simp [hy])
  rw [List.map_cons, List.filter_cons, List.filter_cons, ih, hx]
  split <;> rfl
theorem passL_turn (u : Int) (l : List Int) (p b : Int) (hb : 0 ≤ b) : passL u l (p + (l.length : Int) * u) 0 (b + (l.length : Int)) = passL u l (p + (l.length : Int) * u) 0 ((l.length : Int) - 1) ++ (passL u l p 0 b).map (· + (l.length : Int)) := by
 unfold passL
 rw [show (b + (l.length : Int) + 1 - 0).toNat = ((l.length : Int) - 1 + 1 - 0).toNat + (b + 1 - 0).toNat by omega, nums_add, List.filter_append]
 congr 1
 rw [show (0 : Int) + ((((l.length : Int) - 1 + 1 - 0).toNat : Nat) : Int) = 0 + (l.length : Int) by omega, nums_shift]
 exact filter_shift _ _ _ _ fun x _ => passB_turn u l p x
theorem cross (u : Int) (l : List Int) (p : Int) : ∀ (d : Nat) (a : Int), ((plc u l a ≤ p ∧ p ≤ plc u l (a + (d : Int))) ∨ (plc u l (a + (d : Int)) ≤ p ∧ p ≤ plc u l a)) → ∃ t, (a ≤ t ∧ t ≤ a + (d : Int)) ∧ passB u l p t = true
 | 0, a, h => by
  refine ⟨a, by omega, ?_⟩
  rw [show a + ((0 : Nat) : Int) = a by omega] at h
  unfold passB
  exact decide_eq_true (.inl (by omega))
 | d + 1, a, h => by
  have ih := cross u l p d (a + 1)
  rw [show a + 1 + (d : Int) = a + ((d + 1 : Nat) : Int) by omega] at ih
  by_cases h0 : plc u l a = p
  ·
   exact ⟨a, by omega, by unfold passB; exact decide_eq_true (.inl h0)⟩
  ·
   by_cases h1 : (plc u l a < p ∧ p < plc u l (a + 1)) ∨ (plc u l (a + 1) < p ∧ p < plc u l a)
   ·
    exact ⟨a, by omega, by unfold passB; exact decide_eq_true (.inr h1)⟩
   ·
    have hih : (plc u l (a + 1) ≤ p ∧ p ≤ plc u l (a + ((d + 1 : Nat) : Int))) ∨ (plc u l (a + ((d + 1 : Nat) : Int)) ≤ p ∧ p ≤ plc u l (a + 1)) := by
     clear ih
     generalize plc u l (a + ((d + 1 : Nat) : Int)) = z at h ⊢
     generalize plc u l a = x at h h0 h1
     generalize plc u l (a + 1) = y at h1 ⊢
     omega
    obtain ⟨t, ht, hp⟩ := ih hih
    exact ⟨t, by omega, hp⟩
end Go.Proofs.YtbjimmemcmjpcabGreatDoor.Print
end

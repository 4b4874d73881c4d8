/- The law's Go function answers true for every input, and leaves its arguments as they were: its parts, the plain law, the row, the card. Joined by wip/pack.py. -/
import Derived.Test.YtbjimmemcmjpcacGreatDoorLG2
import Derived.Test.YtbjimmemcmjpcacGreatDoorB9
import Derived.Test.YtbjimmemcmjpcacGreatDoorLG1
import Derived.Test.YtbjimmemcmjpcacGreatDoorLG3
set_option linter.unusedVariables false
set_option linter.unusedSimpArgs false
set_option linter.unusedSectionVars false
section
namespace Go.Proofs.YtbjimmemcmjpcacGreatDoor.Print
open Go.RowKit YtbjimmemcmjpcacGreatDoorW.PrintWords YtbjimmemcmjpcacGreatDoorW.PrintLast YtbjimmemcmjpcacGreatDoorW.PrintMore
theorem refRule_f (lw hg s c : Int) : tellurionref04_Rule.f lw hg s c = some (ruleB lw hg s c) := by
 unfold tellurionref04_Rule.f ruleB
 simp only [refIn_f, Option.bind_some]
 by_cases h1 : 0 ≤ lw
 ·
  rw [if_pos h1]
  by_cases h2 : lw ≤ hg
  ·
   rw [if_pos h2]
   by_cases h3 : hg ≤ 30
   ·
    rw [if_pos h3]
    by_cases h4 : 0 ≤ s ∧ s ≤ 30
    ·
     rw [if_pos (by simpa using h4)]
     congr 1
     rw [← Bool.decide_and]
     exact decide_eq_decide.2 ⟨fun h => by omega, fun h => by omega⟩
    ·
     rw [if_neg (by simpa using h4), decide_eq_false (by omega)]
   ·
    rw [if_neg h3, decide_eq_false (by omega)]
  ·
   rw [if_neg h2, decide_eq_false (by omega)]
 ·
  rw [if_neg h1, decide_eq_false (by omega)]
theorem rule_bd {lw hg s c : Int} (h : ruleB lw hg s c = true) : (0 ≤ lw ∧ lw ≤ hg ∧ hg ≤ 30) ∧ (0 ≤ s ∧ s ≤ 30) ∧ (0 ≤ c ∧ c ≤ 24) := by
 simp [ruleB] at h
 omega
theorem rdA (l : List Int) (k : Nat) : rd l (k : Int) = atM l k := by simp [rd, atM]
theorem next_mod (n i : Nat) (hn : 1 ≤ n ∧ n ≤ 1000) (hi : i < n) : Int.tmod (wrap64 ((i : Int) + 1)) (n : Int) = (((i + 1) % n : Nat) : Int) := by
 rw [w64 _ (by omega), Int.tmod_eq_emod_of_nonneg (by omega)]
 rw [show (i : Int) + 1 = ((i + 1 : Nat) : Int) by omega]
 exact (Int.natCast_emod (i + 1) n).symm
section
variable {l : List Int} (hl : 1 ≤ l.length ∧ l.length ≤ 1000)
include hl
theorem camChg_l : ∀ (q i : Nat), i + q = l.length → Ev (fun k => cam_changes.l0 k l (chgN l i) (l.length : Int) (i : Int)) (chgN l l.length)
 | 0, i, h => by
  obtain rfl : i = l.length := by omega
  refine Ev.step (f := fun _ => some _) (fun k => ?_) (Ev.now _)
  rw [cam_changes.l0, if_neg (by omega)]
 | q + 1, i, h => by
  have hi : i < l.length := by omega
  have hb := chgN_bd l i
  have hm := Nat.mod_lt (i + 1) (show l.length > 0 by omega)
  refine Ev.step (fun k => ?_) (camChg_l q (i + 1) (by omega))
  rw [cam_changes.l0, next_mod l.length i hl hi, if_pos (by omega), if_pos (by omega), if_pos (by omega), if_neg (by omega), if_pos (by omega), if_pos (by omega), rdA, rdA, w64 (chgN l i + 1) (by omega), w64 ((i : Int) + 1) (by omega), show (i : Int) + 1 = ((i + 1 : Nat) : Int) by omega]
  simp only [chgN]
  unfold cstM
  by_cases he : atM l i = atM l ((i + 1) % l.length)
  ·
   rw [if_pos he, if_pos he, Int.add_zero]
  ·
   rw [if_neg he, if_neg he]
theorem evC_changes : Ev (fun k => cam_changes.f k l) (chgN l l.length) := camChg_l hl l.length 0 (by omega)
end
def stepOK (lw hg sl : Int) (l : List Int) (k : Nat) : Bool := decide (lw ≤ atM l k ∧ atM l k ≤ hg) && decide (-sl ≤ atM l k - atM l ((k + 1) % l.length) ∧ atM l k - atM l ((k + 1) % l.length) ≤ sl)
def fitsFrom (lw hg sl ch : Int) (l : List Int) (i q : Nat) : Bool := (List.range' i q).all (stepOK lw hg sl l) && decide (chgN l l.length ≤ ch)
def fitsB (lw hg sl ch : Int) (l : List Int) : Bool := fitsFrom lw hg sl ch l 0 l.length
theorem fitsB_iff (lw hg sl ch : Int) (l : List Int) : fitsB lw hg sl ch l = true ↔ FitN (fun _ => lw) (fun _ => hg) sl ch l.length l := by
 unfold fitsB fitsFrom
 simp only [Bool.and_eq_true, List.all_eq_true, List.mem_range', decide_eq_true_eq, stepOK]
 constructor
 ·
  rintro ⟨h1, h2⟩
  refine ⟨rfl, fun k hk => ?_, fun k hk => ?_, h2⟩
  ·
   have := h1 k ⟨k, hk, by omega⟩; exact this.1
  ·
   have := h1 k ⟨k, hk, by omega⟩; exact this.2
 ·
  rintro ⟨_, h1, h2, h3⟩
  refine ⟨?_, h3⟩
  rintro k ⟨j, hj, rfl⟩
  rw [show 0 + 1 * j = j by omega]
  exact ⟨h1 j hj, h2 j hj⟩
section
variable {lw hg sl ch : Int} {l : List Int} (hr : (0 ≤ lw ∧ lw ≤ hg ∧ hg ≤ 30) ∧ (0 ≤ sl ∧ sl ≤ 30) ∧ (0 ≤ ch ∧ ch ≤ 24)) (hl : 1 ≤ l.length ∧ l.length ≤ 1000) (hb : ∀ k, k < l.length → 0 ≤ atM l k ∧ atM l k ≤ 30)
include hr hl hb
theorem camFits_l : ∀ (q i : Nat), i + q = l.length → Ev (fun k => cam_Fits.l0 k l l (l.length : Int) (i : Int) lw hg sl ch) (fitsFrom lw hg sl ch l i q, 0)
 | 0, i, h => by
  obtain rfl : i = l.length := by omega
  refine Ev.step (fun k => ?_) (Ev.bind (f := fun k t => some (decide (t ≤ ch), 0)) (evC_changes hl) (Ev.congr (f := fun _ => some _) (fun k => rfl) (Ev.now _)))
  rw [cam_Fits.l0, if_neg (by omega)]
  all_goals simp [fitsFrom]
 | q + 1, i, h => by
  have hi : i < l.length := by omega
  have hm := Nat.mod_lt (i + 1) (show l.length > 0 by omega)
  have h1 := hb i hi
  have h2 := hb _ hm
  have ih := camFits_l q (i + 1) (by omega)
  have e1 : wrap64 (atM l i - atM l ((i + 1) % l.length)) = atM l i - atM l ((i + 1) % l.length) := w64 _ (by omega)
  have e3 : wrap64 ((i : Int) + 1) = ((i + 1 : Nat) : Int) := by rw [w64 _ (by omega)]; omega
  have hdo : ∀ k, cam_Fits.l0 (k + 1) l l (l.length : Int) (i : Int) lw hg sl ch = if stepOK lw hg sl l i = true then cam_Fits.l0 k l l (l.length : Int) ((i + 1 : Nat) : Int) lw hg sl ch else some (false, 0) := by
   intro k
   rw [cam_Fits.l0, next_mod l.length i hl hi, rdA, rdA, e3]
   unfold stepOK
   generalize (i + 1) % l.length = j at hm h2 e1 ⊢
   generalize atM l i = x at h1 e1 ⊢
   generalize atM l j = y at h2 e1 ⊢
   rw [if_pos (show (i : Int) < (l.length : Int) by omega), if_pos (show (0 : Int) ≤ (i : Int) by omega), if_pos (show (i : Int) < (l.length : Int) by omega), if_neg (show ¬ (l.length : Int) = 0 by omega), if_pos (show (0 : Int) ≤ (j : Int) by omega), if_pos (show (j : Int) < (l.length : Int) by omega), in_f, e1, size_abs _ (by omega)]
   simp only [Option.bind_some]
   unfold absI
   by_cases k1 : lw ≤ x ∧ x ≤ hg
   ·
    rw [if_pos (by simp [k1.1, k1.2]), decide_eq_true k1, Bool.true_and]
    by_cases k2 : -sl ≤ x - y ∧ x - y ≤ sl
    ·
     rw [if_neg (by omega), if_pos (decide_eq_true k2)]
    ·
     rw [if_pos (by omega), if_neg (by simpa using k2)]
   ·
    rw [if_neg (by simpa using k1), decide_eq_false k1, Bool.false_and, if_neg (by simp)]
  refine Ev.step (f := fun k => _) hdo ?_
  unfold fitsFrom at ih ⊢
  rw [List.range'_succ, List.all_cons]
  cases hs : stepOK lw hg sl l i with
  | true => simp only [if_true, Bool.true_and]; exact ih
  | false => simp only [Bool.false_eq_true, if_false, Bool.false_and]; exact Ev.now _
end
theorem cam_atM' {l : List Int} (h : isCamB l = true) : (3 ≤ l.length ∧ l.length ≤ 24) ∧ ∀ k, k < l.length → 0 ≤ atM l k ∧ atM l k ≤ 30 := by
 have hb : 3 ≤ l.length ∧ l.length ≤ 24 := by simp only [isCamB, Bool.and_eq_true, decide_eq_true_eq] at h; exact h.1
 exact ⟨hb, fun k hk => by rw [← rdA]; exact isCam_rd h k hk⟩
theorem evC_fits {lw hg sl ch : Int} {l : List Int} (h1 : ruleB lw hg sl ch = true) (h2 : isCamB l = true) : Ev (fun k => cam_Fits.f k lw hg sl ch l) (fitsB lw hg sl ch l, 0) := by
 obtain ⟨hl, hb⟩ := cam_atM' h2
 have h3 := camFits_l (rule_bd h1) ⟨by omega, by omega⟩ hb l.length 0 (by omega)
 have h4 : Ev (fun k => cam_Fits.j0 k l false lw hg sl ch) (fitsB lw hg sl ch l, 0) := by
  refine Ev.step (fun k => ?_) h3
  rw [cam_Fits.j0, if_neg (by simp)]
  rfl
 refine Ev.congr (fun k => ?_) h4
 unfold cam_Fits.f
 rw [isRule_f, isCam_fB, h1, h2]
 rfl
end Go.Proofs.YtbjimmemcmjpcacGreatDoor.Print
end

/- The law's Go function answers true for every input, and leaves its arguments as they were: its parts, the plain law, the row, the card. Joined by wip/pack.py. -/
import Derived.Test.YtbjimmemcmjpcabGreatDoorB4
import Derived.Test.YtbjimmemcmjpcabGreatDoorLM1
import Derived.Test.YtbjimmemcmjpcabGreatDoorB3
set_option linter.unusedVariables false
set_option linter.unusedSimpArgs false
set_option linter.unusedSectionVars false
section
namespace Go.Proofs.YtbjimmemcmjpcabGreatDoor.Print
open Go.RowKit YtbjimmemcmjpcabGreatDoorW.PrintWords YtbjimmemcmjpcabGreatDoorW.PrintLast YtbjimmemcmjpcabGreatDoorW.PrintMore
theorem w64 (n : Int) (h : -9223372036854775808 ≤ n ∧ n ≤ 9223372036854775807) : wrap64 n = n := IntWalk.wrap64_in n h
theorem refIn_f (a b c : Int) : tr_in.f a b c = some (decide (b ≤ a) && decide (a ≤ c)) := by
 unfold tr_in.f
 by_cases h1 : b ≤ a <;> by_cases h2 : a ≤ c <;> simp [h1, h2]
theorem refCam_l (l : List Int) (hl : l.length ≤ 1000000000000) : ∀ (q j k : Nat), j ≤ l.length → q = l.length - j → q < k → tr_Cam.l0 k l (j : Int) = some ((l.drop j).all isH && decide (3 ≤ l.length ∧ l.length ≤ 24))
 | q, j, 0, _, _, h => by omega
 | 0, j, k + 1, hj, hq, _ => by
  obtain rfl : j = l.length := by omega
  unfold tr_Cam.l0
  rw [if_neg (by omega), refIn_f, Option.bind_some, List.drop_length]
  simp only [List.all_nil, Bool.true_and]
  congr 1
  by_cases h1 : 3 ≤ l.length <;> by_cases h2 : l.length ≤ 24 <;> simp [h1, h2] <;> omega
 | q + 1, j, k + 1, hj, hq, hk => by
  have hlt : j < l.length := by omega
  unfold tr_Cam.l0
  rw [if_pos (by omega), if_pos (by omega), refIn_f, Option.bind_some, List.drop_eq_getElem_cons hlt, List.all_cons]
  have hrd : rd l (j : Int) = l[j] := by simp [rd, List.getD_eq_getElem?_getD, hlt]
  rw [hrd]
  show (if isH l[j] = true then _ else _) = _
  cases hb : isH l[j] with
  | false => simp
  | true =>
   rw [if_pos rfl, w64 _ (by omega), show (j : Int) + 1 = ((j + 1 : Nat) : Int) by omega, refCam_l l hl q (j + 1) k (by omega) (by omega) (by omega)]
   simp
theorem refCam_ev (l : List Int) (hl : l.length ≤ 1000000000000) (k : Nat) (hk : l.length < k) : tr_Cam.f k l = some (isCamB l) := by
 unfold tr_Cam.f isCamB
 rw [show (0 : Int) = ((0 : Nat) : Int) by rfl, refCam_l l hl l.length 0 k (by omega) (by omega) hk, List.drop_zero, Bool.and_comm]
theorem evR_cam (l : List Int) (hl : l.length ≤ 1000000000000) : Ev (fun k => tr_Cam.f k l) (isCamB l) := ⟨l.length + 1, fun k hk => refCam_ev l hl k (by omega)⟩
def cyc (l : List Int) (j : Int) : Int := rd l (j % (l.length : Int))
theorem cyc_nat (l : List Int) (i : Nat) (h : i < l.length) : cyc l (i : Int) = rd l (i : Int) := by
 unfold cyc; rw [Int.emod_eq_of_lt (by omega) (by omega)]
theorem cyc_turn (l : List Int) (j : Int) : cyc l (j + (l.length : Int)) = cyc l j := by unfold cyc; rw [Int.add_emod_right]
theorem cyc_mod (l : List Int) (j t : Int) : cyc l (j % (l.length : Int) + t) = cyc l (j + t) := by unfold cyc; rw [Int.emod_add_emod]
theorem rd_getElem (l : List Int) (i : Nat) (h : i < l.length) : rd l (i : Int) = l[i] := by simp [rd, List.getD_eq_getElem?_getD, h]
theorem list_ext_rd {x y : List Int} (hl : x.length = y.length) (h : ∀ i : Nat, i < x.length → rd x (i : Int) = rd y (i : Int)) : x = y := by
 apply List.ext_getElem hl
 intro i h1 h2
 rw [← rd_getElem x i h1, ← rd_getElem y i h2, h i h1]
theorem cyc_ext {x y : List Int} (hl : x.length = y.length) (h : ∀ i : Nat, i < x.length → cyc x (i : Int) = cyc y (i : Int)) : x = y :=
 list_ext_rd hl fun i hi => by rw [← cyc_nat x i hi, ← cyc_nat y i (by omega), h i hi]
theorem cyc_idx (l : List Int) (hl : 1 ≤ l.length) (j : Int) : ∃ i : Nat, i < l.length ∧ cyc l j = rd l (i : Int) ∧ (i : Int) = j % (l.length : Int) := by
 have h1 := Int.emod_nonneg j (show (l.length : Int) ≠ 0 by omega)
 have h2 := Int.emod_lt_of_pos j (show (0 : Int) < (l.length : Int) by omega)
 exact ⟨(j % (l.length : Int)).toNat, by omega, by unfold cyc; rw [Int.toNat_of_nonneg h1], Int.toNat_of_nonneg h1⟩
theorem rd_map_range (n : Nat) (f : Nat → Int) (i : Nat) (h : i < n) : rd ((List.range n).map f) (i : Int) = f i := by
 rw [rd_getElem _ i (by simpa using h)]; simp
def turnL (l : List Int) (by_ : Int) : List Int := (List.range l.length).map fun (i : Nat) => rd l (((i : Int) + by_) % (l.length : Int))
theorem turn_len (l : List Int) (b : Int) : (turnL l b).length = l.length := by simp [turnL]
theorem cyc_turnL (l : List Int) (hl : 1 ≤ l.length) (b j : Int) : cyc (turnL l b) j = cyc l (j + b) := by
 obtain ⟨i, hi, h1, h2⟩ := cyc_idx (turnL l b) (by rw [turn_len]; exact hl) j
 rw [turn_len] at hi h2
 rw [h1]
 unfold turnL
 rw [rd_map_range _ _ i hi, h2]
 exact cyc_mod l j b
theorem isCam_iff (l : List Int) : isCamB l = true ↔ (3 ≤ l.length ∧ l.length ≤ 24) ∧ ∀ j : Int, 0 ≤ cyc l j ∧ cyc l j ≤ 30 := by
 simp only [isCamB, Bool.and_eq_true, List.all_eq_true, decide_eq_true_eq]
 constructor
 ·
  rintro ⟨h1, h2⟩
  refine ⟨h1, fun j => ?_⟩
  obtain ⟨i, hi, h3, _⟩ := cyc_idx l (by omega) j
  rw [h3, rd_getElem l i hi]
  have := h2 l[i] (List.getElem_mem hi)
  simpa [isH] using this
 ·
  rintro ⟨h1, h2⟩
  refine ⟨h1, fun x hx => ?_⟩
  obtain ⟨i, hi, rfl⟩ := List.mem_iff_getElem.1 hx
  have := h2 (i : Int)
  rw [cyc_nat l i hi, rd_getElem l i hi] at this
  simpa [isH] using this
theorem turn_cam (l : List Int) (b : Int) (h : isCamB l = true) : isCamB (turnL l b) = true := by
 obtain ⟨h1, h2⟩ := (isCam_iff l).1 h
 refine (isCam_iff _).2 ⟨by rw [turn_len]; exact h1, fun j => ?_⟩
 rw [cyc_turnL l (by omega)]; exact h2 _
theorem refTurn_l (l : List Int) (b : Int) (hl : 1 ≤ l.length ∧ l.length ≤ 1000) (hb : 0 ≤ b ∧ b ≤ 1000000) : ∀ (q i : Nat), i + q = l.length → Ev (fun k => tr_Turn.l0 k l b ((List.range i).map fun (i : Nat) => rd l (((i : Int) + b) % (l.length : Int))) (i : Int)) (turnL l b)
 | 0, i, h => by
  obtain rfl : i = l.length := by omega
  refine Ev.step (f := fun _ => some _) (fun k => ?_) (Ev.now _)
  rw [tr_Turn.l0, if_neg (by omega)]
  rfl
 | q + 1, i, h => by
  refine Ev.step (fun k => ?_) (refTurn_l l b hl hb q (i + 1) (by omega))
  have e1 : wrap64 ((i : Int) + b) = (i : Int) + b := w64 _ (by omega)
  have e2 : Int.tmod ((i : Int) + b) (l.length : Int) = ((i : Int) + b) % (l.length : Int) := Int.tmod_eq_emod_of_nonneg (by omega)
  rw [tr_Turn.l0, if_pos (by omega), if_neg (by omega), e1, e2, if_pos (Int.emod_nonneg _ (by omega)), if_pos (Int.emod_lt_of_pos _ (by omega)), if_pos (by simp; omega), w64 _ (by omega), List.range_succ, List.map_append]
  rfl
theorem evR_turn (l : List Int) (b : Int) (hl : 1 ≤ l.length ∧ l.length ≤ 1000) (hb : 0 ≤ b ∧ b ≤ 1000000) : Ev (fun k => tr_Turn.f k l b) (turnL l b) := refTurn_l l b hl hb l.length 0 (by omega)
end Go.Proofs.YtbjimmemcmjpcabGreatDoor.Print
end

/- The law's Go function answers true for every input, and leaves its arguments as they were: its parts, the plain law, the row, the card. Joined by wip/pack.py. -/
import Derived.Test.YtbjimmemcmjpcabGreatDoorLU2
import Derived.Test.YtbjimmemcmjpcabGreatDoorB19
import Derived.Test.YtbjimmemcmjpcabGreatDoorLU1
set_option linter.unusedVariables false
set_option linter.unusedSimpArgs false
set_option linter.unusedSectionVars false
section
namespace Go.Proofs.YtbjimmemcmjpcabGreatDoor.Print
open Go.RowKit YtbjimmemcmjpcabGreatDoorW.PrintWords YtbjimmemcmjpcabGreatDoorW.PrintLast YtbjimmemcmjpcabGreatDoorW.PrintMore
def isTimeB (n : Int) : Bool := decide (0 ≤ n) && decide (n ≤ 2000)
theorem isTime_f (n : Int) : cam_isTime.f n = some (isTimeB n) := by unfold cam_isTime.f; rw [in_f]; rfl
theorem refTime_f (n : Int) : tr_Time.f n = some (isTimeB n) := by unfold tr_Time.f; rw [refIn_f]; rfl
theorem refMotion_l (u : Int) (l : List Int) (hl : l.length ≤ 1000000000000) : ∀ (q j : Nat), j + q = l.length → Ev (fun k => tr_Motion.l0 k (j : Int) u l) ((decide (1 ≤ u ∧ u ≤ 50) && decide (3 ≤ l.length ∧ l.length ≤ 24)) && (l.drop j).all isO)
 | 0, j, h => by
  obtain rfl : j = l.length := by omega
  refine Ev.step (f := fun _ => some _) (fun k => ?_) (Ev.now _)
  rw [tr_Motion.l0, if_neg (by omega), refIn_f, refIn_f, List.drop_length]
  simp only [Option.bind_some, List.all_nil, Bool.and_true]
  by_cases h1 : 1 ≤ u <;> by_cases h2 : u ≤ 50 <;> by_cases h3 : 3 ≤ l.length <;> by_cases h4 : l.length ≤ 24 <;> simp [h1, h2, h3, h4] <;> omega
 | q + 1, j, h => by
  have hlt : j < l.length := by omega
  have hrd : rd l (j : Int) = l[j] := by simp [rd, List.getD_eq_getElem?_getD, hlt]
  rw [List.drop_eq_getElem_cons hlt, List.all_cons]
  have ih := refMotion_l u l hl q (j + 1) (by omega)
  cases hb : isO l[j] with
  | false =>
   refine Ev.step (f := fun _ => some _) (fun k => ?_) (Ev.now _)
   rw [tr_Motion.l0, if_pos (by omega), if_pos (by omega), refIn_f, hrd]
   simp only [Option.bind_some]
   rw [if_neg (by unfold isO at hb; rw [hb]; simp)]
   simp
  | true =>
   rw [Bool.true_and]
   refine Ev.step (fun k => ?_) ih
   rw [tr_Motion.l0, if_pos (by omega), if_pos (by omega), refIn_f, hrd]
   simp only [Option.bind_some]
   rw [if_pos (by unfold isO at hb; exact hb), w64 _ (by omega)]
   rfl
theorem evR_motion (u : Int) (l : List Int) (hl : l.length ≤ 1000000000000) : Ev (fun k => tr_Motion.f k u l) (isMotionB u l) := by
 have h := refMotion_l u l hl l.length 0 (by omega)
 rw [List.drop_zero] at h
 exact h
section
variable {u : Int} {l : List Int} (h : isMotionB u l = true)
include h
theorem spd_dif {t : Int} (h0 : -1 ≤ t) : spd u l t = u + rd l ((t + 1) % (l.length : Int)) - rd l (t % (l.length : Int)) := by
 have hm := motion_len h
 unfold spd plc
 split
 ·
  rw [show t + (l.length : Int) + 1 = t + 1 + (l.length : Int) by omega, Int.add_emod_right, Int.add_emod_right, show t + 1 + (l.length : Int) = (t + (l.length : Int)) + 1 by omega, Int.add_mul]
  omega
 ·
  rw [Int.add_mul]; omega
theorem spd_turn {t : Int} (h0 : -1 ≤ t) : spd u l (t + (l.length : Int)) = spd u l t := by
 rw [spd_dif h h0, spd_dif h (by omega), show t + (l.length : Int) + 1 = t + 1 + (l.length : Int) by omega, Int.add_emod_right, Int.add_emod_right]
omit h in
theorem sgn_zero (n : Int) : sgn n = 0 ↔ n = 0 := by unfold sgn; split <;> (try split) <;> omega
def flipsF (b : Int) (s : Int → Int) (t : Int) : Nat → Nat → Bool
 | _, 0 => false
 | j, d + 1 => if s (t + j) = 0 then flipsF b s t (j + 1) d else decide (sgn (s (t + j)) ≠ b)
omit h in
theorem flips_F (b t : Int) : ∀ (d j : Nat), flips b ((List.range' j d).map fun (i : Nat) => (t + (i : Int), spd u l (t + (i : Int)))) = flipsF b (spd u l) t j d
 | 0, j => rfl
 | d + 1, j => by
  rw [List.range'_succ, List.map_cons, flips, flipsF, flips_F b t d (j + 1)]
omit h in
theorem station_F (t : Int) : stationB u l t = if sgn (spd u l (t - 1)) = 0 then false else flipsF (sgn (spd u l (t - 1))) (spd u l) t 0 l.length := by
 unfold stationB spL
 rw [List.range_eq_range', flips_F]
def stL (u : Int) (l : List Int) (a b : Int) : List Int := (nums a (b + 1 - a).toNat).filter (stationB u l)
theorem camStation_f (t : Int) (h0 : 0 ≤ t) (h1 : t ≤ 100000) : cam_station.f u l t = some (stationB u l t) := by
 unfold cam_station.f; rw [if_pos ⟨h, h0, h1⟩]
theorem camstations_l (b : Int) (hb : b ≤ 100000) : ∀ (d : Nat) (a : Int) (acc : List Int), 0 ≤ a → d = (b + 1 - a).toNat → acc.length + d ≤ 1000000 → Ev (fun k => cam_stations.l0 k b acc a u l) (acc ++ (nums a d).filter (stationB u l))
 | 0, a, acc, ha, hd, hc => by
  refine Ev.step (f := fun _ => some _) (fun k => ?_) (Ev.now _)
  rw [cam_stations.l0, if_neg (by omega)]
  simp [nums]
 | d + 1, a, acc, ha, hd, hc => by
  have hK := camStation_f h a ha (by omega)
  have ih := fun acc' hc' => camstations_l b hb d (a + 1) acc' (by omega) (by omega) hc'
  rw [nums, List.filter_cons]
  cases hs : stationB u l a with
  | true =>
   rw [hs] at hK
   have := ih (acc ++ [a]) (by simp; omega)
   rw [if_pos rfl, List.append_cons]
   refine Ev.step (fun k => ?_) this
   rw [cam_stations.l0, if_pos (by omega), hK, Option.bind_some, if_pos rfl, if_pos (by omega), w64 _ (by omega)]
  | false =>
   rw [hs] at hK
   refine Ev.step (fun k => ?_) (ih acc (by omega))
   rw [cam_stations.l0, if_pos (by omega), hK, Option.bind_some, if_neg (by simp), w64 _ (by omega)]
theorem evC_stations (a b : Int) (ha : 0 ≤ a) (hb : b ≤ 100000) : Ev (fun k => cam_stations.f k u l a b) (stL u l a b) := by
 have := camstations_l h b hb (b + 1 - a).toNat a [] ha rfl (by simp; omega)
 rw [List.nil_append] at this
 exact this
end
theorem time_bd {n : Int} (h : isTimeB n = true) : 0 ≤ n ∧ n ≤ 2000 := by simpa [isTimeB] using h
theorem evC_Stations (u : Int) (l : List Int) (a b : Int) : Ev (fun k => cam_Stations.f k u l a b) (if isMotionB u l = true ∧ isTimeB a = true ∧ isTimeB b = true ∧ a ≤ b then (stL u l a b, 0) else ([], 2)) := by
 by_cases hm : isMotionB u l = true
 ·
  by_cases ha : isTimeB a = true
  ·
   by_cases hb : isTimeB b = true
   ·
    by_cases hab : a ≤ b
    ·
     rw [if_pos ⟨hm, ha, hb, hab⟩]
     obtain ⟨K, hK⟩ := evC_stations hm a b (time_bd ha).1 (by have := time_bd hb; omega)
     refine ⟨K, fun k hk => ?_⟩
     have e := hK k hk
     simp only [] at e
     show cam_Stations.f k u l a b = _
     unfold cam_Stations.f
     simp only [isMotion_f, isTime_f, Option.bind_some, hm, ha, hb, if_true]
     rw [if_neg (by omega), e]
     rfl
    ·
     rw [if_neg (fun h => hab h.2.2.2)]
     refine Ev.congr (f := fun _ => some _) (fun k => ?_) (Ev.now _)
     unfold cam_Stations.f
     simp only [isMotion_f, isTime_f, Option.bind_some, hm, ha, hb, if_true]
     rw [if_pos (by omega)]
   ·
    rw [if_neg (fun h => hb h.2.2.1)]
    refine Ev.congr (f := fun _ => some _) (fun k => ?_) (Ev.now _)
    unfold cam_Stations.f
    simp only [isMotion_f, isTime_f, Option.bind_some, hm, ha, hb, if_true, if_false, Bool.false_eq_true]
  ·
   rw [if_neg (fun h => ha h.2.1)]
   refine Ev.congr (f := fun _ => some _) (fun k => ?_) (Ev.now _)
   unfold cam_Stations.f
   simp only [isMotion_f, isTime_f, Option.bind_some, hm, ha, if_true, if_false, Bool.false_eq_true]
 ·
  rw [if_neg (fun h => hm h.1)]
  refine Ev.congr (f := fun _ => some _) (fun k => ?_) (Ev.now _)
  unfold cam_Stations.f
  simp only [isMotion_f, Option.bind_some, hm, if_false, Bool.false_eq_true]
theorem stL_len (u : Int) (l : List Int) (a b : Int) : (stL u l a b).length ≤ (b + 1 - a).toNat := by
 unfold stL
 refine Nat.le_trans (List.length_filter_le _ _) ?_
 rw [nums_len]; exact Nat.le_refl _
theorem flipsF_first (b : Int) (s : Int → Int) (t : Int) : ∀ (q j d : Nat), q < d → (∀ i, j ≤ i → i < j + q → s (t + (i : Int)) = 0) → s (t + ((j + q : Nat) : Int)) ≠ 0 → flipsF b s t j d = decide (sgn (s (t + ((j + q : Nat) : Int))) ≠ b)
 | q, j, 0, h, _, _ => by omega
 | 0, j, d + 1, _, _, hs => by
  simp only [Nat.add_zero] at hs ⊢
  rw [flipsF, if_neg hs]
 | q + 1, j, d + 1, h, hz, hs => by
  rw [flipsF, if_pos (hz j (by omega) (by omega))]
  have := flipsF_first b s t q (j + 1) d (by omega) (fun i h1 h2 => hz i (by omega) (by omega)) (by rw [show j + 1 + q = j + (q + 1) by omega]; exact hs)
  rw [this, show j + 1 + q = j + (q + 1) by omega]
theorem flipsF_ex (b : Int) (s : Int → Int) (t : Int) : ∀ (d j : Nat), flipsF b s t j d = true → ∃ q, q < d ∧ (∀ i, j ≤ i → i < j + q → s (t + (i : Int)) = 0) ∧ s (t + ((j + q : Nat) : Int)) ≠ 0 ∧ sgn (s (t + ((j + q : Nat) : Int))) ≠ b
 | 0, j, h => by simp [flipsF] at h
 | d + 1, j, h => by
  rw [flipsF] at h
  by_cases h0 : s (t + (j : Int)) = 0
  ·
   rw [if_pos h0] at h
   obtain ⟨q, h1, h2, h3, h4⟩ := flipsF_ex b s t d (j + 1) h
   refine ⟨q + 1, by omega, fun i h5 h6 => ?_, ?_, ?_⟩
   ·
    by_cases e : i = j
    ·
     subst e; exact h0
    ·
     exact h2 i (by omega) (by omega)
   ·
    rw [show j + (q + 1) = j + 1 + q by omega]; exact h3
   ·
    rw [show j + (q + 1) = j + 1 + q by omega]; exact h4
  ·
   rw [if_neg h0] at h
   exact ⟨0, by omega, fun i h5 h6 => by omega, by simpa using h0, by simpa using h⟩
theorem sgn_pos (n : Int) : sgn n = 1 ↔ 0 < n := by unfold sgn; split <;> (try split) <;> omega
theorem sgn_neg (n : Int) : sgn n = -1 ↔ n < 0 := by unfold sgn; split <;> (try split) <;> omega
section
variable {u : Int} {l : List Int} (h : isMotionB u l = true)
include h
theorem flip_station {i j : Int} (h0 : 0 ≤ i) (hij : i < j) (hi : spd u l i ≠ 0) (hj : spd u l j ≠ 0) (hz : ∀ r, i < r → r < j → spd u l r = 0) (hs : sgn (spd u l j) ≠ sgn (spd u l i)) : stationB u l (i + 1) = true := by
 have hm := motion_len h
 have hn : j ≤ i + (l.length : Int) := by
  by_cases hc : j ≤ i + (l.length : Int)
  ·
   exact hc
  ·
   have := hz (i + (l.length : Int)) (by omega) (by omega)
   rw [spd_turn h (by omega)] at this
   exact absurd this hi
 rw [station_F, show i + 1 - 1 = i by omega, if_neg (fun e => hi ((sgn_zero _).1 e))]
 have := flipsF_first (sgn (spd u l i)) (spd u l) (i + 1) (j - i - 1).toNat 0 l.length (by omega) (fun q h1 h2 => hz _ (by omega) (by omega)) (by rw [show i + 1 + ((0 + (j - i - 1).toNat : Nat) : Int) = j by omega]; exact hj)
 rw [this, show i + 1 + ((0 + (j - i - 1).toNat : Nat) : Int) = j by omega]
 exact decide_eq_true hs
theorem lead (i : Int) (h0 : 0 ≤ i) (hi : spd u l i ≠ 0) : ∀ (d : Nat), (∀ t, i < t → t ≤ i + (d : Int) → stationB u l t = false) → ∃ q, (i ≤ q ∧ q ≤ i + (d : Int)) ∧ spd u l q ≠ 0 ∧ sgn (spd u l q) = sgn (spd u l i) ∧ ∀ r, q < r → r ≤ i + (d : Int) → spd u l r = 0
 | 0, _ => ⟨i, by omega, hi, rfl, fun r h1 h2 => by omega⟩
 | d + 1, hno => by
  obtain ⟨q, h1, h2, h3, h4⟩ := lead i h0 hi d (fun t h1 h2 => hno t h1 (by omega))
  by_cases hz : spd u l (i + ((d + 1 : Nat) : Int)) = 0
  ·
   refine ⟨q, by omega, h2, h3, fun r h5 h6 => ?_⟩
   by_cases e : r = i + ((d + 1 : Nat) : Int)
   ·
    subst e; exact hz
   ·
    exact h4 r h5 (by omega)
  ·
   by_cases hs : sgn (spd u l (i + ((d + 1 : Nat) : Int))) = sgn (spd u l i)
   ·
    exact ⟨_, by omega, hz, hs, fun r h5 h6 => by omega⟩
   ·
    have := flip_station h (i := q) (j := i + ((d + 1 : Nat) : Int)) (by omega) (by omega) h2 hz (fun r h5 h6 => h4 r h5 (by omega)) (by rw [h3]; exact hs)
    rw [hno (q + 1) (by omega) (by omega)] at this
    cases this
theorem same_sign {i j : Int} (h0 : 0 ≤ i) (hij : i ≤ j) (hi : spd u l i ≠ 0) (hno : ∀ t, i < t → t ≤ j → stationB u l t = false) : spd u l j = 0 ∨ sgn (spd u l j) = sgn (spd u l i) := by
 obtain ⟨q, h1, h2, h3, h4⟩ := lead h i h0 hi (j - i).toNat (fun t h1 h2 => hno t h1 (by omega))
 by_cases e : q = j
 ·
  subst e; exact .inr h3
 ·
  exact .inl (h4 j (by omega) (by omega))
theorem station_turn {t : Int} (h0 : 0 ≤ t) : stationB u l (t + (l.length : Int)) = stationB u l t := by
 have hm := motion_len h
 have hf : ∀ (b : Int) (d j : Nat), flipsF b (spd u l) (t + (l.length : Int)) j d = flipsF b (spd u l) t j d := by
  intro b d
  induction d with
  | zero => intro j; rfl
  | succ d ih =>
   intro j
   rw [flipsF, flipsF, ih, show t + (l.length : Int) + (j : Int) = t + (j : Int) + (l.length : Int) by omega, spd_turn h (by omega)]
 rw [station_F, station_F, show t + (l.length : Int) - 1 = t - 1 + (l.length : Int) by omega, spd_turn h (by omega), hf]
theorem stL_turn (a b : Int) (ha : 0 ≤ a) : stL u l (a + (l.length : Int)) (b + (l.length : Int)) = (stL u l a b).map (· + (l.length : Int)) := by
 unfold stL
 rw [show (b + (l.length : Int) + 1 - (a + (l.length : Int))).toNat = (b + 1 - a).toNat by omega, nums_shift]
 exact filter_shift _ _ _ _ fun x hx => station_turn h (by have := (mem_nums _ _ _).1 hx; omega)
theorem station_is {t : Int} (hs : stationB u l t = true) : spd u l (t - 1) ≠ 0 ∧ ∃ q : Nat, q < l.length ∧ (∀ r, t ≤ r → r < t + (q : Int) → spd u l r = 0) ∧ spd u l (t + (q : Int)) ≠ 0 ∧ sgn (spd u l (t + (q : Int))) ≠ sgn (spd u l (t - 1)) := by
 rw [station_F] at hs
 by_cases h0 : sgn (spd u l (t - 1)) = 0
 ·
  rw [if_pos h0] at hs; cases hs
 ·
  rw [if_neg h0] at hs
  obtain ⟨q, h1, h2, h3, h4⟩ := flipsF_ex _ _ _ _ _ hs
  rw [Nat.zero_add] at h3 h4
  refine ⟨fun e => h0 ((sgn_zero _).2 e), q, h1, fun r h5 h6 => ?_, h3, h4⟩
  have := h2 (r - t).toNat (by omega) (by omega)
  rwa [show t + (((r - t).toNat : Nat) : Int) = r by omega] at this
end
theorem stL_cons (u : Int) (l : List Int) (a b : Int) (hab : a ≤ b) : stL u l a b = if stationB u l a = true then a :: stL u l (a + 1) b else stL u l (a + 1) b := by
 unfold stL
 rw [show (b + 1 - a).toNat = (b + 1 - (a + 1)).toNat + 1 by omega, nums, List.filter_cons]
theorem stL_nil (u : Int) (l : List Int) (a b : Int) (hab : b < a) : stL u l a b = [] := by
 unfold stL
 rw [show (b + 1 - a).toNat = 0 by omega]; rfl
theorem mem_stL' {u : Int} {l : List Int} {a b x : Int} : x ∈ stL u l a b ↔ (a ≤ x ∧ x ≤ b) ∧ stationB u l x = true := by
 unfold stL
 rw [List.mem_filter, mem_nums]
 constructor
 ·
  rintro ⟨h1, h2⟩; exact ⟨by omega, h2⟩
 ·
  rintro ⟨h1, h2⟩; exact ⟨by omega, h2⟩
theorem spd_plc (u : Int) (l : List Int) (t : Int) (h : 0 ≤ t) : spd u l t = plc u l (t + 1) - plc u l t := by unfold spd; rw [if_neg (by omega)]
end Go.Proofs.YtbjimmemcmjpcabGreatDoor.Print
end

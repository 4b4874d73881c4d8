/- The law's Go function answers true for every input, and leaves its arguments as they were: its parts, the plain law, the row, the card. Joined by wip/pack.py. -/
import Derived.Test.YtbjimmemcmjpcabGreatDoorLV2
import Derived.Test.YtbjimmemcmjpcabGreatDoorB19
import Derived.Test.YtbjimmemcmjpcabGreatDoorLV1
set_option linter.unusedVariables false
set_option linter.unusedSimpArgs false
set_option linter.unusedSectionVars false
section
namespace Go.Proofs.YtbjimmemcmjpcabGreatDoor.Print
open Go.RowKit YtbjimmemcmjpcabGreatDoorW.PrintWords YtbjimmemcmjpcabGreatDoorW.PrintLast YtbjimmemcmjpcabGreatDoorW.PrintMore
def isTimeB (n : Int) : Bool := decide (0 ≤ n) && decide (n ≤ 2000)
theorem isTime_f (n : Int) : cam_isTime.f n = some (isTimeB n) := by unfold cam_isTime.f; rw [in_f]; rfl
theorem refTime_f (n : Int) : tr_Time.f n = some (isTimeB n) := by unfold tr_Time.f; rw [refIn_f]; rfl
theorem refMotion_l (u : Int) (l : List Int) (hl : l.length ≤ 1000000000000) : ∀ (q j : Nat), j + q = l.length → Ev (fun k => tr_Motion.l0 k (j : Int) u l) ((decide (1 ≤ u ∧ u ≤ 50) && decide (3 ≤ l.length ∧ l.length ≤ 24)) && (l.drop j).all isO)
 | 0, j, h => by
  obtain rfl : j = l.length := by omega
  refine Ev.step (f := fun _ => some _) (fun k => ?_) (Ev.now _)
  rw [tr_Motion.l0, if_neg (by omega), refIn_f, refIn_f, List.drop_length]
  simp only [Option.bind_some, List.all_nil, Bool.and_true]
  by_cases h1 : 1 ≤ u <;> by_cases h2 : u ≤ 50 <;> by_cases h3 : 3 ≤ l.length <;> by_cases h4 : l.length ≤ 24 <;> simp [h1, h2, h3, h4] <;> omega
 | q + 1, j, h => by
  have hlt : j < l.length := by omega
  have hrd : rd l (j : Int) = l[j] := by simp [rd, List.getD_eq_getElem?_getD, hlt]
  rw [List.drop_eq_getElem_cons hlt, List.all_cons]
  have ih := refMotion_l u l hl q (j + 1) (by omega)
  cases hb : isO l[j] with
  | false =>
   refine Ev.step (f := fun _ => some _) (fun k => ?_) (Ev.now _)
   rw [tr_Motion.l0, if_pos (by omega), if_pos (by omega), refIn_f, hrd]
   simp only [Option.bind_some]
   rw [if_neg (by unfold isO at hb; rw [hb]; simp)]
   simp
  | true =>
   rw [Bool.true_and]
   refine Ev.step (fun k => ?_) ih
   rw [tr_Motion.l0, if_pos (by omega), if_pos (by omega), refIn_f, hrd]
   simp only [Option.bind_some]
   rw [if_pos (by unfold isO at hb; exact hb), w64 _ (by omega)]
   rfl
theorem evR_motion (u : Int) (l : List Int) (hl : l.length ≤ 1000000000000) : Ev (fun k => tr_Motion.f k u l) (isMotionB u l) := by
 have h := refMotion_l u l hl l.length 0 (by omega)
 rw [List.drop_zero] at h
 exact h
section
variable {u : Int} {l : List Int} (h : isMotionB u l = true)
include h
theorem spd_dif {t : Int} (h0 : -1 ≤ t) : spd u l t = u + rd l ((t + 1) % (l.length : Int)) - rd l (t % (l.length : Int)) := by
 have hm := motion_len h
 unfold spd plc
 split
 ·
  rw [show t + (l.length : Int) + 1 = t + 1 + (l.length : Int) by omega, Int.add_emod_right, Int.add_emod_right, show t + 1 + (l.length : Int) = (t + (l.length : Int)) + 1 by omega, Int.add_mul]
  omega
 ·
  rw [Int.add_mul]; omega
theorem spd_turn {t : Int} (h0 : -1 ≤ t) : spd u l (t + (l.length : Int)) = spd u l t := by
 rw [spd_dif h h0, spd_dif h (by omega), show t + (l.length : Int) + 1 = t + 1 + (l.length : Int) by omega, Int.add_emod_right, Int.add_emod_right]
omit h in
theorem sgn_zero (n : Int) : sgn n = 0 ↔ n = 0 := by unfold sgn; split <;> (try split) <;> omega
def flipsF (b : Int) (s : Int → Int) (t : Int) : Nat → Nat → Bool
 | _, 0 => false
 | j, d + 1 => if s (t + j) = 0 then flipsF b s t (j + 1) d else decide (sgn (s (t + j)) ≠ b)
omit h in
theorem flips_F (b t : Int) : ∀ (d j : Nat), flips b ((List.range' j d).map fun (i : Nat) => (t + (i : Int), spd u l (t + (i : Int)))) = flipsF b (spd u l) t j d
 | 0, j => rfl
 | d + 1, j => by
  rw [List.range'_succ, List.map_cons, flips, flipsF, flips_F b t d (j + 1)]
omit h in
theorem station_F (t : Int) : stationB u l t = if sgn (spd u l (t - 1)) = 0 then false else flipsF (sgn (spd u l (t - 1))) (spd u l) t 0 l.length := by
 unfold stationB spL
 rw [List.range_eq_range', flips_F]
def stL (u : Int) (l : List Int) (a b : Int) : List Int := (nums a (b + 1 - a).toNat).filter (stationB u l)
theorem camStation_f (t : Int) (h0 : 0 ≤ t) (h1 : t ≤ 100000) : cam_station.f u l t = some (stationB u l t) := by
 unfold cam_station.f; rw [if_pos ⟨h, h0, h1⟩]
theorem camstations_l (b : Int) (hb : b ≤ 100000) : ∀ (d : Nat) (a : Int) (acc : List Int), 0 ≤ a → d = (b + 1 - a).toNat → acc.length + d ≤ 1000000 → Ev (fun k => cam_stations.l0 k b acc a u l) (acc ++ (nums a d).filter (stationB u l))
 | 0, a, acc, ha, hd, hc => by
  refine Ev.step (f := fun _ => some _) (fun k => ?_) (Ev.now _)
  rw [cam_stations.l0, if_neg (by omega)]
  simp [nums]
 | d + 1, a, acc, ha, hd, hc => by
  have hK := camStation_f h a ha (by omega)
  have ih := fun acc' hc' => camstations_l b hb d (a + 1) acc' (by omega) (by omega) hc'
  rw [nums, List.filter_cons]
  cases hs : stationB u l a with
  | true =>
   rw [hs] at hK
   have := ih (acc ++ [a]) (by simp; omega)
   rw [if_pos rfl, List.append_cons]
   refine Ev.step (fun k => ?_) this
   rw [cam_stations.l0, if_pos (by omega), hK, Option.bind_some, if_pos rfl, if_pos (by omega), w64 _ (by omega)]
  | false =>
   rw [hs] at hK
   refine Ev.step (fun k => ?_) (ih acc (by omega))
   rw [cam_stations.l0, if_pos (by omega), hK, Option.bind_some, if_neg (by simp), w64 _ (by omega)]
theorem evC_stations (a b : Int) (ha : 0 ≤ a) (hb : b ≤ 100000) : Ev (fun k => cam_stations.f k u l a b) (stL u l a b) := by
 have := camstations_l h b hb (b + 1 - a).toNat a [] ha rfl (by simp; omega)
 rw [List.nil_append] at this
 exact this
end
theorem time_bd {n : Int} (h : isTimeB n = true) : 0 ≤ n ∧ n ≤ 2000 := by simpa [isTimeB] using h
theorem evC_Stations (u : Int) (l : List Int) (a b : Int) : Ev (fun k => cam_Stations.f k u l a b) (if isMotionB u l = true ∧ isTimeB a = true ∧ isTimeB b = true ∧ a ≤ b then (stL u l a b, 0) else ([], 2)) := by
 by_cases hm : isMotionB u l = true
 ·
  by_cases ha : isTimeB a = true
  ·
   by_cases hb : isTimeB b = true
   ·
    by_cases hab : a ≤ b
    ·
     rw [if_pos ⟨hm, ha, hb, hab⟩]
     obtain ⟨K, hK⟩ := evC_stations hm a b (time_bd ha).1 (by have := time_bd hb; omega)
     refine ⟨K, fun k hk => ?_⟩
     have e := hK k hk
     simp only [] at e
     show cam_Stations.f k u l a b = _
     unfold cam_Stations.f
     simp only [isMotion_f, isTime_f, Option.bind_some, hm, ha, hb, if_true]
     rw [if_neg (by omega), e]
     rfl
    ·
     rw [if_neg (fun h => hab h.2.2.2)]
     refine Ev.congr (f := fun _ => some _) (fun k => ?_) (Ev.now _)
     unfold cam_Stations.f
     simp only [isMotion_f, isTime_f, Option.bind_some, hm, ha, hb, if_true]
     rw [if_pos (by omega)]
   ·
    rw [if_neg (fun h => hb h.2.2.1)]
    refine Ev.congr (f := fun _ => some _) (fun k => ?_) (Ev.now _)
    unfold cam_Stations.f
    simp only [isMotion_f, isTime_f, Option.bind_some, hm, ha, hb, if_true, if_false, Bool.false_eq_true]
  ·
   rw [if_neg (fun h => ha h.2.1)]
   refine Ev.congr (f := fun _ => some _) (fun k => ?_) (Ev.now _)
   unfold cam_Stations.f
   simp only [isMotion_f, isTime_f, Option.bind_some, hm, ha, if_true, if_false, Bool.false_eq_true]
 ·
  rw [if_neg (fun h => hm h.1)]
  refine Ev.congr (f := fun _ => some _) (fun k => ?_) (Ev.now _)
  unfold cam_Stations.f
  simp only [isMotion_f, Option.bind_some, hm, if_false, Bool.false_eq_true]
theorem stL_len (u : Int) (l : List Int) (a b : Int) : (stL u l a b).length ≤ (b + 1 - a).toNat := by
 unfold stL
 refine Nat.le_trans (List.length_filter_le _ _) ?_
 rw [nums_len]; exact Nat.le_refl _
theorem flipsF_first (b : Int) (s : Int → Int) (t : Int) : ∀ (q j d : Nat), q < d → (∀ i, j ≤ i → i < j + q → s (t + (i : Int)) = 0) → s (t + ((j + q : Nat) : Int)) ≠ 0 → flipsF b s t j d = decide (sgn (s (t + ((j + q : Nat) : Int))) ≠ b)
 | q, j, 0, h, _, _ => by omega
 | 0, j, d + 1, _, _, hs => by
  simp only [Nat.add_zero] at hs ⊢
  rw [flipsF, if_neg hs]
 | q + 1, j, d + 1, h, hz, hs => by
  rw [flipsF, if_pos (hz j (by omega) (by omega))]
  have := flipsF_first b s t q (j + 1) d (by omega) (fun i h1 h2 => hz i (by omega) (by omega)) (by rw [show j + 1 + q = j + (q + 1) by omega]; exact hs)
  rw [this, show j + 1 + q = j + (q + 1) by omega]
theorem flipsF_ex (b : Int) (s : Int → Int) (t : Int) : ∀ (d j : Nat), flipsF b s t j d = true → ∃ q, q < d ∧ (∀ i, j ≤ i → i < j + q → s (t + (i : Int)) = 0) ∧ s (t + ((j + q : Nat) : Int)) ≠ 0 ∧ sgn (s (t + ((j + q : Nat) : Int))) ≠ b
 | 0, j, h => by simp [flipsF] at h
 | d + 1, j, h => by
  rw [flipsF] at h
  by_cases h0 : s (t + (j : Int)) = 0
  ·
   rw [if_pos h0] at h
   obtain ⟨q, h1, h2, h3, h4⟩ := flipsF_ex b s t d (j + 1) h
   refine ⟨q + 1, by omega, fun i h5 h6 => ?_, ?_, ?_⟩
   ·
    by_cases e : i = j
    ·
     subst e; exact h0
    ·
     exact h2 i (by omega) (by omega)
   ·
    rw [show j + (q + 1) = j + 1 + q by omega]; exact h3
   ·
    rw [show j + (q + 1) = j + 1 + q by omega]; exact h4
  ·
   rw [if_neg h0] at h
   exact ⟨0, by omega, fun i h5 h6 => by omega, by simpa using h0, by simpa using h⟩
theorem sgn_pos (n : Int) : sgn n = 1 ↔ 0 < n := by unfold sgn; split <;> (try split) <;> omega
theorem sgn_neg (n : Int) : sgn n = -1 ↔ n < 0 := by unfold sgn; split <;> (try split) <;> omega
section
variable {u : Int} {l : List Int} (h : isMotionB u l = true)
include h
theorem flip_station {i j : Int} (h0 : 0 ≤ i) (hij : i < j) (hi : spd u l i ≠ 0) (hj : spd u l j ≠ 0) (hz : ∀ r, i < r → r < j → spd u l r = 0) (hs : sgn (spd u l j) ≠ sgn (spd u l i)) : stationB u l (i + 1) = true := by
 have hm := motion_len h
 have hn : j ≤ i + (l.length : Int) := by
  by_cases hc : j ≤ i + (l.length : Int)
  ·
   exact hc
  ·
   have := hz (i + (l.length : Int)) (by omega) (by omega)
   rw [spd_turn h (by omega)] at this
   exact absurd this hi
 rw [station_F, show i + 1 - 1 = i by omega, if_neg (fun e => hi ((sgn_zero _).1 e))]
 have := flipsF_first (sgn (spd u l i)) (spd u l) (i + 1) (j - i - 1).toNat 0 l.length (by omega) (fun q h1 h2 => hz _ (by omega) (by omega)) (by rw [show i + 1 + ((0 + (j - i - 1).toNat : Nat) : Int) = j by omega]; exact hj)
 rw [this, show i + 1 + ((0 + (j - i - 1).toNat : Nat) : Int) = j by omega]
 exact decide_eq_true hs
theorem lead (i : Int) (h0 : 0 ≤ i) (hi : spd u l i ≠ 0) : ∀ (d : Nat), (∀ t, i < t → t ≤ i + (d : Int) → stationB u l t = false) → ∃ q, (i ≤ q ∧ q ≤ i + (d : Int)) ∧ spd u l q ≠ 0 ∧ sgn (spd u l q) = sgn (spd u l i) ∧ ∀ r, q < r → r ≤ i + (d : Int) → spd u l r = 0
 | 0, _ => ⟨i, by omega, hi, rfl, fun r h1 h2 => by omega⟩
 | d + 1, hno => by
  obtain ⟨q, h1, h2, h3, h4⟩ := lead i h0 hi d (fun t h1 h2 => hno t h1 (by omega))
  by_cases hz : spd u l (i + ((d + 1 : Nat) : Int)) = 0
  ·
   refine ⟨q, by omega, h2, h3, fun r h5 h6 => ?_⟩
   by_cases e : r = i + ((d + 1 : Nat) : Int)
   ·
    subst e; exact hz
   ·
    exact h4 r h5 (by omega)
  ·
   by_cases hs : sgn (spd u l (i + ((d + 1 : Nat) : Int))) = sgn (spd u l i)
   ·
    exact ⟨_, by omega, hz, hs, fun r h5 h6 => by omega⟩
   ·
    have := flip_station h (i := q) (j := i + ((d + 1 : Nat) : Int)) (by omega) (by omega) h2 hz (fun r h5 h6 => h4 r h5 (by omega)) (by rw [h3]; exact hs)
    rw [hno (q + 1) (by omega) (by omega)] at this
    cases this
theorem same_sign {i j : Int} (h0 : 0 ≤ i) (hij : i ≤ j) (hi : spd u l i ≠ 0) (hno : ∀ t, i < t → t ≤ j → stationB u l t = false) : spd u l j = 0 ∨ sgn (spd u l j) = sgn (spd u l i) := by
 obtain ⟨q, h1, h2, h3, h4⟩ := lead h i h0 hi (j - i).toNat (fun t h1 h2 => hno t h1 (by omega))
 by_cases e : q = j
 ·
  subst e; exact .inr h3
 ·
  exact .inl (h4 j (by omega) (by omega))
theorem station_turn {t : Int} (h0 : 0 ≤ t) : stationB u l (t + (l.length : Int)) = stationB u l t := by
 have hm := motion_len h
 have hf : ∀ (b : Int) (d j : Nat), flipsF b (spd u l) (t + (l.length : Int)) j d = flipsF b (spd u l) t j d := by
  intro b d
  induction d with
  | zero => intro j; rfl
  | succ d ih =>
   intro j
   rw [flipsF, flipsF, ih, show t + (l.length : Int) + (j : Int) = t + (j : Int) + (l.length : Int) by omega, spd_turn h (by omega)]
 rw [station_F, station_F, show t + (l.length : Int) - 1 = t - 1 + (l.length : Int) by omega, spd_turn h (by omega), hf]
theorem stL_turn (a b : Int) (ha : 0 ≤ a) : stL u l (a + (l.length : Int)) (b + (l.length : Int)) = (stL u l a b).map (· + (l.length : Int)) := by
 unfold stL
 rw [show (b + (l.length : Int) + 1 - (a + (l.length : Int))).toNat = (b + 1 - a).toNat by omega, nums_shift]
 exact filter_shift _ _ _ _ fun x hx => station_turn h (by have := (mem_nums _ _ _).1 hx; omega)
theorem station_is {t : Int} (hs : stationB u l t = true) : spd u l (t - 1) ≠ 0 ∧ ∃ q : Nat, q < l.length ∧ (∀ r, t ≤ r → r < t + (q : Int) → spd u l r = 0) ∧ spd u l (t + (q : Int)) ≠ 0 ∧ sgn (spd u l (t + (q : Int))) ≠ sgn (spd u l (t - 1)) := by
 rw [station_F] at hs
 by_cases h0 : sgn (spd u l (t - 1)) = 0
 ·
  rw [if_pos h0] at hs; cases hs
 ·
  rw [if_neg h0] at hs
  obtain ⟨q, h1, h2, h3, h4⟩ := flipsF_ex _ _ _ _ _ hs
  rw [Nat.zero_add] at h3 h4
  refine ⟨fun e => h0 ((sgn_zero _).2 e), q, h1, fun r h5 h6 => ?_, h3, h4⟩
  have := h2 (r - t).toNat (by omega) (by omega)
  rwa [show t + (((r - t).toNat : Nat) : Int) = r by omega] at this
end
theorem mem_stL' {u : Int} {l : List Int} {a b x : Int} : x ∈ stL u l a b ↔ (a ≤ x ∧ x ≤ b) ∧ stationB u l x = true := by
 unfold stL
 rw [List.mem_filter, mem_nums]
 constructor
 ·
  rintro ⟨h1, h2⟩; exact ⟨by omega, h2⟩
 ·
  rintro ⟨h1, h2⟩; exact ⟨by omega, h2⟩
theorem spd_plc (u : Int) (l : List Int) (t : Int) (h : 0 ≤ t) : spd u l t = plc u l (t + 1) - plc u l t := by unfold spd; rw [if_neg (by omega)]
theorem mx_mx (a b : Int) : mx a b = max a b := by unfold mx; split <;> omega
def retK (u : Int) (l : List Int) : List Int → Int → Int → Int → Int × Int × Int
 | a :: b :: t, n, lo, fa => if 0 < spd u l (a - 1) then retK u l (b :: t) (n + 1) (max lo (b - a)) (max fa (plc u l a - plc u l b)) else retK u l (b :: t) n lo fa
 | [_], n, lo, fa => (n, lo, fa)
 | [], n, lo, fa => (n, lo, fa)
theorem drop_two (L : List Int) (i : Nat) (h : i + 1 < L.length) : L.drop i = rd L (i : Int) :: rd L ((i + 1 : Nat) : Int) :: L.drop (i + 2) := by
 rw [List.drop_eq_getElem_cons (by omega), List.drop_eq_getElem_cons h]
 simp [rd, List.getD_eq_getElem?_getD, h, show i < L.length by omega]
theorem drop_one (L : List Int) (i : Nat) (h : i < L.length) : L.drop i = rd L (i : Int) :: L.drop (i + 1) := by
 rw [List.drop_eq_getElem_cons h]
 simp [rd, List.getD_eq_getElem?_getD, h]
theorem retK_end (u : Int) (l L : List Int) (i : Nat) (h : ¬ i + 1 < L.length) (n lo fa : Int) : retK u l (L.drop i) n lo fa = (n, lo, fa) := by
 by_cases h1 : i < L.length
 ·
  rw [drop_one L i h1, List.drop_eq_nil_of_le (by omega)]; rfl
 ·
  rw [List.drop_eq_nil_of_le (by omega)]; rfl
theorem rd_memL (L : List Int) (i : Nat) (h : i < L.length) : rd L (i : Int) ∈ L := by
 simp [rd, List.getD_eq_getElem?_getD, h]
section
variable {u : Int} {l : List Int} (h : isMotionB u l = true) {L : List Int} (hL : ∀ x ∈ L, 0 ≤ x ∧ x ≤ 100000 ∧ spd u l (x - 1) ≠ 0) (hn : L.length ≤ 1000000)
include h hL hn
theorem camRet_l : ∀ (q i : Nat) (n lo fa : Int), i + q = L.length → 0 ≤ n → n ≤ i → Ev (fun k => cam_Retreats.l0 k n lo fa L (i : Int) u l) ((retK u l (L.drop i) n lo fa).1, (retK u l (L.drop i) n lo fa).2.1, (retK u l (L.drop i) n lo fa).2.2, 0)
 | 0, i, n, lo, fa, hi, h0, h1 => by
  rw [retK_end u l L i (by omega)]
  refine Ev.step (f := fun _ => some _) (fun k => ?_) (Ev.now _)
  rw [cam_Retreats.l0, w64 _ (by omega), if_neg (by omega)]
 | q + 1, i, n, lo, fa, hi, h0, h1 => by
  by_cases hlt : i + 1 < L.length
  ·
   rw [drop_two L i hlt, retK]
   have ha := hL _ (rd_memL L i (by omega))
   have hb := hL _ (rd_memL L (i + 1) hlt)
   have ih := fun n' lo' fa' g0 g1 => camRet_l q (i + 1) n' lo' fa' (by omega) g0 g1
   rw [drop_one L (i + 1) hlt] at ih
   have e0 : wrap64 ((i : Int) + 1) = ((i + 1 : Nat) : Int) := by rw [w64 _ (by omega)]; omega
   have e1 : wrap64 (rd L (i : Int) - 1) = rd L (i : Int) - 1 := w64 _ (by omega)
   have s1 := speed_f h (t := rd L (i : Int) - 1) (by omega) (by omega)
   by_cases hs : 0 < spd u l (rd L (i : Int) - 1)
   ·
    rw [if_pos hs]
    refine Ev.step (fun k => ?_) (ih (n + 1) (max lo (rd L ((i + 1 : Nat) : Int) - rd L (i : Int))) (max fa (plc u l (rd L (i : Int)) - plc u l (rd L ((i + 1 : Nat) : Int)))) (by omega) (by omega))
    have p1 := plc_bd h (t := rd L (i : Int)) (by omega) (by omega)
    have p2 := plc_bd h (t := rd L ((i + 1 : Nat) : Int)) (by omega) (by omega)
    rw [cam_Retreats.l0, e0, e1, if_pos (by omega), if_pos (by omega), if_pos (by omega), s1, Option.bind_some, if_neg (by omega), if_pos (by omega), place_f h (by omega) (by omega), Option.bind_some, place_f h (by omega) (by omega), Option.bind_some, w64 (n + 1) (by omega), w64 (rd L ((i + 1 : Nat) : Int) - rd L (i : Int)) (by omega), w64 (plc u l (rd L (i : Int)) - plc u l (rd L ((i + 1 : Nat) : Int))) (by omega), mx_mx, mx_mx]
   ·
    rw [if_neg hs]
    refine Ev.step (fun k => ?_) (ih n lo fa h0 (by omega))
    rw [cam_Retreats.l0, e0, e1, if_pos (by omega), if_pos (by omega), if_pos (by omega), s1, Option.bind_some, if_pos (by omega)]
  ·
   rw [retK_end u l L i hlt]
   refine Ev.step (f := fun _ => some _) (fun k => ?_) (Ev.now _)
   rw [cam_Retreats.l0, w64 _ (by omega), if_neg (by omega)]
end
theorem mem_stL {u : Int} {l : List Int} {a b x : Int} (hx : x ∈ stL u l a b) : (a ≤ x ∧ x ≤ b) ∧ stationB u l x = true := by
 unfold stL at hx
 obtain ⟨h1, h2⟩ := List.mem_filter.1 hx
 have := (mem_nums _ _ _).1 h1
 exact ⟨by omega, h2⟩
theorem station_spd {u : Int} {l : List Int} {t : Int} (hs : stationB u l t = true) : spd u l (t - 1) ≠ 0 := by
 intro h0
 unfold stationB at hs
 rw [if_pos ((sgn_zero _).2 h0)] at hs
 cases hs
def retT (u : Int) (l : List Int) (t : Int) : Int × Int × Int := retK u l (stL u l 0 t) 0 0 0
theorem stL_ok {u : Int} {l : List Int} {t : Int} (ht : t ≤ 100000) : ∀ x ∈ stL u l 0 t, 0 ≤ x ∧ x ≤ 100000 ∧ spd u l (x - 1) ≠ 0 := fun x hx => by
 have := mem_stL hx
 exact ⟨by omega, by omega, station_spd this.2⟩
theorem evC_retreats (u : Int) (l : List Int) (t : Int) : Ev (fun k => cam_Retreats.f k u l t) (if isMotionB u l = true ∧ isTimeB t = true then ((retT u l t).1, (retT u l t).2.1, (retT u l t).2.2, 0) else (0, 0, 0, 2)) := by
 have hbad : Ev (fun k => cam_Retreats.j0 k t true u l) (0, 0, 0, 2) := by
  refine Ev.step (f := fun _ => some _) (fun k => ?_) (Ev.now _)
  rw [cam_Retreats.j0, if_pos rfl]
 by_cases hm : isMotionB u l = true
 ·
  by_cases ht : isTimeB t = true
  ·
   rw [if_pos ⟨hm, ht⟩]
   have hb := time_bd ht
   have hl := stL_len u l 0 t
   have h2 := camRet_l hm (stL_ok (show t ≤ 100000 by omega)) (by omega) (stL u l 0 t).length 0 0 0 0 (by omega) (by omega) (by omega)
   rw [List.drop_zero] at h2
   have h3 : Ev (fun k => cam_Retreats.j0 k t false u l) ((retT u l t).1, (retT u l t).2.1, (retT u l t).2.2, 0) := by
    refine Ev.step (fun k => ?_) (Ev.bind (f := fun k L => cam_Retreats.l0 k 0 0 0 L 0 u l) (evC_stations hm 0 t (by omega) (by omega)) h2)
    rw [cam_Retreats.j0, if_neg (by simp)]
   refine Ev.congr (fun k => ?_) h3
   unfold cam_Retreats.f
   simp only [isMotion_f, isTime_f, Option.bind_some, hm, ht, if_true, Bool.not_true]
  ·
   rw [if_neg (fun h => ht h.2)]
   refine Ev.congr (fun k => ?_) hbad
   unfold cam_Retreats.f
   simp only [isMotion_f, isTime_f, Option.bind_some, hm, ht, if_true, Bool.not_false]
 ·
  rw [if_neg (fun h => hm h.1)]
  refine Ev.congr (fun k => ?_) hbad
  unfold cam_Retreats.f
  simp only [isMotion_f, Option.bind_some, hm, if_false, Bool.false_eq_true]
def Adj (P : Int → Bool) : List Int → Prop
 | a :: b :: t => (a < b ∧ ∀ r, a < r → r < b → P r = false) ∧ Adj P (b :: t)
 | _ => True
theorem filt_adj (P : Int → Bool) : ∀ (d : Nat) (s : Int), Adj P ((nums s d).filter P) ∧ ∀ b t, (nums s d).filter P = b :: t → s ≤ b ∧ ∀ r, s ≤ r → r < b → P r = false
 | 0, s => ⟨trivial, fun b t h => by simp [nums] at h⟩
 | d + 1, s => by
  obtain ⟨h1, h2⟩ := filt_adj P d (s + 1)
  rw [nums, List.filter_cons]
  by_cases hp : P s = true
  ·
   rw [if_pos hp]
   refine ⟨?_, fun b t h => ?_⟩
   ·
    cases hf : (nums (s + 1) d).filter P with
    | nil => trivial
    | cons b t =>
     rw [hf] at h1
     have := h2 b t hf
     exact ⟨⟨by omega, fun r h3 h4 => this.2 r (by omega) h4⟩, h1⟩
   ·
    injection h with h3 h4
    subst h3
    exact ⟨by omega, fun r h5 h6 => by omega⟩
  ·
   rw [if_neg hp]
   refine ⟨h1, fun b t h => ?_⟩
   have := h2 b t h
   refine ⟨by omega, fun r h5 h6 => ?_⟩
   by_cases e : r = s
   ·
    subst e; simpa using hp
   ·
    exact this.2 r (by omega) h6
theorem stL_adj (u : Int) (l : List Int) (a b : Int) : Adj (stationB u l) (stL u l a b) := (filt_adj _ _ _).1
theorem adj_tail {P : Int → Bool} {a : Int} {t : List Int} (h : Adj P (a :: t)) : Adj P t := by
 cases t with
 | nil => trivial
 | cons b t => exact h.2
theorem adj_append {P : Int → Bool} : ∀ (X : List Int) {z y : Int} {Y : List Int}, Adj P (X ++ z :: y :: Y) → z < y ∧ ∀ r, z < r → r < y → P r = false
 | [], _, _, _, h => h.1
 | x :: X, _, _, _, h => adj_append X (adj_tail h)
theorem adj_drop {P : Int → Bool} (L : List Int) (h : Adj P L) : ∀ (i : Nat), Adj P (L.drop i)
 | 0 => h
 | i + 1 => by
  have := adj_drop L h i
  rw [← List.tail_drop]
  cases hd : L.drop i with
  | nil => trivial
  | cons a t => rw [hd] at this; exact adj_tail this
section
variable {u : Int} {l : List Int} (h : isMotionB u l = true)
include h
theorem dir {a r : Int} (h0 : 0 ≤ a) (hst : stationB u l a = true) (har : a ≤ r) (hno : ∀ t, a < t → t ≤ r → stationB u l t = false) : (0 < spd u l (a - 1) → spd u l r ≤ 0) ∧ (spd u l (a - 1) < 0 → 0 ≤ spd u l r) := by
 obtain ⟨h1, q, h2, h3, h4, h5⟩ := station_is h hst
 by_cases hr : r < a + (q : Int)
 ·
  have := h3 r har hr
  omega
 ·
  have hss := same_sign h (i := a + (q : Int)) (j := r) (by omega) (by omega) h4 (fun t h6 h7 => hno t (by omega) h7)
  refine ⟨fun hp => ?_, fun hp => ?_⟩
  ·
   rcases hss with h6 | h6
   ·
    omega
   ·
    have k1 := (sgn_pos _).2 hp
    rw [k1] at h5
    by_cases hpos : 0 < spd u l r
    ·
     rw [(sgn_pos _).2 hpos] at h6
     exact absurd h6.symm h5
    ·
     omega
  ·
   rcases hss with h6 | h6
   ·
    omega
   ·
    have k1 := (sgn_neg _).2 hp
    rw [k1] at h5
    by_cases hneg : spd u l r < 0
    ·
     rw [(sgn_neg _).2 hneg] at h6
     exact absurd h6.symm h5
    ·
     omega
theorem plc_down : ∀ (d : Nat) (x : Int), 0 ≤ x → (∀ r, x ≤ r → r < x + (d : Int) → spd u l r ≤ 0) → plc u l (x + (d : Int)) ≤ plc u l x
 | 0, x, _, _ => by rw [show x + ((0 : Nat) : Int) = x by omega]; exact Int.le_refl _
 | d + 1, x, hx, hr => by
  have h1 := plc_down d (x + 1) (by omega) (fun r h2 h3 => hr r (by omega) (by omega))
  have h2 := hr x (by omega) (by omega)
  rw [spd_plc u l x hx] at h2
  rw [show x + 1 + (d : Int) = x + ((d + 1 : Nat) : Int) by omega] at h1
  generalize plc u l (x + ((d + 1 : Nat) : Int)) = A at h1 ⊢
  omega
theorem plc_up : ∀ (d : Nat) (x : Int), 0 ≤ x → (∀ r, x ≤ r → r < x + (d : Int) → 0 ≤ spd u l r) → plc u l x ≤ plc u l (x + (d : Int))
 | 0, x, _, _ => by rw [show x + ((0 : Nat) : Int) = x by omega]; exact Int.le_refl _
 | d + 1, x, hx, hr => by
  have h1 := plc_up d (x + 1) (by omega) (fun r h2 h3 => hr r (by omega) (by omega))
  have h2 := hr x (by omega) (by omega)
  rw [spd_plc u l x hx] at h2
  rw [show x + 1 + (d : Int) = x + ((d + 1 : Nat) : Int) by omega] at h1
  generalize plc u l (x + ((d + 1 : Nat) : Int)) = A at h1 ⊢
  omega
structure Pair (u : Int) (l : List Int) (a b : Int) : Prop where
 p0 : 0 ≤ a
 lt : a < b
 sa : stationB u l a = true
 sb : stationB u l b = true
 no : ∀ r, a < r → r < b → stationB u l r = false
theorem pair_dir {a b : Int} (p : Pair u l a b) {r : Int} (h1 : a ≤ r) (h2 : r < b) : (0 < spd u l (a - 1) → spd u l r ≤ 0) ∧ (spd u l (a - 1) < 0 → 0 ≤ spd u l r) :=
 dir h p.p0 p.sa h1 fun t h3 h4 => p.no t h3 (by omega)
theorem pair_back {a b : Int} (p : Pair u l a b) (hd : 0 < spd u l (a - 1)) {x y : Int} (h1 : a ≤ x) (h2 : x ≤ y) (h3 : y ≤ b) : plc u l x - plc u l y ≤ plc u l a - plc u l b := by
 have k0 := p.p0
 have g1 := plc_down h (x - a).toNat a p.p0 (fun r h4 h5 => (pair_dir h p h4 (by omega)).1 hd)
 have g2 := plc_down h (b - y).toNat y (by omega) (fun r h4 h5 => (pair_dir h p (by omega) (by omega)).1 hd)
 rw [show a + ((x - a).toNat : Int) = x by omega] at g1
 rw [show y + ((b - y).toNat : Int) = b by omega] at g2
 omega
theorem pair_fwd {a b : Int} (p : Pair u l a b) (hd : spd u l (a - 1) < 0) {x y : Int} (h1 : a ≤ x) (h2 : x ≤ y) (h3 : y ≤ b) : plc u l x ≤ plc u l y := by
 have k0 := p.p0
 have g1 := plc_up h (y - x).toNat x (by omega) (fun r h4 h5 => (pair_dir h p (by omega) (by omega)).2 hd)
 rwa [show x + ((y - x).toNat : Int) = y by omega] at g1
theorem pair_pos {a b : Int} (p : Pair u l a b) (hd : 0 < spd u l (a - 1)) : 0 < plc u l a - plc u l b := by
 have k0 := p.p0
 have k1 := p.lt
 have g1 := pair_back h p hd (x := a) (y := b - 1) (by omega) (by omega) (by omega)
 have g2 := (pair_dir h p (r := b - 1) (by omega) (by omega)).1 hd
 have g3 := (station_is h p.sb).1
 have g4 := spd_plc u l (b - 1) (by omega)
 rw [show b - 1 + 1 = b by omega] at g4
 have g5 := pair_back h p hd (x := b - 1) (y := b) (by omega) (by omega) (by omega)
 have g6 := plc_down h (b - 1 - a).toNat a p.p0 (fun r h4 h5 => (pair_dir h p h4 (by omega)).1 hd)
 rw [show a + ((b - 1 - a).toNat : Int) = b - 1 by omega] at g6
 omega
theorem pair_alt {a b : Int} (p : Pair u l a b) : decide (0 < spd u l (b - 1)) = !decide (0 < spd u l (a - 1)) := by
 have k0 := p.p0
 have k1 := p.lt
 have g1 := pair_dir h p (r := b - 1) (by omega) (by omega)
 have g2 := (station_is h p.sa).1
 have g3 := (station_is h p.sb).1
 by_cases hd : 0 < spd u l (a - 1)
 ·
  have := g1.1 hd
  simp [hd]; omega
 ·
  have := g1.2 (by omega)
  simp [hd]; omega
end
theorem stL_pair {u : Int} {l : List Int} {a b : Int} (ha : 0 ≤ a) (i : Nat) (hi : i + 1 < (stL u l a b).length) : Pair u l (rd (stL u l a b) (i : Int)) (rd (stL u l a b) ((i + 1 : Nat) : Int)) := by
 have hadj := adj_drop _ (stL_adj u l a b) i
 rw [drop_two _ i hi] at hadj
 have m1 := mem_stL'.1 (rd_memL (stL u l a b) i (by omega))
 have m2 := mem_stL'.1 (rd_memL (stL u l a b) (i + 1) hi)
 exact ⟨by omega, hadj.1.1, m1.2, m2.2, hadj.1.2⟩
def cntD (u : Int) (l : List Int) : List Int → Int
 | a :: b :: t => (if 0 < spd u l (a - 1) then 1 else 0) + cntD u l (b :: t)
 | _ => 0
theorem retK_cnt (u : Int) (l : List Int) : ∀ (L : List Int) (n lo fa : Int), (retK u l L n lo fa).1 = n + cntD u l L
 | [], n, lo, fa => by simp [retK, cntD]
 | [a], n, lo, fa => by simp [retK, cntD]
 | a :: b :: t, n, lo, fa => by
  rw [retK, cntD]
  split
  ·
   rw [retK_cnt u l (b :: t)]; omega
  ·
   rw [retK_cnt u l (b :: t)]; omega
theorem cntD_bd (u : Int) (l : List Int) : ∀ (L : List Int), 0 ≤ cntD u l L ∧ cntD u l L ≤ (L.length : Int)
 | [] => by simp [cntD]
 | [a] => by simp [cntD]
 | a :: b :: t => by
  have := cntD_bd u l (b :: t)
  rw [cntD]
  simp only [List.length_cons] at this ⊢
  split <;> omega
theorem retK_mono (u : Int) (l : List Int) : ∀ (L : List Int) (n lo fa : Int), lo ≤ (retK u l L n lo fa).2.1 ∧ fa ≤ (retK u l L n lo fa).2.2
 | [], n, lo, fa => by simp [retK]
 | [a], n, lo, fa => by simp [retK]
 | a :: b :: t, n, lo, fa => by
  rw [retK]
  split
  ·
   have := retK_mono u l (b :: t) (n + 1) (max lo (b - a)) (max fa (plc u l a - plc u l b))
   omega
  ·
   exact retK_mono u l (b :: t) n lo fa
theorem retK_pair (u : Int) (l : List Int) : ∀ (L : List Int) (n lo fa : Int) (i : Nat), i + 1 < L.length → 0 < spd u l (rd L (i : Int) - 1) → rd L ((i + 1 : Nat) : Int) - rd L (i : Int) ≤ (retK u l L n lo fa).2.1 ∧ plc u l (rd L (i : Int)) - plc u l (rd L ((i + 1 : Nat) : Int)) ≤ (retK u l L n lo fa).2.2
 | [], n, lo, fa, i, h, _ => by simp at h
 | [a], n, lo, fa, i, h, _ => by simp at h
 | a :: b :: t, n, lo, fa, 0, h, hd => by
  have e0 : rd (a :: b :: t) ((0 : Nat) : Int) = a := by simp [rd]
  have e1 : rd (a :: b :: t) ((0 + 1 : Nat) : Int) = b := by simp [rd]
  rw [e0] at hd ⊢
  rw [e1, retK, if_pos hd]
  have := retK_mono u l (b :: t) (n + 1) (max lo (b - a)) (max fa (plc u l a - plc u l b))
  omega
 | a :: b :: t, n, lo, fa, i + 1, h, hd => by
  have e0 : ∀ j : Nat, rd (a :: b :: t) ((j + 1 : Nat) : Int) = rd (b :: t) (j : Int) := fun j => by simp [rd]
  rw [e0] at hd ⊢
  rw [e0, retK]
  split
  ·
   exact retK_pair u l (b :: t) _ _ _ i (by simpa using h) hd
  ·
   exact retK_pair u l (b :: t) _ _ _ i (by simpa using h) hd
theorem retK_zero (u : Int) (l : List Int) : ∀ (L : List Int) (n lo fa : Int), 0 ≤ lo → 0 ≤ fa → (∀ i : Nat, i + 1 < L.length → 0 < spd u l (rd L (i : Int) - 1) → 0 < rd L ((i + 1 : Nat) : Int) - rd L (i : Int) ∧ 0 < plc u l (rd L (i : Int)) - plc u l (rd L ((i + 1 : Nat) : Int))) →
  (cntD u l L = 0 → (retK u l L n lo fa).2.1 = lo ∧ (retK u l L n lo fa).2.2 = fa) ∧ (cntD u l L ≠ 0 → 0 < (retK u l L n lo fa).2.1 ∧ 0 < (retK u l L n lo fa).2.2)
 | [], n, lo, fa, _, _, _ => by simp [retK, cntD]
 | [a], n, lo, fa, _, _, _ => by simp [retK, cntD]
 | a :: b :: t, n, lo, fa, h1, h2, hp => by
  have e0 : ∀ j : Nat, rd (a :: b :: t) ((j + 1 : Nat) : Int) = rd (b :: t) (j : Int) := fun j => by simp [rd]
  have ea : rd (a :: b :: t) ((0 : Nat) : Int) = a := by simp [rd]
  have eb : rd (a :: b :: t) ((0 + 1 : Nat) : Int) = b := by simp [rd]
  have hp' : ∀ i : Nat, i + 1 < (b :: t).length → 0 < spd u l (rd (b :: t) (i : Int) - 1) → 0 < rd (b :: t) ((i + 1 : Nat) : Int) - rd (b :: t) (i : Int) ∧ 0 < plc u l (rd (b :: t) (i : Int)) - plc u l (rd (b :: t) ((i + 1 : Nat) : Int)) := fun i h3 h4 => by
   have := hp (i + 1) (by simpa using h3) (by rw [e0]; exact h4)
   rwa [e0, e0] at this
  rw [retK, cntD]
  have hb := cntD_bd u l (b :: t)
  by_cases hd : 0 < spd u l (a - 1)
  ·
   rw [if_pos hd, if_pos hd]
   have h0 := hp 0 (by simp) (by rw [ea]; exact hd)
   rw [ea, eb] at h0
   have hm := retK_mono u l (b :: t) (n + 1) (max lo (b - a)) (max fa (plc u l a - plc u l b))
   exact ⟨fun h => by omega, fun _ => by omega⟩
  ·
   rw [if_neg hd, if_neg hd, Int.zero_add]
   exact retK_zero u l (b :: t) n lo fa h1 h2 hp'
def downs (u : Int) (l : List Int) : List Int → Int
 | [] => 0
 | a :: t => (if 0 < spd u l (a - 1) then 1 else 0) + downs u l t
theorem cntD_last (u : Int) (l : List Int) (z : Int) : ∀ (X : List Int), cntD u l (X ++ [z]) = downs u l X
 | [] => rfl
 | [a] => by simp [cntD, downs]
 | a :: b :: t => by
  have := cntD_last u l z (b :: t)
  rw [List.cons_append] at this
  rw [List.cons_append, List.cons_append, cntD, this]
  rfl
theorem cntD_app (u : Int) (l : List Int) (z y : Int) (Y : List Int) : ∀ (X : List Int), cntD u l (X ++ z :: y :: Y) = cntD u l (X ++ [z]) + (if 0 < spd u l (z - 1) then 1 else 0) + cntD u l (y :: Y)
 | [] => by simp [cntD]
 | [a] => by simp [cntD]; omega
 | a :: b :: t => by
  have := cntD_app u l z y Y (b :: t)
  rw [List.cons_append, List.cons_append] at this
  rw [List.cons_append, List.cons_append, List.cons_append, List.cons_append, cntD, this, cntD]; omega
theorem downs_app (u : Int) (l : List Int) : ∀ (X Y : List Int), downs u l (X ++ Y) = downs u l X + downs u l Y
 | [], Y => by simp [downs]
 | a :: X, Y => by rw [List.cons_append, downs, downs, downs_app u l X Y]; omega
def Alt (u : Int) (l : List Int) : List Int → Prop
 | a :: b :: t => decide (0 < spd u l (b - 1)) = !decide (0 < spd u l (a - 1)) ∧ Alt u l (b :: t)
 | _ => True
theorem alt_downs (u : Int) (l : List Int) : ∀ (X : List Int) (a z : Int), Alt u l (a :: X) → (a :: X).getLast? = some z → 2 * downs u l (a :: X) = ((a :: X).length : Int) + (if decide (0 < spd u l (a - 1)) = decide (0 < spd u l (z - 1)) then (if 0 < spd u l (a - 1) then 1 else -1) else 0)
 | [], a, z, _, hz => by
  simp at hz
  subst hz
  simp only [downs, List.length_singleton, if_true]
  split <;> omega
 | b :: X, a, z, h, hz => by
  have hz' : (b :: X).getLast? = some z := by simpa [List.getLast?_cons_cons] using hz
  have ih := alt_downs u l X b z h.2 hz'
  have h1 := h.1
  rw [downs, Int.mul_add, ih]
  simp only [List.length_cons]
  by_cases ka : 0 < spd u l (a - 1) <;> by_cases kb : 0 < spd u l (b - 1) <;> by_cases kz : 0 < spd u l (z - 1) <;> simp [ka, kb, kz] at h1 ⊢ <;> omega
section
variable {u : Int} {l : List Int} (h : isMotionB u l = true)
include h
theorem adj_alt : ∀ (L : List Int), Adj (stationB u l) L → (∀ x ∈ L, 0 ≤ x ∧ stationB u l x = true) → Alt u l L
 | [], _, _ => trivial
 | [a], _, _ => trivial
 | a :: b :: t, hadj, hx => by
  refine ⟨pair_alt h ⟨(hx a (by simp)).1, hadj.1.1, (hx a (by simp)).2, (hx b (by simp)).2, hadj.1.2⟩, adj_alt (b :: t) hadj.2 fun x hm => hx x (by simp at hm ⊢; exact .inr hm)⟩
theorem stL_split (a b c : Int) (h1 : a ≤ b + 1) (h2 : b ≤ c) : stL u l a c = stL u l a b ++ stL u l (b + 1) c := by
 unfold stL
 rw [show (c + 1 - a).toNat = (b + 1 - a).toNat + (c + 1 - (b + 1)).toNat by omega, nums_add, List.filter_append, show a + ((b + 1 - a).toNat : Int) = b + 1 by omega]
theorem cntD_shift : ∀ (L : List Int), (∀ x ∈ L, 0 ≤ x) → cntD u l (L.map (· + (l.length : Int))) = cntD u l L
 | [], _ => rfl
 | [a], _ => rfl
 | a :: b :: t, hx => by
  have ih := cntD_shift (b :: t) fun x hm => hx x (by simp at hm ⊢; exact .inr hm)
  have ha := hx a (by simp)
  rw [List.map_cons, List.map_cons, cntD, cntD]
  rw [List.map_cons] at ih
  rw [ih, show a + (l.length : Int) - 1 = a - 1 + (l.length : Int) by omega, spd_turn h (by omega)]
theorem one_more (t : Int) (ht : 2 * (l.length : Int) ≤ t) : ((stL u l (t - (l.length : Int) + 1) t).length : Int) % 2 = 0 ∧ cntD u l (stL u l 0 (t + (l.length : Int))) = cntD u l (stL u l 0 t) + ((stL u l (t - (l.length : Int) + 1) t).length : Int) / 2 := by
 have hm := motion_len h
 have e1 := stL_split h 0 t (t + (l.length : Int)) (by omega) (by omega)
 have e2 := stL_split h 0 (t - (l.length : Int)) t (by omega) (by omega)
 have e3 := stL_turn h (t - (l.length : Int) + 1) t (by omega)
 rw [show t - (l.length : Int) + 1 + (l.length : Int) = t + 1 by omega] at e3
 have hadj := stL_adj u l 0 (t + (l.length : Int))
 rw [e1, e3]
 rw [e1, e3, e2] at hadj
 rw [e2]
 have hmem : ∀ x ∈ stL u l (t - (l.length : Int) + 1) t, 0 ≤ x ∧ stationB u l x = true := fun x hx => by have := mem_stL'.1 hx; exact ⟨by omega, this.2⟩
 have hadjT := stL_adj u l (t - (l.length : Int) + 1) t
 generalize hT : stL u l (t - (l.length : Int) + 1) t = T at hmem hadj hadjT ⊢
 cases hc : T with
 | nil => simp
 | cons y Y =>
  subst hc
  obtain ⟨X, z, hX⟩ : ∃ X z, y :: Y = X ++ [z] := ⟨(y :: Y).dropLast, (y :: Y).getLast (by simp), (List.dropLast_concat_getLast (by simp)).symm⟩
  have hlast : (y :: Y).getLast? = some z := by rw [hX]; simp
  have hy := hmem y (by simp)
  have hzm : z ∈ y :: Y := by rw [hX]; simp
  have hz := hmem z hzm
  have hsh : stationB u l (y + (l.length : Int)) = true := by rw [station_turn h hy.1]; exact hy.2
  have hadj2 := hadj
  rw [hX, List.map_append] at hadj2
  have hcons : (stL u l 0 (t - (l.length : Int)) ++ (y :: Y)) ++ (y :: Y).map (· + (l.length : Int)) = (stL u l 0 (t - (l.length : Int)) ++ X) ++ z :: (y + (l.length : Int)) :: Y.map (· + (l.length : Int)) := by
   rw [List.map_cons, hX]
   simp
  rw [hcons] at hadj
  have hpz := adj_append _ hadj
  have halt := pair_alt h ⟨hz.1, hpz.1, hz.2, hsh, hpz.2⟩
  rw [show y + (l.length : Int) - 1 = y - 1 + (l.length : Int) by omega, spd_turn h (by omega)] at halt
  have hd := alt_downs u l Y y z (adj_alt h (y :: Y) hadjT hmem) hlast
  have hd2 : 2 * downs u l (y :: Y) = ((y :: Y).length : Int) := by
   rw [hd, if_neg (by rw [halt]; simp), Int.add_zero]
  have hcnt : cntD u l (y :: Y) = downs u l X := by rw [hX]; exact cntD_last u l z X
  have hdX : downs u l (y :: Y) = downs u l X + (if 0 < spd u l (z - 1) then 1 else 0) := by rw [hX, downs_app]; simp [downs]
  refine ⟨by omega, ?_⟩
  rw [hcons, cntD_app, List.append_assoc, ← hX]
  have hs := cntD_shift h (y :: Y) fun x hx => (hmem x hx).1
  rw [List.map_cons] at hs
  rw [hs, hcnt]
  omega
end
end Go.Proofs.YtbjimmemcmjpcabGreatDoor.Print
end

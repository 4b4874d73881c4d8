/- The law's Go function answers true for every input, and leaves its arguments as they were: its parts, the plain law, the row, the card. Joined by wip/pack.py. -/
import Derived.Test.YtbjimmemcmjpcabGreatDoorLR2
import Derived.Test.YtbjimmemcmjpcabGreatDoorB19
import Derived.Test.YtbjimmemcmjpcabGreatDoorLR1
section
set_option linter.unusedVariables false
set_option linter.unusedSimpArgs false
namespace Go.Proofs.YtbjimmemcmjpcabGreatDoor.Print
open Go.RowKit Go.Proofs.YtbjimmemcmjpcabGreatDoorW.PrintWords Go.Proofs.YtbjimmemcmjpcabGreatDoorW.PrintLast Go.Proofs.YtbjimmemcmjpcabGreatDoorW.PrintMore
def isTimeB (n : Int) : Bool := decide (0 ≤ n) && decide (n ≤ 2000)
theorem isTime_f (n : Int) : cam_isTime.f n = some (isTimeB n) := by unfold cam_isTime.f; rw [in_f]; rfl
theorem refTime_f (n : Int) : tellurionref04_Time.f n = some (isTimeB n) := by unfold tellurionref04_Time.f; rw [refIn_f]; rfl
theorem refMotion_l (u : Int) (l : List Int) (hl : l.length ≤ 1000000000000) : ∀ (q j : Nat), j + q = l.length → Ev (fun k => tellurionref04_Motion.l0 k (j : Int) u l) ((decide (1 ≤ u ∧ u ≤ 50) && decide (3 ≤ l.length ∧ l.length ≤ 24)) && (l.drop j).all isO)
  | 0, j, h => by
    obtain rfl : j = l.length := by omega
    refine Ev.step (f := fun _ => some _) (fun k => ?_) (Ev.now _)
    rw [tellurionref04_Motion.l0, if_neg (by omega), refIn_f, refIn_f, List.drop_length]
    simp only [Option.bind_some, List.all_nil, Bool.and_true]
    by_cases h1 : 1 ≤ u <;> by_cases h2 : u ≤ 50 <;> by_cases h3 : 3 ≤ l.length <;> by_cases h4 : l.length ≤ 24 <;> simp [h1, h2, h3, h4] <;> omega
  | q + 1, j, h => by
    have hlt : j < l.length := by omega
    have hrd : rd l (j : Int) = l[j] := by simp [rd, List.getD_eq_getElem?_getD, hlt]
    rw [List.drop_eq_getElem_cons hlt, List.all_cons]
    have ih := refMotion_l u l hl q (j + 1) (by omega)
    cases hb : isO l[j] with
    | false =>
      refine Ev.step (f := fun _ => some _) (fun k => ?_) (Ev.now _)
      rw [tellurionref04_Motion.l0, if_pos (by omega), if_pos (by omega), refIn_f, hrd]
      simp only [Option.bind_some]
      rw [if_neg (by unfold isO at hb; rw [hb]; simp)]
      simp
    | true =>
      rw [Bool.true_and]
      refine Ev.step (fun k => ?_) ih
      rw [tellurionref04_Motion.l0, if_pos (by omega), if_pos (by omega), refIn_f, hrd]
      simp only [Option.bind_some]
      rw [if_pos (by unfold isO at hb; exact hb), w64 _ (by omega)]
      rfl
theorem evR_motion (u : Int) (l : List Int) (hl : l.length ≤ 1000000000000) : Ev (fun k => tellurionref04_Motion.f k u l) (isMotionB u l) := by
  have h := refMotion_l u l hl l.length 0 (by omega)
  rw [List.drop_zero] at h
  exact h
section
variable {u : Int} {l : List Int} (h : isMotionB u l = true)
include h
theorem refPlace_f {t : Int} (h0 : 0 ≤ t) (h1 : t ≤ 1000000) : tellurionref04_Place.f u l t = some (plc u l t) := by
  have hp := place_f h h0 h1
  unfold cam_place.f at hp
  unfold tellurionref04_Place.f
  exact hp
theorem spd_dif {t : Int} (h0 : -1 ≤ t) : spd u l t = u + rd l ((t + 1) % (l.length : Int)) - rd l (t % (l.length : Int)) := by
  have hm := motion_len h
  unfold spd plc
  split
  · rw [show t + (l.length : Int) + 1 = t + 1 + (l.length : Int) by omega, Int.add_emod_right, Int.add_emod_right, show t + 1 + (l.length : Int) = (t + (l.length : Int)) + 1 by omega, Int.add_mul]
    omega
  · rw [Int.add_mul]; omega
theorem spd_turn {t : Int} (h0 : -1 ≤ t) : spd u l (t + (l.length : Int)) = spd u l t := by
  rw [spd_dif h h0, spd_dif h (by omega), show t + (l.length : Int) + 1 = t + 1 + (l.length : Int) by omega, Int.add_emod_right, Int.add_emod_right]
theorem refSpeed_f {t : Int} (h0 : -1 ≤ t) (h1 : t ≤ 900000) : tellurionref04_Speed.f u l t = some (spd u l t) := by
  have hm := motion_len h
  have e1 : wrap64 (t + (l.length : Int)) = t + (l.length : Int) := w64 _ (by omega)
  have e2 : Int.tmod (t + (l.length : Int)) (l.length : Int) = t % (l.length : Int) := by rw [Int.tmod_eq_emod_of_nonneg (by omega), Int.add_emod_right]
  have e3 := Int.emod_nonneg t (show (l.length : Int) ≠ 0 by omega)
  have e4 := Int.emod_lt_of_pos t (show (0 : Int) < (l.length : Int) by omega)
  have e5 : wrap64 (t % (l.length : Int) + 1) = t % (l.length : Int) + 1 := w64 _ (by omega)
  have p1 := plc_bd h (t := t % (l.length : Int) + 1) (by omega) (by omega)
  have p2 := plc_bd h (t := t % (l.length : Int)) (by omega) (by omega)
  unfold tellurionref04_Speed.f
  rw [if_neg (by omega), e1, e2, e5, refPlace_f h (by omega) (by omega), refPlace_f h (by omega) (by omega)]
  simp only [Option.bind_some]
  rw [w64 _ (by omega), spd_dif h h0]
  unfold plc
  rw [Int.emod_emod_of_dvd _ (Int.dvd_refl _), Int.add_mul, Int.emod_add_emod]
  congr 1; omega
omit h in
theorem refSign_f (n : Int) : tellurionref04_sign.f n = some (sgn n) := by
  unfold tellurionref04_sign.f sgn mn
  split <;> (try rfl)
  congr 1
  split <;> split <;> omega
omit h in
theorem sgn_zero (n : Int) : sgn n = 0 ↔ n = 0 := by unfold sgn; split <;> (try split) <;> omega
def flipsF (b : Int) (s : Int → Int) (t : Int) : Nat → Nat → Bool
  | _, 0 => false
  | j, d + 1 => if s (t + j) = 0 then flipsF b s t (j + 1) d else decide (sgn (s (t + j)) ≠ b)
omit h in
theorem flips_F (b t : Int) : ∀ (d j : Nat), flips b ((List.range' j d).map fun (i : Nat) => (t + (i : Int), spd u l (t + (i : Int)))) = flipsF b (spd u l) t j d
  | 0, j => rfl
  | d + 1, j => by
    rw [List.range'_succ, List.map_cons, flips, flipsF, flips_F b t d (j + 1)]
omit h in
theorem station_F (t : Int) : stationB u l t = if sgn (spd u l (t - 1)) = 0 then false else flipsF (sgn (spd u l (t - 1))) (spd u l) t 0 l.length := by
  unfold stationB spL
  rw [List.range_eq_range', flips_F]
theorem refStation_l (t b : Int) (h0 : 0 ≤ t) (h1 : t ≤ 100000) : ∀ (q j : Nat), j + q = l.length → (∀ i, i < j → spd u l (t + (i : Int)) = 0) → Ev (fun k => tellurionref04_Station.l0 k t b (j : Int) u l) (flipsF b (spd u l) t j q)
  | 0, j, hj, hz => by
    have hm := motion_len h
    obtain rfl : j = l.length := by omega
    have hend : Ev (fun k => tellurionref04_Station.l0 k t b ((l.length : Int) + 1) u l) false := by
      refine Ev.step (f := fun _ => some false) (fun k => ?_) (Ev.now _)
      rw [tellurionref04_Station.l0, if_neg (by omega)]
    refine Ev.step (fun k => ?_) hend
    rw [tellurionref04_Station.l0, if_pos (by omega), w64 _ (by omega), refSpeed_f h (by omega) (by omega), spd_turn h (by omega), Option.bind_some, refSign_f, Option.bind_some]
    have hz0 := hz 0 (by omega)
    rw [show t + ((0 : Nat) : Int) = t by omega] at hz0
    rw [if_pos ((sgn_zero _).2 hz0), w64 _ (by omega)]
  | q + 1, j, hj, hz => by
    have hm := motion_len h
    rw [flipsF]
    by_cases hs : spd u l (t + (j : Int)) = 0
    · rw [if_pos hs]
      refine Ev.step (fun k => ?_) (refStation_l t b h0 h1 q (j + 1) (by omega) (fun i hi => by
        by_cases e : i = j
        · subst e; exact hs
        · exact hz i (by omega)))
      rw [tellurionref04_Station.l0, if_pos (by omega), w64 _ (by omega), refSpeed_f h (by omega) (by omega), Option.bind_some, refSign_f, Option.bind_some, if_pos ((sgn_zero _).2 hs), w64 _ (by omega)]
      rfl
    · rw [if_neg hs]
      refine Ev.step (f := fun _ => some _) (fun k => ?_) (Ev.now _)
      rw [tellurionref04_Station.l0, if_pos (by omega), w64 _ (by omega), refSpeed_f h (by omega) (by omega), Option.bind_some, refSign_f, Option.bind_some, if_neg (fun e => hs ((sgn_zero _).1 e))]
      congr 1
      by_cases e : sgn (spd u l (t + (j : Int))) = b <;> simp [e]
theorem evR_station (t : Int) (h0 : 0 ≤ t) (h1 : t ≤ 100000) : Ev (fun k => tellurionref04_Station.f k u l t) (stationB u l t) := by
  rw [station_F]
  have hs := refSpeed_f h (t := t - 1) (by omega) (by omega)
  split
  · rename_i hz
    refine Ev.congr (f := fun _ => some false) (fun k => ?_) (Ev.now _)
    unfold tellurionref04_Station.f
    rw [w64 _ (by omega), hs, Option.bind_some, refSign_f, Option.bind_some, if_pos hz]
  · rename_i hz
    refine Ev.congr (fun k => ?_) (refStation_l h t (sgn (spd u l (t - 1))) h0 h1 l.length 0 (by omega) (fun i hi => by omega))
    unfold tellurionref04_Station.f
    rw [w64 _ (by omega), hs, Option.bind_some, refSign_f, Option.bind_some, if_neg hz]
    rfl
def stL (u : Int) (l : List Int) (a b : Int) : List Int := (nums a (b + 1 - a).toNat).filter (stationB u l)
theorem refStations_l (b : Int) (hb : b ≤ 100000) : ∀ (d : Nat) (a : Int) (acc : List Int), 0 ≤ a → d = (b + 1 - a).toNat → acc.length + d ≤ 1000000 → Ev (fun k => tellurionref04_Stations.l0 k b acc a u l) (acc ++ (nums a d).filter (stationB u l))
  | 0, a, acc, ha, hd, hc => by
    refine Ev.step (f := fun _ => some _) (fun k => ?_) (Ev.now _)
    rw [tellurionref04_Stations.l0, if_neg (by omega)]
    simp [nums]
  | d + 1, a, acc, ha, hd, hc => by
    obtain ⟨K, hK⟩ := evR_station h a ha (by omega)
    have ih := fun acc' hc' => refStations_l b hb d (a + 1) acc' (by omega) (by omega) hc'
    rw [nums, List.filter_cons]
    cases hs : stationB u l a with
    | true =>
      rw [hs] at hK
      obtain ⟨K2, h2⟩ := ih (acc ++ [a]) (by simp; omega)
      refine ⟨K + K2 + 1, fun k hk => ?_⟩
      obtain ⟨m, rfl⟩ : ∃ m, k = m + 1 := ⟨k - 1, by omega⟩
      have e1 := hK m (by omega)
      have e2 := h2 m (by omega)
      simp only [] at e1 e2
      show tellurionref04_Stations.l0 (m + 1) b acc a u l = _
      rw [tellurionref04_Stations.l0, if_pos (by omega), e1, Option.bind_some, if_pos rfl, if_pos (by omega), w64 _ (by omega), e2]
      simp
    | false =>
      rw [hs] at hK
      obtain ⟨K2, h2⟩ := ih acc (by omega)
      refine ⟨K + K2 + 1, fun k hk => ?_⟩
      obtain ⟨m, rfl⟩ : ∃ m, k = m + 1 := ⟨k - 1, by omega⟩
      have e1 := hK m (by omega)
      have e2 := h2 m (by omega)
      simp only [] at e1 e2
      show tellurionref04_Stations.l0 (m + 1) b acc a u l = _
      rw [tellurionref04_Stations.l0, if_pos (by omega), e1, Option.bind_some, if_neg (by simp), w64 _ (by omega), e2]
      simp
theorem evR_stations (a b : Int) (ha : 0 ≤ a) (hb : b ≤ 100000) : Ev (fun k => tellurionref04_Stations.f k u l a b) (stL u l a b) := by
  have := refStations_l h b hb (b + 1 - a).toNat a [] ha rfl (by simp; omega)
  rw [List.nil_append] at this
  exact this
theorem camStation_f (t : Int) (h0 : 0 ≤ t) (h1 : t ≤ 100000) : cam_station.f u l t = some (stationB u l t) := by
  unfold cam_station.f; rw [if_pos ⟨h, h0, h1⟩]
theorem camstations_l (b : Int) (hb : b ≤ 100000) : ∀ (d : Nat) (a : Int) (acc : List Int), 0 ≤ a → d = (b + 1 - a).toNat → acc.length + d ≤ 1000000 → Ev (fun k => cam_stations.l0 k b acc a u l) (acc ++ (nums a d).filter (stationB u l))
  | 0, a, acc, ha, hd, hc => by
    refine Ev.step (f := fun _ => some _) (fun k => ?_) (Ev.now _)
    rw [cam_stations.l0, if_neg (by omega)]
    simp [nums]
  | d + 1, a, acc, ha, hd, hc => by
    have hK := camStation_f h a ha (by omega)
    have ih := fun acc' hc' => camstations_l b hb d (a + 1) acc' (by omega) (by omega) hc'
    rw [nums, List.filter_cons]
    cases hs : stationB u l a with
    | true =>
      rw [hs] at hK
      have := ih (acc ++ [a]) (by simp; omega)
      rw [if_pos rfl, List.append_cons]
      refine Ev.step (fun k => ?_) this
      rw [cam_stations.l0, if_pos (by omega), hK, Option.bind_some, if_pos rfl, if_pos (by omega), w64 _ (by omega)]
    | false =>
      rw [hs] at hK
      refine Ev.step (fun k => ?_) (ih acc (by omega))
      rw [cam_stations.l0, if_pos (by omega), hK, Option.bind_some, if_neg (by simp), w64 _ (by omega)]
theorem evC_stations (a b : Int) (ha : 0 ≤ a) (hb : b ≤ 100000) : Ev (fun k => cam_stations.f k u l a b) (stL u l a b) := by
  have := camstations_l h b hb (b + 1 - a).toNat a [] ha rfl (by simp; omega)
  rw [List.nil_append] at this
  exact this
end
theorem time_bd {n : Int} (h : isTimeB n = true) : 0 ≤ n ∧ n ≤ 2000 := by simpa [isTimeB] using h
theorem stL_len (u : Int) (l : List Int) (a b : Int) : (stL u l a b).length ≤ (b + 1 - a).toNat := by
  unfold stL
  refine Nat.le_trans (List.length_filter_le _ _) ?_
  rw [nums_len]; exact Nat.le_refl _
end Go.Proofs.YtbjimmemcmjpcabGreatDoor.Print
end
section
set_option linter.unusedVariables false
set_option linter.unusedSimpArgs false
namespace Go.Proofs.YtbjimmemcmjpcabGreatDoor.Print
open Go.RowKit Go.Proofs.YtbjimmemcmjpcabGreatDoorW.PrintWords Go.Proofs.YtbjimmemcmjpcabGreatDoorW.PrintLast Go.Proofs.YtbjimmemcmjpcabGreatDoorW.PrintMore
theorem mx_mx (a b : Int) : mx a b = max a b := by unfold mx; split <;> omega
def retK (u : Int) (l : List Int) : List Int → Int → Int → Int → Int × Int × Int
  | a :: b :: t, n, lo, fa => if 0 < spd u l (a - 1) then retK u l (b :: t) (n + 1) (max lo (b - a)) (max fa (plc u l a - plc u l b)) else retK u l (b :: t) n lo fa
  | [_], n, lo, fa => (n, lo, fa)
  | [], n, lo, fa => (n, lo, fa)
theorem drop_two (L : List Int) (i : Nat) (h : i + 1 < L.length) : L.drop i = rd L (i : Int) :: rd L ((i + 1 : Nat) : Int) :: L.drop (i + 2) := by
  rw [List.drop_eq_getElem_cons (by omega), List.drop_eq_getElem_cons h]
  simp [rd, List.getD_eq_getElem?_getD, h, show i < L.length by omega]
theorem drop_one (L : List Int) (i : Nat) (h : i < L.length) : L.drop i = rd L (i : Int) :: L.drop (i + 1) := by
  rw [List.drop_eq_getElem_cons h]
  simp [rd, List.getD_eq_getElem?_getD, h]
theorem retK_end (u : Int) (l L : List Int) (i : Nat) (h : ¬ i + 1 < L.length) (n lo fa : Int) : retK u l (L.drop i) n lo fa = (n, lo, fa) := by
  by_cases h1 : i < L.length
  · rw [drop_one L i h1, List.drop_eq_nil_of_le (by omega)]; rfl
  · rw [List.drop_eq_nil_of_le (by omega)]; rfl
theorem rd_memL (L : List Int) (i : Nat) (h : i < L.length) : rd L (i : Int) ∈ L := by
  simp [rd, List.getD_eq_getElem?_getD, h]
section
variable {u : Int} {l : List Int} (h : isMotionB u l = true) {L : List Int} (hL : ∀ x ∈ L, 0 ≤ x ∧ x ≤ 100000 ∧ spd u l (x - 1) ≠ 0) (hn : L.length ≤ 1000000)
include h hL hn
theorem refRet_l : ∀ (q i : Nat) (n lo fa : Int), i + q = L.length → 0 ≤ n → n ≤ i → Ev (fun k => tellurionref04_Retreats.l0 k L n lo fa (i : Int) u l) (retK u l (L.drop i) n lo fa)
  | 0, i, n, lo, fa, hi, h0, h1 => by
    rw [retK_end u l L i (by omega)]
    refine Ev.step (f := fun _ => some _) (fun k => ?_) (Ev.now _)
    rw [tellurionref04_Retreats.l0, w64 _ (by omega), if_neg (by omega)]
  | q + 1, i, n, lo, fa, hi, h0, h1 => by
    by_cases hlt : i + 1 < L.length
    · rw [drop_two L i hlt, retK]
      have ha := hL _ (rd_memL L i (by omega))
      have hb := hL _ (rd_memL L (i + 1) hlt)
      have ih := fun n' lo' fa' g0 g1 => refRet_l q (i + 1) n' lo' fa' (by omega) g0 g1
      rw [drop_one L (i + 1) hlt] at ih
      have e0 : wrap64 ((i : Int) + 1) = ((i + 1 : Nat) : Int) := by rw [w64 _ (by omega)]; omega
      have e1 : wrap64 (rd L (i : Int) - 1) = rd L (i : Int) - 1 := w64 _ (by omega)
      have s1 := refSpeed_f h (t := rd L (i : Int) - 1) (by omega) (by omega)
      by_cases hs : 0 < spd u l (rd L (i : Int) - 1)
      · rw [if_pos hs]
        refine Ev.step (fun k => ?_) (ih (n + 1) (max lo (rd L ((i + 1 : Nat) : Int) - rd L (i : Int))) (max fa (plc u l (rd L (i : Int)) - plc u l (rd L ((i + 1 : Nat) : Int)))) (by omega) (by omega))
        have p1 := plc_bd h (t := rd L (i : Int)) (by omega) (by omega)
        have p2 := plc_bd h (t := rd L ((i + 1 : Nat) : Int)) (by omega) (by omega)
        rw [tellurionref04_Retreats.l0, e0, e1, if_pos (by omega), if_pos (by omega), if_pos (by omega), s1, Option.bind_some, if_pos hs, if_pos (by omega), refPlace_f h (by omega) (by omega), Option.bind_some, refPlace_f h (by omega) (by omega), Option.bind_some, w64 (n + 1) (by omega), w64 (rd L ((i + 1 : Nat) : Int) - rd L (i : Int)) (by omega), w64 (plc u l (rd L (i : Int)) - plc u l (rd L ((i + 1 : Nat) : Int))) (by omega), mx_mx, mx_mx]
      · rw [if_neg hs]
        refine Ev.step (fun k => ?_) (ih n lo fa h0 (by omega))
        rw [tellurionref04_Retreats.l0, e0, e1, if_pos (by omega), if_pos (by omega), if_pos (by omega), s1, Option.bind_some, if_neg (by omega)]
    · rw [retK_end u l L i hlt]
      refine Ev.step (f := fun _ => some _) (fun k => ?_) (Ev.now _)
      rw [tellurionref04_Retreats.l0, w64 _ (by omega), if_neg (by omega)]
theorem camRet_l : ∀ (q i : Nat) (n lo fa : Int), i + q = L.length → 0 ≤ n → n ≤ i → Ev (fun k => cam_Retreats.l0 k n lo fa L (i : Int) u l) ((retK u l (L.drop i) n lo fa).1, (retK u l (L.drop i) n lo fa).2.1, (retK u l (L.drop i) n lo fa).2.2, 0)
  | 0, i, n, lo, fa, hi, h0, h1 => by
    rw [retK_end u l L i (by omega)]
    refine Ev.step (f := fun _ => some _) (fun k => ?_) (Ev.now _)
    rw [cam_Retreats.l0, w64 _ (by omega), if_neg (by omega)]
  | q + 1, i, n, lo, fa, hi, h0, h1 => by
    by_cases hlt : i + 1 < L.length
    · rw [drop_two L i hlt, retK]
      have ha := hL _ (rd_memL L i (by omega))
      have hb := hL _ (rd_memL L (i + 1) hlt)
      have ih := fun n' lo' fa' g0 g1 => camRet_l q (i + 1) n' lo' fa' (by omega) g0 g1
      rw [drop_one L (i + 1) hlt] at ih
      have e0 : wrap64 ((i : Int) + 1) = ((i + 1 : Nat) : Int) := by rw [w64 _ (by omega)]; omega
      have e1 : wrap64 (rd L (i : Int) - 1) = rd L (i : Int) - 1 := w64 _ (by omega)
      have s1 := speed_f h (t := rd L (i : Int) - 1) (by omega) (by omega)
      by_cases hs : 0 < spd u l (rd L (i : Int) - 1)
      · rw [if_pos hs]
        refine Ev.step (fun k => ?_) (ih (n + 1) (max lo (rd L ((i + 1 : Nat) : Int) - rd L (i : Int))) (max fa (plc u l (rd L (i : Int)) - plc u l (rd L ((i + 1 : Nat) : Int)))) (by omega) (by omega))
        have p1 := plc_bd h (t := rd L (i : Int)) (by omega) (by omega)
        have p2 := plc_bd h (t := rd L ((i + 1 : Nat) : Int)) (by omega) (by omega)
        rw [cam_Retreats.l0, e0, e1, if_pos (by omega), if_pos (by omega), if_pos (by omega), s1, Option.bind_some, if_neg (by omega), if_pos (by omega), place_f h (by omega) (by omega), Option.bind_some, place_f h (by omega) (by omega), Option.bind_some, w64 (n + 1) (by omega), w64 (rd L ((i + 1 : Nat) : Int) - rd L (i : Int)) (by omega), w64 (plc u l (rd L (i : Int)) - plc u l (rd L ((i + 1 : Nat) : Int))) (by omega), mx_mx, mx_mx]
      · rw [if_neg hs]
        refine Ev.step (fun k => ?_) (ih n lo fa h0 (by omega))
        rw [cam_Retreats.l0, e0, e1, if_pos (by omega), if_pos (by omega), if_pos (by omega), s1, Option.bind_some, if_pos (by omega)]
    · rw [retK_end u l L i hlt]
      refine Ev.step (f := fun _ => some _) (fun k => ?_) (Ev.now _)
      rw [cam_Retreats.l0, w64 _ (by omega), if_neg (by omega)]
end
theorem mem_stL {u : Int} {l : List Int} {a b x : Int} (hx : x ∈ stL u l a b) : (a ≤ x ∧ x ≤ b) ∧ stationB u l x = true := by
  unfold stL at hx
  obtain ⟨h1, h2⟩ := List.mem_filter.1 hx
  have := (mem_nums _ _ _).1 h1
  exact ⟨by omega, h2⟩
theorem station_spd {u : Int} {l : List Int} {t : Int} (hs : stationB u l t = true) : spd u l (t - 1) ≠ 0 := by
  intro h0
  unfold stationB at hs
  rw [if_pos ((sgn_zero _).2 h0)] at hs
  cases hs
def retT (u : Int) (l : List Int) (t : Int) : Int × Int × Int := retK u l (stL u l 0 t) 0 0 0
theorem stL_ok {u : Int} {l : List Int} {t : Int} (ht : t ≤ 100000) : ∀ x ∈ stL u l 0 t, 0 ≤ x ∧ x ≤ 100000 ∧ spd u l (x - 1) ≠ 0 := fun x hx => by
  have := mem_stL hx
  exact ⟨by omega, by omega, station_spd this.2⟩
theorem evR_retreats {u : Int} {l : List Int} (h : isMotionB u l = true) (t : Int) (h0 : 0 ≤ t) (h1 : t ≤ 100000) : Ev (fun k => tellurionref04_Retreats.f k u l t) (retT u l t) := by
  have hl := stL_len u l 0 t
  have := refRet_l h (stL_ok h1) (by omega) (stL u l 0 t).length 0 0 0 0 (by omega) (by omega) (by omega)
  rw [List.drop_zero] at this
  unfold retT
  exact Ev.bind (evR_stations h 0 t (by omega) h1) this
theorem evC_retreats (u : Int) (l : List Int) (t : Int) : Ev (fun k => cam_Retreats.f k u l t) (if isMotionB u l = true ∧ isTimeB t = true then ((retT u l t).1, (retT u l t).2.1, (retT u l t).2.2, 0) else (0, 0, 0, 2)) := by
  have hbad : Ev (fun k => cam_Retreats.j0 k t true u l) (0, 0, 0, 2) := by
    refine Ev.step (f := fun _ => some _) (fun k => ?_) (Ev.now _)
    rw [cam_Retreats.j0, if_pos rfl]
  by_cases hm : isMotionB u l = true
  · by_cases ht : isTimeB t = true
    · rw [if_pos ⟨hm, ht⟩]
      have hb := time_bd ht
      have hl := stL_len u l 0 t
      have h2 := camRet_l hm (stL_ok (show t ≤ 100000 by omega)) (by omega) (stL u l 0 t).length 0 0 0 0 (by omega) (by omega) (by omega)
      rw [List.drop_zero] at h2
      have h3 : Ev (fun k => cam_Retreats.j0 k t false u l) ((retT u l t).1, (retT u l t).2.1, (retT u l t).2.2, 0) := by
        refine Ev.step (fun k => ?_) (Ev.bind (f := fun k L => cam_Retreats.l0 k 0 0 0 L 0 u l) (evC_stations hm 0 t (by omega) (by omega)) h2)
        rw [cam_Retreats.j0, if_neg (by simp)]
      refine Ev.congr (fun k => ?_) h3
      unfold cam_Retreats.f
      simp only [isMotion_f, isTime_f, Option.bind_some, hm, ht, if_true, Bool.not_true]
    · rw [if_neg (fun h => ht h.2)]
      refine Ev.congr (fun k => ?_) hbad
      unfold cam_Retreats.f
      simp only [isMotion_f, isTime_f, Option.bind_some, hm, ht, if_true, Bool.not_false]
  · rw [if_neg (fun h => hm h.1)]
    refine Ev.congr (fun k => ?_) hbad
    unfold cam_Retreats.f
    simp only [isMotion_f, Option.bind_some, hm, if_false, Bool.false_eq_true]
end Go.Proofs.YtbjimmemcmjpcabGreatDoor.Print
end

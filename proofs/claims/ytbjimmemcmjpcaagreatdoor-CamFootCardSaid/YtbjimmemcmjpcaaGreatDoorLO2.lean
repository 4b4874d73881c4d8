/- The law's Go function answers true for every input, and leaves its arguments as they were: its parts, the plain law, the row, the card. Joined by wip/pack.py. -/
import Derived.Test.YtbjimmemcmjpcaaGreatDoorB4
import Derived.Test.YtbjimmemcmjpcaaGreatDoorLO1
import Derived.Test.YtbjimmemcmjpcaaGreatDoorB3
section
set_option linter.unusedVariables false
set_option linter.unusedSimpArgs false
namespace Go.Proofs.YtbjimmemcmjpcaaGreatDoor.Print
open Go.RowKit Go.Proofs.YtbjimmemcmjpcaaGreatDoorW.PrintWords Go.Proofs.YtbjimmemcmjpcaaGreatDoorW.PrintLast Go.Proofs.YtbjimmemcmjpcaaGreatDoorW.PrintMore
theorem w64 (n : Int) (h : -9223372036854775808 ≤ n ∧ n ≤ 9223372036854775807) : wrap64 n = n := IntWalk.wrap64_in n h
theorem refIn_f (a b c : Int) : tellurionref04_in.f a b c = some (decide (b ≤ a) && decide (a ≤ c)) := by
  unfold tellurionref04_in.f
  by_cases h1 : b ≤ a <;> by_cases h2 : a ≤ c <;> simp [h1, h2]
theorem refFoot_f (a : Int) : tellurionref04_Foot.f a = some (isFootB a) := by
  unfold tellurionref04_Foot.f; rw [refIn_f]; rfl
theorem refCam_l (l : List Int) (hl : l.length ≤ 1000000000000) : ∀ (q j k : Nat), j ≤ l.length → q = l.length - j → q < k → tellurionref04_Cam.l0 k l (j : Int) = some ((l.drop j).all isH && decide (3 ≤ l.length ∧ l.length ≤ 24))
  | q, j, 0, _, _, h => by omega
  | 0, j, k + 1, hj, hq, _ => by
    obtain rfl : j = l.length := by omega
    unfold tellurionref04_Cam.l0
    rw [if_neg (by omega), refIn_f, Option.bind_some, List.drop_length]
    simp only [List.all_nil, Bool.true_and]
    congr 1
    by_cases h1 : 3 ≤ l.length <;> by_cases h2 : l.length ≤ 24 <;> simp [h1, h2] <;> omega
  | q + 1, j, k + 1, hj, hq, hk => by
    have hlt : j < l.length := by omega
    unfold tellurionref04_Cam.l0
    rw [if_pos (by omega), if_pos (by omega), refIn_f, Option.bind_some, List.drop_eq_getElem_cons hlt, List.all_cons]
    have hrd : rd l (j : Int) = l[j] := by simp [rd, List.getD_eq_getElem?_getD, hlt]
    rw [hrd]
    show (if isH l[j] = true then _ else _) = _
    cases hb : isH l[j] with
    | false => simp
    | true =>
      rw [if_pos rfl, w64 _ (by omega), show (j : Int) + 1 = ((j + 1 : Nat) : Int) by omega, refCam_l l hl q (j + 1) k (by omega) (by omega) (by omega)]
      simp
theorem refCam_ev (l : List Int) (hl : l.length ≤ 1000000000000) (k : Nat) (hk : l.length < k) : tellurionref04_Cam.f k l = some (isCamB l) := by
  unfold tellurionref04_Cam.f isCamB
  rw [show (0 : Int) = ((0 : Nat) : Int) by rfl, refCam_l l hl l.length 0 k (by omega) (by omega) hk, List.drop_zero, Bool.and_comm]
theorem refSame_l (x y : List Int) (hxy : x.length = y.length) (hl : x.length ≤ 1000000000000) : ∀ (q j k : Nat), j ≤ x.length → q = x.length - j → q < k → tellurionref04_Same.l0 k x y (j : Int) = some (decide (x.drop j = y.drop j))
  | q, j, 0, _, _, h => by omega
  | 0, j, k + 1, hj, hq, _ => by
    obtain rfl : j = x.length := by omega
    unfold tellurionref04_Same.l0
    rw [if_neg (by omega), List.drop_length, hxy, List.drop_length]
    rfl
  | q + 1, j, k + 1, hj, hq, hk => by
    have hlt : j < x.length := by omega
    have hlt2 : j < y.length := by omega
    unfold tellurionref04_Same.l0
    have h1 : rd x (j : Int) = x[j] := by simp [rd, List.getD_eq_getElem?_getD, hlt]
    have h2 : rd y (j : Int) = y[j] := by simp [rd, List.getD_eq_getElem?_getD, hlt2]
    rw [if_pos (by omega), if_pos (by omega), if_pos (by omega), h1, h2, List.drop_eq_getElem_cons hlt, List.drop_eq_getElem_cons hlt2]
    by_cases he : x[j] = y[j]
    · rw [if_pos he, w64 _ (by omega), show (j : Int) + 1 = ((j + 1 : Nat) : Int) by omega, refSame_l x y hxy hl q (j + 1) k (by omega) (by omega) (by omega)]
      simp only [List.cons.injEq, he, true_and]
    · rw [if_neg he]
      simp only [List.cons.injEq, he, false_and, decide_false]
theorem refSame_ev (x y : List Int) (hl : x.length ≤ 1000000000000) (k : Nat) (hk : x.length < k) : tellurionref04_Same.f k x y = some (decide (x = y)) := by
  unfold tellurionref04_Same.f
  by_cases h : x.length = y.length
  · rw [if_pos (by omega), show (0 : Int) = ((0 : Nat) : Int) by rfl, refSame_l x y h hl x.length 0 k (by omega) (by omega) hk, List.drop_zero, List.drop_zero]
  · rw [if_neg (by omega)]
    congr 1
    exact (decide_eq_false (fun e => h (by rw [e]))).symm
end Go.Proofs.YtbjimmemcmjpcaaGreatDoor.Print
end
section
set_option linter.unusedVariables false
set_option linter.unusedSimpArgs false
namespace Go.Proofs.YtbjimmemcmjpcaaGreatDoor.Print
open Go.RowKit Go.Proofs.YtbjimmemcmjpcaaGreatDoorW.PrintWords Go.Proofs.YtbjimmemcmjpcaaGreatDoorW.PrintLast Go.Proofs.YtbjimmemcmjpcaaGreatDoorW.PrintMore
theorem evR_cam (l : List Int) (hl : l.length ≤ 1000000000000) : Ev (fun k => tellurionref04_Cam.f k l) (isCamB l) := ⟨l.length + 1, fun k hk => refCam_ev l hl k (by omega)⟩
theorem evR_same (x y : List Int) (hl : x.length ≤ 1000000000000) : Ev (fun k => tellurionref04_Same.f k x y) (decide (x = y)) := ⟨x.length + 1, fun k hk => refSame_ev x y hl k (by omega)⟩
end Go.Proofs.YtbjimmemcmjpcaaGreatDoor.Print
end
section
set_option linter.unusedVariables false
set_option linter.unusedSimpArgs false
namespace Go.Proofs.YtbjimmemcmjpcaaGreatDoor.Print
open Go.RowKit Go.Proofs.YtbjimmemcmjpcaaGreatDoorW.PrintWords Go.Proofs.YtbjimmemcmjpcaaGreatDoorW.PrintLast Go.Proofs.YtbjimmemcmjpcaaGreatDoorW.PrintMore
theorem foldl_max_is (l : List Int) : ∀ a : Int, (l.foldl max a = a ∨ l.foldl max a ∈ l) ∧ a ≤ l.foldl max a ∧ ∀ y ∈ l, y ≤ l.foldl max a := by
  induction l with
  | nil => intro a; simp
  | cons x l ih =>
    intro a
    simp only [List.foldl_cons]
    obtain ⟨h1, h2, h3⟩ := ih (max a x)
    refine ⟨?_, by omega, fun y hy => ?_⟩
    · rcases h1 with h | h
      · rw [h]
        by_cases hx : a < x
        · exact .inr (by rw [Int.max_eq_right (by omega)]; simp)
        · exact .inl (by omega)
      · exact .inr (by simp [h])
    · rcases List.mem_cons.1 hy with rfl | hy
      · omega
      · exact h3 y hy
theorem maxI_is (L : List Int) (h : 1 ≤ L.length) : maxI L ∈ L ∧ ∀ y ∈ L, y ≤ maxI L := by
  cases L with
  | nil => simp at h
  | cons x L =>
    unfold maxI
    have hx : rd (x :: L) 0 = x := by simp [rd]
    rw [hx, List.drop_one, List.tail_cons]
    obtain ⟨h1, h2, h3⟩ := foldl_max_is L x
    refine ⟨?_, fun y hy => ?_⟩
    · rcases h1 with h | h
      · rw [h]; simp
      · simp [h]
    · rcases List.mem_cons.1 hy with rfl | hy
      · exact h2
      · exact h3 y hy
theorem mem_footL (l : List Int) (m i : Nat) (y : Int) : y ∈ footL l m i ↔ ∃ t : Int, (-(m : Int) ≤ t ∧ t ≤ m) ∧ y = rd l (((i : Int) + t) % (l.length : Int)) := by
  unfold footL
  rw [List.mem_map]
  constructor
  · rintro ⟨j, hj, rfl⟩
    rw [List.mem_range] at hj
    exact ⟨(j : Int) - m, by omega, rfl⟩
  · rintro ⟨t, ht, rfl⟩
    exact ⟨(t + m).toNat, by rw [List.mem_range]; omega, by rw [Int.toNat_of_nonneg (by omega)]; congr 2; omega⟩
end Go.Proofs.YtbjimmemcmjpcaaGreatDoor.Print
end
section
set_option linter.unusedVariables false
set_option linter.unusedSimpArgs false
namespace Go.Proofs.YtbjimmemcmjpcaaGreatDoor.Print
open Go.RowKit Go.Proofs.YtbjimmemcmjpcaaGreatDoorW.PrintWords Go.Proofs.YtbjimmemcmjpcaaGreatDoorW.PrintLast Go.Proofs.YtbjimmemcmjpcaaGreatDoorW.PrintMore
def cyc (l : List Int) (j : Int) : Int := rd l (j % (l.length : Int))
theorem cyc_nat (l : List Int) (i : Nat) (h : i < l.length) : cyc l (i : Int) = rd l (i : Int) := by
  unfold cyc; rw [Int.emod_eq_of_lt (by omega) (by omega)]
theorem cyc_mod (l : List Int) (j t : Int) : cyc l (j % (l.length : Int) + t) = cyc l (j + t) := by unfold cyc; rw [Int.emod_add_emod]
theorem rd_getElem (l : List Int) (i : Nat) (h : i < l.length) : rd l (i : Int) = l[i] := by simp [rd, List.getD_eq_getElem?_getD, h]
theorem list_ext_rd {x y : List Int} (hl : x.length = y.length) (h : ∀ i : Nat, i < x.length → rd x (i : Int) = rd y (i : Int)) : x = y := by
  apply List.ext_getElem hl
  intro i h1 h2
  rw [← rd_getElem x i h1, ← rd_getElem y i h2, h i h1]
theorem cyc_ext {x y : List Int} (hl : x.length = y.length) (h : ∀ i : Nat, i < x.length → cyc x (i : Int) = cyc y (i : Int)) : x = y :=
  list_ext_rd hl fun i hi => by rw [← cyc_nat x i hi, ← cyc_nat y i (by omega), h i hi]
theorem cyc_idx (l : List Int) (hl : 1 ≤ l.length) (j : Int) : ∃ i : Nat, i < l.length ∧ cyc l j = rd l (i : Int) ∧ (i : Int) = j % (l.length : Int) := by
  have h1 := Int.emod_nonneg j (show (l.length : Int) ≠ 0 by omega)
  have h2 := Int.emod_lt_of_pos j (show (0 : Int) < (l.length : Int) by omega)
  exact ⟨(j % (l.length : Int)).toNat, by omega, by unfold cyc; rw [Int.toNat_of_nonneg h1], Int.toNat_of_nonneg h1⟩
theorem rd_map_range (n : Nat) (f : Nat → Int) (i : Nat) (h : i < n) : rd ((List.range n).map f) (i : Int) = f i := by
  rw [rd_getElem _ i (by simpa using h)]; simp
theorem maxs_len (l : List Int) (m : Nat) : (maxsL l m l.length).length = l.length := by simp [maxsL]
theorem maxs_at (l : List Int) (m : Nat) (hl : 1 ≤ l.length) (j : Int) : ∃ t : Int, (-(m : Int) ≤ t ∧ t ≤ m) ∧ cyc (maxsL l m l.length) j = cyc l (j + t) := by
  obtain ⟨i, hi, h1, h2⟩ := cyc_idx (maxsL l m l.length) (by rw [maxs_len]; exact hl) j
  rw [maxs_len] at hi h2
  rw [h1]
  unfold maxsL
  rw [rd_map_range _ _ i hi]
  obtain ⟨h3, _⟩ := maxI_is (footL l m i) (by simp [footL])
  obtain ⟨t, ht, he⟩ := (mem_footL l m i _).1 h3
  exact ⟨t, ht, by rw [he, h2]; exact cyc_mod l j t⟩
theorem maxs_le (l : List Int) (m : Nat) (hl : 1 ≤ l.length) (j t : Int) (h1 : -(m : Int) ≤ t) (h2 : t ≤ m) : cyc l (j + t) ≤ cyc (maxsL l m l.length) j := by
  obtain ⟨i, hi, h3, h4⟩ := cyc_idx (maxsL l m l.length) (by rw [maxs_len]; exact hl) j
  rw [maxs_len] at hi h4
  rw [h3]
  unfold maxsL
  rw [rd_map_range _ _ i hi]
  obtain ⟨_, h5⟩ := maxI_is (footL l m i) (by simp [footL])
  exact h5 _ ((mem_footL l m i _).2 ⟨t, ⟨h1, h2⟩, by rw [h4]; exact (cyc_mod l j t).symm⟩)
theorem maxs_eq (l : List Int) (m : Nat) (hl : 1 ≤ l.length) (j v : Int) (h1 : ∃ t : Int, (-(m : Int) ≤ t ∧ t ≤ m) ∧ v = cyc l (j + t)) (h2 : ∀ t : Int, -(m : Int) ≤ t → t ≤ m → cyc l (j + t) ≤ v) : cyc (maxsL l m l.length) j = v := by
  obtain ⟨t, ht, rfl⟩ := h1
  obtain ⟨u, hu, he⟩ := maxs_at l m hl j
  have h3 := maxs_le l m hl j t ht.1 ht.2
  have h4 := h2 u hu.1 hu.2
  omega
theorem maxs_maxs (l : List Int) (m q : Nat) (hl : 1 ≤ l.length) : maxsL (maxsL l m l.length) q l.length = maxsL l (m + q) l.length := by
  have hn := maxs_len l m
  have e : maxsL (maxsL l m l.length) q l.length = maxsL (maxsL l m l.length) q (maxsL l m l.length).length := by rw [hn]
  rw [e]
  apply cyc_ext (by rw [maxs_len, maxs_len, maxs_len])
  intro i hi
  refine maxs_eq _ q (by rw [hn]; exact hl) i _ ?_ ?_
  · obtain ⟨u, hu, he⟩ := maxs_at l (m + q) hl i
    obtain ⟨s, t, hs, ht, hst⟩ : ∃ s t : Int, (-(q : Int) ≤ s ∧ s ≤ q) ∧ (-(m : Int) ≤ t ∧ t ≤ m) ∧ u = s + t := by
      by_cases h1 : u ≤ -(q : Int)
      · exact ⟨-(q : Int), u + q, by omega, by omega, by omega⟩
      · by_cases h2 : (q : Int) ≤ u
        · exact ⟨(q : Int), u - q, by omega, by omega, by omega⟩
        · exact ⟨u, 0, by omega, by omega, by omega⟩
    refine ⟨s, hs, ?_⟩
    have h1 := maxs_le l m hl ((i : Int) + s) t ht.1 ht.2
    obtain ⟨t', ht', he'⟩ := maxs_at l m hl ((i : Int) + s)
    have h2 := maxs_le l (m + q) hl i (s + t') (by omega) (by omega)
    rw [he, hst]
    rw [← Int.add_assoc] at h2
    rw [he, hst] at h2
    rw [← Int.add_assoc] at h2 ⊢
    omega
  · intro s h1 h2
    obtain ⟨t, ht, he⟩ := maxs_at l m hl ((i : Int) + s)
    rw [he, Int.add_assoc]
    exact maxs_le l (m + q) hl i (s + t) (by omega) (by omega)
theorem maxs_mono {l o : List Int} (m : Nat) (hl : 1 ≤ l.length) (hlo : o.length = l.length) (h : ∀ j : Int, cyc l j ≤ cyc o j) (j : Int) : cyc (maxsL l m l.length) j ≤ cyc (maxsL o m o.length) j := by
  obtain ⟨t, ht, he⟩ := maxs_at l m hl j
  have h1 := maxs_le o m (by omega) j t ht.1 ht.2
  have h2 := h (j + t)
  omega
theorem maxs_above (l : List Int) (m : Nat) (hl : 1 ≤ l.length) (j : Int) : cyc l j ≤ cyc (maxsL l m l.length) j := by
  have := maxs_le l m hl j 0 (by omega) (by omega)
  rwa [Int.add_zero] at this
def turnL (l : List Int) (by_ : Int) : List Int := (List.range l.length).map fun (i : Nat) => rd l (((i : Int) + by_) % (l.length : Int))
theorem turn_len (l : List Int) (b : Int) : (turnL l b).length = l.length := by simp [turnL]
theorem cyc_turnL (l : List Int) (hl : 1 ≤ l.length) (b j : Int) : cyc (turnL l b) j = cyc l (j + b) := by
  obtain ⟨i, hi, h1, h2⟩ := cyc_idx (turnL l b) (by rw [turn_len]; exact hl) j
  rw [turn_len] at hi h2
  rw [h1]
  unfold turnL
  rw [rd_map_range _ _ i hi, h2]
  exact cyc_mod l j b
theorem maxs_turn (l : List Int) (m : Nat) (hl : 1 ≤ l.length) (b : Int) : maxsL (turnL l b) m (turnL l b).length = turnL (maxsL l m l.length) b := by
  apply cyc_ext (by rw [maxs_len, turn_len, turn_len, maxs_len])
  intro i hi
  refine maxs_eq _ m (by rw [turn_len]; exact hl) i _ ?_ ?_
  · obtain ⟨t, ht, he⟩ := maxs_at l m hl ((i : Int) + b)
    refine ⟨t, ht, ?_⟩
    rw [cyc_turnL (maxsL l m l.length) (by rw [maxs_len]; exact hl), cyc_turnL l hl, he]
    congr 1; omega
  · intro t h1 h2
    rw [cyc_turnL (maxsL l m l.length) (by rw [maxs_len]; exact hl), cyc_turnL l hl]
    have := maxs_le l m hl ((i : Int) + b) t h1 h2
    rwa [show (i : Int) + t + b = (i : Int) + b + t by omega]
theorem isCam_iff (l : List Int) : isCamB l = true ↔ (3 ≤ l.length ∧ l.length ≤ 24) ∧ ∀ j : Int, 0 ≤ cyc l j ∧ cyc l j ≤ 30 := by
  simp only [isCamB, Bool.and_eq_true, List.all_eq_true, decide_eq_true_eq]
  constructor
  · rintro ⟨h1, h2⟩
    refine ⟨h1, fun j => ?_⟩
    obtain ⟨i, hi, h3, _⟩ := cyc_idx l (by omega) j
    rw [h3, rd_getElem l i hi]
    have := h2 l[i] (List.getElem_mem hi)
    simpa [isH] using this
  · rintro ⟨h1, h2⟩
    refine ⟨h1, fun x hx => ?_⟩
    obtain ⟨i, hi, rfl⟩ := List.mem_iff_getElem.1 hx
    have := h2 (i : Int)
    rw [cyc_nat l i hi, rd_getElem l i hi] at this
    simpa [isH] using this
theorem maxs_cam (l : List Int) (m : Nat) (h : isCamB l = true) : isCamB (maxsL l m l.length) = true := by
  obtain ⟨h1, h2⟩ := (isCam_iff l).1 h
  refine (isCam_iff _).2 ⟨by rw [maxs_len]; exact h1, fun j => ?_⟩
  obtain ⟨t, _, he⟩ := maxs_at l m (by omega) j
  rw [he]; exact h2 _
theorem turn_cam (l : List Int) (b : Int) (h : isCamB l = true) : isCamB (turnL l b) = true := by
  obtain ⟨h1, h2⟩ := (isCam_iff l).1 h
  refine (isCam_iff _).2 ⟨by rw [turn_len]; exact h1, fun j => ?_⟩
  rw [cyc_turnL l (by omega)]; exact h2 _
theorem max_iff (l : List Int) (hl : 1 ≤ l.length) (v : Int) : maxI l = v ↔ (∃ j : Int, v = cyc l j) ∧ ∀ j : Int, cyc l j ≤ v := by
  obtain ⟨h1, h2⟩ := maxI_is l hl
  have hup : ∀ j : Int, cyc l j ≤ maxI l := fun j => by
    obtain ⟨i, hi, h3, _⟩ := cyc_idx l hl j
    rw [h3, rd_getElem l i hi]; exact h2 _ (List.getElem_mem hi)
  obtain ⟨i, hi, he⟩ := List.mem_iff_getElem.1 h1
  have hat : maxI l = cyc l (i : Int) := by rw [cyc_nat l i hi, rd_getElem l i hi, he]
  constructor
  · rintro rfl
    exact ⟨⟨i, hat⟩, hup⟩
  · rintro ⟨⟨j, rfl⟩, h4⟩
    have := h4 (i : Int)
    have := hup j
    omega
theorem maxs_max (l : List Int) (m : Nat) (hl : 1 ≤ l.length) : maxI (maxsL l m l.length) = maxI l := by
  obtain ⟨⟨j, hj⟩, h2⟩ := (max_iff l hl (maxI l)).1 rfl
  refine (max_iff _ (by rw [maxs_len]; exact hl) _).2 ⟨⟨j, ?_⟩, fun i => ?_⟩
  · have h3 := maxs_above l m hl j
    obtain ⟨t, _, he⟩ := maxs_at l m hl j
    have := h2 (j + t)
    omega
  · obtain ⟨t, _, he⟩ := maxs_at l m hl i
    rw [he]; exact h2 _
theorem refTurn_l (l : List Int) (b : Int) (hl : 1 ≤ l.length ∧ l.length ≤ 1000) (hb : 0 ≤ b ∧ b ≤ 1000000) : ∀ (q i : Nat), i + q = l.length → Ev (fun k => tellurionref04_Turn.l0 k l b ((List.range i).map fun (i : Nat) => rd l (((i : Int) + b) % (l.length : Int))) (i : Int)) (turnL l b)
  | 0, i, h => by
    obtain rfl : i = l.length := by omega
    refine Ev.step (f := fun _ => some _) (fun k => ?_) (Ev.now _)
    rw [tellurionref04_Turn.l0, if_neg (by omega)]
    rfl
  | q + 1, i, h => by
    refine Ev.step (fun k => ?_) (refTurn_l l b hl hb q (i + 1) (by omega))
    have e1 : wrap64 ((i : Int) + b) = (i : Int) + b := w64 _ (by omega)
    have e2 : Int.tmod ((i : Int) + b) (l.length : Int) = ((i : Int) + b) % (l.length : Int) := Int.tmod_eq_emod_of_nonneg (by omega)
    rw [tellurionref04_Turn.l0, if_pos (by omega), if_neg (by omega), e1, e2, if_pos (Int.emod_nonneg _ (by omega)), if_pos (Int.emod_lt_of_pos _ (by omega)), if_pos (by simp; omega), w64 _ (by omega), List.range_succ, List.map_append]
    rfl
theorem evR_turn (l : List Int) (b : Int) (hl : 1 ≤ l.length ∧ l.length ≤ 1000) (hb : 0 ≤ b ∧ b ≤ 1000000) : Ev (fun k => tellurionref04_Turn.f k l b) (turnL l b) := refTurn_l l b hl hb l.length 0 (by omega)
theorem mxI_max (a b : Int) : mx a b = max a b := by unfold mx; split <;> omega
theorem refGreatest_l (l : List Int) (hl : l.length ≤ 1000) : ∀ (q i : Nat) (a : Int), i + q = l.length → Ev (fun k => tellurionref04_Greatest.l0 k l a (i : Int)) ((l.drop i).foldl max a)
  | 0, i, a, h => by
    obtain rfl : i = l.length := by omega
    refine Ev.step (f := fun _ => some _) (fun k => ?_) (Ev.now _)
    rw [tellurionref04_Greatest.l0, if_neg (by omega)]
    simp
  | q + 1, i, a, h => by
    have hi : i < l.length := by omega
    rw [List.drop_eq_getElem_cons hi, List.foldl_cons]
    refine Ev.step (fun k => ?_) (refGreatest_l l hl q (i + 1) _ (by omega))
    rw [tellurionref04_Greatest.l0, if_pos (by omega), if_pos (by omega), w64 _ (by omega), mxI_max, rd_getElem l i hi]
    rfl
theorem evR_greatest (l : List Int) (hl : 1 ≤ l.length ∧ l.length ≤ 1000) : Ev (fun k => tellurionref04_Greatest.f k l) (maxI l) := by
  have h := refGreatest_l l hl.2 l.length 0 (rd l 0) (by omega)
  have e : (l.drop 0).foldl max (rd l 0) = maxI l := by
    cases l with
    | nil => simp at hl
    | cons x l => simp [maxI, rd]
  rw [e] at h
  refine Ev.congr (fun k => ?_) h
  unfold tellurionref04_Greatest.f
  rw [if_pos (by omega)]
  rfl
def belowB (x y : List Int) : Bool := (List.range x.length).all fun (i : Nat) => decide (rd x (i : Int) ≤ rd y (i : Int))
theorem below_iff (x y : List Int) (hl : 1 ≤ x.length) (hxy : y.length = x.length) : belowB x y = true ↔ ∀ j : Int, cyc x j ≤ cyc y j := by
  unfold belowB
  simp only [List.all_eq_true, List.mem_range, decide_eq_true_eq]
  constructor
  · intro h j
    obtain ⟨i, hi, h1, h2⟩ := cyc_idx x hl j
    have := h i hi
    rw [h1]
    unfold cyc
    rw [hxy, ← h2]
    exact this
  · intro h i hi
    have := h (i : Int)
    rwa [cyc_nat x i hi, cyc_nat y i (by omega)] at this
theorem below_drop (x y : List Int) (i : Nat) (hi : i < x.length) : ((List.range' i (x.length - i)).all fun (i : Nat) => decide (rd x (i : Int) ≤ rd y (i : Int))) = (decide (rd x (i : Int) ≤ rd y (i : Int)) && ((List.range' (i + 1) (x.length - (i + 1))).all fun (i : Nat) => decide (rd x (i : Int) ≤ rd y (i : Int)))) := by
  rw [show x.length - i = (x.length - (i + 1)) + 1 by omega, List.range'_succ, List.all_cons]
theorem lawBelow_l (x y : List Int) (hxy : y.length = x.length) (hl : x.length ≤ 1000) : ∀ (q i : Nat), i + q = x.length → Ev (fun k => tellurionlaw04_below.l0 k x y (i : Int)) ((List.range' i (x.length - i)).all fun (i : Nat) => decide (rd x (i : Int) ≤ rd y (i : Int)))
  | 0, i, h => by
    obtain rfl : i = x.length := by omega
    have h1 : Ev (fun k => tellurionlaw04_below.j1 k x y (x.length : Int) false) true := by
      refine Ev.step (f := fun _ => some true) (fun k => ?_) (Ev.now _)
      rw [tellurionlaw04_below.j1, if_neg (by simp), hxy]; simp
    rw [Nat.sub_self]
    refine Ev.step (fun k => ?_) h1
    rw [tellurionlaw04_below.l0, if_neg (by omega)]
  | q + 1, i, h => by
    have hi : i < x.length := by omega
    rw [below_drop x y i hi]
    by_cases hle : rd x (i : Int) ≤ rd y (i : Int)
    · rw [decide_eq_true hle, Bool.true_and]
      have h1 : Ev (fun k => tellurionlaw04_below.j1 k x y (i : Int) true) ((List.range' (i + 1) (x.length - (i + 1))).all fun (i : Nat) => decide (rd x (i : Int) ≤ rd y (i : Int))) := by
        refine Ev.step (fun k => ?_) (lawBelow_l x y hxy hl q (i + 1) (by omega))
        rw [tellurionlaw04_below.j1, if_pos rfl, if_pos (by omega), if_pos (by omega), if_pos (by omega), if_neg (by omega), w64 _ (by omega)]
        rfl
      refine Ev.step (fun k => ?_) h1
      rw [tellurionlaw04_below.l0, if_pos (by omega), decide_eq_true (by omega)]
    · rw [decide_eq_false hle, Bool.false_and]
      have h1 : Ev (fun k => tellurionlaw04_below.j1 k x y (i : Int) true) false := by
        refine Ev.step (f := fun _ => some false) (fun k => ?_) (Ev.now _)
        rw [tellurionlaw04_below.j1, if_pos rfl, if_pos (by omega), if_pos (by omega), if_pos (by omega), if_pos (by omega)]
      refine Ev.step (fun k => ?_) h1
      rw [tellurionlaw04_below.l0, if_pos (by omega), decide_eq_true (by omega)]
theorem evL_below (x y : List Int) (hxy : y.length = x.length) (hl : x.length ≤ 1000) : Ev (fun k => tellurionlaw04_below.f k x y) (belowB x y) := by
  have h := lawBelow_l x y hxy hl x.length 0 (by omega)
  rw [Nat.sub_zero, ← List.range_eq_range'] at h
  exact h
theorem cam_Follow_yes {l : List Int} {m : Nat} (h : isCamB l = true) (hm : m ≤ 5) : cam_Follow.f l (m : Int) = some (maxsL l m l.length, 0) := by
  unfold cam_Follow.f
  rw [if_pos ⟨h, by simp [isFootB]; omega⟩, Int.toNat_natCast]
end Go.Proofs.YtbjimmemcmjpcaaGreatDoor.Print
end

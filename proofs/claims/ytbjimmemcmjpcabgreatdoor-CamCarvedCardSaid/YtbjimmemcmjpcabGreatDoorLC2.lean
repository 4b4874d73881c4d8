/- The law's Go function answers true for every input, and leaves its arguments as they were: its parts, the plain law, the row, the card. Joined by wip/pack.py. -/
import Derived.Test.YtbjimmemcmjpcabGreatDoorB4
import Derived.Test.YtbjimmemcmjpcabGreatDoorLC1
import Derived.Test.YtbjimmemcmjpcabGreatDoorB3
section
set_option linter.unusedVariables false
set_option linter.unusedSimpArgs false
namespace Go.Proofs.YtbjimmemcmjpcabGreatDoor.Print
open Go.RowKit Go.Proofs.YtbjimmemcmjpcabGreatDoorW.PrintWords Go.Proofs.YtbjimmemcmjpcabGreatDoorW.PrintLast Go.Proofs.YtbjimmemcmjpcabGreatDoorW.PrintMore
theorem w64 (n : Int) (h : -9223372036854775808 ≤ n ∧ n ≤ 9223372036854775807) : wrap64 n = n := IntWalk.wrap64_in n h
theorem refIn_f (a b c : Int) : tellurionref04_in.f a b c = some (decide (b ≤ a) && decide (a ≤ c)) := by
  unfold tellurionref04_in.f
  by_cases h1 : b ≤ a <;> by_cases h2 : a ≤ c <;> simp [h1, h2]
theorem refCam_l (l : List Int) (hl : l.length ≤ 1000000000000) : ∀ (q j k : Nat), j ≤ l.length → q = l.length - j → q < k → tellurionref04_Cam.l0 k l (j : Int) = some ((l.drop j).all isH && decide (3 ≤ l.length ∧ l.length ≤ 24))
  | q, j, 0, _, _, h => by omega
  | 0, j, k + 1, hj, hq, _ => by
    obtain rfl : j = l.length := by omega
    unfold tellurionref04_Cam.l0
    rw [if_neg (by omega), refIn_f, Option.bind_some, List.drop_length]
    simp only [List.all_nil, Bool.true_and]
    congr 1
    by_cases h1 : 3 ≤ l.length <;> by_cases h2 : l.length ≤ 24 <;> simp [h1, h2] <;> omega
  | q + 1, j, k + 1, hj, hq, hk => by
    have hlt : j < l.length := by omega
    unfold tellurionref04_Cam.l0
    rw [if_pos (by omega), if_pos (by omega), refIn_f, Option.bind_some, List.drop_eq_getElem_cons hlt, List.all_cons]
    have hrd : rd l (j : Int) = l[j] := by simp [rd, List.getD_eq_getElem?_getD, hlt]
    rw [hrd]
    show (if isH l[j] = true then _ else _) = _
    cases hb : isH l[j] with
    | false => simp
    | true =>
      rw [if_pos rfl, w64 _ (by omega), show (j : Int) + 1 = ((j + 1 : Nat) : Int) by omega, refCam_l l hl q (j + 1) k (by omega) (by omega) (by omega)]
      simp
theorem refCam_ev (l : List Int) (hl : l.length ≤ 1000000000000) (k : Nat) (hk : l.length < k) : tellurionref04_Cam.f k l = some (isCamB l) := by
  unfold tellurionref04_Cam.f isCamB
  rw [show (0 : Int) = ((0 : Nat) : Int) by rfl, refCam_l l hl l.length 0 k (by omega) (by omega) hk, List.drop_zero, Bool.and_comm]
theorem refSame_l (x y : List Int) (hxy : x.length = y.length) (hl : x.length ≤ 1000000000000) : ∀ (q j k : Nat), j ≤ x.length → q = x.length - j → q < k → tellurionref04_Same.l0 k x y (j : Int) = some (decide (x.drop j = y.drop j))
  | q, j, 0, _, _, h => by omega
  | 0, j, k + 1, hj, hq, _ => by
    obtain rfl : j = x.length := by omega
    unfold tellurionref04_Same.l0
    rw [if_neg (by omega), List.drop_length, hxy, List.drop_length]
    rfl
  | q + 1, j, k + 1, hj, hq, hk => by
    have hlt : j < x.length := by omega
    have hlt2 : j < y.length := by omega
    unfold tellurionref04_Same.l0
    have h1 : rd x (j : Int) = x[j] := by simp [rd, List.getD_eq_getElem?_getD, hlt]
    have h2 : rd y (j : Int) = y[j] := by simp [rd, List.getD_eq_getElem?_getD, hlt2]
    rw [if_pos (by omega), if_pos (by omega), if_pos (by omega), h1, h2, List.drop_eq_getElem_cons hlt, List.drop_eq_getElem_cons hlt2]
    by_cases he : x[j] = y[j]
    · rw [if_pos he, w64 _ (by omega), show (j : Int) + 1 = ((j + 1 : Nat) : Int) by omega, refSame_l x y hxy hl q (j + 1) k (by omega) (by omega) (by omega)]
      simp only [List.cons.injEq, he, true_and]
    · rw [if_neg he]
      simp only [List.cons.injEq, he, false_and, decide_false]
theorem refSame_ev (x y : List Int) (hl : x.length ≤ 1000000000000) (k : Nat) (hk : x.length < k) : tellurionref04_Same.f k x y = some (decide (x = y)) := by
  unfold tellurionref04_Same.f
  by_cases h : x.length = y.length
  · rw [if_pos (by omega), show (0 : Int) = ((0 : Nat) : Int) by rfl, refSame_l x y h hl x.length 0 k (by omega) (by omega) hk, List.drop_zero, List.drop_zero]
  · rw [if_neg (by omega)]
    congr 1
    exact (decide_eq_false (fun e => h (by rw [e]))).symm
end Go.Proofs.YtbjimmemcmjpcabGreatDoor.Print
end
section
set_option linter.unusedVariables false
set_option linter.unusedSimpArgs false
namespace Go.Proofs.YtbjimmemcmjpcabGreatDoor.Print
open Go.RowKit Go.Proofs.YtbjimmemcmjpcabGreatDoorW.PrintWords Go.Proofs.YtbjimmemcmjpcabGreatDoorW.PrintLast Go.Proofs.YtbjimmemcmjpcabGreatDoorW.PrintMore
theorem evR_cam (l : List Int) (hl : l.length ≤ 1000000000000) : Ev (fun k => tellurionref04_Cam.f k l) (isCamB l) := ⟨l.length + 1, fun k hk => refCam_ev l hl k (by omega)⟩
theorem evR_same (x y : List Int) (hl : x.length ≤ 1000000000000) : Ev (fun k => tellurionref04_Same.f k x y) (decide (x = y)) := ⟨x.length + 1, fun k hk => refSame_ev x y hl k (by omega)⟩
end Go.Proofs.YtbjimmemcmjpcabGreatDoor.Print
end
section
set_option linter.unusedVariables false
set_option linter.unusedSimpArgs false
namespace Go.Proofs.YtbjimmemcmjpcabGreatDoor.Print
open Go.RowKit Go.Proofs.YtbjimmemcmjpcabGreatDoorW.PrintWords Go.Proofs.YtbjimmemcmjpcabGreatDoorW.PrintLast Go.Proofs.YtbjimmemcmjpcabGreatDoorW.PrintMore
theorem foldl_max_is (l : List Int) : ∀ a : Int, (l.foldl max a = a ∨ l.foldl max a ∈ l) ∧ a ≤ l.foldl max a ∧ ∀ y ∈ l, y ≤ l.foldl max a := by
  induction l with
  | nil => intro a; simp
  | cons x l ih =>
    intro a
    simp only [List.foldl_cons]
    obtain ⟨h1, h2, h3⟩ := ih (max a x)
    refine ⟨?_, by omega, fun y hy => ?_⟩
    · rcases h1 with h | h
      · rw [h]
        by_cases hx : a < x
        · exact .inr (by rw [Int.max_eq_right (by omega)]; simp)
        · exact .inl (by omega)
      · exact .inr (by simp [h])
    · rcases List.mem_cons.1 hy with rfl | hy
      · omega
      · exact h3 y hy
theorem maxI_is (L : List Int) (h : 1 ≤ L.length) : maxI L ∈ L ∧ ∀ y ∈ L, y ≤ maxI L := by
  cases L with
  | nil => simp at h
  | cons x L =>
    unfold maxI
    have hx : rd (x :: L) 0 = x := by simp [rd]
    rw [hx, List.drop_one, List.tail_cons]
    obtain ⟨h1, h2, h3⟩ := foldl_max_is L x
    refine ⟨?_, fun y hy => ?_⟩
    · rcases h1 with h | h
      · rw [h]; simp
      · simp [h]
    · rcases List.mem_cons.1 hy with rfl | hy
      · exact h2
      · exact h3 y hy
theorem mem_footL (l : List Int) (m i : Nat) (y : Int) : y ∈ footL l m i ↔ ∃ t : Int, (-(m : Int) ≤ t ∧ t ≤ m) ∧ y = rd l (((i : Int) + t) % (l.length : Int)) := by
  unfold footL
  rw [List.mem_map]
  constructor
  · rintro ⟨j, hj, rfl⟩
    rw [List.mem_range] at hj
    exact ⟨(j : Int) - m, by omega, rfl⟩
  · rintro ⟨t, ht, rfl⟩
    exact ⟨(t + m).toNat, by rw [List.mem_range]; omega, by rw [Int.toNat_of_nonneg (by omega)]; congr 2; omega⟩
end Go.Proofs.YtbjimmemcmjpcabGreatDoor.Print
end
section
set_option linter.unusedVariables false
set_option linter.unusedSimpArgs false
namespace Go.Proofs.YtbjimmemcmjpcabGreatDoor.Print
open Go.RowKit Go.Proofs.YtbjimmemcmjpcabGreatDoorW.PrintWords Go.Proofs.YtbjimmemcmjpcabGreatDoorW.PrintLast Go.Proofs.YtbjimmemcmjpcabGreatDoorW.PrintMore
def cyc (l : List Int) (j : Int) : Int := rd l (j % (l.length : Int))
theorem cyc_nat (l : List Int) (i : Nat) (h : i < l.length) : cyc l (i : Int) = rd l (i : Int) := by
  unfold cyc; rw [Int.emod_eq_of_lt (by omega) (by omega)]
theorem cyc_mod (l : List Int) (j t : Int) : cyc l (j % (l.length : Int) + t) = cyc l (j + t) := by unfold cyc; rw [Int.emod_add_emod]
theorem rd_getElem (l : List Int) (i : Nat) (h : i < l.length) : rd l (i : Int) = l[i] := by simp [rd, List.getD_eq_getElem?_getD, h]
theorem list_ext_rd {x y : List Int} (hl : x.length = y.length) (h : ∀ i : Nat, i < x.length → rd x (i : Int) = rd y (i : Int)) : x = y := by
  apply List.ext_getElem hl
  intro i h1 h2
  rw [← rd_getElem x i h1, ← rd_getElem y i h2, h i h1]
theorem cyc_ext {x y : List Int} (hl : x.length = y.length) (h : ∀ i : Nat, i < x.length → cyc x (i : Int) = cyc y (i : Int)) : x = y :=
  list_ext_rd hl fun i hi => by rw [← cyc_nat x i hi, ← cyc_nat y i (by omega), h i hi]
theorem cyc_idx (l : List Int) (hl : 1 ≤ l.length) (j : Int) : ∃ i : Nat, i < l.length ∧ cyc l j = rd l (i : Int) ∧ (i : Int) = j % (l.length : Int) := by
  have h1 := Int.emod_nonneg j (show (l.length : Int) ≠ 0 by omega)
  have h2 := Int.emod_lt_of_pos j (show (0 : Int) < (l.length : Int) by omega)
  exact ⟨(j % (l.length : Int)).toNat, by omega, by unfold cyc; rw [Int.toNat_of_nonneg h1], Int.toNat_of_nonneg h1⟩
theorem rd_map_range (n : Nat) (f : Nat → Int) (i : Nat) (h : i < n) : rd ((List.range n).map f) (i : Int) = f i := by
  rw [rd_getElem _ i (by simpa using h)]; simp
theorem maxs_len (l : List Int) (m : Nat) : (maxsL l m l.length).length = l.length := by simp [maxsL]
theorem maxs_at (l : List Int) (m : Nat) (hl : 1 ≤ l.length) (j : Int) : ∃ t : Int, (-(m : Int) ≤ t ∧ t ≤ m) ∧ cyc (maxsL l m l.length) j = cyc l (j + t) := by
  obtain ⟨i, hi, h1, h2⟩ := cyc_idx (maxsL l m l.length) (by rw [maxs_len]; exact hl) j
  rw [maxs_len] at hi h2
  rw [h1]
  unfold maxsL
  rw [rd_map_range _ _ i hi]
  obtain ⟨h3, _⟩ := maxI_is (footL l m i) (by simp [footL])
  obtain ⟨t, ht, he⟩ := (mem_footL l m i _).1 h3
  exact ⟨t, ht, by rw [he, h2]; exact cyc_mod l j t⟩
theorem maxs_le (l : List Int) (m : Nat) (hl : 1 ≤ l.length) (j t : Int) (h1 : -(m : Int) ≤ t) (h2 : t ≤ m) : cyc l (j + t) ≤ cyc (maxsL l m l.length) j := by
  obtain ⟨i, hi, h3, h4⟩ := cyc_idx (maxsL l m l.length) (by rw [maxs_len]; exact hl) j
  rw [maxs_len] at hi h4
  rw [h3]
  unfold maxsL
  rw [rd_map_range _ _ i hi]
  obtain ⟨_, h5⟩ := maxI_is (footL l m i) (by simp [footL])
  exact h5 _ ((mem_footL l m i _).2 ⟨t, ⟨h1, h2⟩, by rw [h4]; exact (cyc_mod l j t).symm⟩)
theorem maxs_eq (l : List Int) (m : Nat) (hl : 1 ≤ l.length) (j v : Int) (h1 : ∃ t : Int, (-(m : Int) ≤ t ∧ t ≤ m) ∧ v = cyc l (j + t)) (h2 : ∀ t : Int, -(m : Int) ≤ t → t ≤ m → cyc l (j + t) ≤ v) : cyc (maxsL l m l.length) j = v := by
  obtain ⟨t, ht, rfl⟩ := h1
  obtain ⟨u, hu, he⟩ := maxs_at l m hl j
  have h3 := maxs_le l m hl j t ht.1 ht.2
  have h4 := h2 u hu.1 hu.2
  omega
theorem maxs_mono {l o : List Int} (m : Nat) (hl : 1 ≤ l.length) (hlo : o.length = l.length) (h : ∀ j : Int, cyc l j ≤ cyc o j) (j : Int) : cyc (maxsL l m l.length) j ≤ cyc (maxsL o m o.length) j := by
  obtain ⟨t, ht, he⟩ := maxs_at l m hl j
  have h1 := maxs_le o m (by omega) j t ht.1 ht.2
  have h2 := h (j + t)
  omega
def turnL (l : List Int) (by_ : Int) : List Int := (List.range l.length).map fun (i : Nat) => rd l (((i : Int) + by_) % (l.length : Int))
theorem turn_len (l : List Int) (b : Int) : (turnL l b).length = l.length := by simp [turnL]
theorem cyc_turnL (l : List Int) (hl : 1 ≤ l.length) (b j : Int) : cyc (turnL l b) j = cyc l (j + b) := by
  obtain ⟨i, hi, h1, h2⟩ := cyc_idx (turnL l b) (by rw [turn_len]; exact hl) j
  rw [turn_len] at hi h2
  rw [h1]
  unfold turnL
  rw [rd_map_range _ _ i hi, h2]
  exact cyc_mod l j b
theorem maxs_turn (l : List Int) (m : Nat) (hl : 1 ≤ l.length) (b : Int) : maxsL (turnL l b) m (turnL l b).length = turnL (maxsL l m l.length) b := by
  apply cyc_ext (by rw [maxs_len, turn_len, turn_len, maxs_len])
  intro i hi
  refine maxs_eq _ m (by rw [turn_len]; exact hl) i _ ?_ ?_
  · obtain ⟨t, ht, he⟩ := maxs_at l m hl ((i : Int) + b)
    refine ⟨t, ht, ?_⟩
    rw [cyc_turnL (maxsL l m l.length) (by rw [maxs_len]; exact hl), cyc_turnL l hl, he]
    congr 1; omega
  · intro t h1 h2
    rw [cyc_turnL (maxsL l m l.length) (by rw [maxs_len]; exact hl), cyc_turnL l hl]
    have := maxs_le l m hl ((i : Int) + b) t h1 h2
    rwa [show (i : Int) + t + b = (i : Int) + b + t by omega]
theorem isCam_iff (l : List Int) : isCamB l = true ↔ (3 ≤ l.length ∧ l.length ≤ 24) ∧ ∀ j : Int, 0 ≤ cyc l j ∧ cyc l j ≤ 30 := by
  simp only [isCamB, Bool.and_eq_true, List.all_eq_true, decide_eq_true_eq]
  constructor
  · rintro ⟨h1, h2⟩
    refine ⟨h1, fun j => ?_⟩
    obtain ⟨i, hi, h3, _⟩ := cyc_idx l (by omega) j
    rw [h3, rd_getElem l i hi]
    have := h2 l[i] (List.getElem_mem hi)
    simpa [isH] using this
  · rintro ⟨h1, h2⟩
    refine ⟨h1, fun x hx => ?_⟩
    obtain ⟨i, hi, rfl⟩ := List.mem_iff_getElem.1 hx
    have := h2 (i : Int)
    rw [cyc_nat l i hi, rd_getElem l i hi] at this
    simpa [isH] using this
theorem maxs_cam (l : List Int) (m : Nat) (h : isCamB l = true) : isCamB (maxsL l m l.length) = true := by
  obtain ⟨h1, h2⟩ := (isCam_iff l).1 h
  refine (isCam_iff _).2 ⟨by rw [maxs_len]; exact h1, fun j => ?_⟩
  obtain ⟨t, _, he⟩ := maxs_at l m (by omega) j
  rw [he]; exact h2 _
theorem turn_cam (l : List Int) (b : Int) (h : isCamB l = true) : isCamB (turnL l b) = true := by
  obtain ⟨h1, h2⟩ := (isCam_iff l).1 h
  refine (isCam_iff _).2 ⟨by rw [turn_len]; exact h1, fun j => ?_⟩
  rw [cyc_turnL l (by omega)]; exact h2 _
def belowB (x y : List Int) : Bool := (List.range x.length).all fun (i : Nat) => decide (rd x (i : Int) ≤ rd y (i : Int))
theorem below_iff (x y : List Int) (hl : 1 ≤ x.length) (hxy : y.length = x.length) : belowB x y = true ↔ ∀ j : Int, cyc x j ≤ cyc y j := by
  unfold belowB
  simp only [List.all_eq_true, List.mem_range, decide_eq_true_eq]
  constructor
  · intro h j
    obtain ⟨i, hi, h1, h2⟩ := cyc_idx x hl j
    have := h i hi
    rw [h1]
    unfold cyc
    rw [hxy, ← h2]
    exact this
  · intro h i hi
    have := h (i : Int)
    rwa [cyc_nat x i hi, cyc_nat y i (by omega)] at this
theorem cam_Follow_yes {l : List Int} {m : Nat} (h : isCamB l = true) (hm : m ≤ 5) : cam_Follow.f l (m : Int) = some (maxsL l m l.length, 0) := by
  unfold cam_Follow.f
  rw [if_pos ⟨h, by simp [isFootB]; omega⟩, Int.toNat_natCast]
end Go.Proofs.YtbjimmemcmjpcabGreatDoor.Print
end
section
set_option linter.unusedVariables false
set_option linter.unusedSimpArgs false
namespace Go.Proofs.YtbjimmemcmjpcabGreatDoor.Print
open Go.RowKit Go.Proofs.YtbjimmemcmjpcabGreatDoorW.PrintWords Go.Proofs.YtbjimmemcmjpcabGreatDoorW.PrintLast Go.Proofs.YtbjimmemcmjpcabGreatDoorW.PrintMore
theorem refTurn_l (l : List Int) (b : Int) (hl : 1 ≤ l.length ∧ l.length ≤ 1000) (hb : 0 ≤ b ∧ b ≤ 1000000) : ∀ (q i : Nat), i + q = l.length → Ev (fun k => tellurionref04_Turn.l0 k l b ((List.range i).map fun (i : Nat) => rd l (((i : Int) + b) % (l.length : Int))) (i : Int)) (turnL l b)
  | 0, i, h => by
    obtain rfl : i = l.length := by omega
    refine Ev.step (f := fun _ => some _) (fun k => ?_) (Ev.now _)
    rw [tellurionref04_Turn.l0, if_neg (by omega)]
    rfl
  | q + 1, i, h => by
    refine Ev.step (fun k => ?_) (refTurn_l l b hl hb q (i + 1) (by omega))
    have e1 : wrap64 ((i : Int) + b) = (i : Int) + b := w64 _ (by omega)
    have e2 : Int.tmod ((i : Int) + b) (l.length : Int) = ((i : Int) + b) % (l.length : Int) := Int.tmod_eq_emod_of_nonneg (by omega)
    rw [tellurionref04_Turn.l0, if_pos (by omega), if_neg (by omega), e1, e2, if_pos (Int.emod_nonneg _ (by omega)), if_pos (Int.emod_lt_of_pos _ (by omega)), if_pos (by simp; omega), w64 _ (by omega), List.range_succ, List.map_append]
    rfl
theorem evR_turn (l : List Int) (b : Int) (hl : 1 ≤ l.length ∧ l.length ≤ 1000) (hb : 0 ≤ b ∧ b ≤ 1000000) : Ev (fun k => tellurionref04_Turn.f k l b) (turnL l b) := refTurn_l l b hl hb l.length 0 (by omega)
end Go.Proofs.YtbjimmemcmjpcabGreatDoor.Print
end
section
set_option linter.unusedVariables false
set_option linter.unusedSimpArgs false
namespace Go.Proofs.YtbjimmemcmjpcabGreatDoor.Print
open Go.RowKit Go.Proofs.YtbjimmemcmjpcabGreatDoorW.PrintWords Go.Proofs.YtbjimmemcmjpcabGreatDoorW.PrintLast Go.Proofs.YtbjimmemcmjpcabGreatDoorW.PrintMore
theorem below_drop (x y : List Int) (i : Nat) (hi : i < x.length) : ((List.range' i (x.length - i)).all fun (i : Nat) => decide (rd x (i : Int) ≤ rd y (i : Int))) = (decide (rd x (i : Int) ≤ rd y (i : Int)) && ((List.range' (i + 1) (x.length - (i + 1))).all fun (i : Nat) => decide (rd x (i : Int) ≤ rd y (i : Int)))) := by
  rw [show x.length - i = (x.length - (i + 1)) + 1 by omega, List.range'_succ, List.all_cons]
theorem lawBelow_l (x y : List Int) (hxy : y.length = x.length) (hl : x.length ≤ 1000) : ∀ (q i : Nat), i + q = x.length → Ev (fun k => tellurionlaw04_below.l0 k x y (i : Int)) ((List.range' i (x.length - i)).all fun (i : Nat) => decide (rd x (i : Int) ≤ rd y (i : Int)))
  | 0, i, h => by
    obtain rfl : i = x.length := by omega
    have h1 : Ev (fun k => tellurionlaw04_below.j1 k x y (x.length : Int) false) true := by
      refine Ev.step (f := fun _ => some true) (fun k => ?_) (Ev.now _)
      rw [tellurionlaw04_below.j1, if_neg (by simp), hxy]; simp
    rw [Nat.sub_self]
    refine Ev.step (fun k => ?_) h1
    rw [tellurionlaw04_below.l0, if_neg (by omega)]
  | q + 1, i, h => by
    have hi : i < x.length := by omega
    rw [below_drop x y i hi]
    by_cases hle : rd x (i : Int) ≤ rd y (i : Int)
    · rw [decide_eq_true hle, Bool.true_and]
      have h1 : Ev (fun k => tellurionlaw04_below.j1 k x y (i : Int) true) ((List.range' (i + 1) (x.length - (i + 1))).all fun (i : Nat) => decide (rd x (i : Int) ≤ rd y (i : Int))) := by
        refine Ev.step (fun k => ?_) (lawBelow_l x y hxy hl q (i + 1) (by omega))
        rw [tellurionlaw04_below.j1, if_pos rfl, if_pos (by omega), if_pos (by omega), if_pos (by omega), if_neg (by omega), w64 _ (by omega)]
        rfl
      refine Ev.step (fun k => ?_) h1
      rw [tellurionlaw04_below.l0, if_pos (by omega), decide_eq_true (by omega)]
    · rw [decide_eq_false hle, Bool.false_and]
      have h1 : Ev (fun k => tellurionlaw04_below.j1 k x y (i : Int) true) false := by
        refine Ev.step (f := fun _ => some false) (fun k => ?_) (Ev.now _)
        rw [tellurionlaw04_below.j1, if_pos rfl, if_pos (by omega), if_pos (by omega), if_pos (by omega), if_pos (by omega)]
      refine Ev.step (fun k => ?_) h1
      rw [tellurionlaw04_below.l0, if_pos (by omega), decide_eq_true (by omega)]
theorem evL_below (x y : List Int) (hxy : y.length = x.length) (hl : x.length ≤ 1000) : Ev (fun k => tellurionlaw04_below.f k x y) (belowB x y) := by
  have h := lawBelow_l x y hxy hl x.length 0 (by omega)
  rw [Nat.sub_zero, ← List.range_eq_range'] at h
  exact h
end Go.Proofs.YtbjimmemcmjpcabGreatDoor.Print
end
section
set_option linter.unusedVariables false
set_option linter.unusedSimpArgs false
namespace Go.Proofs.YtbjimmemcmjpcabGreatDoor.Print
open Go.RowKit Go.Proofs.YtbjimmemcmjpcabGreatDoorW.PrintWords Go.Proofs.YtbjimmemcmjpcabGreatDoorW.PrintLast Go.Proofs.YtbjimmemcmjpcabGreatDoorW.PrintMore
theorem refFoot_f (a : Int) : tellurionref04_Foot.f a = some (isFootB a) := by
  unfold tellurionref04_Foot.f; rw [refIn_f]; rfl
end Go.Proofs.YtbjimmemcmjpcabGreatDoor.Print
end
section
namespace Go.Proofs.YtbjimmemcmjpcabGreatDoor.Print
open Go.RowKit Go.Proofs.YtbjimmemcmjpcabGreatDoorW.PrintWords Go.Proofs.YtbjimmemcmjpcabGreatDoorW.PrintLast Go.Proofs.YtbjimmemcmjpcabGreatDoorW.PrintMore
attribute [local go_sem] max2_int min2_int max_two min_two max_three min_three max_four min_four
set_option linter.unusedVariables false
set_option linter.unusedSimpArgs false
mutual
def cam_Error.j0 : Nat → List Int → List Int → Bool → Option (Int × Int)
  | 0, _, _, _ => none
  | k + 1, x0, x1, x23 => if x23 = true then (some (0, 2)) else (cam_Error.l0 k x1 0 x0 (x0.length : Int) 0)
def cam_Error.l0 : Nat → List Int → Int → List Int → Int → Int → Option (Int × Int)
  | 0, _, _, _, _, _ => none
  | k + 1, x1, x6, x24, x25, x26 => if x26 < x25 then (if 0 ≤ x26 then (if x26 < (x24.length : Int) then (if x26 < (x1.length : Int) then ((cam_size.f (wrap64 ((rd x24 x26) - (rd x1 x26)))).bind fun t425 => (cam_Error.l0 k x1 (mx x6 t425) x24 x25 (wrap64 (x26 + 1)))) else (none)) else (none)) else (none)) else (some (x6, 0))
end
def cam_Error.f (k : Nat) (l0 : List Int) (l1 : List Int) : Option (Int × Int) := (cam_isCam.f l0).bind fun t421 => (if t421 = true then ((cam_isCam.f l1).bind fun t422 => (if t422 = true then (cam_Error.j0 k l0 l1 ((l0.length : Int) != (l1.length : Int))) else (cam_Error.j0 k l0 l1 true))) else (cam_Error.j0 k l0 l1 true))
theorem cam_Error.mono_l : ∀ k, (∀ y0 y1 y2, LeO (cam_Error.j0 k y0 y1 y2) (cam_Error.j0 (k + 1) y0 y1 y2)) ∧ (∀ y0 y1 y2 y3 y4, LeO (cam_Error.l0 k y0 y1 y2 y3 y4) (cam_Error.l0 (k + 1) y0 y1 y2 y3 y4))
  | 0 => ⟨fun _ _ _ r h => by simp [cam_Error.j0] at h, fun _ _ _ _ _ r h => by simp [cam_Error.l0] at h⟩
  | k + 1 => by
    obtain ⟨ih0, ih1⟩ := cam_Error.mono_l k
    refine ⟨?_, ?_⟩
    · intro y0 y1 y2
      unfold cam_Error.j0
      repeat' first
      | (with_reducible exact ih0 _ _ _)
      | (with_reducible exact ih1 _ _ _ _ _)
      | (with_reducible exact LeO.refl _)
      | (with_reducible exact LeO.none _)
      | (with_reducible refine LeO.ite ?_ ?_)
      | (with_reducible refine LeO.bind ?_ (fun _ => ?_))
      | exact ih0 _ _ _
      | exact ih1 _ _ _ _ _
      | exact LeO.none _
      | refine LeO.ite ?_ ?_
      | refine LeO.bind ?_ (fun _ => ?_)
    · intro y0 y1 y2 y3 y4
      unfold cam_Error.l0
      repeat' first
      | (with_reducible exact ih0 _ _ _)
      | (with_reducible exact ih1 _ _ _ _ _)
      | (with_reducible exact LeO.refl _)
      | (with_reducible exact LeO.none _)
      | (with_reducible refine LeO.ite ?_ ?_)
      | (with_reducible refine LeO.bind ?_ (fun _ => ?_))
      | exact ih0 _ _ _
      | exact ih1 _ _ _ _ _
      | exact LeO.none _
      | refine LeO.ite ?_ ?_
      | refine LeO.bind ?_ (fun _ => ?_)
theorem cam_Error.mono : ∀ a0 a1 k, LeO (cam_Error.f k a0 a1) (cam_Error.f (k + 1) a0 a1) := by
  intro a0 a1 k
  obtain ⟨ih0, ih1⟩ := cam_Error.mono_l k
  unfold cam_Error.f
  repeat' first
      | (with_reducible exact ih0 _ _ _)
      | (with_reducible exact ih1 _ _ _ _ _)
      | (with_reducible exact LeO.refl _)
      | (with_reducible exact LeO.none _)
      | (with_reducible refine LeO.ite ?_ ?_)
      | (with_reducible refine LeO.bind ?_ (fun _ => ?_))
      | exact ih0 _ _ _
      | exact ih1 _ _ _ _ _
      | exact LeO.none _
      | refine LeO.ite ?_ ?_
      | refine LeO.bind ?_ (fun _ => ?_)
set_option maxHeartbeats 8000000 in
set_option maxRecDepth 100000 in
theorem cam_Error.calls (k : Nat) (A0 : Option Addr) (c0 : Nat) (l0 : List Int) (A1 : Option Addr) (c1 : Nat) (l1 : List Int) (r1 : Int) (r2 : Int) (w : World) (hr0 : Kd.C (Kd.int .i64) w A0 l0.length l0) (hc0 : l0.length ≤ c0) (hr1 : Kd.C (Kd.int .i64) w A1 l1.length l1) (hc1 : l1.length ≤ c1) (h : cam_Error.f k l0 l1 = some (r1, r2)) :
    Calls Tryz.prog 34 #[.slice A0 l0.length c0, .slice A1 l1.length c1] w fun e w' => e = .returned (.tuple #[.int .i64 r1, .int .i64 r2]) ∧ Below w.heap.size w w' := by
  have HR0 := Aside0.mk hr0
  have HC0 := Aside0.mk hc0
  clear hr0 hc0
  have HR1 := Aside0.mk hr1
  have HC1 := Aside0.mk hc1
  clear hr1 hc1
  have HB := Aside0.mk (Below.refl w.heap.size w)
  have H : ((cam_isCam.f l0).bind fun t421 => (if t421 = true then ((cam_isCam.f l1).bind fun t422 => (if t422 = true then (cam_Error.j0 k l0 l1 ((l0.length : Int) != (l1.length : Int))) else (cam_Error.j0 k l0 l1 true))) else (cam_Error.j0 k l0 l1 true))) = some (r1, r2) := h
  clear h
  have HC3 := Aside0.mk H
  clear H
  go_enter Tryz.func34, Tryz.ntmps34
  go_upto_region 1 with (fail)
  go_cut [23] (fun v23 wc => ∃ (kq : Nat) (x23_2 : Bool), v23 = .bool x23_2 ∧ Aside0 (cam_Error.j0 kq l0 l1 x23_2 = some (r1, r2)) ∧ Aside0 (kq ≤ k) ∧ Aside0 (Below w.heap.size w wc))
  case first =>
    have H := HC3.out
    clear HC3
    replace H := Option.bind_eq_some_iff.mp H
    obtain ⟨t421, A40, H⟩ := H
    replace H : (if t421 = true then ((cam_isCam.f l1).bind fun t422 => (if t422 = true then (cam_Error.j0 k l0 l1 ((l0.length : Int) != (l1.length : Int))) else (cam_Error.j0 k l0 l1 true))) else (cam_Error.j0 k l0 l1 true)) = some (r1, r2) := H
    have A4 := Aside0.mk A40
    clear A40
    by_cases c5 : t421 = true
    · subst c5
      have H1 : ((cam_isCam.f l1).bind fun t422 => (if t422 = true then (cam_Error.j0 k l0 l1 ((l0.length : Int) != (l1.length : Int))) else (cam_Error.j0 k l0 l1 true))) = some (r1, r2) := by rw [if_pos rfl] at H; exact H
      clear H
      have H := H1
      clear H1
      replace H := Option.bind_eq_some_iff.mp H
      obtain ⟨t422, A60, H⟩ := H
      replace H : (if t422 = true then (cam_Error.j0 k l0 l1 ((l0.length : Int) != (l1.length : Int))) else (cam_Error.j0 k l0 l1 true)) = some (r1, r2) := H
      have A6 := Aside0.mk A60
      clear A60
      by_cases c7 : t422 = true
      · subst c7
        have H1 : (cam_Error.j0 k l0 l1 ((l0.length : Int) != (l1.length : Int))) = some (r1, r2) := by rw [if_pos rfl] at H; exact H
        clear H
        have H := H1
        clear H1
        have H' := Aside0.mk H
        clear H
        go_wp2_with (first | ((with_reducible refine gate_callee (f := 52) rfl ?_); refine goesL_ (some 10) rfl rfl Tryz.func52 (by kernel_rfl) rfl #[.slice A0 l0.length c0] rfl (by (try simp only [List.map_toArray, List.map_cons, List.map_nil]); first | done | rfl | (simp only [List.length_drop, List.length_take]; rfl)) ?_; (with_reducible refine (cam_isCam.calls _ _ l0 true _ ?side1 ?side2 A4.out).mono ?_); (case side1 => repeat (first | exact (Kd.C_below HR0.out HB.out) | (with_reducible refine Kd.C_alloc ?_ _) | (with_reducible refine Kd.C_drewN ?_ _) | (with_reducible refine Kd.C_drew ?_))); (case side2 => exact HC0.out); rintro e w' ⟨rfl, ⟨nd, rfl⟩⟩; refine ⟨_, rfl, ?_⟩) | (go_at_call 52; (with_reducible refine (cam_isCam.calls _ _ l1 true _ ?side1 ?side2 A6.out).mono ?_); (case side1 => repeat (first | exact (Kd.C_below HR1.out (by repeat (first | (with_reducible first | exact HB.out | apply below_alloc | apply pw_below_drewN | apply below_drew1) | exact HB.out))) | (with_reducible refine Kd.C_alloc ?_ _) | (with_reducible refine Kd.C_drewN ?_ _) | (with_reducible refine Kd.C_drew ?_))); (case side2 => exact HC1.out); rintro e w' ⟨rfl, ⟨nd, rfl⟩⟩))
        go_meet
        case rel => exact ⟨_, (((l0.length : Int) != (l1.length : Int))), (by first | rfl | (simp; done) | (simp [*]; done)), H', ⟨by first | omega | exact Nat.le_refl _⟩, ⟨by repeat (first | (with_reducible first | exact HB.out | apply below_alloc | apply pw_below_drewN | apply below_drew1) | exact HB.out)⟩⟩
      · replace c7 := Bool.eq_false_iff.mpr c7
        subst c7
        have H1 : (cam_Error.j0 k l0 l1 true) = some (r1, r2) := by rw [if_neg (show ¬ (false = true) by decide)] at H; exact H
        clear H
        have H := H1
        clear H1
        have H' := Aside0.mk H
        clear H
        go_wp2_with (first | ((with_reducible refine gate_callee (f := 52) rfl ?_); refine goesL_ (some 10) rfl rfl Tryz.func52 (by kernel_rfl) rfl #[.slice A0 l0.length c0] rfl (by (try simp only [List.map_toArray, List.map_cons, List.map_nil]); first | done | rfl | (simp only [List.length_drop, List.length_take]; rfl)) ?_; (with_reducible refine (cam_isCam.calls _ _ l0 true _ ?side1 ?side2 A4.out).mono ?_); (case side1 => repeat (first | exact (Kd.C_below HR0.out HB.out) | (with_reducible refine Kd.C_alloc ?_ _) | (with_reducible refine Kd.C_drewN ?_ _) | (with_reducible refine Kd.C_drew ?_))); (case side2 => exact HC0.out); rintro e w' ⟨rfl, ⟨nd, rfl⟩⟩; refine ⟨_, rfl, ?_⟩) | (go_at_call 52; (with_reducible refine (cam_isCam.calls _ _ l1 false _ ?side1 ?side2 A6.out).mono ?_); (case side1 => repeat (first | exact (Kd.C_below HR1.out (by repeat (first | (with_reducible first | exact HB.out | apply below_alloc | apply pw_below_drewN | apply below_drew1) | exact HB.out))) | (with_reducible refine Kd.C_alloc ?_ _) | (with_reducible refine Kd.C_drewN ?_ _) | (with_reducible refine Kd.C_drew ?_))); (case side2 => exact HC1.out); rintro e w' ⟨rfl, ⟨nd, rfl⟩⟩))
        go_meet
        case rel => exact ⟨_, (true), (by first | rfl | (simp; done) | (simp [*]; done)), H', ⟨by first | omega | exact Nat.le_refl _⟩, ⟨by repeat (first | (with_reducible first | exact HB.out | apply below_alloc | apply pw_below_drewN | apply below_drew1) | exact HB.out)⟩⟩
    · replace c5 := Bool.eq_false_iff.mpr c5
      subst c5
      have H1 : (cam_Error.j0 k l0 l1 true) = some (r1, r2) := by rw [if_neg (show ¬ (false = true) by decide)] at H; exact H
      clear H
      have H := H1
      clear H1
      have H' := Aside0.mk H
      clear H
      go_wp2_with (first | ((with_reducible refine gate_callee (f := 52) rfl ?_); refine goesL_ (some 10) rfl rfl Tryz.func52 (by kernel_rfl) rfl #[.slice A0 l0.length c0] rfl (by (try simp only [List.map_toArray, List.map_cons, List.map_nil]); first | done | rfl | (simp only [List.length_drop, List.length_take]; rfl)) ?_; (with_reducible refine (cam_isCam.calls _ _ l0 false _ ?side1 ?side2 A4.out).mono ?_); (case side1 => repeat (first | exact (Kd.C_below HR0.out HB.out) | (with_reducible refine Kd.C_alloc ?_ _) | (with_reducible refine Kd.C_drewN ?_ _) | (with_reducible refine Kd.C_drew ?_))); (case side2 => exact HC0.out); rintro e w' ⟨rfl, ⟨nd, rfl⟩⟩; refine ⟨_, rfl, ?_⟩))
      go_meet
      case rel => exact ⟨_, (true), (by first | rfl | (simp; done) | (simp [*]; done)), H', ⟨by first | omega | exact Nat.le_refl _⟩, ⟨by repeat (first | (with_reducible first | exact HB.out | apply below_alloc | apply pw_below_drewN | apply below_drew1) | exact HB.out)⟩⟩
  case rest =>
    clear HC3
    try clear c1
    try clear p2
    try clear c3
    try clear c5
    try clear c7
    obtain ⟨kq, x23_2, rfl, HA, HJ2, HB⟩ := hcut
    cases kq with
    | zero => exact absurd HA.out (by simp [cam_Error.j0])
    | succ kj2 =>
      have H := HA.out
      clear HA
      simp only [cam_Error.j0] at H
      by_cases c8 : x23_2 = true
      · subst c8
        have H1 : (some (0, 2)) = some (r1, r2) := by rw [if_pos rfl] at H; exact H
        clear H
        have H := H1
        clear H1
        simp only [Option.some.injEq, Prod.mk.injEq] at H
        obtain ⟨rfl, rfl⟩ := H
        go_wp2
        go_ret2
        exact ⟨by first | rfl | (simp [errW_none, errW_some] <;> rfl) | (simp [*, errW_none, errW_some] <;> rfl), by repeat (first | (with_reducible first | exact HB.out | apply below_alloc | apply pw_below_drewN | apply below_drew1) | exact HB.out)⟩
      · replace c8 := Bool.eq_false_iff.mpr c8
        subst c8
        have H1 : (cam_Error.l0 kj2 l1 0 l0 (l0.length : Int) 0) = some (r1, r2) := by rw [if_neg (show ¬ (false = true) by decide)] at H; exact H
        clear H
        have H := H1
        clear H1
        have H' := Aside0.mk H
        clear H
        go_wp2
        go_loopg [6, 26] kj2 (fun kq v6 v26 w' => ∃ (x6_2 : Int) (x26_2 : Int), v6 = .int .i64 x6_2 ∧ v26 = .int .i64 x26_2 ∧ Aside0 (cam_Error.l0 kq l1 x6_2 l0 (l0.length : Int) x26_2 = some (r1, r2)) ∧ Aside0 (kq ≤ kj2) ∧ Aside0 (Below w.heap.size w w'))
        case atStart => exact ⟨(0), (0), (by first | rfl | (simp; done) | (simp [*]; done)), (by first | rfl | (simp; done) | (simp [*]; done)), H', ⟨Nat.le_refl _⟩, ⟨by repeat (first | (with_reducible first | exact HB.out | apply below_alloc | apply pw_below_drewN | apply below_drew1) | exact HB.out)⟩⟩
        case round =>
          clear H'
          try clear c1
          try clear p2
          try clear c3
          try clear c5
          try clear c7
          try clear c8
          try clear p2
          obtain ⟨x6_2, x26_2, rfl, rfl, HA, HK2, HB⟩ := hrel
          cases gk with
          | zero => exact absurd HA.out (by simp [cam_Error.l0])
          | succ k2 =>
            have H := HA.out
            clear HA
            simp only [cam_Error.l0] at H
            by_cases c9 : x26_2 < (l0.length : Int)
            · rw [if_pos c9] at H
              have c9b0 : decide (x26_2 < (l0.length : Int)) = true := decide_eq_true c9
              clear c9
              by_cases c10 : 0 ≤ x26_2
              · rw [if_pos c10] at H
                have c10b0 : decide (0 ≤ x26_2) = true := decide_eq_true c10
                clear c10
                by_cases c11 : x26_2 < (l0.length : Int)
                · rw [if_pos c11] at H
                  have c11b0 : decide (x26_2 < (l0.length : Int)) = true := decide_eq_true c11
                  clear c11
                  by_cases c12 : x26_2 < (l1.length : Int)
                  · rw [if_pos c12] at H
                    have c12b0 : decide (x26_2 < (l1.length : Int)) = true := decide_eq_true c12
                    clear c12
                    replace H := Option.bind_eq_some_iff.mp H
                    obtain ⟨t425, A130, H⟩ := H
                    replace H : (cam_Error.l0 k2 l1 (mx x6_2 t425) l0 (l0.length : Int) (wrap64 (x26_2 + 1))) = some (r1, r2) := H
                    have A13 := Aside0.mk A130
                    clear A130
                    obtain ⟨ji14, hji14⟩ : ∃ j_ : Int, (mx x6_2 t425) = j_ := ⟨_, rfl⟩
                    replace H : (cam_Error.l0 k2 l1 ji14 l0 (l0.length : Int) (wrap64 (x26_2 + 1))) = some (r1, r2) := by first | (rw [hji14] at H; exact H) | (simp only [hji14] at H ⊢; exact H)
                    (try rw [hji14] at A13)
                    have hji14_ : (if x6_2 < t425 then t425 else x6_2) = ji14 := hji14
                    have H' := Aside0.mk H
                    clear H
                    have p423 : 0 ≤ (x26_2 : Int) := of_decide_eq_true (by first | (with_reducible assumption) | assumption)
                    have q423 : x26_2 < (l0.length : Int) := of_decide_eq_true (by first | (with_reducible assumption) | assumption)
                    obtain ⟨ad423, e423, hx423_0⟩ := Kd.at_int HR0.out x26_2 p423 q423
                    cases e423
                    replace hx423_0 := (HB.out.cell (World.block_lt_of_cell? w _ hx423_0)).trans hx423_0
                    replace p423 := eq_true p423
                    replace q423 := eq_true q423
                    have p424 : 0 ≤ (x26_2 : Int) := of_decide_eq_true (by first | (with_reducible assumption) | assumption)
                    have q424 : x26_2 < (l1.length : Int) := of_decide_eq_true (by first | (with_reducible assumption) | assumption)
                    obtain ⟨ad424, e424, hx424_0⟩ := Kd.at_int HR1.out x26_2 p424 q424
                    cases e424
                    replace hx424_0 := (HB.out.cell (World.block_lt_of_cell? w _ hx424_0)).trans hx424_0
                    replace p424 := eq_true p424
                    replace q424 := eq_true q424
                    go_wp2_with (first | ((with_reducible refine gate_callee (f := 68) rfl ?_); refine goesL_ (some 38) rfl rfl Tryz.func68 (by kernel_rfl) rfl #[.int .i64 (wrap64 ((rd l0 x26_2) - (rd l1 x26_2)))] rfl (by (try simp only [List.map_toArray, List.map_cons, List.map_nil]); first | done | rfl | (simp only [List.length_drop, List.length_take]; rfl)) ?_; (with_reducible refine (cam_size.calls (wrap64 ((rd l0 x26_2) - (rd l1 x26_2))) t425 _ A13.out).mono ?_); rintro e w15 ⟨rfl, hb⟩; refine ⟨_, rfl, ?_⟩; have n0_ := Aside0.mk (below_step (by repeat (first | (with_reducible first | exact HB.out | apply below_alloc | apply pw_below_drewN | apply below_drew1) | exact HB.out)) hb); clear HB; have HB := n0_; clear n0_; (try clear hb); (try clear hb2); (try clear hk); (try clear hi)))
                    go_roundg k2
                    case measure => have := HJ2.out; have := HK2.out; omega
                    case rel => exact ⟨(ji14), (wrap64 (x26_2 + 1)), (by first | rfl | (simp; done) | (simp only [← hji14] <;> (first | rfl | simp)) | (simp [*]; done)), (by first | rfl | (simp; done) | (simp [*]; done)), H', ⟨by have := HJ2.out; have := HK2.out; omega⟩, ⟨by repeat (first | (with_reducible first | exact HB.out | apply below_alloc | apply pw_below_drewN | apply below_drew1) | exact HB.out)⟩⟩
                  · rw [if_neg c12] at H
                    exact absurd H (by simp)
                · rw [if_neg c11] at H
                  exact absurd H (by simp)
              · rw [if_neg c10] at H
                exact absurd H (by simp)
            · rw [if_neg c9] at H
              have c9b0 : decide (x26_2 < (l0.length : Int)) = false := decide_eq_false c9
              clear c9
              simp only [Option.some.injEq, Prod.mk.injEq] at H
              obtain ⟨rfl, rfl⟩ := H
              go_wp2
              go_ret2
              exact ⟨by first | rfl | (simp [errW_none, errW_some] <;> rfl) | (simp [*, errW_none, errW_some] <;> rfl), by repeat (first | (with_reducible first | exact HB.out | apply below_alloc | apply pw_below_drewN | apply below_drew1) | exact HB.out)⟩
end Go.Proofs.YtbjimmemcmjpcabGreatDoor.Print
end

/- The law's Go function answers true for every input, and leaves its arguments as they were: its parts, the plain law, the row, the card. Joined by wip/pack.py. -/
import Derived.Test.YtbjimmemcmjpcaaGreatDoorB4
import Derived.Test.YtbjimmemcmjpcaaGreatDoorLF1
import Derived.Test.YtbjimmemcmjpcaaGreatDoorB3
section
set_option linter.unusedVariables false
set_option linter.unusedSimpArgs false
namespace Go.Proofs.YtbjimmemcmjpcaaGreatDoor.Print
open Go.RowKit Go.Proofs.YtbjimmemcmjpcaaGreatDoorW.PrintWords Go.Proofs.YtbjimmemcmjpcaaGreatDoorW.PrintLast Go.Proofs.YtbjimmemcmjpcaaGreatDoorW.PrintMore
theorem w64 (n : Int) (h : -9223372036854775808 ≤ n ∧ n ≤ 9223372036854775807) : wrap64 n = n := IntWalk.wrap64_in n h
theorem refIn_f (a b c : Int) : tellurionref04_in.f a b c = some (decide (b ≤ a) && decide (a ≤ c)) := by
  unfold tellurionref04_in.f
  by_cases h1 : b ≤ a <;> by_cases h2 : a ≤ c <;> simp [h1, h2]
theorem refFoot_f (a : Int) : tellurionref04_Foot.f a = some (isFootB a) := by
  unfold tellurionref04_Foot.f; rw [refIn_f]; rfl
theorem refCam_l (l : List Int) (hl : l.length ≤ 1000000000000) : ∀ (q j k : Nat), j ≤ l.length → q = l.length - j → q < k → tellurionref04_Cam.l0 k l (j : Int) = some ((l.drop j).all isH && decide (3 ≤ l.length ∧ l.length ≤ 24))
  | q, j, 0, _, _, h => by omega
  | 0, j, k + 1, hj, hq, _ => by
    obtain rfl : j = l.length := by omega
    unfold tellurionref04_Cam.l0
    rw [if_neg (by omega), refIn_f, Option.bind_some, List.drop_length]
    simp only [List.all_nil, Bool.true_and]
    congr 1
    by_cases h1 : 3 ≤ l.length <;> by_cases h2 : l.length ≤ 24 <;> simp [h1, h2] <;> omega
  | q + 1, j, k + 1, hj, hq, hk => by
    have hlt : j < l.length := by omega
    unfold tellurionref04_Cam.l0
    rw [if_pos (by omega), if_pos (by omega), refIn_f, Option.bind_some, List.drop_eq_getElem_cons hlt, List.all_cons]
    have hrd : rd l (j : Int) = l[j] := by simp [rd, List.getD_eq_getElem?_getD, hlt]
    rw [hrd]
    show (if isH l[j] = true then _ else _) = _
    cases hb : isH l[j] with
    | false => simp
    | true =>
      rw [if_pos rfl, w64 _ (by omega), show (j : Int) + 1 = ((j + 1 : Nat) : Int) by omega, refCam_l l hl q (j + 1) k (by omega) (by omega) (by omega)]
      simp
theorem refCam_ev (l : List Int) (hl : l.length ≤ 1000000000000) (k : Nat) (hk : l.length < k) : tellurionref04_Cam.f k l = some (isCamB l) := by
  unfold tellurionref04_Cam.f isCamB
  rw [show (0 : Int) = ((0 : Nat) : Int) by rfl, refCam_l l hl l.length 0 k (by omega) (by omega) hk, List.drop_zero, Bool.and_comm]
theorem refSame_l (x y : List Int) (hxy : x.length = y.length) (hl : x.length ≤ 1000000000000) : ∀ (q j k : Nat), j ≤ x.length → q = x.length - j → q < k → tellurionref04_Same.l0 k x y (j : Int) = some (decide (x.drop j = y.drop j))
  | q, j, 0, _, _, h => by omega
  | 0, j, k + 1, hj, hq, _ => by
    obtain rfl : j = x.length := by omega
    unfold tellurionref04_Same.l0
    rw [if_neg (by omega), List.drop_length, hxy, List.drop_length]
    rfl
  | q + 1, j, k + 1, hj, hq, hk => by
    have hlt : j < x.length := by omega
    have hlt2 : j < y.length := by omega
    unfold tellurionref04_Same.l0
    have h1 : rd x (j : Int) = x[j] := by simp [rd, List.getD_eq_getElem?_getD, hlt]
    have h2 : rd y (j : Int) = y[j] := by simp [rd, List.getD_eq_getElem?_getD, hlt2]
    rw [if_pos (by omega), if_pos (by omega), if_pos (by omega), h1, h2, List.drop_eq_getElem_cons hlt, List.drop_eq_getElem_cons hlt2]
    by_cases he : x[j] = y[j]
    · rw [if_pos he, w64 _ (by omega), show (j : Int) + 1 = ((j + 1 : Nat) : Int) by omega, refSame_l x y hxy hl q (j + 1) k (by omega) (by omega) (by omega)]
      simp only [List.cons.injEq, he, true_and]
    · rw [if_neg he]
      simp only [List.cons.injEq, he, false_and, decide_false]
theorem refSame_ev (x y : List Int) (hl : x.length ≤ 1000000000000) (k : Nat) (hk : x.length < k) : tellurionref04_Same.f k x y = some (decide (x = y)) := by
  unfold tellurionref04_Same.f
  by_cases h : x.length = y.length
  · rw [if_pos (by omega), show (0 : Int) = ((0 : Nat) : Int) by rfl, refSame_l x y h hl x.length 0 k (by omega) (by omega) hk, List.drop_zero, List.drop_zero]
  · rw [if_neg (by omega)]
    congr 1
    exact (decide_eq_false (fun e => h (by rw [e]))).symm
end Go.Proofs.YtbjimmemcmjpcaaGreatDoor.Print
end
section
set_option linter.unusedVariables false
set_option linter.unusedSimpArgs false
namespace Go.Proofs.YtbjimmemcmjpcaaGreatDoor.Print
open Go.RowKit Go.Proofs.YtbjimmemcmjpcaaGreatDoorW.PrintWords Go.Proofs.YtbjimmemcmjpcaaGreatDoorW.PrintLast Go.Proofs.YtbjimmemcmjpcaaGreatDoorW.PrintMore
theorem mx_max (a b : Int) : mx a b = max a b := by unfold mx; split <;> omega
def winM (l : List Int) (i : Nat) : Nat → Int
  | 0 => rd l (i : Int)
  | j + 1 => max (max (winM l i j) (rd l (((i : Int) + ((j : Int) + 1)) % (l.length : Int)))) (rd l (((i : Int) - ((j : Int) + 1)) % (l.length : Int)))
theorem tmod_in (a n : Int) (h : 0 ≤ a) (hn : 0 < n) : Int.tmod a n = a % n := Int.tmod_eq_emod_of_nonneg h
theorem refFollow_step (l : List Int) (m : Nat) (hl : 3 ≤ l.length ∧ l.length ≤ 1000) (hm : m ≤ 5) (out : List Int) (i : Nat) (hi : i < l.length) (j k : Nat) (hj : j < m) :
    tellurionref04_Follow.l1 (k + 1) l (m : Int) (l.length : Int) out (i : Int) (winM l i j) ((j : Int) + 1) = tellurionref04_Follow.l1 k l (m : Int) (l.length : Int) out (i : Int) (winM l i (j + 1)) (((j + 1 : Nat) : Int) + 1) := by
  have hN : (0 : Int) < (l.length : Int) := by omega
  have e1 : wrap64 ((i : Int) + ((j : Int) + 1)) = (i : Int) + ((j : Int) + 1) := w64 _ (by omega)
  have e2 : wrap64 ((l.length : Int) * 5) = (l.length : Int) * 5 := w64 _ (by omega)
  have e3 : wrap64 ((i : Int) + (l.length : Int) * 5) = (i : Int) + (l.length : Int) * 5 := w64 _ (by omega)
  have e4 : wrap64 ((i : Int) + (l.length : Int) * 5 - ((j : Int) + 1)) = (i : Int) + (l.length : Int) * 5 - ((j : Int) + 1) := w64 _ (by omega)
  have e5 : wrap64 ((j : Int) + 1 + 1) = ((j + 1 : Nat) : Int) + 1 := by rw [w64 _ (by omega)]; omega
  have e6 : ((i : Int) + (l.length : Int) * 5 - ((j : Int) + 1)) % (l.length : Int) = ((i : Int) - ((j : Int) + 1)) % (l.length : Int) := by
    rw [show (i : Int) + (l.length : Int) * 5 - ((j : Int) + 1) = (i : Int) - ((j : Int) + 1) + (l.length : Int) * 5 by omega, Int.add_mul_emod_self_left]
  rw [tellurionref04_Follow.l1]
  simp only [e1, e2, e3, e4, e5, tmod_in _ _ (show (0 : Int) ≤ (i : Int) + ((j : Int) + 1) by omega) hN, tmod_in _ _ (show (0 : Int) ≤ (i : Int) + (l.length : Int) * 5 - ((j : Int) + 1) by omega) hN, e6, mx_max]
  rw [if_pos (by omega), if_neg (by omega), if_pos (Int.emod_nonneg _ (by omega)), if_pos (Int.emod_lt_of_pos _ hN), if_pos (Int.emod_nonneg _ (by omega)), if_pos (Int.emod_lt_of_pos _ hN)]
  rfl
theorem refFollow_in (l : List Int) (m : Nat) (hl : 3 ≤ l.length ∧ l.length ≤ 1000) (hm : m ≤ 5) (out : List Int) (i : Nat) (hi : i < l.length) (k : Nat) : ∀ (q j : Nat), j + q = m →
    tellurionref04_Follow.l1 (k + q) l (m : Int) (l.length : Int) out (i : Int) (winM l i j) ((j : Int) + 1) = tellurionref04_Follow.l1 k l (m : Int) (l.length : Int) out (i : Int) (winM l i m) ((m : Int) + 1) := by
  intro q
  induction q with
  | zero => intro j h; obtain rfl : j = m := by omega
            rfl
  | succ q ih =>
    intro j h
    rw [show k + (q + 1) = k + q + 1 by omega, refFollow_step l m hl hm out i hi j (k + q) (by omega)]
    exact ih (j + 1) (by omega)
theorem refFollow_out (l : List Int) (m : Nat) (hl : 3 ≤ l.length ∧ l.length ≤ 1000) (hm : m ≤ 5) (out : List Int) (ho : out.length ≤ 1000) (i : Nat) (hi : i < l.length) (k : Nat) :
    tellurionref04_Follow.l0 (k + 1 + m + 1) l (m : Int) (l.length : Int) out (i : Int) = tellurionref04_Follow.l0 k l (m : Int) (l.length : Int) (out ++ [winM l i m]) ((i + 1 : Nat) : Int) := by
  rw [tellurionref04_Follow.l0]
  rw [if_pos (by omega), if_pos (by omega), if_pos (by omega)]
  have h := refFollow_in l m hl hm out i hi (k + 1) m 0 (by omega)
  rw [show (1 : Int) = ((0 : Nat) : Int) + 1 by omega]
  refine h.trans ?_
  rw [tellurionref04_Follow.l1]
  rw [if_neg (by omega), if_pos (by omega), w64 _ (by omega)]
  rfl
def followM (l : List Int) (m n : Nat) : List Int := (List.range n).map fun i => winM l i m
theorem followM_succ (l : List Int) (m n : Nat) : followM l m (n + 1) = followM l m n ++ [winM l n m] := by simp [followM, List.range_succ]
theorem followM_len (l : List Int) (m n : Nat) : (followM l m n).length = n := by simp [followM]
theorem refFollow_all (l : List Int) (m : Nat) (hl : 3 ≤ l.length ∧ l.length ≤ 1000) (hm : m ≤ 5) : ∀ (q i k : Nat), i + q = l.length → tellurionref04_Follow.l0 (k + 1 + q * (m + 2)) l (m : Int) (l.length : Int) (followM l m i) (i : Int) = some (followM l m l.length) := by
  intro q
  induction q with
  | zero =>
    intro i k h
    obtain rfl : i = l.length := by omega
    rw [Nat.zero_mul, Nat.add_zero, tellurionref04_Follow.l0, if_neg (by omega)]
  | succ q ih =>
    intro i k h
    rw [show k + 1 + (q + 1) * (m + 2) = (k + 1 + q * (m + 2)) + 1 + m + 1 by rw [Nat.add_mul]; omega, refFollow_out l m hl hm (followM l m i) (by rw [followM_len]; omega) i (by omega), ← followM_succ]
    exact ih (i + 1) k (by omega)
theorem refFollow_ev (l : List Int) (m : Nat) (hl : 3 ≤ l.length ∧ l.length ≤ 1000) (hm : m ≤ 5) (k : Nat) : tellurionref04_Follow.f (k + 1 + l.length * (m + 2)) l (m : Int) = some (followM l m l.length) :=
  refFollow_all l m hl hm l.length 0 k (by omega)
end Go.Proofs.YtbjimmemcmjpcaaGreatDoor.Print
end
section
set_option linter.unusedVariables false
set_option linter.unusedSimpArgs false
namespace Go.Proofs.YtbjimmemcmjpcaaGreatDoor.Print
open Go.RowKit Go.Proofs.YtbjimmemcmjpcaaGreatDoorW.PrintWords Go.Proofs.YtbjimmemcmjpcaaGreatDoorW.PrintLast Go.Proofs.YtbjimmemcmjpcaaGreatDoorW.PrintMore
theorem foldl_max_is (l : List Int) : ∀ a : Int, (l.foldl max a = a ∨ l.foldl max a ∈ l) ∧ a ≤ l.foldl max a ∧ ∀ y ∈ l, y ≤ l.foldl max a := by
  induction l with
  | nil => intro a; simp
  | cons x l ih =>
    intro a
    simp only [List.foldl_cons]
    obtain ⟨h1, h2, h3⟩ := ih (max a x)
    refine ⟨?_, by omega, fun y hy => ?_⟩
    · rcases h1 with h | h
      · rw [h]
        by_cases hx : a < x
        · exact .inr (by rw [Int.max_eq_right (by omega)]; simp)
        · exact .inl (by omega)
      · exact .inr (by simp [h])
    · rcases List.mem_cons.1 hy with rfl | hy
      · omega
      · exact h3 y hy
theorem maxI_is (L : List Int) (h : 1 ≤ L.length) : maxI L ∈ L ∧ ∀ y ∈ L, y ≤ maxI L := by
  cases L with
  | nil => simp at h
  | cons x L =>
    unfold maxI
    have hx : rd (x :: L) 0 = x := by simp [rd]
    rw [hx, List.drop_one, List.tail_cons]
    obtain ⟨h1, h2, h3⟩ := foldl_max_is L x
    refine ⟨?_, fun y hy => ?_⟩
    · rcases h1 with h | h
      · rw [h]; simp
      · simp [h]
    · rcases List.mem_cons.1 hy with rfl | hy
      · exact h2
      · exact h3 y hy
theorem winM_is (l : List Int) (i : Nat) (hi : i < l.length) : ∀ j : Nat, (∃ t : Int, (-(j : Int) ≤ t ∧ t ≤ j) ∧ winM l i j = rd l (((i : Int) + t) % (l.length : Int))) ∧ ∀ t : Int, -(j : Int) ≤ t → t ≤ j → rd l (((i : Int) + t) % (l.length : Int)) ≤ winM l i j
  | 0 => by
    have h0 : rd l (((i : Int) + 0) % (l.length : Int)) = winM l i 0 := by
      rw [Int.add_zero, Int.emod_eq_of_lt (by omega) (by omega)]; rfl
    refine ⟨⟨0, by omega, h0.symm⟩, fun t h1 h2 => ?_⟩
    obtain rfl : t = 0 := by omega
    rw [h0]; exact Int.le_refl _
  | j + 1 => by
    obtain ⟨⟨t, ht, he⟩, hb⟩ := winM_is l i hi j
    have hw : winM l i (j + 1) = max (max (winM l i j) (rd l (((i : Int) + ((j : Int) + 1)) % (l.length : Int)))) (rd l (((i : Int) - ((j : Int) + 1)) % (l.length : Int))) := rfl
    rw [hw]
    generalize hA : rd l (((i : Int) + ((j : Int) + 1)) % (l.length : Int)) = A
    generalize hB : rd l (((i : Int) - ((j : Int) + 1)) % (l.length : Int)) = B
    generalize hW : winM l i j = W at he hb
    refine ⟨?_, fun u h1 h2 => ?_⟩
    · by_cases h1 : max W A < B
      · exact ⟨-((j : Int) + 1), by omega, by rw [show (i : Int) + -((j : Int) + 1) = (i : Int) - ((j : Int) + 1) by omega, hB]; omega⟩
      · by_cases h2 : W < A
        · exact ⟨(j : Int) + 1, by omega, by rw [hA]; omega⟩
        · exact ⟨t, by omega, by rw [← he]; omega⟩
    · by_cases h3 : u = (j : Int) + 1
      · subst h3; rw [hA]; omega
      · by_cases h4 : u = -((j : Int) + 1)
        · subst h4
          rw [show (i : Int) + -((j : Int) + 1) = (i : Int) - ((j : Int) + 1) by omega, hB]; omega
        · have := hb u (by omega) (by omega)
          omega
theorem mem_footL (l : List Int) (m i : Nat) (y : Int) : y ∈ footL l m i ↔ ∃ t : Int, (-(m : Int) ≤ t ∧ t ≤ m) ∧ y = rd l (((i : Int) + t) % (l.length : Int)) := by
  unfold footL
  rw [List.mem_map]
  constructor
  · rintro ⟨j, hj, rfl⟩
    rw [List.mem_range] at hj
    exact ⟨(j : Int) - m, by omega, rfl⟩
  · rintro ⟨t, ht, rfl⟩
    exact ⟨(t + m).toNat, by rw [List.mem_range]; omega, by rw [Int.toNat_of_nonneg (by omega)]; congr 2; omega⟩
theorem winM_max (l : List Int) (m i : Nat) (hi : i < l.length) : winM l i m = maxI (footL l m i) := by
  obtain ⟨⟨t, ht, he⟩, hb⟩ := winM_is l i hi m
  obtain ⟨h1, h2⟩ := maxI_is (footL l m i) (by simp [footL])
  have ha := h2 _ ((mem_footL l m i _).2 ⟨t, ht, he⟩)
  obtain ⟨u, hu, hue⟩ := (mem_footL l m i _).1 h1
  have hc := hb u hu.1 hu.2
  rw [← hue] at hc
  omega
theorem followM_max (l : List Int) (m : Nat) : followM l m l.length = maxsL l m l.length := by
  unfold followM maxsL
  apply List.map_congr_left
  intro i hi
  exact winM_max l m i (List.mem_range.1 hi)
end Go.Proofs.YtbjimmemcmjpcaaGreatDoor.Print
end
section
set_option linter.unusedVariables false
set_option linter.unusedSimpArgs false
namespace Go.Proofs.YtbjimmemcmjpcaaGreatDoor.Print
open Go.RowKit Go.Proofs.YtbjimmemcmjpcaaGreatDoorW.PrintWords Go.Proofs.YtbjimmemcmjpcaaGreatDoorW.PrintLast Go.Proofs.YtbjimmemcmjpcaaGreatDoorW.PrintMore
theorem mn_min (a b : Int) : mn a b = min a b := by unfold mn; split <;> omega
def winN (l : List Int) (i : Nat) : Nat → Int
  | 0 => rd l (i : Int)
  | j + 1 => min (min (winN l i j) (rd l (((i : Int) + ((j : Int) + 1)) % (l.length : Int)))) (rd l (((i : Int) - ((j : Int) + 1)) % (l.length : Int)))
theorem refUnder_step (l : List Int) (m : Nat) (hl : 3 ≤ l.length ∧ l.length ≤ 1000) (hm : m ≤ 5) (out : List Int) (i : Nat) (hi : i < l.length) (j k : Nat) (hj : j < m) :
    tellurionref04_under.l1 (k + 1) l (m : Int) (l.length : Int) out (i : Int) (winN l i j) ((j : Int) + 1) = tellurionref04_under.l1 k l (m : Int) (l.length : Int) out (i : Int) (winN l i (j + 1)) (((j + 1 : Nat) : Int) + 1) := by
  have hN : (0 : Int) < (l.length : Int) := by omega
  have e1 : wrap64 ((i : Int) + ((j : Int) + 1)) = (i : Int) + ((j : Int) + 1) := w64 _ (by omega)
  have e2 : wrap64 ((l.length : Int) * 5) = (l.length : Int) * 5 := w64 _ (by omega)
  have e3 : wrap64 ((i : Int) + (l.length : Int) * 5) = (i : Int) + (l.length : Int) * 5 := w64 _ (by omega)
  have e4 : wrap64 ((i : Int) + (l.length : Int) * 5 - ((j : Int) + 1)) = (i : Int) + (l.length : Int) * 5 - ((j : Int) + 1) := w64 _ (by omega)
  have e5 : wrap64 ((j : Int) + 1 + 1) = ((j + 1 : Nat) : Int) + 1 := by rw [w64 _ (by omega)]; omega
  have e6 : ((i : Int) + (l.length : Int) * 5 - ((j : Int) + 1)) % (l.length : Int) = ((i : Int) - ((j : Int) + 1)) % (l.length : Int) := by
    rw [show (i : Int) + (l.length : Int) * 5 - ((j : Int) + 1) = (i : Int) - ((j : Int) + 1) + (l.length : Int) * 5 by omega, Int.add_mul_emod_self_left]
  rw [tellurionref04_under.l1]
  simp only [e1, e2, e3, e4, e5, tmod_in _ _ (show (0 : Int) ≤ (i : Int) + ((j : Int) + 1) by omega) hN, tmod_in _ _ (show (0 : Int) ≤ (i : Int) + (l.length : Int) * 5 - ((j : Int) + 1) by omega) hN, e6, mn_min]
  rw [if_pos (by omega), if_neg (by omega), if_pos (Int.emod_nonneg _ (by omega)), if_pos (Int.emod_lt_of_pos _ hN), if_pos (Int.emod_nonneg _ (by omega)), if_pos (Int.emod_lt_of_pos _ hN)]
  rfl
theorem refUnder_in (l : List Int) (m : Nat) (hl : 3 ≤ l.length ∧ l.length ≤ 1000) (hm : m ≤ 5) (out : List Int) (i : Nat) (hi : i < l.length) (k : Nat) : ∀ (q j : Nat), j + q = m →
    tellurionref04_under.l1 (k + q) l (m : Int) (l.length : Int) out (i : Int) (winN l i j) ((j : Int) + 1) = tellurionref04_under.l1 k l (m : Int) (l.length : Int) out (i : Int) (winN l i m) ((m : Int) + 1) := by
  intro q
  induction q with
  | zero => intro j h; obtain rfl : j = m := by omega
            rfl
  | succ q ih =>
    intro j h
    rw [show k + (q + 1) = k + q + 1 by omega, refUnder_step l m hl hm out i hi j (k + q) (by omega)]
    exact ih (j + 1) (by omega)
theorem refUnder_out (l : List Int) (m : Nat) (hl : 3 ≤ l.length ∧ l.length ≤ 1000) (hm : m ≤ 5) (out : List Int) (ho : out.length ≤ 1000) (i : Nat) (hi : i < l.length) (k : Nat) :
    tellurionref04_under.l0 (k + 1 + m + 1) l (m : Int) (l.length : Int) out (i : Int) = tellurionref04_under.l0 k l (m : Int) (l.length : Int) (out ++ [winN l i m]) ((i + 1 : Nat) : Int) := by
  rw [tellurionref04_under.l0]
  rw [if_pos (by omega), if_pos (by omega), if_pos (by omega)]
  have h := refUnder_in l m hl hm out i hi (k + 1) m 0 (by omega)
  rw [show (1 : Int) = ((0 : Nat) : Int) + 1 by omega]
  refine h.trans ?_
  rw [tellurionref04_under.l1]
  rw [if_neg (by omega), if_pos (by omega), w64 _ (by omega)]
  rfl
def underM (l : List Int) (m n : Nat) : List Int := (List.range n).map fun i => winN l i m
theorem underM_succ (l : List Int) (m n : Nat) : underM l m (n + 1) = underM l m n ++ [winN l n m] := by simp [underM, List.range_succ]
theorem underM_len (l : List Int) (m n : Nat) : (underM l m n).length = n := by simp [underM]
theorem refUnder_all (l : List Int) (m : Nat) (hl : 3 ≤ l.length ∧ l.length ≤ 1000) (hm : m ≤ 5) : ∀ (q i k : Nat), i + q = l.length → tellurionref04_under.l0 (k + 1 + q * (m + 2)) l (m : Int) (l.length : Int) (underM l m i) (i : Int) = some (underM l m l.length) := by
  intro q
  induction q with
  | zero =>
    intro i k h
    obtain rfl : i = l.length := by omega
    rw [Nat.zero_mul, Nat.add_zero, tellurionref04_under.l0, if_neg (by omega)]
  | succ q ih =>
    intro i k h
    rw [show k + 1 + (q + 1) * (m + 2) = (k + 1 + q * (m + 2)) + 1 + m + 1 by rw [Nat.add_mul]; omega, refUnder_out l m hl hm (underM l m i) (by rw [underM_len]; omega) i (by omega), ← underM_succ]
    exact ih (i + 1) k (by omega)
theorem refUnder_ev (l : List Int) (m : Nat) (hl : 3 ≤ l.length ∧ l.length ≤ 1000) (hm : m ≤ 5) (k : Nat) : tellurionref04_under.f (k + 1 + l.length * (m + 2)) l (m : Int) = some (underM l m l.length) :=
  refUnder_all l m hl hm l.length 0 k (by omega)
theorem foldl_minI_is (l : List Int) : ∀ a : Int, (l.foldl min a = a ∨ l.foldl min a ∈ l) ∧ l.foldl min a ≤ a ∧ ∀ y ∈ l, l.foldl min a ≤ y := by
  induction l with
  | nil => intro a; simp
  | cons x l ih =>
    intro a
    simp only [List.foldl_cons]
    obtain ⟨h1, h2, h3⟩ := ih (min a x)
    refine ⟨?_, by omega, fun y hy => ?_⟩
    · rcases h1 with h | h
      · rw [h]
        by_cases hx : x < a
        · exact .inr (by rw [Int.min_eq_right (by omega)]; simp)
        · exact .inl (by omega)
      · exact .inr (by simp [h])
    · rcases List.mem_cons.1 hy with rfl | hy
      · omega
      · exact h3 y hy
theorem minI_is (L : List Int) (h : 1 ≤ L.length) : minI L ∈ L ∧ ∀ y ∈ L, minI L ≤ y := by
  cases L with
  | nil => simp at h
  | cons x L =>
    unfold minI
    have hx : rd (x :: L) 0 = x := by simp [rd]
    rw [hx, List.drop_one, List.tail_cons]
    obtain ⟨h1, h2, h3⟩ := foldl_minI_is L x
    refine ⟨?_, fun y hy => ?_⟩
    · rcases h1 with h | h
      · rw [h]; simp
      · simp [h]
    · rcases List.mem_cons.1 hy with rfl | hy
      · exact h2
      · exact h3 y hy
theorem winN_is (l : List Int) (i : Nat) (hi : i < l.length) : ∀ j : Nat, (∃ t : Int, (-(j : Int) ≤ t ∧ t ≤ j) ∧ winN l i j = rd l (((i : Int) + t) % (l.length : Int))) ∧ ∀ t : Int, -(j : Int) ≤ t → t ≤ j → winN l i j ≤ rd l (((i : Int) + t) % (l.length : Int))
  | 0 => by
    have h0 : rd l (((i : Int) + 0) % (l.length : Int)) = winN l i 0 := by
      rw [Int.add_zero, Int.emod_eq_of_lt (by omega) (by omega)]; rfl
    refine ⟨⟨0, by omega, h0.symm⟩, fun t h1 h2 => ?_⟩
    obtain rfl : t = 0 := by omega
    rw [h0]; exact Int.le_refl _
  | j + 1 => by
    obtain ⟨⟨t, ht, he⟩, hb⟩ := winN_is l i hi j
    have hw : winN l i (j + 1) = min (min (winN l i j) (rd l (((i : Int) + ((j : Int) + 1)) % (l.length : Int)))) (rd l (((i : Int) - ((j : Int) + 1)) % (l.length : Int))) := rfl
    rw [hw]
    generalize hA : rd l (((i : Int) + ((j : Int) + 1)) % (l.length : Int)) = A
    generalize hB : rd l (((i : Int) - ((j : Int) + 1)) % (l.length : Int)) = B
    generalize hW : winN l i j = W at he hb
    refine ⟨?_, fun u h1 h2 => ?_⟩
    · by_cases h1 : B < min W A
      · exact ⟨-((j : Int) + 1), by omega, by rw [show (i : Int) + -((j : Int) + 1) = (i : Int) - ((j : Int) + 1) by omega, hB]; omega⟩
      · by_cases h2 : A < W
        · exact ⟨(j : Int) + 1, by omega, by rw [hA]; omega⟩
        · exact ⟨t, by omega, by rw [← he]; omega⟩
    · by_cases h3 : u = (j : Int) + 1
      · subst h3; rw [hA]; omega
      · by_cases h4 : u = -((j : Int) + 1)
        · subst h4
          rw [show (i : Int) + -((j : Int) + 1) = (i : Int) - ((j : Int) + 1) by omega, hB]; omega
        · have := hb u (by omega) (by omega)
          omega
theorem winN_min (l : List Int) (m i : Nat) (hi : i < l.length) : winN l i m = minI (footL l m i) := by
  obtain ⟨⟨t, ht, he⟩, hb⟩ := winN_is l i hi m
  obtain ⟨h1, h2⟩ := minI_is (footL l m i) (by simp [footL])
  have ha := h2 _ ((mem_footL l m i _).2 ⟨t, ht, he⟩)
  obtain ⟨u, hu, hue⟩ := (mem_footL l m i _).1 h1
  have hc := hb u hu.1 hu.2
  rw [← hue] at hc
  omega
end Go.Proofs.YtbjimmemcmjpcaaGreatDoor.Print
end
section
set_option linter.unusedVariables false
set_option linter.unusedSimpArgs false
namespace Go.Proofs.YtbjimmemcmjpcaaGreatDoor.Print
open Go.RowKit Go.Proofs.YtbjimmemcmjpcaaGreatDoorW.PrintWords Go.Proofs.YtbjimmemcmjpcaaGreatDoorW.PrintLast Go.Proofs.YtbjimmemcmjpcaaGreatDoorW.PrintMore
def errL (x y : List Int) : Nat → Int
  | 0 => 0
  | i + 1 => max (max (errL x y i) (rd x (i : Int) - rd y (i : Int))) (rd y (i : Int) - rd x (i : Int))
theorem errL_le (x y : List Int) (e : Int) (he : 0 ≤ e) : ∀ n : Nat, errL x y n ≤ e ↔ ∀ i : Nat, i < n → -e ≤ rd x (i : Int) - rd y (i : Int) ∧ rd x (i : Int) - rd y (i : Int) ≤ e
  | 0 => by simp [errL]; exact he
  | n + 1 => by
    have ih := errL_le x y e he n
    unfold errL
    constructor
    · intro h i hi
      by_cases hn : i = n
      · subst hn; omega
      · exact ih.1 (by omega) i (by omega)
    · intro h
      have h1 := ih.2 (fun i hi => h i (by omega))
      have h2 := h n (by omega)
      omega
theorem refError_l (x y : List Int) (hxy : x.length = y.length) (hl : x.length ≤ 1000000) (hb : ∀ i : Nat, i < x.length → (-1000000 ≤ rd x (i : Int) ∧ rd x (i : Int) ≤ 1000000) ∧ (-1000000 ≤ rd y (i : Int) ∧ rd y (i : Int) ≤ 1000000)) (k : Nat) : ∀ q i : Nat, i + q = x.length →
    tellurionref04_Error.l0 (k + 1 + q) x y (errL x y i) (i : Int) = some (errL x y x.length) := by
  intro q
  induction q with
  | zero =>
    intro i h
    obtain rfl : i = x.length := by omega
    rw [Nat.add_zero, tellurionref04_Error.l0, if_neg (by omega)]
  | succ q ih =>
    intro i h
    have hbi := hb i (by omega)
    rw [show k + 1 + (q + 1) = (k + 1 + q) + 1 by omega, tellurionref04_Error.l0, if_pos (by omega), if_pos (by omega), if_pos (by omega), w64 _ (by omega), w64 _ (by omega), w64 _ (by omega), mx_max, mx_max]
    rw [show (i : Int) + 1 = ((i + 1 : Nat) : Int) by omega]
    exact ih (i + 1) (by omega)
theorem refError_ev (x y : List Int) (hxy : x.length = y.length) (hl : x.length ≤ 1000000) (hb : ∀ i : Nat, i < x.length → (-1000000 ≤ rd x (i : Int) ∧ rd x (i : Int) ≤ 1000000) ∧ (-1000000 ≤ rd y (i : Int) ∧ rd y (i : Int) ≤ 1000000)) (k : Nat) : tellurionref04_Error.f (k + 1 + x.length) x y = some (errL x y x.length) :=
  refError_l x y hxy hl hb k x.length 0 (by omega)
def liftL (x : List Int) (e : Int) (n : Nat) : List Int := (List.range n).map fun (i : Nat) => min 30 (rd x (i : Int) + e)
theorem liftL_succ (x : List Int) (e : Int) (n : Nat) : liftL x e (n + 1) = liftL x e n ++ [min 30 (rd x (n : Int) + e)] := by simp [liftL, List.range_succ]
theorem liftL_len (x : List Int) (e : Int) (n : Nat) : (liftL x e n).length = n := by simp [liftL]
theorem refCarve_in (x : List Int) (m : Int) (e : Int) (he : 0 ≤ e ∧ e ≤ 30) (hl : x.length ≤ 1000) (hb : ∀ i : Nat, i < x.length → 0 ≤ rd x (i : Int) ∧ rd x (i : Int) ≤ 30) (k : Nat) : ∀ q i : Nat, i + q = x.length →
    tellurionref04_Carve.l1 (k + q) x m e (liftL x e i) (i : Int) = tellurionref04_Carve.l1 k x m e (liftL x e x.length) (x.length : Int) := by
  intro q
  induction q with
  | zero =>
    intro i h
    obtain rfl : i = x.length := by omega
    rfl
  | succ q ih =>
    intro i h
    have hbi := hb i (by omega)
    have hlen := liftL_len x e i
    rw [show k + (q + 1) = (k + q) + 1 by omega, tellurionref04_Carve.l1, if_pos (by omega), if_pos (by omega), if_pos (by omega), w64 _ (by omega), w64 _ (by omega), mn_min, ← liftL_succ]
    rw [show (i : Int) + 1 = ((i + 1 : Nat) : Int) by omega]
    exact ih (i + 1) (by omega)
end Go.Proofs.YtbjimmemcmjpcaaGreatDoor.Print
end
section
set_option linter.unusedVariables false
set_option linter.unusedSimpArgs false
namespace Go.Proofs.YtbjimmemcmjpcaaGreatDoor.Print
open Go.RowKit Go.Proofs.YtbjimmemcmjpcaaGreatDoorW.PrintWords Go.Proofs.YtbjimmemcmjpcaaGreatDoorW.PrintLast Go.Proofs.YtbjimmemcmjpcaaGreatDoorW.PrintMore
theorem mono_up {α : Type} {F : Nat → Option α} (hm : ∀ k, LeO (F k) (F (k + 1))) {r : α} {k : Nat} (h : F k = some r) : ∀ q : Nat, F (k + q) = some r
  | 0 => h
  | q + 1 => hm _ r (mono_up hm h q)
theorem mono_to {α : Type} {F : Nat → Option α} (hm : ∀ k, LeO (F k) (F (k + 1))) {r : α} {k k' : Nat} (h : F k = some r) (hk : k ≤ k') : F k' = some r := by
  have := mono_up hm h (k' - k)
  rwa [show k + (k' - k) = k' by omega] at this
theorem refUnder_to (l : List Int) (m : Nat) (hl : 3 ≤ l.length ∧ l.length ≤ 24) (hm : m ≤ 5) (k : Nat) (hk : 200 ≤ k) : tellurionref04_under.f k l (m : Int) = some (underM l m l.length) := by
  refine mono_to (fun k => tellurionref04_under.mono l (m : Int) k) (refUnder_ev l m (by omega) hm 0) ?_
  have : l.length * (m + 2) ≤ 24 * 7 := Nat.mul_le_mul (by omega) (by omega)
  omega
theorem refFollow_to (l : List Int) (m : Nat) (hl : 3 ≤ l.length ∧ l.length ≤ 24) (hm : m ≤ 5) (k : Nat) (hk : 200 ≤ k) : tellurionref04_Follow.f k l (m : Int) = some (followM l m l.length) := by
  refine mono_to (fun k => tellurionref04_Follow.mono l (m : Int) k) (refFollow_ev l m (by omega) hm 0) ?_
  have : l.length * (m + 2) ≤ 24 * 7 := Nat.mul_le_mul (by omega) (by omega)
  omega
theorem refError_to (x y : List Int) (hxy : x.length = y.length) (hl : x.length ≤ 100) (hb : ∀ i : Nat, i < x.length → (-1000000 ≤ rd x (i : Int) ∧ rd x (i : Int) ≤ 1000000) ∧ (-1000000 ≤ rd y (i : Int) ∧ rd y (i : Int) ≤ 1000000)) (k : Nat) (hk : 200 ≤ k) : tellurionref04_Error.f k x y = some (errL x y x.length) :=
  mono_to (fun k => tellurionref04_Error.mono x y k) (refError_ev x y hxy (by omega) hb 0) (by omega)
theorem rd_lift (x : List Int) (e : Int) (n i : Nat) (h : i < n) : rd (liftL x e n) (i : Int) = min 30 (rd x (i : Int) + e) := by simp [liftL, rd, List.getD_eq_getElem?_getD, h]
theorem under_lift (x : List Int) (e : Int) (m : Nat) (h : 1 ≤ x.length) : underM (liftL x e x.length) m x.length = carveL (minsL x m x.length) e.toNat ∨ e < 0 := by
  by_cases he : e < 0
  · exact .inr he
  · left
    unfold underM carveL minsL
    rw [List.map_map]
    apply List.map_congr_left
    intro i hi
    have hi := List.mem_range.1 hi
    have hN : (0 : Int) < (x.length : Int) := by omega
    have hlen := liftL_len x e x.length
    show winN (liftL x e x.length) i m = min 30 (minI (footL x m i) + ((e.toNat : Nat) : Int))
    rw [Int.toNat_of_nonneg (by omega), ← winN_min x m i hi]
    obtain ⟨⟨t, ht, h1⟩, h2⟩ := winN_is (liftL x e x.length) i (by omega) m
    obtain ⟨⟨u, hu, h3⟩, h4⟩ := winN_is x i hi m
    rw [hlen] at h1 h2
    have hr : ∀ s : Int, rd (liftL x e x.length) (((i : Int) + s) % (x.length : Int)) = min 30 (rd x (((i : Int) + s) % (x.length : Int)) + e) := by
      intro s
      have a := Int.emod_nonneg ((i : Int) + s) (show (x.length : Int) ≠ 0 by omega)
      have b := Int.emod_lt_of_pos ((i : Int) + s) hN
      obtain ⟨n, hn⟩ := Int.eq_ofNat_of_zero_le a
      rw [hn]
      exact rd_lift x e x.length n (by omega)
    rw [hr] at h1
    have k1 := h4 t ht.1 ht.2
    have k2 := h2 u hu.1 hu.2
    rw [hr, ← h3] at k2
    omega
end Go.Proofs.YtbjimmemcmjpcaaGreatDoor.Print
end
section
set_option linter.unusedVariables false
set_option linter.unusedSimpArgs false
namespace Go.Proofs.YtbjimmemcmjpcaaGreatDoor.Print
open Go.RowKit Go.Proofs.YtbjimmemcmjpcaaGreatDoorW.PrintWords Go.Proofs.YtbjimmemcmjpcaaGreatDoorW.PrintLast Go.Proofs.YtbjimmemcmjpcaaGreatDoorW.PrintMore
theorem rd_under (x : List Int) (m n i : Nat) (h : i < n) : rd (underM x m n) (i : Int) = winN x i m := by simp [underM, rd, List.getD_eq_getElem?_getD, h]
theorem rd_follow (x : List Int) (m n i : Nat) (h : i < n) : rd (followM x m n) (i : Int) = winM x i m := by simp [followM, rd, List.getD_eq_getElem?_getD, h]
theorem open_le (y : List Int) (m i : Nat) (hi : i < y.length) : winM (underM y m y.length) i m ≤ rd y (i : Int) := by
  have hl := underM_len y m y.length
  obtain ⟨⟨t, ht, h1⟩, _⟩ := winM_is (underM y m y.length) i (by omega) m
  rw [h1, hl]
  have a := Int.emod_nonneg ((i : Int) + t) (show (y.length : Int) ≠ 0 by omega)
  have b := Int.emod_lt_of_pos ((i : Int) + t) (show (0 : Int) < (y.length : Int) by omega)
  obtain ⟨j, hj⟩ := Int.eq_ofNat_of_zero_le a
  rw [hj, rd_under y m y.length j (by omega)]
  have h2 := (winN_is y j (by omega) m).2 (-t) (by omega) (by omega)
  rw [← hj, Int.emod_add_emod, show (i : Int) + t + -t = (i : Int) by omega, Int.emod_eq_of_lt (by omega) (by omega)] at h2
  exact h2
def folE (x : List Int) (m : Nat) (e : Int) : List Int := followM (underM (liftL x e x.length) m x.length) m x.length
theorem ok_iff (x : List Int) (m e : Nat) (h : 1 ≤ x.length) (he : e ≤ 30) : errL (folE x m e) x x.length ≤ (e : Int) ↔ lowAt x m e = false := by
  have hu : underM (liftL x (e : Int) x.length) m x.length = carveL (minsL x m x.length) e := by
    rcases under_lift x (e : Int) m h with k | k
    · simpa using k
    · omega
  have hcl : (underM (liftL x (e : Int) x.length) m x.length).length = x.length := underM_len _ _ _
  have hfm : maxsL (carveL (minsL x m x.length) e) m x.length = folE x m e := by
    unfold folE
    rw [← hu]
    have := followM_max (underM (liftL x (e : Int) x.length) m x.length) m
    rw [hcl] at this
    exact this.symm
  rw [errL_le _ _ _ (by omega)]
  unfold lowAt
  rw [hfm]
  unfold lowB
  rw [List.any_eq_false]
  constructor
  · intro k i hi
    have := k i (List.mem_range.1 hi)
    simp only [decide_eq_true_eq]
    omega
  · intro k i hi
    have h1 := k i (List.mem_range.2 hi)
    simp only [decide_eq_true_eq] at h1
    have h2 := open_le (liftL x (e : Int) x.length) m i (by rw [liftL_len]; exact hi)
    rw [liftL_len, rd_lift _ _ _ _ hi] at h2
    have h3 : rd (folE x m e) (i : Int) = winM (underM (liftL x (e : Int) x.length) m x.length) i m := rd_follow _ _ _ _ hi
    omega
end Go.Proofs.YtbjimmemcmjpcaaGreatDoor.Print
end
section
set_option linter.unusedVariables false
set_option linter.unusedSimpArgs false
namespace Go.Proofs.YtbjimmemcmjpcaaGreatDoor.Print
open Go.RowKit Go.Proofs.YtbjimmemcmjpcaaGreatDoorW.PrintWords Go.Proofs.YtbjimmemcmjpcaaGreatDoorW.PrintLast Go.Proofs.YtbjimmemcmjpcaaGreatDoorW.PrintMore
theorem rd_lift_bd (x : List Int) (e : Int) (he : 0 ≤ e) (hb : ∀ i : Nat, i < x.length → 0 ≤ rd x (i : Int) ∧ rd x (i : Int) ≤ 30) (i : Nat) (hi : i < x.length) : 0 ≤ rd (liftL x e x.length) (i : Int) ∧ rd (liftL x e x.length) (i : Int) ≤ 30 ∧ min 30 e ≤ rd (liftL x e x.length) (i : Int) := by
  rw [rd_lift _ _ _ _ hi]; have := hb i hi; omega
theorem winN_bd (x : List Int) (m : Nat) (P : Int → Prop) (h : ∀ i : Nat, i < x.length → P (rd x (i : Int))) (i : Nat) (hi : i < x.length) : P (winN x i m) := by
  obtain ⟨⟨t, ht, h1⟩, _⟩ := winN_is x i hi m
  have a := Int.emod_nonneg ((i : Int) + t) (show (x.length : Int) ≠ 0 by omega)
  have b := Int.emod_lt_of_pos ((i : Int) + t) (show (0 : Int) < (x.length : Int) by omega)
  obtain ⟨j, hj⟩ := Int.eq_ofNat_of_zero_le a
  rw [h1, hj]; exact h j (by omega)
theorem winM_bd (x : List Int) (m : Nat) (P : Int → Prop) (h : ∀ i : Nat, i < x.length → P (rd x (i : Int))) (i : Nat) (hi : i < x.length) : P (winM x i m) := by
  obtain ⟨⟨t, ht, h1⟩, _⟩ := winM_is x i hi m
  have a := Int.emod_nonneg ((i : Int) + t) (show (x.length : Int) ≠ 0 by omega)
  have b := Int.emod_lt_of_pos ((i : Int) + t) (show (0 : Int) < (x.length : Int) by omega)
  obtain ⟨j, hj⟩ := Int.eq_ofNat_of_zero_le a
  rw [h1, hj]; exact h j (by omega)
theorem folE_bd (x : List Int) (m : Nat) (e : Int) (he : 0 ≤ e) (hb : ∀ i : Nat, i < x.length → 0 ≤ rd x (i : Int) ∧ rd x (i : Int) ≤ 30) (i : Nat) (hi : i < x.length) : 0 ≤ rd (folE x m e) (i : Int) ∧ rd (folE x m e) (i : Int) ≤ 30 ∧ min 30 e ≤ rd (folE x m e) (i : Int) := by
  have hll := liftL_len x e x.length
  have hul := underM_len (liftL x e x.length) m x.length
  unfold folE
  rw [rd_follow _ _ _ _ hi]
  refine winM_bd (underM (liftL x e x.length) m x.length) m (fun z => 0 ≤ z ∧ z ≤ 30 ∧ min 30 e ≤ z) (fun j hj => ?_) i (by omega)
  rw [rd_under _ _ _ _ (by omega)]
  exact winN_bd (liftL x e x.length) m (fun z => 0 ≤ z ∧ z ≤ 30 ∧ min 30 e ≤ z) (fun q hq => rd_lift_bd x e he hb q (by omega)) j (by omega)
theorem refCarve_step (x : List Int) (m e : Nat) (hx : 3 ≤ x.length ∧ x.length ≤ 24) (hm : m ≤ 5) (he : e ≤ 30) (hb : ∀ i : Nat, i < x.length → 0 ≤ rd x (i : Int) ∧ rd x (i : Int) ≤ 30) (k : Nat) (hk : 200 ≤ k) :
    tellurionref04_Carve.l0 (k + 1 + x.length + 1) x (m : Int) (e : Int) = if errL (folE x m e) x x.length ≤ (e : Int) then some (underM (liftL x e x.length) m x.length, (e : Int)) else tellurionref04_Carve.l0 k x (m : Int) ((e + 1 : Nat) : Int) := by
  have hll := liftL_len x (e : Int) x.length
  have hul := underM_len (liftL x (e : Int) x.length) m x.length
  have hfl : (folE x m e).length = x.length := followM_len _ _ _
  rw [tellurionref04_Carve.l0, if_pos (by omega)]
  have h := refCarve_in x (m : Int) (e : Int) (by omega) (by omega) hb (k + 1) x.length 0 (by omega)
  refine (show tellurionref04_Carve.l1 (k + 1 + x.length) x (m : Int) (e : Int) [] 0 = _ from h).trans ?_
  rw [tellurionref04_Carve.l1, if_neg (by omega)]
  have h1 := refUnder_to (liftL x (e : Int) x.length) m (by omega) hm k hk
  rw [hll] at h1
  have h2 := refFollow_to (underM (liftL x (e : Int) x.length) m x.length) m (by omega) hm k hk
  rw [hul] at h2
  have h3 := refError_to (folE x m e) x (by omega) (by omega) (fun i hi => by have := folE_bd x m (e : Int) (by omega) hb i (by omega); have := hb i (by omega); omega) k hk
  rw [hfl] at h3
  rw [h1, Option.bind_some, h2, Option.bind_some]
  show (tellurionref04_Error.f k (folE x m e) x).bind _ = _
  rw [h3, Option.bind_some, w64 _ (by omega)]
  rfl
theorem low30 (x : List Int) (m : Nat) (hx : 3 ≤ x.length) (hb : ∀ i : Nat, i < x.length → 0 ≤ rd x (i : Int) ∧ rd x (i : Int) ≤ 30) : lowAt x m 30 = false := by
  rw [← ok_iff x m 30 (by omega) (by omega), errL_le _ _ _ (by omega)]
  intro i hi
  have := folE_bd x m (30 : Nat) (by omega) hb i hi
  have := hb i hi
  omega
end Go.Proofs.YtbjimmemcmjpcaaGreatDoor.Print
end
section
set_option linter.unusedVariables false
set_option linter.unusedSimpArgs false
namespace Go.Proofs.YtbjimmemcmjpcaaGreatDoor.Print
open Go.RowKit Go.Proofs.YtbjimmemcmjpcaaGreatDoorW.PrintWords Go.Proofs.YtbjimmemcmjpcaaGreatDoorW.PrintLast Go.Proofs.YtbjimmemcmjpcaaGreatDoorW.PrintMore
theorem carve_found (x : List Int) (m : Nat) (hx : 3 ≤ x.length) (hb : ∀ i : Nat, i < x.length → 0 ≤ rd x (i : Int) ∧ rd x (i : Int) ≤ 30) : ∃ e : Nat, e ≤ 30 ∧ lowAt x m e = false ∧ (∀ e' : Nat, e' < e → lowAt x m e' = true) ∧ carve x m = (carveL (minsL x m x.length) e, (e : Int), 0) := by
  unfold carve
  cases hf : (List.range 31).find? (fun e => !lowAt x m e) with
  | none =>
    rw [List.find?_eq_none] at hf
    have := hf 30 (by simp)
    rw [low30 x m hx hb] at this
    simp at this
  | some e =>
    rw [List.find?_range_eq_some] at hf
    obtain ⟨h1, h2, h3⟩ := hf
    rw [List.mem_range] at h2
    refine ⟨e, by omega, by simpa using h1, fun e' he' => by simpa using h3 e' he', rfl⟩
theorem refCarve_down (x : List Int) (m : Nat) (hx : 3 ≤ x.length ∧ x.length ≤ 24) (hm : m ≤ 5) (hb : ∀ i : Nat, i < x.length → 0 ≤ rd x (i : Int) ∧ rd x (i : Int) ≤ 30) (e0 : Nat) (h30 : e0 ≤ 30) (h1 : lowAt x m e0 = false) (h2 : ∀ e' : Nat, e' < e0 → lowAt x m e' = true) :
    ∀ q e : Nat, e + q = e0 → tellurionref04_Carve.l0 (200 + (q + 1) * (x.length + 2)) x (m : Int) (e : Int) = some (carveL (minsL x m x.length) e0, (e0 : Int)) := by
  intro q
  induction q with
  | zero =>
    intro e he
    obtain rfl : e = e0 := by omega
    rw [show 200 + (0 + 1) * (x.length + 2) = 200 + 1 + x.length + 1 by omega, refCarve_step x m e hx hm (by omega) hb 200 (by omega), if_pos ((ok_iff x m e (by omega) (by omega)).2 h1)]
    rcases under_lift x (e : Int) m (by omega) with k | k
    · rw [k, Int.toNat_natCast]
    · omega
  | succ q ih =>
    intro e he
    have hne : ¬ errL (folE x m e) x x.length ≤ (e : Int) := fun k => by
      have := (ok_iff x m e (by omega) (by omega)).1 k
      rw [h2 e (by omega)] at this
      cases this
    rw [show 200 + (q + 1 + 1) * (x.length + 2) = (200 + (q + 1) * (x.length + 2)) + 1 + x.length + 1 by rw [Nat.add_mul (q + 1) 1]; omega, refCarve_step x m e hx hm (by omega) hb _ (by omega), if_neg hne]
    exact ih (e + 1) (by omega)
theorem refCarve_ev (x : List Int) (m : Nat) (hx : 3 ≤ x.length ∧ x.length ≤ 24) (hm : m ≤ 5) (hb : ∀ i : Nat, i < x.length → 0 ≤ rd x (i : Int) ∧ rd x (i : Int) ≤ 30) (k : Nat) (hk : 2000 ≤ k) :
    ∃ e : Nat, carve x m = (carveL (minsL x m x.length) e, (e : Int), 0) ∧ tellurionref04_Carve.f k x (m : Int) = some (carveL (minsL x m x.length) e, (e : Int)) := by
  obtain ⟨e, h30, h1, h2, hc⟩ := carve_found x m hx.1 hb
  refine ⟨e, hc, mono_to (fun k => tellurionref04_Carve.mono x (m : Int) k) (refCarve_down x m hx hm hb e h30 h1 h2 e 0 (by omega)) ?_⟩
  have : (e + 1) * (x.length + 2) ≤ 31 * 26 := Nat.mul_le_mul (by omega) (by omega)
  omega
end Go.Proofs.YtbjimmemcmjpcaaGreatDoor.Print
end

/- The law's Go function answers true for every input, and leaves its arguments as they were: its parts, the plain law, the row, the card. Joined by wip/pack.py. -/
import Derived.Test.YtbjimmemcmjpcabGreatDoorLC2
import Derived.Test.YtbjimmemcmjpcabGreatDoorB7
section
set_option linter.unusedVariables false
set_option linter.unusedSimpArgs false
namespace Go.Proofs.YtbjimmemcmjpcabGreatDoor.Print
open Go.RowKit Go.Proofs.YtbjimmemcmjpcabGreatDoorW.PrintWords Go.Proofs.YtbjimmemcmjpcabGreatDoorW.PrintLast Go.Proofs.YtbjimmemcmjpcabGreatDoorW.PrintMore
theorem isCam_fB (l : List Int) : cam_isCam.f l = some (isCamB l) := rfl
theorem size_abs (n : Int) (h : -1000 ≤ n ∧ n ≤ 1000) : cam_size.f n = some (absI n) := by
  unfold cam_size.f absI
  rw [w64 _ (by omega)]
  unfold mx
  congr 1
  split <;> omega
theorem foldmax_le {α : Type} (f : α → Int) (L : List α) : ∀ (a z : Int), L.foldl (fun a j => max a (f j)) a ≤ z ↔ a ≤ z ∧ ∀ j ∈ L, f j ≤ z := by
  induction L with
  | nil => intro a z; simp
  | cons x L ih =>
    intro a z
    rw [List.foldl_cons, ih]
    simp only [List.mem_cons, forall_eq_or_imp]
    constructor
    · rintro ⟨h1, h2⟩; exact ⟨by omega, by omega, h2⟩
    · rintro ⟨h1, h2, h3⟩; exact ⟨by omega, h3⟩
def errFrom (x y : List Int) (i q : Nat) (a : Int) : Int := (List.range' i q).foldl (fun a (j : Nat) => max a (absI (rd x (j : Int) - rd y (j : Int)))) a
def errC (x y : List Int) : Int := errFrom x y 0 x.length 0
theorem errC_le (x y : List Int) (z : Int) : errC x y ≤ z ↔ 0 ≤ z ∧ ∀ i : Nat, i < x.length → -z ≤ rd x (i : Int) - rd y (i : Int) ∧ rd x (i : Int) - rd y (i : Int) ≤ z := by
  unfold errC errFrom
  rw [foldmax_le]
  simp only [List.mem_range']
  constructor
  · rintro ⟨h1, h2⟩
    refine ⟨h1, fun i hi => ?_⟩
    have := h2 i ⟨i, hi, by omega⟩
    unfold absI at this
    omega
  · rintro ⟨h1, h2⟩
    refine ⟨h1, ?_⟩
    rintro j ⟨i, hi, rfl⟩
    have := h2 i hi
    have e : 0 + 1 * i = i := by omega
    rw [e]
    unfold absI
    omega
theorem errC_nonneg (x y : List Int) : 0 ≤ errC x y := ((errC_le x y _).1 (Int.le_refl _)).1
theorem errC_at (x y : List Int) (i : Nat) (hi : i < x.length) : -(errC x y) ≤ rd x (i : Int) - rd y (i : Int) ∧ rd x (i : Int) - rd y (i : Int) ≤ errC x y := ((errC_le x y _).1 (Int.le_refl _)).2 i hi
theorem camErr_l (x y : List Int) (hx : ∀ i : Nat, i < x.length → 0 ≤ rd x (i : Int) ∧ rd x (i : Int) ≤ 30) (hy : ∀ i : Nat, i < x.length → 0 ≤ rd y (i : Int) ∧ rd y (i : Int) ≤ 30) (hl : x.length ≤ 1000) (hxy : y.length = x.length) :
    ∀ (q i : Nat) (a : Int), i + q = x.length → Ev (fun k => cam_Error.l0 k y a x (x.length : Int) (i : Int)) (errFrom x y i q a, 0)
  | 0, i, a, h => by
    obtain rfl : i = x.length := by omega
    refine Ev.step (f := fun _ => some _) (fun k => ?_) (Ev.now _)
    rw [cam_Error.l0, if_neg (by omega)]
    rfl
  | q + 1, i, a, h => by
    have hi : i < x.length := by omega
    have h1 := hx i hi
    have h2 := hy i hi
    have ih := camErr_l x y hx hy hl hxy q (i + 1) (max a (absI (rd x (i : Int) - rd y (i : Int)))) (by omega)
    unfold errFrom at ih ⊢
    rw [List.range'_succ, List.foldl_cons]
    refine Ev.step (fun k => ?_) ih
    rw [cam_Error.l0, if_pos (by omega), if_pos (by omega), if_pos (by omega), if_pos (by omega), w64 (rd x (i : Int) - rd y (i : Int)) (by omega), size_abs _ (by omega), Option.bind_some, w64 _ (by omega)]
    unfold mx
    congr 1
    split <;> omega
theorem evC_error {x y : List Int} (hx : isCamB x = true) (hy : isCamB y = true) (hl : y.length = x.length) : Ev (fun k => cam_Error.f k x y) (errC x y, 0) := by
  have hb : 3 ≤ x.length ∧ x.length ≤ 24 := by simp only [isCamB, Bool.and_eq_true, decide_eq_true_eq] at hx; exact hx.1
  have h := camErr_l x y (fun i hi => isCam_rd hx i hi) (fun i hi => isCam_rd hy i (by omega)) (by omega) hl x.length 0 0 (by omega)
  have h2 : Ev (fun k => cam_Error.j0 k x y false) (errC x y, 0) := by
    refine Ev.step (fun k => ?_) h
    rw [cam_Error.j0, if_neg (by simp)]
    rfl
  refine Ev.congr (fun k => ?_) h2
  unfold cam_Error.f
  rw [isCam_fB, isCam_fB, hx, hy]
  simp only [Option.bind_some, if_true]
  rw [show (((x.length : Int) != (y.length : Int)) = false) by simp; omega]
end Go.Proofs.YtbjimmemcmjpcabGreatDoor.Print
end
section
set_option linter.unusedVariables false
set_option linter.unusedSimpArgs false
namespace Go.Proofs.YtbjimmemcmjpcabGreatDoor.Print
open Go.RowKit Go.Proofs.YtbjimmemcmjpcabGreatDoorW.PrintWords Go.Proofs.YtbjimmemcmjpcabGreatDoorW.PrintLast Go.Proofs.YtbjimmemcmjpcabGreatDoorW.PrintMore
theorem foldl_min_is' (l : List Int) : ∀ a : Int, (l.foldl min a = a ∨ l.foldl min a ∈ l) ∧ l.foldl min a ≤ a ∧ ∀ y ∈ l, l.foldl min a ≤ y := by
  induction l with
  | nil => intro a; simp
  | cons x l ih =>
    intro a
    simp only [List.foldl_cons]
    obtain ⟨h1, h2, h3⟩ := ih (min a x)
    refine ⟨?_, by omega, fun y hy => ?_⟩
    · rcases h1 with h | h
      · rw [h]
        by_cases hx : x < a
        · exact .inr (by rw [Int.min_eq_right (by omega)]; simp)
        · exact .inl (by omega)
      · exact .inr (by simp [h])
    · rcases List.mem_cons.1 hy with rfl | hy
      · omega
      · exact h3 y hy
theorem minI_is' (L : List Int) (h : 1 ≤ L.length) : minI L ∈ L ∧ ∀ y ∈ L, minI L ≤ y := by
  cases L with
  | nil => simp at h
  | cons x L =>
    unfold minI
    have hx : rd (x :: L) 0 = x := by simp [rd]
    rw [hx, List.drop_one, List.tail_cons]
    obtain ⟨h1, h2, h3⟩ := foldl_min_is' L x
    refine ⟨?_, fun y hy => ?_⟩
    · rcases h1 with h | h
      · rw [h]; simp
      · simp [h]
    · rcases List.mem_cons.1 hy with rfl | hy
      · exact h2
      · exact h3 y hy
theorem mins_len (l : List Int) (m : Nat) : (minsL l m l.length).length = l.length := by simp [minsL]
theorem mins_at (l : List Int) (m : Nat) (hl : 1 ≤ l.length) (j : Int) : ∃ t : Int, (-(m : Int) ≤ t ∧ t ≤ m) ∧ cyc (minsL l m l.length) j = cyc l (j + t) := by
  obtain ⟨i, hi, h1, h2⟩ := cyc_idx (minsL l m l.length) (by rw [mins_len]; exact hl) j
  rw [mins_len] at hi h2
  rw [h1]
  unfold minsL
  rw [rd_map_range _ _ i hi]
  obtain ⟨h3, _⟩ := minI_is' (footL l m i) (by simp [footL])
  obtain ⟨t, ht, he⟩ := (mem_footL l m i _).1 h3
  exact ⟨t, ht, by rw [he, h2]; exact cyc_mod l j t⟩
theorem mins_le (l : List Int) (m : Nat) (hl : 1 ≤ l.length) (j t : Int) (h1 : -(m : Int) ≤ t) (h2 : t ≤ m) : cyc (minsL l m l.length) j ≤ cyc l (j + t) := by
  obtain ⟨i, hi, h3, h4⟩ := cyc_idx (minsL l m l.length) (by rw [mins_len]; exact hl) j
  rw [mins_len] at hi h4
  rw [h3]
  unfold minsL
  rw [rd_map_range _ _ i hi]
  obtain ⟨_, h5⟩ := minI_is' (footL l m i) (by simp [footL])
  exact h5 _ ((mem_footL l m i _).2 ⟨t, ⟨h1, h2⟩, by rw [h4]; exact (cyc_mod l j t).symm⟩)
theorem mins_turn (l : List Int) (m : Nat) (hl : 1 ≤ l.length) (b : Int) : minsL (turnL l b) m (turnL l b).length = turnL (minsL l m l.length) b := by
  apply cyc_ext (by rw [mins_len, turn_len, turn_len, mins_len])
  intro i hi
  obtain ⟨t, ht, he⟩ := mins_at (turnL l b) m (by rw [turn_len]; exact hl) i
  have h1 := mins_le l m hl ((i : Int) + b) t ht.1 ht.2
  obtain ⟨s, hs, hse⟩ := mins_at l m hl ((i : Int) + b)
  have h2 := mins_le (turnL l b) m (by rw [turn_len]; exact hl) i s hs.1 hs.2
  rw [cyc_turnL l hl, show (i : Int) + t + b = (i : Int) + b + t by omega] at he
  rw [cyc_turnL l hl, show (i : Int) + s + b = (i : Int) + b + s by omega] at h2
  rw [cyc_turnL (minsL l m l.length) (by rw [mins_len]; exact hl)]
  omega
theorem cyc_carveL (x : List Int) (hl : 1 ≤ x.length) (e : Nat) (j : Int) : cyc (carveL x e) j = min 30 (cyc x j + (e : Int)) := by
  obtain ⟨i, hi, h1, h2⟩ := cyc_idx (carveL x e) (by rw [carveL_length]; exact hl) j
  rw [carveL_length] at hi h2
  rw [h1, rd_getElem _ i (by rw [carveL_length]; exact hi)]
  unfold cyc
  rw [← h2, rd_getElem x i hi]
  simp [carveL]
theorem carveL_turn (x : List Int) (hl : 1 ≤ x.length) (e : Nat) (b : Int) : carveL (turnL x b) e = turnL (carveL x e) b := by
  apply cyc_ext (by rw [carveL_length, turn_len, turn_len, carveL_length])
  intro i hi
  rw [cyc_carveL _ (by rw [turn_len]; exact hl), cyc_turnL x hl, cyc_turnL _ (by rw [carveL_length]; exact hl), cyc_carveL x hl]
def cutL (w : List Int) (m e : Nat) : List Int := carveL (minsL w m w.length) e
theorem cut_len (w : List Int) (m e : Nat) : (cutL w m e).length = w.length := by unfold cutL; rw [carveL_length, mins_len]
theorem lowAt_iff (w : List Int) (m e : Nat) (hl : 1 ≤ w.length) : lowAt w m e = true ↔ ∃ j : Int, cyc (maxsL (cutL w m e) m w.length) j < cyc w j - (e : Int) := by
  have hlen : (maxsL (cutL w m e) m w.length).length = w.length := by simp [maxsL]
  unfold lowAt lowB
  simp only [List.any_eq_true, List.mem_range, decide_eq_true_eq]
  constructor
  · rintro ⟨i, hi, h⟩
    refine ⟨i, ?_⟩
    rw [cyc_nat _ i (by rw [hlen]; exact hi), cyc_nat w i hi]
    exact h
  · rintro ⟨j, h⟩
    obtain ⟨i, hi, h1, h2⟩ := cyc_idx w hl j
    refine ⟨i, hi, ?_⟩
    rw [h1] at h
    unfold cyc at h
    rw [hlen, ← h2] at h
    exact h
theorem lowAt_turn (w : List Int) (m e : Nat) (hl : 1 ≤ w.length) (b : Int) : lowAt (turnL w b) m e = lowAt w m e := by
  have h0 : cutL (turnL w b) m e = turnL (cutL w m e) b := by
    unfold cutL
    rw [mins_turn w m hl b, carveL_turn _ (by rw [mins_len]; exact hl)]
  have hc := cut_len w m e
  have h1 : maxsL (cutL (turnL w b) m e) m (turnL w b).length = turnL (maxsL (cutL w m e) m w.length) b := by
    rw [h0, turn_len, ← hc]
    have := maxs_turn (cutL w m e) m (by rw [hc]; exact hl) b
    rw [turn_len] at this
    exact this
  have hlen : (maxsL (cutL w m e) m w.length).length = w.length := by simp [maxsL]
  rw [Bool.eq_iff_iff, lowAt_iff _ m e (by rw [turn_len]; exact hl), lowAt_iff w m e hl, h1]
  constructor
  · rintro ⟨j, h⟩
    rw [cyc_turnL _ (by rw [hlen]; exact hl), cyc_turnL w hl] at h
    exact ⟨_, h⟩
  · rintro ⟨j, h⟩
    refine ⟨j - b, ?_⟩
    rw [cyc_turnL _ (by rw [hlen]; exact hl), cyc_turnL w hl, show j - b + b = j by omega]
    exact h
section
variable {w : List Int} (hw : isCamB w = true) (m : Nat)
include hw
theorem cut_cam (e : Nat) : isCamB (cutL w m e) = true := by
  obtain ⟨h1, h2⟩ := (isCam_iff w).1 hw
  refine (isCam_iff _).2 ⟨by rw [cut_len]; exact h1, fun j => ?_⟩
  unfold cutL
  rw [cyc_carveL _ (by rw [mins_len]; omega)]
  obtain ⟨t, _, he⟩ := mins_at w m (by omega) j
  rw [he]
  have := h2 (j + t)
  omega
theorem cut_most {o : List Int} (ho : isCamB o = true) (hlo : o.length = w.length) (x : Nat) (hx : ∀ j : Int, -(x : Int) ≤ cyc (maxsL o m o.length) j - cyc w j ∧ cyc (maxsL o m o.length) j - cyc w j ≤ x) :
    (∀ j : Int, cyc o j ≤ cyc (cutL w m x) j) ∧ lowAt w m x = false := by
  obtain ⟨h1, h2⟩ := (isCam_iff w).1 hw
  obtain ⟨h3, h4⟩ := (isCam_iff o).1 ho
  have hc := cut_len w m x
  have hle : ∀ j : Int, cyc o j ≤ cyc (cutL w m x) j := by
    intro j
    unfold cutL
    rw [cyc_carveL _ (by rw [mins_len]; omega)]
    obtain ⟨t, ht, he⟩ := mins_at w m (by omega) j
    have a1 := maxs_le o m (by omega) (j + t) (-t) (by omega) (by omega)
    rw [show j + t + -t = j by omega] at a1
    have a2 := hx (j + t)
    have a3 := h4 j
    rw [he]
    omega
  refine ⟨hle, ?_⟩
  cases hb : lowAt w m x with
  | false => rfl
  | true =>
    obtain ⟨j, hj⟩ := (lowAt_iff w m x (by omega)).1 hb
    have a1 := maxs_mono (l := o) (o := cutL w m x) m (by omega) (by rw [hc]; omega) hle j
    rw [hc] at a1
    have := hx j
    omega
theorem lowAt_30 : lowAt w m 30 = false := by
  obtain ⟨h1, h2⟩ := (isCam_iff w).1 hw
  cases hb : lowAt w m 30 with
  | false => rfl
  | true =>
    obtain ⟨j, hj⟩ := (lowAt_iff w m 30 (by omega)).1 hb
    have hcam := maxs_cam (cutL w m 30) m (cut_cam hw m 30)
    rw [cut_len] at hcam
    have := ((isCam_iff _).1 hcam).2 j
    have := h2 j
    omega
theorem carve_is : ∃ e : Nat, e ≤ 30 ∧ carve w m = (cutL w m e, (e : Int), 0) ∧ lowAt w m e = false ∧ ∀ x : Nat, x < e → lowAt w m x = true := by
  have h30 := lowAt_30 hw m
  cases hf : (List.range 31).find? (fun e => !lowAt w m e) with
  | none =>
    rw [List.find?_eq_none] at hf
    have := hf 30 (by simp)
    rw [h30] at this
    simp at this
  | some e =>
    rw [List.find?_range_eq_some] at hf
    obtain ⟨h1, h2, h3⟩ := hf
    refine ⟨e, by simp at h2; omega, ?_, by simpa using h1, fun x hx => by have := h3 x hx; simpa using this⟩
    have hf2 : (List.range 31).find? (fun e => !lowAt w m e) = some e := by rw [List.find?_range_eq_some]; exact ⟨h1, h2, h3⟩
    unfold carve
    rw [hf2]
    rfl
theorem cut_err (e : Nat) (he : e ≤ 30) (h0 : lowAt w m e = false) (h1 : ∀ x : Nat, x < e → lowAt w m x = true) : errC (maxsL (cutL w m e) m w.length) w = e := by
  obtain ⟨g1, g2⟩ := (isCam_iff w).1 hw
  have hc := cut_len w m e
  have hlen : (maxsL (cutL w m e) m w.length).length = w.length := by simp [maxsL]
  have hoff : ∀ j : Int, -(e : Int) ≤ cyc (maxsL (cutL w m e) m w.length) j - cyc w j ∧ cyc (maxsL (cutL w m e) m w.length) j - cyc w j ≤ e := by
    intro j
    have a1 : ¬ cyc (maxsL (cutL w m e) m w.length) j < cyc w j - (e : Int) := fun h => by
      have := (lowAt_iff w m e (by omega)).2 ⟨j, h⟩
      rw [h0] at this; cases this
    obtain ⟨t, ht, hte⟩ := maxs_at (cutL w m e) m (by omega) j
    rw [hc] at hte
    have a2 : cyc (cutL w m e) (j + t) ≤ cyc w j + e := by
      unfold cutL
      rw [cyc_carveL _ (by rw [mins_len]; omega)]
      have := mins_le w m (by omega) (j + t) (-t) (by omega) (by omega)
      rw [show j + t + -t = j by omega] at this
      omega
    omega
  have hle : errC (maxsL (cutL w m e) m w.length) w ≤ e := by
    rw [errC_le]
    refine ⟨by omega, fun i hi => ?_⟩
    rw [hlen] at hi
    have := hoff i
    rwa [cyc_nat _ i (by rw [hlen]; exact hi), cyc_nat w i hi] at this
  have hn := errC_nonneg (maxsL (cutL w m e) m w.length) w
  by_cases hlt : errC (maxsL (cutL w m e) m w.length) w < e
  · obtain ⟨y, hy⟩ := Int.eq_ofNat_of_zero_le hn
    have hmost := (cut_most hw m (cut_cam hw m e) hc y (fun j => by
      obtain ⟨i, hi, b1, b2⟩ := cyc_idx w (by omega) j
      have b3 := errC_at (maxsL (cutL w m e) m w.length) w i (by rw [hlen]; exact hi)
      rw [hy] at b3
      rw [hc, b1]
      unfold cyc
      rw [hlen, ← b2]
      omega)).2
    rw [h1 y (by omega)] at hmost
    cases hmost
  · omega
theorem cut_best (e : Nat) (h1 : ∀ x : Nat, x < e → lowAt w m x = true) {o : List Int} (ho : isCamB o = true) (hlo : o.length = w.length) :
    (e : Int) ≤ errC (maxsL o m o.length) w ∧ (errC (maxsL o m o.length) w = e → ∀ j : Int, cyc o j ≤ cyc (cutL w m e) j) := by
  obtain ⟨g1, g2⟩ := (isCam_iff w).1 hw
  have hn := errC_nonneg (maxsL o m o.length) w
  obtain ⟨y, hy⟩ := Int.eq_ofNat_of_zero_le hn
  have hol := maxs_len o m
  have hmost := cut_most hw m ho hlo y (fun j => by
    obtain ⟨i, hi, b1, b2⟩ := cyc_idx w (by omega) j
    have b3 := errC_at (maxsL o m o.length) w i (by omega)
    rw [hy] at b3
    rw [b1]
    unfold cyc
    rw [hol, hlo, ← b2]
    rw [hlo] at b3
    omega)
  constructor
  · by_cases hlt : y < e
    · rw [h1 y hlt] at hmost
      exact absurd hmost.2 (by simp)
    · omega
  · intro he
    have : y = e := by omega
    subst this
    exact hmost.1
end
theorem carve_turn {w : List Int} (hw : isCamB w = true) (m e : Nat) (b : Int) (he : e ≤ 30) (h0 : lowAt w m e = false) (h1 : ∀ x : Nat, x < e → lowAt w m x = true) : carve (turnL w b) m = (turnL (cutL w m e) b, (e : Int), 0) := by
  obtain ⟨g1, g2⟩ := (isCam_iff w).1 hw
  obtain ⟨x, hx1, hx2, hx3, hx4⟩ := carve_is (turn_cam w b hw) m
  rw [lowAt_turn w m x (by omega)] at hx3
  have : x = e := by
    rcases Nat.lt_trichotomy x e with h | h | h
    · rw [h1 x h] at hx3; cases hx3
    · exact h
    · have := hx4 e h
      rw [lowAt_turn w m e (by omega), h0] at this
      cases this
  subst this
  rw [hx2]
  congr 1
  unfold cutL
  rw [mins_turn w m (by omega) b, carveL_turn _ (by rw [mins_len]; omega)]
end Go.Proofs.YtbjimmemcmjpcabGreatDoor.Print
end

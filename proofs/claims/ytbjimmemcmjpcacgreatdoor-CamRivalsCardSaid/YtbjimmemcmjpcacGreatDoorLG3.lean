/- The law's Go function answers true for every input, and leaves its arguments as they were: its parts, the plain law, the row, the card. Joined by wip/pack.py. -/
import Derived.Test.YtbjimmemcmjpcacGreatDoorLG2
import Derived.Test.YtbjimmemcmjpcacGreatDoorB7
set_option linter.unusedVariables false
set_option linter.unusedSimpArgs false
set_option linter.unusedSectionVars false
section
namespace Go.Proofs.YtbjimmemcmjpcacGreatDoor.Print
open Go.RowKit YtbjimmemcmjpcacGreatDoorW.PrintWords YtbjimmemcmjpcacGreatDoorW.PrintLast YtbjimmemcmjpcacGreatDoorW.PrintMore
theorem isCam_fB (l : List Int) : cam_isCam.f l = some (isCamB l) := rfl
theorem size_abs (n : Int) (h : -1000 ≤ n ∧ n ≤ 1000) : cam_size.f n = some (absI n) := by
 unfold cam_size.f absI
 rw [w64 _ (by omega)]
 unfold mx
 congr 1
 split <;> omega
theorem foldmax_le {α : Type} (f : α → Int) (L : List α) : ∀ (a z : Int), L.foldl (fun a j => max a (f j)) a ≤ z ↔ a ≤ z ∧ ∀ j ∈ L, f j ≤ z := by
 induction L with
 | nil => intro a z; simp
 | cons x L ih =>
  intro a z
  rw [List.foldl_cons, ih]
  simp only [List.mem_cons, forall_eq_or_imp]
  constructor
  ·
   rintro ⟨h1, h2⟩; exact ⟨by omega, by omega, h2⟩
  ·
   rintro ⟨h1, h2, h3⟩; exact ⟨by omega, h3⟩
def errFrom (x y : List Int) (i q : Nat) (a : Int) : Int := (List.range' i q).foldl (fun a (j : Nat) => max a (absI (rd x (j : Int) - rd y (j : Int)))) a
def errC (x y : List Int) : Int := errFrom x y 0 x.length 0
theorem errC_le (x y : List Int) (z : Int) : errC x y ≤ z ↔ 0 ≤ z ∧ ∀ i : Nat, i < x.length → -z ≤ rd x (i : Int) - rd y (i : Int) ∧ rd x (i : Int) - rd y (i : Int) ≤ z := by
 unfold errC errFrom
 rw [foldmax_le]
 simp only [List.mem_range']
 constructor
 ·
  rintro ⟨h1, h2⟩
  refine ⟨h1, fun i hi => ?_⟩
  have := h2 i ⟨i, hi, by omega⟩
  unfold absI at this
  omega
 ·
  rintro ⟨h1, h2⟩
  refine ⟨h1, ?_⟩
  rintro j ⟨i, hi, rfl⟩
  have := h2 i hi
  have e : 0 + 1 * i = i := by omega
  rw [e]
  unfold absI
  omega
theorem errC_at (x y : List Int) (i : Nat) (hi : i < x.length) : -(errC x y) ≤ rd x (i : Int) - rd y (i : Int) ∧ rd x (i : Int) - rd y (i : Int) ≤ errC x y := ((errC_le x y _).1 (Int.le_refl _)).2 i hi
theorem camErr_l (x y : List Int) (hx : ∀ i : Nat, i < x.length → 0 ≤ rd x (i : Int) ∧ rd x (i : Int) ≤ 30) (hy : ∀ i : Nat, i < x.length → 0 ≤ rd y (i : Int) ∧ rd y (i : Int) ≤ 30) (hl : x.length ≤ 1000) (hxy : y.length = x.length) :
  ∀ (q i : Nat) (a : Int), i + q = x.length → Ev (fun k => cam_Error.l0 k y a x (x.length : Int) (i : Int)) (errFrom x y i q a, 0)
 | 0, i, a, h => by
  obtain rfl : i = x.length := by omega
  refine Ev.step (f := fun _ => some _) (fun k => ?_) (Ev.now _)
  rw [cam_Error.l0, if_neg (by omega)]
  rfl
 | q + 1, i, a, h => by
  have hi : i < x.length := by omega
  have h1 := hx i hi
  have h2 := hy i hi
  have ih := camErr_l x y hx hy hl hxy q (i + 1) (max a (absI (rd x (i : Int) - rd y (i : Int)))) (by omega)
  unfold errFrom at ih ⊢
  rw [List.range'_succ, List.foldl_cons]
  refine Ev.step (fun k => ?_) ih
  rw [cam_Error.l0, if_pos (by omega), if_pos (by omega), if_pos (by omega), if_pos (by omega), w64 (rd x (i : Int) - rd y (i : Int)) (by omega), size_abs _ (by omega), Option.bind_some, w64 _ (by omega)]
  unfold mx
  congr 1
  split <;> omega
theorem evC_error {x y : List Int} (hx : isCamB x = true) (hy : isCamB y = true) (hl : y.length = x.length) : Ev (fun k => cam_Error.f k x y) (errC x y, 0) := by
 have hb : 3 ≤ x.length ∧ x.length ≤ 24 := by simp only [isCamB, Bool.and_eq_true, decide_eq_true_eq] at hx; exact hx.1
 have h := camErr_l x y (fun i hi => isCam_rd hx i hi) (fun i hi => isCam_rd hy i (by omega)) (by omega) hl x.length 0 0 (by omega)
 have h2 : Ev (fun k => cam_Error.j0 k x y false) (errC x y, 0) := by
  refine Ev.step (fun k => ?_) h
  rw [cam_Error.j0, if_neg (by simp)]
  rfl
 refine Ev.congr (fun k => ?_) h2
 unfold cam_Error.f
 rw [isCam_fB, isCam_fB, hx, hy]
 simp only [Option.bind_some, if_true]
 rw [show (((x.length : Int) != (y.length : Int)) = false) by simp; omega]
end Go.Proofs.YtbjimmemcmjpcacGreatDoor.Print
end

/- What the program's functions compute that the chapter's examples reach, each with the walk that shows it; the kit's words for such walks. Joined by wip/pack.py. -/
import Derived.Test.YtbjimmemcmjpcabGreatDoorB17
import Derived.Test.YtbjimmemcmjpcabGreatDoorB9
import Derived.Test.YtbjimmemcmjpcabGreatDoorB4
section
set_option linter.unusedVariables false
set_option linter.unusedSimpArgs false
set_option linter.unusedSectionVars false
namespace Go.Proofs.YtbjimmemcmjpcabGreatDoor.Print
open Go.RowKit Go.Proofs.YtbjimmemcmjpcabGreatDoorW.PrintWords Go.Proofs.YtbjimmemcmjpcabGreatDoorW.PrintLast Go.Proofs.YtbjimmemcmjpcabGreatDoorW.PrintMore
def camB (l : List Int) : Bool := decide (3 ≤ l.length ∧ l.length ≤ 24) && l.all isH
def camsB (L : List (List Int)) : Bool := L.all camB && decide (L.length ≤ 4)
theorem areAll_l (L : List (List Int)) (hL : L.length ≤ 100000) : ∀ (q j : Nat), j ≤ L.length → q = L.length - j → cam_areAll.l0 (q + 1) L L (L.length : Int) (j : Int) = some ((L.drop j).all camB && decide (L.length ≤ 4))
  | 0, j, hj, hq => by
    have e : j = L.length := by omega
    subst e
    unfold cam_areAll.l0
    rw [if_neg (by omega)]
    simp
    omega
  | q + 1, j, hj, hq => by
    have hlt : j < L.length := by omega
    unfold cam_areAll.l0
    rw [if_pos (by omega), if_pos (by omega), if_pos (by omega)]
    have hrd : rd_L1 L (j : Int) = L[j] := by simp [rd_L1, List.getD_eq_getElem?_getD, hlt]
    rw [hrd, List.drop_eq_getElem_cons hlt, List.all_cons]
    show (some (camB L[j])).bind _ = _
    rw [Option.bind_some]
    cases hb : camB L[j] with
    | false => simp
    | true =>
      rw [if_pos rfl, show wrap64 ((j : Int) + 1) = ((j + 1 : Nat) : Int) by unfold wrap64; omega, areAll_l L hL q (j + 1) (by omega) (by omega)]
      simp
theorem areAll_f (L : List (List Int)) (hL : L.length ≤ 100000) : cam_areAll.f (L.length + 1) L = some (camsB L) := areAll_l L hL L.length 0 (by omega) (by omega)
def printF (a b c d : Int) (L : List (List Int)) : List UInt8 × Int := if ruleB a b c d = true ∧ camsB L = true then (textS (rowsS a b c d L), 0) else ([], 2)
set_option maxRecDepth 100000 in
set_option maxHeartbeats 1000000 in
theorem print_calls (a b c d : Int) (A : Option Addr) (cp : Nat) (L : List (List Int)) (w : World) (hC : Kd.C (Kd.slice 3 (Kd.int .i64)) w A L.length L) (hc : L.length ≤ cp) (hL : L.length ≤ 100000) :
    Calls Tryz.prog 41 #[.agg #[.int .i64 a, .int .i64 b, .int .i64 c, .int .i64 d], .slice A L.length cp] w fun e w' => e = .returned (.tuple #[.string ⟨(printF a b c d L).1.toArray⟩, .int .i64 (printF a b c d L).2]) ∧ Below w.heap.size w w' := by
  have hu2 := Tryz.underlying35
  have HC := Aside0.mk hC
  have HCP := Aside0.mk hc
  have HLL := Aside0.mk hL
  have b0 := Aside0.mk (below_alloc (Below.refl w.heap.size w) (.cells #[.int .i64 a, .int .i64 b, .int .i64 c, .int .i64 d] 35))
  have N0 := Aside0.mk (blk_new w (.cells #[.int .i64 a, .int .i64 b, .int .i64 c, .int .i64 d] 35))
  have H1 := Aside0.mk (isRule_f a b c d)
  have H2 := Aside0.mk (areAll_f L hL)
  clear hC hc hL
  cases hr : ruleB a b c d with
  | false =>
    rw [hr] at H1
    have hP : printF a b c d L = ([], 2) := by unfold printF; rw [if_neg (by simp [hr])]
    rw [hP]
    clear hr hP
    go_enter Tryz.func41, Tryz.ntmps41
    go_wp2_with fail
    refine (cam_isRule.calls a b c d false _ H1.out).mono ?_; rintro e w' ⟨rfl, hb⟩
    have HB := Aside0.mk (below_step b0.out hb)
    clear hb
    go_wp2_with fail
    go_ret2
    exact ⟨rfl, HB.out⟩
  | true =>
    have hrb : (0 ≤ a ∧ a ≤ b ∧ b ≤ 30) ∧ (0 ≤ c ∧ c ≤ 30) ∧ (0 ≤ d ∧ d ≤ 24) := by
      have h : ruleB a b c d = true := hr
      simp [ruleB] at h
      omega
    rw [hr] at H1
    cases ha : camsB L with
    | false =>
      rw [ha] at H2
      have hP : printF a b c d L = ([], 2) := by unfold printF; rw [if_neg (by simp [ha])]
      rw [hP]
      clear hr ha hP
      go_enter Tryz.func41, Tryz.ntmps41
      go_wp2_with fail
      refine (cam_isRule.calls a b c d true _ H1.out).mono ?_; rintro e w' ⟨rfl, hb⟩
      have HB := Aside0.mk (below_step b0.out hb)
      clear hb
      go_wp2_with fail
      refine (cam_areAll.calls (L.length + 1) A cp L false _ (Kd.C_below HC.out HB.out) HCP.out H2.out).mono ?_; rintro e w2 ⟨rfl, ⟨⟨k, rfl⟩⟩⟩
      go_wp2_with fail
      go_ret2
      exact ⟨rfl, pw_below_drewN HB.out _⟩
    | true =>
      rw [ha] at H2
      have hP : printF a b c d L = (textS (rowsS a b c d L), 0) := by unfold printF; rw [if_pos ⟨hr, ha⟩]
      rw [hP]
      have hT := text_calls a b c d A cp L
      have hcam : ∀ l ∈ L, l.length ≤ 24 ∧ ∀ n ∈ l, 0 ≤ n ∧ n ≤ 30 := by
        intro l hl
        simp only [camsB, Bool.and_eq_true, List.all_eq_true] at ha
        have := ha.1 l hl
        simp only [camB, Bool.and_eq_true, List.all_eq_true, decide_eq_true_eq] at this
        exact ⟨this.1.2, fun n hn => by have := this.2 n hn; simpa [isH] using this⟩
      have hL4 : L.length ≤ 4 := by simp only [camsB, Bool.and_eq_true, decide_eq_true_eq] at ha; exact ha.2
      have HT : Aside0 (∀ W : World, Below w.heap.size w W → Calls Tryz.prog 74 #[.agg #[.int .i64 a, .int .i64 b, .int .i64 c, .int .i64 d], .slice A L.length cp] W fun e w' => e = .returned (.string ⟨(textS (rowsS a b c d L)).toArray⟩) ∧ Below W.heap.size W w') := ⟨fun W hb => hT W (Kd.C_below HC.out hb) (by omega) (fun l hl => by have := hcam l hl; omega) (fun n hn => by simp at hn; exact ⟨by omega, .inl (by omega)⟩) (fun l hl n hn => by have := (hcam l hl).2 n hn; exact ⟨by omega, .inl (by omega)⟩)⟩
      clear hT hcam hr ha hP
      go_enter Tryz.func41, Tryz.ntmps41
      go_wp2_with fail
      refine (cam_isRule.calls a b c d true _ H1.out).mono ?_; rintro e w' ⟨rfl, hb⟩
      have N1 := Aside0.mk (blk_below N0.out hb)
      have HB := Aside0.mk (below_step b0.out hb)
      clear hb
      go_wp2_with fail
      refine (cam_areAll.calls (L.length + 1) A cp L true _ (Kd.C_below HC.out HB.out) HCP.out H2.out).mono ?_; rintro e w2 ⟨rfl, ⟨⟨k, rfl⟩⟩⟩
      have HB2 := Aside0.mk (pw_below_drewN HB.out k)
      have N2 := blk_drewN N1.out k
      have l0 := (blk_cell N2 0).trans rfl
      have l1 := (blk_cell N2 1).trans rfl
      have l2 := (blk_cell N2 2).trans rfl
      have l3 := (blk_cell N2 3).trans rfl
      clear N2
      go_wp2_with fail
      refine (HT.out _ HB2.out).mono ?_; rintro e w3 ⟨rfl, hb3⟩
      have HB3 := Aside0.mk (below_step HB2.out hb3)
      clear hb3
      go_wp2_with fail
      go_ret2
      exact ⟨rfl, HB3.out⟩
end Go.Proofs.YtbjimmemcmjpcabGreatDoor.Print
end

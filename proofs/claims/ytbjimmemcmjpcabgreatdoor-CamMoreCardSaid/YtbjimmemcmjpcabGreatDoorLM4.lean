/- The law's Go function answers true for every input, and leaves its arguments as they were: its parts, the plain law, the row, the card. Joined by wip/pack.py. -/
import Derived.Test.YtbjimmemcmjpcabGreatDoorLM2
import Derived.Test.YtbjimmemcmjpcabGreatDoorB9
import Derived.Test.YtbjimmemcmjpcabGreatDoorLM1
set_option linter.unusedVariables false
set_option linter.unusedSimpArgs false
set_option linter.unusedSectionVars false
section
namespace Go.Proofs.YtbjimmemcmjpcabGreatDoor.Print
open Go.RowKit YtbjimmemcmjpcabGreatDoorW.PrintWords YtbjimmemcmjpcabGreatDoorW.PrintLast YtbjimmemcmjpcabGreatDoorW.PrintMore
def sumF (c : Int → Int) (b : Int) : Nat → Int
 | 0 => 0
 | m + 1 => sumF c b m + c ((m : Int) + b)
theorem sumF_next (c : Int → Int) (b : Int) : ∀ m, sumF c (b + 1) m = sumF c b m - c b + c ((m : Int) + b)
 | 0 => by simp [sumF]; omega
 | m + 1 => by
  rw [sumF, sumF, sumF_next c b m, show (m : Int) + (b + 1) = ((m + 1 : Nat) : Int) + b by omega]; omega
theorem sumF_turn (c : Int → Int) (n : Nat) (hc : ∀ j, c (j + (n : Int)) = c j) : ∀ b : Nat, sumF c (b : Int) n = sumF c 0 n
 | 0 => rfl
 | b + 1 => by
  rw [show ((b + 1 : Nat) : Int) = (b : Int) + 1 by omega, sumF_next, show (n : Int) + (b : Int) = (b : Int) + (n : Int) by omega, hc, sumF_turn c n hc b]; omega
theorem atM_cyc (l : List Int) (k : Nat) (h : k < l.length) : atM l k = cyc l (k : Int) := by rw [cyc_nat l k h, rd_atM]
theorem atM_next (l : List Int) (k : Nat) (h : 1 ≤ l.length) : atM l ((k + 1) % l.length) = cyc l ((k : Int) + 1) := by
 rw [← rd_atM]
 unfold cyc
 congr 1
theorem chgN_sum (l : List Int) : ∀ k, k ≤ l.length → chgN l k = sumF (fun j => cstM (cyc l j) (cyc l (j + 1))) 0 k
 | 0, _ => rfl
 | k + 1, h => by
  rw [chgN, sumF, chgN_sum l k (by omega), atM_cyc l k (by omega), atM_next l k (by omega)]
  simp
theorem fit_cyc (lw hg sl ch : Int) (l : List Int) (hl : 1 ≤ l.length) : FitN (fun _ => lw) (fun _ => hg) sl ch l.length l ↔ (∀ j : Int, (lw ≤ cyc l j ∧ cyc l j ≤ hg) ∧ (-sl ≤ cyc l j - cyc l (j + 1) ∧ cyc l j - cyc l (j + 1) ≤ sl)) ∧ sumF (fun j => cstM (cyc l j) (cyc l (j + 1))) 0 l.length ≤ ch := by
 constructor
 ·
  intro h
  refine ⟨fun j => ?_, by rw [← chgN_sum l _ (Nat.le_refl _)]; exact h.chg⟩
  obtain ⟨i, hi, h1, h2⟩ := cyc_idx l hl j
  have e1 : cyc l j = atM l i := by rw [h1, rd_atM]
  have e2 : cyc l (j + 1) = atM l ((i + 1) % l.length) := by rw [atM_next l i hl, h2]; exact (cyc_mod l j 1).symm
  rw [e1, e2]
  exact ⟨h.span i hi, h.slope i hi⟩
 ·
  rintro ⟨h1, h2⟩
  exact ⟨rfl, fun k hk => by rw [atM_cyc l k hk]; exact (h1 k).1, fun k hk => by rw [atM_cyc l k hk, atM_next l k hl]; exact (h1 k).2, by rw [chgN_sum l _ (Nat.le_refl _)]; exact h2⟩
theorem fit_turn (lw hg sl ch : Int) (l : List Int) (hl : 1 ≤ l.length) (b : Nat) (h : FitN (fun _ => lw) (fun _ => hg) sl ch l.length l) : FitN (fun _ => lw) (fun _ => hg) sl ch l.length (turnL l (b : Int)) := by
 obtain ⟨h1, h2⟩ := (fit_cyc lw hg sl ch l hl).1 h
 have hn := turn_len l (b : Int)
 have := (fit_cyc lw hg sl ch (turnL l (b : Int)) (by omega)).2 ⟨fun j => ?_, ?_⟩
 ·
  rwa [hn] at this
 ·
  rw [cyc_turnL l hl, cyc_turnL l hl, show j + 1 + (b : Int) = j + (b : Int) + 1 by omega]
  exact h1 _
 ·
  rw [hn]
  have e : sumF (fun j => cstM (cyc (turnL l (b : Int)) j) (cyc (turnL l (b : Int)) (j + 1))) 0 l.length = sumF (fun j => cstM (cyc l j) (cyc l (j + 1))) (b : Int) l.length := by
   have : ∀ m, sumF (fun j => cstM (cyc (turnL l (b : Int)) j) (cyc (turnL l (b : Int)) (j + 1))) 0 m = sumF (fun j => cstM (cyc l j) (cyc l (j + 1))) (b : Int) m := by
    intro m
    induction m with
    | zero => rfl
    | succ m ih =>
     rw [sumF, sumF, ih]
     simp only [cyc_turnL l hl]
     rw [show (m : Int) + 0 + (b : Int) = (m : Int) + (b : Int) by omega, show (m : Int) + 0 + 1 + (b : Int) = (m : Int) + (b : Int) + 1 by omega]
   exact this _
  rw [e, sumF_turn _ _ (fun j => by simp only [cyc_turn]; rw [show j + (l.length : Int) + 1 = j + 1 + (l.length : Int) by omega, cyc_turn])]
  exact h2
theorem near_turn (lw hg sl ch e : Int) (w l : List Int) (hw : 1 ≤ w.length) (b : Nat) (h : NearFit lw hg sl ch w e l) : NearFit lw hg sl ch (turnL w (b : Int)) e (turnL l (b : Int)) := by
 obtain ⟨h1, h2⟩ := FitE_iff.1 h
 have hl : l.length = w.length := h1.len
 have hn := turn_len w (b : Int)
 have hnl := turn_len l (b : Int)
 show FitN _ _ sl ch (turnL w (b : Int)).length _
 rw [hn]
 refine FitE_iff.2 ⟨?_, fun k hk => ?_⟩
 ·
  rw [← hl]
  exact fit_turn lw hg sl ch l (by omega) b (by rw [hl]; exact h1)
 ·
  rw [atM_cyc _ k (by omega), atM_cyc _ k (by omega), cyc_turnL l (by omega), cyc_turnL w hw]
  obtain ⟨i, hi, h3, h4⟩ := cyc_idx w hw ((k : Int) + (b : Int))
  have := h2 i hi
  rw [← rd_atM, ← rd_atM] at this
  rw [h3]
  unfold cyc
  rw [hl, ← h4]
  exact this
theorem turn_back (w : List Int) (hw : 1 ≤ w.length) (b : Nat) (hb : b < w.length) : turnL (turnL w (b : Int)) ((w.length - b : Nat) : Int) = w := by
 have hn := turn_len w (b : Int)
 apply cyc_ext (by rw [turn_len, turn_len])
 intro i hi
 rw [cyc_turnL _ (by omega), cyc_turnL w hw, show (i : Int) + ((w.length - b : Nat) : Int) + (b : Int) = (i : Int) + (w.length : Int) by omega, cyc_turn]
theorem near_turn_iff (lw hg sl ch e : Int) (w : List Int) (hw : 1 ≤ w.length) (b : Nat) (hb : b < w.length) : (∃ l, NearFit lw hg sl ch (turnL w (b : Int)) e l) ↔ ∃ l, NearFit lw hg sl ch w e l := by
 constructor
 ·
  rintro ⟨l, h⟩
  have := near_turn lw hg sl ch e (turnL w (b : Int)) l (by rw [turn_len]; exact hw) (w.length - b) h
  rw [turn_back w hw b hb] at this
  exact ⟨_, this⟩
 ·
  rintro ⟨l, h⟩
  exact ⟨_, near_turn lw hg sl ch e w l hw b h⟩
theorem refRule_f (lw hg s c : Int) : tr_Rule.f lw hg s c = some (ruleB lw hg s c) := by
 unfold tr_Rule.f ruleB
 simp only [refIn_f, Option.bind_some]
 by_cases h1 : 0 ≤ lw
 ·
  rw [if_pos h1]
  by_cases h2 : lw ≤ hg
  ·
   rw [if_pos h2]
   by_cases h3 : hg ≤ 30
   ·
    rw [if_pos h3]
    by_cases h4 : 0 ≤ s ∧ s ≤ 30
    ·
     rw [if_pos (by simpa using h4)]
     congr 1
     rw [← Bool.decide_and]
     exact decide_eq_decide.2 ⟨fun h => by omega, fun h => by omega⟩
    ·
     rw [if_neg (by simpa using h4), decide_eq_false (by omega)]
   ·
    rw [if_neg h3, decide_eq_false (by omega)]
  ·
   rw [if_neg h2, decide_eq_false (by omega)]
 ·
  rw [if_neg h1, decide_eq_false (by omega)]
theorem rule_bd {lw hg s c : Int} (h : ruleB lw hg s c = true) : (0 ≤ lw ∧ lw ≤ hg ∧ hg ≤ 30) ∧ (0 ≤ s ∧ s ≤ 30) ∧ (0 ≤ c ∧ c ≤ 24) := by
 simp [ruleB] at h
 omega
end Go.Proofs.YtbjimmemcmjpcabGreatDoor.Print
end

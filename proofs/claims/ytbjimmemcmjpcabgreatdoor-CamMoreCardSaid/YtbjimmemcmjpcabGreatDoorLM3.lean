/- The law's Go function answers true for every input, and leaves its arguments as they were: its parts, the plain law, the row, the card. Joined by wip/pack.py. -/
import Derived.Test.YtbjimmemcmjpcabGreatDoorB14
import Derived.Test.YtbjimmemcmjpcabGreatDoorB9
import Derived.Test.YtbjimmemcmjpcabGreatDoorLM2
import Derived.Test.YtbjimmemcmjpcabGreatDoorLM1
set_option linter.unusedVariables false
set_option linter.unusedSimpArgs false
set_option linter.unusedSectionVars false
section
namespace Go.Proofs.YtbjimmemcmjpcabGreatDoor.Print
open Go.RowKit YtbjimmemcmjpcabGreatDoorW.PrintWords YtbjimmemcmjpcabGreatDoorW.PrintLast YtbjimmemcmjpcabGreatDoorW.PrintMore
section
variable (lo hi : Nat → Int) (sl first : Int)
def Rch : Nat → Int → Int → Prop
  | 0, h, c => h = first ∧ c = 0
  | i + 1, n, c => ∃ h c', Rch i h c' ∧ (max (lo (i + 1)) (h - sl) ≤ n ∧ n ≤ min (hi (i + 1)) (h + sl)) ∧ c = c' + cstM h n
end
section
variable {lo hi : Nat → Int} {sl first : Int}
theorem Rch_nonneg : ∀ (i : Nat) (h c : Int), Rch lo hi sl first i h c → 0 ≤ c
  | 0, h, c, hr => by rw [hr.2]; exact Int.le_refl _
  | i + 1, n, c, hr => by
    obtain ⟨h, c', h1, _, rfl⟩ := hr
    have := Rch_nonneg i h c' h1
    have := cstM_bd h n
    omega
theorem atM_app (q t : List Int) (n : Int) : atM (q ++ n :: t) q.length = n := by simp [atM, List.getD_eq_getElem?_getD]
theorem reach_join (f : Int) : ∀ (i : Nat) (h c : Int) (d : Nat) (c' : Int) (t : List Int), Rch lo hi sl first i h c → Way lo hi sl d i h f c' t → ∃ q, q.length = i ∧ Way lo hi sl (i + d) 0 first f (c + c') (q ++ t) ∧ atM (first :: (q ++ t)) i = h
  | 0, h, c, d, c', t, hr, hw => by
    obtain ⟨rfl, rfl⟩ := hr
    refine ⟨[], rfl, ?_, rfl⟩
    rw [Nat.zero_add, Int.zero_add, List.nil_append]
    exact hw
  | i + 1, n, c, d, c', t, hr, hw => by
    obtain ⟨h, c0, h1, h2, rfl⟩ := hr
    have hw2 : Way lo hi sl (d + 1) i h f (c' + cstM h n) (n :: t) := by
      refine ⟨by simp [hw.1], ⟨h2, hw.2.1⟩, ?_⟩
      simp only [pc]
      have := hw.2.2
      omega
    obtain ⟨q, hq, hw3, _⟩ := reach_join f i h c0 (d + 1) _ _ h1 hw2
    refine ⟨q ++ [n], by simp [hq], ?_, ?_⟩
    · rw [List.append_assoc, List.singleton_append, show i + 1 + d = i + (d + 1) by omega, show c0 + cstM h n + c' = c0 + (c' + cstM h n) by omega]
      exact hw3
    · rw [atM_cons, List.append_assoc, List.singleton_append, ← hq]
      exact atM_app q t n
theorem reach_split (f C : Int) (full : List Int) : ∀ (i d : Nat), Way lo hi sl (i + d) 0 first f C full → ∃ c c', Rch lo hi sl first i (atM (first :: full) i) c ∧ Way lo hi sl d i (atM (first :: full) i) f c' (full.drop i) ∧ c + c' ≤ C
  | 0, d, hw => by
    rw [Nat.zero_add] at hw
    exact ⟨0, C, ⟨rfl, rfl⟩, by rw [List.drop_zero]; exact hw, by omega⟩
  | i + 1, d, hw => by
    obtain ⟨c, c', h1, h2, h3⟩ := reach_split f C full i (d + 1) (by rw [show i + (d + 1) = i + 1 + d by omega]; exact hw)
    have hl := hw.1
    have hi2 : i < full.length := by omega
    rw [List.drop_eq_getElem_cons hi2] at h2
    have hn : full[i] = atM (first :: full) (i + 1) := by rw [atM_cons]; simp [atM, List.getD_eq_getElem?_getD, hi2]
    rw [hn] at h2
    have hp := h2.2.1
    have hc := h2.2.2
    simp only [pv] at hp
    simp only [pc] at hc
    refine ⟨c + cstM (atM (first :: full) i) (atM (first :: full) (i + 1)), c' - cstM (atM (first :: full) i) (atM (first :: full) (i + 1)), ⟨_, c, h1, hp.1, rfl⟩, ⟨by have := h2.1; simpa using this, hp.2, by omega⟩, by omega⟩
end
theorem mem_hts {S : List SP} {sl : Int} {i : Nat} {h n : Int} : n ∈ hts S sl i h ↔ max (lo S i) (h - sl) ≤ n ∧ n ≤ min (hi S i) (h + sl) := mem_uptoM
theorem frontN_rd (many h : Int) : ∀ (pre out : List Int), out.length = 31 → (∀ n ∈ pre, 0 ≤ n ∧ n ≤ 30) → ∀ m : Nat, m < 31 → ((m : Int) ∈ pre → rd (frontN many h out pre) (m : Int) = min (rd out (m : Int)) (many + cst h (m : Int))) ∧ (¬ (m : Int) ∈ pre → rd (frontN many h out pre) (m : Int) = rd out (m : Int))
  | [], out, _, _, m, _ => ⟨fun h => by simp at h, fun _ => rfl⟩
  | n :: pre, out, hl, hp, m, hm => by
    have hn := hp n (by simp)
    obtain ⟨k, rfl⟩ := Int.eq_ofNat_of_zero_le hn.1
    have hs : (frontS many h out (k : Int)).length = 31 := by unfold frontS; rw [List.length_set]; exact hl
    obtain ⟨h1, h2⟩ := frontN_rd many h pre (frontS many h out (k : Int)) hs (fun x hx => hp x (by simp [hx])) m hm
    have e : frontN many h out ((k : Int) :: pre) = frontN many h (frontS many h out (k : Int)) pre := rfl
    have hrd : rd (frontS many h out (k : Int)) (m : Int) = if m = k then min (rd out (m : Int)) (many + cst h (m : Int)) else rd out (m : Int) := by
      unfold frontS
      rw [Int.toNat_natCast, rd_set out k _ m (by omega)]
      split
      · rename_i e'; subst e'; rfl
      · rfl
    rw [e]
    refine ⟨fun hmem => ?_, fun hmem => ?_⟩
    · by_cases hin : (m : Int) ∈ pre
      · rw [h1 hin, hrd]
        split <;> omega
      · rw [h2 hin, hrd, if_pos]
        rcases List.mem_cons.1 hmem with h | h
        · omega
        · exact absurd h hin
    · have hni : ¬ (m : Int) ∈ pre := fun h => hmem (by simp [h])
      rw [h2 hni, hrd, if_neg]
      intro e'
      subst e'
      exact hmem (by simp)
section
variable {S : List SP} {sl : Int} (hB : ∀ i, i < S.length → 0 ≤ lo S i ∧ hi S i ≤ 30)
include hB
theorem hts_bd {i : Nat} (hi' : i < S.length) {h n : Int} (hm : n ∈ hts S sl i h) : 0 ≤ n ∧ n ≤ 30 := by
  have := mem_hts.1 hm
  have := hB i hi'
  omega
theorem frontK_rd (i : Nat) (hi1 : i + 1 < S.length) (now : List Int) : ∀ k : Nat, k ≤ 31 → ∀ m : Nat, m < 31 →
    (rd (frontK S sl i now k) (m : Int) ≤ 1000) ∧ (∀ q : Nat, q < k → rd now (q : Int) < 1000 → (m : Int) ∈ hts S sl (i + 1) (q : Int) → rd (frontK S sl i now k) (m : Int) ≤ rd now (q : Int) + cst (q : Int) (m : Int)) ∧
    (rd (frontK S sl i now k) (m : Int) = 1000 ∨ ∃ q : Nat, q < k ∧ rd now (q : Int) < 1000 ∧ (m : Int) ∈ hts S sl (i + 1) (q : Int) ∧ rd (frontK S sl i now k) (m : Int) = rd now (q : Int) + cst (q : Int) (m : Int))
  | 0, _, m, hm => by
    have e : rd (frontK S sl i now 0) (m : Int) = 1000 := by
      unfold frontK rd
      rw [Int.toNat_natCast, List.getD_eq_getElem?_getD, List.getElem?_replicate, if_pos hm]; rfl
    exact ⟨by omega, fun q hq => by omega, .inl e⟩
  | k + 1, hk, m, hm => by
    obtain ⟨h1, h2, h3⟩ := frontK_rd i hi1 now k (by omega) m hm
    unfold frontK
    by_cases hc : 1000 ≤ rd now (k : Int)
    · rw [if_pos hc]
      refine ⟨h1, fun q hq hq1 hq2 => ?_, ?_⟩
      · by_cases e : q = k
        · subst e; omega
        · exact h2 q (by omega) hq1 hq2
      · rcases h3 with h3 | ⟨q, h4, h5, h6, h7⟩
        · exact .inl h3
        · exact .inr ⟨q, by omega, h5, h6, h7⟩
    · rw [if_neg hc]
      have hfr := frontN_rd (rd now (k : Int)) (k : Int) (hts S sl (i + 1) (k : Int)) (frontK S sl i now k) (frontK_len S sl i now k) (fun n hn => hts_bd hB hi1 hn) m hm
      by_cases hin : (m : Int) ∈ hts S sl (i + 1) (k : Int)
      · rw [hfr.1 hin]
        refine ⟨by omega, fun q hq hq1 hq2 => ?_, ?_⟩
        · by_cases e : q = k
          · subst e; omega
          · have := h2 q (by omega) hq1 hq2; omega
        · by_cases hle : rd now (k : Int) + cst (k : Int) (m : Int) ≤ rd (frontK S sl i now k) (m : Int)
          · exact .inr ⟨k, by omega, by omega, hin, by omega⟩
          · rw [show min (rd (frontK S sl i now k) (m : Int)) (rd now (k : Int) + cst (k : Int) (m : Int)) = rd (frontK S sl i now k) (m : Int) by omega]
            rcases h3 with h3 | ⟨q, h4, h5, h6, h7⟩
            · exact .inl h3
            · exact .inr ⟨q, by omega, h5, h6, h7⟩
      · rw [hfr.2 hin]
        refine ⟨h1, fun q hq hq1 hq2 => ?_, ?_⟩
        · by_cases e : q = k
          · subst e; exact absurd hq2 hin
          · exact h2 q (by omega) hq1 hq2
        · rcases h3 with h3 | ⟨q, h4, h5, h6, h7⟩
          · exact .inl h3
          · exact .inr ⟨q, by omega, h5, h6, h7⟩
theorem nowK_0 (f : Nat) (hf : f < 31) (m : Nat) (hm : m < 31) : rd (nowK S sl (f : Int) 0) (m : Int) = if m = f then 0 else 1000 := by
  unfold nowK
  rw [Int.toNat_natCast, rd_set _ f 0 m (by simpa using hf)]
  split
  · rfl
  · unfold rd
    rw [Int.toNat_natCast, List.getD_eq_getElem?_getD, List.getElem?_replicate, if_pos hm]; rfl
theorem nowK_le (f : Nat) (hf : f < 31) : ∀ (i : Nat), i < S.length → ∀ (m : Nat) (c : Int), m < 31 → Rch (lo S) (hi S) sl (f : Int) i (m : Int) c → rd (nowK S sl (f : Int) i) (m : Int) ≤ c
  | 0, _, m, c, hm, hr => by
    rw [nowK_0 hB f hf m hm, if_pos (by have := hr.1; omega), hr.2]; exact Int.le_refl _
  | i + 1, hi1, m, c, hm, hr => by
    obtain ⟨h, c', h1, h2, rfl⟩ := hr
    have hc0 := Rch_nonneg i h c' h1
    have hh : 0 ≤ h ∧ h ≤ 30 := by
      cases i with
      | zero => have := h1.1; omega
      | succ i =>
        obtain ⟨_, _, _, h3, _⟩ := h1
        have := hB (i + 1) (by omega)
        omega
    obtain ⟨q, rfl⟩ := Int.eq_ofNat_of_zero_le hh.1
    have ih := nowK_le f hf i (by omega) q c' (by omega) h1
    obtain ⟨g1, g2, _⟩ := frontK_rd hB (sl := sl) i hi1 (nowK S sl (f : Int) i) 31 (by omega) m hm
    have hcb := cstM_bd (q : Int) (m : Int)
    show rd (frontK S sl i (nowK S sl (f : Int) i) 31) (m : Int) ≤ c' + cstM (q : Int) (m : Int)
    by_cases hlt : rd (nowK S sl (f : Int) i) (q : Int) < 1000
    · have := g2 q (by omega) hlt (mem_hts.2 h2)
      rw [cst_M] at this
      omega
    · omega
theorem nowK_is (f : Nat) (hf : f < 31) : ∀ (i : Nat), i < S.length → ∀ (m : Nat), m < 31 → rd (nowK S sl (f : Int) i) (m : Int) < 1000 → Rch (lo S) (hi S) sl (f : Int) i (m : Int) (rd (nowK S sl (f : Int) i) (m : Int))
  | 0, _, m, hm, hlt => by
    rw [nowK_0 hB f hf m hm] at hlt ⊢
    by_cases e : m = f
    · subst e; rw [if_pos rfl]; exact ⟨rfl, rfl⟩
    · rw [if_neg e] at hlt; omega
  | i + 1, hi1, m, hm, hlt => by
    obtain ⟨_, _, g3⟩ := frontK_rd hB (sl := sl) i hi1 (nowK S sl (f : Int) i) 31 (by omega) m hm
    have e : rd (nowK S sl (f : Int) (i + 1)) (m : Int) = rd (frontK S sl i (nowK S sl (f : Int) i) 31) (m : Int) := rfl
    rw [e] at hlt ⊢
    rcases g3 with g3 | ⟨q, h1, h2, h3, h4⟩
    · omega
    · rw [h4]
      exact ⟨(q : Int), _, nowK_is f hf i (by omega) q h1 h2, mem_hts.1 h3, by rw [cst_M]⟩
theorem hit_iff {ch : Int} (hc : ch < 1000) {d : Nat} (hd : S.length = d + 1) (f : Nat) (hf : f < 31) (hf2 : lo S 0 ≤ (f : Int) ∧ (f : Int) ≤ hi S 0) (i : Nat) (hi1 : i < S.length) (h : Nat) (hh : h < 31) :
    hitK S sl ch (f : Int) i h = true ↔ ∃ l, Fit (lo S) (hi S) sl ch d l ∧ atM l 0 = (f : Int) ∧ atM l i = (h : Int) := by
  have hrest : restF S sl ((i : Int), (h : Int), (f : Int)) = rM (lo S) (hi S) sl (d - i) i (h : Int) (f : Int) := by
    unfold restF
    rw [← restV_M]
    congr 1
    show S.length - 1 - (i : Int).toNat = d - i
    omega
  unfold hitK
  rw [hrest]
  simp only [Bool.and_eq_true, decide_eq_true_eq]
  constructor
  · rintro ⟨h1, h2⟩
    have hr := nowK_is hB (sl := sl) f hf i hi1 h hh h1
    have h0 := Rch_nonneg _ _ _ hr
    obtain ⟨t, ht⟩ := (way_exists (lo := lo S) (hi := hi S) (sl := sl) (d := d - i) (i := i) (h := (h : Int)) (f := (f : Int)) (left := ch - rd (nowK S sl (f : Int) i) (h : Int)) (by omega)).1 (by omega)
    obtain ⟨q, hq, hw, ha⟩ := reach_join (f : Int) i (h : Int) _ (d - i) _ t hr ht
    refine ⟨(f : Int) :: (q ++ t), ⟨(f : Int), q ++ t, rfl, hf2, ?_⟩, rfl, ha⟩
    rw [show d = i + (d - i) by omega]
    rw [show rd (nowK S sl (f : Int) i) (h : Int) + (ch - rd (nowK S sl (f : Int) i) (h : Int)) = ch by omega] at hw
    exact hw
  · rintro ⟨l, ⟨n, t, rfl, hn, hw⟩, h0, hh2⟩
    rw [atM_zero] at h0
    subst h0
    obtain ⟨c, c', g1, g2, g3⟩ := reach_split (f : Int) ch t i (d - i) (by rw [show i + (d - i) = d by omega]; exact hw)
    rw [hh2] at g1 g2
    have k1 := nowK_le hB (sl := sl) f hf i hi1 h c hh g1
    have k2 := (way_exists (lo := lo S) (hi := hi S) (sl := sl) (d := d - i) (i := i) (h := (h : Int)) (f := (f : Int)) (left := c') (by have := Rch_nonneg _ _ _ g1; omega)).2 ⟨_, g2⟩
    have k3 := rM_nonneg (lo := lo S) (hi := hi S) (sl := sl) (d - i) i (h : Int) (f : Int)
    exact ⟨by omega, by omega⟩
end
def IsSpan (o : SP) (P : Int → Prop) : Prop := (o = ⟨1, 0⟩ ∧ ∀ h, ¬ P h) ∨ (P o.f0 ∧ P o.f1 ∧ ∀ h, P h → o.f0 ≤ h ∧ h ≤ o.f1)
theorem IsSpan.congr {o : SP} {P Q : Int → Prop} (h : IsSpan o P) (hpq : ∀ x, P x ↔ Q x) : IsSpan o Q := by
  rcases h with ⟨h1, h2⟩ | ⟨h1, h2, h3⟩
  · exact .inl ⟨h1, fun x hx => h2 x ((hpq x).2 hx)⟩
  · exact .inr ⟨(hpq _).1 h1, (hpq _).1 h2, fun x hx => h3 x ((hpq x).2 hx)⟩
theorem IsSpan.step {o : SP} {P : Int → Prop} (h : IsSpan o P) (n : Int) : IsSpan (outS o n) (fun x => P x ∨ x = n) := by
  unfold outS
  rcases h with ⟨rfl, h2⟩ | ⟨h1, h2, h3⟩
  · rw [if_pos (by decide)]
    refine .inr ⟨.inr rfl, .inr rfl, fun x hx => ?_⟩
    rcases hx with hx | rfl
    · exact absurd hx (h2 x)
    · exact ⟨Int.le_refl _, Int.le_refl _⟩
  · have := h3 _ h2
    rw [if_neg (by omega)]
    refine .inr ⟨?_, ?_, fun x hx => ?_⟩
    · show P (min o.f0 n) ∨ min o.f0 n = n
      by_cases hle : o.f0 ≤ n
      · rw [show min o.f0 n = o.f0 by omega]; exact .inl h1
      · exact .inr (by omega)
    · show P (max o.f1 n) ∨ max o.f1 n = n
      by_cases hle : n ≤ o.f1
      · rw [show max o.f1 n = o.f1 by omega]; exact .inl h2
      · exact .inr (by omega)
    · show min o.f0 n ≤ x ∧ x ≤ max o.f1 n
      rcases hx with hx | rfl
      · have := h3 x hx; omega
      · omega
theorem IsSpan.unique {o o' : SP} {P : Int → Prop} (h : IsSpan o P) (h' : IsSpan o' P) : o = o' := by
  rcases h with ⟨rfl, h2⟩ | ⟨h1, h2, h3⟩ <;> rcases h' with ⟨rfl, h5⟩ | ⟨h4, h5, h6⟩
  · rfl
  · exact absurd h4 (h2 _)
  · exact absurd h1 (h5 _)
  · obtain ⟨a, b⟩ := o
    obtain ⟨c, d⟩ := o'
    simp only at *
    have a1 := h3 _ h4
    have a2 := h3 _ h5
    have a3 := h6 _ h1
    have a4 := h6 _ h2
    have e1 : a = c := by omega
    have e2 : b = d := by omega
    rw [e1, e2]
theorem rdT_set_ne (S : List SP) (i j : Nat) (x : SP) (h : j ≠ i) : rd_T48 (S.set i x) (j : Int) = rd_T48 S (j : Int) := by
  simp [rd_T48, List.getD_eq_getElem?_getD, List.getElem?_set_ne (Ne.symm h)]
theorem kH_span (S : List SP) (sl ch first : Int) (i : Nat) (out : List SP) (hi1 : i < out.length) (P : Int → Prop) (h0 : IsSpan (rd_T48 out (i : Int)) P) : ∀ k : Nat, IsSpan (rd_T48 (kH S sl ch first i out k) (i : Int)) (fun x => P x ∨ ∃ h : Nat, h < k ∧ hitK S sl ch first i h = true ∧ x = (h : Int))
  | 0 => h0.congr fun x => ⟨.inl, fun h => by rcases h with h | ⟨_, h, _⟩; · exact h
                                              · omega⟩
  | k + 1 => by
    have ih := kH_span S sl ch first i out hi1 P h0 k
    unfold kH
    by_cases hk : hitK S sl ch first i k = true
    · rw [if_pos hk, rd_set_same _ i _ (by rw [kH_len]; exact hi1)]
      refine (ih.step (k : Int)).congr fun x => ⟨fun h => ?_, fun h => ?_⟩
      · rcases h with (h | ⟨q, h1, h2, h3⟩) | h
        · exact .inl h
        · exact .inr ⟨q, by omega, h2, h3⟩
        · exact .inr ⟨k, by omega, hk, h⟩
      · rcases h with h | ⟨q, h1, h2, h3⟩
        · exact .inl (.inl h)
        · by_cases e : q = k
          · subst e; exact .inr h3
          · exact .inl (.inr ⟨q, by omega, h2, h3⟩)
    · rw [if_neg hk]
      refine ih.congr fun x => ⟨fun h => ?_, fun h => ?_⟩
      · rcases h with h | ⟨q, h1, h2, h3⟩
        · exact .inl h
        · exact .inr ⟨q, by omega, h2, h3⟩
      · rcases h with h | ⟨q, h1, h2, h3⟩
        · exact .inl h
        · by_cases e : q = k
          · subst e; exact absurd h2 hk
          · exact .inr ⟨q, by omega, h2, h3⟩
theorem kH_ne (S : List SP) (sl ch first : Int) (i : Nat) (out : List SP) (j : Nat) (hj : j ≠ i) : ∀ k : Nat, rd_T48 (kH S sl ch first i out k) (j : Int) = rd_T48 out (j : Int)
  | 0 => rfl
  | k + 1 => by
    unfold kH
    split
    · rw [rdT_set_ne _ _ _ _ hj]; exact kH_ne S sl ch first i out j hj k
    · exact kH_ne S sl ch first i out j hj k
theorem kI_span (S : List SP) (sl ch first : Int) (out : List SP) (P : Nat → Int → Prop) (h0 : ∀ j, j < out.length → IsSpan (rd_T48 out (j : Int)) (P j)) : ∀ (k : Nat), k ≤ out.length → ∀ j, j < out.length → IsSpan (rd_T48 (kI S sl ch first out k) (j : Int)) (fun x => P j x ∨ (j < k ∧ ∃ h : Nat, h < 31 ∧ hitK S sl ch first j h = true ∧ x = (h : Int)))
  | 0, _, j, hj => (h0 j hj).congr fun x => ⟨.inl, fun h => by rcases h with h | h; · exact h
                                                               · omega⟩
  | k + 1, hk, j, hj => by
    have ih := kI_span S sl ch first out P h0 k (by omega)
    unfold kI
    by_cases e : j = k
    · subst e
      refine (kH_span S sl ch first j (kI S sl ch first out j) (by rw [kI_len]; exact hj) _ (ih j hj) 31).congr fun x => ⟨fun h => ?_, fun h => ?_⟩
      · rcases h with (h | h) | h
        · exact .inl h
        · omega
        · exact .inr ⟨by omega, h⟩
      · rcases h with h | h
        · exact .inl (.inl h)
        · exact .inr h.2
    · rw [kH_ne S sl ch first k _ j e 31]
      refine (ih j hj).congr fun x => ⟨fun h => ?_, fun h => ?_⟩
      · rcases h with h | h
        · exact .inl h
        · exact .inr ⟨by omega, h.2⟩
      · rcases h with h | h
        · exact .inl h
        · exact .inr ⟨by omega, h.2⟩
theorem kF_span (S : List SP) (sl ch : Int) : ∀ (k : Nat), ∀ j, j < S.length → IsSpan (rd_T48 (kF S sl ch k) (j : Int)) (fun x => ∃ q : Nat, q < k ∧ ∃ h : Nat, h < 31 ∧ hitK S sl ch (lo S 0 + (q : Int)) j h = true ∧ x = (h : Int))
  | 0, j, hj => by
    refine .inl ⟨?_, fun x hx => ?_⟩
    · unfold kF
      simp [rd_T48, List.getD_eq_getElem?_getD, List.getElem?_replicate, hj]
    · obtain ⟨q, hq, _⟩ := hx
      omega
  | k + 1, j, hj => by
    unfold kF
    have hl := kF_len S sl ch k
    refine (kI_span S sl ch (lo S 0 + (k : Int)) (kF S sl ch k) _ (fun j hj => kF_span S sl ch k j (by omega)) S.length (by omega) j (by omega)).congr fun x => ⟨fun h => ?_, fun h => ?_⟩
    · rcases h with ⟨q, hq, h⟩ | h
      · exact ⟨q, by omega, h⟩
      · exact ⟨k, by omega, h.2⟩
    · obtain ⟨q, hq, h⟩ := h
      by_cases e : q = k
      · subst e; exact .inr ⟨hj, h⟩
      · exact .inl ⟨q, by omega, h⟩
theorem known_span {S : List SP} {sl ch : Int} (hB : ∀ i, i < S.length → 0 ≤ lo S i ∧ hi S i ≤ 30) (hc : ch < 1000) (hn : 1 ≤ S.length) (j : Nat) (hj : j < S.length) :
    IsSpan (rd_T48 (knownL S sl ch) (j : Int)) (fun x => ∃ l, FitN (lo S) (hi S) sl ch S.length l ∧ atM l j = x) := by
  obtain ⟨d, hd⟩ : ∃ d, S.length = d + 1 := ⟨S.length - 1, by omega⟩
  have hb0 := hB 0 (by omega)
  unfold knownL
  refine (kF_span S sl ch (hi S 0 + 1 - lo S 0).toNat j hj).congr fun x => ⟨fun h => ?_, fun h => ?_⟩
  · obtain ⟨q, hq, h, hh, hhit, rfl⟩ := h
    obtain ⟨f, hf⟩ := Int.eq_ofNat_of_zero_le (show 0 ≤ lo S 0 + (q : Int) by omega)
    rw [hf] at hhit
    obtain ⟨l, h1, _, h3⟩ := (hit_iff hB hc hd f (by omega) (by omega) j hj h hh).1 hhit
    refine ⟨l, ?_, h3⟩
    rw [hd]
    exact Fit_iff.1 h1
  · obtain ⟨l, h1, rfl⟩ := h
    have hs0 := h1.span 0 (by omega)
    have hsj := h1.span j hj
    have hbj := hB j hj
    obtain ⟨f, hf⟩ := Int.eq_ofNat_of_zero_le (show 0 ≤ atM l 0 by omega)
    obtain ⟨h, hh⟩ := Int.eq_ofNat_of_zero_le (show 0 ≤ atM l j by omega)
    refine ⟨(atM l 0 - lo S 0).toNat, by omega, h, by omega, ?_, hh⟩
    rw [show lo S 0 + (((atM l 0 - lo S 0).toNat : Nat) : Int) = (f : Int) by omega]
    refine (hit_iff hB hc hd f (by omega) (by omega) j hj h (by omega)).2 ⟨l, ?_, hf, hh⟩
    rw [hd] at h1
    exact Fit_iff.2 h1
def seen (a : Nat → Int) (x : GA) : Prop := -x.f2 ≤ a x.f0.toNat - x.f1 ∧ a x.f0.toNat - x.f1 ≤ x.f2
theorem gauge_set (n : Nat) (S : List SP) (hS : S.length = n) (x : GA) (hx : gaugeOK n x) (a : Nat → Int) : (∀ k, k < n → lo (S.set x.f0.toNat (gaugeS S x)) k ≤ a k ∧ a k ≤ hi (S.set x.f0.toNat (gaugeS S x)) k) ↔ (∀ k, k < n → lo S k ≤ a k ∧ a k ≤ hi S k) ∧ seen a x := by
 obtain ⟨q, hq⟩ := Int.eq_ofNat_of_zero_le hx.1.1
 have hqn : q < n := by have := hx.1.2; omega
 have e1 : x.f0.toNat = q := by omega
 have hsame : rd_T48 (S.set q (gaugeS S x)) (q : Int) = gaugeS S x := rd_set_same S q _ (by omega)
 have hgs : gaugeS S x = ⟨max (lo S q) (x.f1 - x.f2), min (hi S q) (x.f1 + x.f2)⟩ := by unfold gaugeS lo hi; rw [hq]
 unfold seen
 rw [e1]
 constructor
 ·
  intro h
  have hqq := h q hqn
  unfold lo hi at hqq
  rw [hsame, hgs] at hqq
  simp only at hqq
  refine ⟨fun k hk => ?_, by omega⟩
  by_cases e : k = q
  ·
   subst e; omega
  ·
   have := h k hk
   unfold lo hi at this
   rw [rdT_set_ne S q k _ e] at this
   exact this
 ·
  rintro ⟨h1, h2⟩ k hk
  by_cases e : k = q
  ·
   subst e
   unfold lo hi
   rw [hsame, hgs]
   have := h1 k hk
   simp only
   omega
  ·
   unfold lo hi
   rw [rdT_set_ne S q k _ e]
   exact h1 k hk
theorem gauge_some (n : Nat) (a : Nat → Int) : ∀ (G : List GA) (S T : List SP), (∀ x ∈ G, gaugeOK n x) → S.length = n → gaugeL G S = some T → ((∀ k, k < n → lo T k ≤ a k ∧ a k ≤ hi T k) ↔ (∀ k, k < n → lo S k ≤ a k ∧ a k ≤ hi S k) ∧ ∀ x ∈ G, seen a x)
 | [], S, T, _, _, h => by rw [gaugeL] at h; rw [← Option.some.inj h]; simp
 | x :: G, S, T, hG, hS, h => by
  rw [gaugeL] at h
  split at h
  ·
   cases h
  ·
   rw [gauge_some n a G _ T (fun y hy => hG y (by simp [hy])) (by rw [List.length_set]; exact hS) h, gauge_set n S hS x (hG x (by simp)) a]
   simp only [List.mem_cons, forall_eq_or_imp, and_assoc]
theorem gauge_none (n : Nat) (a : Nat → Int) : ∀ (G : List GA) (S : List SP), (∀ x ∈ G, gaugeOK n x) → S.length = n → gaugeL G S = none → ¬ ((∀ k, k < n → lo S k ≤ a k ∧ a k ≤ hi S k) ∧ ∀ x ∈ G, seen a x)
 | [], S, _, _, h => by rw [gaugeL] at h; cases h
 | x :: G, S, hG, hS, h => by
  rintro ⟨h1, h2⟩
  have hx := hG x (by simp)
  have hset := (gauge_set n S hS x hx a).2 ⟨h1, h2 x (by simp)⟩
  rw [gaugeL] at h
  split at h
  ·
   rename_i hlt
   obtain ⟨q, hq⟩ := Int.eq_ofNat_of_zero_le hx.1.1
   have := hset q (by have := hx.1.2; omega)
   unfold lo hi at this
   rw [show x.f0.toNat = q by omega, rd_set_same S q _ (by have := hx.1.2; omega)] at this
   omega
  ·
   exact gauge_none n a G _ (fun y hy => hG y (by simp [hy])) (by rw [List.length_set]; exact hS) h ⟨hset, fun y hy => h2 y (by simp [hy])⟩
def Truth (lw hg sl ch : Int) (n : Nat) (G : List GA) (l : List Int) : Prop := FitN (fun _ => lw) (fun _ => hg) sl ch n l ∧ ∀ x ∈ G, seen (atM l) x
theorem lo_rep (lw hg : Int) (n k : Nat) (h : k < n) : lo (List.replicate n (⟨lw, hg⟩ : SP)) k = lw ∧ hi (List.replicate n (⟨lw, hg⟩ : SP)) k = hg := by
 have e : rd_T48 (List.replicate n (⟨lw, hg⟩ : SP)) (k : Int) = ⟨lw, hg⟩ := by
  simp [rd_T48, List.getD_eq_getElem?_getD, List.getElem?_replicate, h]
 unfold lo hi
 rw [e]
 exact ⟨rfl, rfl⟩
theorem knownR_is {lw hg sl ch : Int} {n : Nat} {G : List GA} (hr : (0 ≤ lw ∧ lw ≤ hg ∧ hg ≤ 30) ∧ (0 ≤ sl ∧ sl ≤ 30) ∧ (0 ≤ ch ∧ ch ≤ 24)) (hn : 1 ≤ n) (hG : ∀ x ∈ G, gaugeOK n x) :
  (∀ T, knownR lw hg sl ch n G = some T → T.length = n ∧ (∃ l, Truth lw hg sl ch n G l) ∧ ∀ j, j < n → IsSpan (rd_T48 T (j : Int)) (fun x => ∃ l, Truth lw hg sl ch n G l ∧ atM l j = x)) ∧
  (knownR lw hg sl ch n G = none → ∀ l, ¬ Truth lw hg sl ch n G l) := by
 have hrep : (List.replicate n (⟨lw, hg⟩ : SP)).length = n := by simp
 unfold knownR
 cases hg1 : gaugeL G (List.replicate n ⟨lw, hg⟩) with
 | none =>
  refine ⟨fun T h => by simp at h, fun _ l hl => ?_⟩
  refine gauge_none n (atM l) G _ hG hrep hg1 ⟨fun k hk => ?_, hl.2⟩
  rw [(lo_rep lw hg n k hk).1, (lo_rep lw hg n k hk).2]
  exact hl.1.span k hk
 | some S =>
  have hSl : S.length = n := by rw [gaugeL_len G _ S hg1, hrep]
  have hB : ∀ i, i < S.length → 0 ≤ lo S i ∧ hi S i ≤ 30 := by
   intro i hi'
   refine gaugeL_bd n (fun a b => 0 ≤ a ∧ b ≤ 30) (fun a b c d h1 h2 h3 h4 h5 => by have h1 : 0 ≤ a ∧ b ≤ 30 := h1; show 0 ≤ max a c ∧ min b d ≤ 30; omega) G _ S hG hrep (fun k hk => ?_) hg1 i (by omega)
   rw [(lo_rep lw hg n k hk).1, (lo_rep lw hg n k hk).2]
   show 0 ≤ lw ∧ hg ≤ 30
   omega
  have hiff : ∀ l, FitN (lo S) (hi S) sl ch S.length l ↔ Truth lw hg sl ch n G l := by
   intro l
   rw [hSl]
   have hg2 := gauge_some n (atM l) G _ S hG hrep hg1
   constructor
   ·
    intro h
    have h1 := hg2.1 h.span
    exact ⟨⟨h.len, fun k hk => by have := h1.1 k hk; rwa [(lo_rep lw hg n k hk).1, (lo_rep lw hg n k hk).2] at this, h.slope, h.chg⟩, h1.2⟩
   ·
    intro h
    exact ⟨h.1.len, hg2.2 ⟨fun k hk => by rw [(lo_rep lw hg n k hk).1, (lo_rep lw hg n k hk).2]; exact h.1.span k hk, h.2⟩, h.1.slope, h.1.chg⟩
  have hsp : ∀ j, j < n → IsSpan (rd_T48 (knownL S sl ch) (j : Int)) (fun x => ∃ l, Truth lw hg sl ch n G l ∧ atM l j = x) := fun j hj =>
   (known_span hB (by omega) (by omega) j (by omega)).congr fun x => ⟨fun ⟨l, h1, h2⟩ => ⟨l, (hiff l).1 h1, h2⟩, fun ⟨l, h1, h2⟩ => ⟨l, (hiff l).2 h1, h2⟩⟩
  have h0 := hsp 0 (by omega)
  simp only [Option.bind_some]
  have e0 : ((0 : Nat) : Int) = 0 := rfl
  rw [e0] at h0
  rcases h0 with ⟨h1, h2⟩ | ⟨h1, h2, h3⟩
  ·
   rw [h1, if_neg (by decide)]
   exact ⟨fun T h => (by cases h), fun _ l hl => h2 _ ⟨l, hl, rfl⟩⟩
  ·
   rw [if_pos (h3 _ h1).2]
   refine ⟨fun T h => ?_, fun h => by cases h⟩
   have hT := Option.some.inj h
   subst hT
   obtain ⟨l, hl, _⟩ := h1
   exact ⟨by unfold knownL; rw [kF_len]; exact hSl, ⟨l, hl⟩, hsp⟩
theorem gOK_ok {n : Int} {x : GA} (h : gOK n x = true) : gaugeOK n.toNat x := by
 simp [gOK, isH] at h
 unfold gaugeOK
 omega
theorem cam_Known_is {lw hg sl ch a : Int} {G : List GA} (h1 : ruleB lw hg sl ch = true) (h2 : 3 ≤ a ∧ a ≤ 24) (h3 : G.length ≤ 8) (h4 : G.all (gOK a) = true) :
  (∃ T, cam_Known.f lw hg sl ch a G = some (T, 0) ∧ T.length = a.toNat ∧ (∃ l, Truth lw hg sl ch a.toNat G l) ∧ ∀ j, j < a.toNat → IsSpan (rd_T48 T (j : Int)) (fun x => ∃ l, Truth lw hg sl ch a.toNat G l ∧ atM l j = x)) ∨
  (cam_Known.f lw hg sl ch a G = some ([], 7) ∧ ∀ l, ¬ Truth lw hg sl ch a.toNat G l) := by
 have hrb : (0 ≤ lw ∧ lw ≤ hg ∧ hg ≤ 30) ∧ (0 ≤ sl ∧ sl ≤ 30) ∧ (0 ≤ ch ∧ ch ≤ 24) := by
  have h := h1
  simp [ruleB] at h
  omega
 have hk := knownR_is (n := a.toNat) (G := G) hrb (by omega) (fun x hx => gOK_ok (List.all_eq_true.1 h4 x hx))
 unfold cam_Known.f
 rw [if_pos ⟨h1, h2, h3, h4⟩]
 cases hc : knownR lw hg sl ch a.toNat G with
 | some T =>
  rw [hc] at hk
  obtain ⟨g1, g2, g3⟩ := hk.1 T rfl
  exact .inl ⟨T, rfl, g1, g2, g3⟩
 | none =>
  rw [hc] at hk
  exact .inr ⟨rfl, hk.2 rfl⟩
def gaugesB (n : Int) (G : List GA) : Bool := G.all (gOK n) && decide (G.length ≤ 8)
theorem refGauges_l (n : Int) (hn : -1000 ≤ n ∧ n ≤ 1000) (G : List GA) (hl : G.length ≤ 1000) : ∀ (q i : Nat), i + q = G.length → Ev (fun k => tr_Gauges.l0 k n G (i : Int)) ((G.drop i).all (gOK n) && decide (G.length ≤ 8))
 | 0, i, h => by
  obtain rfl : i = G.length := by omega
  refine Ev.step (f := fun _ => some _) (fun k => ?_) (Ev.now _)
  rw [tr_Gauges.l0, if_neg (by omega), List.drop_length]
  simp only [List.all_nil, Bool.true_and]
  congr 1
  exact decide_eq_decide.2 ⟨fun h => by omega, fun h => by omega⟩
 | q + 1, i, h => by
  have hi : i < G.length := by omega
  have hrd : rd_T66 G (i : Int) = G[i] := by simp [rd_T66, List.getD_eq_getElem?_getD, hi]
  have ih := refGauges_l n hn G hl q (i + 1) (by omega)
  have e1 : wrap64 (n - 1) = n - 1 := w64 _ (by omega)
  have e2 : wrap64 ((i : Int) + 1) = ((i + 1 : Nat) : Int) := by rw [w64 _ (by omega)]; omega
  rw [List.drop_eq_getElem_cons hi, List.all_cons]
  generalize G[i] = x at hrd ⊢
  have hdo : ∀ k, tr_Gauges.l0 (k + 1) n G (i : Int) = if gOK n x = true then tr_Gauges.l0 k n G ((i + 1 : Nat) : Int) else some false := by
   intro k
   rw [tr_Gauges.l0, if_pos (by omega), if_pos (by omega), hrd, e1, e2, refIn_f, refIn_f, refIn_f]
   simp only [Option.bind_some]
   unfold gOK isH
   cases (decide (0 ≤ x.f0) && decide (x.f0 ≤ n - 1)) <;> cases (decide (0 ≤ x.f1) && decide (x.f1 ≤ 30)) <;> cases (decide (0 ≤ x.f2) && decide (x.f2 ≤ 5)) <;> rfl
  refine Ev.step (f := fun k => _) hdo ?_
  cases hs : gOK n x with
  | true => simp only [if_true, Bool.true_and]; exact ih
  | false => simp only [Bool.false_eq_true, if_false, Bool.false_and]; exact Ev.now _
theorem evR_gauges (n : Int) (hn : -1000 ≤ n ∧ n ≤ 1000) (G : List GA) (hl : G.length ≤ 1000) : Ev (fun k => tr_Gauges.f k n G) (gaugesB n G) := by
 have := refGauges_l n hn G hl G.length 0 (by omega)
 rw [List.drop_zero] at this
 exact this
end Go.Proofs.YtbjimmemcmjpcabGreatDoor.Print
end

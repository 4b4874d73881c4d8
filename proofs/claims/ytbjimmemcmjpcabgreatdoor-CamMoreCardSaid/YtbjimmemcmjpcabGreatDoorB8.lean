/- What the program's functions compute that the chapter's examples reach, each with the walk that shows it; the kit's words for such walks. Joined by wip/pack.py. -/
section
set_option linter.unusedVariables false
set_option linter.unusedSimpArgs false
namespace Go.Proofs.YtbjimmemcmjpcabGreatDoor.Print
def uptoM (a b : Int) : List Int := (List.range (b + 1 - a).toNat).map fun (i : Nat) => a + (i : Int)
theorem mem_uptoM {a b n : Int} : n ∈ uptoM a b ↔ a ≤ n ∧ n ≤ b := by
  unfold uptoM
  rw [List.mem_map]
  constructor
  · rintro ⟨i, hi, rfl⟩
    rw [List.mem_range] at hi
    omega
  · intro h
    exact ⟨(n - a).toNat, by rw [List.mem_range]; omega, by omega⟩
def cstM (a b : Int) : Int := if a = b then 0 else 1
theorem cstM_bd (a b : Int) : 0 ≤ cstM a b ∧ cstM a b ≤ 1 := by unfold cstM; split <;> omega
def pc : Int → List Int → Int → Int
  | h, [], f => cstM h f
  | h, n :: t, f => cstM h n + pc n t f
theorem pc_bd : ∀ (t : List Int) (h f : Int), 0 ≤ pc h t f ∧ pc h t f ≤ (t.length : Int) + 1
  | [], h, f => by have := cstM_bd h f; simp only [pc, List.length_nil]; omega
  | n :: t, h, f => by
    have h1 := cstM_bd h n
    have h2 := pc_bd t n f
    simp only [pc, List.length_cons]
    omega
section
variable (lo hi : Nat → Int) (sl : Int)
def pv : Nat → Int → List Int → Int → Prop
  | _, h, [], f => -sl ≤ h - f ∧ h - f ≤ sl
  | i, h, n :: t, f => (max (lo (i + 1)) (h - sl) ≤ n ∧ n ≤ min (hi (i + 1)) (h + sl)) ∧ pv (i + 1) n t f
def rM : Nat → Nat → Int → Int → Int
  | 0, _, h, f => if sl < max (h - f) (-(h - f)) then 1000 else cstM h f
  | d + 1, i, h, f => ((uptoM (max (lo (i + 1)) (h - sl)) (min (hi (i + 1)) (h + sl))).map fun n => rM d (i + 1) n f + cstM h n).foldl min 1000
end
theorem foldl_min_le_init (l : List Int) : ∀ a : Int, l.foldl min a ≤ a := by
  induction l with
  | nil => intro a; exact Int.le_refl _
  | cons x l ih => intro a; simp only [List.foldl_cons]; exact Int.le_trans (ih _) (by omega)
theorem foldl_min_le_mem (l : List Int) : ∀ (a x : Int), x ∈ l → l.foldl min a ≤ x := by
  induction l with
  | nil => intro a x h; simp at h
  | cons y l ih =>
    intro a x h
    simp only [List.foldl_cons]
    rcases List.mem_cons.1 h with rfl | h
    · exact Int.le_trans (foldl_min_le_init l _) (by omega)
    · exact ih _ _ h
theorem foldl_min_is (l : List Int) : ∀ a : Int, l.foldl min a = a ∨ l.foldl min a ∈ l := by
  induction l with
  | nil => intro a; exact .inl rfl
  | cons y l ih =>
    intro a
    simp only [List.foldl_cons]
    rcases ih (min a y) with h | h
    · by_cases hle : a ≤ y
      · left; rw [h]; omega
      · right; rw [h, show min a y = y by omega]; exact List.mem_cons_self ..
    · exact .inr (List.mem_cons_of_mem _ h)
section
variable {lo hi : Nat → Int} {sl : Int}
theorem rM_le : ∀ (d i : Nat) (h f : Int) (t : List Int), t.length = d → pv lo hi sl i h t f → rM lo hi sl d i h f ≤ pc h t f
  | 0, i, h, f, t, hl, hv => by
    obtain rfl := List.length_eq_zero_iff.1 hl
    simp only [pv] at hv
    simp only [rM, pc]
    rw [if_neg (by omega)]
    exact Int.le_refl _
  | d + 1, i, h, f, t, hl, hv => by
    cases t with
    | nil => simp at hl
    | cons n t =>
      simp only [pv] at hv
      simp only [rM, pc]
      have h1 := rM_le d (i + 1) n f t (by simpa using hl) hv.2
      refine Int.le_trans (foldl_min_le_mem _ _ (rM lo hi sl d (i + 1) n f + cstM h n) ?_) (by omega)
      exact List.mem_map.2 ⟨n, mem_uptoM.2 hv.1, rfl⟩
theorem rM_nonneg : ∀ (d i : Nat) (h f : Int), 0 ≤ rM lo hi sl d i h f
  | 0, i, h, f => by
    have := cstM_bd h f
    simp only [rM]; split <;> omega
  | d + 1, i, h, f => by
    simp only [rM]
    rcases foldl_min_is ((uptoM (max (lo (i + 1)) (h - sl)) (min (hi (i + 1)) (h + sl))).map fun n => rM lo hi sl d (i + 1) n f + cstM h n) 1000 with h1 | h1
    · rw [h1]; omega
    · obtain ⟨n, hn, he⟩ := List.mem_map.1 h1
      rw [← he]
      have := rM_nonneg d (i + 1) n f
      have := cstM_bd h n
      omega
theorem rM_is : ∀ (d i : Nat) (h f : Int), rM lo hi sl d i h f < 1000 → ∃ t, t.length = d ∧ pv lo hi sl i h t f ∧ pc h t f = rM lo hi sl d i h f
  | 0, i, h, f, hlt => by
    simp only [rM] at hlt ⊢
    by_cases hs : sl < max (h - f) (-(h - f))
    · rw [if_pos hs] at hlt; omega
    · rw [if_neg hs]
      exact ⟨[], rfl, by simp only [pv]; omega, rfl⟩
  | d + 1, i, h, f, hlt => by
    simp only [rM] at hlt ⊢
    rcases foldl_min_is ((uptoM (max (lo (i + 1)) (h - sl)) (min (hi (i + 1)) (h + sl))).map fun n => rM lo hi sl d (i + 1) n f + cstM h n) 1000 with h1 | h1
    · omega
    · obtain ⟨n, hn, he⟩ := List.mem_map.1 h1
      rw [← he] at hlt ⊢
      have := cstM_bd h n
      obtain ⟨t, hl, hv, hc⟩ := rM_is d (i + 1) n f (by omega)
      exact ⟨n :: t, by simp [hl], ⟨mem_uptoM.1 hn, hv⟩, by simp only [pc]; omega⟩
end
def leL : List Int → List Int → Prop
  | a :: l, b :: m => a < b ∨ (a = b ∧ leL l m)
  | [], _ => True
  | _ :: _, [] => False
theorem leL_refl : ∀ l : List Int, leL l l
  | [] => trivial
  | a :: l => .inr ⟨rfl, leL_refl l⟩
theorem leL_antisymm : ∀ {l m : List Int}, l.length = m.length → leL l m → leL m l → l = m
  | [], [], _, _, _ => rfl
  | [], _ :: _, h, _, _ => by simp at h
  | _ :: _, [], h, _, _ => by simp at h
  | a :: l, b :: m, h, h1, h2 => by
    simp only [leL] at h1 h2
    have hab : a = b := by omega
    subst hab
    have h1' : leL l m := by rcases h1 with h1 | h1; · omega
                             · exact h1.2
    have h2' : leL m l := by rcases h2 with h2 | h2; · omega
                             · exact h2.2
    rw [leL_antisymm (by simpa using h) h1' h2']
theorem leL_app : ∀ (p : List Int) {l m : List Int}, leL l m → leL (p ++ l) (p ++ m)
  | [], _, _, h => h
  | a :: p, _, _, h => .inr ⟨rfl, leL_app p h⟩
theorem leL_total : ∀ (l m : List Int), l.length = m.length → leL l m ∨ leL m l
  | [], _, _ => .inl trivial
  | _ :: _, [], h => by simp at h
  | a :: l, b :: m, h => by
    rcases Int.lt_trichotomy a b with h1 | h1 | h1
    · exact .inl (.inl h1)
    · rcases leL_total l m (by simpa using h) with h2 | h2
      · exact .inl (.inr ⟨h1, h2⟩)
      · exact .inr (.inr ⟨h1.symm, h2⟩)
    · exact .inr (.inl h1)
def IsFirst (P : List Int → Prop) (r : Option (List Int)) : Prop :=
  match r with
  | some l => P l ∧ ∀ m, P m → leL l m
  | none => ∀ m, ¬ P m
theorem IsFirst.unique {P Q : List Int → Prop} {n : Nat} (hPQ : ∀ l, P l ↔ Q l) (hn : ∀ l, P l → l.length = n) {r q : Option (List Int)} (h : IsFirst P r) (h' : IsFirst Q q) : r = q := by
  cases r with
  | none =>
    cases q with
    | none => rfl
    | some m => exact absurd ((hPQ m).2 h'.1) (h m)
  | some l =>
    cases q with
    | none => exact absurd ((hPQ l).1 h.1) (h' l)
    | some m =>
      have hm := (hPQ m).2 h'.1
      rw [leL_antisymm (by rw [hn l h.1, hn m hm]) (h.2 m hm) (h'.2 l ((hPQ l).1 h.1))]
theorem findSome_first {g : Int → Option (List Int)} (a : Int) : ∀ (k : Nat), (∀ (r : List Int), ((List.range k).map fun (i : Nat) => a + (i : Int)).findSome? g = some r → ∃ i : Nat, i < k ∧ g (a + (i : Int)) = some r ∧ ∀ j : Nat, j < i → g (a + (j : Int)) = none) ∧ (((List.range k).map fun (i : Nat) => a + (i : Int)).findSome? g = none → ∀ i : Nat, i < k → g (a + (i : Int)) = none)
  | 0 => ⟨by simp, fun _ i hi => by omega⟩
  | k + 1 => by
    have ih := findSome_first (g := g) a k
    rw [List.range_succ, List.map_append, List.findSome?_append]
    cases hk : ((List.range k).map fun (i : Nat) => a + (i : Int)).findSome? g with
    | some q =>
      refine ⟨fun r hr => ?_, fun h => by simp at h⟩
      simp at hr
      subst hr
      obtain ⟨i, h1, h2, h3⟩ := ih.1 q hk
      exact ⟨i, by omega, h2, h3⟩
    | none =>
      have hn := ih.2 hk
      simp only [List.map_cons, List.map_nil, List.findSome?_cons, List.findSome?_nil, Option.none_or]
      refine ⟨fun r hr => ?_, fun h i hi => ?_⟩
      · cases hg : g (a + (k : Int)) with
        | none => rw [hg] at hr; simp at hr
        | some q =>
          rw [hg] at hr
          simp at hr
          subst hr
          exact ⟨k, by omega, hg, fun j hj => hn j hj⟩
      · by_cases e : i = k
        · subst e
          cases hg : g (a + (i : Int)) with
          | none => rfl
          | some q => rw [hg] at h; simp at h
        · exact hn i (by omega)
section
variable (lo hi : Nat → Int) (sl : Int)
def camM : Nat → Nat → Int → Int → Int → Option (List Int)
  | 0, _, _, _, _ => some []
  | d + 1, i, h, f, left => (uptoM (max (lo (i + 1)) (h - sl)) (min (hi (i + 1)) (h + sl))).findSome? fun n => if left < rM lo hi sl d (i + 1) n f + cstM h n then none else (camM d (i + 1) n f (left - cstM h n)).map (n :: ·)
def Way (d i : Nat) (h f left : Int) (t : List Int) : Prop := t.length = d ∧ pv lo hi sl i h t f ∧ pc h t f ≤ left
end
section
variable {lo hi : Nat → Int} {sl : Int}
theorem way_exists {d i : Nat} {h f left : Int} (hl : left < 1000) : rM lo hi sl d i h f ≤ left ↔ ∃ t, Way lo hi sl d i h f left t := by
  constructor
  · intro hr
    obtain ⟨t, h1, h2, h3⟩ := rM_is (lo := lo) (hi := hi) (sl := sl) d i h f (by omega)
    exact ⟨t, h1, h2, by omega⟩
  · rintro ⟨t, h1, h2, h3⟩
    exact Int.le_trans (rM_le d i h f t h1 h2) h3
theorem first_cons {lo0 hi0 : Int} {g : Int → Option (List Int)} {P : List Int → Prop} {Q : Int → List Int → Prop} {d : Nat}
    (hP : ∀ l, P l ↔ ∃ n t, l = n :: t ∧ (lo0 ≤ n ∧ n ≤ hi0) ∧ Q n t)
    (hg : ∀ n, lo0 ≤ n → n ≤ hi0 → IsFirst (fun l => ∃ t, l = n :: t ∧ Q n t) (g n)) :
    IsFirst P ((uptoM lo0 hi0).findSome? g) := by
  have hfs := findSome_first (g := g) lo0 (hi0 + 1 - lo0).toNat
  unfold uptoM
  cases hr : ((List.range (hi0 + 1 - lo0).toNat).map fun (i : Nat) => lo0 + (i : Int)).findSome? g with
  | none =>
    intro m hm
    obtain ⟨n, t, rfl, hn, hq⟩ := (hP m).1 hm
    have h1 := hfs.2 hr (n - lo0).toNat (by omega)
    have h2 := hg n hn.1 hn.2
    rw [show lo0 + ((n - lo0).toNat : Int) = n by omega] at h1
    rw [h1] at h2
    exact h2 _ ⟨t, rfl, hq⟩
  | some r =>
    obtain ⟨i, h1, h2, h3⟩ := hfs.1 r hr
    have h4 := hg (lo0 + (i : Int)) (by omega) (by omega)
    rw [h2] at h4
    obtain ⟨⟨t, rfl, hq⟩, h5⟩ := h4
    refine ⟨(hP _).2 ⟨_, t, rfl, ⟨by omega, by omega⟩, hq⟩, fun m hm => ?_⟩
    obtain ⟨n, t', rfl, hn, hq'⟩ := (hP m).1 hm
    by_cases hlt : n < lo0 + (i : Int)
    · have h6 := h3 (n - lo0).toNat (by omega)
      have h7 := hg n hn.1 hn.2
      rw [show lo0 + ((n - lo0).toNat : Int) = n by omega] at h6
      rw [h6] at h7
      exact absurd ⟨t', rfl, hq'⟩ (h7 _)
    · by_cases he : n = lo0 + (i : Int)
      · rw [he] at hq' ⊢
        exact h5 _ ⟨t', rfl, hq'⟩
      · exact .inl (by omega)
theorem camM_first : ∀ (d i : Nat) (h f left : Int), left < 1000 → rM lo hi sl d i h f ≤ left → IsFirst (Way lo hi sl d i h f left) (camM lo hi sl d i h f left)
  | 0, i, h, f, left, hl, hr => by
    obtain ⟨t, ht⟩ := (way_exists hl).1 hr
    have : t = [] := List.length_eq_zero_iff.1 ht.1
    subst this
    exact ⟨ht, fun m hm => by rw [List.length_eq_zero_iff.1 hm.1]; exact leL_refl _⟩
  | d + 1, i, h, f, left, hl, hr => by
    simp only [camM]
    refine first_cons (d := d) (Q := fun n t => Way lo hi sl d (i + 1) n f (left - cstM h n) t) ?_ ?_
    · intro l
      constructor
      · rintro ⟨h1, h2, h3⟩
        cases l with
        | nil => simp at h1
        | cons n t =>
          simp only [pv, pc] at h2 h3
          exact ⟨n, t, rfl, h2.1, by simpa using h1, h2.2, by omega⟩
      · rintro ⟨n, t, rfl, hn, h1, h2, h3⟩
        exact ⟨by simp [h1], ⟨hn, h2⟩, by simp only [pc]; omega⟩
    · intro n h1 h2
      have hc := cstM_bd h n
      by_cases hlt : left < rM lo hi sl d (i + 1) n f + cstM h n
      · rw [if_pos hlt]
        rintro m ⟨t, rfl, hw⟩
        have := (way_exists (lo := lo) (hi := hi) (sl := sl) (d := d) (i := i + 1) (h := n) (f := f) (left := left - cstM h n) (by omega)).2 ⟨t, hw⟩
        omega
      · rw [if_neg hlt]
        have ih := camM_first d (i + 1) n f (left - cstM h n) (by omega) (by omega)
        obtain ⟨t, ht⟩ := (way_exists (lo := lo) (hi := hi) (sl := sl) (d := d) (i := i + 1) (h := n) (f := f) (left := left - cstM h n) (by omega)).1 (by omega)
        cases hcm : camM lo hi sl d (i + 1) n f (left - cstM h n) with
        | none => rw [hcm] at ih; exact absurd ht (ih t)
        | some q =>
          rw [hcm] at ih
          refine ⟨⟨q, rfl, ih.1⟩, ?_⟩
          rintro m ⟨t', rfl, hw⟩
          exact .inr ⟨rfl, ih.2 t' hw⟩
def Fit (lo hi : Nat → Int) (sl ch : Int) (d : Nat) (l : List Int) : Prop := ∃ n t, l = n :: t ∧ (lo 0 ≤ n ∧ n ≤ hi 0) ∧ Way lo hi sl d 0 n n ch t
theorem cam_first (d : Nat) (ch : Int) (hc : ch < 1000) : IsFirst (Fit lo hi sl ch d) ((uptoM (lo 0) (hi 0)).findSome? fun n => if ch < rM lo hi sl d 0 n n then none else (camM lo hi sl d 0 n n ch).map (n :: ·)) := by
  refine first_cons (d := d) (Q := fun n t => Way lo hi sl d 0 n n ch t) (fun l => Iff.rfl) ?_
  intro n h1 h2
  by_cases hlt : ch < rM lo hi sl d 0 n n
  · rw [if_pos hlt]
    rintro m ⟨t, rfl, hw⟩
    have := (way_exists hc).2 ⟨t, hw⟩
    omega
  · rw [if_neg hlt]
    have ih := camM_first (lo := lo) (hi := hi) (sl := sl) d 0 n n ch hc (by omega)
    obtain ⟨t, ht⟩ := (way_exists (lo := lo) (hi := hi) (sl := sl) (d := d) (i := 0) (h := n) (f := n) hc).1 (by omega)
    cases hcm : camM lo hi sl d 0 n n ch with
    | none => rw [hcm] at ih; exact absurd ht (ih t)
    | some q =>
      rw [hcm] at ih
      refine ⟨⟨q, rfl, ih.1⟩, ?_⟩
      rintro m ⟨t', rfl, hw⟩
      exact .inr ⟨rfl, ih.2 t' hw⟩
end
def atM (l : List Int) (k : Nat) : Int := l.getD k 0
theorem atM_cons (a : Int) (l : List Int) (k : Nat) : atM (a :: l) (k + 1) = atM l k := by simp [atM]
theorem atM_zero (a : Int) (l : List Int) : atM (a :: l) 0 = a := by simp [atM]
def linM (l : List Int) : Nat → Int
  | 0 => 0
  | k + 1 => linM l k + cstM (atM l k) (atM l (k + 1))
theorem linM_cons (a : Int) (l : List Int) : ∀ k, linM (a :: l) (k + 1) = cstM a (atM l 0) + linM l k
  | 0 => by simp [linM, atM]
  | k + 1 => by
    have := linM_cons a l k
    rw [show linM (a :: l) (k + 1 + 1) = linM (a :: l) (k + 1) + cstM (atM (a :: l) (k + 1)) (atM (a :: l) (k + 1 + 1)) from rfl, this, atM_cons, atM_cons]
    simp only [linM]; omega
theorem pc_lin : ∀ (t : List Int) (h f : Int), pc h t f = linM (h :: t) t.length + cstM (atM (h :: t) t.length) f
  | [], h, f => by simp [pc, linM, atM]
  | n :: t, h, f => by
    have := pc_lin t n f
    rw [List.length_cons, linM_cons, atM_cons, atM_zero]
    simp only [pc]; omega
theorem pv_steps {lo hi : Nat → Int} {sl : Int} : ∀ (t : List Int) (i : Nat) (h f : Int), pv lo hi sl i h t f ↔
    (∀ k, k < t.length → (lo (i + 1 + k) ≤ atM t k ∧ atM t k ≤ hi (i + 1 + k)) ∧ (-sl ≤ atM (h :: t) k - atM t k ∧ atM (h :: t) k - atM t k ≤ sl)) ∧ (-sl ≤ atM (h :: t) t.length - f ∧ atM (h :: t) t.length - f ≤ sl)
  | [], i, h, f => by simp [pv, atM]
  | n :: t, i, h, f => by
    have ih := pv_steps (lo := lo) (hi := hi) (sl := sl) t (i + 1) n f
    simp only [pv, ih, List.length_cons, atM_cons]
    constructor
    · rintro ⟨h1, h2, h3⟩
      refine ⟨fun k hk => ?_, h3⟩
      cases k with
      | zero => simp only [atM_zero, Nat.add_zero]; omega
      | succ k =>
        have := h2 k (by omega)
        rw [atM_cons, atM_cons, show i + 1 + (k + 1) = i + 1 + 1 + k by omega]
        exact this
    · rintro ⟨h2, h3⟩
      refine ⟨?_, fun k hk => ?_, h3⟩
      · have := h2 0 (by omega)
        simp only [atM_zero, Nat.add_zero] at this
        omega
      · have := h2 (k + 1) (by omega)
        rw [atM_cons, atM_cons, show i + 1 + (k + 1) = i + 1 + 1 + k by omega] at this
        exact this
def chgN (l : List Int) : Nat → Int
  | 0 => 0
  | k + 1 => chgN l k + cstM (atM l k) (atM l ((k + 1) % l.length))
theorem chgN_lin (l : List Int) : ∀ k, k < l.length → chgN l k = linM l k
  | 0, _ => rfl
  | k + 1, h => by
    simp only [chgN, linM]
    rw [chgN_lin l k (by omega), Nat.mod_eq_of_lt (by omega)]
theorem chgN_bd (l : List Int) : ∀ k, 0 ≤ chgN l k ∧ chgN l k ≤ k
  | 0 => by simp [chgN]
  | k + 1 => by
    have := chgN_bd l k
    have := cstM_bd (atM l k) (atM l ((k + 1) % l.length))
    simp only [chgN]; omega
structure FitN (lo hi : Nat → Int) (sl ch : Int) (N : Nat) (l : List Int) : Prop where
  len : l.length = N
  span : ∀ k, k < N → lo k ≤ atM l k ∧ atM l k ≤ hi k
  slope : ∀ k, k < N → -sl ≤ atM l k - atM l ((k + 1) % N) ∧ atM l k - atM l ((k + 1) % N) ≤ sl
  chg : chgN l N ≤ ch
theorem Fit_iff {lo hi : Nat → Int} {sl ch : Int} {d : Nat} {l : List Int} : Fit lo hi sl ch d l ↔ FitN lo hi sl ch (d + 1) l := by
  constructor
  · rintro ⟨n, t, rfl, hn, h1, h2, h3⟩
    subst h1
    rw [pv_steps] at h2
    rw [pc_lin] at h3
    have hlast : chgN (n :: t) (t.length + 1) = linM (n :: t) t.length + cstM (atM (n :: t) t.length) n := by
      simp only [chgN]
      rw [chgN_lin _ _ (by simp), List.length_cons, Nat.mod_self, atM_zero]
    refine ⟨by simp, fun k hk => ?_, fun k hk => ?_, by rw [hlast]; exact h3⟩
    · cases k with
      | zero => exact hn
      | succ k =>
        have := (h2.1 k (by omega)).1
        rw [atM_cons, show k + 1 = 0 + 1 + k by omega]
        exact this
    · by_cases hl : k = t.length
      · subst hl
        rw [Nat.mod_self, atM_zero]
        exact h2.2
      · rw [Nat.mod_eq_of_lt (by omega), atM_cons]
        exact (h2.1 k (by omega)).2
  · rintro ⟨h1, h2, h3, h4⟩
    cases l with
    | nil => simp at h1
    | cons n t =>
      have ht : t.length = d := by simpa using h1
      subst ht
      refine ⟨n, t, rfl, h2 0 (by omega), rfl, ?_, ?_⟩
      · rw [pv_steps]
        refine ⟨fun k hk => ⟨?_, ?_⟩, ?_⟩
        · have := h2 (k + 1) (by omega)
          rw [atM_cons, show k + 1 = 0 + 1 + k by omega] at this
          exact this
        · have := h3 k (by omega)
          rw [Nat.mod_eq_of_lt (by omega), atM_cons] at this
          exact this
        · have := h3 t.length (by omega)
          rw [Nat.mod_self, atM_zero] at this
          exact this
      · rw [pc_lin]
        simp only [chgN] at h4
        rw [chgN_lin _ _ (by simp), List.length_cons, Nat.mod_self, atM_zero] at h4
        exact h4
end Go.Proofs.YtbjimmemcmjpcabGreatDoor.Print
end
section
set_option linter.unusedVariables false
set_option linter.unusedSimpArgs false
namespace Go.Proofs.YtbjimmemcmjpcabGreatDoor.Print
def bsM (P : Int → Bool) : Nat → Int → Int → Int
  | 0, a, _ => a
  | f + 1, a, z => if a < z then (if P ((a + z) / 2) then bsM P f a ((a + z) / 2) else bsM P f ((a + z) / 2 + 1) z) else a
def IsLeast (P : Int → Prop) (e : Int) : Prop := P e ∧ ∀ x, x < e → ¬ P x
theorem IsLeast.unique {P : Int → Prop} {a b : Int} (h : IsLeast P a) (h' : IsLeast P b) : a = b := by
  rcases Int.lt_trichotomy a b with h1 | h1 | h1
  · exact absurd h.1 (h'.2 a h1)
  · exact h1
  · exact absurd h'.1 (h.2 b h1)
theorem bsM_least {P : Int → Bool} (hm : ∀ x y, x ≤ y → P x = true → P y = true) : ∀ (f : Nat) (a z : Int), a ≤ z → z - a ≤ f → P z = true → (∀ x, x < a → P x = false) → IsLeast (fun e => P e = true) (bsM P f a z) ∧ a ≤ bsM P f a z ∧ bsM P f a z ≤ z
  | 0, a, z, h1, h2, h3, h4 => by
    obtain rfl : a = z := by omega
    exact ⟨⟨h3, fun x hx h => by have h : P x = true := h; rw [h4 x hx] at h; cases h⟩, Int.le_refl _, Int.le_refl _⟩
  | f + 1, a, z, h1, h2, h3, h4 => by
    unfold bsM
    by_cases hlt : a < z
    · rw [if_pos hlt]
      cases hp : P ((a + z) / 2) with
      | true =>
        rw [if_pos rfl]
        have := bsM_least hm f a ((a + z) / 2) (by omega) (by omega) hp h4
        exact ⟨this.1, this.2.1, by omega⟩
      | false =>
        rw [if_neg (by simp)]
        have := bsM_least hm f ((a + z) / 2 + 1) z (by omega) (by omega) h3 (fun x hx => by
          cases hpx : P x with
          | false => rfl
          | true => rw [hm x ((a + z) / 2) (by omega) hpx] at hp; cases hp)
        exact ⟨this.1, by omega, this.2.2⟩
    · rw [if_neg hlt]
      obtain rfl : a = z := by omega
      exact ⟨⟨h3, fun x hx h => by have h : P x = true := h; rw [h4 x hx] at h; cases h⟩, Int.le_refl _, Int.le_refl _⟩
abbrev loE (lw : Int) (want : List Int) (e : Int) (k : Nat) : Int := max lw (atM want k - e)
abbrev hiE (hg : Int) (want : List Int) (e : Int) (k : Nat) : Int := min hg (atM want k + e)
theorem FitN.mono {lo hi lo' hi' : Nat → Int} {sl ch sl' ch' : Int} {N : Nat} {l : List Int} (h : FitN lo hi sl ch N l) (hl : ∀ k, k < N → lo' k ≤ lo k) (hh : ∀ k, k < N → hi k ≤ hi' k) (hs : sl ≤ sl') (hc : ch ≤ ch') : FitN lo' hi' sl' ch' N l :=
  ⟨h.len, fun k hk => ⟨Int.le_trans (hl k hk) (h.span k hk).1, Int.le_trans (h.span k hk).2 (hh k hk)⟩, fun k hk => by have := h.slope k hk; omega, Int.le_trans h.chg hc⟩
theorem FitE_iff {lw hg sl ch e : Int} {want l : List Int} {N : Nat} : FitN (loE lw want e) (hiE hg want e) sl ch N l ↔ FitN (fun _ => lw) (fun _ => hg) sl ch N l ∧ ∀ k, k < N → -e ≤ atM l k - atM want k ∧ atM l k - atM want k ≤ e := by
  constructor
  · intro h
    exact ⟨h.mono (fun k _ => by unfold loE; omega) (fun k _ => by unfold hiE; omega) (by omega) (by omega), fun k hk => by have := h.span k hk; unfold loE hiE at this; omega⟩
  · rintro ⟨h, h2⟩
    exact ⟨h.len, fun k hk => by have := h.span k hk; have := h2 k hk; unfold loE hiE; omega, h.slope, h.chg⟩
theorem atM_replicate (N : Nat) (x : Int) (k : Nat) (h : k < N) : atM (List.replicate N x) k = x := by simp [atM, List.getD_eq_getElem?_getD, h]
theorem chgN_const (N : Nat) (x : Int) : ∀ k, k ≤ N → chgN (List.replicate N x) k = 0
  | 0, _ => rfl
  | k + 1, h => by
    simp only [chgN]
    rw [chgN_const N x k (by omega), atM_replicate N x k (by omega), atM_replicate N x _ (by rw [List.length_replicate]; exact Nat.mod_lt _ (by omega))]
    simp [cstM]
theorem fit_always {lw hg sl ch : Int} {want : List Int} (h0 : 0 ≤ lw) (h1 : lw ≤ hg) (h2 : hg ≤ 30) (hs : 0 ≤ sl) (hc : 0 ≤ ch) (hw : ∀ k, k < want.length → 0 ≤ atM want k ∧ atM want k ≤ 30) :
    FitN (loE lw want 30) (hiE hg want 30) sl ch want.length (List.replicate want.length lw) := by
  refine ⟨by simp, fun k hk => ?_, fun k hk => ?_, by rw [chgN_const _ _ _ (Nat.le_refl _)]; exact hc⟩
  · rw [atM_replicate _ _ _ hk]
    have := hw k hk
    unfold loE hiE
    omega
  · rw [atM_replicate _ _ _ hk, atM_replicate _ _ _ (Nat.mod_lt _ (by omega))]
    omega
end Go.Proofs.YtbjimmemcmjpcabGreatDoor.Print
end

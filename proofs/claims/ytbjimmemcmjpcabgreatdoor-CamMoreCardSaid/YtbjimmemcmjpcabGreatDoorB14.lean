/- What the program's functions compute that the chapter's examples reach, each with the walk that shows it; the kit's words for such walks. Joined by wip/pack.py. -/
import Derived.Deep.CutRange
import Derived.Deep.RegionWith
import Derived.Deep.DeepMust
import Derived.StillTailTactics
import Derived.WalkLawsBesides
import Derived.Test.YtbjimmemcmjpcabGreatDoorB12
import Derived.Test.YtbjimmemcmjpcabGreatDoorB10
import Derived.Test.YtbjimmemcmjpcabGreatDoorB9
import Derived.Test.YtbjimmemcmjpcabGreatDoorB7
import Derived.Test.YtbjimmemcmjpcabGreatDoorB13
import Derived.Test.YtbjimmemcmjpcabGreatDoorB4
section
set_option linter.unusedVariables false
set_option linter.unusedSimpArgs false
set_option linter.unusedSectionVars false
namespace Go.Proofs.YtbjimmemcmjpcabGreatDoor.Print
open Go.RowKit Go.Proofs.YtbjimmemcmjpcabGreatDoorW.PrintWords Go.Proofs.YtbjimmemcmjpcabGreatDoorW.PrintLast Go.Proofs.YtbjimmemcmjpcabGreatDoorW.PrintMore
def nowK (S : List SP) (sl first : Int) : Nat → List Int
  | 0 => (List.replicate 31 1000).set first.toNat 0
  | i + 1 => frontL S sl i (nowK S sl first i)
theorem nowK_len (S : List SP) (sl first : Int) : ∀ i, (nowK S sl first i).length = 31
  | 0 => by simp [nowK]
  | i + 1 => frontK_len S sl i _ 31
def hitK (S : List SP) (sl ch first : Int) (i h : Nat) : Bool := decide (rd (nowK S sl first i) (h : Int) < 1000) && decide (rd (nowK S sl first i) (h : Int) + restF S sl ((i : Int), (h : Int), first) ≤ ch)
def outS (o : SP) (h : Int) : SP := if o.f1 < o.f0 then ⟨h, h⟩ else ⟨min o.f0 h, max o.f1 h⟩
def kH (S : List SP) (sl ch first : Int) (i : Nat) (out : List SP) : Nat → List SP
  | 0 => out
  | h + 1 => if hitK S sl ch first i h then (kH S sl ch first i out h).set i (outS (rd_T48 (kH S sl ch first i out h) (i : Int)) (h : Int)) else kH S sl ch first i out h
def kI (S : List SP) (sl ch first : Int) (out : List SP) : Nat → List SP
  | 0 => out
  | i + 1 => kH S sl ch first i (kI S sl ch first out i) 31
def kF (S : List SP) (sl ch : Int) : Nat → List SP
  | 0 => List.replicate S.length ⟨1, 0⟩
  | j + 1 => kI S sl ch (lo S 0 + (j : Int)) (kF S sl ch j) S.length
def knownL (S : List SP) (sl ch : Int) : List SP := kF S sl ch (hi S 0 + 1 - lo S 0).toNat
theorem kH_len (S : List SP) (sl ch first : Int) (i : Nat) (out : List SP) : ∀ h, (kH S sl ch first i out h).length = out.length
  | 0 => rfl
  | h + 1 => by
    unfold kH
    split
    · rw [List.length_set]; exact kH_len S sl ch first i out h
    · exact kH_len S sl ch first i out h
theorem kI_len (S : List SP) (sl ch first : Int) (out : List SP) : ∀ i, (kI S sl ch first out i).length = out.length
  | 0 => rfl
  | i + 1 => by unfold kI; rw [kH_len]; exact kI_len S sl ch first out i
theorem kF_len (S : List SP) (sl ch : Int) : ∀ j, (kF S sl ch j).length = S.length
  | 0 => by simp [kF]
  | j + 1 => by unfold kF; rw [kI_len]; exact kF_len S sl ch j
theorem rd_set (l : List Int) (k : Nat) (x : Int) (j : Nat) (hk : k < l.length) : rd (l.set k x) (j : Int) = if j = k then x else rd l (j : Int) := by
  unfold rd
  simp only [Int.toNat_natCast, List.getD_eq_getElem?_getD]
  by_cases e : j = k
  · subst e; simp [hk]
  · rw [if_neg e, List.getElem?_set_ne (Ne.symm e)]
theorem rd_set_ge (l : List Int) (k : Nat) (x : Int) (j : Nat) : rd (l.set k x) (j : Int) = x ∨ rd (l.set k x) (j : Int) = rd l (j : Int) := by
  by_cases hk : k < l.length
  · rw [rd_set l k x j hk]; split <;> simp
  · rw [List.set_eq_of_length_le (by omega)]; exact .inr rfl
theorem frontN_bd (many h : Int) (hm : 0 ≤ many) (out : List Int) (ho : ∀ k : Nat, 0 ≤ rd out (k : Int) ∧ rd out (k : Int) ≤ 2000) : ∀ pre : List Int, (∀ n ∈ pre, 0 ≤ n) → ∀ k : Nat, 0 ≤ rd (frontN many h out pre) (k : Int) ∧ rd (frontN many h out pre) (k : Int) ≤ 2000 := by
  intro pre
  induction pre generalizing out with
  | nil => intro _ k; exact ho k
  | cons n pre ih =>
    intro hn k
    refine ih (frontS many h out n) (fun j => ?_) (fun x hx => hn x (by simp [hx])) k
    unfold frontS
    obtain ⟨n, rfl⟩ := Int.eq_ofNat_of_zero_le (hn n (by simp))
    have hc := cst_bd h (n : Int)
    have h1 := ho n
    rcases rd_set_ge out (n : Int).toNat (min (rd out (n : Int)) (many + cst h (n : Int))) j with e | e
    · rw [e]; omega
    · rw [e]; exact ho j
theorem hts_nonneg {S : List SP} {sl : Int} {i : Nat} {h n : Int} (hlo : 0 ≤ lo S i) (hm : n ∈ hts S sl i h) : 0 ≤ n := by
  unfold hts upto at hm
  obtain ⟨j, hj, rfl⟩ := List.mem_map.1 hm
  omega
theorem rd_rep (n : Nat) (x : Int) (k : Nat) : rd (List.replicate n x) (k : Int) = x ∨ rd (List.replicate n x) (k : Int) = 0 := by
  unfold rd
  simp only [Int.toNat_natCast, List.getD_eq_getElem?_getD, List.getElem?_replicate]
  split <;> simp
theorem frontK_bd (S : List SP) (sl : Int) (i : Nat) (hlo : 0 ≤ lo S (i + 1)) (now : List Int) (hn : ∀ k : Nat, 0 ≤ rd now (k : Int) ∧ rd now (k : Int) ≤ 2000) : ∀ j k : Nat, 0 ≤ rd (frontK S sl i now j) (k : Int) ∧ rd (frontK S sl i now j) (k : Int) ≤ 2000
  | 0, k => by
    unfold frontK
    rcases rd_rep 31 1000 k with e | e <;> rw [e] <;> omega
  | j + 1, k => by
    unfold frontK
    split
    · exact frontK_bd S sl i hlo now hn j k
    · exact frontN_bd _ _ (hn j).1 _ (frontK_bd S sl i hlo now hn j) _ (fun n hm => hts_nonneg hlo hm) k
theorem nowK_bd (S : List SP) (sl first : Int) (hlo : ∀ i, i < S.length → 0 ≤ lo S i) : ∀ (i : Nat), i < S.length → ∀ k : Nat, 0 ≤ rd (nowK S sl first i) (k : Int) ∧ rd (nowK S sl first i) (k : Int) ≤ 2000
  | 0, _, k => by
    unfold nowK
    rcases rd_set_ge (List.replicate 31 1000) first.toNat 0 k with e | e
    · rw [e]; omega
    · rw [e]; rcases rd_rep 31 1000 k with e | e <;> rw [e] <;> omega
  | i + 1, h, k => frontK_bd S sl i (hlo _ h) _ (nowK_bd S sl first hlo i (by omega)) 31 k
structure KN (lw hg sl ch : Int) (n : Nat) (b : Nat) (gS : Nat) (S : List SP) (B2 B5 gO : Nat) (w : World) (out : List SP) (W : World) : Prop where
  c : W.heap[B2]? = some (.cells #[.int .i64 lw, .int .i64 hg, .int .i64 sl, .int .i64 ch] 35 (0, 0))
  s : W.heap[B5]? = some (searchO lw hg sl ch (some ⟨gS, 0, none⟩) n n (.map (some b)))
  m : ∃ L, MapOK (restF S sl) W b L
  p : SpanBlk W gS S
  o : SpanBlk W gO out
  w : Below w.heap.size w W
section
variable {lw hg sl ch : Int} {n b gS : Nat} {S : List SP} {B2 B5 gO : Nat} {w W W' : World} {out : List SP}
theorem KN.below (h : KN lw hg sl ch n b gS S B2 B5 gO w out W) (hb : Below W.heap.size W W') : KN lw hg sl ch n b gS S B2 B5 gO w out W' := by
  obtain ⟨L, hm⟩ := h.m
  exact ⟨blk_below h.c hb, blk_below h.s hb, ⟨L, hm.below hb⟩, h.p.below hb, h.o.below hb, below_then h.w h.w.size hb⟩
theorem MapOK.obj {V : Spot → Int} {W : World} {b : Nat} {L : List Spot} (h : MapOK V W b L) : ∃ o : Obj, W.heap[b]? = some o ∧ o.isCells = false := by
  obtain ⟨D, ⟨es, cl, hh, _⟩, _⟩ := h
  exact ⟨_, hh, rfl⟩
theorem cells_ne {W : World} {b g : Nat} {cs : Array Value} {t : TypeId} {m : Nat × Nat} {V : Spot → Int} {L : List Spot} (h : MapOK V W b L) (hg : W.heap[g]? = some (.cells cs t m)) : g ≠ b := fun e => by
  obtain ⟨o, ho, hc⟩ := h.obj
  rw [e, ho] at hg
  injection hg with hg
  subst hg
  cases hc
theorem types_ne {W : World} {g g' : Nat} {cs cs' : Array Value} {t t' : TypeId} {m m' : Nat × Nat} (h : W.heap[g]? = some (.cells cs t m)) (h' : W.heap[g']? = some (.cells cs' t' m')) (ht : t ≠ t') : g ≠ g' := fun e => by
  rw [e, h'] at h
  injection h with h
  injection h with _ h2 _
  exact ht h2.symm
theorem KN.call (h : KN lw hg sl ch n b gS S B2 B5 gO w out W) (hbw : w.heap.size ≤ b) (hg' : W.grownBy W' (some b)) (hm' : ∃ L, MapOK (restF S sl) W' b L) : KN lw hg sl ch n b gS S B2 B5 gO w out W' := by
  obtain ⟨L, hm⟩ := h.m
  have hne : ∀ {g : Nat} {cs : Array Value} {t : TypeId} {m : Nat × Nat}, W.heap[g]? = some (.cells cs t m) → W'.heap[g]? = some (.cells cs t m) := fun hg => blk_grown hg hg' (fun e => cells_ne hm hg (by simpa using e))
  exact ⟨hne h.c, hne h.s, hm', hne h.p, hne h.o, pw_below_grown h.w _ h.w.size hg' (fun k e => by cases e; exact hbw)⟩
theorem KN.put (h : KN lw hg sl ch n b gS S B2 B5 gO w out W) (hgo : w.heap.size ≤ gO) (h2 : gS ≠ gO) (i : Nat) (hi : i < out.length) (x y : Int) : KN lw hg sl ch n b gS S B2 B5 gO w (out.set i ⟨x, y⟩) ((W.setCell ⟨gO, i * 2, none⟩ (.int .i64 x)).setCell ⟨gO, i * 2 + 1, none⟩ (.int .i64 y)) := by
  obtain ⟨L, hm⟩ := h.m
  have keep : ∀ g, g ≠ gO → ((W.setCell ⟨gO, i * 2, none⟩ (.int .i64 x)).setCell ⟨gO, i * 2 + 1, none⟩ (.int .i64 y)).heap[g]? = W.heap[g]? := fun g hg => (Below.heap_setCell _ ⟨gO, i * 2 + 1, none⟩ _ _ hg).trans (Below.heap_setCell _ ⟨gO, i * 2, none⟩ _ _ hg)
  have hcn : B2 ≠ gO := types_ne h.c h.o (by decide)
  have hsn : B5 ≠ gO := types_ne h.s h.o (by decide)
  exact ⟨(keep _ hcn).trans h.c, (keep _ hsn).trans h.s, ⟨L, hm.same (keep _ (cells_ne hm h.o).symm)⟩, (keep _ h2).trans h.p, h.o.put i hi x y, (h.w.setCell (p := ⟨gO, i * 2, none⟩) hgo _).setCell (p := ⟨gO, i * 2 + 1, none⟩) hgo _⟩
theorem KN.int (h : KN lw hg sl ch n b gS S B2 B5 gO w out W) {gN : Nat} {l : List Int} (hn : IntBlk W gN l) (hgn : w.heap.size ≤ gN) (k : Nat) (x : Int) : KN lw hg sl ch n b gS S B2 B5 gO w out (W.setCell ⟨gN, k, none⟩ (.int .i64 x)) := by
  obtain ⟨L, hm⟩ := h.m
  have keep : ∀ g, g ≠ gN → (W.setCell ⟨gN, k, none⟩ (.int .i64 x)).heap[g]? = W.heap[g]? := fun g hg => Below.heap_setCell _ ⟨gN, k, none⟩ _ _ hg
  exact ⟨(keep _ (types_ne h.c hn (by decide))).trans h.c, (keep _ (types_ne h.s hn (by decide))).trans h.s, ⟨L, hm.same (keep _ (cells_ne hm hn).symm)⟩, (keep _ (types_ne h.p hn (by decide))).trans h.p, (keep _ (types_ne h.o hn (by decide))).trans h.o, h.w.setCell (p := ⟨gN, k, none⟩) hgn _⟩
theorem KN.spans (h : KN lw hg sl ch n b gS S B2 B5 gO w out W) : SpansAt W ⟨gS, 0, none⟩ S := fun i hi => by
  have := h.p.cells i hi
  rw [add_plain]
  exact this
end
end Go.Proofs.YtbjimmemcmjpcabGreatDoor.Print
end
section
set_option linter.unusedVariables false
set_option linter.unusedSimpArgs false
namespace Go.Proofs.YtbjimmemcmjpcabGreatDoor.Print
open Go.RowKit Go.Proofs.YtbjimmemcmjpcabGreatDoorW.PrintWords Go.Proofs.YtbjimmemcmjpcabGreatDoorW.PrintLast Go.Proofs.YtbjimmemcmjpcabGreatDoorW.PrintMore
set_option maxRecDepth 100000 in
set_option maxHeartbeats 4000000 in
theorem kn_calls (lw hg sl ch : Int) (S : List SP) (gS : Nat) (hsl : 0 ≤ sl ∧ sl ≤ 30) (hch : 0 ≤ ch ∧ ch ≤ 100) (hlen : 1 ≤ S.length ∧ S.length ≤ 24) (hlo : ∀ i, i < S.length → 0 ≤ lo S i ∧ lo S i ≤ 100) (hhi : ∀ i, i < S.length → -100 ≤ hi S i ∧ hi S i ≤ 30) (w : World) (hS : SpanBlk w gS S) :
    Calls Tryz.prog 63 #[.agg #[.int .i64 lw, .int .i64 hg, .int .i64 sl, .int .i64 ch], .slice (some ⟨gS, 0, none⟩) S.length S.length] w fun e w' => Below w.heap.size w w' ∧
      (((rd_T48 (knownL S sl ch) 0).f0 ≤ (rd_T48 (knownL S sl ch) 0).f1 ∧ ∃ (g : Nat), e = .returned (.slice (some ⟨g, 0, none⟩) S.length S.length) ∧ w.heap.size ≤ g ∧ SpanBlk w' g (knownL S sl ch)) ∨
       ((rd_T48 (knownL S sl ch) 0).f1 < (rd_T48 (knownL S sl ch) 0).f0 ∧ ∃ s : Int, e = .panicked [{ v := .iface 108 (.agg #[.int .i64 s]), recovered := false }])) := by
  have hu23 := Tryz.underlying35
  have hu79 := Tryz.underlying78
  have hu50 := Tryz.underlying48
  have hu112 := Tryz.underlying104
  have HS := Aside0.mk hS
  have hgS : gS < w.heap.size := blk_lt hS
  obtain ⟨n, hn⟩ : ∃ n, S.length = n := ⟨_, rfl⟩
  have HN := Aside0.mk hn
  rw [hn] at hlen
  have b0 := below_alloc (Below.refl w.heap.size w) (.cells #[.int .i64 lw, .int .i64 hg, .int .i64 sl, .int .i64 ch] 35)
  have n0 := blk_new w (.cells #[.int .i64 lw, .int .i64 hg, .int .i64 sl, .int .i64 ch] 35)
  have N0 := Aside0.mk (And.intro b0 n0)
  rw [hn]
  clear hS hn b0 n0
  go_enter Tryz.func63, Tryz.ntmps63
  go_wp2_with fail
  refine (searched_calls lw hg sl ch (some ⟨gS, 0, none⟩) n n _).mono ?_
  rintro e W1 ⟨b, rfl, hb1, hb2, hm⟩
  have M1 := Aside0.mk hm
  have B1 := Aside0.mk (below_step N0.out.1 hb2)
  have C1 := Aside0.mk (blk_below N0.out.2 hb2)
  have hbb : w.heap.size < b := by have := N0.out.1.size; simp at hb1; omega
  clear hb1 hb2 hm
  go_wp2_with fail
  have o1 := below_alloc (below_alloc (Below.refl _ W1) (searchO lw hg sl ch (some ⟨gS, 0, none⟩) n n (.map (some b)))) (.cells #[.int .i64 1, .int .i64 0] 48)
  have o2 := blk_new (W1.alloc (searchO lw hg sl ch (some ⟨gS, 0, none⟩) n n (.map (some b)))) (.cells #[.int .i64 1, .int .i64 0] 48)
  rw [World.size_alloc] at o2
  have o3 : ((W1.alloc (searchO lw hg sl ch (some ⟨gS, 0, none⟩) n n (.map (some b)))).alloc (.cells #[.int .i64 1, .int .i64 0] 48)).heap[W1.heap.size]? = some (searchO lw hg sl ch (some ⟨gS, 0, none⟩) n n (.map (some b))) := blk_alloc (blk_new W1 _) _
  refine (repeatS [.int .i64 1, .int .i64 0] rfl (by intro v hv; simp at hv; rcases hv with rfl | rfl <;> rfl) ⟨W1.heap.size + 1, 0, none⟩ 1 n ⟨hlen.1, by omega⟩ _ (fun j v hj => by rw [add_plain]; exact (blk_cell o2 j).trans (by simpa using hj))).mono ?_
  rintro e W2 ⟨gO, rfl, hg1, hb1, hb2⟩
  rw [spanC_pat] at hb1
  have hW1 := blk_lt C1.out
  have hb3 := below_step o1 hb2
  have hgO : w.heap.size < gO := by have := o1.size; simp at hg1; omega
  have K0 : KN lw hg sl ch n b gS S w.heap.size W1.heap.size gO w (kF S sl ch 0) W2 :=
    ⟨blk_below C1.out hb3, blk_below o3 hb2, ⟨[], (M1.out _).below hb3⟩, (HS.out.below B1.out).below hb3, by unfold kF; rw [HN.out]; exact hb1, below_then B1.out B1.out.size hb3⟩
  obtain ⟨B5, hB5⟩ : ∃ B, W1.heap.size = B := ⟨_, rfl⟩
  rw [hB5] at K0 hW1 ⊢
  have HK0 := Aside0.mk K0
  clear o1 o2 o3 hb1 hb2 hb3 hg1 K0 M1 B1 C1 HS N0 hB5
  have s0 := (HK0.out.p.cells 0 (by rw [HN.out]; omega)).1
  obtain ⟨a0, ha0⟩ : ∃ z, lo S 0 = z := ⟨_, rfl⟩
  obtain ⟨z0, hz0⟩ : ∃ z, hi S 0 = z := ⟨_, rfl⟩
  have hb0 := hlo 0 (by rw [HN.out]; omega)
  have hb1 := hhi 0 (by rw [HN.out]; omega)
  rw [ha0] at hb0
  rw [hz0] at hb1
  have s0' : W2.cell? ⟨gS, 0, none⟩ = some (.int .i64 a0) := by rw [← ha0]; exact s0
  have HA := Aside0.mk (And.intro ha0 hz0)
  have hRES : knownL S sl ch = kF S sl ch (z0 + 1 - a0).toNat := by unfold knownL; rw [ha0, hz0]
  have HRES := Aside0.mk hRES
  clear s0 ha0 hz0 hRES
  obtain ⟨f0, hf0⟩ := Int.eq_ofNat_of_zero_le hb0.1
  go_wp2
  go_loopg [7] ((z0 + 1 - a0).toNat) (fun q v wr => ∃ (j f : Nat), v = .int .i64 (f : Int) ∧ Aside0 ((f : Int) = a0 + (j : Int) ∧ j ≤ (z0 + 1 - a0).toNat ∧ q = (z0 + 1 - a0).toNat - j) ∧ Aside0 (KN lw hg sl ch n b gS S w.heap.size B5 gO w (kF S sl ch j) wr))
  case atStart => exact ⟨0, f0, rfl, ⟨by omega⟩, HK0⟩
  case round =>
    clear HK0 s0' hf0
    obtain ⟨j, f, rfl, HJ, HK⟩ := hrel
    have s1 : wr.cell? ⟨gS, 1, none⟩ = some (.int .i64 z0) := by rw [← HA.out.2]; exact (HK.out.p.cells 0 (by rw [HN.out]; omega)).2
    by_cases hle : (f : Int) ≤ z0
    · have hd : decide ((f : Int) ≤ z0) = true := decide_eq_true hle
      have hf31 : f < 31 := by omega
      go_wp2_with fail
      have o2 := blk_new wr (.cells #[.int .i64 1000] 3)
      have o1 := below_alloc (Below.refl _ wr) (.cells #[.int .i64 1000] 3)
      refine (repeatI [.int .i64 1000] rfl (by intro v hv; simp at hv; subst hv; rfl) ⟨wr.heap.size, 0, none⟩ 1 31 ⟨by omega, by omega⟩ _ (fun j v hj => by rw [add_plain]; exact (blk_cell o2 j).trans (by simpa using hj))).mono ?_
      rintro e W3 ⟨gN, rfl, hg1, hb1, hb2⟩
      rw [intC_pat] at hb1
      have hb3 := below_step o1 hb2
      have hgN : w.heap.size ≤ gN := by have := HK.out.w.size; simp at hg1; omega
      have i0 : IntBlk W3 gN (List.replicate 31 1000) := hb1
      have c0 := i0.cell f (by simp; omega)
      have f0' : W3.frozen? ⟨gN, f, none⟩ = false := blk_frozen i0 _
      have HI := Aside0.mk (show IntBlk (W3.setCell ⟨gN, f, none⟩ (.int .i64 0)) gN (nowK S sl (f : Int) 0) from i0.put f 0)
      have HK3 := Aside0.mk ((HK.out.below hb3).int i0 hgN f 0)
      have hfi : (f : Int) < 31 := by omega
      clear o1 o2 hb1 hb2 hb3 hg1 i0 s1
      go_wp2
      generalize W3.setCell ⟨gN, f, none⟩ (.int .i64 0) = W4 at HI HK3 ⊢
      clear c0 f0'
      go_loopg [8, 39] n (fun q v8 v wr => ∃ (i gN : Nat), v = .int .i64 (i : Int) ∧ v8 = .slice (some ⟨gN, 0, none⟩) 31 31 ∧ Aside0 (i ≤ n ∧ q = n - i) ∧ Aside0 (KN lw hg sl ch n b gS S w.heap.size B5 gO w (kI S sl ch (f : Int) (kF S sl ch j) i) wr) ∧ Aside0 (w.heap.size ≤ gN ∧ (i < n → IntBlk wr gN (nowK S sl (f : Int) i))))
      case atStart => exact ⟨0, gN, rfl, rfl, ⟨by omega, by omega⟩, HK3, ⟨hgN, fun _ => HI.out⟩⟩
      case round =>
        clear HK HI HK3 hgN
        obtain ⟨i, gN, rfl, rfl, HI, HK, HN2⟩ := hrel
        by_cases hi : i < n
        · have hd2 : decide ((i : Int) < (n : Int)) = true := decide_eq_true (by omega)
          have hgN := HN2.out.1
          have HNI := Aside0.mk (HN2.out.2 hi)
          clear HN2
          go_wp2
          go_loopg [44] 31 (fun q v wr => ∃ (h : Nat), v = .int .i64 (h : Int) ∧ Aside0 (h ≤ 31 ∧ q = 31 - h) ∧ Aside0 (KN lw hg sl ch n b gS S w.heap.size B5 gO w (kH S sl ch (f : Int) i (kI S sl ch (f : Int) (kF S sl ch j) i) h) wr) ∧ Aside0 (IntBlk wr gN (nowK S sl (f : Int) i)))
          case atStart => exact ⟨0, rfl, ⟨by omega, by omega⟩, HK, HNI⟩
          case round =>
            clear HK HNI
            obtain ⟨h, rfl, HH, HK, HNI⟩ := hrel
            by_cases hh : h < 31
            · have hd3 : decide ((h : Int) < 31) = true := decide_eq_true (by omega)
              obtain ⟨many, hmany⟩ : ∃ m, rd (nowK S sl (f : Int) i) (h : Int) = m := ⟨_, rfl⟩
              have hmb := nowK_bd S sl (f : Int) (fun k hk => (hlo k hk).1) i (by rw [HN.out]; exact hi) h
              have c0 := HNI.out.cell h (by rw [nowK_len]; exact hh)
              rw [hmany] at hmb c0
              have HM := Aside0.mk hmany
              clear hmany
              by_cases hge : 1000 ≤ many
              · have hdg : decide (1000 ≤ many) = true := decide_eq_true hge
                have hnh : hitK S sl ch (f : Int) i h = false := by unfold hitK; rw [HM.out, decide_eq_false (by omega)]; rfl
                have HNH := Aside0.mk hnh
                clear hnh
                go_wp2
                go_region
                go_wp2
                go_roundg (31 - (h + 1))
                case measure => have := HH.out; omega
                case rel => exact ⟨h + 1, by go_num, ⟨by omega, rfl⟩, ⟨by unfold kH; rw [HNH.out, if_neg (by simp)]; exact HK.out.below (below_drew (Below.refl _ _))⟩, ⟨HNI.out.below (below_drew (Below.refl _ _))⟩⟩
              · have hdg : decide (1000 ≤ many) = false := decide_eq_false hge
                obtain ⟨r, hr⟩ : ∃ r, restF S sl ((i : Int), (h : Int), (f : Int)) = r := ⟨_, rfl⟩
                have hrb : 0 ≤ r ∧ r ≤ 1000 := by rw [← hr]; exact restV_bd S sl _ _
                have HREST := Aside0.mk (show ∀ (W : World) (L : List Spot), MapOK (restF S sl) W b L → SpansAt W ⟨gS, 0, none⟩ S → Calls Tryz.prog 82 #[searchV lw hg sl ch (some ⟨gS, 0, none⟩) n n (.map (some b)), spotV (i : Int) (h : Int) (f : Int)] W fun e w' => e = .returned (.int .i64 r) ∧ (∃ L', MapOK (restF S sl) w' b L') ∧ W.grownBy w' (some b) from fun W L hm hp => by
                  have h1 := rest_at lw hg sl ch ⟨gS, 0, none⟩ S.length b S hsl (by rw [HN.out]; exact hlen.2) hlo hhi (S.length - 1 - i) ((i : Int), (h : Int), (f : Int)) W L ⟨⟨by simp only; omega, by simp only; omega⟩, ⟨by simp only; omega, by simp only; omega⟩, ⟨by simp only; omega, by simp only; omega⟩⟩ (by simp only; rw [HN.out]; omega) hm hp
                  rw [show restV S sl (S.length - 1 - i) ((i : Int), (h : Int), (f : Int)) = r from hr, HN.out] at h1
                  exact h1.mono fun e w' ⟨he, ⟨L', hm', _⟩, hg'⟩ => ⟨he, ⟨L', hm'⟩, hg'⟩)
                have HR := Aside0.mk hr
                have e4 : IntKind.i64.wrap (many + r) = many + r := IntWalk.i64_in _ ⟨by omega, by omega⟩
                have hbw : w.heap.size ≤ b := by omega
                go_upto_region 14 with (fail)
                clear c0 hr
                have HKd := Aside0.mk (HK.out.below (below_drew (Below.refl _ _)))
                have HNd := Aside0.mk (HNI.out.below (below_drew (Below.refl _ _)))
                obtain ⟨L, hL⟩ := HKd.out.m
                have HL := Aside0.mk hL
                clear hL
                have d3 : wr.cell? ⟨w.heap.size, 3, none⟩ = some (.int .i64 ch) := (blk_cell HK.out.c 3).trans rfl
                have s0 := (blk_cell HK.out.s 0).trans rfl
                have s1 := (blk_cell HK.out.s 1).trans rfl
                have s2 := (blk_cell HK.out.s 2).trans rfl
                have s3 := (blk_cell HK.out.s 3).trans rfl
                have s4 := (blk_cell HK.out.s 4).trans rfl
                have s5 := (blk_cell HK.out.s 5).trans rfl
                go_cut [63] from 49 to 63 (fun v wx => v = .bool (decide (ch < many + r)) ∧ KN lw hg sl ch n b gS S w.heap.size B5 gO w (kH S sl ch (f : Int) i (kI S sl ch (f : Int) (kF S sl ch j) i) h) wx ∧ IntBlk wx gN (nowK S sl (f : Int) i))
                case first =>
                  go_region_held3 (fun w' => w'.cell? ⟨B5, 0, none⟩ = some (.int .i64 lw) ∧ w'.cell? ⟨B5, 1, none⟩ = some (.int .i64 hg) ∧ w'.cell? ⟨B5, 2, none⟩ = some (.int .i64 sl) ∧ w'.cell? ⟨B5, 3, none⟩ = some (.int .i64 ch) ∧ w'.cell? ⟨B5, 4, none⟩ = some (.slice (some ⟨gS, 0, none⟩) n n) ∧ w'.cell? ⟨B5, 5, none⟩ = some (.map (some b)) ∧ w'.cell? ⟨w.heap.size, 3, none⟩ = some (.int .i64 ch)) (first | exact ⟨s0, s1, s2, s3, s4, s5, d3⟩ | exact ⟨(blk_cell HK5.out.s 0).trans rfl, (blk_cell HK5.out.s 1).trans rfl, (blk_cell HK5.out.s 2).trans rfl, (blk_cell HK5.out.s 3).trans rfl, (blk_cell HK5.out.s 4).trans rfl, (blk_cell HK5.out.s 5).trans rfl, (blk_cell HK5.out.c 3).trans rfl⟩ | go_keep) ((go_at_call 82; refine (HREST.out _ L HL.out HKd.out.spans).mono ?_; rintro e W5 ⟨rfl, hm5, hg5⟩; have HK5 := Aside0.mk (HKd.out.call hbw hg5 hm5); have HN5 := Aside0.mk (show IntBlk W5 gN (nowK S sl (f : Int) i) from blk_grown HNd.out hg5 (fun e => cells_ne HL.out HNd.out (by simpa using e))); clear hm5 hg5))
                  all_goals (
                    go_wp2
                    go_meet
                    case rel => exact ⟨rfl, HK5.out, HN5.out⟩)
                case rest =>
                  clear s0 s1 s2 s3 s4 s5 d3 e4 HL HKd HNd HREST HK HNI
                  obtain ⟨rfl, hk8, hn8⟩ := hcut
                  have HK8 := Aside0.mk hk8
                  have HN8 := Aside0.mk hn8
                  clear hk8 hn8
                  by_cases hgt : ch < many + r
                  · have hd4 : decide (ch < many + r) = true := decide_eq_true hgt
                    have hnh : hitK S sl ch (f : Int) i h = false := by unfold hitK; rw [HM.out, HR.out, decide_eq_false (show ¬ many + r ≤ ch by omega), Bool.and_false]
                    have HNH := Aside0.mk hnh
                    clear hnh
                    go_wp2
                    go_roundg (31 - (h + 1))
                    case measure => have := HH.out; omega
                    case rel => exact ⟨h + 1, by go_num, ⟨by omega, rfl⟩, ⟨by unfold kH; rw [HNH.out, if_neg (by simp)]; exact HK8.out⟩, HN8⟩
                  · have hd4 : decide (ch < many + r) = false := decide_eq_false hgt
                    have hyh : hitK S sl ch (f : Int) i h = true := by unfold hitK; rw [HM.out, HR.out, decide_eq_true (show many < 1000 by omega), decide_eq_true (show many + r ≤ ch by omega)]; rfl
                    have HYH := Aside0.mk hyh
                    obtain ⟨out, hout⟩ : ∃ o, kH S sl ch (f : Int) i (kI S sl ch (f : Int) (kF S sl ch j) i) h = o := ⟨_, rfl⟩
                    have hol : out.length = n := by rw [← hout, kH_len, kI_len, kF_len, HN.out]
                    have HKO := Aside0.mk (hout ▸ HK8.out)
                    have HOUT := Aside0.mk hout
                    obtain ⟨x, hx⟩ : ∃ z, (rd_T48 out (i : Int)).f0 = z := ⟨_, rfl⟩
                    obtain ⟨y, hy⟩ : ∃ z, (rd_T48 out (i : Int)).f1 = z := ⟨_, rfl⟩
                    have x0 : wc.cell? ⟨gO, i * 2, none⟩ = some (.int .i64 x) := by rw [← hx]; exact (HKO.out.o.cells i (by omega)).1
                    have y0 : wc.cell? ⟨gO, i * 2 + 1, none⟩ = some (.int .i64 y) := by rw [← hy]; exact (HKO.out.o.cells i (by omega)).2
                    have HXY := Aside0.mk (And.intro hx hy)
                    have HOL := Aside0.mk hol
                    have hin : (i : Int) < (n : Int) := by omega
                    have hgSO : gS ≠ gO := by omega
                    clear hyh hout HK8 hx hy hol
                    by_cases hyx : y < x
                    · have hd5 : decide (y < x) = true := decide_eq_true hyx
                      have fy : ∀ v : Value, (wc.setCell ⟨gO, i * 2, none⟩ v).drew.frozen? ⟨gO, i * 2 + 1, none⟩ = false := fun v => blk_frozen (blk_put HKO.out.o (i * 2) v rfl) _
                      have f0' : wc.drew.frozen? ⟨gO, i * 2, none⟩ = false := blk_frozen HKO.out.o _
                      have f1' : wc.drew.frozen? ⟨gO, i * 2 + 1, none⟩ = false := blk_frozen HKO.out.o _
                      have HKW := Aside0.mk ((HKO.out.put (by omega) hgSO i (by rw [HOL.out]; exact hi) (h : Int) (h : Int)).below (below_drew (Below.refl _ _)))
                      have HNW := Aside0.mk (show IntBlk (((wc.setCell ⟨gO, i * 2, none⟩ (.int .i64 (h : Int))).setCell ⟨gO, i * 2 + 1, none⟩ (.int .i64 (h : Int))).drew) gN (nowK S sl (f : Int) i) from (((Below.heap_setCell _ ⟨gO, i * 2 + 1, none⟩ _ _ (types_ne HN8.out HKO.out.o (by decide))).trans (Below.heap_setCell _ ⟨gO, i * 2, none⟩ _ _ (types_ne HN8.out HKO.out.o (by decide)))).trans HN8.out))
                      have HXW := Aside0.mk (show (rd_T48 (out.set i ⟨(h : Int), (h : Int)⟩) (i : Int)).f0 = (h : Int) ∧ (rd_T48 (out.set i ⟨(h : Int), (h : Int)⟩) (i : Int)).f1 = (h : Int) by rw [rd_set_same out i _ (by rw [HOL.out]; exact hi)]; exact ⟨rfl, rfl⟩)
                      go_wp2
                      go_region
                      go_wp2
                      generalize (((wc.setCell ⟨gO, i * 2, none⟩ (.int .i64 (h : Int))).setCell ⟨gO, i * 2 + 1, none⟩ (.int .i64 (h : Int))).drew) = W at HKW HNW ⊢
                      clear x0 y0 fy f0' f1' HKO HN8
                      have c0 : W.cell? ⟨gO, i * 2, none⟩ = some (.int .i64 (h : Int)) := by have := (HKW.out.o.cells i (by rw [List.length_set, HOL.out]; exact hi)).1; rwa [HXW.out.1] at this
                      have c1 : W.cell? ⟨gO, i * 2 + 1, none⟩ = some (.int .i64 (h : Int)) := by have := (HKW.out.o.cells i (by rw [List.length_set, HOL.out]; exact hi)).2; rwa [HXW.out.2] at this
                      have m1 : (if (h : Int) < (h : Int) then (h : Int) else (h : Int)) = min (h : Int) (h : Int) := by split <;> omega
                      have m2 : (if (h : Int) < (h : Int) then (h : Int) else (h : Int)) = max (h : Int) (h : Int) := by split <;> omega
                      have fz0 : W.drew.frozen? ⟨gO, i * 2, none⟩ = false := blk_frozen HKW.out.o _
                      have fz1 : W.drew.frozen? ⟨gO, i * 2 + 1, none⟩ = false := blk_frozen HKW.out.o _
                      have fz2 : ∀ v : Value, (W.setCell ⟨gO, i * 2, none⟩ v).drew.frozen? ⟨gO, i * 2 + 1, none⟩ = false := fun v => blk_frozen (blk_put HKW.out.o (i * 2) v rfl) _
                      have HK9 := Aside0.mk ((HKW.out.put (by omega) hgSO i (by rw [List.length_set, HOL.out]; exact hi) (min (h : Int) (h : Int)) (max (h : Int) (h : Int))).below (below_drew (Below.refl _ _)))
                      have HN9 := Aside0.mk (show IntBlk (((W.setCell ⟨gO, i * 2, none⟩ (.int .i64 (min (h : Int) (h : Int)))).setCell ⟨gO, i * 2 + 1, none⟩ (.int .i64 (max (h : Int) (h : Int)))).drew) gN (nowK S sl (f : Int) i) from (((Below.heap_setCell _ ⟨gO, i * 2 + 1, none⟩ _ _ (types_ne HNW.out HKW.out.o (by decide))).trans (Below.heap_setCell _ ⟨gO, i * 2, none⟩ _ _ (types_ne HNW.out HKW.out.o (by decide)))).trans HNW.out))
                      go_still_tail 18, (by kernel_rfl)
                      (try rw [m1])
                      (try rw [m2])
                      go_wp2
                      go_roundg (31 - (h + 1))
                      case measure => have := HH.out; omega
                      case rel => exact ⟨h + 1, by go_num, ⟨by omega, rfl⟩, ⟨by unfold kH; rw [HYH.out, if_pos rfl, HOUT.out]; have := HK9.out; rw [List.set_set, Int.min_self, Int.max_self] at this; rw [show outS (rd_T48 out (i : Int)) (h : Int) = ⟨(h : Int), (h : Int)⟩ by unfold outS; rw [HXY.out.1, HXY.out.2, if_pos hyx]]; exact this⟩, ⟨by have := HN9.out; rw [Int.min_self, Int.max_self] at this; exact this⟩⟩
                    · have hd5 : decide (y < x) = false := decide_eq_false hyx
                      have HKW := Aside0.mk (HKO.out.below (below_drew (Below.refl _ _)))
                      have HNW := Aside0.mk (HN8.out.below (below_drew (Below.refl _ _)))
                      have HXW := HXY
                      go_wp2
                      go_region
                      go_wp2
                      generalize wc.drew = W at HKW HNW ⊢
                      clear x0 y0 HKO HN8
                      have c0 : W.cell? ⟨gO, i * 2, none⟩ = some (.int .i64 x) := by have := (HKW.out.o.cells i (by rw [HOL.out]; exact hi)).1; rwa [HXW.out.1] at this
                      have c1 : W.cell? ⟨gO, i * 2 + 1, none⟩ = some (.int .i64 y) := by have := (HKW.out.o.cells i (by rw [HOL.out]; exact hi)).2; rwa [HXW.out.2] at this
                      have m1 : (if (h : Int) < x then (h : Int) else x) = min x (h : Int) := by split <;> omega
                      have m2 : (if y < (h : Int) then (h : Int) else y) = max y (h : Int) := by split <;> omega
                      have fz0 : W.drew.frozen? ⟨gO, i * 2, none⟩ = false := blk_frozen HKW.out.o _
                      have fz1 : W.drew.frozen? ⟨gO, i * 2 + 1, none⟩ = false := blk_frozen HKW.out.o _
                      have fz2 : ∀ v : Value, (W.setCell ⟨gO, i * 2, none⟩ v).drew.frozen? ⟨gO, i * 2 + 1, none⟩ = false := fun v => blk_frozen (blk_put HKW.out.o (i * 2) v rfl) _
                      have HK9 := Aside0.mk ((HKW.out.put (by omega) hgSO i (by rw [HOL.out]; exact hi) (min x (h : Int)) (max y (h : Int))).below (below_drew (Below.refl _ _)))
                      have HN9 := Aside0.mk (show IntBlk (((W.setCell ⟨gO, i * 2, none⟩ (.int .i64 (min x (h : Int)))).setCell ⟨gO, i * 2 + 1, none⟩ (.int .i64 (max y (h : Int)))).drew) gN (nowK S sl (f : Int) i) from (((Below.heap_setCell _ ⟨gO, i * 2 + 1, none⟩ _ _ (types_ne HNW.out HKW.out.o (by decide))).trans (Below.heap_setCell _ ⟨gO, i * 2, none⟩ _ _ (types_ne HNW.out HKW.out.o (by decide)))).trans HNW.out))
                      go_still_tail 18, (by kernel_rfl)
                      (try rw [m1])
                      (try rw [m2])
                      go_wp2
                      go_roundg (31 - (h + 1))
                      case measure => have := HH.out; omega
                      case rel => exact ⟨h + 1, by go_num, ⟨by omega, rfl⟩, ⟨by unfold kH; rw [HYH.out, if_pos rfl, HOUT.out]; rw [show outS (rd_T48 out (i : Int)) (h : Int) = ⟨min x (h : Int), max y (h : Int)⟩ by unfold outS; rw [HXY.out.1, HXY.out.2, if_neg (by omega)]]; exact HK9.out⟩, HN9⟩
            · have hd3 : decide ((h : Int) < 31) = false := decide_eq_false (by omega)
              have hhe : h = 31 := by have := HH.out; omega
              have HK6 := Aside0.mk (show KN lw hg sl ch n b gS S w.heap.size B5 gO w (kI S sl ch (f : Int) (kF S sl ch j) (i + 1)) wr by unfold kI; rw [← hhe]; exact HK.out)
              have e5 : IntKind.i64.wrap ((i : Int) + 1) = (i : Int) + 1 := IntWalk.i64_in _ ⟨by omega, by omega⟩
              clear hhe HK
              by_cases hi1 : i + 1 < n
              · have hd4 : decide ((i : Int) + 1 < (n : Int)) = true := decide_eq_true (by omega)
                have s0 := (blk_cell HK6.out.s 0).trans rfl
                have s1 := (blk_cell HK6.out.s 1).trans rfl
                have s2 := (blk_cell HK6.out.s 2).trans rfl
                have s3 := (blk_cell HK6.out.s 3).trans rfl
                have s4 := (blk_cell HK6.out.s 4).trans rfl
                have s5 := (blk_cell HK6.out.s 5).trans rfl
                go_wp2_with fail
                have h1 := front_calls lw hg sl ch ⟨gS, 0, none⟩ S.length b S hsl (by rw [HN.out]; exact hlen.2) hlo hhi i (by rw [HN.out]; exact hi1) (nowK S sl (f : Int) i) (nowK_len S sl (f : Int) i) (fun k hk => nowK_bd S sl (f : Int) (fun k hk => (hlo k hk).1) i (by rw [HN.out]; exact hi) k) gN wr HNI.out HK6.out.spans
                rw [HN.out] at h1
                refine h1.mono ?_
                rintro e w7 ⟨g7, rfl, hg7, hn7, hb7⟩
                have HK7 := Aside0.mk (HK6.out.below hb7)
                have HN7 := Aside0.mk (show IntBlk w7 g7 (nowK S sl (f : Int) (i + 1)) from hn7)
                have hw7 : w.heap.size ≤ g7 := by have := HK6.out.w.size; omega
                clear h1 hn7 hb7 hg7 s0 s1 s2 s3 s4 s5
                go_wp2
                go_roundg (n - (i + 1))
                case measure => have := HI.out; omega
                case rel => exact ⟨i + 1, g7, by go_num, rfl, ⟨by omega, rfl⟩, HK7, ⟨hw7, fun _ => HN7.out⟩⟩
              · have hd4 : decide ((i : Int) + 1 < (n : Int)) = false := decide_eq_false (by omega)
                go_wp2
                go_roundg (n - (i + 1))
                case measure => have := HI.out; omega
                case rel => exact ⟨i + 1, gN, by go_num, rfl, ⟨by omega, rfl⟩, HK6, ⟨hgN, fun h => absurd h hi1⟩⟩
        · have hd2 : decide ((i : Int) < (n : Int)) = false := decide_eq_false (by omega)
          have hie : i = n := by have := HI.out; omega
          have e3 : IntKind.i64.wrap ((f : Int) + 1) = (f : Int) + 1 := IntWalk.i64_in _ ⟨by omega, by omega⟩
          have HIE := Aside0.mk hie
          clear hie
          go_wp2
          go_roundg ((z0 + 1 - a0).toNat - (j + 1))
          case measure => have hj := HJ.out; omega
          case rel => exact ⟨j + 1, f + 1, by go_num, ⟨by have hj := HJ.out; omega⟩, ⟨by have := HK.out; rw [HIE.out] at this; unfold kF; rw [HN.out, HA.out.1, ← HJ.out.1]; exact this⟩⟩
    · have hd : decide ((f : Int) ≤ z0) = false := decide_eq_false hle
      have hje : j = (z0 + 1 - a0).toNat := by have hj := HJ.out; omega
      have HK2 := Aside0.mk (show KN lw hg sl ch n b gS S w.heap.size B5 gO w (knownL S sl ch) wr by rw [HRES.out, ← hje]; exact HK.out)
      have k0 := (HK2.out.o.cells 0 (by unfold knownL; rw [kF_len, HN.out]; omega))
      have HP := Aside0.mk hje
      clear HK HRES hje
      obtain ⟨x, hx⟩ : ∃ z, (rd_T48 (knownL S sl ch) 0).f0 = z := ⟨_, rfl⟩
      obtain ⟨y, hy⟩ : ∃ z, (rd_T48 (knownL S sl ch) 0).f1 = z := ⟨_, rfl⟩
      have k1 : wr.cell? ⟨gO, 0, none⟩ = some (.int .i64 x) := by rw [← hx]; exact k0.1
      have k2 : wr.cell? ⟨gO, 1, none⟩ = some (.int .i64 y) := by rw [← hy]; exact k0.2
      have HXY := Aside0.mk (And.intro hx hy)
      clear k0 hx hy
      by_cases hlt : y < x
      · have hdl : decide (y < x) = true := decide_eq_true hlt
        go_wp2
        go_region
        go_wp2
        exact ⟨rfl, HK2.out.w.drew, .inr ⟨by rw [HXY.out.1, HXY.out.2]; exact hlt, _, rfl⟩⟩
      · have hdl : decide (y < x) = false := decide_eq_false hlt
        go_wp2
        go_region
        go_wp2
        go_ret
        exact ⟨HK2.out.w.drew, .inl ⟨by rw [HXY.out.1, HXY.out.2]; omega, gO, rfl, by omega, HK2.out.o.below (below_drew (Below.refl _ _))⟩⟩
end Go.Proofs.YtbjimmemcmjpcabGreatDoor.Print
end
section
set_option linter.unusedVariables false
set_option linter.unusedSimpArgs false
set_option linter.unusedSectionVars false
namespace Go.Proofs.YtbjimmemcmjpcabGreatDoor.Print
open Go.RowKit Go.Proofs.YtbjimmemcmjpcabGreatDoorW.PrintWords Go.Proofs.YtbjimmemcmjpcabGreatDoorW.PrintLast Go.Proofs.YtbjimmemcmjpcabGreatDoorW.PrintMore
theorem R_of_spans {w : World} {g base : Nat} {S : List SP} (h : SpanBlk w g S) (hb : base ≤ g) (hl : S.length ≤ 1000) : Kd.R k48 48 w base (fun _ => True) (.slice (some ⟨g, 0, none⟩) S.length S.length) S := by
  refine ⟨fun _ _ => trivial, spanC S, ?_, ?_⟩
  · refine ⟨spanC_len S, .inr ⟨g, S.length, _, rfl, hb, h, Nat.le_refl _, by unfold maxLen; omega, ?_, ?_⟩⟩
    · show (spanC S).length = _; rw [spanC_len]; rfl
    · exact List.take_of_length_le (by rw [spanC_len]; exact Nat.le_refl _)
  · refine ⟨spanC_len S, fun j p hj => ?_⟩
    have hjl : j < S.length := (List.getElem?_eq_some_iff.1 hj).1
    have h1 := spanC_get S j hjl
    have hp : rd_T48 S (j : Int) = p := by simp [rd_T48, List.getD_eq_getElem?_getD, hj]
    rw [hp] at h1
    have : ((spanC S).drop (j * 2)).take 2 = [.int .i64 p.f0, .int .i64 p.f1] := by
      apply List.ext_getElem?
      intro k
      rcases k with _ | _ | k
      · simpa [List.getElem?_take, List.getElem?_drop] using h1.1
      · simpa [List.getElem?_take, List.getElem?_drop] using h1.2
      · simp [List.getElem?_take]; omega
    show Kd.M k48 _ _ _ p (((spanC S).drop (j * 2)).take 2)
    rw [this]
    exact k48_mkM _ _ _ p
def knownR (lw hg sl ch : Int) (n : Nat) (G : List GA) : Option (List SP) :=
  (gaugeL G (List.replicate n ⟨lw, hg⟩)).bind fun S => if (rd_T48 (knownL S sl ch) 0).f0 ≤ (rd_T48 (knownL S sl ch) 0).f1 then some (knownL S sl ch) else none
theorem gaugeL_len : ∀ (G : List GA) (S T : List SP), gaugeL G S = some T → T.length = S.length
  | [], S, T, h => by rw [gaugeL] at h; rw [Option.some.inj h]
  | x :: G, S, T, h => by
    rw [gaugeL] at h
    split at h
    · cases h
    · have := gaugeL_len G _ T h
      rwa [List.length_set] at this
theorem gaugeL_bd (n : Nat) (P : Int → Int → Prop) (hP : ∀ a b c d : Int, P a b → -5 ≤ c → c ≤ 30 → 0 ≤ d → d ≤ 35 → P (max a c) (min b d)) : ∀ (G : List GA) (S T : List SP), (∀ x ∈ G, gaugeOK n x) → S.length = n → (∀ i : Nat, i < n → P (lo S i) (hi S i)) → gaugeL G S = some T → ∀ i : Nat, i < n → P (lo T i) (hi T i)
  | [], S, T, _, _, hS, h => by rw [gaugeL] at h; rw [← Option.some.inj h]; exact hS
  | x :: G, S, T, hG, hn, hS, h => by
    rw [gaugeL] at h
    split at h
    · cases h
    · have hx := hG x (by simp)
      obtain ⟨k, hk⟩ := Int.eq_ofNat_of_zero_le hx.1.1
      refine gaugeL_bd n P hP G _ T (fun y hy => hG y (by simp [hy])) (by rw [List.length_set]; exact hn) (fun i hi' => ?_) h
      rw [hk, Int.toNat_natCast]
      unfold lo hi
      by_cases e : i = k
      · subst e
        rw [rd_set_same S i _ (by omega)]
        unfold gaugeS
        rw [hk]
        exact hP _ _ _ _ (hS i hi') (by have := hx.2; omega) (by have := hx.2; omega) (by have := hx.2; omega) (by have := hx.2; omega)
      · rw [show rd_T48 (S.set k (gaugeS S x)) (i : Int) = rd_T48 S (i : Int) by simp [rd_T48, List.getD_eq_getElem?_getD, List.getElem?_set_ne (Ne.symm e)]]
        exact hS i hi'
theorem rd_rep50 (n : Nat) (x : SP) (i : Nat) (h : i < n) : rd_T48 (List.replicate n x) (i : Int) = x := by simp [rd_T48, List.getD_eq_getElem?_getD, h]
set_option maxRecDepth 100000 in
set_option maxHeartbeats 1000000 in
theorem known2_calls (lw hg sl ch : Int) (n : Nat) (hn : 1 ≤ n ∧ n ≤ 24) (hr : 0 ≤ lw ∧ lw ≤ hg ∧ hg ≤ 30) (hsl : 0 ≤ sl ∧ sl ≤ 30) (hch : 0 ≤ ch ∧ ch ≤ 100) (A : Option Addr) (c : Nat) (G : List GA) (hG : ∀ x ∈ G, gaugeOK n x) (hl : G.length ≤ 1000) (B3 B4 B5 B8 : Nat) (w : World) (hC : Kd.C k66 w A G.length G)
    (h3 : w.heap[B3]? = some (.cells #[.int .i64 lw, .int .i64 hg, .int .i64 sl, .int .i64 ch] 35 (0, 0))) (h4 : w.heap[B4]? = some (.cells #[.int .i64 (n : Int)] 3 (0, 0))) (h5 : w.heap[B5]? = some (.cells #[.slice A G.length c] 36 (0, 0))) (h8 : w.heap[B8]? = some (.cells #[.slice none 0 0] 44 (0, 0))) :
    Calls Tryz.prog 61 #[.pointer (some ⟨B3, 0, none⟩), .pointer (some ⟨B4, 0, none⟩), .pointer (some ⟨B5, 0, none⟩), .pointer (some ⟨B8, 0, none⟩)] w fun e w' => w.grownBy w' (some B8) ∧
      ((e = .returned (.tuple #[]) ∧ ∃ (g : Nat) (T : List SP), knownR lw hg sl ch n G = some T ∧ T.length = n ∧ w.heap.size ≤ g ∧ w'.heap[B8]? = some (.cells #[.slice (some ⟨g, 0, none⟩) n n] 44 (0, 0)) ∧ SpanBlk w' g T) ∨
       ((∃ s : Int, e = .panicked [{ v := .iface 108 (.agg #[.int .i64 s]), recovered := false }]) ∧ knownR lw hg sl ch n G = none)) := by
  have hu23 := Tryz.underlying35
  have c30 := (blk_cell h3 0).trans rfl
  have c31 := (blk_cell h3 1).trans rfl
  have c32 := (blk_cell h3 2).trans rfl
  have c33 := (blk_cell h3 3).trans rfl
  have c40 := (blk_cell h4 0).trans rfl
  have c50 := (blk_cell h5 0).trans rfl
  have H3 := Aside0.mk h3
  have H8 := Aside0.mk h8
  have HC := Aside0.mk hC
  have hb8 : B8 < w.heap.size := blk_lt h8
  clear h3 h4 h5 h8 hC
  go_enter Tryz.func61, Tryz.ntmps61
  go_wp2_with fail
  refine (gauged_calls lw hg sl ch n ⟨hn.1, by omega⟩ A c G hG hl (by omega) _ HC.out).mono ?_
  rintro e w1 ⟨hb1, (⟨g1, S, hS, rfl, hg1, hs1⟩ | ⟨hN, s, rfl⟩)⟩
  · have hSl : S.length = n := by have := gaugeL_len G _ S hS; simpa using this
    have hbd := gaugeL_bd n (fun a b => (0 ≤ a ∧ a ≤ 100) ∧ (-100 ≤ b ∧ b ≤ 30)) (fun a b c d h1 h2 h3 h4 h5 => by omega) G _ S hG (by simp) (fun i hi' => by unfold lo hi; rw [rd_rep50 n _ i hi']; simp only; omega) hS
    have H31 := Aside0.mk (blk_below H3.out hb1)
    have HB1 := Aside0.mk hb1
    have H81 := Aside0.mk (blk_below H8.out hb1)
    have e30 := (blk_cell H31.out 0).trans rfl
    have e31 := (blk_cell H31.out 1).trans rfl
    have e32 := (blk_cell H31.out 2).trans rfl
    have e33 := (blk_cell H31.out 3).trans rfl
    have HK := kn_calls lw hg sl ch S g1 hsl hch (by omega) (fun i hi' => (hbd i (by omega)).1) (fun i hi' => (hbd i (by omega)).2) w1 hs1
    rw [hSl] at HK
    have HKN := Aside0.mk HK
    have HSS := Aside0.mk (And.intro hS hSl)
    clear HK hS hSl hbd hb1 c30 c31 c32 c33 c40 c50 hs1
    go_wp2_with fail
    refine HKN.out.mono ?_
    rintro e w2 ⟨hb2, (⟨hle, g, rfl, hg2, hs2⟩ | ⟨hlt, s, rfl⟩)⟩
    · have H82 := blk_below H81.out hb2
      have f8 : w2.frozen? ⟨B8, 0, none⟩ = false := blk_frozen H82 _
      have e8 := (blk_cell H82 0).trans rfl
      have HS2 := Aside0.mk hs2
      have HB2 := Aside0.mk hb2
      have HP := Aside0.mk (blk_put H82 0 (.slice (some ⟨g, 0, none⟩) n n) (cs' := #[.slice (some ⟨g, 0, none⟩) n n]) (by simp))
      have hlw : w.heap.size ≤ w1.heap.size := HB1.out.size
      have hgw : w.heap.size ≤ g := by omega
      have hne : g ≠ B8 := by omega
      have HLE := Aside0.mk hle
      clear hs2 hb2 H82 hle
      go_wp2
      go_end0
      refine ⟨grown_trans (grown_of_below (below_then HB1.out HB1.out.size HB2.out) _) (grown_setCell w2 B8 0 _), .inl ⟨rfl, g, knownL S sl ch, ?_, ?_, hgw, HP.out, ?_⟩⟩
      · unfold knownR; rw [HSS.out.1, Option.bind_some, if_pos HLE.out]
      · unfold knownL; rw [kF_len, HSS.out.2]
      · exact (Below.heap_setCell w2 ⟨B8, 0, none⟩ _ _ hne).trans HS2.out
    · have HB2 := Aside0.mk hb2
      clear hb2
      go_wp2
      exact ⟨rfl, grown_of_below (below_then HB1.out HB1.out.size HB2.out) _, .inr ⟨⟨s, rfl⟩, by unfold knownR; rw [HSS.out.1, Option.bind_some, if_neg (by omega)]⟩⟩
  · have HB1 := Aside0.mk hb1
    have HN := Aside0.mk hN
    clear hb1 hN
    go_wp2
    exact ⟨rfl, grown_of_below HB1.out _, .inr ⟨⟨s, rfl⟩, by unfold knownR; rw [HN.out]; rfl⟩⟩
def cam_Known.f (a0_0 a0_1 a0_2 a0_3 a1 : Int) (l2 : List GA) : Option (List SP × Int) :=
  if ruleB a0_0 a0_1 a0_2 a0_3 = true ∧ (3 ≤ a1 ∧ a1 ≤ 24) ∧ l2.length ≤ 8 ∧ l2.all (gOK a1) = true then
    (match knownR a0_0 a0_1 a0_2 a0_3 a1.toNat l2 with
      | some T => some (T, 0)
      | none => some ([], 7))
  else some ([], 2)
theorem R_nil50 (w : World) (base : Nat) : Kd.R k48 48 w base (fun _ => True) (.slice none 0 0) [] := Kd.R_nil _ _ _ _ _
set_option maxRecDepth 100000 in
set_option maxHeartbeats 2000000 in
theorem cam_Known.calls (a0_0 a0_1 a0_2 a0_3 a1 : Int) (A2 : Option Addr) (c2 : Nat) (l2 : List GA) (r1 : List SP) (r2 : Int) (w : World) (hr2 : Kd.C k66 w A2 l2.length l2) (hc2 : l2.length ≤ c2) (h : cam_Known.f a0_0 a0_1 a0_2 a0_3 a1 l2 = some (r1, r2)) :
    Calls Tryz.prog 23 #[.agg #[.int .i64 a0_0, .int .i64 a0_1, .int .i64 a0_2, .int .i64 a0_3], .int .i64 a1, .slice A2 l2.length c2] w fun e w' => ∃ v0_ : Value, e = .returned (.tuple #[v0_, .int .i64 r2]) ∧ Kd.R k48 48 w' w.heap.size (fun _ => True) v0_ r1 ∧ Below w.heap.size w w' := by
  have hu2 := Tryz.underlying35
  have HR := Aside0.mk hr2
  have HL := Aside0.mk (Kd.C_max hr2)
  obtain ⟨n2, hn2⟩ : ∃ n, l2.length = n := ⟨_, rfl⟩
  have b0 := below_alloc (below_alloc (below_alloc (Below.refl w.heap.size w) (.cells #[.int .i64 a0_0, .int .i64 a0_1, .int .i64 a0_2, .int .i64 a0_3] 35)) (.cells #[.int .i64 a1] 3)) (.cells #[.slice A2 l2.length c2] 36)
  have n0 : (((w.alloc (.cells #[.int .i64 a0_0, .int .i64 a0_1, .int .i64 a0_2, .int .i64 a0_3] 35)).alloc (.cells #[.int .i64 a1] 3)).alloc (.cells #[.slice A2 l2.length c2] 36)).heap[w.heap.size]? = some (.cells #[.int .i64 a0_0, .int .i64 a0_1, .int .i64 a0_2, .int .i64 a0_3] 35 (0, 0)) := blk_alloc (blk_alloc (blk_new w _) _) _
  have n1 : (((w.alloc (.cells #[.int .i64 a0_0, .int .i64 a0_1, .int .i64 a0_2, .int .i64 a0_3] 35)).alloc (.cells #[.int .i64 a1] 3)).alloc (.cells #[.slice A2 l2.length c2] 36)).heap[w.heap.size + 1]? = some (.cells #[.int .i64 a1] 3 (0, 0)) := by
    have := blk_new (w.alloc (.cells #[.int .i64 a0_0, .int .i64 a0_1, .int .i64 a0_2, .int .i64 a0_3] 35)) (.cells #[.int .i64 a1] 3)
    rw [World.size_alloc] at this
    exact blk_alloc this _
  have n2' := blk_new ((w.alloc (.cells #[.int .i64 a0_0, .int .i64 a0_1, .int .i64 a0_2, .int .i64 a0_3] 35)).alloc (.cells #[.int .i64 a1] 3)) (.cells #[.slice A2 l2.length c2] 36)
  rw [World.size_alloc, World.size_alloc] at n2'
  have B0 := Aside0.mk b0
  have N0 := Aside0.mk n0
  have N1 := Aside0.mk n1
  have N2 := Aside0.mk n2'
  have HH := Aside0.mk h
  have HNL := Aside0.mk hn2
  clear hr2 hc2 h b0 n0 n1 n2' hn2
  cases hrule : ruleB a0_0 a0_1 a0_2 a0_3 with
  | false =>
    have H1 := Aside0.mk (hrule ▸ isRule_f a0_0 a0_1 a0_2 a0_3)
    obtain ⟨rfl, rfl⟩ : [] = r1 ∧ 2 = r2 := by have h := HH.out; unfold cam_Known.f at h; rw [if_neg (by simp [hrule])] at h; simpa using h
    clear hrule HH
    go_enter Tryz.func23, Tryz.ntmps23
    go_wp2_with (go_at_call 51; refine (cam_isRule.calls a0_0 a0_1 a0_2 a0_3 false _ H1.out).mono ?_; rintro e w' ⟨rfl, hb⟩; have HB := Aside0.mk (below_step B0.out hb); clear hb)
    go_ret2
    exact ⟨_, rfl, R_nil50 _ _, HB.out⟩
  | true =>
    have H1 := Aside0.mk (hrule ▸ isRule_f a0_0 a0_1 a0_2 a0_3)
    have hrb : (0 ≤ a0_0 ∧ a0_0 ≤ a0_1 ∧ a0_1 ≤ 30) ∧ (0 ≤ a0_2 ∧ a0_2 ≤ 30) ∧ (0 ≤ a0_3 ∧ a0_3 ≤ 24) := by
      have h : ruleB a0_0 a0_1 a0_2 a0_3 = true := hrule
      simp [ruleB] at h
      omega
    have hmf : ∀ (fn : Fn) (first cap : Array Value) (w : World), (Instr.makeFunc fn first cap).run Tryz.prog w = .ok (.func fn first cap) w := fun _ _ _ _ => rfl
    by_cases hin : 3 ≤ a1 ∧ a1 ≤ 24
    · have H3 := Aside0.mk (show cam_in.f a1 3 24 = some true by rw [in_f]; simp; omega)
      by_cases hlen : l2.length ≤ 8
      · have hdl : decide ((8 : Int) < (l2.length : Int)) = false := decide_eq_false (by omega)
        cases hall : l2.all (gOK a1) with
        | false =>
          have HA := Aside0.mk (show (!l2.all (gOK a1)) = true by rw [hall]; rfl)
          obtain ⟨rfl, rfl⟩ : [] = r1 ∧ 2 = r2 := by have h := HH.out; unfold cam_Known.f at h; rw [if_neg (by simp [hall])] at h; simpa using h
          clear hrule HH hall
          go_enter Tryz.func23, Tryz.ntmps23
          go_wp2_with fail
          refine (cam_isRule.calls a0_0 a0_1 a0_2 a0_3 true _ H1.out).mono ?_; rintro e w' ⟨rfl, hb⟩
          have HB := Aside0.mk (below_step B0.out hb)
          have M1 := Aside0.mk (blk_below N1.out hb)
          have M2 := Aside0.mk (blk_below N2.out hb)
          have c1 := (blk_cell M1.out 0).trans rfl
          have c2' := (blk_cell M2.out 0).trans rfl
          clear hb
          go_wp2_with fail
          refine (cam_in.calls a1 3 24 true _ H3.out).mono ?_; rintro e w2 ⟨rfl, ⟨⟨k, rfl⟩⟩⟩
          go_wp2_with fail
          refine (containsFunc_gauge a1 (by omega) (w.heap.size + 1) A2 c2 l2 (by omega) _ (blk_drewN M1.out _) (Kd.C_below HR.out (pw_below_drewN HB.out _))).mono ?_
          rintro e w3 ⟨rfl, hb⟩
          have HB3 := Aside0.mk (below_then HB.out HB.out.size ((pw_below_drewN (Below.refl _ _) k).trans (hb.mono (by simp))))
          clear hb
          rw [HA.out]
          go_wp2_with fail
          go_ret2
          exact ⟨_, rfl, R_nil50 _ _, HB3.out⟩
        | true =>
          have HA := Aside0.mk (show (!l2.all (gOK a1)) = false by rw [hall]; rfl)
          obtain ⟨n, rfl⟩ := Int.eq_ofNat_of_zero_le (show 0 ≤ a1 by omega)
          have hG : ∀ x ∈ l2, gaugeOK n x := fun x hx => by
            have := List.all_eq_true.1 hall x hx
            simp [gOK, isH] at this
            exact ⟨by omega, by omega, by omega⟩
          have HG := Aside0.mk hG
          have HF := Aside0.mk (show (match knownR a0_0 a0_1 a0_2 a0_3 n l2 with | some T => some (T, (0 : Int)) | none => some ([], 7)) = some (r1, r2) by
            have h := HH.out
            unfold cam_Known.f at h
            rw [if_pos ⟨hrule, hin, hlen, hall⟩, Int.toNat_natCast] at h
            exact h)
          clear hrule HH hall hG
          go_enter Tryz.func23, Tryz.ntmps23
          go_wp2_with fail
          refine (cam_isRule.calls a0_0 a0_1 a0_2 a0_3 true _ H1.out).mono ?_; rintro e w' ⟨rfl, hb⟩
          have HB := Aside0.mk (below_step B0.out hb)
          have M0 := Aside0.mk (blk_below N0.out hb)
          have M1 := Aside0.mk (blk_below N1.out hb)
          have M2 := Aside0.mk (blk_below N2.out hb)
          have c1 := (blk_cell M1.out 0).trans rfl
          have c2' := (blk_cell M2.out 0).trans rfl
          clear hb
          go_wp2_with fail
          refine (cam_in.calls (n : Int) 3 24 true _ H3.out).mono ?_; rintro e w2 ⟨rfl, ⟨⟨k, rfl⟩⟩⟩
          go_wp2_with fail
          refine (containsFunc_gauge (n : Int) (by omega) (w.heap.size + 1) A2 c2 l2 (by omega) _ (blk_drewN M1.out _) (Kd.C_below HR.out (pw_below_drewN HB.out _))).mono ?_
          rintro e w3 ⟨rfl, hb⟩
          have hb3 : Below w'.heap.size w' w3 := (pw_below_drewN (Below.refl _ w') k).trans (hb.mono (by simp))
          have HB3 := Aside0.mk (below_then HB.out HB.out.size hb3)
          have P0 := Aside0.mk (blk_below M0.out hb3)
          have P1 := Aside0.mk (blk_below M1.out hb3)
          have P2 := Aside0.mk (blk_below M2.out hb3)
          clear hb hb3 c1 c2' M0 M1 M2 HB
          rw [HA.out]
          go_wp2_with fail
          have hlw : w.heap.size ≤ w3.heap.size := HB3.out.size
          refine (tryK_calls _ _ (fun w0 => ∃ (g : Nat) (T : List SP), knownR a0_0 a0_1 a0_2 a0_3 n l2 = some T ∧ T.length = n ∧ w3.heap.size + 2 ≤ g ∧ w0.heap[w3.heap.size]? = some (.cells #[.slice (some ⟨g, 0, none⟩) n n] 44 (0, 0)) ∧ SpanBlk w0 g T ∧ Below w.heap.size w w0) (fun w0 => knownR a0_0 a0_1 a0_2 a0_3 n l2 = none ∧ Below w.heap.size w w0) ?_).mono ?_
          · refine (known2_calls a0_0 a0_1 a0_2 a0_3 n (by omega) (by omega) (by omega) (by omega) A2 c2 l2 HG.out (by omega) w.heap.size (w.heap.size + 1) (w.heap.size + 1 + 1) w3.heap.size _ (Kd.C_below HR.out (below_alloc (below_alloc HB3.out _) _)) (blk_alloc (blk_alloc P0.out _) _) (blk_alloc (blk_alloc P1.out _) _) (blk_alloc (blk_alloc P2.out _) _) (blk_alloc (blk_new w3 _) _)).mono ?_
            rintro e w4 ⟨hg, hcase⟩
            have hB4 : Below w.heap.size w w4 := (below_alloc (below_alloc HB3.out _) _).grown hg (by simp; omega) (fun k hk => by cases hk; exact hlw)
            refine ⟨(hg.block _ (by simp) (by simp)).trans (blk_new _ _), ?_⟩
            rcases hcase with ⟨rfl, g, T, hT, hTl, hgl, h8, hs⟩ | ⟨⟨s, rfl⟩, hN⟩
            · exact .inl ⟨rfl, g, T, hT, hTl, by simpa using hgl, h8, hs, hB4⟩
            · exact .inr ⟨⟨s, rfl⟩, hN, hB4⟩
          · rintro e w4 (⟨w0, ⟨g, T, hT, hTl, hgl, h8, hs, hb0⟩, rfl, hg⟩ | ⟨w0, ⟨hN, hb0⟩, rfl, hg⟩)
            · have h84 : w4.heap[w3.heap.size]? = some (.cells #[.slice (some ⟨g, 0, none⟩) n n] 44 (0, 0)) := (hg.block _ (blk_lt h8) (by simp)).trans h8
              have e8 := (blk_cell h84 0).trans rfl
              have hs4 : SpanBlk w4 g T := (hg.block g (blk_lt hs) (by simp; omega)).trans hs
              have hb4 : Below w.heap.size w w4 := hb0.grown hg hb0.size (fun k hk => by cases hk; simp; omega)
              have HO := Aside0.mk (And.intro hs4 (And.intro hb4 hgl))
              have HTT := Aside0.mk hT
              have HTL := Aside0.mk hTl
              clear hs4 hb4 hgl hT hTl hg h8 hs hb0 h84
              obtain ⟨rfl, rfl⟩ : T = r1 ∧ 0 = r2 := by have h := HF.out; rw [HTT.out] at h; simpa using h
              clear HF
              go_wp2
              go_ret2
              refine ⟨_, rfl, ?_, HO.out.2.1⟩
              have hR := R_of_spans (base := w.heap.size) HO.out.1 (by have := HO.out.2.2; omega) (by rw [HTL.out]; omega)
              rw [HTL.out] at hR
              exact hR
            · have hb4 : Below w.heap.size w w4 := hb0.grown hg hb0.size (fun k hk => by cases hk; simp; omega)
              have HO := Aside0.mk hb4
              obtain ⟨rfl, rfl⟩ : [] = r1 ∧ 7 = r2 := by have h := HF.out; rw [hN] at h; simpa using h
              clear hb4 hN hb0 hg HF
              go_wp2
              go_ret2
              exact ⟨_, rfl, R_nil50 _ _, HO.out⟩
      · have hdl : decide ((8 : Int) < (l2.length : Int)) = true := decide_eq_true (by omega)
        obtain ⟨rfl, rfl⟩ : [] = r1 ∧ 2 = r2 := by have h := HH.out; unfold cam_Known.f at h; rw [if_neg (by simp [hlen])] at h; simpa using h
        clear hrule HH
        go_enter Tryz.func23, Tryz.ntmps23
        go_wp2_with fail
        refine (cam_isRule.calls a0_0 a0_1 a0_2 a0_3 true _ H1.out).mono ?_; rintro e w' ⟨rfl, hb⟩
        have HB := Aside0.mk (below_step B0.out hb)
        have M1 := Aside0.mk (blk_below N1.out hb)
        have M2 := Aside0.mk (blk_below N2.out hb)
        have c1 := (blk_cell M1.out 0).trans rfl
        have c2' := (blk_cell M2.out 0).trans rfl
        clear hb
        go_wp2_with fail
        refine (cam_in.calls a1 3 24 true _ H3.out).mono ?_; rintro e w2 ⟨rfl, ⟨⟨k, rfl⟩⟩⟩
        go_wp2_with fail
        go_ret2
        exact ⟨_, rfl, R_nil50 _ _, pw_below_drewN HB.out _⟩
    · have H3 := Aside0.mk (show cam_in.f a1 3 24 = some false by rw [in_f]; simp; omega)
      obtain ⟨rfl, rfl⟩ : [] = r1 ∧ 2 = r2 := by have h := HH.out; unfold cam_Known.f at h; rw [if_neg (by simp; omega)] at h; simpa using h
      clear hrule HH
      go_enter Tryz.func23, Tryz.ntmps23
      go_wp2_with fail
      refine (cam_isRule.calls a0_0 a0_1 a0_2 a0_3 true _ H1.out).mono ?_; rintro e w' ⟨rfl, hb⟩
      have HB := Aside0.mk (below_step B0.out hb)
      have M1 := Aside0.mk (blk_below N1.out hb)
      have c1 := (blk_cell M1.out 0).trans rfl
      clear hb
      go_wp2_with fail
      refine (cam_in.calls a1 3 24 false _ H3.out).mono ?_; rintro e w2 ⟨rfl, ⟨⟨k, rfl⟩⟩⟩
      go_wp2_with fail
      go_ret2
      exact ⟨_, rfl, R_nil50 _ _, pw_below_drewN HB.out _⟩
end Go.Proofs.YtbjimmemcmjpcabGreatDoor.Print
end

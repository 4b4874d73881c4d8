/- What the program's functions compute that the chapter's examples reach, each with the walk that shows it; the kit's words for such walks. Joined by wip/pack.py. -/
import Derived.Laws.EntriesVeiled
import Derived.Maps.OwnIn
import Derived.Test.YtbjimmemcmjpcabGreatDoorB7
import Derived.Test.YtbjimmemcmjpcabGreatDoorB4
import Derived.Test.YtbjimmemcmjpcabGreatDoorB3
import Derived.Test.YtbjimmemcmjpcabGreatDoorB8
section
set_option linter.unusedVariables false
set_option linter.unusedSimpArgs false
set_option linter.unusedSectionVars false
namespace Go.Proofs.YtbjimmemcmjpcabGreatDoor.Print
open Go.RowKit Go.Proofs.YtbjimmemcmjpcabGreatDoorW.PrintWords Go.Proofs.YtbjimmemcmjpcabGreatDoorW.PrintLast Go.Proofs.YtbjimmemcmjpcabGreatDoorW.PrintMore
def camR (S : List S48) (sl ch : Int) : Option (List Int) := camW S sl S.length [] ch
set_option maxRecDepth 100000 in
set_option maxHeartbeats 4000000 in
theorem cam_calls (lw hg sl ch : Int) (ad : Addr) (cp b : Nat) (S : List S48) (hsl : 0 ≤ sl ∧ sl ≤ 30) (hch : 0 ≤ ch ∧ ch ≤ 100) (hlen : S.length ≤ 24) (hlen0 : 0 < S.length) (hlo : ∀ i, i < S.length → 0 ≤ lo S i ∧ lo S i ≤ 100) (hhi : ∀ i, i < S.length → -100 ≤ hi S i ∧ hi S i ≤ 30)
    (w : World) (L : List Spot) (hM : MapOK (restF S sl) w b L) (hS : SpansAt w ad S) (hab : ad.block ≠ b) :
    Calls Tryz.prog 55 #[searchV lw hg sl ch (some ad) S.length cp (.map (some b))] w fun e w' => ∃ v : Value, e = .returned (.tuple #[v, .bool (camR S sl ch).isSome]) ∧ Kd.R (Kd.int .i64) 3 w' w.heap.size (fun _ => True) v ((camR S sl ch).getD []) ∧ w.grownBy w' (some b) := by
  have hu1 := Tryz.underlying78
  have hu2 := Tryz.underlying35
  have hb := hM.lt
  have had : ad.block < w.heap.size := by have := World.block_lt_of_cell? w _ (hS 0 hlen0).1; rwa [add_block] at this
  have HM := Aside0.mk hM
  have HS := Aside0.mk hS
  clear hM hS
  have n0 : ((w.alloc (searchO lw hg sl ch (some ad) S.length cp (.map (some b)))).alloc (.cells #[.slice none 0 0] 22)).heap[w.heap.size]? = some (searchO lw hg sl ch (some ad) S.length cp (.map (some b))) := blk_alloc (blk_new w _) _
  have n1 := blk_new (w.alloc (searchO lw hg sl ch (some ad) S.length cp (.map (some b)))) (.cells #[.slice none 0 0] 22)
  rw [World.size_alloc] at n1
  have b3 : Below w.heap.size w ((w.alloc (searchO lw hg sl ch (some ad) S.length cp (.map (some b)))).alloc (.cells #[.slice none 0 0] 22)) := below_alloc (below_alloc (Below.refl _ _) _) _
  have N0 := Aside0.mk n0
  have N1 := Aside0.mk n1
  have B3 := Aside0.mk b3
  have HD := Aside0.mk (⟨hsl, hch, hlen, hlen0, hlo, hhi⟩ : _ ∧ _ ∧ _ ∧ _ ∧ _ ∧ _)
  clear n0 n1 b3
  go_enter Tryz.func55, Tryz.ntmps55
  go_wp2_with (first | ((with_reducible refine gate_dst (N := 5) rfl ?_); refine box_event ?hg (N := 5) ?hd (cs := #[.nilFunc]) (t := 100) ?hr ?_; (case hd => rfl); (case hg => rfl); (case hr => first | (go_simp; done) | (go_simp; rfl)); intro gw hgw W3 hbox hb3; have hgw2 : gw = w.heap.size + 2 := (by rw [hgw]; simp); have e0 := (blk_cell hbox 0).trans rfl; have e1 := blk_frozen hbox 0; have m0 := blk_below N0.out hb3; have m1 := blk_below N1.out hb3; have b4 : Below w.heap.size w W3 := below_step B3.out hb3; have q2 := blk_put hbox 0 (walkF w.heap.size (w.heap.size + 1) gw) (cs' := #[walkF w.heap.size (w.heap.size + 1) gw]) (by simp); have q1 := blk_far m1 (p := ⟨gw, 0, none⟩) (by simp; omega) (walkF w.heap.size (w.heap.size + 1) gw); have q0 := blk_far m0 (p := ⟨gw, 0, none⟩) (by simp; omega) (walkF w.heap.size (w.heap.size + 1) gw); have b5 : Below w.heap.size w (W3.setCell ⟨gw, 0, none⟩ (walkF w.heap.size (w.heap.size + 1) gw)) := b4.setCell (p := ⟨gw, 0, none⟩) (by simp; omega) _; have e2 := (blk_cell q2 0).trans rfl; have e3 := (blk_cell q0 3).trans rfl; have Q0 := Aside0.mk q0; have Q1 := Aside0.mk q1; have Q2 := Aside0.mk q2; have B5 := Aside0.mk b5; have HG := Aside0.mk hgw2; clear q0 q1 q2 b5 b4 m0 m1 hgw hgw2 hb3 hbox) | (go_at_call 80; have HW := walk_at lw hg sl ch ad cp b S w.heap.size (w.heap.size + 1) gw w.heap.size HD.out.1 HD.out.2.2.1 HD.out.2.2.2.2.1 HD.out.2.2.2.2.2 (by omega) (by omega) (by have := HG.out; omega) (by have := HG.out; omega) hab (by omega) (by omega) S.length [] ch (.slice none 0 0) _ (by simp) (by simp) (by have := HD.out.2.1; have := HD.out.2.2.1; omega) ⟨Q0.out, Q2.out, ⟨_, Q1.out⟩, ⟨L, HM.out.below B5.out⟩, HS.out.below B5.out⟩ B5.out.size (Kd.R_nil _ _ _ _ _) (fun _ => rfl); refine HW.mono ?_; clear HW; rintro e W6 ⟨hk, hce, hso, hno⟩; obtain ⟨v0, hv0⟩ := hce.o; have HK6 := Aside0.mk hk; have HO6 := Aside0.mk hv0; have HSO := Aside0.mk hso; have HNO := Aside0.mk hno; have hcv := (blk_cell hv0 0).trans rfl; obtain ⟨bb, hbb, hbr⟩ : ∃ bb : Bool, e = .returned (.bool bb) ∧ bb = (camR S sl ch).isSome := (by cases hcam : camW S sl S.length [] ch with | some r => exact ⟨true, (hso r hcam).1, (by unfold camR; rw [hcam]; rfl)⟩ | none => exact ⟨false, (hno hcam).1, (by unfold camR; rw [hcam]; rfl)⟩); subst hbb; have HBR := Aside0.mk hbr; clear hk hce hso hno hv0 hbr))
  go_ret2
  refine ⟨v0, by rw [HBR.out]; rfl, ?_, ⟨HK6.out.os.trans B5.out.os, HK6.out.tape.trans B5.out.tape, HK6.out.output.trans B5.out.output, Nat.le_trans B5.out.size HK6.out.size, fun i hi hne => (HK6.out.block i (Nat.lt_of_lt_of_le hi B5.out.size) (by simpa using hne) (by omega)).trans (B5.out.block i hi)⟩⟩
  unfold camR
  cases hcam : camW S sl S.length [] ch with
  | some r =>
    obtain ⟨_, v, hv, hr⟩ := HSO.out r hcam
    rw [HO6.out] at hv
    injection hv with hv
    injection hv with hv
    have hv' : v0 = v := by simpa using hv
    subst hv'
    exact Kd.R_mono hr (fun _ _ => trivial)
  | none =>
    have hv := (HNO.out hcam).2
    rw [HO6.out, Q1.out] at hv
    injection hv with hv
    injection hv with hv
    have hv' : v0 = .slice none 0 0 := by simpa using hv
    subst hv'
    exact Kd.R_nil _ _ _ _ _
end Go.Proofs.YtbjimmemcmjpcabGreatDoor.Print
end
section
set_option linter.unusedVariables false
set_option linter.unusedSimpArgs false
namespace Go.Proofs.YtbjimmemcmjpcabGreatDoor.Print
open Go.RowKit Go.Proofs.YtbjimmemcmjpcabGreatDoorW.PrintWords Go.Proofs.YtbjimmemcmjpcabGreatDoorW.PrintLast Go.Proofs.YtbjimmemcmjpcabGreatDoorW.PrintMore
set_option maxHeartbeats 1000000 in
theorem searched_calls (l h s c : Int) (A : Option Addr) (n cp : Nat) (w : World) :
    Calls Tryz.prog 53 #[.agg #[.int .i64 l, .int .i64 h, .int .i64 s, .int .i64 c], .slice A n cp] w fun e w' => ∃ b, e = .returned (searchV l h s c A n cp (.map (some b))) ∧ w.heap.size ≤ b ∧ Below w.heap.size w w' ∧ ∀ V, MapOK V w' b [] := by
  have hu1 := Tryz.underlying78
  have hu2 := Tryz.underlying35
  have hmk : ∀ W : World, (Instr.makeMap 76 none).run Tryz.prog W = .ok (.map (some W.heap.size)) (W.alloc (.map #[] 0)) := fun _ => by kernel_rfl
  go_enter Tryz.func53, Tryz.ntmps53
  go_wp2_with ((with_reducible refine gate_dst (N := 7) rfl ?_); refine Kd.event_run (v := .map (some _)) rfl (by go_simp; simp [hmk]; exact ⟨rfl, rfl⟩) ?_)
  refine bodyPost_ret (v := searchV l h s c A n cp (.map (some (w.heap.size + 1 + 1)))) (by simp [results, Tryz.results53, go_sem]) rfl ⟨_, rfl, by omega, below_alloc (below_alloc (below_alloc (Below.refl _ _) _) _) _, fun V => ?_⟩
  have := MapOK_made V ((w.alloc (.cells #[.int .i64 l, .int .i64 h, .int .i64 s, .int .i64 c] 35)).alloc (.cells #[.int .i64 l, .int .i64 h, .int .i64 s, .int .i64 c, .slice A n cp, .map (some (w.heap.size + 1 + 1))] 78))
  rw [World.size_alloc, World.size_alloc] at this
  exact this
def nearL (lw hg e : Int) (want : List Int) : List S48 := want.map fun n => ⟨max lw (n - e), min hg (n + e)⟩
theorem near_loop (lw hg s c e : Int) (want : List Int) (hl : want.length ≤ 100) (hw : ∀ i : Nat, i < want.length → 0 ≤ rd want (i : Int) ∧ rd want (i : Int) ≤ 30) (he : 0 ≤ e ∧ e ≤ 100) :
    ∀ (d k : Nat), k + d = want.length → cam_near.l0 (d + 1) e (nearL lw hg e (want.take k)) want (want.length : Int) (k : Int) lw hg s c = some (nearL lw hg e want)
  | 0, k, h => by
    unfold cam_near.l0
    rw [if_neg (by omega), show k = want.length by omega, List.take_length]
  | d + 1, k, h => by
    have hb := hw k (by omega)
    have hlen : (nearL lw hg e (want.take k)).length = k := by unfold nearL; rw [List.length_map, List.length_take]; omega
    have hm : ∀ a b : Int, mx a b = max a b := fun a b => by unfold mx; split <;> omega
    have hn : ∀ a b : Int, mn a b = min a b := fun a b => by unfold mn; split <;> omega
    unfold cam_near.l0
    rw [if_pos (by omega), if_pos (by omega), if_pos (by omega), if_pos (by omega), IntWalk.wrap64_in (rd want (k : Int) - e) ⟨by omega, by omega⟩, IntWalk.wrap64_in (rd want (k : Int) + e) ⟨by omega, by omega⟩, IntWalk.wrap64_in ((k : Int) + 1) ⟨by omega, by omega⟩, hm, hn]
    have := near_loop lw hg s c e want hl hw he d (k + 1) (by omega)
    rw [take_succ_rd want k (by omega)] at this
    rw [← this]
    simp [nearL]
theorem near_f (lw hg s c e : Int) (want : List Int) (hl : want.length ≤ 100) (hw : ∀ i : Nat, i < want.length → 0 ≤ rd want (i : Int) ∧ rd want (i : Int) ≤ 30) (he : 0 ≤ e ∧ e ≤ 100) :
    cam_near.f (want.length + 1) lw hg s c want e = some (nearL lw hg e want) := near_loop lw hg s c e want hl hw he want.length 0 (by omega)
def ruleB (lw hg s c : Int) : Bool := decide (0 ≤ lw ∧ lw ≤ hg ∧ hg ≤ 30 ∧ 0 ≤ s ∧ s ≤ 30 ∧ 0 ≤ c ∧ c ≤ 24)
theorem isRule_f (lw hg s c : Int) : cam_isRule.f lw hg s c = some (ruleB lw hg s c) := by
  unfold cam_isRule.f ruleB
  simp only [isHeight_f, in_f, Option.bind_some]
  unfold isH
  by_cases h1 : 0 ≤ lw ∧ lw ≤ 30
  · by_cases h2 : 0 ≤ hg ∧ hg ≤ 30
    · by_cases h3 : lw ≤ hg
      · by_cases h4 : 0 ≤ s ∧ s ≤ 30
        · rw [if_pos (by simpa using h1), if_pos (by simpa using h2), if_pos h3, if_pos (by simpa using h4)]
          congr 1
          rw [← Bool.decide_and]
          exact decide_eq_decide.2 ⟨fun h => by omega, fun h => by omega⟩
        · rw [if_pos (by simpa using h1), if_pos (by simpa using h2), if_pos h3, if_neg (by simpa using h4), decide_eq_false (by omega)]
      · rw [if_pos (by simpa using h1), if_pos (by simpa using h2), if_neg h3, decide_eq_false (by omega)]
    · rw [if_pos (by simpa using h1), if_neg (by simpa using h2), decide_eq_false (by omega)]
  · rw [if_neg (by simpa using h1), decide_eq_false (by omega)]
end Go.Proofs.YtbjimmemcmjpcabGreatDoor.Print
end
section
set_option linter.unusedVariables false
set_option linter.unusedSimpArgs false
namespace Go.Proofs.YtbjimmemcmjpcabGreatDoor.Print
open Go.RowKit Go.Proofs.YtbjimmemcmjpcabGreatDoorW.PrintWords Go.Proofs.YtbjimmemcmjpcabGreatDoorW.PrintLast Go.Proofs.YtbjimmemcmjpcabGreatDoorW.PrintMore
theorem nearL_len (lw hg e : Int) (want : List Int) : (nearL lw hg e want).length = want.length := by simp [nearL]
theorem nearL_rd (lw hg e : Int) (want : List Int) (i : Nat) (h : i < want.length) : rd_T48 (nearL lw hg e want) (i : Int) = ⟨max lw (rd want (i : Int) - e), min hg (rd want (i : Int) + e)⟩ := by
  simp [rd_T48, nearL, rd, List.getD_eq_getElem?_getD, h]
theorem nearL_lo (lw hg e : Int) (want : List Int) (hr : 0 ≤ lw ∧ lw ≤ 30) (hw : ∀ i : Nat, i < want.length → 0 ≤ rd want (i : Int) ∧ rd want (i : Int) ≤ 30) (he : 0 ≤ e ∧ e ≤ 100) : ∀ i, i < (nearL lw hg e want).length → 0 ≤ lo (nearL lw hg e want) i ∧ lo (nearL lw hg e want) i ≤ 100 := by
  intro i hi
  rw [nearL_len] at hi
  unfold lo
  rw [nearL_rd _ _ _ _ _ hi]
  have := hw i hi
  simp only
  omega
theorem nearL_hi (lw hg e : Int) (want : List Int) (hr : 0 ≤ hg ∧ hg ≤ 30) (hw : ∀ i : Nat, i < want.length → 0 ≤ rd want (i : Int) ∧ rd want (i : Int) ≤ 30) (he : 0 ≤ e ∧ e ≤ 100) : ∀ i, i < (nearL lw hg e want).length → -100 ≤ hi (nearL lw hg e want) i ∧ hi (nearL lw hg e want) i ≤ 30 := by
  intro i hi'
  rw [nearL_len] at hi'
  unfold hi
  rw [nearL_rd _ _ _ _ _ hi']
  have := hw i hi'
  simp only
  omega
def nearR (lw hg s c : Int) (want : List Int) (e : Int) : Option (List Int) := camR (nearL lw hg e want) s c
def bsN (lw hg s c : Int) (want : List Int) : Nat → Int → Int → Int
  | 0, a, _ => a
  | f + 1, a, z => if a < z then (if (nearR lw hg s c want ((a + z) / 2)).isSome then bsN lw hg s c want f a ((a + z) / 2) else bsN lw hg s c want f ((a + z) / 2 + 1) z) else a
def cam_Nearest.f (a0_0 a0_1 a0_2 a0_3 : Int) (l1 : List Int) : Option (List Int × Int × Int) :=
  if ruleB a0_0 a0_1 a0_2 a0_3 = true ∧ isCamB l1 = true then some ((nearR a0_0 a0_1 a0_2 a0_3 l1 (bsN a0_0 a0_1 a0_2 a0_3 l1 31 0 30)).getD [], bsN a0_0 a0_1 a0_2 a0_3 l1 31 0 30, 0) else some ([], 0, 2)
set_option maxRecDepth 100000 in
set_option maxHeartbeats 4000000 in
theorem cam_Nearest.calls (a0_0 a0_1 a0_2 a0_3 : Int) (A1 : Option Addr) (c1 : Nat) (l1 : List Int) (r1 : List Int) (r2 r3 : Int) (w : World) (hr1 : Kd.C (Kd.int .i64) w A1 l1.length l1) (hc1 : l1.length ≤ c1) (h : cam_Nearest.f a0_0 a0_1 a0_2 a0_3 l1 = some (r1, r2, r3)) :
    Calls Tryz.prog 21 #[.agg #[.int .i64 a0_0, .int .i64 a0_1, .int .i64 a0_2, .int .i64 a0_3], .slice A1 l1.length c1] w fun e w' => ∃ v0_ : Value, e = .returned (.tuple #[v0_, .int .i64 r2, .int .i64 r3]) ∧ Kd.R (Kd.int .i64) 3 w' w.heap.size (fun _ => True) v0_ r1 ∧ Below w.heap.size w w' := by
  have hu2 := Tryz.underlying35
  have HR := Aside0.mk hr1
  have HC1 := Aside0.mk hc1
  clear hr1 hc1
  unfold cam_Nearest.f at h
  cases hrule : ruleB a0_0 a0_1 a0_2 a0_3 with
  | false =>
    rw [if_neg (by simp [hrule])] at h
    obtain ⟨rfl, rfl, rfl⟩ : [] = r1 ∧ 0 = r2 ∧ 2 = r3 := by simpa using h
    have H1 := Aside0.mk (hrule ▸ isRule_f a0_0 a0_1 a0_2 a0_3)
    clear hrule h
    go_enter Tryz.func21, Tryz.ntmps21
    go_wp2_with (go_at_call 51; refine (cam_isRule.calls a0_0 a0_1 a0_2 a0_3 false _ H1.out).mono ?_; rintro e w' ⟨rfl, hb⟩; have HB := Aside0.mk (below_step (below_alloc (Below.refl _ _) _) hb); clear hb)
    go_ret3
    exact ⟨_, rfl, Kd.R_nil _ _ _ _ _, HB.out⟩
  | true =>
    have H1 := Aside0.mk (hrule ▸ isRule_f a0_0 a0_1 a0_2 a0_3)
    have hrb : 0 ≤ a0_0 ∧ a0_0 ≤ a0_1 ∧ a0_1 ≤ 30 ∧ 0 ≤ a0_2 ∧ a0_2 ≤ 30 ∧ 0 ≤ a0_3 ∧ a0_3 ≤ 24 := by simpa [ruleB] using hrule
    cases hcam : isCamB l1 with
    | false =>
      rw [if_neg (by simp [hcam])] at h
      obtain ⟨rfl, rfl, rfl⟩ : [] = r1 ∧ 0 = r2 ∧ 2 = r3 := by simpa using h
      have H2 := Aside0.mk (hcam ▸ isCam_f l1)
      clear hrule hcam h
      go_enter Tryz.func21, Tryz.ntmps21
      go_wp2_with (first | (go_at_call 51; refine (cam_isRule.calls a0_0 a0_1 a0_2 a0_3 true _ H1.out).mono ?_; rintro e w' ⟨rfl, hb⟩; have HB := Aside0.mk (below_step (below_alloc (Below.refl _ _) _) hb); clear hb) | (go_at_call 52; refine (cam_isCam.calls A1 c1 l1 false _ (Kd.C_below HR.out HB.out) HC1.out H2.out).mono ?_; rintro e w' ⟨rfl, ⟨⟨n, rfl⟩⟩⟩))
      go_ret3
      exact ⟨_, rfl, Kd.R_nil _ _ _ _ _, pw_below_drewN HB.out _⟩
    | true =>
      rw [if_pos ⟨hrule, hcam⟩] at h
      have H2 := Aside0.mk (hcam ▸ isCam_f l1)
      have hl1 : 3 ≤ l1.length ∧ l1.length ≤ 24 := by simp [isCamB] at hcam; exact hcam.1
      have hwant : ∀ i : Nat, i < l1.length → 0 ≤ rd l1 (i : Int) ∧ rd l1 (i : Int) ≤ 30 := fun i hi => by
        have := rd_mem (l := l1) hi
        simp only [isCamB, Bool.and_eq_true, List.all_eq_true] at hcam
        have := hcam.2 _ this
        simpa [isH] using this
      have HWANT := Aside0.mk hwant
      obtain ⟨lo0, hlo0⟩ : ∃ e, bsN a0_0 a0_1 a0_2 a0_3 l1 31 0 30 = e := ⟨_, rfl⟩
      rw [hlo0] at h
      obtain ⟨rfl, rfl, rfl⟩ : (nearR a0_0 a0_1 a0_2 a0_3 l1 lo0).getD [] = r1 ∧ lo0 = r2 ∧ 0 = r3 := by simpa using h
      have HE := Aside0.mk hlo0
      have HBK0 := Aside0.mk (blk_new w (.cells #[.int .i64 a0_0, .int .i64 a0_1, .int .i64 a0_2, .int .i64 a0_3] 35))
      have hwne : w.heap.size < w.heap.size + 1 := by omega
      clear hrule hcam h hwant hlo0
      go_enter Tryz.func21, Tryz.ntmps21
      go_wp2_with (first | (go_at_call 51; refine (cam_isRule.calls a0_0 a0_1 a0_2 a0_3 true _ H1.out).mono ?_; rintro e w' ⟨rfl, hb⟩; have HB := Aside0.mk (below_step (below_alloc (Below.refl _ _) _) hb); have HBK := Aside0.mk (blk_below HBK0.out hb); clear hb) | (go_at_call 52; refine (cam_isCam.calls A1 c1 l1 true _ (Kd.C_below HR.out HB.out) HC1.out H2.out).mono ?_; rintro e w' ⟨rfl, ⟨⟨n, rfl⟩⟩⟩))
      have HB2 := Aside0.mk (pw_below_drewN HB.out n)
      have HBK2 := Aside0.mk (blk_drewN HBK.out n)
      clear HB HBK HBK0
      generalize World.drewN _ n = W1 at HB2 HBK2 ⊢
      go_loopg [7, 8] 31 (fun q v7 v8 wr => ∃ (a z : Int), v7 = .int .i64 a ∧ v8 = .int .i64 z ∧ Aside0 (0 ≤ a ∧ a ≤ z ∧ z ≤ 30 ∧ z - a ≤ (q : Int)) ∧ Aside0 (bsN a0_0 a0_1 a0_2 a0_3 l1 q a z = lo0) ∧ Aside0 (Below w.heap.size w wr) ∧ Aside0 (wr.heap[w.heap.size]? = some (.cells #[.int .i64 a0_0, .int .i64 a0_1, .int .i64 a0_2, .int .i64 a0_3] 35 (0, 0))))
      case atStart => exact ⟨0, 30, rfl, rfl, ⟨by omega⟩, HE, HB2, HBK2⟩
      case round =>
        clear HB2 HBK2 HE
        obtain ⟨a, z, rfl, rfl, HQ, HE, HB, HBK⟩ := hrel
        have hq := HQ.out
        by_cases hlt : a < z
        · have hltd : decide (a < z) = true := decide_eq_true hlt
          cases gk with
          | zero => omega
          | succ q =>
          have e1 : IntKind.i64.wrap (a + z) = a + z := IntWalk.i64_in _ ⟨by omega, by omega⟩
          obtain ⟨m, hm⟩ : ∃ m, (a + z) / 2 = m := ⟨_, rfl⟩
          have e2 : IntKind.i64.wrap ((a + z).tdiv 2) = m := by rw [IntWalk.i64_quo _ _ ⟨by omega, by omega, by omega⟩, hm]
          have e3 : IntKind.i64.wrap (m + 1) = m + 1 := IntWalk.i64_in _ ⟨by omega, by omega⟩
          have hmb : a ≤ m ∧ m < z := by omega
          have HE2 := Aside0.mk (show (if (nearR a0_0 a0_1 a0_2 a0_3 l1 m).isSome then bsN a0_0 a0_1 a0_2 a0_3 l1 q a m else bsN a0_0 a0_1 a0_2 a0_3 l1 q (m + 1) z) = lo0 by have := HE.out; unfold bsN at this; rw [if_pos hlt, hm] at this; exact this)
          clear hm HE
          go_wp2
          refine start_ (n := 12) (S := fun w' => w'.cell? ⟨w.heap.size, 0, none⟩ = some (.int .i64 a0_0) ∧ w'.cell? ⟨w.heap.size, 1, none⟩ = some (.int .i64 a0_1) ∧ w'.cell? ⟨w.heap.size, 2, none⟩ = some (.int .i64 a0_2) ∧ w'.cell? ⟨w.heap.size, 3, none⟩ = some (.int .i64 a0_3)) (ds := []) #[false, false, false, false, false, false, false, false, false, false, false, false] (by kernel_rfl) rfl rfl ⟨(blk_cell HBK.out 0).trans rfl, (blk_cell HBK.out 1).trans rfl, (blk_cell HBK.out 2).trans rfl, (blk_cell HBK.out 3).trans rfl⟩ (fun hHeld => ?_)
          have HBK5 := Aside0.mk (blk_drew HBK.out)
          have HB5 := Aside0.mk (below_drew HB.out)
          clear HBK HB
          generalize wr.drew = W5 at HBK5 HB5 hHeld ⊢
          refine pure_ (i := 2) (N := some 32) (v := ?_) (a' := ?_) #[false, false, true, false, false, false, false, false, false, false, false, false] rfl rfl (by kernel_rfl) (fun _ _ _ h => h) (Or.inl ⟨by rfl, ?_⟩) ?_ ?_
          rotate_left
          · intro w'
            go_simp
            with_reducible rfl
          rotate_left
          · simp only [Act.put, List.setIfInBounds_toArray, List.set_cons_zero, List.set_cons_succ, i64_w, i32_w]
            rfl
          refine pure_ (i := 3) (N := some 33) (v := ?_) (a' := ?_) #[false, false, true, true, false, false, false, false, false, false, false, false] rfl rfl (by kernel_rfl) (fun _ _ _ h => h) (Or.inl ⟨by rfl, ?_⟩) ?_ ?_
          rotate_left
          · intro w'
            go_simp
            with_reducible rfl
          rotate_left
          · simp only [Act.put, List.setIfInBounds_toArray, List.set_cons_zero, List.set_cons_succ, i64_w, i32_w]
            rfl
          refine take_ (i := 0) (N := some 30) (v := ?_) (a' := ?_) #[true, false, true, true, false, false, false, false, false, false, false, false] rfl rfl (by kernel_rfl) (fun _ _ _ h => h) (Or.inl ⟨by rfl, ?_⟩) hHeld ?_ ?_
          rotate_left
          · rintro w' ⟨s0, s1, s2, s3⟩
            go_simp
            with_reducible rfl
          rotate_left
          · simp only [Act.put, List.setIfInBounds_toArray, List.set_cons_zero, List.set_cons_succ, i64_w, i32_w]
            rfl
          refine take_ (i := 1) (N := some 31) (v := ?_) (a' := ?_) #[true, true, true, true, false, false, false, false, false, false, false, false] rfl rfl (by kernel_rfl) (fun _ _ _ h => h) (Or.inl ⟨by rfl, ?_⟩) hHeld ?_ ?_
          rotate_left
          · rintro w' ⟨s0, s1, s2, s3⟩
            go_simp
            with_reducible rfl
          rotate_left
          · simp only [Act.put, List.setIfInBounds_toArray, List.set_cons_zero, List.set_cons_succ, i64_w, i32_w]
            rfl
          refine one_ (i := 4) (N := some 34) #[true, true, true, true, true, false, false, false, false, false, false, false] rfl rfl (by kernel_rfl) (by decide) (fun K hK => ?_)
          refine goes_ Tryz.func54 (by kernel_rfl) rfl #[.agg #[.int .i64 a0_0, .int .i64 a0_1, .int .i64 a0_2, .int .i64 a0_3], .slice A1 l1.length c1, .int .i64 m] (by rfl) rfl rfl (by (try simp only [List.map_toArray, List.map_cons, List.map_nil]); first | done | rfl) ?_
          refine (cam_near.calls (l1.length + 1) a0_0 a0_1 a0_2 a0_3 A1 c1 l1 m (nearL a0_0 a0_1 m l1) _ (Kd.C_below HR.out HB5.out) HC1.out (near_f _ _ _ _ _ _ (by omega) HWANT.out (by omega))).mono ?_
          rintro e1 W6 ⟨v6, rfl, hR6, hb6⟩
          have HBK6 := Aside0.mk (blk_below HBK5.out hb6)
          have HB6 := Aside0.mk (HB5.out.trans (hb6.mono HB5.out.size))
          obtain ⟨A6, c6, rfl, hc6, hC6⟩ := Kd.R_reads hR6
          obtain ⟨ad6, rfl, hS6⟩ := SpansAt.of_C hC6 (by rw [nearL_len]; omega)
          have HS6 := Aside0.mk hS6
          clear HBK5 HB5 hb6 hR6 hC6 hS6
          refine ⟨_, rfl, hK.out _ _ ⟨(blk_cell HBK6.out 0).trans rfl, (blk_cell HBK6.out 1).trans rfl, (blk_cell HBK6.out 2).trans rfl, (blk_cell HBK6.out 3).trans rfl⟩ (fun hHeld => ?_)⟩
          clear hK K
          refine norm_ (a' := ?_) ?_ ?_
          rotate_left
          · show Act.put _ (some 34) _ = _
            simp only [Act.put, List.setIfInBounds_toArray, List.set_cons_zero, List.set_cons_succ, i64_w, i32_w]
            rfl
          refine one_ (i := 5) (N := some 35) #[true, true, true, true, true, true, false, false, false, false, false, false] rfl rfl (by kernel_rfl) (by decide) (fun K hK => ?_)
          refine goes_ Tryz.func53 (by kernel_rfl) rfl #[.agg #[.int .i64 a0_0, .int .i64 a0_1, .int .i64 a0_2, .int .i64 a0_3], .slice (some ad6) (nearL a0_0 a0_1 m l1).length c6] (by rfl) rfl rfl (by (try simp only [List.map_toArray, List.map_cons, List.map_nil]); first | done | rfl) ?_
          refine (searched_calls a0_0 a0_1 a0_2 a0_3 (some ad6) (nearL a0_0 a0_1 m l1).length c6 _).mono ?_
          rintro e1 W7 ⟨b7, rfl, hb7, hbl7, hm7⟩
          have HBK7 := Aside0.mk (blk_below HBK6.out hbl7)
          have HB7 := Aside0.mk (HB6.out.trans (hbl7.mono HB6.out.size))
          have HS7 := Aside0.mk (HS6.out.below hbl7)
          have HM7 := Aside0.mk (hm7 (restF (nearL a0_0 a0_1 m l1) a0_2))
          have HAB := Aside0.mk (show ad6.block ≠ b7 from fun e => by have h1 := World.block_lt_of_cell? _ _ (HS6.out 0 (by rw [nearL_len]; omega)).1; rw [add_block] at h1; omega)
          have HBW := Aside0.mk (show w.heap.size < b7 from Nat.lt_of_lt_of_le (blk_lt HBK6.out) hb7)
          clear HBK6 HB6 HS6 hb7 hbl7 hm7
          refine ⟨_, rfl, hK.out _ _ ⟨(blk_cell HBK7.out 0).trans rfl, (blk_cell HBK7.out 1).trans rfl, (blk_cell HBK7.out 2).trans rfl, (blk_cell HBK7.out 3).trans rfl⟩ (fun hHeld => ?_)⟩
          clear hK K
          refine norm_ (a' := ?_) ?_ ?_
          rotate_left
          · show Act.put _ (some 35) _ = _
            simp only [Act.put, List.setIfInBounds_toArray, List.set_cons_zero, List.set_cons_succ, i64_w, i32_w]
            rfl
          refine one_ (i := 6) (N := some 36) #[true, true, true, true, true, true, true, false, false, false, false, false] rfl rfl (by kernel_rfl) (by decide) (fun K hK => ?_)
          refine goes_ Tryz.func55 (by kernel_rfl) rfl #[searchV a0_0 a0_1 a0_2 a0_3 (some ad6) (nearL a0_0 a0_1 m l1).length c6 (.map (some b7))] (by rfl) rfl rfl (by (try simp only [List.map_toArray, List.map_cons, List.map_nil]); first | done | rfl) ?_
          refine (cam_calls a0_0 a0_1 a0_2 a0_3 ad6 c6 b7 (nearL a0_0 a0_1 m l1) (by omega) (by omega) (by rw [nearL_len]; omega) (by rw [nearL_len]; omega) (nearL_lo _ _ _ _ (by omega) HWANT.out (by omega)) (nearL_hi _ _ _ _ (by omega) HWANT.out (by omega)) _ [] HM7.out HS7.out HAB.out).mono ?_
          rintro e1 W8 ⟨v8, rfl, hR8, hg8⟩
          generalize hbb8 : (camR (nearL a0_0 a0_1 m l1) a0_2 a0_3).isSome = bb8
          have HBB8 := Aside0.mk hbb8
          clear hbb8
          have HBK8 := Aside0.mk (blk_grown HBK7.out hg8 (by simp; have := HBW.out; omega))
          have HB8 := Aside0.mk (pw_below_grown HB7.out (some b7) HB7.out.size hg8 (fun k e => by cases e; exact Nat.le_of_lt HBW.out))
          have HR8 := Aside0.mk (Kd.R_lower hR8 HB7.out.size)
          clear HBK7 HB7 HS7 HM7 HAB HBW hR8 hg8
          refine ⟨_, rfl, hK.out _ _ ⟨(blk_cell HBK8.out 0).trans rfl, (blk_cell HBK8.out 1).trans rfl, (blk_cell HBK8.out 2).trans rfl, (blk_cell HBK8.out 3).trans rfl⟩ (fun hHeld => ?_)⟩
          clear hK K
          refine norm_ (a' := ?_) ?_ ?_
          rotate_left
          · show Act.put _ (some 36) _ = _
            simp only [Act.put, List.setIfInBounds_toArray, List.set_cons_zero, List.set_cons_succ, i64_w, i32_w]
            rfl
          refine pure_ (i := 7) (N := some 29) (v := ?_) (a' := ?_) #[true, true, true, true, true, true, true, true, false, false, false, false] rfl rfl (by kernel_rfl) (fun _ _ _ h => h) (Or.inl ⟨by rfl, ?_⟩) ?_ ?_
          rotate_left
          · intro w'
            go_simp
            with_reducible rfl
          rotate_left
          · simp only [Act.put, List.setIfInBounds_toArray, List.set_cons_zero, List.set_cons_succ, i64_w, i32_w]
            rfl
          refine pure_ (i := 8) (N := some 37) (v := ?_) (a' := ?_) #[true, true, true, true, true, true, true, true, true, false, false, false] rfl rfl (by kernel_rfl) (fun _ _ _ h => h) (Or.inl ⟨by rfl, ?_⟩) ?_ ?_
          rotate_left
          · intro w'
            go_simp
            with_reducible rfl
          rotate_left
          · simp only [Act.put, List.setIfInBounds_toArray, List.set_cons_zero, List.set_cons_succ, i64_w, i32_w]
            rfl
          refine pure_ (i := 9) (N := some 38) (v := ?_) (a' := ?_) #[true, true, true, true, true, true, true, true, true, true, false, false] rfl rfl (by kernel_rfl) (fun _ _ _ h => h) (Or.inl ⟨by rfl, ?_⟩) ?_ ?_
          rotate_left
          · intro w'
            go_simp
            with_reducible rfl
          rotate_left
          · simp only [Act.put, List.setIfInBounds_toArray, List.set_cons_zero, List.set_cons_succ, i64_w, i32_w]
            rfl
          refine pure_ (i := 10) (N := some 10) (v := ?_) (a' := ?_) #[true, true, true, true, true, true, true, true, true, true, true, false] rfl rfl (by kernel_rfl) (fun _ _ _ h => h) (Or.inl ⟨by rfl, ?_⟩) ?_ ?_
          rotate_left
          · intro w'
            go_simp
            with_reducible rfl
          rotate_left
          · simp only [Act.put, List.setIfInBounds_toArray, List.set_cons_zero, List.set_cons_succ, i64_w, i32_w]
            rfl
          refine pure_ (i := 11) (N := some 11) (v := ?_) (a' := ?_) #[true, true, true, true, true, true, true, true, true, true, true, true] rfl rfl (by kernel_rfl) (fun _ _ _ h => h) (Or.inl ⟨by rfl, ?_⟩) ?_ ?_
          rotate_left
          · intro w'
            go_simp
            with_reducible rfl
          rotate_left
          · simp only [Act.put, List.setIfInBounds_toArray, List.set_cons_zero, List.set_cons_succ, i64_w, i32_w]
            rfl
          refine done_ (by kernel_rfl) ?_
          cases bb8 with
          | true =>
            have HE3 := Aside0.mk (show bsN a0_0 a0_1 a0_2 a0_3 l1 q a m = lo0 by have := HE2.out; rw [show (nearR a0_0 a0_1 a0_2 a0_3 l1 m).isSome = true from HBB8.out, if_pos rfl] at this; exact this)
            clear HE2
            go_wp2
            go_roundg q
            case measure => omega
            case rel => exact ⟨a, m, rfl, rfl, ⟨by omega⟩, HE3, HB8, HBK8⟩
          | false =>
            have HE3 := Aside0.mk (show bsN a0_0 a0_1 a0_2 a0_3 l1 q (m + 1) z = lo0 by have := HE2.out; rw [show (nearR a0_0 a0_1 a0_2 a0_3 l1 m).isSome = false from HBB8.out, if_neg (by simp)] at this; exact this)
            clear HE2
            go_wp2
            go_roundg q
            case measure => omega
            case rel => exact ⟨m + 1, z, rfl, rfl, ⟨by omega⟩, HE3, HB8, HBK8⟩
        · have hltd : decide (a < z) = false := decide_eq_false hlt
          have HE2 := Aside0.mk (show a = lo0 by have := HE.out; cases gk with | zero => exact this | succ q => unfold bsN at this; rw [if_neg hlt] at this; exact this)
          obtain rfl := HE2.out
          clear HE HE2
          go_wp2
          refine start_ (n := 12) (S := fun w' => w'.cell? ⟨w.heap.size, 0, none⟩ = some (.int .i64 a0_0) ∧ w'.cell? ⟨w.heap.size, 1, none⟩ = some (.int .i64 a0_1) ∧ w'.cell? ⟨w.heap.size, 2, none⟩ = some (.int .i64 a0_2) ∧ w'.cell? ⟨w.heap.size, 3, none⟩ = some (.int .i64 a0_3)) (ds := []) #[false, false, false, false, false, false, false, false, false, false, false, false] (by kernel_rfl) rfl rfl ⟨(blk_cell HBK.out 0).trans rfl, (blk_cell HBK.out 1).trans rfl, (blk_cell HBK.out 2).trans rfl, (blk_cell HBK.out 3).trans rfl⟩ (fun hHeld => ?_)
          have HBK5 := Aside0.mk (blk_drew HBK.out)
          have HB5 := Aside0.mk (below_drew HB.out)
          clear HBK HB
          generalize wr.drew = W5 at HBK5 HB5 hHeld ⊢
          refine pure_ (i := 2) (N := some 46) (v := ?_) (a' := ?_) #[false, false, true, false, false, false, false, false, false, false, false, false] rfl rfl (by kernel_rfl) (fun _ _ _ h => h) (Or.inl ⟨by rfl, ?_⟩) ?_ ?_
          rotate_left
          · intro w'
            go_simp
            with_reducible rfl
          rotate_left
          · simp only [Act.put, List.setIfInBounds_toArray, List.set_cons_zero, List.set_cons_succ, i64_w, i32_w]
            rfl
          refine pure_ (i := 3) (N := some 47) (v := ?_) (a' := ?_) #[false, false, true, true, false, false, false, false, false, false, false, false] rfl rfl (by kernel_rfl) (fun _ _ _ h => h) (Or.inl ⟨by rfl, ?_⟩) ?_ ?_
          rotate_left
          · intro w'
            go_simp
            with_reducible rfl
          rotate_left
          · simp only [Act.put, List.setIfInBounds_toArray, List.set_cons_zero, List.set_cons_succ, i64_w, i32_w]
            rfl
          refine take_ (i := 0) (N := some 44) (v := ?_) (a' := ?_) #[true, false, true, true, false, false, false, false, false, false, false, false] rfl rfl (by kernel_rfl) (fun _ _ _ h => h) (Or.inl ⟨by rfl, ?_⟩) hHeld ?_ ?_
          rotate_left
          · rintro w' ⟨s0, s1, s2, s3⟩
            go_simp
            with_reducible rfl
          rotate_left
          · simp only [Act.put, List.setIfInBounds_toArray, List.set_cons_zero, List.set_cons_succ, i64_w, i32_w]
            rfl
          refine take_ (i := 1) (N := some 45) (v := ?_) (a' := ?_) #[true, true, true, true, false, false, false, false, false, false, false, false] rfl rfl (by kernel_rfl) (fun _ _ _ h => h) (Or.inl ⟨by rfl, ?_⟩) hHeld ?_ ?_
          rotate_left
          · rintro w' ⟨s0, s1, s2, s3⟩
            go_simp
            with_reducible rfl
          rotate_left
          · simp only [Act.put, List.setIfInBounds_toArray, List.set_cons_zero, List.set_cons_succ, i64_w, i32_w]
            rfl
          refine one_ (i := 4) (N := some 48) #[true, true, true, true, true, false, false, false, false, false, false, false] rfl rfl (by kernel_rfl) (by decide) (fun K hK => ?_)
          refine goes_ Tryz.func54 (by kernel_rfl) rfl #[.agg #[.int .i64 a0_0, .int .i64 a0_1, .int .i64 a0_2, .int .i64 a0_3], .slice A1 l1.length c1, .int .i64 a] (by rfl) rfl rfl (by (try simp only [List.map_toArray, List.map_cons, List.map_nil]); first | done | rfl) ?_
          refine (cam_near.calls (l1.length + 1) a0_0 a0_1 a0_2 a0_3 A1 c1 l1 a (nearL a0_0 a0_1 a l1) _ (Kd.C_below HR.out HB5.out) HC1.out (near_f _ _ _ _ _ _ (by omega) HWANT.out (by omega))).mono ?_
          rintro e1 W6 ⟨v6, rfl, hR6, hb6⟩
          have HBK6 := Aside0.mk (blk_below HBK5.out hb6)
          have HB6 := Aside0.mk (HB5.out.trans (hb6.mono HB5.out.size))
          obtain ⟨A6, c6, rfl, hc6, hC6⟩ := Kd.R_reads hR6
          obtain ⟨ad6, rfl, hS6⟩ := SpansAt.of_C hC6 (by rw [nearL_len]; omega)
          have HS6 := Aside0.mk hS6
          clear HBK5 HB5 hb6 hR6 hC6 hS6
          refine ⟨_, rfl, hK.out _ _ ⟨(blk_cell HBK6.out 0).trans rfl, (blk_cell HBK6.out 1).trans rfl, (blk_cell HBK6.out 2).trans rfl, (blk_cell HBK6.out 3).trans rfl⟩ (fun hHeld => ?_)⟩
          clear hK K
          refine norm_ (a' := ?_) ?_ ?_
          rotate_left
          · show Act.put _ (some 48) _ = _
            simp only [Act.put, List.setIfInBounds_toArray, List.set_cons_zero, List.set_cons_succ, i64_w, i32_w]
            rfl
          refine one_ (i := 5) (N := some 49) #[true, true, true, true, true, true, false, false, false, false, false, false] rfl rfl (by kernel_rfl) (by decide) (fun K hK => ?_)
          refine goes_ Tryz.func53 (by kernel_rfl) rfl #[.agg #[.int .i64 a0_0, .int .i64 a0_1, .int .i64 a0_2, .int .i64 a0_3], .slice (some ad6) (nearL a0_0 a0_1 a l1).length c6] (by rfl) rfl rfl (by (try simp only [List.map_toArray, List.map_cons, List.map_nil]); first | done | rfl) ?_
          refine (searched_calls a0_0 a0_1 a0_2 a0_3 (some ad6) (nearL a0_0 a0_1 a l1).length c6 _).mono ?_
          rintro e1 W7 ⟨b7, rfl, hb7, hbl7, hm7⟩
          have HBK7 := Aside0.mk (blk_below HBK6.out hbl7)
          have HB7 := Aside0.mk (HB6.out.trans (hbl7.mono HB6.out.size))
          have HS7 := Aside0.mk (HS6.out.below hbl7)
          have HM7 := Aside0.mk (hm7 (restF (nearL a0_0 a0_1 a l1) a0_2))
          have HAB := Aside0.mk (show ad6.block ≠ b7 from fun e => by have h1 := World.block_lt_of_cell? _ _ (HS6.out 0 (by rw [nearL_len]; omega)).1; rw [add_block] at h1; omega)
          have HBW := Aside0.mk (show w.heap.size < b7 from Nat.lt_of_lt_of_le (blk_lt HBK6.out) hb7)
          clear HBK6 HB6 HS6 hb7 hbl7 hm7
          refine ⟨_, rfl, hK.out _ _ ⟨(blk_cell HBK7.out 0).trans rfl, (blk_cell HBK7.out 1).trans rfl, (blk_cell HBK7.out 2).trans rfl, (blk_cell HBK7.out 3).trans rfl⟩ (fun hHeld => ?_)⟩
          clear hK K
          refine norm_ (a' := ?_) ?_ ?_
          rotate_left
          · show Act.put _ (some 49) _ = _
            simp only [Act.put, List.setIfInBounds_toArray, List.set_cons_zero, List.set_cons_succ, i64_w, i32_w]
            rfl
          refine one_ (i := 6) (N := some 50) #[true, true, true, true, true, true, true, false, false, false, false, false] rfl rfl (by kernel_rfl) (by decide) (fun K hK => ?_)
          refine goes_ Tryz.func55 (by kernel_rfl) rfl #[searchV a0_0 a0_1 a0_2 a0_3 (some ad6) (nearL a0_0 a0_1 a l1).length c6 (.map (some b7))] (by rfl) rfl rfl (by (try simp only [List.map_toArray, List.map_cons, List.map_nil]); first | done | rfl) ?_
          refine (cam_calls a0_0 a0_1 a0_2 a0_3 ad6 c6 b7 (nearL a0_0 a0_1 a l1) (by omega) (by omega) (by rw [nearL_len]; omega) (by rw [nearL_len]; omega) (nearL_lo _ _ _ _ (by omega) HWANT.out (by omega)) (nearL_hi _ _ _ _ (by omega) HWANT.out (by omega)) _ [] HM7.out HS7.out HAB.out).mono ?_
          rintro e1 W8 ⟨v8, rfl, hR8, hg8⟩
          generalize hbb8 : (camR (nearL a0_0 a0_1 a l1) a0_2 a0_3).isSome = bb8
          have HBB8 := Aside0.mk hbb8
          clear hbb8
          have HBK8 := Aside0.mk (blk_grown HBK7.out hg8 (by simp; have := HBW.out; omega))
          have HB8 := Aside0.mk (pw_below_grown HB7.out (some b7) HB7.out.size hg8 (fun k e => by cases e; exact Nat.le_of_lt HBW.out))
          have HR8 := Aside0.mk (Kd.R_lower hR8 HB7.out.size)
          clear HBK7 HB7 HS7 HM7 HAB HBW hR8 hg8
          refine ⟨_, rfl, hK.out _ _ ⟨(blk_cell HBK8.out 0).trans rfl, (blk_cell HBK8.out 1).trans rfl, (blk_cell HBK8.out 2).trans rfl, (blk_cell HBK8.out 3).trans rfl⟩ (fun hHeld => ?_)⟩
          clear hK K
          refine norm_ (a' := ?_) ?_ ?_
          rotate_left
          · show Act.put _ (some 50) _ = _
            simp only [Act.put, List.setIfInBounds_toArray, List.set_cons_zero, List.set_cons_succ, i64_w, i32_w]
            rfl
          refine pure_ (i := 7) (N := some 43) (v := ?_) (a' := ?_) #[true, true, true, true, true, true, true, true, false, false, false, false] rfl rfl (by kernel_rfl) (fun _ _ _ h => h) (Or.inl ⟨by rfl, ?_⟩) ?_ ?_
          rotate_left
          · intro w'
            go_simp
            with_reducible rfl
          rotate_left
          · simp only [Act.put, List.setIfInBounds_toArray, List.set_cons_zero, List.set_cons_succ, i64_w, i32_w]
            rfl
          refine pure_ (i := 8) (N := some 51) (v := ?_) (a' := ?_) #[true, true, true, true, true, true, true, true, true, false, false, false] rfl rfl (by kernel_rfl) (fun _ _ _ h => h) (Or.inl ⟨by rfl, ?_⟩) ?_ ?_
          rotate_left
          · intro w'
            go_simp
            with_reducible rfl
          rotate_left
          · simp only [Act.put, List.setIfInBounds_toArray, List.set_cons_zero, List.set_cons_succ, i64_w, i32_w]
            rfl
          refine pure_ (i := 9) (N := some 52) (v := ?_) (a' := ?_) #[true, true, true, true, true, true, true, true, true, true, false, false] rfl rfl (by kernel_rfl) (fun _ _ _ h => h) (Or.inl ⟨by rfl, ?_⟩) ?_ ?_
          rotate_left
          · intro w'
            go_simp
            with_reducible rfl
          rotate_left
          · simp only [Act.put, List.setIfInBounds_toArray, List.set_cons_zero, List.set_cons_succ, i64_w, i32_w]
            rfl
          refine pure_ (i := 10) (N := some 12) (v := ?_) (a' := ?_) #[true, true, true, true, true, true, true, true, true, true, true, false] rfl rfl (by kernel_rfl) (fun _ _ _ h => h) (Or.inl ⟨by rfl, ?_⟩) ?_ ?_
          rotate_left
          · intro w'
            go_simp
            with_reducible rfl
          rotate_left
          · simp only [Act.put, List.setIfInBounds_toArray, List.set_cons_zero, List.set_cons_succ, i64_w, i32_w]
            rfl
          refine pure_ (i := 11) (N := some 13) (v := ?_) (a' := ?_) #[true, true, true, true, true, true, true, true, true, true, true, true] rfl rfl (by kernel_rfl) (fun _ _ _ h => h) (Or.inl ⟨by rfl, ?_⟩) ?_ ?_
          rotate_left
          · intro w'
            go_simp
            with_reducible rfl
          rotate_left
          · simp only [Act.put, List.setIfInBounds_toArray, List.set_cons_zero, List.set_cons_succ, i64_w, i32_w]
            rfl
          refine done_ (by kernel_rfl) ?_
          go_wp2
          go_ret3
          exact ⟨_, rfl, HR8.out, HB8.out⟩
end Go.Proofs.YtbjimmemcmjpcabGreatDoor.Print
end
section
set_option linter.unusedVariables false
set_option linter.unusedSimpArgs false
namespace Go.Proofs.YtbjimmemcmjpcabGreatDoor.Print
open Go.RowKit Go.Proofs.YtbjimmemcmjpcabGreatDoorW.PrintWords Go.Proofs.YtbjimmemcmjpcabGreatDoorW.PrintLast Go.Proofs.YtbjimmemcmjpcabGreatDoorW.PrintMore
theorem upto_M (a b : Int) : upto a b = uptoM a b := rfl
theorem cst_M (a b : Int) : cst a b = cstM a b := rfl
theorem restV_M (S : List S48) (sl : Int) : ∀ (d i : Nat) (h f : Int), restV S sl d ((i : Int), h, f) = rM (lo S) (hi S) sl d i h f
  | 0, i, h, f => rfl
  | d + 1, i, h, f => by
    have ih : ∀ n, restV S sl d ((i : Int) + 1, n, f) = rM (lo S) (hi S) sl d (i + 1) n f := fun n => by rw [← restV_M S sl d (i + 1) n f]; rfl
    unfold restV rM
    simp only [ih]
    rfl
theorem camW_M (S : List S48) (sl : Int) : ∀ (d : Nat) (pre : List Int) (h f left : Int), rd (pre ++ [h]) 0 = f → camW S sl d (pre ++ [h]) left = (camM (lo S) (hi S) sl d pre.length h f left).map ((pre ++ [h]) ++ ·)
  | 0, pre, h, f, left, hf => by simp [camW, camM]
  | d + 1, pre, h, f, left, hf => by
    have hne : pre ++ [h] ≠ [] := by simp
    have hlast : rd (pre ++ [h]) (((pre ++ [h]).length : Int) - 1) = h := by simp [rd, List.getD_eq_getElem?_getD]
    unfold camW camM
    unfold lowH highH firstH spentH
    simp only [if_neg hne, hlast, hf]
    rw [show (pre ++ [h]).length = pre.length + 1 by simp, upto_M]
    rw [List.map_findSome?]
    congr 1
    funext n
    show (if left < restV S sl d (((pre.length + 1 : Nat) : Int), n, f) + cst h n then none else camW S sl d (pre ++ [h] ++ [n]) (left - cst h n)) = _
    rw [restV_M, cst_M]
    by_cases hlt : left < rM (lo S) (hi S) sl d (pre.length + 1) n f + cstM h n
    · simp [hlt]
    · have := camW_M S sl d (pre ++ [h]) n f (left - cstM h n) (by rw [← hf]; cases pre <;> simp [rd, List.getD_eq_getElem?_getD])
      rw [show (pre ++ [h]).length = pre.length + 1 by simp] at this
      rw [if_neg hlt, this]
      show _ = Option.map _ (if left < rM (lo S) (hi S) sl d (pre.length + 1) n f + cstM h n then none else _)
      rw [if_neg hlt]
      cases camM (lo S) (hi S) sl d (pre.length + 1) n f (left - cstM h n) <;> simp
theorem camR_M (S : List S48) (sl ch : Int) (d : Nat) (hS : S.length = d + 1) : camR S sl ch = (uptoM (lo S 0) (hi S 0)).findSome? fun n => if ch < rM (lo S) (hi S) sl d 0 n n then none else (camM (lo S) (hi S) sl d 0 n n ch).map (n :: ·) := by
  unfold camR
  rw [hS, camW_succ]
  show (uptoM (lo S 0) (hi S 0)).findSome? _ = _
  congr 1
  funext n
  unfold gW
  show (if ch < restV S sl d (((0 : Nat) : Int), n, n) + 0 then none else camW S sl d ([] ++ [n]) (ch - 0)) = _
  rw [restV_M, Int.add_zero, Int.sub_zero, camW_M S sl d [] n n ch (by simp [rd])]
  rfl
theorem camR_first (S : List S48) (sl ch : Int) (d : Nat) (hS : S.length = d + 1) (hc : ch < 1000) : IsFirst (Fit (lo S) (hi S) sl ch d) (camR S sl ch) := by
  rw [camR_M S sl ch d hS]
  exact cam_first d ch hc
end Go.Proofs.YtbjimmemcmjpcabGreatDoor.Print
end
section
set_option linter.unusedVariables false
set_option linter.unusedSimpArgs false
namespace Go.Proofs.YtbjimmemcmjpcabGreatDoor.Print
open Go.RowKit Go.Proofs.YtbjimmemcmjpcabGreatDoorW.PrintWords Go.Proofs.YtbjimmemcmjpcabGreatDoorW.PrintLast Go.Proofs.YtbjimmemcmjpcabGreatDoorW.PrintMore
theorem rd_atM (l : List Int) (k : Nat) : rd l (k : Int) = atM l k := by simp [rd, atM]
theorem nearL_loE (lw hg e : Int) (want : List Int) (k : Nat) (h : k < want.length) : lo (nearL lw hg e want) k = loE lw want e k := by
  unfold lo loE; rw [nearL_rd _ _ _ _ _ h, rd_atM]
theorem nearL_hiE (lw hg e : Int) (want : List Int) (k : Nat) (h : k < want.length) : hi (nearL lw hg e want) k = hiE hg want e k := by
  unfold hi hiE; rw [nearL_rd _ _ _ _ _ h, rd_atM]
abbrev NearFit (lw hg s c : Int) (want : List Int) (e : Int) (l : List Int) : Prop := FitN (loE lw want e) (hiE hg want e) s c want.length l
theorem near_first (lw hg s c e : Int) (want : List Int) (hw : 1 ≤ want.length) (hc : c < 1000) : IsFirst (NearFit lw hg s c want e) (nearR lw hg s c want e) := by
  obtain ⟨d, hd⟩ : ∃ d, want.length = d + 1 := ⟨want.length - 1, by omega⟩
  have h := camR_first (nearL lw hg e want) s c d (by rw [nearL_len, hd]) hc
  have hiff : ∀ l, Fit (lo (nearL lw hg e want)) (hi (nearL lw hg e want)) s c d l ↔ NearFit lw hg s c want e l := by
    intro l
    rw [Fit_iff]
    constructor
    · intro k
      exact ⟨by rw [hd]; exact k.len, fun i hi => by have := k.span i (by omega); rwa [nearL_loE _ _ _ _ _ hi, nearL_hiE _ _ _ _ _ hi] at this, fun i hi => by have := k.slope i (by omega); rw [hd]; exact this, by rw [hd]; exact k.chg⟩
    · intro k
      exact ⟨by rw [← hd]; exact k.len, fun i hi => by have := k.span i (by omega); rwa [nearL_loE _ _ _ _ _ (by omega), nearL_hiE _ _ _ _ _ (by omega)], fun i hi => by have := k.slope i (by omega); rw [← hd]; exact this, by rw [← hd]; exact k.chg⟩
  have hPQ : Fit (lo (nearL lw hg e want)) (hi (nearL lw hg e want)) s c d = NearFit lw hg s c want e := by funext l; exact propext (hiff l)
  rw [hPQ] at h
  exact h
theorem near_some (lw hg s c e : Int) (want : List Int) (hw : 1 ≤ want.length) (hc : c < 1000) : (nearR lw hg s c want e).isSome = true ↔ ∃ l, NearFit lw hg s c want e l := by
  have h := near_first lw hg s c e want hw hc
  cases hn : nearR lw hg s c want e with
  | none => rw [hn] at h; exact ⟨fun k => by simp at k, fun ⟨l, hl⟩ => absurd hl (h l)⟩
  | some q => rw [hn] at h; exact ⟨fun _ => ⟨q, h.1⟩, fun _ => rfl⟩
theorem bsN_M (lw hg s c : Int) (want : List Int) : ∀ (f : Nat) (a z : Int), bsN lw hg s c want f a z = bsM (fun e => (nearR lw hg s c want e).isSome) f a z
  | 0, a, z => rfl
  | f + 1, a, z => by
    unfold bsN bsM
    rw [bsN_M lw hg s c want f, bsN_M lw hg s c want f]
theorem near_least (lw hg s c : Int) (want : List Int) (hr : (0 ≤ lw ∧ lw ≤ hg ∧ hg ≤ 30) ∧ 0 ≤ s ∧ (0 ≤ c ∧ c ≤ 24)) (hw : 1 ≤ want.length) (hh : ∀ k, k < want.length → 0 ≤ atM want k ∧ atM want k ≤ 30) :
    IsLeast (fun e => ∃ l, NearFit lw hg s c want e l) (bsN lw hg s c want 31 0 30) ∧ 0 ≤ bsN lw hg s c want 31 0 30 ∧ bsN lw hg s c want 31 0 30 ≤ 30 := by
  rw [bsN_M]
  have hs : ∀ e, (nearR lw hg s c want e).isSome = true ↔ ∃ l, NearFit lw hg s c want e l := fun e => near_some lw hg s c e want hw (by omega)
  have hm : ∀ x y : Int, x ≤ y → (nearR lw hg s c want x).isSome = true → (nearR lw hg s c want y).isSome = true := by
    intro x y hxy hx
    obtain ⟨l, hl⟩ := (hs x).1 hx
    exact (hs y).2 ⟨l, hl.mono (fun k _ => by unfold loE; omega) (fun k _ => by unfold hiE; omega) (by omega) (by omega)⟩
  have h := bsM_least (P := fun e => (nearR lw hg s c want e).isSome) hm 31 0 30 (by omega) (by omega) ((hs 30).2 ⟨_, fit_always hr.1.1 hr.1.2.1 hr.1.2.2 hr.2.1 hr.2.2.1 hh⟩) (fun x hx => by
    cases hb : (nearR lw hg s c want x).isSome with
    | false => rfl
    | true =>
      obtain ⟨l, hl⟩ := (hs x).1 hb
      have := (FitE_iff.1 hl).2 0 (by omega)
      omega)
  refine ⟨⟨(hs _).1 h.1.1, fun x hx k => h.1.2 x hx ((hs x).2 k)⟩, h.2⟩
end Go.Proofs.YtbjimmemcmjpcabGreatDoor.Print
end

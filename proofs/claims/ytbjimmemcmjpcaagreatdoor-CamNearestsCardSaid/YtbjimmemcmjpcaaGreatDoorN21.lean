/- The law's Go function answers true for every input, and leaves its arguments as they were: what the functions that it reaches compute, the plain law, the row, the card. Joined by wip/pack.py. -/
import Derived.Test.YtbjimmemcmjpcaaGreatDoorN10
import Derived.Test.YtbjimmemcmjpcaaGreatDoorN15
import Derived.Test.YtbjimmemcmjpcaaGreatDoorN6
import Derived.Test.YtbjimmemcmjpcaaGreatDoorN19
import Derived.Test.YtbjimmemcmjpcaaGreatDoorN20
import Derived.Test.YtbjimmemcmjpcaaGreatDoorN4
import Derived.Test.YtbjimmemcmjpcaaGreatDoorN3
set_option linter.unusedVariables false
set_option linter.unusedSimpArgs false
set_option linter.unusedSectionVars false
section
namespace Go.Proofs.YtbjimmemcmjpcaaGreatDoor.Print
open Go.RowKit YtbjimmemcmjpcaaGreatDoorW.PrintWords YtbjimmemcmjpcaaGreatDoorW.PrintLast YtbjimmemcmjpcaaGreatDoorW.PrintMore
theorem near_is (lw hg s c E : Int) (want r : List Int) (hr : ruleB lw hg s c = true) (hc : isCamB want = true) (h1 : nearR lw hg s c want E = some r) (h0 : nearR lw hg s c want (E - 1) = none) : cam_Nearest.f lw hg s c want = some (r, E, 0) := by
 have hrb : (0 ≤ lw ∧ lw ≤ hg ∧ hg ≤ 30) ∧ (0 ≤ s ∧ s ≤ 30) ∧ (0 ≤ c ∧ c ≤ 24) := by
  have h := hr
  simp [ruleB] at h
  omega
 have hw : 3 ≤ want.length ∧ ∀ k, k < want.length → 0 ≤ atM want k ∧ atM want k ≤ 30 := by
  have h := hc
  simp only [isCamB, Bool.and_eq_true, List.all_eq_true, decide_eq_true_eq] at h
  refine ⟨h.1.1, fun k hk => ?_⟩
  have := h.2 (atM want k) (by simp [atM, List.getD_eq_getElem?_getD, hk])
  simpa [isH] using this
 have hl := (near_least lw hg s c want ⟨hrb.1, hrb.2.1.1, hrb.2.2⟩ (by omega) hw.2).1
 have hs := fun e => near_some lw hg s c e want (by omega) (by omega)
 have hE : IsLeast (fun e => ∃ l, NearFit lw hg s c want e l) E := by
  refine ⟨(hs E).1 (by rw [h1]; rfl), fun x hx => ?_⟩
  rintro ⟨l, hl⟩
  have : ∃ l, NearFit lw hg s c want (E - 1) l := ⟨l, hl.mono (fun k _ => by unfold loE; omega) (fun k _ => by unfold hiE; omega) (by omega) (by omega)⟩
  have := (hs (E - 1)).2 this
  rw [h0] at this
  cases this
 have hEE := hl.unique hE
 unfold cam_Nearest.f
 rw [if_pos ⟨hr, hc⟩, hEE, h1]
 rfl
set_option maxRecDepth 100000
theorem ev_near1 : cam_Nearest.f 0 10 2 24 [0, 0, 9, 0] = some ([1, 3, 5, 3], 4, 0) := near_is 0 10 2 24 4 _ _ (by decide +kernel) (by decide +kernel) (by decide +kernel) (by decide +kernel)
theorem ev_near2 : cam_Nearest.f 0 10 10 2 [1, 2, 8, 9, 8, 2] = some ([1, 1, 8, 8, 8, 1], 1, 0) := near_is 0 10 10 2 1 _ _ (by decide +kernel) (by decide +kernel) (by decide +kernel) (by decide +kernel)
theorem ev_known : cam_Known.f 0 10 2 24 4 [⟨0, 1, 1⟩, ⟨2, 6, 0⟩] = some ([⟨2, 2⟩, ⟨4, 4⟩, ⟨6, 6⟩, ⟨4, 4⟩], 0) := by kernel_rfl
theorem ev_follow : cam_Follow.f [1, 2, 8, 9, 8, 2] 1 = some ([2, 8, 9, 9, 9, 8], 0) := by kernel_rfl
theorem ev_carve : cam_Carve.f [1, 2, 8, 9, 8, 2] 1 = some ([2, 2, 3, 9, 3, 2], 1, 0) := by kernel_rfl
theorem ev_shift : cam_Shift.f 100 [1, 2, 8, 9] [8, 9, 1, 2] = some (0, 11, 0) := by kernel_rfl
theorem ev_stations : cam_Stations.f 100 10 [0, 15, 0, -15] 0 8 = some ([1, 3, 5, 7], 0) := by kernel_rfl
theorem ev_retreats : cam_Retreats.f 100 10 [0, 15, 0, -15] 8 = some (2, 2, 10, 0) := by kernel_rfl
theorem ev_passes : cam_Passes.f 100 10 [0, 15, 0, -15] 20 8 = some ([0, 2, 3], 0) := by kernel_rfl
theorem ev_print : printF 0 10 2 24 [[1, 3, 5, 3]] = ([98, 111, 111, 107, 32, 48, 32, 49, 48, 32, 50, 32, 50, 52, 10, 99, 97, 109, 32, 49, 32, 51, 32, 53, 32, 51, 10, 101, 110, 100, 32, 48, 49, 51, 10], 0) := by decide +kernel
theorem add_cell {w : World} {g k : Nat} : w.cell? ((⟨g, 0, none⟩ : Addr).add k) = w.cell? ⟨g, k, none⟩ := by cases k <;> simp [Addr.add]
theorem C_of_blk {α : Type} (d : Kd α) {w : World} {g : Nat} {cs : List Value} {t : TypeId} {xs : List α} (h : w.heap[g]? = some (.cells cs.toArray t (0, 0))) (hl : xs.length ≤ 1000)
  (hx : ∀ j p, xs[j]? = some p → ∃ c, c.length = d.sz ∧ d.K w p c ∧ ∀ i u, c[i]? = some u → cs[j * d.sz + i]? = some u) : Kd.C d w (some ⟨g, 0, none⟩) xs.length xs := by
 refine ⟨rfl, by omega, fun _ => ⟨_, rfl, fun j p hj => ?_⟩⟩
 obtain ⟨c, h1, h2, h3⟩ := hx j p hj
 refine ⟨c, h1, h2, fun i u hu => ?_⟩
 rw [add_cell]
 exact (blk_cell h _).trans (by rw [List.getElem?_toArray]; exact h3 i u hu)
theorem C_of_ints {w : World} {g : Nat} {xs : List Int} (h : w.heap[g]? = some (.cells (xs.map (Value.int .i64)).toArray 3 (0, 0))) (hl : xs.length ≤ 1000) : Kd.C (Kd.int .i64) w (some ⟨g, 0, none⟩) xs.length xs := by
 refine C_of_blk (Kd.int .i64) h hl (fun j p hj => ⟨[.int .i64 p], rfl, rfl, fun i u hu => ?_⟩)
 rcases i with _ | i
 ·
  have : u = .int .i64 p := by simpa using hu.symm
  simp [Kd.int, Kd.scalar, hj, this]
 ·
  simp at hu
theorem C_of_spans {w : World} {g : Nat} {S : List SP} (h : SpanBlk w g S) (hl : S.length ≤ 1000) : Kd.C k50 w (some ⟨g, 0, none⟩) S.length S := by
 obtain ⟨A, c, he, _, hC⟩ := Kd.R_reads (R_of_spans h (Nat.le_refl g) hl)
 cases he
 exact hC
theorem C_of_gauges {w : World} {g : Nat} (h : w.heap[g]? = some (.cells #[.int .i64 0, .int .i64 1, .int .i64 1, .int .i64 2, .int .i64 6, .int .i64 0] 47 (0, 0))) : Kd.C k47 w (some ⟨g, 0, none⟩) 2 [⟨0, 1, 1⟩, ⟨2, 6, 0⟩] := by
 refine C_of_blk k47 (cs := [.int .i64 0, .int .i64 1, .int .i64 1, .int .i64 2, .int .i64 6, .int .i64 0]) (xs := [⟨0, 1, 1⟩, ⟨2, 6, 0⟩]) h (by simp) (fun j p hj => ?_)
 rcases j with _ | _ | j
 ·
  obtain rfl : (⟨0, 1, 1⟩ : S47) = p := by simpa using hj
  exact ⟨_, rfl, k47.K_of_M (k47_mkM w 0 (fun _ => True) ⟨0, 1, 1⟩), fun i u hu => by rcases i with _ | _ | _ | i <;> first | exact hu | simp at hu⟩
 ·
  obtain rfl : (⟨2, 6, 0⟩ : S47) = p := by simpa using hj
  exact ⟨_, rfl, k47.K_of_M (k47_mkM w 0 (fun _ => True) ⟨2, 6, 0⟩), fun i u hu => by rcases i with _ | _ | _ | i <;> first | exact hu | simp at hu⟩
 ·
  simp at hj
theorem C_of_list {w : World} {g A : Nat} {l : List Int} (h : w.heap[g]? = some (.cells #[.slice (some ⟨A, 0, none⟩) l.length l.length] 24 (0, 0))) (hl : Kd.C (Kd.int .i64) w (some ⟨A, 0, none⟩) l.length l) : Kd.C (Kd.slice 3 (Kd.int .i64)) w (some ⟨g, 0, none⟩) 1 [l] := by
 refine C_of_blk (Kd.slice 3 (Kd.int .i64)) (cs := [.slice (some ⟨A, 0, none⟩) l.length l.length]) (xs := [l]) h (by simp) (fun j p hj => ?_)
 rcases j with _ | j
 ·
  obtain rfl : l = p := by simpa using hj
  exact ⟨_, rfl, ⟨_, _, rfl, Nat.le_refl _, hl⟩, fun i u hu => by rcases i with _ | i <;> first | exact hu | simp at hu⟩
 ·
  simp at hj
set_option maxRecDepth 100000 in
set_option maxHeartbeats 4000000 in
theorem known_true (w : World) : Calls Tryz.prog 11 #[] w fun e w' => e = .returned (.bool true) ∧ Below w.heap.size w w' := by
 go_enter Tryz.func11, Tryz.ntmps11
 go_wp2_with fail
 refine (tl_R.calls 0 10 2 24 _ rfl).mono ?_
 rintro e w1 ⟨rfl, hb⟩
 have hs : Below w.heap.size w w1 := below_step (Below.refl w.heap.size w) hb
 have HB := Aside0.mk hs
 clear hs hb
 go_wp2_with fail
 have hm := C_of_ints (xs := [0, 0, 9, 0]) (blk_new w1 (.cells #[.int .i64 0, .int .i64 0, .int .i64 9, .int .i64 0] 3)) (by simp)
 refine (cam_Nearest.calls 0 10 2 24 (some ⟨w1.heap.size, 0, none⟩) 4 [0, 0, 9, 0] [1, 3, 5, 3] 4 0 (w1.alloc (.cells #[.int .i64 0, .int .i64 0, .int .i64 9, .int .i64 0] 3)) hm (by decide) ev_near1).mono ?_
 rintro e w2 ⟨v, rfl, hR, hb⟩
 have hs : Below w1.heap.size w1 w2 := below_step (below_alloc (Below.refl w1.heap.size w1) _) hb
 replace HB := Aside0.mk (below_then HB.out HB.out.size hs)
 obtain ⟨Aa, ca, rfl, hca, hC⟩ := Kd.R_reads hR
 have HCa := Aside0.mk hC
 have HLa := Aside0.mk hca
 clear hC hR hca
 clear hs hb
 go_wp2_with fail
 clear hm
 refine (tl_S.calls 0 10 10 2 _ rfl).mono ?_
 rintro e w3 ⟨rfl, hb⟩
 have hs : Below w2.heap.size w2 w3 := below_step (Below.refl w2.heap.size w2) hb
 replace HB := Aside0.mk (below_then HB.out HB.out.size hs)
 replace HCa := Aside0.mk (Kd.C_below HCa.out hs)
 clear hs hb
 go_wp2_with fail
 refine (tl_V.calls [1, 2, 8, 9, 8, 2] _ rfl).mono ?_
 rintro e w4 ⟨v, rfl, hR, hb⟩
 have hs : Below w3.heap.size w3 w4 := below_step (Below.refl w3.heap.size w3) hb
 replace HB := Aside0.mk (below_then HB.out HB.out.size hs)
 replace HCa := Aside0.mk (Kd.C_below HCa.out hs)
 obtain ⟨Av, cv, rfl, hcv, hC⟩ := Kd.R_reads hR
 have HCv := Aside0.mk hC
 have HLv := Aside0.mk hcv
 clear hC hR hcv
 clear hs hb
 go_wp2_with fail
 refine (cam_Nearest.calls 0 10 10 2 Av cv [1, 2, 8, 9, 8, 2] [1, 1, 8, 8, 8, 1] 1 0 w4 HCv.out HLv.out ev_near2).mono ?_
 rintro e w5 ⟨v, rfl, hR, hb⟩
 have hs : Below w4.heap.size w4 w5 := below_step (Below.refl w4.heap.size w4) hb
 replace HB := Aside0.mk (below_then HB.out HB.out.size hs)
 replace HCa := Aside0.mk (Kd.C_below HCa.out hs)
 replace HCv := Aside0.mk (Kd.C_below HCv.out hs)
 obtain ⟨Ab, cb, rfl, hcb, hC⟩ := Kd.R_reads hR
 have HCb := Aside0.mk hC
 have HLb := Aside0.mk hcb
 clear hC hR hcb
 clear hs hb
 go_wp2_with fail
 clear HCv HLv
 refine (tl_R.calls 0 10 2 24 _ rfl).mono ?_
 rintro e w6 ⟨rfl, hb⟩
 have hs : Below w5.heap.size w5 w6 := below_step (Below.refl w5.heap.size w5) hb
 replace HB := Aside0.mk (below_then HB.out HB.out.size hs)
 replace HCa := Aside0.mk (Kd.C_below HCa.out hs)
 replace HCb := Aside0.mk (Kd.C_below HCb.out hs)
 clear hs hb
 go_wp2_with fail
 have hm := C_of_gauges (blk_new w6 (.cells #[.int .i64 0, .int .i64 1, .int .i64 1, .int .i64 2, .int .i64 6, .int .i64 0] 47))
 refine (cam_Known.calls 0 10 2 24 4 (some ⟨w6.heap.size, 0, none⟩) 2 [⟨0, 1, 1⟩, ⟨2, 6, 0⟩] [⟨2, 2⟩, ⟨4, 4⟩, ⟨6, 6⟩, ⟨4, 4⟩] 0 (w6.alloc (.cells #[.int .i64 0, .int .i64 1, .int .i64 1, .int .i64 2, .int .i64 6, .int .i64 0] 47)) hm (by decide) ev_known).mono ?_
 rintro e w7 ⟨v, rfl, hR, hb⟩
 have hs : Below w6.heap.size w6 w7 := below_step (below_alloc (Below.refl w6.heap.size w6) _) hb
 replace HB := Aside0.mk (below_then HB.out HB.out.size hs)
 replace HCa := Aside0.mk (Kd.C_below HCa.out hs)
 replace HCb := Aside0.mk (Kd.C_below HCb.out hs)
 obtain ⟨Ak, ck, rfl, hck, hC⟩ := Kd.R_reads hR
 have HCk := Aside0.mk hC
 have HLk := Aside0.mk hck
 clear hC hR hck
 clear hs hb
 go_wp2_with fail
 clear hm
 refine (tl_V.calls [1, 2, 8, 9, 8, 2] _ rfl).mono ?_
 rintro e w8 ⟨v, rfl, hR, hb⟩
 have hs : Below w7.heap.size w7 w8 := below_step (Below.refl w7.heap.size w7) hb
 replace HB := Aside0.mk (below_then HB.out HB.out.size hs)
 replace HCa := Aside0.mk (Kd.C_below HCa.out hs)
 replace HCb := Aside0.mk (Kd.C_below HCb.out hs)
 replace HCk := Aside0.mk (Kd.C_below HCk.out hs)
 obtain ⟨Av, cv, rfl, hcv, hC⟩ := Kd.R_reads hR
 have HCv := Aside0.mk hC
 have HLv := Aside0.mk hcv
 clear hC hR hcv
 clear hs hb
 go_wp2_with fail
 refine (cam_Follow.calls Av cv [1, 2, 8, 9, 8, 2] 1 [2, 8, 9, 9, 9, 8] 0 w8 HCv.out HLv.out ev_follow).mono ?_
 rintro e w9 ⟨v, rfl, hR, hb⟩
 have hs : Below w8.heap.size w8 w9 := below_step (Below.refl w8.heap.size w8) hb
 replace HB := Aside0.mk (below_then HB.out HB.out.size hs)
 replace HCa := Aside0.mk (Kd.C_below HCa.out hs)
 replace HCb := Aside0.mk (Kd.C_below HCb.out hs)
 replace HCk := Aside0.mk (Kd.C_below HCk.out hs)
 replace HCv := Aside0.mk (Kd.C_below HCv.out hs)
 obtain ⟨Ac, cc, rfl, hcc, hC⟩ := Kd.R_reads hR
 have HCc := Aside0.mk hC
 have HLc := Aside0.mk hcc
 clear hC hR hcc
 clear hs hb
 go_wp2_with fail
 clear HCv HLv
 refine (tl_V.calls [1, 2, 8, 9, 8, 2] _ rfl).mono ?_
 rintro e w10 ⟨v, rfl, hR, hb⟩
 have hs : Below w9.heap.size w9 w10 := below_step (Below.refl w9.heap.size w9) hb
 replace HB := Aside0.mk (below_then HB.out HB.out.size hs)
 replace HCa := Aside0.mk (Kd.C_below HCa.out hs)
 replace HCb := Aside0.mk (Kd.C_below HCb.out hs)
 replace HCk := Aside0.mk (Kd.C_below HCk.out hs)
 replace HCc := Aside0.mk (Kd.C_below HCc.out hs)
 obtain ⟨Av, cv, rfl, hcv, hC⟩ := Kd.R_reads hR
 have HCv := Aside0.mk hC
 have HLv := Aside0.mk hcv
 clear hC hR hcv
 clear hs hb
 go_wp2_with fail
 refine (cam_Carve.calls Av cv [1, 2, 8, 9, 8, 2] 1 [2, 2, 3, 9, 3, 2] 1 0 w10 HCv.out HLv.out ev_carve).mono ?_
 rintro e w11 ⟨v, rfl, hR, hb⟩
 have hs : Below w10.heap.size w10 w11 := below_step (Below.refl w10.heap.size w10) hb
 replace HB := Aside0.mk (below_then HB.out HB.out.size hs)
 replace HCa := Aside0.mk (Kd.C_below HCa.out hs)
 replace HCb := Aside0.mk (Kd.C_below HCb.out hs)
 replace HCk := Aside0.mk (Kd.C_below HCk.out hs)
 replace HCc := Aside0.mk (Kd.C_below HCc.out hs)
 replace HCv := Aside0.mk (Kd.C_below HCv.out hs)
 obtain ⟨Ad, cd, rfl, hcd, hC⟩ := Kd.R_reads hR
 have HCd := Aside0.mk hC
 have HLd := Aside0.mk hcd
 clear hC hR hcd
 clear hs hb
 go_wp2_with fail
 clear HCv HLv
 have hm0 := C_of_ints (xs := [1, 2, 8, 9]) (blk_new w11 (.cells #[.int .i64 1, .int .i64 2, .int .i64 8, .int .i64 9] 3)) (by simp)
 have hm := Kd.C_below hm0 (below_alloc (Below.refl _ _) (.cells #[.int .i64 8, .int .i64 9, .int .i64 1, .int .i64 2] 3))
 have hn := C_of_ints (xs := [8, 9, 1, 2]) (blk_new (w11.alloc (.cells #[.int .i64 1, .int .i64 2, .int .i64 8, .int .i64 9] 3)) (.cells #[.int .i64 8, .int .i64 9, .int .i64 1, .int .i64 2] 3)) (by simp)
 rw [World.size_alloc] at hn
 refine (cam_Shift.calls 100 (some ⟨w11.heap.size, 0, none⟩) 4 [1, 2, 8, 9] (some ⟨w11.heap.size + 1, 0, none⟩) 4 [8, 9, 1, 2] 0 11 0 ((w11.alloc (.cells #[.int .i64 1, .int .i64 2, .int .i64 8, .int .i64 9] 3)).alloc (.cells #[.int .i64 8, .int .i64 9, .int .i64 1, .int .i64 2] 3)) hm (by decide) hn (by decide) ev_shift).mono ?_
 rintro e w12 ⟨rfl, hb⟩
 have hs : Below w11.heap.size w11 w12 := below_step (below_alloc (below_alloc (Below.refl w11.heap.size w11) _) _) hb
 replace HB := Aside0.mk (below_then HB.out HB.out.size hs)
 replace HCa := Aside0.mk (Kd.C_below HCa.out hs)
 replace HCb := Aside0.mk (Kd.C_below HCb.out hs)
 replace HCk := Aside0.mk (Kd.C_below HCk.out hs)
 replace HCc := Aside0.mk (Kd.C_below HCc.out hs)
 replace HCd := Aside0.mk (Kd.C_below HCd.out hs)
 clear hs hb
 go_wp2_with fail
 clear hm0 hm hn
 refine (tl_M.calls 10 [0, 15, 0, -15] _ rfl).mono ?_
 rintro e w13 ⟨v, rfl, hR, hb⟩
 have hs : Below w12.heap.size w12 w13 := below_step (Below.refl w12.heap.size w12) hb
 replace HB := Aside0.mk (below_then HB.out HB.out.size hs)
 replace HCa := Aside0.mk (Kd.C_below HCa.out hs)
 replace HCb := Aside0.mk (Kd.C_below HCb.out hs)
 replace HCk := Aside0.mk (Kd.C_below HCk.out hs)
 replace HCc := Aside0.mk (Kd.C_below HCc.out hs)
 replace HCd := Aside0.mk (Kd.C_below HCd.out hs)
 obtain ⟨Am, cm, rfl, hcm, hC⟩ := Kd.R_reads hR
 have HCm := Aside0.mk hC
 have HLm := Aside0.mk hcm
 clear hC hR hcm
 clear hs hb
 go_wp2_with fail
 refine (cam_Stations.calls 100 10 Am cm [0, 15, 0, -15] 0 8 [1, 3, 5, 7] 0 w13 HCm.out HLm.out ev_stations).mono ?_
 rintro e w14 ⟨v, rfl, hR, hb⟩
 have hs : Below w13.heap.size w13 w14 := below_step (Below.refl w13.heap.size w13) hb
 replace HB := Aside0.mk (below_then HB.out HB.out.size hs)
 replace HCa := Aside0.mk (Kd.C_below HCa.out hs)
 replace HCb := Aside0.mk (Kd.C_below HCb.out hs)
 replace HCk := Aside0.mk (Kd.C_below HCk.out hs)
 replace HCc := Aside0.mk (Kd.C_below HCc.out hs)
 replace HCd := Aside0.mk (Kd.C_below HCd.out hs)
 replace HCm := Aside0.mk (Kd.C_below HCm.out hs)
 obtain ⟨Al, cl, rfl, hcl, hC⟩ := Kd.R_reads hR
 have HCl := Aside0.mk hC
 have HLl := Aside0.mk hcl
 clear hC hR hcl
 clear hs hb
 go_wp2_with fail
 clear HCm HLm
 refine (tl_M.calls 10 [0, 15, 0, -15] _ rfl).mono ?_
 rintro e w15 ⟨v, rfl, hR, hb⟩
 have hs : Below w14.heap.size w14 w15 := below_step (Below.refl w14.heap.size w14) hb
 replace HB := Aside0.mk (below_then HB.out HB.out.size hs)
 replace HCa := Aside0.mk (Kd.C_below HCa.out hs)
 replace HCb := Aside0.mk (Kd.C_below HCb.out hs)
 replace HCk := Aside0.mk (Kd.C_below HCk.out hs)
 replace HCc := Aside0.mk (Kd.C_below HCc.out hs)
 replace HCd := Aside0.mk (Kd.C_below HCd.out hs)
 replace HCl := Aside0.mk (Kd.C_below HCl.out hs)
 obtain ⟨Am, cm, rfl, hcm, hC⟩ := Kd.R_reads hR
 have HCm := Aside0.mk hC
 have HLm := Aside0.mk hcm
 clear hC hR hcm
 clear hs hb
 go_wp2_with fail
 refine (cam_Retreats.calls 100 10 Am cm [0, 15, 0, -15] 8 2 2 10 0 w15 HCm.out HLm.out ev_retreats).mono ?_
 rintro e w16 ⟨rfl, hb⟩
 have hs : Below w15.heap.size w15 w16 := below_step (Below.refl w15.heap.size w15) hb
 replace HB := Aside0.mk (below_then HB.out HB.out.size hs)
 replace HCa := Aside0.mk (Kd.C_below HCa.out hs)
 replace HCb := Aside0.mk (Kd.C_below HCb.out hs)
 replace HCk := Aside0.mk (Kd.C_below HCk.out hs)
 replace HCc := Aside0.mk (Kd.C_below HCc.out hs)
 replace HCd := Aside0.mk (Kd.C_below HCd.out hs)
 replace HCl := Aside0.mk (Kd.C_below HCl.out hs)
 replace HCm := Aside0.mk (Kd.C_below HCm.out hs)
 clear hs hb
 go_wp2_with fail
 clear HCm HLm
 refine (tl_M.calls 10 [0, 15, 0, -15] _ rfl).mono ?_
 rintro e w17 ⟨v, rfl, hR, hb⟩
 have hs : Below w16.heap.size w16 w17 := below_step (Below.refl w16.heap.size w16) hb
 replace HB := Aside0.mk (below_then HB.out HB.out.size hs)
 replace HCa := Aside0.mk (Kd.C_below HCa.out hs)
 replace HCb := Aside0.mk (Kd.C_below HCb.out hs)
 replace HCk := Aside0.mk (Kd.C_below HCk.out hs)
 replace HCc := Aside0.mk (Kd.C_below HCc.out hs)
 replace HCd := Aside0.mk (Kd.C_below HCd.out hs)
 replace HCl := Aside0.mk (Kd.C_below HCl.out hs)
 obtain ⟨Am, cm, rfl, hcm, hC⟩ := Kd.R_reads hR
 have HCm := Aside0.mk hC
 have HLm := Aside0.mk hcm
 clear hC hR hcm
 clear hs hb
 go_wp2_with fail
 refine (cam_Passes.calls 100 10 Am cm [0, 15, 0, -15] 20 8 [0, 2, 3] 0 w17 HCm.out HLm.out ev_passes).mono ?_
 rintro e w18 ⟨v, rfl, hR, hb⟩
 have hs : Below w17.heap.size w17 w18 := below_step (Below.refl w17.heap.size w17) hb
 replace HB := Aside0.mk (below_then HB.out HB.out.size hs)
 replace HCa := Aside0.mk (Kd.C_below HCa.out hs)
 replace HCb := Aside0.mk (Kd.C_below HCb.out hs)
 replace HCk := Aside0.mk (Kd.C_below HCk.out hs)
 replace HCc := Aside0.mk (Kd.C_below HCc.out hs)
 replace HCd := Aside0.mk (Kd.C_below HCd.out hs)
 replace HCl := Aside0.mk (Kd.C_below HCl.out hs)
 replace HCm := Aside0.mk (Kd.C_below HCm.out hs)
 obtain ⟨Ap, cp, rfl, hcp, hC⟩ := Kd.R_reads hR
 have HCp := Aside0.mk hC
 have HLp := Aside0.mk hcp
 clear hC hR hcp
 clear hs hb
 go_wp2_with fail
 clear HCm HLm
 refine (tl_R.calls 0 10 2 24 _ rfl).mono ?_
 rintro e w19 ⟨rfl, hb⟩
 have hs : Below w18.heap.size w18 w19 := below_step (Below.refl w18.heap.size w18) hb
 replace HB := Aside0.mk (below_then HB.out HB.out.size hs)
 replace HCa := Aside0.mk (Kd.C_below HCa.out hs)
 replace HCb := Aside0.mk (Kd.C_below HCb.out hs)
 replace HCk := Aside0.mk (Kd.C_below HCk.out hs)
 replace HCc := Aside0.mk (Kd.C_below HCc.out hs)
 replace HCd := Aside0.mk (Kd.C_below HCd.out hs)
 replace HCl := Aside0.mk (Kd.C_below HCl.out hs)
 replace HCp := Aside0.mk (Kd.C_below HCp.out hs)
 clear hs hb
 go_wp2_with fail
 have hm0 := C_of_ints (xs := [1, 3, 5, 3]) (blk_new w19 (.cells #[.int .i64 1, .int .i64 3, .int .i64 5, .int .i64 3] 3)) (by simp)
 have hm1 := Kd.C_below hm0 (below_alloc (Below.refl _ _) (.cells #[.slice (some ⟨w19.heap.size, 0, none⟩) 4 4] 24))
 have hn := blk_new (w19.alloc (.cells #[.int .i64 1, .int .i64 3, .int .i64 5, .int .i64 3] 3)) (.cells #[.slice (some ⟨w19.heap.size, 0, none⟩) 4 4] 24)
 rw [World.size_alloc] at hn
 have hp := print_calls 0 10 2 24 (some ⟨w19.heap.size + 1, 0, none⟩) 1 [[1, 3, 5, 3]] ((w19.alloc (.cells #[.int .i64 1, .int .i64 3, .int .i64 5, .int .i64 3] 3)).alloc (.cells #[.slice (some ⟨w19.heap.size, 0, none⟩) 4 4] 24)) (C_of_list (l := [1, 3, 5, 3]) hn hm1) (by decide) (by decide)
 rw [ev_print] at hp
 refine (hp).mono ?_
 rintro e w20 ⟨rfl, hb⟩
 have hs : Below w19.heap.size w19 w20 := below_step (below_alloc (below_alloc (Below.refl w19.heap.size w19) _) _) hb
 replace HB := Aside0.mk (below_then HB.out HB.out.size hs)
 replace HCa := Aside0.mk (Kd.C_below HCa.out hs)
 replace HCb := Aside0.mk (Kd.C_below HCb.out hs)
 replace HCk := Aside0.mk (Kd.C_below HCk.out hs)
 replace HCc := Aside0.mk (Kd.C_below HCc.out hs)
 replace HCd := Aside0.mk (Kd.C_below HCd.out hs)
 replace HCl := Aside0.mk (Kd.C_below HCl.out hs)
 replace HCp := Aside0.mk (Kd.C_below HCp.out hs)
 clear hs hb
 go_wp2_with fail
 clear hm0 hm1 hn hp
 have hm := C_of_ints (xs := [1, 3, 5, 3]) (blk_new w20 (.cells #[.int .i64 1, .int .i64 3, .int .i64 5, .int .i64 3] 3)) (by simp)
 have hk := Kd.C_below HCa.out (below_alloc (Below.refl _ _) (.cells #[.int .i64 1, .int .i64 3, .int .i64 5, .int .i64 3] 3))
 have hv : tr_Same.f 100 [1, 3, 5, 3] [1, 3, 5, 3] = some true := by kernel_rfl
 refine (tr_Same.calls 100 Aa ca [1, 3, 5, 3] (some ⟨w20.heap.size, 0, none⟩) 4 [1, 3, 5, 3] true (w20.alloc (.cells #[.int .i64 1, .int .i64 3, .int .i64 5, .int .i64 3] 3)) hk HLa.out hm (by decide) hv).mono ?_
 rintro e w21 ⟨rfl, hd⟩
 have hs : Below w20.heap.size w20 w21 := by obtain ⟨nd, hnd⟩ := hd.out; rw [hnd]; exact pw_below_drewN (below_alloc (Below.refl _ _) _) _
 replace HB := Aside0.mk (below_then HB.out HB.out.size hs)
 clear HCa HLa
 replace HCb := Aside0.mk (Kd.C_below HCb.out hs)
 replace HCk := Aside0.mk (Kd.C_below HCk.out hs)
 replace HCc := Aside0.mk (Kd.C_below HCc.out hs)
 replace HCd := Aside0.mk (Kd.C_below HCd.out hs)
 replace HCl := Aside0.mk (Kd.C_below HCl.out hs)
 replace HCp := Aside0.mk (Kd.C_below HCp.out hs)
 clear hs hd hk hm hv
 go_wp2_with fail
 have hm := C_of_ints (xs := [1, 1, 8, 8, 8, 1]) (blk_new w21 (.cells #[.int .i64 1, .int .i64 1, .int .i64 8, .int .i64 8, .int .i64 8, .int .i64 1] 3)) (by simp)
 have hk := Kd.C_below HCb.out (below_alloc (Below.refl _ _) (.cells #[.int .i64 1, .int .i64 1, .int .i64 8, .int .i64 8, .int .i64 8, .int .i64 1] 3))
 have hv : tr_Same.f 100 [1, 1, 8, 8, 8, 1] [1, 1, 8, 8, 8, 1] = some true := by kernel_rfl
 refine (tr_Same.calls 100 Ab cb [1, 1, 8, 8, 8, 1] (some ⟨w21.heap.size, 0, none⟩) 6 [1, 1, 8, 8, 8, 1] true (w21.alloc (.cells #[.int .i64 1, .int .i64 1, .int .i64 8, .int .i64 8, .int .i64 8, .int .i64 1] 3)) hk HLb.out hm (by decide) hv).mono ?_
 rintro e w22 ⟨rfl, hd⟩
 have hs : Below w21.heap.size w21 w22 := by obtain ⟨nd, hnd⟩ := hd.out; rw [hnd]; exact pw_below_drewN (below_alloc (Below.refl _ _) _) _
 replace HB := Aside0.mk (below_then HB.out HB.out.size hs)
 clear HCb HLb
 replace HCk := Aside0.mk (Kd.C_below HCk.out hs)
 replace HCc := Aside0.mk (Kd.C_below HCc.out hs)
 replace HCd := Aside0.mk (Kd.C_below HCd.out hs)
 replace HCl := Aside0.mk (Kd.C_below HCl.out hs)
 replace HCp := Aside0.mk (Kd.C_below HCp.out hs)
 clear hs hd hk hm hv
 go_wp2_with fail
 have hm := C_of_spans (S := [⟨2, 2⟩, ⟨4, 4⟩, ⟨6, 6⟩, ⟨4, 4⟩]) (show SpanBlk (w22.alloc (.cells #[.int .i64 2, .int .i64 2, .int .i64 4, .int .i64 4, .int .i64 6, .int .i64 6, .int .i64 4, .int .i64 4] 50)) w22.heap.size [⟨2, 2⟩, ⟨4, 4⟩, ⟨6, 6⟩, ⟨4, 4⟩] from blk_new w22 (.cells #[.int .i64 2, .int .i64 2, .int .i64 4, .int .i64 4, .int .i64 6, .int .i64 6, .int .i64 4, .int .i64 4] 50)) (by simp)
 have hk := Kd.C_below HCk.out (below_alloc (Below.refl _ _) (.cells #[.int .i64 2, .int .i64 2, .int .i64 4, .int .i64 4, .int .i64 6, .int .i64 6, .int .i64 4, .int .i64 4] 50))
 have hv : tr_SameSpans.f 100 [⟨2, 2⟩, ⟨4, 4⟩, ⟨6, 6⟩, ⟨4, 4⟩] [⟨2, 2⟩, ⟨4, 4⟩, ⟨6, 6⟩, ⟨4, 4⟩] = some true := by kernel_rfl
 refine (tr_SameSpans.calls 100 Ak ck [⟨2, 2⟩, ⟨4, 4⟩, ⟨6, 6⟩, ⟨4, 4⟩] (some ⟨w22.heap.size, 0, none⟩) 4 [⟨2, 2⟩, ⟨4, 4⟩, ⟨6, 6⟩, ⟨4, 4⟩] true (w22.alloc (.cells #[.int .i64 2, .int .i64 2, .int .i64 4, .int .i64 4, .int .i64 6, .int .i64 6, .int .i64 4, .int .i64 4] 50)) hk HLk.out hm (by decide) hv).mono ?_
 rintro e w23 ⟨rfl, hd⟩
 have hs : Below w22.heap.size w22 w23 := by obtain ⟨nd, hnd⟩ := hd.out; rw [hnd]; exact pw_below_drewN (below_alloc (Below.refl _ _) _) _
 replace HB := Aside0.mk (below_then HB.out HB.out.size hs)
 clear HCk HLk
 replace HCc := Aside0.mk (Kd.C_below HCc.out hs)
 replace HCd := Aside0.mk (Kd.C_below HCd.out hs)
 replace HCl := Aside0.mk (Kd.C_below HCl.out hs)
 replace HCp := Aside0.mk (Kd.C_below HCp.out hs)
 clear hs hd hk hm hv
 go_wp2_with fail
 have hm := C_of_ints (xs := [2, 8, 9, 9, 9, 8]) (blk_new w23 (.cells #[.int .i64 2, .int .i64 8, .int .i64 9, .int .i64 9, .int .i64 9, .int .i64 8] 3)) (by simp)
 have hk := Kd.C_below HCc.out (below_alloc (Below.refl _ _) (.cells #[.int .i64 2, .int .i64 8, .int .i64 9, .int .i64 9, .int .i64 9, .int .i64 8] 3))
 have hv : tr_Same.f 100 [2, 8, 9, 9, 9, 8] [2, 8, 9, 9, 9, 8] = some true := by kernel_rfl
 refine (tr_Same.calls 100 Ac cc [2, 8, 9, 9, 9, 8] (some ⟨w23.heap.size, 0, none⟩) 6 [2, 8, 9, 9, 9, 8] true (w23.alloc (.cells #[.int .i64 2, .int .i64 8, .int .i64 9, .int .i64 9, .int .i64 9, .int .i64 8] 3)) hk HLc.out hm (by decide) hv).mono ?_
 rintro e w24 ⟨rfl, hd⟩
 have hs : Below w23.heap.size w23 w24 := by obtain ⟨nd, hnd⟩ := hd.out; rw [hnd]; exact pw_below_drewN (below_alloc (Below.refl _ _) _) _
 replace HB := Aside0.mk (below_then HB.out HB.out.size hs)
 clear HCc HLc
 replace HCd := Aside0.mk (Kd.C_below HCd.out hs)
 replace HCl := Aside0.mk (Kd.C_below HCl.out hs)
 replace HCp := Aside0.mk (Kd.C_below HCp.out hs)
 clear hs hd hk hm hv
 go_wp2_with fail
 have hm := C_of_ints (xs := [2, 2, 3, 9, 3, 2]) (blk_new w24 (.cells #[.int .i64 2, .int .i64 2, .int .i64 3, .int .i64 9, .int .i64 3, .int .i64 2] 3)) (by simp)
 have hk := Kd.C_below HCd.out (below_alloc (Below.refl _ _) (.cells #[.int .i64 2, .int .i64 2, .int .i64 3, .int .i64 9, .int .i64 3, .int .i64 2] 3))
 have hv : tr_Same.f 100 [2, 2, 3, 9, 3, 2] [2, 2, 3, 9, 3, 2] = some true := by kernel_rfl
 refine (tr_Same.calls 100 Ad cd [2, 2, 3, 9, 3, 2] (some ⟨w24.heap.size, 0, none⟩) 6 [2, 2, 3, 9, 3, 2] true (w24.alloc (.cells #[.int .i64 2, .int .i64 2, .int .i64 3, .int .i64 9, .int .i64 3, .int .i64 2] 3)) hk HLd.out hm (by decide) hv).mono ?_
 rintro e w25 ⟨rfl, hd⟩
 have hs : Below w24.heap.size w24 w25 := by obtain ⟨nd, hnd⟩ := hd.out; rw [hnd]; exact pw_below_drewN (below_alloc (Below.refl _ _) _) _
 replace HB := Aside0.mk (below_then HB.out HB.out.size hs)
 clear HCd HLd
 replace HCl := Aside0.mk (Kd.C_below HCl.out hs)
 replace HCp := Aside0.mk (Kd.C_below HCp.out hs)
 clear hs hd hk hm hv
 go_wp2_with fail
 have hm := C_of_ints (xs := [1, 3, 5, 7]) (blk_new w25 (.cells #[.int .i64 1, .int .i64 3, .int .i64 5, .int .i64 7] 3)) (by simp)
 have hk := Kd.C_below HCl.out (below_alloc (Below.refl _ _) (.cells #[.int .i64 1, .int .i64 3, .int .i64 5, .int .i64 7] 3))
 have hv : tr_Same.f 100 [1, 3, 5, 7] [1, 3, 5, 7] = some true := by kernel_rfl
 refine (tr_Same.calls 100 Al cl [1, 3, 5, 7] (some ⟨w25.heap.size, 0, none⟩) 4 [1, 3, 5, 7] true (w25.alloc (.cells #[.int .i64 1, .int .i64 3, .int .i64 5, .int .i64 7] 3)) hk HLl.out hm (by decide) hv).mono ?_
 rintro e w26 ⟨rfl, hd⟩
 have hs : Below w25.heap.size w25 w26 := by obtain ⟨nd, hnd⟩ := hd.out; rw [hnd]; exact pw_below_drewN (below_alloc (Below.refl _ _) _) _
 replace HB := Aside0.mk (below_then HB.out HB.out.size hs)
 clear HCl HLl
 replace HCp := Aside0.mk (Kd.C_below HCp.out hs)
 clear hs hd hk hm hv
 go_wp2_with fail
 have hm := C_of_ints (xs := [0, 2, 3]) (blk_new w26 (.cells #[.int .i64 0, .int .i64 2, .int .i64 3] 3)) (by simp)
 have hk := Kd.C_below HCp.out (below_alloc (Below.refl _ _) (.cells #[.int .i64 0, .int .i64 2, .int .i64 3] 3))
 have hv : tr_Same.f 100 [0, 2, 3] [0, 2, 3] = some true := by kernel_rfl
 refine (tr_Same.calls 100 Ap cp [0, 2, 3] (some ⟨w26.heap.size, 0, none⟩) 3 [0, 2, 3] true (w26.alloc (.cells #[.int .i64 0, .int .i64 2, .int .i64 3] 3)) hk HLp.out hm (by decide) hv).mono ?_
 rintro e w27 ⟨rfl, hd⟩
 have hs : Below w26.heap.size w26 w27 := by obtain ⟨nd, hnd⟩ := hd.out; rw [hnd]; exact pw_below_drewN (below_alloc (Below.refl _ _) _) _
 replace HB := Aside0.mk (below_then HB.out HB.out.size hs)
 clear HCp HLp
 clear hs hd hk hm hv
 go_wp2_with fail
 go_ret
 exact ⟨rfl, HB.out⟩
def tl_known.f : Option Bool := some true
theorem tl_known.calls (r : Bool) (w : World) (h : tl_known.f = some r) : Calls Tryz.prog 11 #[] w fun e w' => e = .returned (.bool r) ∧ Below w.heap.size w w' := by
 obtain rfl : true = r := Option.some.inj h
 exact known_true w
end Go.Proofs.YtbjimmemcmjpcaaGreatDoor.Print
end
section
namespace Go.Proofs.YtbjimmemcmjpcaaGreatDoor.Print
open Go.RowKit YtbjimmemcmjpcaaGreatDoorW.PrintWords YtbjimmemcmjpcaaGreatDoorW.PrintLast YtbjimmemcmjpcaaGreatDoorW.PrintMore
attribute [local go_sem] max2_int min2_int max_two min_two max_three min_three max_four min_four
def tl_CamNearests.j0 : Nat → List Int → List Int → Int → Int → Bool → Int → Int → Int → Int → Option (Bool)
 | 0, _, _, _, _, _, _, _, _, _ => none
 | k + 1, x1, x5, x6, x7, x28, x269000, x269001, x269002, x269003 => if x28 = true then (if x7 = 2 then (if (x5.length : Int) = 0 then (if x6 = 0 then ((tl_known.f).bind fun t278 => (some t278)) else (some false)) else (some false)) else (some false)) else ((tr_Nearest.f k x269000 x269001 x269002 x269003 x1).bind fun bt279 => (if x7 = 0 then ((tr_Same.f k x5 bt279.1).bind fun t283 => (if t283 = true then (if x6 = bt279.2 then ((tl_known.f).bind fun t284 => (some t284)) else (some false)) else (some false))) else (some false)))
def tl_CamNearests.f (k : Nat) (a0_0 : Int) (a0_1 : Int) (a0_2 : Int) (a0_3 : Int) (l1 : List Int) : Option (Bool) := (tl_short.f l1).bind fun t269 => (if t269 = true then ((cam_Nearest.f a0_0 a0_1 a0_2 a0_3 l1).bind fun bt271 => ((tr_Rule.f a0_0 a0_1 a0_2 a0_3).bind fun t276 => (if t276 = true then ((tr_Cam.f k l1).bind fun t277 => (tl_CamNearests.j0 k l1 bt271.1 bt271.2.1 bt271.2.2 (!t277) a0_0 a0_1 a0_2 a0_3)) else (tl_CamNearests.j0 k l1 bt271.1 bt271.2.1 bt271.2.2 true a0_0 a0_1 a0_2 a0_3)))) else ((tl_known.f).bind fun t270 => (some t270)))
theorem tl_CamNearests.mono_l : ∀ k, (∀ y0 y1 y2 y3 y4 y5 y6 y7 y8, LeO (tl_CamNearests.j0 k y0 y1 y2 y3 y4 y5 y6 y7 y8) (tl_CamNearests.j0 (k + 1) y0 y1 y2 y3 y4 y5 y6 y7 y8))
 | 0 => fun _ _ _ _ _ _ _ _ _ r h => by simp [tl_CamNearests.j0] at h
 | k + 1 => by
  have ih0 := tl_CamNearests.mono_l k
  ·
   intro y0 y1 y2 y3 y4 y5 y6 y7 y8
   unfold tl_CamNearests.j0
   repeat' first
   | (with_reducible exact ih0 _ _ _ _ _ _ _ _ _)
   | (with_reducible exact tr_Cam.mono _ _)
   | (with_reducible exact tr_Nearest.mono _ _ _ _ _ _)
   | (with_reducible exact tr_Same.mono _ _ _)
   | (with_reducible exact LeO.refl _)
   | (with_reducible exact LeO.none _)
   | (with_reducible refine LeO.ite ?_ ?_)
   | (with_reducible refine LeO.bind ?_ (fun _ => ?_))
   | exact ih0 _ _ _ _ _ _ _ _ _
   | exact tr_Cam.mono _ _
   | exact tr_Nearest.mono _ _ _ _ _ _
   | exact tr_Same.mono _ _ _
   | exact LeO.none _
   | refine LeO.ite ?_ ?_
   | refine LeO.bind ?_ (fun _ => ?_)
theorem tl_CamNearests.mono : ∀ a0 a1 a2 a3 a4 k, LeO (tl_CamNearests.f k a0 a1 a2 a3 a4) (tl_CamNearests.f (k + 1) a0 a1 a2 a3 a4) := by
 intro a0 a1 a2 a3 a4 k
 have ih0 := tl_CamNearests.mono_l k
 unfold tl_CamNearests.f
 repeat' first
   | (with_reducible exact ih0 _ _ _ _ _ _ _ _ _)
   | (with_reducible exact tr_Cam.mono _ _)
   | (with_reducible exact tr_Nearest.mono _ _ _ _ _ _)
   | (with_reducible exact tr_Same.mono _ _ _)
   | (with_reducible exact LeO.refl _)
   | (with_reducible exact LeO.none _)
   | (with_reducible refine LeO.ite ?_ ?_)
   | (with_reducible refine LeO.bind ?_ (fun _ => ?_))
   | exact ih0 _ _ _ _ _ _ _ _ _
   | exact tr_Cam.mono _ _
   | exact tr_Nearest.mono _ _ _ _ _ _
   | exact tr_Same.mono _ _ _
   | exact LeO.none _
   | refine LeO.ite ?_ ?_
   | refine LeO.bind ?_ (fun _ => ?_)
set_option maxHeartbeats 8000000 in
set_option maxRecDepth 100000 in
theorem tl_CamNearests.calls (k : Nat) (a0_0 : Int) (a0_1 : Int) (a0_2 : Int) (a0_3 : Int) (A1 : Option Addr) (c1 : Nat) (l1 : List Int) (r : Bool) (w : World) (hr1 : Kd.C (Kd.int .i64) w A1 l1.length l1) (hc1 : l1.length ≤ c1) (h : tl_CamNearests.f k a0_0 a0_1 a0_2 a0_3 l1 = some r) :
  Calls Tryz.prog 3 #[.agg #[.int .i64 a0_0, .int .i64 a0_1, .int .i64 a0_2, .int .i64 a0_3], .slice A1 l1.length c1] w fun e w' => e = .returned (.bool r) ∧ Below w.heap.size w w' := by
 have hu23 := Tryz.underlying23
 have HR1 := Aside0.mk hr1
 have HC1 := Aside0.mk hc1
 clear hr1 hc1
 have HB := Aside0.mk (Below.refl w.heap.size w)
 have H : ((tl_short.f l1).bind fun t269 => (if t269 = true then ((cam_Nearest.f a0_0 a0_1 a0_2 a0_3 l1).bind fun bt271 => ((tr_Rule.f a0_0 a0_1 a0_2 a0_3).bind fun t276 => (if t276 = true then ((tr_Cam.f k l1).bind fun t277 => (tl_CamNearests.j0 k l1 bt271.1 bt271.2.1 bt271.2.2 (!t277) a0_0 a0_1 a0_2 a0_3)) else (tl_CamNearests.j0 k l1 bt271.1 bt271.2.1 bt271.2.2 true a0_0 a0_1 a0_2 a0_3)))) else ((tl_known.f).bind fun t270 => (some t270)))) = some r := h
 clear h
 replace H := Option.bind_eq_some_iff.mp H
 obtain ⟨t269, A30, H⟩ := H
 replace H : (if t269 = true then ((cam_Nearest.f a0_0 a0_1 a0_2 a0_3 l1).bind fun bt271 => ((tr_Rule.f a0_0 a0_1 a0_2 a0_3).bind fun t276 => (if t276 = true then ((tr_Cam.f k l1).bind fun t277 => (tl_CamNearests.j0 k l1 bt271.1 bt271.2.1 bt271.2.2 (!t277) a0_0 a0_1 a0_2 a0_3)) else (tl_CamNearests.j0 k l1 bt271.1 bt271.2.1 bt271.2.2 true a0_0 a0_1 a0_2 a0_3)))) else ((tl_known.f).bind fun t270 => (some t270))) = some r := H
 have A3 := Aside0.mk A30
 clear A30
 by_cases c4 : t269 = true
 ·
  subst c4
  have H1 : ((cam_Nearest.f a0_0 a0_1 a0_2 a0_3 l1).bind fun bt271 => ((tr_Rule.f a0_0 a0_1 a0_2 a0_3).bind fun t276 => (if t276 = true then ((tr_Cam.f k l1).bind fun t277 => (tl_CamNearests.j0 k l1 bt271.1 bt271.2.1 bt271.2.2 (!t277) a0_0 a0_1 a0_2 a0_3)) else (tl_CamNearests.j0 k l1 bt271.1 bt271.2.1 bt271.2.2 true a0_0 a0_1 a0_2 a0_3)))) = some r := by rw [if_pos rfl] at H; exact H
  clear H
  have H := H1
  clear H1
  replace H := Option.bind_eq_some_iff.mp H
  obtain ⟨⟨t271, t274, t275⟩, A50, H⟩ := H
  replace H : ((tr_Rule.f a0_0 a0_1 a0_2 a0_3).bind fun t276 => (if t276 = true then ((tr_Cam.f k l1).bind fun t277 => (tl_CamNearests.j0 k l1 t271 t274 t275 (!t277) a0_0 a0_1 a0_2 a0_3)) else (tl_CamNearests.j0 k l1 t271 t274 t275 true a0_0 a0_1 a0_2 a0_3))) = some r := H
  have A5 := Aside0.mk A50
  clear A50
  have HC6 := Aside0.mk H
  clear H
  go_enter Tryz.func3, Tryz.ntmps3
  go_upto_region 4 with (first | ((with_reducible refine gate_dst (N := 2) rfl ?_); (try (refine gate_guard (by rfl) ?_; dsimp only)); refine box_event ?hg (N := 2) ?hd (cs := #[.int .i64 a0_0, .int .i64 a0_1, .int .i64 a0_2, .int .i64 a0_3]) (t := 23) ?hr ?_; (case hd => rfl); (case hg => rfl); (case hr => first | (go_simp; done) | (go_simp; rfl)); intro gb268 hg w7 hbox hb; have n0_ := Aside0.mk (below_step (by repeat (first | (with_reducible first | exact HB.out | apply below_alloc | apply pw_below_drewN | apply below_drew1) | exact HB.out)) hb); have n1_ := Aside0.mk (hbox); have n2_ := Aside0.mk ((by rw [hg]; exact (below_size (by repeat (first | (with_reducible first | exact HB.out | apply below_alloc | apply pw_below_drewN | apply below_drew1) | exact HB.out))) : w.heap.size ≤ gb268)); have n3_ := Aside0.mk ((by rw [hg]; exact (below_size (by repeat (first | (with_reducible first | exact HB.out | apply below_alloc | apply pw_below_drewN | apply below_drew1) | exact HB.out))) : w.heap.size ≤ gb268)); clear HB; have HB := n0_; have BK268 := n1_; have GW268 := n2_; have GE268 := n3_; clear n0_ n1_ n2_ n3_; clear hb hbox hg) | ((with_reducible refine gate_callee (f := 10) rfl ?_); refine goesL_ (some 11) rfl rfl Tryz.func10 (by kernel_rfl) rfl #[.slice A1 l1.length c1] rfl (by (try simp only [List.map_toArray, List.map_cons, List.map_nil]); first | done | rfl | (simp only [List.length_drop, List.length_take]; rfl)) ?_; (with_reducible refine (tl_short.calls _ _ l1 true _ ?side1 ?side2 A3.out).mono ?_); (case side1 => repeat (first | exact (Kd.C_below HR1.out HB.out) | (with_reducible refine Kd.C_alloc ?_ _) | (with_reducible refine Kd.C_drewN ?_ _) | (with_reducible refine Kd.C_drew ?_))); (case side2 => exact HC1.out); rintro e w' ⟨rfl, ⟨nd, rfl⟩⟩; refine ⟨_, rfl, ?_⟩; have hcz8_0 : w7.cell? ⟨gb268, 0, none⟩ = some (.int .i64 a0_0) := (blk_cell BK268.out 0).trans rfl; have hcz8_1 : w7.cell? ⟨gb268, 1, none⟩ = some (.int .i64 a0_1) := (blk_cell BK268.out 1).trans rfl; have hcz8_2 : w7.cell? ⟨gb268, 2, none⟩ = some (.int .i64 a0_2) := (blk_cell BK268.out 2).trans rfl; have hcz8_3 : w7.cell? ⟨gb268, 3, none⟩ = some (.int .i64 a0_3) := (blk_cell BK268.out 3).trans rfl; have hfz8_0 := blk_frozen BK268.out 0; have hfz8_1 := blk_frozen BK268.out 1; have hfz8_2 := blk_frozen BK268.out 2; have hfz8_3 := blk_frozen BK268.out 3) | ((with_reducible refine gate_callee (f := 12) rfl ?_); refine goesL_ (some 17) rfl rfl Tryz.func12 (by kernel_rfl) rfl #[.agg #[.int .i64 a0_0, .int .i64 a0_1, .int .i64 a0_2, .int .i64 a0_3], .slice A1 l1.length c1] rfl (by (try simp only [List.map_toArray, List.map_cons, List.map_nil]); first | done | rfl | (simp only [List.length_drop, List.length_take]; rfl)) ?_; (with_reducible refine (cam_Nearest.calls a0_0 a0_1 a0_2 a0_3 _ _ l1 t271 t274 t275 _ ?side1 ?side2 A5.out).mono ?_); (case side1 => repeat (first | exact (Kd.C_below HR1.out (by repeat (first | (with_reducible first | exact HB.out | apply below_alloc | apply pw_below_drewN | apply below_drew1 | refine below_set ?_ GE268.out) | exact HB.out))) | (with_reducible refine Kd.C_alloc ?_ _) | (with_reducible refine Kd.C_drewN ?_ _) | (with_reducible refine Kd.C_drew ?_))); (case side2 => exact HC1.out); rintro e w9 ⟨v272, rfl, ho0, hb⟩; refine ⟨_, rfl, ?_⟩; have n0_ := Aside0.mk (Kd.R_lower ho0 (below_size (by repeat (first | (with_reducible first | exact HB.out | apply below_alloc | apply pw_below_drewN | apply below_drew1 | refine below_set ?_ GE268.out) | exact HB.out)))); have n1_ := Aside0.mk (blk_below (g := gb268) (o := .cells #[.int .i64 a0_0, .int .i64 a0_1, .int .i64 a0_2, .int .i64 a0_3] 23 (0, 0)) (by (with_reducible repeat (first | refine blk_drewN ?_ _ | refine blk_drew ?_ | refine blk_alloc ?_ _)); exact BK268.out) hb); have n2_ := Aside0.mk (below_step (by repeat (first | (with_reducible first | exact HB.out | apply below_alloc | apply pw_below_drewN | apply below_drew1 | refine below_set ?_ GE268.out) | exact HB.out)) hb); clear BK268; clear HB; have HO273 := n0_; have BK268 := n1_; have HB := n2_; clear n0_ n1_ n2_; (try clear hb); (try clear hb2); (try clear hk); (try clear hi); (try clear ho0)))
  (try simp only [Act.put, List.setIfInBounds_toArray, List.set_cons_zero, List.set_cons_succ])
  go_cut [28] (fun v28 wc => ∃ (kq : Nat) (x28_5 : Bool), v28 = .bool x28_5 ∧ Aside0 (tl_CamNearests.j0 kq l1 t271 t274 t275 x28_5 a0_0 a0_1 a0_2 a0_3 = some r) ∧ Aside0 (kq ≤ k) ∧ Aside0 (Kd.R (Kd.int .i64) 3 wc w.heap.size (fun _ => True) v272 t271) ∧ Aside0 (wc.heap[gb268]? = some (.cells #[.int .i64 a0_0, .int .i64 a0_1, .int .i64 a0_2, .int .i64 a0_3] 23 (0, 0))) ∧ Aside0 (Below w.heap.size w wc))
  case first =>
   have H := HC6.out
   clear HC6
   replace H := Option.bind_eq_some_iff.mp H
   obtain ⟨t276, A100, H⟩ := H
   replace H : (if t276 = true then ((tr_Cam.f k l1).bind fun t277 => (tl_CamNearests.j0 k l1 t271 t274 t275 (!t277) a0_0 a0_1 a0_2 a0_3)) else (tl_CamNearests.j0 k l1 t271 t274 t275 true a0_0 a0_1 a0_2 a0_3)) = some r := H
   have A10 := Aside0.mk A100
   clear A100
   by_cases c11 : t276 = true
   ·
    subst c11
    have H1 : ((tr_Cam.f k l1).bind fun t277 => (tl_CamNearests.j0 k l1 t271 t274 t275 (!t277) a0_0 a0_1 a0_2 a0_3)) = some r := by rw [if_pos rfl] at H; exact H
    clear H
    have H := H1
    clear H1
    replace H := Option.bind_eq_some_iff.mp H
    obtain ⟨t277, A120, H⟩ := H
    replace H : (tl_CamNearests.j0 k l1 t271 t274 t275 (!t277) a0_0 a0_1 a0_2 a0_3) = some r := H
    have A12 := Aside0.mk A120
    clear A120
    have H' := Aside0.mk H
    clear H
    have hcz13_0 : w9.cell? ⟨gb268, 0, none⟩ = some (.int .i64 a0_0) := (blk_cell BK268.out 0).trans rfl
    have hcz13_1 : w9.cell? ⟨gb268, 1, none⟩ = some (.int .i64 a0_1) := (blk_cell BK268.out 1).trans rfl
    have hcz13_2 : w9.cell? ⟨gb268, 2, none⟩ = some (.int .i64 a0_2) := (blk_cell BK268.out 2).trans rfl
    have hcz13_3 : w9.cell? ⟨gb268, 3, none⟩ = some (.int .i64 a0_3) := (blk_cell BK268.out 3).trans rfl
    have hfz13_0 := blk_frozen BK268.out 0
    have hfz13_1 := blk_frozen BK268.out 1
    have hfz13_2 := blk_frozen BK268.out 2
    have hfz13_3 := blk_frozen BK268.out 3
    go_wp2_with (first | ((with_reducible refine gate_callee (f := 13) rfl ?_); refine goesL_ (some 22) rfl rfl Tryz.func13 (by kernel_rfl) rfl #[.agg #[.int .i64 a0_0, .int .i64 a0_1, .int .i64 a0_2, .int .i64 a0_3]] rfl (by (try simp only [List.map_toArray, List.map_cons, List.map_nil]); first | done | rfl | (simp only [List.length_drop, List.length_take]; rfl)) ?_; (with_reducible refine (tr_Rule.calls a0_0 a0_1 a0_2 a0_3 true _ A10.out).mono ?_); rintro e w14 ⟨rfl, hb⟩; refine ⟨_, rfl, ?_⟩; have n0_ := Aside0.mk (Kd.R_below (by (with_reducible repeat (first | apply Kd.R_alloc | apply Kd.R_drewN | apply Kd.R_drew)); exact HO273.out) hb); have n1_ := Aside0.mk (blk_below (g := gb268) (o := .cells #[.int .i64 a0_0, .int .i64 a0_1, .int .i64 a0_2, .int .i64 a0_3] 23 (0, 0)) (by (with_reducible repeat (first | refine blk_drewN ?_ _ | refine blk_drew ?_ | refine blk_alloc ?_ _)); exact BK268.out) hb); have n2_ := Aside0.mk (below_step (by repeat (first | (with_reducible first | exact HB.out | apply below_alloc | apply pw_below_drewN | apply below_drew1 | refine below_set ?_ GE268.out) | exact HB.out)) hb); clear HO273; clear BK268; clear HB; have HO273 := n0_; have BK268 := n1_; have HB := n2_; clear n0_ n1_ n2_; (try clear hb); (try clear hb2); (try clear hk); (try clear hi)) | (go_at_call 14; (with_reducible refine (tr_Cam.calls k _ _ l1 t277 _ ?side1 ?side2 A12.out).mono ?_); (case side1 => repeat (first | exact (Kd.C_below HR1.out HB.out) | (with_reducible refine Kd.C_alloc ?_ _) | (with_reducible refine Kd.C_drewN ?_ _) | (with_reducible refine Kd.C_drew ?_))); (case side2 => exact HC1.out); rintro e w' ⟨rfl, ⟨nd, rfl⟩⟩))
    go_meet
    case rel => exact ⟨_, (!t277), (by first | rfl | (simp; done) | (simp [*]; done)), H', ⟨by first | omega | exact Nat.le_refl _⟩, ⟨by (with_reducible repeat (first | apply Kd.R_alloc | apply Kd.R_drewN | apply Kd.R_drew)); exact HO273.out⟩, ⟨by (with_reducible repeat (first | refine blk_drewN ?_ _ | refine blk_drew ?_ | refine blk_alloc ?_ _)); exact BK268.out⟩, ⟨by repeat (first | (with_reducible first | exact HB.out | apply below_alloc | apply pw_below_drewN | apply below_drew1 | refine below_set ?_ GE268.out) | exact HB.out)⟩⟩
   ·
    replace c11 := Bool.eq_false_iff.mpr c11
    subst c11
    have H1 : (tl_CamNearests.j0 k l1 t271 t274 t275 true a0_0 a0_1 a0_2 a0_3) = some r := by rw [if_neg (show ¬ (false = true) by decide)] at H; exact H
    clear H
    have H := H1
    clear H1
    have H' := Aside0.mk H
    clear H
    have hcz15_0 : w9.cell? ⟨gb268, 0, none⟩ = some (.int .i64 a0_0) := (blk_cell BK268.out 0).trans rfl
    have hcz15_1 : w9.cell? ⟨gb268, 1, none⟩ = some (.int .i64 a0_1) := (blk_cell BK268.out 1).trans rfl
    have hcz15_2 : w9.cell? ⟨gb268, 2, none⟩ = some (.int .i64 a0_2) := (blk_cell BK268.out 2).trans rfl
    have hcz15_3 : w9.cell? ⟨gb268, 3, none⟩ = some (.int .i64 a0_3) := (blk_cell BK268.out 3).trans rfl
    have hfz15_0 := blk_frozen BK268.out 0
    have hfz15_1 := blk_frozen BK268.out 1
    have hfz15_2 := blk_frozen BK268.out 2
    have hfz15_3 := blk_frozen BK268.out 3
    go_wp2_with (first | ((with_reducible refine gate_callee (f := 13) rfl ?_); refine goesL_ (some 22) rfl rfl Tryz.func13 (by kernel_rfl) rfl #[.agg #[.int .i64 a0_0, .int .i64 a0_1, .int .i64 a0_2, .int .i64 a0_3]] rfl (by (try simp only [List.map_toArray, List.map_cons, List.map_nil]); first | done | rfl | (simp only [List.length_drop, List.length_take]; rfl)) ?_; (with_reducible refine (tr_Rule.calls a0_0 a0_1 a0_2 a0_3 false _ A10.out).mono ?_); rintro e w16 ⟨rfl, hb⟩; refine ⟨_, rfl, ?_⟩; have n0_ := Aside0.mk (Kd.R_below (by (with_reducible repeat (first | apply Kd.R_alloc | apply Kd.R_drewN | apply Kd.R_drew)); exact HO273.out) hb); have n1_ := Aside0.mk (blk_below (g := gb268) (o := .cells #[.int .i64 a0_0, .int .i64 a0_1, .int .i64 a0_2, .int .i64 a0_3] 23 (0, 0)) (by (with_reducible repeat (first | refine blk_drewN ?_ _ | refine blk_drew ?_ | refine blk_alloc ?_ _)); exact BK268.out) hb); have n2_ := Aside0.mk (below_step (by repeat (first | (with_reducible first | exact HB.out | apply below_alloc | apply pw_below_drewN | apply below_drew1 | refine below_set ?_ GE268.out) | exact HB.out)) hb); clear HO273; clear BK268; clear HB; have HO273 := n0_; have BK268 := n1_; have HB := n2_; clear n0_ n1_ n2_; (try clear hb); (try clear hb2); (try clear hk); (try clear hi)))
    go_meet
    case rel => exact ⟨_, (true), (by first | rfl | (simp; done) | (simp [*]; done)), H', ⟨by first | omega | exact Nat.le_refl _⟩, ⟨by (with_reducible repeat (first | apply Kd.R_alloc | apply Kd.R_drewN | apply Kd.R_drew)); exact HO273.out⟩, ⟨by (with_reducible repeat (first | refine blk_drewN ?_ _ | refine blk_drew ?_ | refine blk_alloc ?_ _)); exact BK268.out⟩, ⟨by repeat (first | (with_reducible first | exact HB.out | apply below_alloc | apply pw_below_drewN | apply below_drew1 | refine below_set ?_ GE268.out) | exact HB.out)⟩⟩
  case rest =>
   clear HC6
   try clear c1
   try clear p2
   try clear c3
   try clear c4
   try clear c10
   try clear c11
   try clear c12
   try clear c13
   try clear hcz13_0
   try clear hcz13_1
   try clear hcz13_2
   try clear hcz13_3
   try clear hcz15_0
   try clear hcz15_1
   try clear hcz15_2
   try clear hcz15_3
   try clear hcz8_0
   try clear hcz8_1
   try clear hcz8_2
   try clear hcz8_3
   try clear hfz13_0
   try clear hfz13_1
   try clear hfz13_2
   try clear hfz13_3
   try clear hfz15_0
   try clear hfz15_1
   try clear hfz15_2
   try clear hfz15_3
   try clear hfz8_0
   try clear hfz8_1
   try clear hfz8_2
   try clear hfz8_3
   obtain ⟨kq, x28_5, rfl, HA, HJ5, HO_5, BK268, HB⟩ := hcut
   cases kq with
   | zero => exact absurd HA.out (by simp [tl_CamNearests.j0])
   | succ kj5 =>
    have H := HA.out
    clear HA
    simp only [tl_CamNearests.j0] at H
    by_cases c17 : x28_5 = true
    ·
     subst c17
     have H1 : (if t275 = 2 then (if (t271.length : Int) = 0 then (if t274 = 0 then ((tl_known.f).bind fun t278 => (some t278)) else (some false)) else (some false)) else (some false)) = some r := by rw [if_pos rfl] at H; exact H
     clear H
     have H := H1
     clear H1
     by_cases c18 : t275 = 2
     ·
      rw [if_pos c18] at H
      have c18b0 : (t275 == 2) = true := beq_iff_eq.mpr c18
      have c18b1 : (t275 != 2) = false := bne_eq_false_iff_eq.mpr c18
      clear c18
      by_cases c19 : (t271.length : Int) = 0
      ·
       rw [if_pos c19] at H
       have c19b0 : ((t271.length : Int) == 0) = true := beq_iff_eq.mpr c19
       have c19b1 : ((t271.length : Int) != 0) = false := bne_eq_false_iff_eq.mpr c19
       clear c19
       by_cases c20 : t274 = 0
       ·
        rw [if_pos c20] at H
        have c20b0 : (t274 == 0) = true := beq_iff_eq.mpr c20
        have c20b1 : (t274 != 0) = false := bne_eq_false_iff_eq.mpr c20
        clear c20
        replace H := Option.bind_eq_some_iff.mp H
        obtain ⟨t278, A210, H⟩ := H
        replace H : (some t278) = some r := H
        have A21 := Aside0.mk A210
        clear A210
        obtain rfl := Option.some.inj H
        obtain ⟨Ao22, co22, eo22⟩ := Kd.R_slice HO_5.out
        subst eo22
        go_wp2_with (first | (go_at_call 11; (with_reducible refine (tl_known.calls  t278 _ A21.out).mono ?_); rintro e w23 ⟨rfl, hb⟩; have n0_ := Aside0.mk (Kd.R_below (by (with_reducible repeat (first | apply Kd.R_alloc | apply Kd.R_drewN | apply Kd.R_drew)); exact HO_5.out) hb); have n1_ := Aside0.mk (blk_below (g := gb268) (o := .cells #[.int .i64 a0_0, .int .i64 a0_1, .int .i64 a0_2, .int .i64 a0_3] 23 (0, 0)) (by (with_reducible repeat (first | refine blk_drewN ?_ _ | refine blk_drew ?_ | refine blk_alloc ?_ _)); exact BK268.out) hb); have n2_ := Aside0.mk (below_step (by repeat (first | (with_reducible first | exact HB.out | apply below_alloc | apply pw_below_drewN | apply below_drew1 | refine below_set ?_ GE268.out) | exact HB.out)) hb); clear HO_5; clear BK268; clear HB; have HO_5 := n0_; have BK268 := n1_; have HB := n2_; clear n0_ n1_ n2_; (try clear hb); (try clear hb2); (try clear hk); (try clear hi)))
        go_ret
        exact ⟨by first | rfl | (simp [errW_none, errW_some] <;> rfl) | (simp [*, errW_none, errW_some] <;> rfl), by repeat (first | (with_reducible first | exact HB.out | apply below_alloc | apply pw_below_drewN | apply below_drew1 | refine below_set ?_ GE268.out) | exact HB.out)⟩
       ·
        rw [if_neg c20] at H
        have c20b0 : (t274 == 0) = false := beq_eq_false_iff_ne.mpr c20
        have c20b1 : (t274 != 0) = true := bne_iff_ne.mpr c20
        obtain rfl := Option.some.inj H
        obtain ⟨Ao24, co24, eo24⟩ := Kd.R_slice HO_5.out
        subst eo24
        go_wp2
        go_ret
        exact ⟨by first | rfl | (simp [errW_none, errW_some] <;> rfl) | (simp [*, errW_none, errW_some] <;> rfl), by repeat (first | (with_reducible first | exact HB.out | apply below_alloc | apply pw_below_drewN | apply below_drew1 | refine below_set ?_ GE268.out) | exact HB.out)⟩
      ·
       rw [if_neg c19] at H
       have c19b0 : ((t271.length : Int) == 0) = false := beq_eq_false_iff_ne.mpr c19
       have c19b1 : ((t271.length : Int) != 0) = true := bne_iff_ne.mpr c19
       have c19b2 : ¬ (t271 = []) := fun h_ => c19 (by rw [h_]; rfl)
       obtain rfl := Option.some.inj H
       obtain ⟨Ao25, co25, eo25⟩ := Kd.R_slice HO_5.out
       subst eo25
       go_wp2
       go_ret
       exact ⟨by first | rfl | (simp [errW_none, errW_some] <;> rfl) | (simp [*, errW_none, errW_some] <;> rfl), by repeat (first | (with_reducible first | exact HB.out | apply below_alloc | apply pw_below_drewN | apply below_drew1 | refine below_set ?_ GE268.out) | exact HB.out)⟩
     ·
      rw [if_neg c18] at H
      have c18b0 : (t275 == 2) = false := beq_eq_false_iff_ne.mpr c18
      have c18b1 : (t275 != 2) = true := bne_iff_ne.mpr c18
      obtain rfl := Option.some.inj H
      go_wp2
      go_ret
      exact ⟨by first | rfl | (simp [errW_none, errW_some] <;> rfl) | (simp [*, errW_none, errW_some] <;> rfl), by repeat (first | (with_reducible first | exact HB.out | apply below_alloc | apply pw_below_drewN | apply below_drew1 | refine below_set ?_ GE268.out) | exact HB.out)⟩
    ·
     replace c17 := Bool.eq_false_iff.mpr c17
     subst c17
     have H1 : ((tr_Nearest.f kj5 a0_0 a0_1 a0_2 a0_3 l1).bind fun bt279 => (if t275 = 0 then ((tr_Same.f kj5 t271 bt279.1).bind fun t283 => (if t283 = true then (if t274 = bt279.2 then ((tl_known.f).bind fun t284 => (some t284)) else (some false)) else (some false))) else (some false))) = some r := by rw [if_neg (show ¬ (false = true) by decide)] at H; exact H
     clear H
     have H := H1
     clear H1
     replace H := Option.bind_eq_some_iff.mp H
     obtain ⟨⟨t279, t282⟩, A260, H⟩ := H
     replace H : (if t275 = 0 then ((tr_Same.f kj5 t271 t279).bind fun t283 => (if t283 = true then (if t274 = t282 then ((tl_known.f).bind fun t284 => (some t284)) else (some false)) else (some false))) else (some false)) = some r := H
     have A26 := Aside0.mk A260
     clear A260
     by_cases c27 : t275 = 0
     ·
      rw [if_pos c27] at H
      have c27b0 : (t275 == 0) = true := beq_iff_eq.mpr c27
      have c27b1 : (t275 != 0) = false := bne_eq_false_iff_eq.mpr c27
      clear c27
      replace H := Option.bind_eq_some_iff.mp H
      obtain ⟨t283, A280, H⟩ := H
      replace H : (if t283 = true then (if t274 = t282 then ((tl_known.f).bind fun t284 => (some t284)) else (some false)) else (some false)) = some r := H
      have A28 := Aside0.mk A280
      clear A280
      by_cases c29 : t283 = true
      ·
       subst c29
       have H1 : (if t274 = t282 then ((tl_known.f).bind fun t284 => (some t284)) else (some false)) = some r := by rw [if_pos rfl] at H; exact H
       clear H
       have H := H1
       clear H1
       by_cases c30 : t274 = t282
       ·
        rw [if_pos c30] at H
        have c30b0 : (t274 == t282) = true := beq_iff_eq.mpr c30
        have c30b1 : (t274 != t282) = false := bne_eq_false_iff_eq.mpr c30
        clear c30
        replace H := Option.bind_eq_some_iff.mp H
        obtain ⟨t284, A310, H⟩ := H
        replace H : (some t284) = some r := H
        have A31 := Aside0.mk A310
        clear A310
        obtain rfl := Option.some.inj H
        have hcz32_0 : wc.cell? ⟨gb268, 0, none⟩ = some (.int .i64 a0_0) := (blk_cell BK268.out 0).trans rfl
        have hcz32_1 : wc.cell? ⟨gb268, 1, none⟩ = some (.int .i64 a0_1) := (blk_cell BK268.out 1).trans rfl
        have hcz32_2 : wc.cell? ⟨gb268, 2, none⟩ = some (.int .i64 a0_2) := (blk_cell BK268.out 2).trans rfl
        have hcz32_3 : wc.cell? ⟨gb268, 3, none⟩ = some (.int .i64 a0_3) := (blk_cell BK268.out 3).trans rfl
        have hfz32_0 := blk_frozen BK268.out 0
        have hfz32_1 := blk_frozen BK268.out 1
        have hfz32_2 := blk_frozen BK268.out 2
        have hfz32_3 := blk_frozen BK268.out 3
        go_wp2_with (first | ((with_reducible refine gate_callee (f := 15) rfl ?_); refine goesL_ (some 46) rfl rfl Tryz.func15 (by kernel_rfl) rfl #[.agg #[.int .i64 a0_0, .int .i64 a0_1, .int .i64 a0_2, .int .i64 a0_3], .slice A1 l1.length c1] rfl (by (try simp only [List.map_toArray, List.map_cons, List.map_nil]); first | done | rfl | (simp only [List.length_drop, List.length_take]; rfl)) ?_; (with_reducible refine (tr_Nearest.calls kj5 a0_0 a0_1 a0_2 a0_3 _ _ l1 t279 t282 _ ?side1 ?side2 A26.out).mono ?_); (case side1 => repeat (first | exact (Kd.C_below HR1.out HB.out) | (with_reducible refine Kd.C_alloc ?_ _) | (with_reducible refine Kd.C_drewN ?_ _) | (with_reducible refine Kd.C_drew ?_))); (case side2 => exact HC1.out); rintro e w33 ⟨v280, rfl, ho0, hb⟩; refine ⟨_, rfl, ?_⟩; have n0_ := Aside0.mk (Kd.R_elder' (by (with_reducible repeat (first | apply Kd.R_alloc | apply Kd.R_drewN | apply Kd.R_drew)); exact HO_5.out) (Kd.R_base ho0) hb); have n1_ := Aside0.mk (Kd.R_lower (Kd.R_new' ho0 (Kd.R_lt (by (with_reducible repeat (first | apply Kd.R_alloc | apply Kd.R_drewN | apply Kd.R_drew)); exact HO_5.out))) (below_size (by repeat (first | (with_reducible first | exact HB.out | apply below_alloc | apply pw_below_drewN | apply below_drew1 | refine below_set ?_ GE268.out) | exact HB.out)))); have n2_ := Aside0.mk (blk_below (g := gb268) (o := .cells #[.int .i64 a0_0, .int .i64 a0_1, .int .i64 a0_2, .int .i64 a0_3] 23 (0, 0)) (by (with_reducible repeat (first | refine blk_drewN ?_ _ | refine blk_drew ?_ | refine blk_alloc ?_ _)); exact BK268.out) hb); have n3_ := Aside0.mk (below_step (by repeat (first | (with_reducible first | exact HB.out | apply below_alloc | apply pw_below_drewN | apply below_drew1 | refine below_set ?_ GE268.out) | exact HB.out)) hb); clear HO_5; clear BK268; clear HB; have HO_5 := n0_; have HO281 := n1_; have BK268 := n2_; have HB := n3_; clear n0_ n1_ n2_ n3_; (try clear hb); (try clear hb2); (try clear hk); (try clear hi); (try clear ho0); obtain ⟨Ao34, co34, eo34⟩ := Kd.R_slice HO_5.out; subst eo34; obtain ⟨Ao35, co35, eo35⟩ := Kd.R_slice HO281.out; subst eo35) | (go_at_call 16; (with_reducible refine (tr_Same.calls kj5 _ _ t271 _ _ t279 true _ ?side1 ?side2 ?side3 ?side4 A28.out).mono ?_); (case side1 => repeat (first | exact (Kd.R_reads' HO_5.out).2.2 | (with_reducible refine Kd.C_alloc ?_ _) | (with_reducible refine Kd.C_drewN ?_ _) | (with_reducible refine Kd.C_drew ?_))); (case side2 => exact (Kd.R_reads' HO_5.out).2.1); (case side3 => repeat (first | exact (Kd.R_reads' HO281.out).2.2 | (with_reducible refine Kd.C_alloc ?_ _) | (with_reducible refine Kd.C_drewN ?_ _) | (with_reducible refine Kd.C_drew ?_))); (case side4 => exact (Kd.R_reads' HO281.out).2.1); rintro e w' ⟨rfl, ⟨nd, rfl⟩⟩) | (go_at_call 11; (with_reducible refine (tl_known.calls  t284 _ A31.out).mono ?_); rintro e w36 ⟨rfl, hb⟩; have n0_ := Aside0.mk (Kd.R_below (by (with_reducible repeat (first | apply Kd.R_alloc | apply Kd.R_drewN | apply Kd.R_drew)); exact HO_5.out) hb); have n1_ := Aside0.mk (Kd.R_below (by (with_reducible repeat (first | apply Kd.R_alloc | apply Kd.R_drewN | apply Kd.R_drew)); exact HO281.out) hb); have n2_ := Aside0.mk (blk_below (g := gb268) (o := .cells #[.int .i64 a0_0, .int .i64 a0_1, .int .i64 a0_2, .int .i64 a0_3] 23 (0, 0)) (by (with_reducible repeat (first | refine blk_drewN ?_ _ | refine blk_drew ?_ | refine blk_alloc ?_ _)); exact BK268.out) hb); have n3_ := Aside0.mk (below_step (by repeat (first | (with_reducible first | exact HB.out | apply below_alloc | apply pw_below_drewN | apply below_drew1 | refine below_set ?_ GE268.out) | exact HB.out)) hb); clear HO_5; clear HO281; clear BK268; clear HB; have HO_5 := n0_; have HO281 := n1_; have BK268 := n2_; have HB := n3_; clear n0_ n1_ n2_ n3_; (try clear hb); (try clear hb2); (try clear hk); (try clear hi)))
        go_ret
        exact ⟨by first | rfl | (simp [errW_none, errW_some] <;> rfl) | (simp [*, errW_none, errW_some] <;> rfl), by repeat (first | (with_reducible first | exact HB.out | apply below_alloc | apply pw_below_drewN | apply below_drew1 | refine below_set ?_ GE268.out) | exact HB.out)⟩
       ·
        rw [if_neg c30] at H
        have c30b0 : (t274 == t282) = false := beq_eq_false_iff_ne.mpr c30
        have c30b1 : (t274 != t282) = true := bne_iff_ne.mpr c30
        obtain rfl := Option.some.inj H
        have hcz37_0 : wc.cell? ⟨gb268, 0, none⟩ = some (.int .i64 a0_0) := (blk_cell BK268.out 0).trans rfl
        have hcz37_1 : wc.cell? ⟨gb268, 1, none⟩ = some (.int .i64 a0_1) := (blk_cell BK268.out 1).trans rfl
        have hcz37_2 : wc.cell? ⟨gb268, 2, none⟩ = some (.int .i64 a0_2) := (blk_cell BK268.out 2).trans rfl
        have hcz37_3 : wc.cell? ⟨gb268, 3, none⟩ = some (.int .i64 a0_3) := (blk_cell BK268.out 3).trans rfl
        have hfz37_0 := blk_frozen BK268.out 0
        have hfz37_1 := blk_frozen BK268.out 1
        have hfz37_2 := blk_frozen BK268.out 2
        have hfz37_3 := blk_frozen BK268.out 3
        go_wp2_with (first | ((with_reducible refine gate_callee (f := 15) rfl ?_); refine goesL_ (some 46) rfl rfl Tryz.func15 (by kernel_rfl) rfl #[.agg #[.int .i64 a0_0, .int .i64 a0_1, .int .i64 a0_2, .int .i64 a0_3], .slice A1 l1.length c1] rfl (by (try simp only [List.map_toArray, List.map_cons, List.map_nil]); first | done | rfl | (simp only [List.length_drop, List.length_take]; rfl)) ?_; (with_reducible refine (tr_Nearest.calls kj5 a0_0 a0_1 a0_2 a0_3 _ _ l1 t279 t282 _ ?side1 ?side2 A26.out).mono ?_); (case side1 => repeat (first | exact (Kd.C_below HR1.out HB.out) | (with_reducible refine Kd.C_alloc ?_ _) | (with_reducible refine Kd.C_drewN ?_ _) | (with_reducible refine Kd.C_drew ?_))); (case side2 => exact HC1.out); rintro e w38 ⟨v280, rfl, ho0, hb⟩; refine ⟨_, rfl, ?_⟩; have n0_ := Aside0.mk (Kd.R_elder' (by (with_reducible repeat (first | apply Kd.R_alloc | apply Kd.R_drewN | apply Kd.R_drew)); exact HO_5.out) (Kd.R_base ho0) hb); have n1_ := Aside0.mk (Kd.R_lower (Kd.R_new' ho0 (Kd.R_lt (by (with_reducible repeat (first | apply Kd.R_alloc | apply Kd.R_drewN | apply Kd.R_drew)); exact HO_5.out))) (below_size (by repeat (first | (with_reducible first | exact HB.out | apply below_alloc | apply pw_below_drewN | apply below_drew1 | refine below_set ?_ GE268.out) | exact HB.out)))); have n2_ := Aside0.mk (blk_below (g := gb268) (o := .cells #[.int .i64 a0_0, .int .i64 a0_1, .int .i64 a0_2, .int .i64 a0_3] 23 (0, 0)) (by (with_reducible repeat (first | refine blk_drewN ?_ _ | refine blk_drew ?_ | refine blk_alloc ?_ _)); exact BK268.out) hb); have n3_ := Aside0.mk (below_step (by repeat (first | (with_reducible first | exact HB.out | apply below_alloc | apply pw_below_drewN | apply below_drew1 | refine below_set ?_ GE268.out) | exact HB.out)) hb); clear HO_5; clear BK268; clear HB; have HO_5 := n0_; have HO281 := n1_; have BK268 := n2_; have HB := n3_; clear n0_ n1_ n2_ n3_; (try clear hb); (try clear hb2); (try clear hk); (try clear hi); (try clear ho0); obtain ⟨Ao39, co39, eo39⟩ := Kd.R_slice HO_5.out; subst eo39; obtain ⟨Ao40, co40, eo40⟩ := Kd.R_slice HO281.out; subst eo40) | (go_at_call 16; (with_reducible refine (tr_Same.calls kj5 _ _ t271 _ _ t279 true _ ?side1 ?side2 ?side3 ?side4 A28.out).mono ?_); (case side1 => repeat (first | exact (Kd.R_reads' HO_5.out).2.2 | (with_reducible refine Kd.C_alloc ?_ _) | (with_reducible refine Kd.C_drewN ?_ _) | (with_reducible refine Kd.C_drew ?_))); (case side2 => exact (Kd.R_reads' HO_5.out).2.1); (case side3 => repeat (first | exact (Kd.R_reads' HO281.out).2.2 | (with_reducible refine Kd.C_alloc ?_ _) | (with_reducible refine Kd.C_drewN ?_ _) | (with_reducible refine Kd.C_drew ?_))); (case side4 => exact (Kd.R_reads' HO281.out).2.1); rintro e w' ⟨rfl, ⟨nd, rfl⟩⟩))
        go_ret
        exact ⟨by first | rfl | (simp [errW_none, errW_some] <;> rfl) | (simp [*, errW_none, errW_some] <;> rfl), by repeat (first | (with_reducible first | exact HB.out | apply below_alloc | apply pw_below_drewN | apply below_drew1 | refine below_set ?_ GE268.out) | exact HB.out)⟩
      ·
       replace c29 := Bool.eq_false_iff.mpr c29
       subst c29
       have H1 : (some false) = some r := by rw [if_neg (show ¬ (false = true) by decide)] at H; exact H
       clear H
       have H := H1
       clear H1
       obtain rfl := Option.some.inj H
       have hcz41_0 : wc.cell? ⟨gb268, 0, none⟩ = some (.int .i64 a0_0) := (blk_cell BK268.out 0).trans rfl
       have hcz41_1 : wc.cell? ⟨gb268, 1, none⟩ = some (.int .i64 a0_1) := (blk_cell BK268.out 1).trans rfl
       have hcz41_2 : wc.cell? ⟨gb268, 2, none⟩ = some (.int .i64 a0_2) := (blk_cell BK268.out 2).trans rfl
       have hcz41_3 : wc.cell? ⟨gb268, 3, none⟩ = some (.int .i64 a0_3) := (blk_cell BK268.out 3).trans rfl
       have hfz41_0 := blk_frozen BK268.out 0
       have hfz41_1 := blk_frozen BK268.out 1
       have hfz41_2 := blk_frozen BK268.out 2
       have hfz41_3 := blk_frozen BK268.out 3
       go_wp2_with (first | ((with_reducible refine gate_callee (f := 15) rfl ?_); refine goesL_ (some 46) rfl rfl Tryz.func15 (by kernel_rfl) rfl #[.agg #[.int .i64 a0_0, .int .i64 a0_1, .int .i64 a0_2, .int .i64 a0_3], .slice A1 l1.length c1] rfl (by (try simp only [List.map_toArray, List.map_cons, List.map_nil]); first | done | rfl | (simp only [List.length_drop, List.length_take]; rfl)) ?_; (with_reducible refine (tr_Nearest.calls kj5 a0_0 a0_1 a0_2 a0_3 _ _ l1 t279 t282 _ ?side1 ?side2 A26.out).mono ?_); (case side1 => repeat (first | exact (Kd.C_below HR1.out HB.out) | (with_reducible refine Kd.C_alloc ?_ _) | (with_reducible refine Kd.C_drewN ?_ _) | (with_reducible refine Kd.C_drew ?_))); (case side2 => exact HC1.out); rintro e w42 ⟨v280, rfl, ho0, hb⟩; refine ⟨_, rfl, ?_⟩; have n0_ := Aside0.mk (Kd.R_elder' (by (with_reducible repeat (first | apply Kd.R_alloc | apply Kd.R_drewN | apply Kd.R_drew)); exact HO_5.out) (Kd.R_base ho0) hb); have n1_ := Aside0.mk (Kd.R_lower (Kd.R_new' ho0 (Kd.R_lt (by (with_reducible repeat (first | apply Kd.R_alloc | apply Kd.R_drewN | apply Kd.R_drew)); exact HO_5.out))) (below_size (by repeat (first | (with_reducible first | exact HB.out | apply below_alloc | apply pw_below_drewN | apply below_drew1 | refine below_set ?_ GE268.out) | exact HB.out)))); have n2_ := Aside0.mk (blk_below (g := gb268) (o := .cells #[.int .i64 a0_0, .int .i64 a0_1, .int .i64 a0_2, .int .i64 a0_3] 23 (0, 0)) (by (with_reducible repeat (first | refine blk_drewN ?_ _ | refine blk_drew ?_ | refine blk_alloc ?_ _)); exact BK268.out) hb); have n3_ := Aside0.mk (below_step (by repeat (first | (with_reducible first | exact HB.out | apply below_alloc | apply pw_below_drewN | apply below_drew1 | refine below_set ?_ GE268.out) | exact HB.out)) hb); clear HO_5; clear BK268; clear HB; have HO_5 := n0_; have HO281 := n1_; have BK268 := n2_; have HB := n3_; clear n0_ n1_ n2_ n3_; (try clear hb); (try clear hb2); (try clear hk); (try clear hi); (try clear ho0); obtain ⟨Ao43, co43, eo43⟩ := Kd.R_slice HO_5.out; subst eo43; obtain ⟨Ao44, co44, eo44⟩ := Kd.R_slice HO281.out; subst eo44) | (go_at_call 16; (with_reducible refine (tr_Same.calls kj5 _ _ t271 _ _ t279 false _ ?side1 ?side2 ?side3 ?side4 A28.out).mono ?_); (case side1 => repeat (first | exact (Kd.R_reads' HO_5.out).2.2 | (with_reducible refine Kd.C_alloc ?_ _) | (with_reducible refine Kd.C_drewN ?_ _) | (with_reducible refine Kd.C_drew ?_))); (case side2 => exact (Kd.R_reads' HO_5.out).2.1); (case side3 => repeat (first | exact (Kd.R_reads' HO281.out).2.2 | (with_reducible refine Kd.C_alloc ?_ _) | (with_reducible refine Kd.C_drewN ?_ _) | (with_reducible refine Kd.C_drew ?_))); (case side4 => exact (Kd.R_reads' HO281.out).2.1); rintro e w' ⟨rfl, ⟨nd, rfl⟩⟩))
       go_ret
       exact ⟨by first | rfl | (simp [errW_none, errW_some] <;> rfl) | (simp [*, errW_none, errW_some] <;> rfl), by repeat (first | (with_reducible first | exact HB.out | apply below_alloc | apply pw_below_drewN | apply below_drew1 | refine below_set ?_ GE268.out) | exact HB.out)⟩
     ·
      rw [if_neg c27] at H
      have c27b0 : (t275 == 0) = false := beq_eq_false_iff_ne.mpr c27
      have c27b1 : (t275 != 0) = true := bne_iff_ne.mpr c27
      obtain rfl := Option.some.inj H
      have hcz45_0 : wc.cell? ⟨gb268, 0, none⟩ = some (.int .i64 a0_0) := (blk_cell BK268.out 0).trans rfl
      have hcz45_1 : wc.cell? ⟨gb268, 1, none⟩ = some (.int .i64 a0_1) := (blk_cell BK268.out 1).trans rfl
      have hcz45_2 : wc.cell? ⟨gb268, 2, none⟩ = some (.int .i64 a0_2) := (blk_cell BK268.out 2).trans rfl
      have hcz45_3 : wc.cell? ⟨gb268, 3, none⟩ = some (.int .i64 a0_3) := (blk_cell BK268.out 3).trans rfl
      have hfz45_0 := blk_frozen BK268.out 0
      have hfz45_1 := blk_frozen BK268.out 1
      have hfz45_2 := blk_frozen BK268.out 2
      have hfz45_3 := blk_frozen BK268.out 3
      go_wp2_with (first | ((with_reducible refine gate_callee (f := 15) rfl ?_); refine goesL_ (some 46) rfl rfl Tryz.func15 (by kernel_rfl) rfl #[.agg #[.int .i64 a0_0, .int .i64 a0_1, .int .i64 a0_2, .int .i64 a0_3], .slice A1 l1.length c1] rfl (by (try simp only [List.map_toArray, List.map_cons, List.map_nil]); first | done | rfl | (simp only [List.length_drop, List.length_take]; rfl)) ?_; (with_reducible refine (tr_Nearest.calls kj5 a0_0 a0_1 a0_2 a0_3 _ _ l1 t279 t282 _ ?side1 ?side2 A26.out).mono ?_); (case side1 => repeat (first | exact (Kd.C_below HR1.out HB.out) | (with_reducible refine Kd.C_alloc ?_ _) | (with_reducible refine Kd.C_drewN ?_ _) | (with_reducible refine Kd.C_drew ?_))); (case side2 => exact HC1.out); rintro e w46 ⟨v280, rfl, ho0, hb⟩; refine ⟨_, rfl, ?_⟩; have n0_ := Aside0.mk (Kd.R_elder' (by (with_reducible repeat (first | apply Kd.R_alloc | apply Kd.R_drewN | apply Kd.R_drew)); exact HO_5.out) (Kd.R_base ho0) hb); have n1_ := Aside0.mk (Kd.R_lower (Kd.R_new' ho0 (Kd.R_lt (by (with_reducible repeat (first | apply Kd.R_alloc | apply Kd.R_drewN | apply Kd.R_drew)); exact HO_5.out))) (below_size (by repeat (first | (with_reducible first | exact HB.out | apply below_alloc | apply pw_below_drewN | apply below_drew1 | refine below_set ?_ GE268.out) | exact HB.out)))); have n2_ := Aside0.mk (blk_below (g := gb268) (o := .cells #[.int .i64 a0_0, .int .i64 a0_1, .int .i64 a0_2, .int .i64 a0_3] 23 (0, 0)) (by (with_reducible repeat (first | refine blk_drewN ?_ _ | refine blk_drew ?_ | refine blk_alloc ?_ _)); exact BK268.out) hb); have n3_ := Aside0.mk (below_step (by repeat (first | (with_reducible first | exact HB.out | apply below_alloc | apply pw_below_drewN | apply below_drew1 | refine below_set ?_ GE268.out) | exact HB.out)) hb); clear HO_5; clear BK268; clear HB; have HO_5 := n0_; have HO281 := n1_; have BK268 := n2_; have HB := n3_; clear n0_ n1_ n2_ n3_; (try clear hb); (try clear hb2); (try clear hk); (try clear hi); (try clear ho0)))
      go_ret
      exact ⟨by first | rfl | (simp [errW_none, errW_some] <;> rfl) | (simp [*, errW_none, errW_some] <;> rfl), by repeat (first | (with_reducible first | exact HB.out | apply below_alloc | apply pw_below_drewN | apply below_drew1 | refine below_set ?_ GE268.out) | exact HB.out)⟩
 ·
  replace c4 := Bool.eq_false_iff.mpr c4
  subst c4
  have H1 : ((tl_known.f).bind fun t270 => (some t270)) = some r := by rw [if_neg (show ¬ (false = true) by decide)] at H; exact H
  clear H
  have H := H1
  clear H1
  replace H := Option.bind_eq_some_iff.mp H
  obtain ⟨t270, A470, H⟩ := H
  replace H : (some t270) = some r := H
  have A47 := Aside0.mk A470
  clear A470
  obtain rfl := Option.some.inj H
  go_enter Tryz.func3, Tryz.ntmps3
  go_wp2_with (first | ((with_reducible refine gate_dst (N := 2) rfl ?_); (try (refine gate_guard (by rfl) ?_; dsimp only)); refine box_event ?hg (N := 2) ?hd (cs := #[.int .i64 a0_0, .int .i64 a0_1, .int .i64 a0_2, .int .i64 a0_3]) (t := 23) ?hr ?_; (case hd => rfl); (case hg => rfl); (case hr => first | (go_simp; done) | (go_simp; rfl)); intro gb268 hg w48 hbox hb; have n0_ := Aside0.mk (below_step (by repeat (first | (with_reducible first | exact HB.out | apply below_alloc | apply pw_below_drewN | apply below_drew1) | exact HB.out)) hb); have n1_ := Aside0.mk (hbox); have n2_ := Aside0.mk ((by rw [hg]; exact (below_size (by repeat (first | (with_reducible first | exact HB.out | apply below_alloc | apply pw_below_drewN | apply below_drew1) | exact HB.out))) : w.heap.size ≤ gb268)); have n3_ := Aside0.mk ((by rw [hg]; exact (below_size (by repeat (first | (with_reducible first | exact HB.out | apply below_alloc | apply pw_below_drewN | apply below_drew1) | exact HB.out))) : w.heap.size ≤ gb268)); clear HB; have HB := n0_; have BK268 := n1_; have GW268 := n2_; have GE268 := n3_; clear n0_ n1_ n2_ n3_; clear hb hbox hg) | ((with_reducible refine gate_callee (f := 10) rfl ?_); refine goesL_ (some 11) rfl rfl Tryz.func10 (by kernel_rfl) rfl #[.slice A1 l1.length c1] rfl (by (try simp only [List.map_toArray, List.map_cons, List.map_nil]); first | done | rfl | (simp only [List.length_drop, List.length_take]; rfl)) ?_; (with_reducible refine (tl_short.calls _ _ l1 false _ ?side1 ?side2 A3.out).mono ?_); (case side1 => repeat (first | exact (Kd.C_below HR1.out HB.out) | (with_reducible refine Kd.C_alloc ?_ _) | (with_reducible refine Kd.C_drewN ?_ _) | (with_reducible refine Kd.C_drew ?_))); (case side2 => exact HC1.out); rintro e w' ⟨rfl, ⟨nd, rfl⟩⟩; refine ⟨_, rfl, ?_⟩) | ((with_reducible refine gate_callee (f := 11) rfl ?_); refine goesL_ (some 13) rfl rfl Tryz.func11 (by kernel_rfl) rfl #[] rfl (by (try simp only [List.map_toArray, List.map_cons, List.map_nil]); first | done | rfl | (simp only [List.length_drop, List.length_take]; rfl)) ?_; (with_reducible refine (tl_known.calls  t270 _ A47.out).mono ?_); rintro e w49 ⟨rfl, hb⟩; refine ⟨_, rfl, ?_⟩; have n0_ := Aside0.mk (blk_below (g := gb268) (o := .cells #[.int .i64 a0_0, .int .i64 a0_1, .int .i64 a0_2, .int .i64 a0_3] 23 (0, 0)) (by (with_reducible repeat (first | refine blk_drewN ?_ _ | refine blk_drew ?_ | refine blk_alloc ?_ _)); exact BK268.out) hb); have n1_ := Aside0.mk (below_step (by repeat (first | (with_reducible first | exact HB.out | apply below_alloc | apply pw_below_drewN | apply below_drew1 | refine below_set ?_ GE268.out) | exact HB.out)) hb); clear BK268; clear HB; have BK268 := n0_; have HB := n1_; clear n0_ n1_; (try clear hb); (try clear hb2); (try clear hk); (try clear hi)))
  go_ret
  exact ⟨by first | rfl | (simp [errW_none, errW_some] <;> rfl) | (simp [*, errW_none, errW_some] <;> rfl), by repeat (first | (with_reducible first | exact HB.out | apply below_alloc | apply pw_below_drewN | apply below_drew1 | refine below_set ?_ GE268.out) | exact HB.out)⟩
end Go.Proofs.YtbjimmemcmjpcaaGreatDoor.Print
end
section
namespace Go.Proofs.YtbjimmemcmjpcaaGreatDoor.Print
open Go.RowKit YtbjimmemcmjpcaaGreatDoorW.PrintWords YtbjimmemcmjpcaaGreatDoorW.PrintLast YtbjimmemcmjpcaaGreatDoorW.PrintMore
theorem cam_atM {l : List Int} (h : isCamB l = true) : (3 ≤ l.length ∧ l.length ≤ 24) ∧ ∀ k, k < l.length → 0 ≤ atM l k ∧ atM l k ≤ 30 := by
 have hb : 3 ≤ l.length ∧ l.length ≤ 24 := by simp only [isCamB, Bool.and_eq_true, decide_eq_true_eq] at h; exact h.1
 exact ⟨hb, fun k hk => by rw [← rd_atM]; exact isCam_rd h k hk⟩
theorem nearests_eval (K : Nat) (lw hg s c : Int) (w r : List Int) (e : Int) (hs : (w.length : Int) ≤ 27) (c1 : ruleB lw hg s c = true) (e0 : cam_Nearest.f lw hg s c w = some (r, e, 0)) (e1 : tr_Cam.f (K + 1) w = some true)
  (e2 : tr_Nearest.f K lw hg s c w = some (r, e)) (e3 : tr_Same.f K r r = some true) : tl_CamNearests.f (K + 1) lw hg s c w = some true := by
 unfold tl_CamNearests.f tl_short.f
 simp only [Option.bind_some, hs, decide_true, if_true, e0, refRule_f, c1, e1, Bool.not_true]
 rw [tl_CamNearests.j0]
 simp only [Bool.false_eq_true, if_false, if_true, e2, e3, Option.bind_some, tl_known.f]
theorem camNearests_pure (lw hg s c : Int) (w : List Int) (h0 : (Lit.int .i64 lw).wf = true) (h1 : (Lit.int .i64 hg).wf = true) (h2 : (Lit.int .i64 s).wf = true) (h3 : (Lit.int .i64 c).wf = true) (hm : w.length ≤ maxLen) (hw : ∀ x ∈ w, (Lit.int .i64 x).wf = true) :
  ∃ k, tl_CamNearests.f k lw hg s c w = some true := by
 clear h0 h1 h2 h3 hm hw
 by_cases hs : (w.length : Int) ≤ 27
 case neg =>
  refine ⟨0, ?_⟩
  unfold tl_CamNearests.f tl_short.f
  simp only [Option.bind_some, hs, decide_false, Bool.false_eq_true, if_false, tl_known.f]
 obtain ⟨K1, h1⟩ := evR_cam w (by omega)
 by_cases g : ruleB lw hg s c = true ∧ isCamB w = true
 ·
  obtain ⟨c1, c2⟩ := g
  obtain ⟨hl, hb⟩ := cam_atM c2
  have hrb := rule_bd c1
  obtain ⟨r, E, hE, hEe, hs1, ⟨K2, h2⟩⟩ := evR_nearest (lw := lw) (hg := hg) (sl := s) (ch := c) (want := w) hrb hb (by omega)
  have e0 : cam_Nearest.f lw hg s c w = some (r, (E : Int), 0) := by
   unfold cam_Nearest.f
   rw [if_pos ⟨c1, c2⟩, hs1, hEe]
   rfl
  have hrl : r.length = w.length := by
   have := near_first lw hg s c (bsN lw hg s c w 31 0 30) w (by omega) (by omega)
   rw [hs1] at this
   exact this.1.len
  obtain ⟨K3, h3⟩ := evR_same r r (by omega)
  have e1 := h1 (K1 + K2 + K3 + 1) (by omega)
  have e2 := h2 (K1 + K2 + K3) (by omega)
  have e3 := h3 (K1 + K2 + K3) (by omega)
  simp only [] at e1 e2 e3
  rw [c2] at e1
  exact ⟨K1 + K2 + K3 + 1, nearests_eval (K1 + K2 + K3) lw hg s c w r E hs c1 e0 e1 e2 (by simpa using e3)⟩
 ·
  have e0 : cam_Nearest.f lw hg s c w = some ([], 0, 2) := by unfold cam_Nearest.f; rw [if_neg g]
  refine ⟨K1 + 1, ?_⟩
  have e1 := h1 (K1 + 1) (by omega)
  simp only [] at e1
  have ej : tl_CamNearests.j0 (K1 + 1) w [] 0 2 true lw hg s c = some true := by
   rw [tl_CamNearests.j0]
   simp [tl_known.f]
  unfold tl_CamNearests.f tl_short.f
  simp only [Option.bind_some, hs, decide_true, if_true, e0, refRule_f, e1]
  cases c1 : ruleB lw hg s c with
  | false => simp only [Bool.false_eq_true, if_false, ej]
  | true =>
   cases c2 : isCamB w with
   | false => simp only [if_true, Bool.not_false, ej]
   | true => exact absurd ⟨c1, c2⟩ g
end Go.Proofs.YtbjimmemcmjpcaaGreatDoor.Print
end

/- What the program's functions compute that the chapter's examples reach, each with the walk that shows it; the kit's words for such walks. Joined by wip/pack.py. -/
import Derived.Test.YtbjimmemcmjpcabGreatDoorB9
import Derived.Test.YtbjimmemcmjpcabGreatDoorB14
import Derived.Test.YtbjimmemcmjpcabGreatDoorB4
import Derived.Test.YtbjimmemcmjpcabGreatDoorB18
import Derived.Test.YtbjimmemcmjpcabGreatDoorB19
import Derived.Test.YtbjimmemcmjpcabGreatDoorB3
section
set_option linter.unusedVariables false
set_option linter.unusedSimpArgs false
namespace Go.Proofs.YtbjimmemcmjpcabGreatDoor.Print
open Go.RowKit Go.Proofs.YtbjimmemcmjpcabGreatDoorW.PrintWords Go.Proofs.YtbjimmemcmjpcabGreatDoorW.PrintLast Go.Proofs.YtbjimmemcmjpcabGreatDoorW.PrintMore
theorem near_is (lw hg s c E : Int) (want r : List Int) (hr : ruleB lw hg s c = true) (hc : isCamB want = true) (h1 : nearR lw hg s c want E = some r) (h0 : nearR lw hg s c want (E - 1) = none) : cam_Nearest.f lw hg s c want = some (r, E, 0) := by
  have hrb : (0 ≤ lw ∧ lw ≤ hg ∧ hg ≤ 30) ∧ (0 ≤ s ∧ s ≤ 30) ∧ (0 ≤ c ∧ c ≤ 24) := by
    have h := hr
    simp [ruleB] at h
    omega
  have hw : 3 ≤ want.length ∧ ∀ k, k < want.length → 0 ≤ atM want k ∧ atM want k ≤ 30 := by
    have h := hc
    simp only [isCamB, Bool.and_eq_true, List.all_eq_true, decide_eq_true_eq] at h
    refine ⟨h.1.1, fun k hk => ?_⟩
    have := h.2 (atM want k) (by simp [atM, List.getD_eq_getElem?_getD, hk])
    simpa [isH] using this
  have hl := (near_least lw hg s c want ⟨hrb.1, hrb.2.1.1, hrb.2.2⟩ (by omega) hw.2).1
  have hs := fun e => near_some lw hg s c e want (by omega) (by omega)
  have hE : IsLeast (fun e => ∃ l, NearFit lw hg s c want e l) E := by
    refine ⟨(hs E).1 (by rw [h1]; rfl), fun x hx => ?_⟩
    rintro ⟨l, hl⟩
    have : ∃ l, NearFit lw hg s c want (E - 1) l := ⟨l, hl.mono (fun k _ => by unfold loE; omega) (fun k _ => by unfold hiE; omega) (by omega) (by omega)⟩
    have := (hs (E - 1)).2 this
    rw [h0] at this
    cases this
  have hEE := hl.unique hE
  unfold cam_Nearest.f
  rw [if_pos ⟨hr, hc⟩, hEE, h1]
  rfl
set_option maxRecDepth 100000
theorem ev_near1 : cam_Nearest.f 0 10 2 24 [0, 0, 9, 0] = some ([1, 3, 5, 3], 4, 0) := near_is 0 10 2 24 4 _ _ (by decide +kernel) (by decide +kernel) (by decide +kernel) (by decide +kernel)
theorem ev_near2 : cam_Nearest.f 0 10 10 2 [1, 2, 8, 9, 8, 2] = some ([1, 1, 8, 8, 8, 1], 1, 0) := near_is 0 10 10 2 1 _ _ (by decide +kernel) (by decide +kernel) (by decide +kernel) (by decide +kernel)
theorem ev_known : cam_Known.f 0 10 2 24 4 [⟨0, 1, 1⟩, ⟨2, 6, 0⟩] = some ([⟨2, 2⟩, ⟨4, 4⟩, ⟨6, 6⟩, ⟨4, 4⟩], 0) := by kernel_rfl
theorem ev_follow : cam_Follow.f [1, 2, 8, 9, 8, 2] 1 = some ([2, 8, 9, 9, 9, 8], 0) := by kernel_rfl
theorem ev_carve : cam_Carve.f [1, 2, 8, 9, 8, 2] 1 = some ([2, 2, 3, 9, 3, 2], 1, 0) := by kernel_rfl
theorem ev_shift : cam_Shift.f 100 [1, 2, 8, 9] [8, 9, 1, 2] = some (0, 11, 0) := by kernel_rfl
theorem ev_stations : cam_Stations.f 100 10 [0, 15, 0, -15] 0 8 = some ([1, 3, 5, 7], 0) := by kernel_rfl
theorem ev_retreats : cam_Retreats.f 100 10 [0, 15, 0, -15] 8 = some (2, 2, 10, 0) := by kernel_rfl
theorem ev_passes : cam_Passes.f 100 10 [0, 15, 0, -15] 20 8 = some ([0, 2, 3], 0) := by kernel_rfl
theorem ev_print : printF 0 10 2 24 [[1, 3, 5, 3]] = ([98, 111, 111, 107, 32, 48, 32, 49, 48, 32, 50, 32, 50, 52, 10, 99, 97, 109, 32, 49, 32, 51, 32, 53, 32, 51, 10, 101, 110, 100, 32, 48, 49, 51, 10], 0) := by decide +kernel
end Go.Proofs.YtbjimmemcmjpcabGreatDoor.Print
end
section
set_option linter.unusedVariables false
set_option linter.unusedSimpArgs false
set_option linter.unusedSectionVars false
namespace Go.Proofs.YtbjimmemcmjpcabGreatDoor.Print
open Go.RowKit Go.Proofs.YtbjimmemcmjpcabGreatDoorW.PrintWords Go.Proofs.YtbjimmemcmjpcabGreatDoorW.PrintLast Go.Proofs.YtbjimmemcmjpcabGreatDoorW.PrintMore
theorem add_cell {w : World} {g k : Nat} : w.cell? ((⟨g, 0, none⟩ : Addr).add k) = w.cell? ⟨g, k, none⟩ := by cases k <;> simp [Addr.add]
theorem C_of_blk {α : Type} (d : Kd α) {w : World} {g : Nat} {cs : List Value} {t : TypeId} {xs : List α} (h : w.heap[g]? = some (.cells cs.toArray t (0, 0))) (hl : xs.length ≤ 1000)
    (hx : ∀ j p, xs[j]? = some p → ∃ c, c.length = d.sz ∧ d.K w p c ∧ ∀ i u, c[i]? = some u → cs[j * d.sz + i]? = some u) : Kd.C d w (some ⟨g, 0, none⟩) xs.length xs := by
  refine ⟨rfl, by omega, fun _ => ⟨_, rfl, fun j p hj => ?_⟩⟩
  obtain ⟨c, h1, h2, h3⟩ := hx j p hj
  refine ⟨c, h1, h2, fun i u hu => ?_⟩
  rw [add_cell]
  exact (blk_cell h _).trans (by rw [List.getElem?_toArray]; exact h3 i u hu)
theorem C_of_ints {w : World} {g : Nat} {xs : List Int} (h : w.heap[g]? = some (.cells (xs.map (Value.int .i64)).toArray 3 (0, 0))) (hl : xs.length ≤ 1000) : Kd.C (Kd.int .i64) w (some ⟨g, 0, none⟩) xs.length xs := by
  refine C_of_blk (Kd.int .i64) h hl (fun j p hj => ⟨[.int .i64 p], rfl, rfl, fun i u hu => ?_⟩)
  rcases i with _ | i
  · have : u = .int .i64 p := by simpa using hu.symm
    simp [Kd.int, Kd.scalar, hj, this]
  · simp at hu
theorem C_of_spans {w : World} {g : Nat} {S : List SP} (h : SpanBlk w g S) (hl : S.length ≤ 1000) : Kd.C k48 w (some ⟨g, 0, none⟩) S.length S := by
  obtain ⟨A, c, he, _, hC⟩ := Kd.R_reads (R_of_spans h (Nat.le_refl g) hl)
  cases he
  exact hC
theorem C_of_gauges {w : World} {g : Nat} (h : w.heap[g]? = some (.cells #[.int .i64 0, .int .i64 1, .int .i64 1, .int .i64 2, .int .i64 6, .int .i64 0] 66 (0, 0))) : Kd.C k66 w (some ⟨g, 0, none⟩) 2 [⟨0, 1, 1⟩, ⟨2, 6, 0⟩] := by
  refine C_of_blk k66 (cs := [.int .i64 0, .int .i64 1, .int .i64 1, .int .i64 2, .int .i64 6, .int .i64 0]) (xs := [⟨0, 1, 1⟩, ⟨2, 6, 0⟩]) h (by simp) (fun j p hj => ?_)
  rcases j with _ | _ | j
  · obtain rfl : (⟨0, 1, 1⟩ : S66) = p := by simpa using hj
    exact ⟨_, rfl, k66.K_of_M (k66_mkM w 0 (fun _ => True) ⟨0, 1, 1⟩), fun i u hu => by rcases i with _ | _ | _ | i <;> first | exact hu | simp at hu⟩
  · obtain rfl : (⟨2, 6, 0⟩ : S66) = p := by simpa using hj
    exact ⟨_, rfl, k66.K_of_M (k66_mkM w 0 (fun _ => True) ⟨2, 6, 0⟩), fun i u hu => by rcases i with _ | _ | _ | i <;> first | exact hu | simp at hu⟩
  · simp at hj
theorem C_of_list {w : World} {g A : Nat} {l : List Int} (h : w.heap[g]? = some (.cells #[.slice (some ⟨A, 0, none⟩) l.length l.length] 22 (0, 0))) (hl : Kd.C (Kd.int .i64) w (some ⟨A, 0, none⟩) l.length l) : Kd.C (Kd.slice 3 (Kd.int .i64)) w (some ⟨g, 0, none⟩) 1 [l] := by
  refine C_of_blk (Kd.slice 3 (Kd.int .i64)) (cs := [.slice (some ⟨A, 0, none⟩) l.length l.length]) (xs := [l]) h (by simp) (fun j p hj => ?_)
  rcases j with _ | j
  · obtain rfl : l = p := by simpa using hj
    exact ⟨_, rfl, ⟨_, _, rfl, Nat.le_refl _, hl⟩, fun i u hu => by rcases i with _ | i <;> first | exact hu | simp at hu⟩
  · simp at hj
set_option maxRecDepth 100000 in
set_option maxHeartbeats 4000000 in
theorem known_true (w : World) : Calls Tryz.prog 11 #[] w fun e w' => e = .returned (.bool true) ∧ Below w.heap.size w w' := by
  go_enter Tryz.func11, Tryz.ntmps11
  go_wp2_with fail
  refine (tellurionlaw04_R.calls 0 10 2 24 _ rfl).mono ?_
  rintro e w1 ⟨rfl, hb⟩
  have hs : Below w.heap.size w w1 := below_step (Below.refl w.heap.size w) hb
  have HB := Aside0.mk hs
  clear hs hb
  go_wp2_with fail
  have hm := C_of_ints (xs := [0, 0, 9, 0]) (blk_new w1 (.cells #[.int .i64 0, .int .i64 0, .int .i64 9, .int .i64 0] 3)) (by simp)
  refine (cam_Nearest.calls 0 10 2 24 (some ⟨w1.heap.size, 0, none⟩) 4 [0, 0, 9, 0] [1, 3, 5, 3] 4 0 (w1.alloc (.cells #[.int .i64 0, .int .i64 0, .int .i64 9, .int .i64 0] 3)) hm (by decide) ev_near1).mono ?_
  rintro e w2 ⟨v, rfl, hR, hb⟩
  have hs : Below w1.heap.size w1 w2 := below_step (below_alloc (Below.refl w1.heap.size w1) _) hb
  replace HB := Aside0.mk (below_then HB.out HB.out.size hs)
  obtain ⟨Aa, ca, rfl, hca, hC⟩ := Kd.R_reads hR
  have HCa := Aside0.mk hC
  have HLa := Aside0.mk hca
  clear hC hR hca
  clear hs hb
  go_wp2_with fail
  clear hm
  refine (tellurionlaw04_S.calls 0 10 10 2 _ rfl).mono ?_
  rintro e w3 ⟨rfl, hb⟩
  have hs : Below w2.heap.size w2 w3 := below_step (Below.refl w2.heap.size w2) hb
  replace HB := Aside0.mk (below_then HB.out HB.out.size hs)
  replace HCa := Aside0.mk (Kd.C_below HCa.out hs)
  clear hs hb
  go_wp2_with fail
  refine (tellurionlaw04_V.calls [1, 2, 8, 9, 8, 2] _ rfl).mono ?_
  rintro e w4 ⟨v, rfl, hR, hb⟩
  have hs : Below w3.heap.size w3 w4 := below_step (Below.refl w3.heap.size w3) hb
  replace HB := Aside0.mk (below_then HB.out HB.out.size hs)
  replace HCa := Aside0.mk (Kd.C_below HCa.out hs)
  obtain ⟨Av, cv, rfl, hcv, hC⟩ := Kd.R_reads hR
  have HCv := Aside0.mk hC
  have HLv := Aside0.mk hcv
  clear hC hR hcv
  clear hs hb
  go_wp2_with fail
  refine (cam_Nearest.calls 0 10 10 2 Av cv [1, 2, 8, 9, 8, 2] [1, 1, 8, 8, 8, 1] 1 0 w4 HCv.out HLv.out ev_near2).mono ?_
  rintro e w5 ⟨v, rfl, hR, hb⟩
  have hs : Below w4.heap.size w4 w5 := below_step (Below.refl w4.heap.size w4) hb
  replace HB := Aside0.mk (below_then HB.out HB.out.size hs)
  replace HCa := Aside0.mk (Kd.C_below HCa.out hs)
  replace HCv := Aside0.mk (Kd.C_below HCv.out hs)
  obtain ⟨Ab, cb, rfl, hcb, hC⟩ := Kd.R_reads hR
  have HCb := Aside0.mk hC
  have HLb := Aside0.mk hcb
  clear hC hR hcb
  clear hs hb
  go_wp2_with fail
  clear HCv HLv
  refine (tellurionlaw04_R.calls 0 10 2 24 _ rfl).mono ?_
  rintro e w6 ⟨rfl, hb⟩
  have hs : Below w5.heap.size w5 w6 := below_step (Below.refl w5.heap.size w5) hb
  replace HB := Aside0.mk (below_then HB.out HB.out.size hs)
  replace HCa := Aside0.mk (Kd.C_below HCa.out hs)
  replace HCb := Aside0.mk (Kd.C_below HCb.out hs)
  clear hs hb
  go_wp2_with fail
  have hm := C_of_gauges (blk_new w6 (.cells #[.int .i64 0, .int .i64 1, .int .i64 1, .int .i64 2, .int .i64 6, .int .i64 0] 66))
  refine (cam_Known.calls 0 10 2 24 4 (some ⟨w6.heap.size, 0, none⟩) 2 [⟨0, 1, 1⟩, ⟨2, 6, 0⟩] [⟨2, 2⟩, ⟨4, 4⟩, ⟨6, 6⟩, ⟨4, 4⟩] 0 (w6.alloc (.cells #[.int .i64 0, .int .i64 1, .int .i64 1, .int .i64 2, .int .i64 6, .int .i64 0] 66)) hm (by decide) ev_known).mono ?_
  rintro e w7 ⟨v, rfl, hR, hb⟩
  have hs : Below w6.heap.size w6 w7 := below_step (below_alloc (Below.refl w6.heap.size w6) _) hb
  replace HB := Aside0.mk (below_then HB.out HB.out.size hs)
  replace HCa := Aside0.mk (Kd.C_below HCa.out hs)
  replace HCb := Aside0.mk (Kd.C_below HCb.out hs)
  obtain ⟨Ak, ck, rfl, hck, hC⟩ := Kd.R_reads hR
  have HCk := Aside0.mk hC
  have HLk := Aside0.mk hck
  clear hC hR hck
  clear hs hb
  go_wp2_with fail
  clear hm
  refine (tellurionlaw04_V.calls [1, 2, 8, 9, 8, 2] _ rfl).mono ?_
  rintro e w8 ⟨v, rfl, hR, hb⟩
  have hs : Below w7.heap.size w7 w8 := below_step (Below.refl w7.heap.size w7) hb
  replace HB := Aside0.mk (below_then HB.out HB.out.size hs)
  replace HCa := Aside0.mk (Kd.C_below HCa.out hs)
  replace HCb := Aside0.mk (Kd.C_below HCb.out hs)
  replace HCk := Aside0.mk (Kd.C_below HCk.out hs)
  obtain ⟨Av, cv, rfl, hcv, hC⟩ := Kd.R_reads hR
  have HCv := Aside0.mk hC
  have HLv := Aside0.mk hcv
  clear hC hR hcv
  clear hs hb
  go_wp2_with fail
  refine (cam_Follow.calls Av cv [1, 2, 8, 9, 8, 2] 1 [2, 8, 9, 9, 9, 8] 0 w8 HCv.out HLv.out ev_follow).mono ?_
  rintro e w9 ⟨v, rfl, hR, hb⟩
  have hs : Below w8.heap.size w8 w9 := below_step (Below.refl w8.heap.size w8) hb
  replace HB := Aside0.mk (below_then HB.out HB.out.size hs)
  replace HCa := Aside0.mk (Kd.C_below HCa.out hs)
  replace HCb := Aside0.mk (Kd.C_below HCb.out hs)
  replace HCk := Aside0.mk (Kd.C_below HCk.out hs)
  replace HCv := Aside0.mk (Kd.C_below HCv.out hs)
  obtain ⟨Ac, cc, rfl, hcc, hC⟩ := Kd.R_reads hR
  have HCc := Aside0.mk hC
  have HLc := Aside0.mk hcc
  clear hC hR hcc
  clear hs hb
  go_wp2_with fail
  clear HCv HLv
  refine (tellurionlaw04_V.calls [1, 2, 8, 9, 8, 2] _ rfl).mono ?_
  rintro e w10 ⟨v, rfl, hR, hb⟩
  have hs : Below w9.heap.size w9 w10 := below_step (Below.refl w9.heap.size w9) hb
  replace HB := Aside0.mk (below_then HB.out HB.out.size hs)
  replace HCa := Aside0.mk (Kd.C_below HCa.out hs)
  replace HCb := Aside0.mk (Kd.C_below HCb.out hs)
  replace HCk := Aside0.mk (Kd.C_below HCk.out hs)
  replace HCc := Aside0.mk (Kd.C_below HCc.out hs)
  obtain ⟨Av, cv, rfl, hcv, hC⟩ := Kd.R_reads hR
  have HCv := Aside0.mk hC
  have HLv := Aside0.mk hcv
  clear hC hR hcv
  clear hs hb
  go_wp2_with fail
  refine (cam_Carve.calls Av cv [1, 2, 8, 9, 8, 2] 1 [2, 2, 3, 9, 3, 2] 1 0 w10 HCv.out HLv.out ev_carve).mono ?_
  rintro e w11 ⟨v, rfl, hR, hb⟩
  have hs : Below w10.heap.size w10 w11 := below_step (Below.refl w10.heap.size w10) hb
  replace HB := Aside0.mk (below_then HB.out HB.out.size hs)
  replace HCa := Aside0.mk (Kd.C_below HCa.out hs)
  replace HCb := Aside0.mk (Kd.C_below HCb.out hs)
  replace HCk := Aside0.mk (Kd.C_below HCk.out hs)
  replace HCc := Aside0.mk (Kd.C_below HCc.out hs)
  replace HCv := Aside0.mk (Kd.C_below HCv.out hs)
  obtain ⟨Ad, cd, rfl, hcd, hC⟩ := Kd.R_reads hR
  have HCd := Aside0.mk hC
  have HLd := Aside0.mk hcd
  clear hC hR hcd
  clear hs hb
  go_wp2_with fail
  clear HCv HLv
  have hm0 := C_of_ints (xs := [1, 2, 8, 9]) (blk_new w11 (.cells #[.int .i64 1, .int .i64 2, .int .i64 8, .int .i64 9] 3)) (by simp)
  have hm := Kd.C_below hm0 (below_alloc (Below.refl _ _) (.cells #[.int .i64 8, .int .i64 9, .int .i64 1, .int .i64 2] 3))
  have hn := C_of_ints (xs := [8, 9, 1, 2]) (blk_new (w11.alloc (.cells #[.int .i64 1, .int .i64 2, .int .i64 8, .int .i64 9] 3)) (.cells #[.int .i64 8, .int .i64 9, .int .i64 1, .int .i64 2] 3)) (by simp)
  rw [World.size_alloc] at hn
  refine (cam_Shift.calls 100 (some ⟨w11.heap.size, 0, none⟩) 4 [1, 2, 8, 9] (some ⟨w11.heap.size + 1, 0, none⟩) 4 [8, 9, 1, 2] 0 11 0 ((w11.alloc (.cells #[.int .i64 1, .int .i64 2, .int .i64 8, .int .i64 9] 3)).alloc (.cells #[.int .i64 8, .int .i64 9, .int .i64 1, .int .i64 2] 3)) hm (by decide) hn (by decide) ev_shift).mono ?_
  rintro e w12 ⟨rfl, hb⟩
  have hs : Below w11.heap.size w11 w12 := below_step (below_alloc (below_alloc (Below.refl w11.heap.size w11) _) _) hb
  replace HB := Aside0.mk (below_then HB.out HB.out.size hs)
  replace HCa := Aside0.mk (Kd.C_below HCa.out hs)
  replace HCb := Aside0.mk (Kd.C_below HCb.out hs)
  replace HCk := Aside0.mk (Kd.C_below HCk.out hs)
  replace HCc := Aside0.mk (Kd.C_below HCc.out hs)
  replace HCd := Aside0.mk (Kd.C_below HCd.out hs)
  clear hs hb
  go_wp2_with fail
  clear hm0 hm hn
  refine (tellurionlaw04_M.calls 10 [0, 15, 0, -15] _ rfl).mono ?_
  rintro e w13 ⟨v, rfl, hR, hb⟩
  have hs : Below w12.heap.size w12 w13 := below_step (Below.refl w12.heap.size w12) hb
  replace HB := Aside0.mk (below_then HB.out HB.out.size hs)
  replace HCa := Aside0.mk (Kd.C_below HCa.out hs)
  replace HCb := Aside0.mk (Kd.C_below HCb.out hs)
  replace HCk := Aside0.mk (Kd.C_below HCk.out hs)
  replace HCc := Aside0.mk (Kd.C_below HCc.out hs)
  replace HCd := Aside0.mk (Kd.C_below HCd.out hs)
  obtain ⟨Am, cm, rfl, hcm, hC⟩ := Kd.R_reads hR
  have HCm := Aside0.mk hC
  have HLm := Aside0.mk hcm
  clear hC hR hcm
  clear hs hb
  go_wp2_with fail
  refine (cam_Stations.calls 100 10 Am cm [0, 15, 0, -15] 0 8 [1, 3, 5, 7] 0 w13 HCm.out HLm.out ev_stations).mono ?_
  rintro e w14 ⟨v, rfl, hR, hb⟩
  have hs : Below w13.heap.size w13 w14 := below_step (Below.refl w13.heap.size w13) hb
  replace HB := Aside0.mk (below_then HB.out HB.out.size hs)
  replace HCa := Aside0.mk (Kd.C_below HCa.out hs)
  replace HCb := Aside0.mk (Kd.C_below HCb.out hs)
  replace HCk := Aside0.mk (Kd.C_below HCk.out hs)
  replace HCc := Aside0.mk (Kd.C_below HCc.out hs)
  replace HCd := Aside0.mk (Kd.C_below HCd.out hs)
  replace HCm := Aside0.mk (Kd.C_below HCm.out hs)
  obtain ⟨Al, cl, rfl, hcl, hC⟩ := Kd.R_reads hR
  have HCl := Aside0.mk hC
  have HLl := Aside0.mk hcl
  clear hC hR hcl
  clear hs hb
  go_wp2_with fail
  clear HCm HLm
  refine (tellurionlaw04_M.calls 10 [0, 15, 0, -15] _ rfl).mono ?_
  rintro e w15 ⟨v, rfl, hR, hb⟩
  have hs : Below w14.heap.size w14 w15 := below_step (Below.refl w14.heap.size w14) hb
  replace HB := Aside0.mk (below_then HB.out HB.out.size hs)
  replace HCa := Aside0.mk (Kd.C_below HCa.out hs)
  replace HCb := Aside0.mk (Kd.C_below HCb.out hs)
  replace HCk := Aside0.mk (Kd.C_below HCk.out hs)
  replace HCc := Aside0.mk (Kd.C_below HCc.out hs)
  replace HCd := Aside0.mk (Kd.C_below HCd.out hs)
  replace HCl := Aside0.mk (Kd.C_below HCl.out hs)
  obtain ⟨Am, cm, rfl, hcm, hC⟩ := Kd.R_reads hR
  have HCm := Aside0.mk hC
  have HLm := Aside0.mk hcm
  clear hC hR hcm
  clear hs hb
  go_wp2_with fail
  refine (cam_Retreats.calls 100 10 Am cm [0, 15, 0, -15] 8 2 2 10 0 w15 HCm.out HLm.out ev_retreats).mono ?_
  rintro e w16 ⟨rfl, hb⟩
  have hs : Below w15.heap.size w15 w16 := below_step (Below.refl w15.heap.size w15) hb
  replace HB := Aside0.mk (below_then HB.out HB.out.size hs)
  replace HCa := Aside0.mk (Kd.C_below HCa.out hs)
  replace HCb := Aside0.mk (Kd.C_below HCb.out hs)
  replace HCk := Aside0.mk (Kd.C_below HCk.out hs)
  replace HCc := Aside0.mk (Kd.C_below HCc.out hs)
  replace HCd := Aside0.mk (Kd.C_below HCd.out hs)
  replace HCl := Aside0.mk (Kd.C_below HCl.out hs)
  replace HCm := Aside0.mk (Kd.C_below HCm.out hs)
  clear hs hb
  go_wp2_with fail
  clear HCm HLm
  refine (tellurionlaw04_M.calls 10 [0, 15, 0, -15] _ rfl).mono ?_
  rintro e w17 ⟨v, rfl, hR, hb⟩
  have hs : Below w16.heap.size w16 w17 := below_step (Below.refl w16.heap.size w16) hb
  replace HB := Aside0.mk (below_then HB.out HB.out.size hs)
  replace HCa := Aside0.mk (Kd.C_below HCa.out hs)
  replace HCb := Aside0.mk (Kd.C_below HCb.out hs)
  replace HCk := Aside0.mk (Kd.C_below HCk.out hs)
  replace HCc := Aside0.mk (Kd.C_below HCc.out hs)
  replace HCd := Aside0.mk (Kd.C_below HCd.out hs)
  replace HCl := Aside0.mk (Kd.C_below HCl.out hs)
  obtain ⟨Am, cm, rfl, hcm, hC⟩ := Kd.R_reads hR
  have HCm := Aside0.mk hC
  have HLm := Aside0.mk hcm
  clear hC hR hcm
  clear hs hb
  go_wp2_with fail
  refine (cam_Passes.calls 100 10 Am cm [0, 15, 0, -15] 20 8 [0, 2, 3] 0 w17 HCm.out HLm.out ev_passes).mono ?_
  rintro e w18 ⟨v, rfl, hR, hb⟩
  have hs : Below w17.heap.size w17 w18 := below_step (Below.refl w17.heap.size w17) hb
  replace HB := Aside0.mk (below_then HB.out HB.out.size hs)
  replace HCa := Aside0.mk (Kd.C_below HCa.out hs)
  replace HCb := Aside0.mk (Kd.C_below HCb.out hs)
  replace HCk := Aside0.mk (Kd.C_below HCk.out hs)
  replace HCc := Aside0.mk (Kd.C_below HCc.out hs)
  replace HCd := Aside0.mk (Kd.C_below HCd.out hs)
  replace HCl := Aside0.mk (Kd.C_below HCl.out hs)
  replace HCm := Aside0.mk (Kd.C_below HCm.out hs)
  obtain ⟨Ap, cp, rfl, hcp, hC⟩ := Kd.R_reads hR
  have HCp := Aside0.mk hC
  have HLp := Aside0.mk hcp
  clear hC hR hcp
  clear hs hb
  go_wp2_with fail
  clear HCm HLm
  refine (tellurionlaw04_R.calls 0 10 2 24 _ rfl).mono ?_
  rintro e w19 ⟨rfl, hb⟩
  have hs : Below w18.heap.size w18 w19 := below_step (Below.refl w18.heap.size w18) hb
  replace HB := Aside0.mk (below_then HB.out HB.out.size hs)
  replace HCa := Aside0.mk (Kd.C_below HCa.out hs)
  replace HCb := Aside0.mk (Kd.C_below HCb.out hs)
  replace HCk := Aside0.mk (Kd.C_below HCk.out hs)
  replace HCc := Aside0.mk (Kd.C_below HCc.out hs)
  replace HCd := Aside0.mk (Kd.C_below HCd.out hs)
  replace HCl := Aside0.mk (Kd.C_below HCl.out hs)
  replace HCp := Aside0.mk (Kd.C_below HCp.out hs)
  clear hs hb
  go_wp2_with fail
  have hm0 := C_of_ints (xs := [1, 3, 5, 3]) (blk_new w19 (.cells #[.int .i64 1, .int .i64 3, .int .i64 5, .int .i64 3] 3)) (by simp)
  have hm1 := Kd.C_below hm0 (below_alloc (Below.refl _ _) (.cells #[.slice (some ⟨w19.heap.size, 0, none⟩) 4 4] 22))
  have hn := blk_new (w19.alloc (.cells #[.int .i64 1, .int .i64 3, .int .i64 5, .int .i64 3] 3)) (.cells #[.slice (some ⟨w19.heap.size, 0, none⟩) 4 4] 22)
  rw [World.size_alloc] at hn
  have hp := print_calls 0 10 2 24 (some ⟨w19.heap.size + 1, 0, none⟩) 1 [[1, 3, 5, 3]] ((w19.alloc (.cells #[.int .i64 1, .int .i64 3, .int .i64 5, .int .i64 3] 3)).alloc (.cells #[.slice (some ⟨w19.heap.size, 0, none⟩) 4 4] 22)) (C_of_list (l := [1, 3, 5, 3]) hn hm1) (by decide) (by decide)
  rw [ev_print] at hp
  refine (hp).mono ?_
  rintro e w20 ⟨rfl, hb⟩
  have hs : Below w19.heap.size w19 w20 := below_step (below_alloc (below_alloc (Below.refl w19.heap.size w19) _) _) hb
  replace HB := Aside0.mk (below_then HB.out HB.out.size hs)
  replace HCa := Aside0.mk (Kd.C_below HCa.out hs)
  replace HCb := Aside0.mk (Kd.C_below HCb.out hs)
  replace HCk := Aside0.mk (Kd.C_below HCk.out hs)
  replace HCc := Aside0.mk (Kd.C_below HCc.out hs)
  replace HCd := Aside0.mk (Kd.C_below HCd.out hs)
  replace HCl := Aside0.mk (Kd.C_below HCl.out hs)
  replace HCp := Aside0.mk (Kd.C_below HCp.out hs)
  clear hs hb
  go_wp2_with fail
  clear hm0 hm1 hn hp
  have hm := C_of_ints (xs := [1, 3, 5, 3]) (blk_new w20 (.cells #[.int .i64 1, .int .i64 3, .int .i64 5, .int .i64 3] 3)) (by simp)
  have hk := Kd.C_below HCa.out (below_alloc (Below.refl _ _) (.cells #[.int .i64 1, .int .i64 3, .int .i64 5, .int .i64 3] 3))
  have hv : tellurionref04_Same.f 100 [1, 3, 5, 3] [1, 3, 5, 3] = some true := by kernel_rfl
  refine (tellurionref04_Same.calls 100 Aa ca [1, 3, 5, 3] (some ⟨w20.heap.size, 0, none⟩) 4 [1, 3, 5, 3] true (w20.alloc (.cells #[.int .i64 1, .int .i64 3, .int .i64 5, .int .i64 3] 3)) hk HLa.out hm (by decide) hv).mono ?_
  rintro e w21 ⟨rfl, hd⟩
  have hs : Below w20.heap.size w20 w21 := by obtain ⟨nd, hnd⟩ := hd.out; rw [hnd]; exact pw_below_drewN (below_alloc (Below.refl _ _) _) _
  replace HB := Aside0.mk (below_then HB.out HB.out.size hs)
  clear HCa HLa
  replace HCb := Aside0.mk (Kd.C_below HCb.out hs)
  replace HCk := Aside0.mk (Kd.C_below HCk.out hs)
  replace HCc := Aside0.mk (Kd.C_below HCc.out hs)
  replace HCd := Aside0.mk (Kd.C_below HCd.out hs)
  replace HCl := Aside0.mk (Kd.C_below HCl.out hs)
  replace HCp := Aside0.mk (Kd.C_below HCp.out hs)
  clear hs hd hk hm hv
  go_wp2_with fail
  have hm := C_of_ints (xs := [1, 1, 8, 8, 8, 1]) (blk_new w21 (.cells #[.int .i64 1, .int .i64 1, .int .i64 8, .int .i64 8, .int .i64 8, .int .i64 1] 3)) (by simp)
  have hk := Kd.C_below HCb.out (below_alloc (Below.refl _ _) (.cells #[.int .i64 1, .int .i64 1, .int .i64 8, .int .i64 8, .int .i64 8, .int .i64 1] 3))
  have hv : tellurionref04_Same.f 100 [1, 1, 8, 8, 8, 1] [1, 1, 8, 8, 8, 1] = some true := by kernel_rfl
  refine (tellurionref04_Same.calls 100 Ab cb [1, 1, 8, 8, 8, 1] (some ⟨w21.heap.size, 0, none⟩) 6 [1, 1, 8, 8, 8, 1] true (w21.alloc (.cells #[.int .i64 1, .int .i64 1, .int .i64 8, .int .i64 8, .int .i64 8, .int .i64 1] 3)) hk HLb.out hm (by decide) hv).mono ?_
  rintro e w22 ⟨rfl, hd⟩
  have hs : Below w21.heap.size w21 w22 := by obtain ⟨nd, hnd⟩ := hd.out; rw [hnd]; exact pw_below_drewN (below_alloc (Below.refl _ _) _) _
  replace HB := Aside0.mk (below_then HB.out HB.out.size hs)
  clear HCb HLb
  replace HCk := Aside0.mk (Kd.C_below HCk.out hs)
  replace HCc := Aside0.mk (Kd.C_below HCc.out hs)
  replace HCd := Aside0.mk (Kd.C_below HCd.out hs)
  replace HCl := Aside0.mk (Kd.C_below HCl.out hs)
  replace HCp := Aside0.mk (Kd.C_below HCp.out hs)
  clear hs hd hk hm hv
  go_wp2_with fail
  have hm := C_of_spans (S := [⟨2, 2⟩, ⟨4, 4⟩, ⟨6, 6⟩, ⟨4, 4⟩]) (show SpanBlk (w22.alloc (.cells #[.int .i64 2, .int .i64 2, .int .i64 4, .int .i64 4, .int .i64 6, .int .i64 6, .int .i64 4, .int .i64 4] 48)) w22.heap.size [⟨2, 2⟩, ⟨4, 4⟩, ⟨6, 6⟩, ⟨4, 4⟩] from blk_new w22 (.cells #[.int .i64 2, .int .i64 2, .int .i64 4, .int .i64 4, .int .i64 6, .int .i64 6, .int .i64 4, .int .i64 4] 48)) (by simp)
  have hk := Kd.C_below HCk.out (below_alloc (Below.refl _ _) (.cells #[.int .i64 2, .int .i64 2, .int .i64 4, .int .i64 4, .int .i64 6, .int .i64 6, .int .i64 4, .int .i64 4] 48))
  have hv : tellurionref04_SameSpans.f 100 [⟨2, 2⟩, ⟨4, 4⟩, ⟨6, 6⟩, ⟨4, 4⟩] [⟨2, 2⟩, ⟨4, 4⟩, ⟨6, 6⟩, ⟨4, 4⟩] = some true := by kernel_rfl
  refine (tellurionref04_SameSpans.calls 100 Ak ck [⟨2, 2⟩, ⟨4, 4⟩, ⟨6, 6⟩, ⟨4, 4⟩] (some ⟨w22.heap.size, 0, none⟩) 4 [⟨2, 2⟩, ⟨4, 4⟩, ⟨6, 6⟩, ⟨4, 4⟩] true (w22.alloc (.cells #[.int .i64 2, .int .i64 2, .int .i64 4, .int .i64 4, .int .i64 6, .int .i64 6, .int .i64 4, .int .i64 4] 48)) hk HLk.out hm (by decide) hv).mono ?_
  rintro e w23 ⟨rfl, hd⟩
  have hs : Below w22.heap.size w22 w23 := by obtain ⟨nd, hnd⟩ := hd.out; rw [hnd]; exact pw_below_drewN (below_alloc (Below.refl _ _) _) _
  replace HB := Aside0.mk (below_then HB.out HB.out.size hs)
  clear HCk HLk
  replace HCc := Aside0.mk (Kd.C_below HCc.out hs)
  replace HCd := Aside0.mk (Kd.C_below HCd.out hs)
  replace HCl := Aside0.mk (Kd.C_below HCl.out hs)
  replace HCp := Aside0.mk (Kd.C_below HCp.out hs)
  clear hs hd hk hm hv
  go_wp2_with fail
  have hm := C_of_ints (xs := [2, 8, 9, 9, 9, 8]) (blk_new w23 (.cells #[.int .i64 2, .int .i64 8, .int .i64 9, .int .i64 9, .int .i64 9, .int .i64 8] 3)) (by simp)
  have hk := Kd.C_below HCc.out (below_alloc (Below.refl _ _) (.cells #[.int .i64 2, .int .i64 8, .int .i64 9, .int .i64 9, .int .i64 9, .int .i64 8] 3))
  have hv : tellurionref04_Same.f 100 [2, 8, 9, 9, 9, 8] [2, 8, 9, 9, 9, 8] = some true := by kernel_rfl
  refine (tellurionref04_Same.calls 100 Ac cc [2, 8, 9, 9, 9, 8] (some ⟨w23.heap.size, 0, none⟩) 6 [2, 8, 9, 9, 9, 8] true (w23.alloc (.cells #[.int .i64 2, .int .i64 8, .int .i64 9, .int .i64 9, .int .i64 9, .int .i64 8] 3)) hk HLc.out hm (by decide) hv).mono ?_
  rintro e w24 ⟨rfl, hd⟩
  have hs : Below w23.heap.size w23 w24 := by obtain ⟨nd, hnd⟩ := hd.out; rw [hnd]; exact pw_below_drewN (below_alloc (Below.refl _ _) _) _
  replace HB := Aside0.mk (below_then HB.out HB.out.size hs)
  clear HCc HLc
  replace HCd := Aside0.mk (Kd.C_below HCd.out hs)
  replace HCl := Aside0.mk (Kd.C_below HCl.out hs)
  replace HCp := Aside0.mk (Kd.C_below HCp.out hs)
  clear hs hd hk hm hv
  go_wp2_with fail
  have hm := C_of_ints (xs := [2, 2, 3, 9, 3, 2]) (blk_new w24 (.cells #[.int .i64 2, .int .i64 2, .int .i64 3, .int .i64 9, .int .i64 3, .int .i64 2] 3)) (by simp)
  have hk := Kd.C_below HCd.out (below_alloc (Below.refl _ _) (.cells #[.int .i64 2, .int .i64 2, .int .i64 3, .int .i64 9, .int .i64 3, .int .i64 2] 3))
  have hv : tellurionref04_Same.f 100 [2, 2, 3, 9, 3, 2] [2, 2, 3, 9, 3, 2] = some true := by kernel_rfl
  refine (tellurionref04_Same.calls 100 Ad cd [2, 2, 3, 9, 3, 2] (some ⟨w24.heap.size, 0, none⟩) 6 [2, 2, 3, 9, 3, 2] true (w24.alloc (.cells #[.int .i64 2, .int .i64 2, .int .i64 3, .int .i64 9, .int .i64 3, .int .i64 2] 3)) hk HLd.out hm (by decide) hv).mono ?_
  rintro e w25 ⟨rfl, hd⟩
  have hs : Below w24.heap.size w24 w25 := by obtain ⟨nd, hnd⟩ := hd.out; rw [hnd]; exact pw_below_drewN (below_alloc (Below.refl _ _) _) _
  replace HB := Aside0.mk (below_then HB.out HB.out.size hs)
  clear HCd HLd
  replace HCl := Aside0.mk (Kd.C_below HCl.out hs)
  replace HCp := Aside0.mk (Kd.C_below HCp.out hs)
  clear hs hd hk hm hv
  go_wp2_with fail
  have hm := C_of_ints (xs := [1, 3, 5, 7]) (blk_new w25 (.cells #[.int .i64 1, .int .i64 3, .int .i64 5, .int .i64 7] 3)) (by simp)
  have hk := Kd.C_below HCl.out (below_alloc (Below.refl _ _) (.cells #[.int .i64 1, .int .i64 3, .int .i64 5, .int .i64 7] 3))
  have hv : tellurionref04_Same.f 100 [1, 3, 5, 7] [1, 3, 5, 7] = some true := by kernel_rfl
  refine (tellurionref04_Same.calls 100 Al cl [1, 3, 5, 7] (some ⟨w25.heap.size, 0, none⟩) 4 [1, 3, 5, 7] true (w25.alloc (.cells #[.int .i64 1, .int .i64 3, .int .i64 5, .int .i64 7] 3)) hk HLl.out hm (by decide) hv).mono ?_
  rintro e w26 ⟨rfl, hd⟩
  have hs : Below w25.heap.size w25 w26 := by obtain ⟨nd, hnd⟩ := hd.out; rw [hnd]; exact pw_below_drewN (below_alloc (Below.refl _ _) _) _
  replace HB := Aside0.mk (below_then HB.out HB.out.size hs)
  clear HCl HLl
  replace HCp := Aside0.mk (Kd.C_below HCp.out hs)
  clear hs hd hk hm hv
  go_wp2_with fail
  have hm := C_of_ints (xs := [0, 2, 3]) (blk_new w26 (.cells #[.int .i64 0, .int .i64 2, .int .i64 3] 3)) (by simp)
  have hk := Kd.C_below HCp.out (below_alloc (Below.refl _ _) (.cells #[.int .i64 0, .int .i64 2, .int .i64 3] 3))
  have hv : tellurionref04_Same.f 100 [0, 2, 3] [0, 2, 3] = some true := by kernel_rfl
  refine (tellurionref04_Same.calls 100 Ap cp [0, 2, 3] (some ⟨w26.heap.size, 0, none⟩) 3 [0, 2, 3] true (w26.alloc (.cells #[.int .i64 0, .int .i64 2, .int .i64 3] 3)) hk HLp.out hm (by decide) hv).mono ?_
  rintro e w27 ⟨rfl, hd⟩
  have hs : Below w26.heap.size w26 w27 := by obtain ⟨nd, hnd⟩ := hd.out; rw [hnd]; exact pw_below_drewN (below_alloc (Below.refl _ _) _) _
  replace HB := Aside0.mk (below_then HB.out HB.out.size hs)
  clear HCp HLp
  clear hs hd hk hm hv
  go_wp2_with fail
  go_ret
  exact ⟨rfl, HB.out⟩
def tellurionlaw04_known.f : Option Bool := some true
theorem tellurionlaw04_known.calls (r : Bool) (w : World) (h : tellurionlaw04_known.f = some r) : Calls Tryz.prog 11 #[] w fun e w' => e = .returned (.bool r) ∧ Below w.heap.size w w' := by
  obtain rfl : true = r := Option.some.inj h
  exact known_true w
end Go.Proofs.YtbjimmemcmjpcabGreatDoor.Print
end

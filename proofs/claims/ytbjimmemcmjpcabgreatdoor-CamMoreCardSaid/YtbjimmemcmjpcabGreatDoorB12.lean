/- What the program's functions compute that the chapter's examples reach, each with the walk that shows it; the kit's words for such walks. Joined by wip/pack.py. -/
import Derived.RangeFuncCalls
import Derived.OwnWalkIn
import Derived.LoopNIn
import Derived.Sort.LoopGhostIn
import Derived.Shelf.RegionOpen
import Derived.WalkKit
import Derived.RangeFuncWrites
import Derived.Test.YtbjimmemcmjpcabGreatDoorB7
import Derived.Test.YtbjimmemcmjpcabGreatDoorB10
import Derived.Test.YtbjimmemcmjpcabGreatDoorB11
section
set_option linter.unusedVariables false
set_option linter.unusedSimpArgs false
set_option linter.unusedSectionVars false
namespace Go.Proofs.YtbjimmemcmjpcabGreatDoor.Print
open Go.RowKit Go.Proofs.YtbjimmemcmjpcabGreatDoorW.PrintWords Go.Proofs.YtbjimmemcmjpcabGreatDoorW.PrintLast Go.Proofs.YtbjimmemcmjpcabGreatDoorW.PrintMore
attribute [local go_sem] Oper.semAt_some
def intC (l : List Int) : List Value := l.map (Value.int .i64)
theorem intC_len (l : List Int) : (intC l).length = l.length := by simp [intC]
theorem intC_pat (x : Int) (n : Nat) : pat [.int .i64 x] n = intC (List.replicate n x) := by simp [pat, intC]
def IntBlk (w : World) (g : Nat) (l : List Int) : Prop := w.heap[g]? = some (.cells (intC l).toArray 3 (0, 0))
theorem IntBlk.cell {w : World} {g : Nat} {l : List Int} (h : IntBlk w g l) (k : Nat) (hk : k < l.length) : w.cell? ⟨g, k, none⟩ = some (.int .i64 (rd l (k : Int))) := (blk_cell h k).trans (by simp [intC, rd, List.getD_eq_getElem?_getD, hk])
theorem IntBlk.put {w : World} {g : Nat} {l : List Int} (h : IntBlk w g l) (k : Nat) (x : Int) : IntBlk (w.setCell ⟨g, k, none⟩ (.int .i64 x)) g (l.set k x) := blk_put h k _ (by simp [intC])
theorem IntBlk.below {w w' : World} {g : Nat} {l : List Int} (h : IntBlk w g l) (hb : Below w.heap.size w w') : IntBlk w' g l := blk_below h hb
def frontS (many h : Int) (out : List Int) (n : Int) : List Int := out.set n.toNat (min (rd out n) (many + cst h n))
def frontN (many h : Int) (out : List Int) (pre : List Int) : List Int := pre.foldl (frontS many h) out
theorem frontN_snoc (many h : Int) (out pre : List Int) (n : Int) : frontN many h out (pre ++ [n]) = frontS many h (frontN many h out pre) n := by simp [frontN]
theorem frontN_len (many h : Int) (out : List Int) : ∀ pre : List Int, (frontN many h out pre).length = out.length := by
  intro pre
  induction pre generalizing out with
  | nil => rfl
  | cons n pre ih => rw [show frontN many h out (n :: pre) = frontN many h (frontS many h out n) pre from rfl, ih]; simp [frontS]
def frontK (S : List S48) (sl : Int) (i : Nat) (now : List Int) : Nat → List Int
  | 0 => List.replicate 31 1000
  | k + 1 => if 1000 ≤ rd now (k : Int) then frontK S sl i now k else frontN (rd now (k : Int)) (k : Int) (frontK S sl i now k) (hts S sl (i + 1) (k : Int))
def frontL (S : List S48) (sl : Int) (i : Nat) (now : List Int) : List Int := frontK S sl i now 31
theorem frontK_len (S : List S48) (sl : Int) (i : Nat) (now : List Int) : ∀ k, (frontK S sl i now k).length = 31
  | 0 => by simp [frontK]
  | k + 1 => by
    unfold frontK
    split
    · exact frontK_len S sl i now k
    · rw [frontN_len]; exact frontK_len S sl i now k
structure FI (lw hg sl ch : Int) (ad : Addr) (cp b : Nat) (S : List S48) (now : List Int) (gn g Bo : Nat) (w : World) (out : List Int) (W : World) : Prop where
  s : W.heap[w.heap.size]? = some (searchO lw hg sl ch (some ad) S.length cp (.map (some b)))
  o : W.heap[Bo]? = some (.cells #[.slice (some ⟨g, 0, none⟩) 31 31] 22 (0, 0))
  l : IntBlk W g out
  n : IntBlk W gn now
  p : SpansAt W ad S
  b : Below w.heap.size w W
theorem FI.below {lw hg sl ch : Int} {ad : Addr} {cp b : Nat} {S : List S48} {now : List Int} {gn g Bo : Nat} {w W W' : World} {out : List Int} (h : FI lw hg sl ch ad cp b S now gn g Bo w out W) (hb : Below W.heap.size W W') : FI lw hg sl ch ad cp b S now gn g Bo w out W' :=
  ⟨blk_below h.s hb, blk_below h.o hb, h.l.below hb, h.n.below hb, h.p.below hb, below_then h.b h.b.size hb⟩
def marksL (L : List Nat) : List Deferred := L.map fun D => { target := .collected D, args := #[] }
structure Marks (L : List Nat) (W : World) : Prop where
  d : ∀ D ∈ L, W.heap[D]? = some (.deferred (some []))
  n : L.Nodup
theorem Marks.lt {L : List Nat} {W : World} (h : Marks L W) : ∀ D ∈ L, D < W.heap.size := fun D hD => blk_lt (h.d D hD)
theorem Marks.turn {L : List Nat} {W W' : World} (h : Marks L W) {row : Option Nat} (hg : W.grownBy W' row) (hrow : ∀ r, row = some r → r ∉ L) : Marks L W' :=
  ⟨fun D hD => blk_grown (h.d D hD) hg (fun e => hrow D e.symm hD), h.n⟩
theorem leaves_marks {F : Fence} {n : Nat} {P : Program} {fn : Func} {tmps : Array Value} {R : Ending → World → Prop} : ∀ (L : List Nat) (W : World), Marks L W →
    (∀ W', W'.os = W.os → W'.tape = W.tape → W'.output = W.output → W'.heap.size = W.heap.size → (∀ i, i ∉ L → W'.heap[i]? = W.heap[i]?) → ∃ v, (results fn tmps).run P W' = .ok v W' ∧ R (.returned v) W') →
    LeavesInM F n P fn tmps R (marksL L) .returning W
  | [], W, h, hR => by
    have := hR W rfl rfl rfl rfl (fun _ _ => rfl)
    exact this
  | D :: L, W, h, hR => by
    have hD := h.d D (by simp)
    have hlt := blk_lt hD
    refine ⟨by simp, .inl ⟨D, _, rfl, run_takeDeferred hD, ?_⟩⟩
    have hnd : D ∉ L := (List.nodup_cons.1 h.n).1
    refine leaves_marks L _ ⟨fun D' hD' => (World.putObj_heap_other (by intro e; subst e; exact hnd hD')).trans (h.d D' (by simp [hD'])), (List.nodup_cons.1 h.n).2⟩ ?_
    intro W' e1 e2 e3 e4 e5
    refine hR W' e1 e2 e3 (e4.trans (by simp [World.putObj])) (fun i hi => ?_)
    rw [List.mem_cons, not_or] at hi
    exact (e5 i hi.2).trans (World.putObj_heap_other hi.1)
structure FI2 (lw hg sl ch : Int) (ad : Addr) (cp b : Nat) (S : List S48) (now : List Int) (gn g Bo : Nat) (w : World) (L : List Nat) (B8 : Nat) (h many : Int) (out : List Int) (W : World) : Prop where
  f : FI lw hg sl ch ad cp b S now gn g Bo w out W
  m : Marks L W
  h8 : W.heap[B8]? = some (.cells #[.int .i64 h] 3 (0, 0))
  h9 : W.heap[B8 + 1]? = some (.cells #[.int .i64 many] 3 (0, 0))
section
variable {lw hg sl ch : Int} {ad : Addr} {cp b : Nat} {S : List S48} {now : List Int} {gn g Bo : Nat} {w W W' : World} {L : List Nat} {B8 : Nat} {h many : Int} {out : List Int}
theorem FI2.turn (hf : FI2 lw hg sl ch ad cp b S now gn g Bo w L B8 h many out W) {B : Nat} (hB : B8 + 1 < B) (hBo : Bo < B) (hgB : g < B) (hgn : gn < B) (hw : w.heap.size < B) (hL : ∀ D ∈ L, D < B) {row : Option Nat} (hgr : W.grownBy W' row)
    (hrow : ∀ r, row = some r → B ≤ r ∧ ∃ o : Obj, W.heap[r]? = some o ∧ o.isCells = false) : FI2 lw hg sl ch ad cp b S now gn g Bo w L B8 h many out W' :=
  ⟨⟨blk_grown hf.f.s hgr (fun e => by have := (hrow _ e.symm).1; omega), blk_grown hf.f.o hgr (fun e => by have := (hrow _ e.symm).1; omega), blk_grown hf.f.l hgr (fun e => by have := (hrow _ e.symm).1; omega), blk_grown hf.f.n hgr (fun e => by have := (hrow _ e.symm).1; omega),
    hf.f.p.turn hgr (fun r e => (hrow r e).2), pw_below_grown hf.f.b row hf.f.b.size hgr (fun r e => by have := (hrow r e).1; omega)⟩,
   hf.m.turn hgr (fun r e hr => by have := (hrow r e).1; have := hL r hr; omega), blk_grown hf.h8 hgr (fun e => by have := (hrow _ e.symm).1; omega), blk_grown hf.h9 hgr (fun e => by have := (hrow _ e.symm).1; omega)⟩
theorem FI2.put (hf : FI2 lw hg sl ch ad cp b S now gn g Bo w L B8 h many out W) (hgs : w.heap.size < g) (hgo : g ≠ Bo) (hgn : g ≠ gn) (h8 : g ≠ B8) (h9 : g ≠ B8 + 1) (hL : g ∉ L) (had : ad.block < w.heap.size) (k : Nat) (x : Int) :
    FI2 lw hg sl ch ad cp b S now gn g Bo w L B8 h many (out.set k x) (W.setCell ⟨g, k, none⟩ (.int .i64 x)) :=
  ⟨⟨(Below.heap_setCell W ⟨g, k, none⟩ _ _ (by simp; omega)).trans hf.f.s, (Below.heap_setCell W ⟨g, k, none⟩ _ _ (by simp; omega)).trans hf.f.o, hf.f.l.put k x, (Below.heap_setCell W ⟨g, k, none⟩ _ _ (by simp; omega)).trans hf.f.n,
    fun i hi => ⟨(World.cell?_setCell_other _ _ _ _ (fun e => by have e2 := congrArg Addr.block e; simp only [add_block] at e2; omega)).trans (hf.f.p i hi).1, (World.cell?_setCell_other _ _ _ _ (fun e => by have e2 := congrArg Addr.block e; simp only [add_block] at e2; omega)).trans (hf.f.p i hi).2⟩,
    hf.f.b.setCell (p := ⟨g, k, none⟩) (by simp; omega) _⟩,
   ⟨fun D hD => (Below.heap_setCell W ⟨g, k, none⟩ _ _ (fun e => hL (by have e2 : D = g := e; rw [← e2]; exact hD))).trans (hf.m.d D hD), hf.m.n⟩,
   (Below.heap_setCell W ⟨g, k, none⟩ _ _ (by simp; omega)).trans hf.h8, (Below.heap_setCell W ⟨g, k, none⟩ _ _ (by simp; omega)).trans hf.h9⟩
theorem FI2.below (hf : FI2 lw hg sl ch ad cp b S now gn g Bo w L B8 h many out W) (hb : Below W.heap.size W W') : FI2 lw hg sl ch ad cp b S now gn g Bo w L B8 h many out W' :=
  ⟨hf.f.below hb, hf.m.turn (grown_of_below hb none) (fun _ e => by cases e), blk_below hf.h8 hb, blk_below hf.h9 hb⟩
end
section
variable (lw hg sl ch : Int) (ad : Addr) (cp b : Nat) (S : List S48) (hsl : 0 ≤ sl ∧ sl ≤ 30) (hlen : S.length ≤ 24) (hlo : ∀ i, i < S.length → 0 ≤ lo S i ∧ lo S i ≤ 100) (hhi : ∀ i, i < S.length → -100 ≤ hi S i ∧ hi S i ≤ 30)
include hsl hlen hlo hhi
set_option maxRecDepth 100000 in
set_option maxHeartbeats 4000000 in
theorem front_calls (i : Nat) (hi1 : i + 1 < S.length) (now : List Int) (hnow : now.length = 31) (hnb : ∀ k : Nat, k < 31 → 0 ≤ rd now (k : Int) ∧ rd now (k : Int) ≤ 2000) (gn : Nat) (w : World) (hN : IntBlk w gn now) (hS : SpansAt w ad S) :
    Calls Tryz.prog 88 #[searchV lw hg sl ch (some ad) S.length cp (.map (some b)), .int .i64 (i : Int), .slice (some ⟨gn, 0, none⟩) 31 31] w fun e w' => ∃ g : Nat, e = .returned (.slice (some ⟨g, 0, none⟩) 31 31) ∧ w.heap.size ≤ g ∧ IntBlk w' g (frontL S sl i now) ∧ Below w.heap.size w w' := by
  have hu1 := Tryz.underlying78
  have hu2 := Tryz.underlying35
  have hmx : Tryz.prog.follows .mixedOrders = true := by kernel_rfl
  have e2 : IntKind.i64.wrap ((i : Int) + 1) = (i : Int) + 1 := IntWalk.i64_in _ ⟨by omega, by omega⟩
  have HN := Aside0.mk hN
  have HS := Aside0.mk hS
  have HNB := Aside0.mk hnb
  clear hN hS hnb
  refine (callsIn_wide (n := 9)).1 ?_
  refine callsIn_of_wp_marks Tryz.func88 rfl trivial ?_ rfl
  simp only [Tryz.ntmps88, List.size_toArray, List.length_cons, List.length_nil, Nat.reduceAdd, Nat.reduceSub, Array.replicate_succ, Array.replicate_zero, List.push_toArray, List.append_toArray, List.nil_append, List.cons_append]
  have n0 : ((w.alloc (searchO lw hg sl ch (some ad) S.length cp (.map (some b)))).alloc (.cells #[.int .i64 1000] 3)).heap[w.heap.size]? = some (searchO lw hg sl ch (some ad) S.length cp (.map (some b))) := blk_alloc (blk_new w _) _
  have n1 := blk_new (w.alloc (searchO lw hg sl ch (some ad) S.length cp (.map (some b)))) (.cells #[.int .i64 1000] 3)
  rw [World.size_alloc] at n1
  have n2 := below_alloc (below_alloc (Below.refl _ w) (searchO lw hg sl ch (some ad) S.length cp (.map (some b)))) (.cells #[.int .i64 1000] 3)
  have N0 := Aside0.mk n0
  have N1 := Aside0.mk n1
  have N2 := Aside0.mk n2
  clear n0 n1 n2
  gi_wp2_with (first | ((first | refine ⟨trivial, fun _ => by omega, ?_⟩ | refine ⟨trivial, ?_⟩ | skip); gi_at_call 87; refine (callsIn_wide.2 (repeatI [.int .i64 1000] rfl (by intro v hv; simp at hv; subst hv; rfl) ⟨w.heap.size + 1, 0, none⟩ 1 31 ⟨by omega, by omega⟩ _ ?hp0)).mono ?_; (case hp0 => exact fun j v hj => by rw [add_plain]; exact (blk_cell N1.out j).trans (by simpa using hj)); rintro e w1 ⟨g, rfl, hg1, hb1, hb2⟩; rw [intC_pat] at hb1; have HB1 := Aside0.mk (below_step N2.out hb2); have HI1 := Aside0.mk (show IntBlk w1 g (List.replicate 31 1000) from hb1); have HS1 := Aside0.mk (blk_below N0.out hb2); have hgw : w.heap.size + 2 ≤ g := (by simpa using hg1); clear hb1 hb2 hg1))
  have hF0 : FI lw hg sl ch ad cp b S now gn g w1.heap.size w (frontK S sl i now 0) (w1.alloc (.cells #[.slice (some ⟨g, 0, none⟩) 31 31] 22)) :=
    ⟨blk_alloc HS1.out _, blk_new _ _, HI1.out.below (below_alloc (Below.refl _ _) _), (HN.out.below HB1.out).below (below_alloc (Below.refl _ _) _), (HS.out.below HB1.out).below (below_alloc (Below.refl _ _) _), below_alloc HB1.out _⟩
  have hgw1 : g < w1.heap.size := blk_lt HI1.out
  have hgnw : gn < w.heap.size := blk_lt HN.out
  have hadw : ad.block < w.heap.size := by have := World.block_lt_of_cell? w _ (HS.out 0 (by omega)).1; rwa [add_block] at this
  have hw1 : w.heap.size + 2 ≤ w1.heap.size := by omega
  have F0 := Aside0.mk hF0
  clear hF0 HS1 HI1 HB1 N0 N1 N2 HS HN
  obtain ⟨Bo, hBo⟩ : ∃ B, w1.heap.size = B := ⟨_, rfl⟩
  rw [hBo] at F0 hgw1 hw1 ⊢
  clear hBo
  generalize w1.alloc (.cells #[.slice (some ⟨g, 0, none⟩) 31 31] 22) = W1 at F0 ⊢
  refine wpIn_loop_ghost_k (fun q a' wr => ∃ (L : List Nat) (k : Nat) (u8 u9 u10 u16 u17 u18 u19 u20 u21 u22 u23 u24 u25 u26 u28 u29 u30 u31 u32 u33 u34 u35 u36 u37 u38 u39 u40 u41 : Value), (Aside0 (k ≤ 31 ∧ q = 31 - k) ∧ Aside0 (FI lw hg sl ch ad cp b S now gn g Bo w (frontK S sl i now k) wr ∧ Marks L wr ∧ ∀ D ∈ L, w.heap.size ≤ D)) ∧ a' = ⟨#[searchV lw hg sl ch (some ad) S.length cp (.map (some b)), .int .i64 (i : Int), .slice (some ⟨gn, 0, none⟩) 31 31, .pointer (some ⟨w.heap.size, 0, none⟩), undef, undef, .slice none 0 0, .pointer (some ⟨Bo, 0, none⟩), u8, u9, u10, .slice (some ⟨w.heap.size + 1, 0, none⟩) 1 1, .slice (some ⟨g, 0, none⟩) 31 31, .slice (some ⟨gn, 0, none⟩) 31 31, .int .i64 31, .int .i64 (k : Int), u16, u17, u18, u19, u20, u21, u22, u23, u24, u25, u26, undef, u28, u29, u30, u31, u32, u33, u34, u35, u36, u37, u38, u39, u40, u41, undef], marksL L⟩) 31 ?_ ?_
  · exact ⟨[], 0, _, _, _, _, _, _, _, _, _, _, _, _, _, _, _, _, _, _, _, _, _, _, _, _, _, _, _, _, ⟨⟨by omega, by omega⟩, ⟨F0.out, ⟨by simp, List.nodup_nil⟩, by simp⟩⟩, rfl⟩
  · clear F0
    rintro q _ wr ⟨L, k, u8, u9, u10, u16, u17, u18, u19, u20, u21, u22, u23, u24, u25, u26, u28, u29, u30, u31, u32, u33, u34, u35, u36, u37, u38, u39, u40, u41, ⟨HK, HF⟩, rfl⟩ J K hJ hKK
    by_cases hk : k < 31
    · have hd : decide ((k : Int) < 31) = true := decide_eq_true (by omega)
      have c0 := HF.out.1.n.cell k (by omega)
      obtain ⟨many, hmany⟩ : ∃ m, rd now (k : Int) = m := ⟨_, rfl⟩
      have hmb := HNB.out k hk
      rw [hmany] at c0 hmb
      have HM := Aside0.mk hmany
      clear hmany
      by_cases hge : 1000 ≤ many
      · have hdg : decide (1000 ≤ many) = true := decide_eq_true hge
        gi_wp2
        gi_roundg (31 - (k + 1))
        case measure => have := HK.out; omega
        case rel => exact ⟨(show Aside0 (k + 1 ≤ 31 ∧ 31 - (k + 1) = 31 - (k + 1)) from ⟨by omega, rfl⟩), ⟨by unfold frontK; rw [HM.out, if_pos hge]; exact HF.out.1.below (below_alloc (below_alloc (Below.refl _ _) _) _), HF.out.2.1.turn (grown_of_below (below_alloc (below_alloc (Below.refl _ _) _) _) none) (fun _ e => by cases e), HF.out.2.2⟩⟩
      · have hdg : decide (1000 ≤ many) = false := decide_eq_false hge
        have s0 := (blk_cell HF.out.1.s 0).trans rfl
        have s1 := (blk_cell HF.out.1.s 1).trans rfl
        have s2 := (blk_cell HF.out.1.s 2).trans rfl
        have s3 := (blk_cell HF.out.1.s 3).trans rfl
        have s4 := (blk_cell HF.out.1.s 4).trans rfl
        have s5 := (blk_cell HF.out.1.s 5).trans rfl
        have hws : w.heap.size < wr.heap.size := blk_lt HF.out.1.s
        gi_wp2_with (first | ((first | refine ⟨trivial, fun _ => by omega, ?_⟩ | refine ⟨trivial, ?_⟩ | skip); gi_at_call 98; refine (callsIn_wide.2 (heights_calls lw hg sl ch (some ad) S.length cp (.map (some b)) ((i : Int) + 1) (k : Int) _)).mono ?_; rintro e W4 ⟨rfl, hw4⟩; have HW4 := Aside0.mk hw4; clear hw4))
        have hb2 : Below wr.heap.size wr ((wr.alloc (.cells #[.int .i64 (k : Int)] 3)).alloc (.cells #[.int .i64 many] 3)) := below_alloc (below_alloc (Below.refl _ _) _) _
        have h8 : ((wr.alloc (.cells #[.int .i64 (k : Int)] 3)).alloc (.cells #[.int .i64 many] 3)).heap[wr.heap.size]? = some (.cells #[.int .i64 (k : Int)] 3 (0, 0)) := blk_alloc (blk_new wr _) _
        have h9 : ((wr.alloc (.cells #[.int .i64 (k : Int)] 3)).alloc (.cells #[.int .i64 many] 3)).heap[wr.heap.size + 1]? = some (.cells #[.int .i64 many] 3 (0, 0)) := by
          have := blk_new (wr.alloc (.cells #[.int .i64 (k : Int)] 3)) (.cells #[.int .i64 many] 3)
          rwa [World.size_alloc] at this
        have hz2 : ((wr.alloc (.cells #[.int .i64 (k : Int)] 3)).alloc (.cells #[.int .i64 many] 3)).heap.size = wr.heap.size + 2 := by simp
        have f2 : FI2 lw hg sl ch ad cp b S now gn g Bo w L wr.heap.size (k : Int) many (frontK S sl i now k) ((wr.alloc (.cells #[.int .i64 (k : Int)] 3)).alloc (.cells #[.int .i64 many] 3)) := ⟨HF.out.1.below hb2, HF.out.2.1.turn (grown_of_below hb2 none) (fun _ e => by cases e), h8, h9⟩
        have hgr : g < wr.heap.size := blk_lt HF.out.1.l
        have hor : Bo < wr.heap.size := blk_lt HF.out.1.o
        have hLr := HF.out.2.1.lt
        generalize (wr.alloc (.cells #[.int .i64 (k : Int)] 3)).alloc (.cells #[.int .i64 many] 3) = W2 at HW4 f2 hz2
        clear hb2 h8 h9
        have hs4 : W4.heap.size = wr.heap.size + 5 := by rw [HW4.out]; simp; omega
        have hb4 : Below W2.heap.size W2 W4 := by rw [HW4.out]; exact below_alloc (below_alloc (below_alloc (Below.refl _ _) _) _) _
        have p3 : W4.heap[wr.heap.size + 1 + 1]? = some (searchO lw hg sl ch (some ad) S.length cp (.map (some b))) := by
          rw [HW4.out, show wr.heap.size + 1 + 1 = W2.heap.size by omega]
          exact blk_alloc (blk_alloc (blk_new W2 _) _) _
        have p4 : W4.heap[wr.heap.size + 1 + 1 + 1]? = some (.cells #[.int .i64 ((i + 1 : Nat) : Int)] 3 (0, 0)) := by
          rw [HW4.out, show wr.heap.size + 1 + 1 + 1 = (W2.alloc (searchO lw hg sl ch (some ad) S.length cp (.map (some b)))).heap.size by simp; omega]
          exact blk_alloc (blk_new _ _) _
        have p5 : W4.heap[wr.heap.size + 1 + 1 + 2]? = some (.cells #[.int .i64 (k : Int)] 3 (0, 0)) := by
          rw [HW4.out, show wr.heap.size + 1 + 1 + 2 = ((W2.alloc (searchO lw hg sl ch (some ad) S.length cp (.map (some b)))).alloc (.cells #[.int .i64 ((i : Int) + 1)] 3)).heap.size by simp; omega]
          exact blk_new _ _
        have f4 := f2.below hb4
        have hS4 := f4.f.p
        have F4 := Aside0.mk f4
        have HBD := Aside0.mk (⟨hlo, hhi⟩ : _ ∧ _)
        have hgn2 : g ≠ gn := by omega
        have hgo2 : g ≠ Bo := by omega
        have hglt : w.heap.size < g := by omega
        have hgL : g ∉ L := fun hm => by have h1 := HF.out.2.1.d g hm; have h2 := HF.out.1.l; unfold IntBlk at h2; rw [h1] at h2; cases h2
        clear HW4 f2 f4 s0 s1 s2 s3 s4 s5 c0 hb4
        refine wpIn_rangeFunc_ownG rfl (by omega) (gf := 108) (lb := #[.pointer (some ⟨wr.heap.size + 1 + 1, 0, none⟩), .pointer (some ⟨wr.heap.size + 1 + 1 + 1, 0, none⟩), .pointer (some ⟨wr.heap.size + 1 + 1 + 2, 0, none⟩)]) (by simp [go_sem]) trivial (enters_of Tryz.func108 (by kernel_rfl) rfl)
          (heights_stops 8 (wr.heap.size + 1 + 1) (wr.heap.size + 1 + 1 + 1) (wr.heap.size + 1 + 1 + 2) W4 lw hg sl ch ad cp (.map (some b)) S (i + 1) (k : Int) (by omega) (by omega) hsl (by omega) (hlo _ (by omega)) (hhi _ (by omega)) p3 p4 p5 hS4)
          (fun _ _ => trivial) (fun _ _ _ _ _ _ _ _ => trivial) (Below.refl _ _) (fun _ => rfl)
          (fun pre W => FI2 lw hg sl ch ad cp b S now gn g Bo w L wr.heap.size (k : Int) many (frontN many (k : Int) (frontK S sl i now k) (pre.map fun (y : Ht) => y.1)) W) (fun _ _ _ => False)
          (fun s A B row hs hg2 hr => hs.turn (B := W4.heap.size) (by omega) (by omega) (by omega) (by omega) (by omega) (fun D hD => by have := hLr D hD; omega) hg2 (fun r e => hr r e)) (fun _ _ _ _ _ hs _ _ => hs) F4.out
          (fun x => { tmps := #[searchV lw hg sl ch (some ad) S.length cp (.map (some b)), .int .i64 (i : Int), .slice (some ⟨gn, 0, none⟩) 31 31, .pointer (some ⟨w.heap.size, 0, none⟩), undef, undef, .slice none 0 0, .pointer (some ⟨Bo, 0, none⟩), .pointer (some ⟨wr.heap.size, 0, none⟩), .pointer (some ⟨wr.heap.size + 1, 0, none⟩), .int .i64 x.1, .slice (some ⟨w.heap.size + 1, 0, none⟩) 1 1, .slice (some ⟨g, 0, none⟩) 31 31, .slice (some ⟨gn, 0, none⟩) 31 31, .int .i64 31, .int .i64 (k : Int), .bool true, .int .i64 (k : Int), .pointer (some ⟨gn, k, none⟩), .int .i64 many, .int .i64 many, .bool false, .agg #[.int .i64 lw, .int .i64 hg, .int .i64 sl, .int .i64 ch, .slice (some ad) S.length cp, .map (some b)], .int .i64 (i : Int), .int .i64 ((i : Int) + 1), .int .i64 (k : Int), .func (.func 108) #[] #[.pointer (some ⟨wr.heap.size + 1 + 1, 0, none⟩), .pointer (some ⟨wr.heap.size + 1 + 1 + 1, 0, none⟩), .pointer (some ⟨wr.heap.size + 1 + 1 + 2, 0, none⟩)], .int .i64 x.1, u28, u29, u30, u31, u32, u33, u34, u35, u36, u37, u38, u39, u40, u41, undef], defers := [] }) ?assign ?body ?done ?stop
        case assign =>
          intro l x W K hK
          gi_wp2
          exact hK
        case body =>
          rintro l pre ⟨xv, hx⟩ W hI _
          obtain ⟨n, rfl⟩ := Int.eq_ofNat_of_zero_le hx.1
          dsimp only
          have hnn : n < 31 := by omega
          obtain ⟨old, hold⟩ : ∃ z, rd (frontN many (k : Int) (frontK S sl i now k) (pre.map fun (y : Ht) => y.1)) (n : Int) = z := ⟨_, rfl⟩
          obtain ⟨cc, hcc⟩ : ∃ z, cst (k : Int) (n : Int) = z := ⟨_, rfl⟩
          have hcb := cst_bd (k : Int) (n : Int)
          rw [hcc] at hcb
          have HCC := Aside0.mk hcc
          have o0 := (blk_cell hI.f.o 0).trans rfl
          have l0 : W.cell? ⟨g, n, none⟩ = some (.int .i64 old) := by rw [← hold]; exact hI.f.l.cell n (by rw [frontN_len, frontK_len]; exact hnn)
          have lf : W.frozen? ⟨g, n, none⟩ = false := blk_frozen hI.f.l _
          have c8 := (blk_cell hI.h8 0).trans rfl
          have c9 := (blk_cell hI.h9 0).trans rfl
          have e3 : IntKind.i64.wrap (many + cc) = many + cc := IntWalk.i64_in _ ⟨by omega, by omega⟩
          have m1 : (if many + cc < old then many + cc else old) = min old (many + cc) := by split <;> omega
          have hni : (n : Int) < 31 := by omega
          have kf : KeepsFrom W4.heap.size W (W.setCell ⟨g, n, none⟩ (.int .i64 (min old (many + cc)))).drew := ((KeepsOthers.setCell _ _ _).from _).trans ((KeepsOthers.drew _).from _)
          have ri : FI2 lw hg sl ch ad cp b S now gn g Bo w L wr.heap.size (k : Int) many (frontN many (k : Int) (frontK S sl i now k) ((pre ++ [(⟨(n : Int), hx⟩ : Ht)]).map fun (y : Ht) => y.1)) (W.setCell ⟨g, n, none⟩ (.int .i64 (min old (many + cc)))).drew := by
            rw [List.map_append]
            simp only [List.map_cons, List.map_nil]
            rw [frontN_snoc]
            unfold frontS
            rw [hold, hcc, Int.toNat_natCast]
            exact (hI.put hglt hgo2 hgn2 (by omega) (by omega) hgL hadw n _).below (below_drew (Below.refl _ _))
          clear hI hold hcc e2 HNB HM HBD F4 p3 p4 p5 hS4 hLr HF HK hlo hhi hu1 hu2
          gi_wp2
          refine wpIn_region_still_tail_round (l0 := l) 13 hmx (by kernel_rfl) (by kernel_rfl) ?_
          simp only [List.take_succ_cons, List.take_zero, List.drop_succ_cons, List.drop_zero]
          repeat still_step
          still_call (cost_calls (k : Int) (n : Int) _)
          rw [HCC.out]
          repeat still_step
          refine wpStill_nil ?_
          (try rw [m1])
          gi_wp2
          exact And.intro kf (And.intro trivial ri)
        case done =>
          rintro D ys W hD hys hI hK
          rw [show ({ target := .collected D, args := #[] } :: marksL L : List Deferred) = marksL (D :: L) from rfl]
          rw [hys] at hI
          have hmk : Marks (D :: L) W := ⟨fun D' hD' => (List.mem_cons.1 hD').elim (fun e => e ▸ hK) (fun h => hI.m.d D' h), List.nodup_cons.2 ⟨fun hm => by have := hLr D hm; omega, hI.m.n⟩⟩
          have hfr : FI lw hg sl ch ad cp b S now gn g Bo w (frontK S sl i now (k + 1)) W := by
            unfold frontK
            rw [HM.out, if_neg (by omega)]
            exact hI.f
          have HMK := Aside0.mk hmk
          have HLW := Aside0.mk (show ∀ D' ∈ D :: L, w.heap.size ≤ D' from fun D' hD' => (List.mem_cons.1 hD').elim (fun e => by omega) (HF.out.2.2 D'))
          have HFR := Aside0.mk hfr
          clear hI hmk hfr hK hys F4 p3 p4 p5 hS4
          gi_wp2
          gi_roundg (31 - (k + 1))
          case measure => have := HK.out; omega
          case rel => exact ⟨(show Aside0 (k + 1 ≤ 31 ∧ 31 - (k + 1) = 31 - (k + 1)) from ⟨by omega, rfl⟩), ⟨HFR.out, HMK.out, HLW.out⟩⟩
        case stop =>
          rintro D c pre W hD _ hI _
          exact hI.elim
    · have hd : decide ((k : Int) < 31) = false := decide_eq_false (by omega)
      have hke : k = 31 := by have := HK.out; omega
      have o0 := (blk_cell HF.out.1.o 0).trans rfl
      have HKE := Aside0.mk hke
      clear hke
      gi_wp2
      refine leaves_marks L wr HF.out.2.1 ?_
      intro W' e1 e2 e3 e4 e5
      have hgl : g ∉ L := fun hm => by have h1 := HF.out.2.1.d g hm; have h2 := HF.out.1.l; unfold IntBlk at h2; rw [h1] at h2; cases h2
      refine ⟨.slice (some ⟨g, 0, none⟩) 31 31, by simp [results, Tryz.results88, go_sem], g, rfl, by omega, ?_, ?_⟩
      · have := HF.out.1.l
        rw [HKE.out] at this
        exact (e5 g hgl).trans this
      · refine ⟨e1.trans HF.out.1.b.os, e2.trans HF.out.1.b.tape, e3.trans HF.out.1.b.output, by rw [e4]; exact HF.out.1.b.size, fun j hj => (e5 j (fun hm => by have := HF.out.2.2 j hm; omega)).trans (HF.out.1.b.block j hj)⟩
end
end Go.Proofs.YtbjimmemcmjpcabGreatDoor.Print
end

/- What the program's functions compute that the chapter's examples reach, each with the walk that shows it; the kit's words for such walks. Joined by wip/pack.py. -/
import Derived.RangeFuncCalls
import Derived.OwnWalkIn
import Derived.LoopNIn
import Derived.Sort.LoopGhostIn
import Derived.Shelf.RegionOpen
import Derived.WalkKit
import Derived.RangeFuncWrites
import Derived.Deep.RegionWith
import Derived.Test.YtbjimmemcmjpcabGreatDoorB6
import Derived.Test.YtbjimmemcmjpcabGreatDoorB3
import Derived.Test.YtbjimmemcmjpcabGreatDoorB4
section
set_option linter.unusedVariables false
set_option linter.unusedSimpArgs false
set_option linter.unusedSectionVars false
namespace Go.Proofs.YtbjimmemcmjpcabGreatDoor.Print
open Go.RowKit Go.Proofs.YtbjimmemcmjpcabGreatDoorW.PrintWords Go.Proofs.YtbjimmemcmjpcabGreatDoorW.PrintLast Go.Proofs.YtbjimmemcmjpcabGreatDoorW.PrintMore
attribute [local go_sem] Oper.semAt_some
def cst (a b : Int) : Int := if a = b then 0 else 1
theorem cost_calls (a b : Int) (w : World) : Calls Tryz.prog 81 #[.int .i64 a, .int .i64 b] w fun e w' => e = .returned (.int .i64 (cst a b)) ∧ w' = w := by
  unfold cst
  by_cases h : a = b
  · subst h
    rw [if_pos rfl]
    go_enter Tryz.func81, Tryz.ntmps81
    go_wp2
    go_ret
    exact ⟨rfl, rfl⟩
  · rw [if_neg h]
    have hd : decide (a = b) = false := decide_eq_false h
    go_enter Tryz.func81, Tryz.ntmps81
    go_wp2
    go_ret
    exact ⟨rfl, rfl⟩
def absI (n : Int) : Int := max n (-n)
theorem size_f (n : Int) (h : -1000000 ≤ n ∧ n ≤ 1000000) : cam_size.f n = some (absI n) := by
  unfold cam_size.f absI mx
  rw [IntWalk.wrap64_in _ ⟨by omega, by omega⟩]
  congr 1
  split <;> omega
def restV (S : List S48) (sl : Int) : Nat → Spot → Int
  | 0, x => if sl < absI (x.2.1 - x.2.2) then 1000 else cst x.2.1 x.2.2
  | d + 1, x => ((hts S sl (x.1.toNat + 1) x.2.1).map fun n => restV S sl d (x.1 + 1, n, x.2.2) + cst x.2.1 n).foldl min 1000
def restF (S : List S48) (sl : Int) (x : Spot) : Int := restV S sl (S.length - 1 - x.1.toNat) x
theorem foldl_min_le (l : List Int) : ∀ a : Int, l.foldl min a ≤ a := by
  induction l with
  | nil => intro a; simp
  | cons x l ih => intro a; simp only [List.foldl_cons]; exact Int.le_trans (ih _) (by omega)
theorem foldl_min_ge (l : List Int) : ∀ a : Int, 0 ≤ a → (∀ x ∈ l, 0 ≤ x) → 0 ≤ l.foldl min a := by
  induction l with
  | nil => intro a ha _; simpa
  | cons x l ih => intro a ha h; simp only [List.foldl_cons]; exact ih _ (by have := h x (by simp); omega) (fun y hy => h y (by simp [hy]))
theorem cst_bd (a b : Int) : 0 ≤ cst a b ∧ cst a b ≤ 1 := by unfold cst; split <;> omega
theorem restV_bd (S : List S48) (sl : Int) : ∀ (d : Nat) (x : Spot), 0 ≤ restV S sl d x ∧ restV S sl d x ≤ 1000
  | 0, x => by
    unfold restV
    have := cst_bd x.2.1 x.2.2
    split <;> omega
  | d + 1, x => by
    unfold restV
    refine ⟨foldl_min_ge _ _ (by omega) fun y hy => ?_, foldl_min_le _ _⟩
    obtain ⟨n, _, rfl⟩ := List.mem_map.1 hy
    have := restV_bd S sl d (x.1 + 1, n, x.2.2)
    have := cst_bd x.2.1 n
    omega
theorem hts_mem {S : List S48} {sl : Int} {i : Nat} {h n : Int} (hlo : 0 ≤ lo S i) (hhi : hi S i ≤ 30) (hm : n ∈ hts S sl i h) : 0 ≤ n ∧ n ≤ 30 := by
  unfold hts upto at hm
  obtain ⟨j, hj, rfl⟩ := List.mem_map.1 hm
  rw [List.mem_range] at hj
  omega
theorem add_block (a : Addr) (k : Nat) : (a.add k).block = a.block := by unfold Addr.add; split <;> rfl
structure RI (b : Nat) (sO xO : Obj) (ad : Addr) (S : List S48) (sl : Int) (x1 : Int) (L0 : List Spot) (w0 : World) (v : Int) (W : World) : Prop where
  s : W.heap[w0.heap.size]? = some sO
  x : W.heap[w0.heap.size + 1]? = some xO
  o : W.heap[w0.heap.size + 2]? = some (.cells #[.int .i64 v] 3 (0, 0))
  m : ∃ L, MapOK (restF S sl) W b L ∧ ∀ y ∈ L, y ∈ L0 ∨ x1 + 1 ≤ y.1
  p : SpansAt W ad S
  g : w0.grownBy W (some b)
theorem grown_step {w A B : World} {b : Nat} (h : w.grownBy A (some b)) {row : Option Nat} (hg : A.grownBy B row) (hrow : ∀ r, row = some r → r = b ∨ w.heap.size ≤ r) : w.grownBy B (some b) :=
  ⟨hg.os.trans h.os, hg.tape.trans h.tape, hg.output.trans h.output, Nat.le_trans h.size hg.size, fun i hi hne => (hg.block i (Nat.lt_of_lt_of_le hi h.size) (fun e => (hrow i e.symm).elim (fun e2 => hne (by rw [e2])) (fun h2 => by omega))).trans (h.block i hi hne)⟩
section
variable {b : Nat} {sO xO : Obj} {ad : Addr} {S : List S48} {sl x1 v : Int} {L0 : List Spot} {w0 W W' : World}
theorem RI.lt (h : RI b sO xO ad S sl x1 L0 w0 v W) : w0.heap.size + 2 < W.heap.size := blk_lt h.o
theorem RI.turn (h : RI b sO xO ad S sl x1 L0 w0 v W) (hb : b < w0.heap.size) {row : Option Nat} (hg : W.grownBy W' row) (hrow : ∀ r, row = some r → w0.heap.size + 3 ≤ r ∧ ∃ o : Obj, W.heap[r]? = some o ∧ o.isCells = false) : RI b sO xO ad S sl x1 L0 w0 v W' where
  s := blk_grown h.s hg (fun e => by have := (hrow _ e.symm).1; omega)
  x := blk_grown h.x hg (fun e => by have := (hrow _ e.symm).1; omega)
  o := blk_grown h.o hg (fun e => by have := (hrow _ e.symm).1; omega)
  m := by obtain ⟨L, hm, hl⟩ := h.m; exact ⟨L, hm.kept hg (fun e => by have := (hrow _ e.symm).1; omega), hl⟩
  p := h.p.turn hg (fun r e => (hrow r e).2)
  g := grown_step h.g hg (fun r e => .inr (by have := (hrow r e).1; omega))
theorem RI.below (h : RI b sO xO ad S sl x1 L0 w0 v W) (hb : b < w0.heap.size) (hg : Below W.heap.size W W') : RI b sO xO ad S sl x1 L0 w0 v W' := h.turn hb (grown_of_below hg none) (fun _ e => by cases e)
theorem RI.call (h : RI b sO xO ad S sl x1 L0 w0 v W) (hb : b < w0.heap.size) (hg : W.grownBy W' (some b)) {L L' : List Spot} (hL : ∀ y ∈ L, y ∈ L0 ∨ x1 + 1 ≤ y.1) (hm : MapOK (restF S sl) W b L) (hm' : MapOK (restF S sl) W' b L') (hl : ∀ y ∈ L', y ∈ L ∨ x1 + 1 ≤ y.1) : RI b sO xO ad S sl x1 L0 w0 v W' where
  s := blk_grown h.s hg (by simp; omega)
  x := blk_grown h.x hg (by simp; omega)
  o := blk_grown h.o hg (by simp; omega)
  m := ⟨L', hm', fun y hy => (hl y hy).elim (hL y) .inr⟩
  p := h.p.turn hg (fun r e => by cases e; obtain ⟨D, ⟨es, cl, hh, _⟩, _⟩ := hm; exact ⟨_, hh, rfl⟩)
  g := grown_step h.g hg (fun r e => by cases e; exact .inl rfl)
theorem RI.put (h : RI b sO xO ad S sl x1 L0 w0 v W) (hb : b < w0.heap.size) (hp0 : ad.block < w0.heap.size) (u : Int) : RI b sO xO ad S sl x1 L0 w0 u (W.setCell ⟨w0.heap.size + 2, 0, none⟩ (.int .i64 u)) where
  s := (Below.heap_setCell W ⟨w0.heap.size + 2, 0, none⟩ _ _ (by simp)).trans h.s
  x := (Below.heap_setCell W ⟨w0.heap.size + 2, 0, none⟩ _ _ (by simp)).trans h.x
  o := blk_put h.o 0 _ (by simp)
  m := by
    obtain ⟨L, hm, hl⟩ := h.m
    refine ⟨L, ?_, hl⟩
    obtain ⟨D, ⟨es, cl, hh, r1⟩, r2⟩ := hm
    exact ⟨D, ⟨es, cl, (Below.heap_setCell W ⟨w0.heap.size + 2, 0, none⟩ _ _ (by simp; omega)).trans hh, r1⟩, r2⟩
  p := fun i hi => ⟨(World.cell?_setCell_other _ _ _ _ (fun e => by have e2 := congrArg Addr.block e; simp only [add_block] at e2; omega)).trans (h.p i hi).1, (World.cell?_setCell_other _ _ _ _ (fun e => by have e2 := congrArg Addr.block e; simp only [add_block] at e2; omega)).trans (h.p i hi).2⟩
  g := by
    have hbl := (Below.refl w0.heap.size W).setCell (p := ⟨w0.heap.size + 2, 0, none⟩) (by simp) (.int .i64 u)
    exact ⟨hbl.os.trans h.g.os, hbl.tape.trans h.g.tape, hbl.output.trans h.g.output, Nat.le_trans h.g.size hbl.size, fun i hi hne => (hbl.block i hi).trans (h.g.block i hi hne)⟩
end
section
variable (lw hg sl ch : Int) (ad : Addr) (cp b : Nat) (S : List S48) (hsl : 0 ≤ sl ∧ sl ≤ 30) (hlen : S.length ≤ 24) (hlo : ∀ i, i < S.length → 0 ≤ lo S i ∧ lo S i ≤ 100) (hhi : ∀ i, i < S.length → -100 ≤ hi S i ∧ hi S i ≤ 30)
include hsl hlen hlo hhi
set_option maxRecDepth 100000 in
set_option maxHeartbeats 4000000 in
theorem rest_zero (x : Spot) (w : World) (hx : inBox x) (hd : x.1 + 1 = S.length) (hS : SpansAt w ad S) :
    Calls Tryz.prog 82 #[searchV lw hg sl ch (some ad) S.length cp (.map (some b)), spotV x.1 x.2.1 x.2.2] w fun e w' => e = .returned (.int .i64 (restV S sl 0 x)) ∧ Below w.heap.size w w' := by
  have hu1 := Tryz.underlying78
  have hu2 := Tryz.underlying35
  have hu3 := Tryz.underlying104
  have hmx : Tryz.prog.follows .mixedOrders = true := by kernel_rfl
  obtain ⟨x1, x2, x3⟩ := x
  unfold inBox at hx
  simp only at hx hd
  obtain rfl : x1 = (S.length : Int) - 1 := by omega
  unfold restV
  simp only
  have e1 : IntKind.i64.wrap ((S.length : Int) - 1) = (S.length : Int) - 1 := IntWalk.i64_in _ ⟨by omega, by omega⟩
  have e2 : IntKind.i64.wrap (x2 - x3) = x2 - x3 := IntWalk.i64_in _ ⟨by omega, by omega⟩
  have HF := Aside0.mk (size_f (x2 - x3) (by omega))
  obtain ⟨z, hz⟩ : ∃ z, absI (x2 - x3) = z := ⟨_, rfl⟩
  rw [hz] at HF ⊢
  obtain ⟨cc, hcc⟩ : ∃ z, cst x2 x3 = z := ⟨_, rfl⟩
  have HCC := Aside0.mk hcc
  rw [hcc]
  refine (callsIn_wide (n := 5)).1 ?_
  refine callsIn_of_wp Tryz.func82 rfl trivial ?_ rfl
  simp only [Tryz.ntmps82, List.size_toArray, List.length_cons, List.length_nil, Nat.reduceAdd, Nat.reduceSub, Array.replicate_succ, Array.replicate_zero, List.push_toArray, List.append_toArray, List.nil_append, List.cons_append]
  gi_wp2
  have n0 : ((w.alloc (searchO lw hg sl ch (some ad) S.length cp (.map (some b)))).alloc (.cells #[.int .i64 ((S.length : Int) - 1), .int .i64 x2, .int .i64 x3] 104)).heap[w.heap.size]? = some (searchO lw hg sl ch (some ad) S.length cp (.map (some b))) := blk_alloc (blk_new w _) _
  have n1 := blk_new (w.alloc (searchO lw hg sl ch (some ad) S.length cp (.map (some b)))) (.cells #[.int .i64 ((S.length : Int) - 1), .int .i64 x2, .int .i64 x3] 104)
  rw [World.size_alloc] at n1
  have n2 := below_alloc (below_alloc (Below.refl _ w) (searchO lw hg sl ch (some ad) S.length cp (.map (some b)))) (.cells #[.int .i64 ((S.length : Int) - 1), .int .i64 x2, .int .i64 x3] 104)
  generalize (w.alloc (searchO lw hg sl ch (some ad) S.length cp (.map (some b)))).alloc (.cells #[.int .i64 ((S.length : Int) - 1), .int .i64 x2, .int .i64 x3] 104) = W1 at n0 n1 n2 ⊢
  have c0 := (blk_cell n0 2).trans rfl
  have c1 := (blk_cell n1 1).trans rfl
  have c2 := (blk_cell n1 2).trans rfl
  have N2 := Aside0.mk n2
  clear n2 hS
  gi_region_with_o (first | ((first | refine ⟨trivial, fun _ => by omega, ?_⟩ | refine ⟨trivial, ?_⟩ | skip); gi_at_call 68; refine (callsIn_wide.2 (cam_size.calls (x2 - x3) z _ HF.out)).mono ?_; rintro e W6 ⟨rfl, hb6⟩; have c0' := pw_cell_below hb6 c0; have c1' := pw_cell_below hb6 c1; have c2' := pw_cell_below hb6 c2; have HB6 := Aside0.mk ((N2.out.drew).trans (hb6.mono N2.out.size)); clear hb6))
  all_goals (
    by_cases hle : sl < z
    · have hd : decide (sl < z) = true := decide_eq_true hle
      gi_wp2
      go_ret
      exact ⟨rfl, HB6.out⟩
    · have hd : decide (sl < z) = false := decide_eq_false hle
      gi_wp2_with ((first | refine ⟨trivial, fun _ => by omega, ?_⟩ | refine ⟨trivial, ?_⟩ | skip); gi_at_call 81; refine (callsIn_wide.2 (cost_calls x2 x3 _)).mono ?_; rintro e W7 ⟨rfl, rfl⟩; rw [HCC.out])
      go_ret
      exact ⟨rfl, HB6.out⟩)
end
end Go.Proofs.YtbjimmemcmjpcabGreatDoor.Print
end
section
set_option linter.unusedVariables false
set_option linter.unusedSimpArgs false
set_option linter.unusedSectionVars false
namespace Go.Proofs.YtbjimmemcmjpcabGreatDoor.Print
open Go.RowKit Go.Proofs.YtbjimmemcmjpcabGreatDoorW.PrintWords Go.Proofs.YtbjimmemcmjpcabGreatDoorW.PrintLast Go.Proofs.YtbjimmemcmjpcabGreatDoorW.PrintMore
structure Keep2 (b o : Nat) (w w' : World) : Prop where
  os : w'.os = w.os
  tape : w'.tape = w.tape
  output : w'.output = w.output
  size : w.heap.size ≤ w'.heap.size
  block : ∀ i, i < w.heap.size → i ≠ b → i ≠ o → w'.heap[i]? = w.heap[i]?
section
variable {b o : Nat} {w w1 w2 : World}
theorem Keep2.refl (b o : Nat) (w : World) : Keep2 b o w w := ⟨rfl, rfl, rfl, Nat.le_refl _, fun _ _ _ _ => rfl⟩
theorem Keep2.trans (h : Keep2 b o w w1) (k : Keep2 b o w1 w2) : Keep2 b o w w2 :=
  ⟨k.os.trans h.os, k.tape.trans h.tape, k.output.trans h.output, Nat.le_trans h.size k.size, fun i hi h1 h2 => (k.block i (Nat.lt_of_lt_of_le hi h.size) h1 h2).trans (h.block i hi h1 h2)⟩
theorem Keep2.of_below (h : Below w.heap.size w w1) : Keep2 b o w w1 := ⟨h.os, h.tape, h.output, h.size, fun i hi _ _ => h.block i hi⟩
theorem Keep2.of_grown (h : w.grownBy w1 (some b)) : Keep2 b o w w1 := ⟨h.os, h.tape, h.output, h.size, fun i hi h1 _ => h.block i hi (by simpa using h1)⟩
theorem Keep2.set (h : Keep2 b o w w1) (j : Nat) (v : Value) : Keep2 b o w (w1.setCell ⟨o, j, none⟩ v) := by
  have k := (Below.refl 0 w1).setCell (p := ⟨o, j, none⟩) (Nat.zero_le _) v
  exact ⟨k.os.trans h.os, k.tape.trans h.tape, k.output.trans h.output, Nat.le_trans h.size k.size, fun i hi h1 h2 => (Below.heap_setCell w1 ⟨o, j, none⟩ v i h2).trans (h.block i hi h1 h2)⟩
theorem Keep2.blk (h : Keep2 b o w w1) {g : Nat} {ob : Obj} (hg : w.heap[g]? = some ob) (h1 : g ≠ b) (h2 : g ≠ o) : w1.heap[g]? = some ob := (h.block g (blk_lt hg) h1 h2).trans hg
theorem Keep2.spans {ad : Addr} {S : List S48} (h : Keep2 b o w w1) (hS : SpansAt w ad S) (h1 : ad.block ≠ b) (h2 : ad.block ≠ o) : SpansAt w1 ad S := fun i hi => by
  have hlt := World.block_lt_of_cell? w _ (hS i hi).1
  rw [add_block] at hlt
  have e := h.block ad.block hlt h1 h2
  exact ⟨(World.cell?_of_block (by rw [add_block]; exact e)).trans (hS i hi).1, (World.cell?_of_block (a := ⟨(ad.add (i * 2)).block, (ad.add (i * 2)).off + 1, none⟩) (by simp only [add_block]; exact e)).trans (hS i hi).2⟩
theorem Keep2.row {v : Value} {l : List Int} {base : Nat} (h : Keep2 b o w w1) (hR : Kd.R (Kd.int .i64) 3 w base (fun k => k ≠ b ∧ k ≠ o) v l) : Kd.R (Kd.int .i64) 3 w1 base (fun k => k ≠ b ∧ k ≠ o) v l :=
  Kd.R_step hR fun k hk hlt => h.block k hlt hk.1 hk.2
end
theorem row_shape {w : World} {base : Nat} {ok : Nat → Prop} {v : Value} {l : List Int} {e : TypeId} (h : Kd.R (Kd.int .i64) e w base ok v l) : (v = .slice none 0 0 ∧ l = []) ∨ ∃ ad c, v = .slice (some ad) l.length c ∧ l.length ≤ c ∧ Kd.C (Kd.int .i64) w (some ad) l.length l := by
  obtain ⟨A, c, rfl, hc, hC⟩ := Kd.R_reads h
  obtain ⟨_, inner, ⟨_, hv⟩, _⟩ := h
  rcases hv with ⟨h1, h2⟩ | ⟨g, cap, cur, h1, _⟩
  · exact .inl ⟨h1, List.length_eq_zero_iff.1 h2⟩
  · cases A with
    | none => simp at h1
    | some ad => exact .inr ⟨ad, c, rfl, hc, hC⟩
theorem row_new {W : World} {b o base B0 : Nat} {v : Value} {l : List Int} (h : Kd.R (Kd.int .i64) 3 W base (fun _ => True) v l) (hb : b < base) (ho : o < base) (hB : B0 ≤ base) : Kd.R (Kd.int .i64) 3 W B0 (fun k => k ≠ b ∧ k ≠ o) v l :=
  Kd.R_lower (Kd.R_mono (Kd.R_bound h) fun k hk => ⟨by have := hk.2.1; omega, by have := hk.2.1; omega⟩) hB
theorem MapOK.same {V : Spot → Int} {w w' : World} {b : Nat} {L : List Spot} (h : MapOK V w b L) (e : w'.heap[b]? = w.heap[b]?) : MapOK V w' b L := by
  obtain ⟨D, ⟨es, cl, hh, r1⟩, r2⟩ := h
  exact ⟨D, ⟨es, cl, e.trans hh, r1⟩, r2⟩
theorem rd_mem2 (l : List Int) (k : Nat) (hk : k < l.length) : rd l (k : Int) ∈ l := by simp [rd, List.getD_eq_getElem?_getD, hk]
def firstH (now : List Int) (n : Int) : Int := if now = [] then n else rd now 0
def spentH (now : List Int) (n : Int) : Int := if now = [] then 0 else cst (rd now ((now.length : Int) - 1)) n
def lowH (S : List S48) (sl : Int) (now : List Int) : Int := if now = [] then lo S 0 else max (lo S now.length) (rd now ((now.length : Int) - 1) - sl)
def highH (S : List S48) (sl : Int) (now : List Int) : Int := if now = [] then hi S 0 else min (hi S now.length) (rd now ((now.length : Int) - 1) + sl)
def camW (S : List S48) (sl : Int) : Nat → List Int → Int → Option (List Int)
  | 0, now, _ => some now
  | d + 1, now, left => (upto (lowH S sl now) (highH S sl now)).findSome? fun n => if left < restV S sl d ((now.length : Int), n, firstH now n) + spentH now n then none else camW S sl d (now ++ [n]) (left - spentH now n)
def gW (S : List S48) (sl : Int) (d : Nat) (now : List Int) (left n : Int) : Option (List Int) := if left < restV S sl d ((now.length : Int), n, firstH now n) + spentH now n then none else camW S sl d (now ++ [n]) (left - spentH now n)
theorem camW_succ (S : List S48) (sl : Int) (d : Nat) (now : List Int) (left : Int) : camW S sl (d + 1) now left = (upto (lowH S sl now) (highH S sl now)).findSome? (gW S sl d now left) := rfl
theorem uptoN_none {β : Type} (g : Int → Option β) (a : Int) : ∀ K : Nat, (∀ j : Nat, j < K → g (a + (j : Int)) = none) → (uptoN a K).findSome? g = none
  | 0, _ => rfl
  | K + 1, h => by
    rw [uptoN_succ, List.findSome?_append, uptoN_none g a K (fun j hj => h j (by omega))]
    simp [h K (by omega)]
theorem upto_none {β : Type} (g : Int → Option β) {a z : Int} (h : ∀ j : Nat, j < (z + 1 - a).toNat → g (a + (j : Int)) = none) : (upto a z).findSome? g = none := uptoN_none g a _ h
theorem upto_some {β : Type} (g : Int → Option β) {a z : Int} {k : Nat} {r : β} (hk : k < (z + 1 - a).toNat) (h : ∀ j : Nat, j < k → g (a + (j : Int)) = none) (hr : g (a + (k : Int)) = some r) : (upto a z).findSome? g = some r := by
  obtain ⟨rest, hrest⟩ := uptoN_pre a (show k + 1 ≤ (z + 1 - a).toNat from hk)
  have : upto a z = uptoN a (k + 1) ++ rest := hrest.symm
  rw [this, uptoN_succ, List.findSome?_append, List.findSome?_append, uptoN_none g a k h]
  simp [hr]
abbrev walkF (Bs Bo Bw : Nat) : Value := .func (.func 80) #[] #[.pointer (some ⟨Bs, 0, none⟩), .pointer (some ⟨Bo, 0, none⟩), .pointer (some ⟨Bw, 0, none⟩)]
structure CE (lw hg sl ch : Int) (ad : Addr) (cp b : Nat) (S : List S48) (Bs Bo Bw : Nat) (w : World) : Prop where
  s : w.heap[Bs]? = some (searchO lw hg sl ch (some ad) S.length cp (.map (some b)))
  f : w.heap[Bw]? = some (.cells #[walkF Bs Bo Bw] 100 (0, 0))
  o : ∃ v, w.heap[Bo]? = some (.cells #[v] 22 (0, 0))
  m : ∃ L, MapOK (restF S sl) w b L
  p : SpansAt w ad S
theorem CE.keep {lw hg sl ch : Int} {ad : Addr} {cp b : Nat} {S : List S48} {Bs Bo Bw : Nat} {w w' : World} (h : CE lw hg sl ch ad cp b S Bs Bo Bw w) (hk : Keep2 b Bo w w') (h1 : Bs ≠ b) (h2 : Bs ≠ Bo) (h3 : Bw ≠ b) (h4 : Bw ≠ Bo) (h5 : ad.block ≠ b) (h6 : ad.block ≠ Bo)
    (ho : ∃ v, w'.heap[Bo]? = some (.cells #[v] 22 (0, 0))) (hm : ∃ L, MapOK (restF S sl) w' b L) : CE lw hg sl ch ad cp b S Bs Bo Bw w' := ⟨hk.blk h.s h1 h2, hk.blk h.f h3 h4, ho, hm, hk.spans h.p h5 h6⟩
theorem CE.below {lw hg sl ch : Int} {ad : Addr} {cp b : Nat} {S : List S48} {Bs Bo Bw : Nat} {w w' : World} (h : CE lw hg sl ch ad cp b S Bs Bo Bw w) (hb : Below w.heap.size w w') : CE lw hg sl ch ad cp b S Bs Bo Bw w' := by
  obtain ⟨v, hv⟩ := h.o
  obtain ⟨L, hL⟩ := h.m
  exact ⟨blk_below h.s hb, blk_below h.f hb, ⟨v, blk_below hv hb⟩, ⟨L, hL.below hb⟩, h.p.below hb⟩
def OutAt (Bo B0 b : Nat) (w : World) (r : List Int) : Prop := ∃ v, w.heap[Bo]? = some (.cells #[v] 22 (0, 0)) ∧ Kd.R (Kd.int .i64) 3 w B0 (fun k => k ≠ b ∧ k ≠ Bo) v r
end Go.Proofs.YtbjimmemcmjpcabGreatDoor.Print
end
section
set_option linter.unusedVariables false
set_option linter.unusedSimpArgs false
set_option linter.unusedSectionVars false
namespace Go.Proofs.YtbjimmemcmjpcabGreatDoor.Print
open Go.RowKit Go.Proofs.YtbjimmemcmjpcabGreatDoorW.PrintWords Go.Proofs.YtbjimmemcmjpcabGreatDoorW.PrintLast Go.Proofs.YtbjimmemcmjpcabGreatDoorW.PrintMore
attribute [local go_sem] Oper.semAt_some
section
variable (lw hg sl ch : Int) (ad : Addr) (cp b : Nat) (S : List S48) (hsl : 0 ≤ sl ∧ sl ≤ 30) (hlen : S.length ≤ 24) (hlo : ∀ i, i < S.length → 0 ≤ lo S i ∧ lo S i ≤ 100) (hhi : ∀ i, i < S.length → -100 ≤ hi S i ∧ hi S i ≤ 30)
def RestAt (d : Nat) : Prop := ∀ (x : Spot) (w : World) (L : List Spot), inBox x → x.1 + d + 1 = S.length → MapOK (restF S sl) w b L → SpansAt w ad S →
  Calls Tryz.prog 82 #[searchV lw hg sl ch (some ad) S.length cp (.map (some b)), spotV x.1 x.2.1 x.2.2] w fun e w' => e = .returned (.int .i64 (restV S sl d x)) ∧ (∃ L', MapOK (restF S sl) w' b L' ∧ ∀ y ∈ L', y ∈ L ∨ x.1 ≤ y.1) ∧ w.grownBy w' (some b)
def foldR (d : Nat) (x : Spot) (pre : List Int) : Int := (pre.map fun n => restV S sl d (x.1 + 1, n, x.2.2) + cst x.2.1 n).foldl min 1000
theorem foldR_snoc (d : Nat) (x : Spot) (pre : List Int) (n : Int) : foldR sl S d x (pre ++ [n]) = min (foldR sl S d x pre) (restV S sl d (x.1 + 1, n, x.2.2) + cst x.2.1 n) := by simp [foldR]
theorem foldR_bd (d : Nat) (x : Spot) (pre : List Int) : 0 ≤ foldR sl S d x pre ∧ foldR sl S d x pre ≤ 1000 := by
  refine ⟨foldl_min_ge _ _ (by omega) fun y hy => ?_, foldl_min_le _ _⟩
  obtain ⟨n, _, rfl⟩ := List.mem_map.1 hy
  have := restV_bd S sl d (x.1 + 1, n, x.2.2)
  have := cst_bd x.2.1 n
  omega
include hsl hlen hlo hhi
set_option maxRecDepth 100000 in
set_option maxHeartbeats 4000000 in
theorem rest_step (d : Nat) (ih : RestAt lw hg sl ch ad cp b S d) : RestAt lw hg sl ch ad cp b S (d + 1) := by
  intro x w L hx hd hM hS
  have hu1 := Tryz.underlying78
  have hu2 := Tryz.underlying35
  have hu3 := Tryz.underlying104
  have hmx : Tryz.prog.follows .mixedOrders = true := by kernel_rfl
  have hF : restF S sl x = restV S sl (d + 1) x := by unfold restF; congr 1; have := hx.1; omega
  obtain ⟨x1, x2, x3⟩ := x
  have hx' := hx
  unfold inBox at hx'
  simp only at hx' hd ⊢
  obtain ⟨k, rfl⟩ := Int.eq_ofNat_of_zero_le hx'.1.1
  have hbw := hM.lt
  have e1 : IntKind.i64.wrap ((S.length : Int) - 1) = (S.length : Int) - 1 := IntWalk.i64_in _ ⟨by omega, by omega⟩
  have e2 : IntKind.i64.wrap ((k : Int) + 1) = (k : Int) + 1 := IntWalk.i64_in _ ⟨by omega, by omega⟩
  have hne : decide ((k : Int) = (S.length : Int) - 1) = false := decide_eq_false (by omega)
  have hne2 : ((k : Int) == (S.length : Int) - 1) = false := by simp; omega
  have HM := Aside0.mk hM
  have HS := Aside0.mk hS
  have HX := Aside0.mk hx
  obtain ⟨res, hres⟩ : ∃ r, restV S sl (d + 1) ((k : Int), x2, x3) = r := ⟨_, rfl⟩
  have HF := Aside0.mk (hF.trans hres)
  rw [hres]
  have n0 : ((w.alloc (searchO lw hg sl ch (some ad) S.length cp (.map (some b)))).alloc (.cells #[.int .i64 (k : Int), .int .i64 x2, .int .i64 x3] 104)).heap[w.heap.size]? = some (searchO lw hg sl ch (some ad) S.length cp (.map (some b))) := blk_alloc (blk_new w _) _
  have n1 := blk_new (w.alloc (searchO lw hg sl ch (some ad) S.length cp (.map (some b)))) (.cells #[.int .i64 (k : Int), .int .i64 x2, .int .i64 x3] 104)
  rw [World.size_alloc] at n1
  have n2 := below_alloc (below_alloc (Below.refl _ w) (searchO lw hg sl ch (some ad) S.length cp (.map (some b)))) (.cells #[.int .i64 (k : Int), .int .i64 x2, .int .i64 x3] 104)
  have HM1 := Aside0.mk (hM.below n2)
  have N2 := Aside0.mk n2
  have N0 := Aside0.mk n0
  have N1 := Aside0.mk n1
  clear n0 n1 n2 hS hM hF hx
  refine (callsIn_wide (n := 9)).1 ?_
  refine callsIn_of_wp_marks Tryz.func82 rfl trivial ?_ rfl
  simp only [Tryz.ntmps82, List.size_toArray, List.length_cons, List.length_nil, Nat.reduceAdd, Nat.reduceSub, Array.replicate_succ, Array.replicate_zero, List.push_toArray, List.append_toArray, List.nil_append, List.cons_append]
  by_cases hin : ((k : Int), x2, x3) ∈ L
  · have hdi : decide (((k : Int), x2, x3) ∈ L) = true := decide_eq_true hin
    have HI := Aside0.mk hin
    have HDI := Aside0.mk hdi
    clear hin hdi
    gi_wp2_with (refine spot_lookup _ rfl _ _ rfl HM1.out rfl ((k : Int), x2, x3) HX.out rfl ?_; rw [HDI.out, if_pos HI.out, HF.out])
    refine ⟨.int .i64 res, by simp [results, Tryz.results82, go_sem], rfl, ⟨L, HM1.out, fun y hy => .inl hy⟩, grown_of_below N2.out _⟩
  · have hdi : decide (((k : Int), x2, x3) ∈ L) = false := decide_eq_false hin
    have HI := Aside0.mk hin
    have HDI := Aside0.mk hdi
    clear hin hdi
    gi_wp2_with (first | (refine spot_lookup _ rfl _ _ rfl HM1.out rfl ((k : Int), x2, x3) HX.out rfl ?_; rw [HDI.out, if_neg HI.out]) | ((first | refine ⟨trivial, fun _ => by omega, ?_⟩ | refine ⟨trivial, ?_⟩ | skip); gi_at_call 98; refine (callsIn_wide.2 (heights_calls lw hg sl ch (some ad) S.length cp (.map (some b)) ((k : Int) + 1) x2 _)).mono ?_; rintro e W4 ⟨rfl, hw4⟩; have HW4 := Aside0.mk hw4; clear hw4))
    rw [show w.heap.size + 1 + 1 = w.heap.size + 2 from rfl]
    have hs4 : W4.heap.size = w.heap.size + 6 := by rw [HW4.out]; simp
    have hb4 : Below w.heap.size w W4 := by rw [HW4.out]; exact below_alloc (below_alloc (below_alloc (below_alloc (below_alloc (below_alloc (Below.refl _ _) _) _) _) _) _) _
    have p0 : W4.heap[w.heap.size]? = some (searchO lw hg sl ch (some ad) S.length cp (.map (some b))) := by rw [HW4.out]; exact blk_alloc (blk_alloc (blk_alloc (blk_alloc N0.out _) _) _) _
    have p1 : W4.heap[w.heap.size + 1]? = some (.cells #[.int .i64 (k : Int), .int .i64 x2, .int .i64 x3] 104 (0, 0)) := by rw [HW4.out]; exact blk_alloc (blk_alloc (blk_alloc (blk_alloc N1.out _) _) _) _
    have p2 : W4.heap[w.heap.size + 2]? = some (.cells #[.int .i64 1000] 3 (0, 0)) := by
      rw [HW4.out]
      have := blk_new ((w.alloc (searchO lw hg sl ch (some ad) S.length cp (.map (some b)))).alloc (.cells #[.int .i64 (k : Int), .int .i64 x2, .int .i64 x3] 104 (0, 0))) (.cells #[.int .i64 1000] 3)
      rw [World.size_alloc, World.size_alloc] at this
      exact blk_alloc (blk_alloc (blk_alloc this _) _) _
    have p3 : W4.heap[w.heap.size + 3]? = some (searchO lw hg sl ch (some ad) S.length cp (.map (some b))) := by
      rw [HW4.out]
      have := blk_new (((w.alloc (searchO lw hg sl ch (some ad) S.length cp (.map (some b)))).alloc (.cells #[.int .i64 (k : Int), .int .i64 x2, .int .i64 x3] 104 (0, 0))).alloc (.cells #[.int .i64 1000] 3)) (searchO lw hg sl ch (some ad) S.length cp (.map (some b)))
      rw [World.size_alloc, World.size_alloc, World.size_alloc] at this
      exact blk_alloc (blk_alloc this _) _
    have p4 : W4.heap[w.heap.size + 4]? = some (.cells #[.int .i64 ((k + 1 : Nat) : Int)] 3 (0, 0)) := by
      rw [HW4.out]
      have := blk_new ((((w.alloc (searchO lw hg sl ch (some ad) S.length cp (.map (some b)))).alloc (.cells #[.int .i64 (k : Int), .int .i64 x2, .int .i64 x3] 104 (0, 0))).alloc (.cells #[.int .i64 1000] 3)).alloc (searchO lw hg sl ch (some ad) S.length cp (.map (some b)))) (.cells #[.int .i64 ((k : Int) + 1)] 3)
      rw [World.size_alloc, World.size_alloc, World.size_alloc, World.size_alloc] at this
      exact blk_alloc this _
    have p5 : W4.heap[w.heap.size + 5]? = some (.cells #[.int .i64 x2] 3 (0, 0)) := by
      rw [HW4.out]
      have := blk_new (((((w.alloc (searchO lw hg sl ch (some ad) S.length cp (.map (some b)))).alloc (.cells #[.int .i64 (k : Int), .int .i64 x2, .int .i64 x3] 104 (0, 0))).alloc (.cells #[.int .i64 1000] 3)).alloc (searchO lw hg sl ch (some ad) S.length cp (.map (some b)))).alloc (.cells #[.int .i64 ((k : Int) + 1)] 3)) (.cells #[.int .i64 x2] 3)
      rw [World.size_alloc, World.size_alloc, World.size_alloc, World.size_alloc, World.size_alloc] at this
      exact this
    have hS4 := HS.out.below hb4
    have hM4 := HM.out.below hb4
    have hp0 : ad.block < w.heap.size := by have := World.block_lt_of_cell? w _ (HS.out 0 (by omega)).1; rwa [add_block] at this
    have hR0 : RI b (searchO lw hg sl ch (some ad) S.length cp (.map (some b))) (.cells #[.int .i64 (k : Int), .int .i64 x2, .int .i64 x3] 104 (0, 0)) ad S sl (k : Int) L w (foldR sl S d ((k : Int), x2, x3) []) W4 := ⟨p0, p1, p2, ⟨L, hM4, fun y hy => .inl hy⟩, hS4, grown_of_below hb4 _⟩
    clear HW4
    refine wpIn_rangeFunc_ownG rfl (by omega) (gf := 108) (lb := #[.pointer (some ⟨w.heap.size + 3, 0, none⟩), .pointer (some ⟨w.heap.size + 4, 0, none⟩), .pointer (some ⟨w.heap.size + 5, 0, none⟩)]) (by simp [go_sem]) trivial (enters_of Tryz.func108 (by kernel_rfl) rfl)
      (heights_stops 8 (w.heap.size + 3) (w.heap.size + 4) (w.heap.size + 5) W4 lw hg sl ch ad cp (.map (some b)) S (k + 1) x2 (by omega) (by omega) hsl (by omega) (hlo _ (by omega)) (hhi _ (by omega)) p3 p4 p5 hS4)
      (fun _ _ => trivial) (fun _ _ _ _ _ _ _ _ => trivial) (Below.refl _ _) (fun _ => rfl)
      (fun pre W => RI b (searchO lw hg sl ch (some ad) S.length cp (.map (some b))) (.cells #[.int .i64 (k : Int), .int .i64 x2, .int .i64 x3] 104 (0, 0)) ad S sl (k : Int) L w (foldR sl S d ((k : Int), x2, x3) (pre.map fun (y : Ht) => y.1)) W) (fun _ _ _ => False)
      (fun s A B row hs hg2 hr => hs.turn hbw hg2 (fun r e => ⟨by have := (hr r e).1; omega, (hr r e).2⟩)) (fun _ _ _ _ _ hs _ _ => hs) hR0
      (fun x => { tmps := #[searchV lw hg sl ch (some ad) S.length cp (.map (some b)), spotV (k : Int) x2 x3, .pointer (some ⟨w.heap.size, 0, none⟩), .pointer (some ⟨w.heap.size + 1, 0, none⟩), .int .i64 0, .int .i64 0, .bool false, .pointer (some ⟨w.heap.size + 2, 0, none⟩), .int .i64 x.1, undef, .pointer (some ⟨w.heap.size + 1, 0, none⟩), .int .i64 (k : Int), .pointer (some ⟨w.heap.size, 4, none⟩), .slice (some ad) S.length cp, .int .i64 (S.length : Int), .int .i64 ((S.length : Int) - 1), .bool false, undef, undef, undef, undef, undef, undef, undef, undef, undef, undef, undef, undef, undef, undef, undef, .tuple #[.int .i64 0, .bool false], .pointer (some ⟨w.heap.size, 5, none⟩), .map (some b), .agg #[.int .i64 (k : Int), .int .i64 x2, .int .i64 x3], .tuple #[.int .i64 0, .bool false], .int .i64 0, .bool false, .bool false, undef, .agg #[.int .i64 lw, .int .i64 hg, .int .i64 sl, .int .i64 ch, .slice (some ad) S.length cp, .map (some b)], .pointer (some ⟨w.heap.size + 1, 0, none⟩), .int .i64 (k : Int), .int .i64 ((k : Int) + 1), .pointer (some ⟨w.heap.size + 1, 1, none⟩), .int .i64 x2, .func (.func 108) #[] #[.pointer (some ⟨w.heap.size + 3, 0, none⟩), .pointer (some ⟨w.heap.size + 4, 0, none⟩), .pointer (some ⟨w.heap.size + 5, 0, none⟩)], .int .i64 x.1, undef, undef, undef, undef, undef, undef, undef, undef, undef, undef, undef, undef, undef, undef, undef, undef, undef, undef, undef, undef, undef, undef], defers := [] }) ?assign ?body ?done ?stop
    case assign =>
      intro l x W K hK
      gi_wp2
      exact hK
    case body =>
      rintro l pre x W hI _
      have c0 := (blk_cell hI.s 0).trans rfl
      have c1 := (blk_cell hI.s 1).trans rfl
      have c2 := (blk_cell hI.s 2).trans rfl
      have c3 := (blk_cell hI.s 3).trans rfl
      have c4 := (blk_cell hI.s 4).trans rfl
      have c5 := (blk_cell hI.s 5).trans rfl
      have d0 := (blk_cell hI.x 0).trans rfl
      have d2 := (blk_cell hI.x 2).trans rfl
      have HI := Aside0.mk hI
      have hd1 : 1 ≤ 9 - 1 - 1 := by omega
      obtain ⟨L1, hM1, hl1⟩ := hI.m
      have HM1 := Aside0.mk hM1
      have HL1 := Aside0.mk hl1
      clear hI hM1 hl1
      have HXB := Aside0.mk x.2
      gi_wp2_with ((first | refine ⟨trivial, fun _ => by omega, ?_⟩ | refine ⟨trivial, ?_⟩ | skip); gi_at_call 82; refine (CallsIn.inRound l (callsIn_wide.2 (ih ((k : Int) + 1, x.1, x3) _ L1 ⟨by simp only; omega, HXB.out, hx'.2.2⟩ (by simp only; omega) HM1.out HI.out.p))).mono ?_; rintro e W5 ⟨rfl, ⟨L2, hM2, hl2⟩, hg2⟩; have HI5 := Aside0.mk (HI.out.call hbw hg2 HL1.out HM1.out hM2 hl2); have HK5 := Aside0.mk (KeepsFrom.of_grownBy (B := W4.heap.size) hg2 (fun j e => by cases e; omega)); clear hM2 hl2 hg2)
      obtain ⟨z, hz⟩ : ∃ z, restV S sl d ((k : Int) + 1, x.1, x3) = z := ⟨_, rfl⟩
      obtain ⟨cc, hcc⟩ : ∃ z, cst x2 x.1 = z := ⟨_, rfl⟩
      obtain ⟨old, hold⟩ : ∃ z, foldR sl S d ((k : Int), x2, x3) (pre.map fun (y : Ht) => y.1) = z := ⟨_, rfl⟩
      have HCC := Aside0.mk hcc
      have hzb := restV_bd S sl d ((k : Int) + 1, x, x3)
      have hcb := cst_bd x2 x.1
      have hob := foldR_bd sl S d ((k : Int), x2, x3) (pre.map fun (y : Ht) => y.1)
      rw [hz] at hzb
      rw [hcc] at hcb
      rw [hold] at hob
      have HI6 := Aside0.mk (hold ▸ HI5.out)
      have HNEW := Aside0.mk (show foldR sl S d ((k : Int), x2, x3) ((pre ++ [x]).map fun (y : Ht) => y.1) = min old (z + cc) by rw [List.map_append]; simp only [List.map_cons, List.map_nil]; rw [foldR_snoc, hold]; simp only; rw [hz, hcc])
      rw [hz]
      clear c0 c1 c2 c3 c4 c5 d0 d2 hz hcc hold
      have o0 := (blk_cell HI6.out.o 0).trans rfl
      have of := blk_frozen HI6.out.o 0
      have d1 := (blk_cell HI6.out.x 1).trans rfl
      have e3 : IntKind.i64.wrap (z + cc) = z + cc := IntWalk.i64_in _ ⟨by omega, by omega⟩
      have m1 : (if z + cc < old then z + cc else old) = min old (z + cc) := by split <;> omega
      have kf : KeepsFrom W4.heap.size W (W5.setCell ⟨w.heap.size + 2, 0, none⟩ (.int .i64 (min old (z + cc)))).drew := HK5.out.trans (((KeepsOthers.setCell _ _ _).from _).trans ((KeepsOthers.drew _).from _))
      have ri : RI b (searchO lw hg sl ch (some ad) S.length cp (.map (some b))) (.cells #[.int .i64 (k : Int), .int .i64 x2, .int .i64 x3] 104 (0, 0)) ad S sl (k : Int) L w (foldR sl S d ((k : Int), x2, x3) ((pre ++ [x]).map fun (y : Ht) => y.1)) (W5.setCell ⟨w.heap.size + 2, 0, none⟩ (.int .i64 (min old (z + cc)))).drew := by rw [HNEW.out]; exact ((HI6.out.put hbw hp0 _).below hbw (below_drew (Below.refl _ _)))
      clear e1 e2 hne hne2 HF HX HI HDI N0 N1 N2 HM1 HL1 HXB hS4 hM4 hR0 p0 p1 p2 p3 p4 p5 hlo hhi ih HM HS hres hu1 hu2 hu3
      gi_region_with_o ((first | refine ⟨trivial, fun _ => by omega, ?_⟩ | refine ⟨trivial, ?_⟩ | skip); gi_at_call 81; refine (CallsIn.inRound l (callsIn_wide.2 (cost_calls x2 x.1 _))).mono ?_; rintro e W7 ⟨rfl, rfl⟩; rw [HCC.out])
      all_goals ((try rw [m1]); first | exact And.intro kf (And.intro trivial ri) | (gi_wp2; exact And.intro (by rw [← hs4]; exact kf) (And.intro trivial ri)))
    case done =>
      rintro D ys W hD hys hI hK
      rw [hys] at hI
      have hv : foldR sl S d ((k : Int), x2, x3) (hts S sl (k + 1) x2) = res := by rw [← hres]; rfl
      rw [hv] at hI
      have c5 := (blk_cell hI.s 5).trans rfl
      have d0 := (blk_cell hI.x 0).trans rfl
      have d1 := (blk_cell hI.x 1).trans rfl
      have d2 := (blk_cell hI.x 2).trans rfl
      have o0 := (blk_cell hI.o 0).trans rfl
      obtain ⟨L1, hM1, hl1⟩ := hI.m
      have hnew : ((k : Int), x2, x3) ∉ L1 := fun hc => by
        rcases hl1 _ hc with h1 | h1
        · exact HI.out h1
        · simp only at h1; omega
      have hrb := restV_bd S sl (d + 1) ((k : Int), x2, x3)
      rw [hres] at hrb
      have HR := Aside0.mk hI
      have HM1 := Aside0.mk hM1
      have HL1 := Aside0.mk hl1
      have HK := Aside0.mk hK
      have HWF := Aside0.mk (wf_small (n := res) (by omega))
      clear hI hM1 hl1 hK hv hys
      gi_wp2_with (refine spot_update _ rfl _ _ _ rfl HM1.out rfl ((k : Int), x2, x3) HX.out hnew rfl (by rw [HF.out]; rfl) (by rw [HF.out]; exact HWF.out) ?_; intro W8 hM8 hg8; have HM8 := Aside0.mk hM8; have HG8 := Aside0.mk hg8; have o8 : W8.cell? ⟨w.heap.size + 2, 0, none⟩ = some (.int .i64 res) := (blk_cell (blk_grown HR.out.o hg8 (by simp; omega)) 0).trans rfl; clear hM8 hg8)
      have hlt := (Array.getElem?_eq_some_iff.1 HK.out).1
      have hK' := (HG8.out.block D hlt (by simp; omega)).trans HK.out
      refine ⟨by simp, .inl ⟨_, _, rfl, run_takeDeferred hK', ?_⟩⟩
      refine ⟨.int .i64 res, by simp [results, Tryz.results82, go_sem], rfl, ⟨((k : Int), x2, x3) :: L1, HM8.out.kept (grownBy_putObj' W8 D _) (by simp; omega), fun y hy => ?_⟩, grown_step (grown_step HR.out.g HG8.out (fun r e => .inl (by cases e; rfl))) (grownBy_putObj' _ D _) (fun r e => .inr (by cases e; omega))⟩
      rcases List.mem_cons.1 hy with rfl | hy
      · exact .inr (Int.le_refl _)
      · exact (HL1.out y hy).imp_right (fun h => by omega)
    case stop =>
      rintro D c pre W hD _ hI _
      exact hI.elim
theorem rest_at : ∀ d, RestAt lw hg sl ch ad cp b S d
  | 0 => fun x w L hx hd hM hS => (rest_zero lw hg sl ch ad cp b S hsl hlen hlo hhi x w hx (by simpa using hd) hS).mono fun e w' ⟨he, hb⟩ => ⟨he, ⟨L, hM.below hb, fun y hy => .inl hy⟩, grown_of_below hb _⟩
  | d + 1 => rest_step lw hg sl ch ad cp b S hsl hlen hlo hhi d (rest_at d)
end
end Go.Proofs.YtbjimmemcmjpcabGreatDoor.Print
end
section
set_option linter.unusedVariables false
set_option linter.unusedSimpArgs false
set_option linter.unusedSectionVars false
namespace Go.Proofs.YtbjimmemcmjpcabGreatDoor.Print
open Go.RowKit Go.Proofs.YtbjimmemcmjpcabGreatDoorW.PrintWords Go.Proofs.YtbjimmemcmjpcabGreatDoorW.PrintLast Go.Proofs.YtbjimmemcmjpcabGreatDoorW.PrintMore
section
variable (lw hg sl ch : Int) (ad : Addr) (cp b : Nat) (S : List S48) (Bs Bo Bw B0 : Nat)
def WalkAt (d : Nat) : Prop := ∀ (now : List Int) (left : Int) (v : Value) (w : World), now.length + d = S.length → (∀ x ∈ now, 0 ≤ x ∧ x ≤ 30) → (-1000 + d ≤ left ∧ left ≤ 1000) →
  CE lw hg sl ch ad cp b S Bs Bo Bw w → B0 ≤ w.heap.size → Kd.R (Kd.int .i64) 3 w B0 (fun k => k ≠ b ∧ k ≠ Bo) v now → (now = [] → v = .slice none 0 0) →
  Calls Tryz.prog 80 #[v, .int .i64 left, .pointer (some ⟨Bs, 0, none⟩), .pointer (some ⟨Bo, 0, none⟩), .pointer (some ⟨Bw, 0, none⟩)] w fun e w' =>
    Keep2 b Bo w w' ∧ CE lw hg sl ch ad cp b S Bs Bo Bw w' ∧ (∀ r, camW S sl d now left = some r → e = .returned (.bool true) ∧ OutAt Bo B0 b w' r) ∧ (camW S sl d now left = none → e = .returned (.bool false) ∧ w'.heap[Bo]? = w.heap[Bo]?)
variable (hsl : 0 ≤ sl ∧ sl ≤ 30) (hlen : S.length ≤ 24) (hlo : ∀ i, i < S.length → 0 ≤ lo S i ∧ lo S i ≤ 100) (hhi : ∀ i, i < S.length → -100 ≤ hi S i ∧ hi S i ≤ 30)
variable (h1 : Bs ≠ b) (h2 : Bs ≠ Bo) (h3 : Bw ≠ b) (h4 : Bw ≠ Bo) (h5 : ad.block ≠ b) (h6 : ad.block ≠ Bo) (h7 : Bo ≠ b)
include h1 h2 h3 h4 h5 h6 h7
set_option maxRecDepth 100000 in
set_option maxHeartbeats 4000000 in
theorem walk_zero : WalkAt lw hg sl ch ad cp b S Bs Bo Bw B0 0 := by
  intro now left v w hd hnow hleft hce hB hR hnil
  obtain ⟨A, c, rfl, hc, hC⟩ := Kd.R_reads hR
  have hu1 := Tryz.underlying78
  have hu2 := Tryz.underlying35
  have hl : now.length = S.length := by omega
  have HR := Aside0.mk hR
  have HCE := Aside0.mk hce
  obtain ⟨v0, hv0⟩ := hce.o
  have c4 := (blk_cell hce.s 4).trans rfl
  have co := (blk_cell hv0 0).trans rfl
  have fo := blk_frozen hv0 0
  have hlt := blk_lt hv0
  have HO := Aside0.mk hv0
  clear hce hR hC hv0
  rw [hl] at HR ⊢
  go_enter Tryz.func80, Tryz.ntmps80
  go_wp2
  go_ret
  have k1 := (Keep2.refl b Bo w).set 0 (.slice A S.length c)
  have q1 := blk_put HO.out 0 (.slice A S.length c) (cs' := #[.slice A S.length c]) (by simp)
  obtain ⟨L, hL⟩ := HCE.out.m
  refine ⟨k1, HCE.out.keep k1 h1 h2 h3 h4 h5 h6 ⟨_, q1⟩ ⟨L, hL.same (Below.heap_setCell _ _ _ _ (fun e => h7 e.symm))⟩, fun r hr => ?_, fun hr => by simp [camW] at hr⟩
  obtain rfl : now = r := by simpa [camW] using hr
  refine ⟨rfl, _, q1, ?_⟩
  exact k1.row HR.out
include hsl hlen hlo hhi
set_option maxRecDepth 100000 in
set_option maxHeartbeats 4000000 in
theorem walk_step0 (d : Nat) (ih : WalkAt lw hg sl ch ad cp b S Bs Bo Bw B0 d) (now : List Int) (left : Int) (w : World) (hnow0 : now = []) (hd : now.length + (d + 1) = S.length) (hnow : ∀ x ∈ now, 0 ≤ x ∧ x ≤ 30) (hleft : -1000 + (d + 1 : Nat) ≤ left ∧ left ≤ 1000)
    (hce : CE lw hg sl ch ad cp b S Bs Bo Bw w) (hB : B0 ≤ w.heap.size) (hR : Kd.R (Kd.int .i64) 3 w B0 (fun k => k ≠ b ∧ k ≠ Bo) (.slice none 0 0) now) :
    Calls Tryz.prog 80 #[.slice none 0 0, .int .i64 left, .pointer (some ⟨Bs, 0, none⟩), .pointer (some ⟨Bo, 0, none⟩), .pointer (some ⟨Bw, 0, none⟩)] w fun e w' =>
    Keep2 b Bo w w' ∧ CE lw hg sl ch ad cp b S Bs Bo Bw w' ∧ (∀ r, camW S sl (d + 1) now left = some r → e = .returned (.bool true) ∧ OutAt Bo B0 b w' r) ∧ (camW S sl (d + 1) now left = none → e = .returned (.bool false) ∧ w'.heap[Bo]? = w.heap[Bo]?) := by
  have hu1 := Tryz.underlying78
  have hu2 := Tryz.underlying35
  have hu3 := Tryz.underlying48
  have hmx : Tryz.prog.follows .mixedOrders = true := by kernel_rfl
  have hlt0 : now.length < S.length := by omega
  obtain ⟨x0, x1⟩ := hce.p now.length hlt0
  obtain ⟨la, hla⟩ : ∃ x, lo S now.length = x := ⟨_, rfl⟩
  obtain ⟨ha, hha⟩ : ∃ x, hi S now.length = x := ⟨_, rfl⟩
  have bl := hlo _ hlt0
  have bh := hhi _ hlt0
  rw [hla] at x0 bl
  rw [hha] at x1 bh
  have HR := Aside0.mk hR
  have HCE := Aside0.mk hce
  have HNOW := Aside0.mk hnow
  have c4 := (blk_cell hce.s 4).trans rfl
  have c2 := (blk_cell hce.s 2).trans rfl
  have hlS : ((now.length : Int) == (S.length : Int)) = false := by simp; omega
  have hlS2 : decide ((now.length : Int) = (S.length : Int)) = false := decide_eq_false (by omega)
  have hi0 : (now.length : Int) < (S.length : Int) := by omega
  have hi1 : (0 : Int) ≤ (now.length : Int) := by omega
  subst hnow0
  clear hce hR hnow
  simp only [List.length_nil] at *
  have hls0 : ((0 : Int) == (S.length : Int)) = false := by simp; omega
  have x0a : w.cell? ad = some (.int .i64 la) := x0
  have x1a : w.cell? ⟨ad.block, ad.off + 1, none⟩ = some (.int .i64 ha) := x1
  go_enter Tryz.func80, Tryz.ntmps80
  go_wp2
  go_quiet (fail)
  have b1 : Below w.heap.size w (w.drewN nq) := pw_below_drewN (Below.refl _ _) _
  have HCE1 := Aside0.mk (HCE.out.below b1)
  have HK1 := Aside0.mk (Keep2.of_below (b := b) (o := Bo) b1)
  have HBo := Aside0.mk (show (w.drewN nq).heap[Bo]? = w.heap[Bo]? from rfl)
  clear x0 x1 x0a x1a c4 c2 b1
  generalize w.drewN nq = W1 at HCE1 HK1 HBo ⊢
  go_wp2
  go_loopg [11] ((ha + 1 - la).toNat) (fun q v wr => ∃ k : Nat, v = .int .i64 (la + (k : Int)) ∧ Aside0 (k ≤ (ha + 1 - la).toNat ∧ q = (ha + 1 - la).toNat - k) ∧ Aside0 (Keep2 b Bo w wr) ∧ Aside0 (CE lw hg sl ch ad cp b S Bs Bo Bw wr) ∧ Aside0 (wr.heap[Bo]? = w.heap[Bo]?) ∧ Aside0 (∀ j : Nat, j < k → gW S sl d [] left (la + (j : Int)) = none))
  case atStart => exact ⟨0, by simp, ⟨by omega, by omega⟩, HK1, HCE1, HBo, ⟨fun j hj => by omega⟩⟩
  case round =>
    clear HCE1 HK1 HBo
    obtain ⟨k, rfl, HK, HKE, HCE1, HBo, HN⟩ := hrel
    by_cases hle : la + (k : Int) ≤ ha
    · have hled : decide (la + (k : Int) ≤ ha) = true := decide_eq_true hle
      have hk : k < (ha + 1 - la).toNat := by omega
      have e3 : IntKind.i64.wrap (la + (k : Int) + 1) = la + (k : Int) + 1 := IntWalk.i64_in _ ⟨by omega, by omega⟩
      obtain ⟨n, hn⟩ : ∃ n, la + (k : Int) = n := ⟨_, rfl⟩
      have hnb : 0 ≤ n ∧ n ≤ 30 := by omega
      rw [hn] at hled e3 ⊢
      have HNN := Aside0.mk hn
      have c0 := (blk_cell HCE1.out.s 0).trans rfl
      have c1 := (blk_cell HCE1.out.s 1).trans rfl
      have c2 := (blk_cell HCE1.out.s 2).trans rfl
      have c3 := (blk_cell HCE1.out.s 3).trans rfl
      have c4 := (blk_cell HCE1.out.s 4).trans rfl
      have c5 := (blk_cell HCE1.out.s 5).trans rfl
      obtain ⟨L, hL⟩ := HCE1.out.m
      have HL := Aside0.mk hL
      clear hL hn
      have HRA := Aside0.mk (rest_at lw hg sl ch ad cp b S hsl hlen hlo hhi d (0, n, n) wr L ⟨by simp only; omega, hnb, hnb⟩ (by simp only; omega) HL.out HCE1.out.p)
      obtain ⟨z, hz⟩ : ∃ z, restV S sl d (0, n, n) = z := ⟨_, rfl⟩
      have hzb := restV_bd S sl d (0, n, n)
      rw [hz] at hzb HRA
      have e4 : IntKind.i64.wrap z = z := IntWalk.i64_in _ ⟨by omega, by omega⟩
      have e5 : IntKind.i64.wrap left = left := IntWalk.i64_in _ ⟨by omega, by omega⟩
      have hg0 : gW S sl d [] left n = if left < z then none else camW S sl d [n] left := by unfold gW; simp [firstH, spentH, hz]
      have HG0 := Aside0.mk hg0
      clear hg0 hz
      by_cases hgt : left < z
      · have hgd : decide (left < z) = true := decide_eq_true hgt
        go_wp2_with (go_at_call 82; refine HRA.out.mono ?_; rintro e W5 ⟨rfl, ⟨L2, hM2, _⟩, hg2⟩; have HM2 := Aside0.mk hM2; have HK5 := Aside0.mk (Keep2.of_grown (o := Bo) hg2); have HBo5 := Aside0.mk ((hg2.block Bo (by obtain ⟨_, hv⟩ := HCE1.out.o; exact blk_lt hv) (by simpa using h7)).trans HBo.out); clear hM2 hg2)
        have HKE5 := Aside0.mk (HKE.out.trans HK5.out)
        have HCE5 := Aside0.mk (HCE1.out.keep HK5.out h1 h2 h3 h4 h5 h6 (by obtain ⟨v, hv⟩ := HCE1.out.o; exact ⟨v, by rw [HBo5.out, ← HBo.out]; exact hv⟩) ⟨L2, HM2.out⟩)
        go_roundg ((ha + 1 - la).toNat - (k + 1))
        case measure => have := HK.out; omega
        case rel => exact ⟨k + 1, by simp [← HNN.out]; omega, ⟨by omega, rfl⟩, HKE5, HCE5, HBo5, ⟨fun j hj => by
          by_cases e : j = k
          · subst e; rw [HNN.out, HG0.out, if_pos hgt]
          · exact HN.out j (by omega)⟩⟩
      · have hgd : decide (left < z) = false := decide_eq_false hgt
        go_wp2_with (go_at_call 82; refine HRA.out.mono ?_; rintro e W5 ⟨rfl, ⟨L2, hM2, _⟩, hg2⟩; have HM2 := Aside0.mk hM2; have HK5 := Aside0.mk (Keep2.of_grown (o := Bo) hg2); have HBo5 := Aside0.mk ((hg2.block Bo (by obtain ⟨_, hv⟩ := HCE1.out.o; exact blk_lt hv) (by simpa using h7)).trans HBo.out); clear hM2 hg2)
        have HKE5 := Aside0.mk (HKE.out.trans HK5.out)
        have HCE5 := Aside0.mk (HCE1.out.keep HK5.out h1 h2 h3 h4 h5 h6 (by obtain ⟨v, hv⟩ := HCE1.out.o; exact ⟨v, by rw [HBo5.out, ← HBo.out]; exact hv⟩) ⟨L2, HM2.out⟩)
        clear HCE1 HKE HBo HK5 HM2 HRA c0 c1 c2 c3 c4 c5 HL
        refine start_ (n := 10) (S := fun w' => w'.cell? ⟨Bw, 0, none⟩ = some (walkF Bs Bo Bw)) (ds := [9]) #[false, false, false, false, false, false, false, false, false, false] (by kernel_rfl) rfl rfl ((blk_cell HCE5.out.f 0).trans rfl) (fun hHeld => ?_)
        have HCE6 := Aside0.mk (HCE5.out.below (below_drew (Below.refl _ _)))
        have HKE6 := Aside0.mk (HKE5.out.trans (Keep2.of_below (b := b) (o := Bo) (below_drew (Below.refl _ _))))
        have HBo6 := Aside0.mk (show W5.drew.heap[Bo]? = w.heap[Bo]? from HBo5.out)
        clear HCE5 HKE5 HBo5
        generalize W5.drew = W6 at HCE6 HKE6 HBo6 hHeld ⊢
        refine pure_ (i := 1) (N := some 88) (v := ?_) (a' := ?_) #[false, true, false, false, false, false, false, false, false, false] rfl rfl (by kernel_rfl) (fun _ _ _ h => h) (Or.inl ⟨by rfl, ?_⟩) ?_ ?_
        rotate_left
        · intro w'
          go_simp
          with_reducible rfl
        rotate_left
        · simp only [Act.put, List.setIfInBounds_toArray, List.set_cons_zero, List.set_cons_succ, i64_w, i32_w]
          rfl
        refine pure_ (i := 3) (N := some 90) (v := ?_) (a' := ?_) #[false, true, false, true, false, false, false, false, false, false] rfl rfl (by kernel_rfl) (fun _ _ _ h => h) (Or.inl ⟨by rfl, ?_⟩) ?_ ?_
        rotate_left
        · intro w'
          go_simp
          with_reducible rfl
        rotate_left
        · simp only [Act.put, List.setIfInBounds_toArray, List.set_cons_zero, List.set_cons_succ, i64_w, i32_w]
          rfl
        refine pure_ (i := 6) (N := some 93) (v := ?_) (a' := ?_) #[false, true, false, true, false, false, true, false, false, false] rfl rfl (by kernel_rfl) (fun _ _ _ h => h) (Or.inl ⟨by rfl, ?_⟩) ?_ ?_
        rotate_left
        · intro w'
          go_simp
          with_reducible rfl
        rotate_left
        · simp only [Act.put, List.setIfInBounds_toArray, List.set_cons_zero, List.set_cons_succ, i64_w, i32_w]
          rfl
        refine pure_ (i := 7) (N := some 94) (v := ?_) (a' := ?_) #[false, true, false, true, false, false, true, true, false, false] rfl rfl (by kernel_rfl) (fun _ _ _ h => h) (Or.inl ⟨by rfl, ?_⟩) ?_ ?_
        rotate_left
        · intro w'
          go_simp
          with_reducible rfl
        rotate_left
        · simp only [Act.put, List.setIfInBounds_toArray, List.set_cons_zero, List.set_cons_succ, i64_w, i32_w]
          rfl
        refine pure_ (i := 8) (N := some 95) (v := ?_) (a' := ?_) #[false, true, false, true, false, false, true, true, true, false] rfl rfl (by kernel_rfl) (fun _ _ _ h => h) (Or.inl ⟨by rfl, ?_⟩) ?_ ?_
        rotate_left
        · intro w'
          go_simp
          with_reducible rfl
        rotate_left
        · simp only [Act.put, List.setIfInBounds_toArray, List.set_cons_zero, List.set_cons_succ, i64_w, i32_w]
          rfl
        refine take_ (i := 0) (N := some 87) (v := ?_) (a' := ?_) #[true, true, false, true, false, false, true, true, true, false] rfl rfl (by kernel_rfl) (fun _ _ _ h => h) (Or.inl ⟨by rfl, ?_⟩) hHeld ?_ ?_
        rotate_left
        · intro w' s0
          go_simp
          with_reducible rfl
        rotate_left
        · simp only [Act.put, List.setIfInBounds_toArray, List.set_cons_zero, List.set_cons_succ, i64_w, i32_w]
          rfl
        refine two_ (i := 2) (j := 4) (Ni := some 89) (Nj := some 91) #[true, true, true, true, false, false, true, true, true, false] #[true, true, false, true, true, false, true, true, true, false] rfl rfl rfl rfl (by kernel_rfl) (by decide) (by decide) (fun K hK => ?_) (fun K hK => ?_)
        · refine goes_ Tryz.func83 (by kernel_rfl) rfl #[.slice none 0 0] (by rfl) rfl rfl (by (try simp only [List.map_toArray, List.map_cons, List.map_nil]); first | done | rfl) ?_
          have hrow6 := HKE6.out.row HR.out
          refine (clone_calls none 0 ([] : List Int) _ ⟨rfl, by simp, fun h => absurd h (by simp)⟩ (by simp) (by simp)).mono ?_
          rintro e w9 ⟨v9, rfl, ho9, hb9⟩
          have HO9 := Aside0.mk ho9
          have HB9 := Aside0.mk hb9
          have HCE9 := Aside0.mk (HCE6.out.below hb9)
          clear ho9 hb9 hrow6
          refine ⟨v9, rfl, hK.out _ _ ((blk_cell HCE9.out.f 0).trans rfl) (fun hHeld => ?_)⟩
          clear hK K
          refine norm_ (a' := ?_) ?_ ?_
          rotate_left
          · show Act.put _ (some 89) _ = _
            simp only [Act.put, List.setIfInBounds_toArray, List.set_cons_zero, List.set_cons_succ, i64_w, i32_w]
            rfl
          refine one_ (i := 4) (N := some 91) #[true, true, true, true, true, false, true, true, true, false] rfl rfl (by kernel_rfl) (by decide) (fun K hK => ?_)
          refine value_ (w1 := ?_) (v := ?_) (by rfl) rfl ?_ ?_
          rotate_left 2
          · go_simp
            constructor
            · rfl
            · rfl
          refine hK.out _ _ ((blk_cell (HCE9.out.below (below_alloc (Below.refl _ _) _)).f 0).trans rfl) (fun hHeld => ?_)
          clear hK K
          refine norm_ (a' := ?_) ?_ ?_
          rotate_left
          · show Act.put _ (some 91) _ = _
            simp only [Act.put, List.setIfInBounds_toArray, List.set_cons_zero, List.set_cons_succ, i64_w, i32_w]
            rfl
          refine one_ (i := 5) (N := some 92) #[true, true, true, true, true, true, true, true, true, false] rfl rfl (by kernel_rfl) (by decide) (fun K hK => ?_)
          refine Kd.R_append_step (Kd.int .i64) (w0 := W6) W6.heap.size (by rfl) (.tmp 89) (.tmp 91) 22 3 (.int .i64 0) 8 rfl Tryz.underlying22 info3 rfl (by decide) (by omega) v9 ([] : List Int) n [.int .i64 n] (fun _ => True) (fun _ => False) rfl rfl ?aP (fun _ hk => hk.elim) ?aF ?aO ?aB ?aS ?aL ?_
          (case aP => exact rfl)
          (case aF => exact (fun _ _ => trivial))
          (case aO => exact HO9.out)
          (case aB => exact HB9.out)
          (case aS => exact HB9.out.size)
          (case aL => simp)
          intro v10 w10 ho hb hgr hat
          have hb10 := hb
          have HCE10 := Aside0.mk (HCE6.out.below hb10)
          have HKE10 := Aside0.mk (HKE6.out.trans (Keep2.of_below (b := b) (o := Bo) hb10))
          have HBo10 := Aside0.mk ((hb10.block Bo (by obtain ⟨_, hv⟩ := HCE6.out.o; exact blk_lt hv)).trans HBo6.out)
          have HR10 := Aside0.mk (row_new (b := b) (o := Bo) (B0 := B0) ho (by obtain ⟨_, hm⟩ := HCE6.out.m; exact hm.lt) (by obtain ⟨_, hv⟩ := HCE6.out.o; exact blk_lt hv) (Nat.le_trans hB HKE6.out.size))
          clear ho hb hgr hat hb10
          refine hK.out _ _ ((blk_cell HCE10.out.f 0).trans rfl) (fun hHeld => ?_)
          clear hK K
          refine norm_ (a' := ?_) ?_ ?_
          rotate_left
          · show Act.put _ (some 92) _ = _
            simp only [Act.put, List.setIfInBounds_toArray, List.set_cons_zero, List.set_cons_succ, i64_w, i32_w]
            rfl
          refine last_ (i := 9) (N := some 96) #[true, true, true, true, true, true, true, true, true, true] rfl rfl (by kernel_rfl) (by decide) (fun K hK => ?_)
          refine call_ 80 #[v10, .int .i64 (left), .pointer (some ⟨Bs, 0, none⟩), .pointer (some ⟨Bo, 0, none⟩), .pointer (some ⟨Bw, 0, none⟩)] (by rfl) rfl ?_ ?_
          · have he := fun args w => enters_ (P := Tryz.prog) Tryz.func80 (by kernel_rfl) rfl args w
            go_simp
            try simp [he]
          refine (ih (([] : List Int) ++ [n]) (left) v10 w10 (by simp; omega) (fun x hx => by simp at hx; rw [hx]; exact hnb) (by omega) HCE10.out (Nat.le_trans hB HKE10.out.size) HR10.out (by simp)).mono ?_
          rintro e w11 ⟨hk11, hce11, hso, hno⟩
          have HKE11 := Aside0.mk (HKE10.out.trans hk11)
          have HCE11 := Aside0.mk hce11
          clear hk11 hce11
          cases hcam : camW S sl d (([] : List Int) ++ [n]) (left) with
          | some r =>
            obtain ⟨rfl, hout⟩ := hso r hcam
            have HOUT := Aside0.mk hout
            have HCAM := Aside0.mk hcam
            clear hso hno hout hcam
            refine ⟨_, rfl, hK.out _ _ ?_⟩
            clear hK K
            refine norm_ (a' := ?_) ?_ ?_
            rotate_left
            · show Act.put _ (some 96) _ = _
              simp only [Act.put, List.setIfInBounds_toArray, List.set_cons_zero, List.set_cons_succ, i64_w, i32_w]
              rfl
            refine done_ (by kernel_rfl) ?_
            go_wp2
            go_ret
            refine ⟨HKE11.out, HCE11.out, fun r2 hr2 => ?_, fun hr2 => ?_⟩
            · rw [camW_succ, show lowH S sl [] = la from hla, show highH S sl [] = ha from hha, upto_some _ (k := k) (by omega) HN.out (r := r) (by rw [HNN.out, HG0.out, if_neg (by omega)]; exact HCAM.out)] at hr2
              cases hr2
              exact ⟨rfl, HOUT.out⟩
            · rw [camW_succ, show lowH S sl [] = la from hla, show highH S sl [] = ha from hha, upto_some _ (k := k) (by omega) HN.out (r := r) (by rw [HNN.out, HG0.out, if_neg (by omega)]; exact HCAM.out)] at hr2
              cases hr2
          | none =>
            obtain ⟨rfl, hout⟩ := hno hcam
            have HBo11 := Aside0.mk (hout.trans HBo10.out)
            have HCAM := Aside0.mk hcam
            clear hso hno hout hcam
            refine ⟨_, rfl, hK.out _ _ ?_⟩
            clear hK K
            refine norm_ (a' := ?_) ?_ ?_
            rotate_left
            · show Act.put _ (some 96) _ = _
              simp only [Act.put, List.setIfInBounds_toArray, List.set_cons_zero, List.set_cons_succ, i64_w, i32_w]
              rfl
            refine done_ (by kernel_rfl) ?_
            go_wp2
            go_roundg ((ha + 1 - la).toNat - (k + 1))
            case measure => have := HK.out; omega
            case rel => exact ⟨k + 1, by simp [← HNN.out]; omega, ⟨by omega, rfl⟩, HKE11, HCE11, HBo11, ⟨fun j hj => by
              by_cases e : j = k
              · subst e; rw [HNN.out, HG0.out, if_neg (by omega)]; exact HCAM.out
              · exact HN.out j (by omega)⟩⟩
        · refine value_ (w1 := ?_) (v := ?_) (by rfl) rfl ?_ ?_
          rotate_left 2
          · go_simp
            constructor
            · rfl
            · rfl
          have HCE7 := Aside0.mk (HCE6.out.below (below_alloc (Below.refl _ _) (.cells #[.int .i64 n] 3)))
          have HKE7 := Aside0.mk (HKE6.out.trans (Keep2.of_below (b := b) (o := Bo) (below_alloc (Below.refl _ _) (.cells #[.int .i64 n] 3))))
          have hnew := Aside0.mk (blk_new W6 (.cells #[.int .i64 n] 3))
          have HBW := Aside0.mk (below_alloc (Below.refl _ W6) (.cells #[.int .i64 n] 3))
          refine hK.out _ _ ((blk_cell HCE7.out.f 0).trans rfl) (fun hHeld => ?_)
          clear hK K
          refine norm_ (a' := ?_) ?_ ?_
          rotate_left
          · show Act.put _ (some 91) _ = _
            simp only [Act.put, List.setIfInBounds_toArray, List.set_cons_zero, List.set_cons_succ, i64_w, i32_w]
            rfl
          generalize W6.alloc (.cells #[.int .i64 n] 3) = W7 at HCE7 HKE7 hnew HBW hHeld ⊢
          refine one_ (i := 2) (N := some 89) #[true, true, true, true, true, false, true, true, true, false] rfl rfl (by kernel_rfl) (by decide) (fun K hK => ?_)
          refine goes_ Tryz.func83 (by kernel_rfl) rfl #[.slice none 0 0] (by rfl) rfl rfl (by (try simp only [List.map_toArray, List.map_cons, List.map_nil]); first | done | rfl) ?_
          have hrow6 := HKE7.out.row HR.out
          refine (clone_calls none 0 ([] : List Int) _ ⟨rfl, by simp, fun h => absurd h (by simp)⟩ (by simp) (by simp)).mono ?_
          rintro e w9 ⟨v9, rfl, ho9, hb9⟩
          have HO9 := Aside0.mk ho9
          have HB9 := Aside0.mk hb9
          have HCE9 := Aside0.mk (HCE7.out.below hb9)
          have hnew9 := blk_below hnew.out hb9
          clear ho9 hb9 hrow6
          refine ⟨v9, rfl, hK.out _ _ ((blk_cell HCE9.out.f 0).trans rfl) (fun hHeld => ?_)⟩
          clear hK K
          refine norm_ (a' := ?_) ?_ ?_
          rotate_left
          · show Act.put _ (some 89) _ = _
            simp only [Act.put, List.setIfInBounds_toArray, List.set_cons_zero, List.set_cons_succ, i64_w, i32_w]
            rfl
          refine one_ (i := 5) (N := some 92) #[true, true, true, true, true, true, true, true, true, false] rfl rfl (by kernel_rfl) (by decide) (fun K hK => ?_)
          refine Kd.R_append_rows_step (Kd.int .i64) (Rr := fun x cs => cs = [.int .i64 x]) (w0 := W7) W7.heap.size (by rfl) (.tmp 89) (.tmp 91) 22 3 (.int .i64 0) 8 rfl Tryz.underlying22 info3 rfl (by decide) (by omega) v9 ([] : List Int) [n] (some ⟨W6.heap.size, 0, none⟩) 1 1 (fun _ => True) (fun _ => False) rfl rfl ?aO ?aR (fun _ _ h => h) (fun _ hk => hk.elim) ?aF ?aB ?aS ?aL ?_
          (case aR => exact ⟨rfl, by omega, fun _ => ⟨_, rfl, fun j p hj => by
            have hj0 : j = 0 := by have := (List.getElem?_eq_some_iff.1 hj).1; simp at this; exact this
            subst hj0
            obtain rfl : n = p := by simpa using hj
            refine ⟨[.int .i64 n], rfl, rfl, fun i u hu => ?_⟩
            have hi0 : i = 0 := by have := (List.getElem?_eq_some_iff.1 hu).1; simp at this; exact this
            subst hi0
            obtain rfl : Value.int .i64 n = u := by simpa using hu
            exact (blk_cell hnew9 0).trans rfl⟩⟩)
          (case aF => exact (fun _ _ => trivial))
          (case aO => exact HO9.out)
          (case aB => exact HB9.out)
          (case aS => exact HB9.out.size)
          (case aL => simp)
          intro v10 w10 ho hb hgr hat
          have hb10 := HBW.out.trans (hb.mono HBW.out.size)
          have HCE10 := Aside0.mk (HCE6.out.below hb10)
          have HKE10 := Aside0.mk (HKE6.out.trans (Keep2.of_below (b := b) (o := Bo) hb10))
          have HBo10 := Aside0.mk ((hb10.block Bo (by obtain ⟨_, hv⟩ := HCE6.out.o; exact blk_lt hv)).trans HBo6.out)
          have HR10 := Aside0.mk (row_new (b := b) (o := Bo) (B0 := B0) ho (by obtain ⟨_, hm⟩ := HCE7.out.m; exact hm.lt) (by obtain ⟨_, hv⟩ := HCE7.out.o; exact blk_lt hv) (Nat.le_trans hB HKE7.out.size))
          clear ho hb hgr hat hb10
          refine hK.out _ _ ((blk_cell HCE10.out.f 0).trans rfl) (fun hHeld => ?_)
          clear hK K
          refine norm_ (a' := ?_) ?_ ?_
          rotate_left
          · show Act.put _ (some 92) _ = _
            simp only [Act.put, List.setIfInBounds_toArray, List.set_cons_zero, List.set_cons_succ, i64_w, i32_w]
            rfl
          refine last_ (i := 9) (N := some 96) #[true, true, true, true, true, true, true, true, true, true] rfl rfl (by kernel_rfl) (by decide) (fun K hK => ?_)
          refine call_ 80 #[v10, .int .i64 (left), .pointer (some ⟨Bs, 0, none⟩), .pointer (some ⟨Bo, 0, none⟩), .pointer (some ⟨Bw, 0, none⟩)] (by rfl) rfl ?_ ?_
          · have he := fun args w => enters_ (P := Tryz.prog) Tryz.func80 (by kernel_rfl) rfl args w
            go_simp
            try simp [he]
          refine (ih (([] : List Int) ++ [n]) (left) v10 w10 (by simp; omega) (fun x hx => by simp at hx; rw [hx]; exact hnb) (by omega) HCE10.out (Nat.le_trans hB HKE10.out.size) HR10.out (by simp)).mono ?_
          rintro e w11 ⟨hk11, hce11, hso, hno⟩
          have HKE11 := Aside0.mk (HKE10.out.trans hk11)
          have HCE11 := Aside0.mk hce11
          clear hk11 hce11
          cases hcam : camW S sl d (([] : List Int) ++ [n]) (left) with
          | some r =>
            obtain ⟨rfl, hout⟩ := hso r hcam
            have HOUT := Aside0.mk hout
            have HCAM := Aside0.mk hcam
            clear hso hno hout hcam
            refine ⟨_, rfl, hK.out _ _ ?_⟩
            clear hK K
            refine norm_ (a' := ?_) ?_ ?_
            rotate_left
            · show Act.put _ (some 96) _ = _
              simp only [Act.put, List.setIfInBounds_toArray, List.set_cons_zero, List.set_cons_succ, i64_w, i32_w]
              rfl
            refine done_ (by kernel_rfl) ?_
            go_wp2
            go_ret
            refine ⟨HKE11.out, HCE11.out, fun r2 hr2 => ?_, fun hr2 => ?_⟩
            · rw [camW_succ, show lowH S sl [] = la from hla, show highH S sl [] = ha from hha, upto_some _ (k := k) (by omega) HN.out (r := r) (by rw [HNN.out, HG0.out, if_neg (by omega)]; exact HCAM.out)] at hr2
              cases hr2
              exact ⟨rfl, HOUT.out⟩
            · rw [camW_succ, show lowH S sl [] = la from hla, show highH S sl [] = ha from hha, upto_some _ (k := k) (by omega) HN.out (r := r) (by rw [HNN.out, HG0.out, if_neg (by omega)]; exact HCAM.out)] at hr2
              cases hr2
          | none =>
            obtain ⟨rfl, hout⟩ := hno hcam
            have HBo11 := Aside0.mk (hout.trans HBo10.out)
            have HCAM := Aside0.mk hcam
            clear hso hno hout hcam
            refine ⟨_, rfl, hK.out _ _ ?_⟩
            clear hK K
            refine norm_ (a' := ?_) ?_ ?_
            rotate_left
            · show Act.put _ (some 96) _ = _
              simp only [Act.put, List.setIfInBounds_toArray, List.set_cons_zero, List.set_cons_succ, i64_w, i32_w]
              rfl
            refine done_ (by kernel_rfl) ?_
            go_wp2
            go_roundg ((ha + 1 - la).toNat - (k + 1))
            case measure => have := HK.out; omega
            case rel => exact ⟨k + 1, by simp [← HNN.out]; omega, ⟨by omega, rfl⟩, HKE11, HCE11, HBo11, ⟨fun j hj => by
              by_cases e : j = k
              · subst e; rw [HNN.out, HG0.out, if_neg (by omega)]; exact HCAM.out
              · exact HN.out j (by omega)⟩⟩
    · have hled : decide (la + (k : Int) ≤ ha) = false := decide_eq_false hle
      go_wp2
      go_ret
      have hkk : k = (ha + 1 - la).toNat := by have := HK.out; omega
      refine ⟨HKE.out, HCE1.out, fun r hr => ?_, fun _ => ⟨rfl, HBo.out⟩⟩
      rw [camW_succ, show lowH S sl [] = la from hla, show highH S sl [] = ha from hha, upto_none _ (hkk ▸ HN.out)] at hr
      cases hr
end
end Go.Proofs.YtbjimmemcmjpcabGreatDoor.Print
end
section
set_option linter.unusedVariables false
set_option linter.unusedSimpArgs false
set_option linter.unusedSectionVars false
namespace Go.Proofs.YtbjimmemcmjpcabGreatDoor.Print
open Go.RowKit Go.Proofs.YtbjimmemcmjpcabGreatDoorW.PrintWords Go.Proofs.YtbjimmemcmjpcabGreatDoorW.PrintLast Go.Proofs.YtbjimmemcmjpcabGreatDoorW.PrintMore
section
variable (lw hg sl ch : Int) (ad : Addr) (cp b : Nat) (S : List S48) (Bs Bo Bw B0 : Nat)
variable (hsl : 0 ≤ sl ∧ sl ≤ 30) (hlen : S.length ≤ 24) (hlo : ∀ i, i < S.length → 0 ≤ lo S i ∧ lo S i ≤ 100) (hhi : ∀ i, i < S.length → -100 ≤ hi S i ∧ hi S i ≤ 30)
variable (h1 : Bs ≠ b) (h2 : Bs ≠ Bo) (h3 : Bw ≠ b) (h4 : Bw ≠ Bo) (h5 : ad.block ≠ b) (h6 : ad.block ≠ Bo) (h7 : Bo ≠ b)
include h1 h2 h3 h4 h5 h6 h7
include hsl hlen hlo hhi
set_option maxRecDepth 100000 in
set_option maxHeartbeats 4000000 in
theorem walk_step1 (d : Nat) (ih : WalkAt lw hg sl ch ad cp b S Bs Bo Bw B0 d) (now : List Int) (left : Int) (ad2 : Addr) (c : Nat) (w : World) (hne : now ≠ []) (hd : now.length + (d + 1) = S.length) (hnow : ∀ x ∈ now, 0 ≤ x ∧ x ≤ 30) (hleft : -1000 + (d + 1 : Nat) ≤ left ∧ left ≤ 1000)
    (hce : CE lw hg sl ch ad cp b S Bs Bo Bw w) (hB : B0 ≤ w.heap.size) (hR : Kd.R (Kd.int .i64) 3 w B0 (fun k => k ≠ b ∧ k ≠ Bo) (.slice (some ad2) now.length c) now) (hC : Kd.C (Kd.int .i64) w (some ad2) now.length now) :
    Calls Tryz.prog 80 #[.slice (some ad2) now.length c, .int .i64 left, .pointer (some ⟨Bs, 0, none⟩), .pointer (some ⟨Bo, 0, none⟩), .pointer (some ⟨Bw, 0, none⟩)] w fun e w' =>
    Keep2 b Bo w w' ∧ CE lw hg sl ch ad cp b S Bs Bo Bw w' ∧ (∀ r, camW S sl (d + 1) now left = some r → e = .returned (.bool true) ∧ OutAt Bo B0 b w' r) ∧ (camW S sl (d + 1) now left = none → e = .returned (.bool false) ∧ w'.heap[Bo]? = w.heap[Bo]?) := by
  have hu1 := Tryz.underlying78
  have hu2 := Tryz.underlying35
  have hu3 := Tryz.underlying48
  have hmx : Tryz.prog.follows .mixedOrders = true := by kernel_rfl
  have hlt0 : now.length < S.length := by omega
  obtain ⟨x0, x1⟩ := hce.p now.length hlt0
  obtain ⟨la, hla⟩ : ∃ x, lo S now.length = x := ⟨_, rfl⟩
  obtain ⟨ha, hha⟩ : ∃ x, hi S now.length = x := ⟨_, rfl⟩
  have bl := hlo _ hlt0
  have bh := hhi _ hlt0
  rw [hla] at x0 bl
  rw [hha] at x1 bh
  have HR := Aside0.mk hR
  have HCE := Aside0.mk hce
  have HNOW := Aside0.mk hnow
  have c4 := (blk_cell hce.s 4).trans rfl
  have c2 := (blk_cell hce.s 2).trans rfl
  have hlS : ((now.length : Int) == (S.length : Int)) = false := by simp; omega
  have hlS2 : decide ((now.length : Int) = (S.length : Int)) = false := decide_eq_false (by omega)
  have hi0 : (now.length : Int) < (S.length : Int) := by omega
  have hi1 : (0 : Int) ≤ (now.length : Int) := by omega
  obtain ⟨p, hp⟩ : ∃ p, now.length = p + 1 := ⟨now.length - 1, by have := List.length_pos_iff.2 hne; omega⟩
  obtain ⟨last, hlast⟩ : ∃ x, rd now ((now.length : Int) - 1) = x := ⟨_, rfl⟩
  obtain ⟨f0, hf0⟩ : ∃ x, rd now 0 = x := ⟨_, rfl⟩
  have hpi : ((now.length : Int) - 1) = (p : Int) := by omega
  have hlb : 0 ≤ last ∧ last ≤ 30 := by rw [← hlast, hpi]; exact hnow _ (rd_mem2 now p (by omega))
  have hfb : 0 ≤ f0 ∧ f0 ≤ 30 := by rw [← hf0]; exact hnow _ (rd_mem2 now 0 (by omega))
  have hcp : ∀ {W : World}, Keep2 b Bo w W → Kd.C (Kd.int .i64) W (some ad2) now.length now ∧ W.cell? (ad2.add p) = some (.int .i64 last) ∧ W.cell? ad2 = some (.int .i64 f0) := fun hk => by
    obtain ⟨A', c', e', _, hC'⟩ := Kd.R_reads (hk.row HR.out)
    cases e'
    refine ⟨hC', ?_, ?_⟩
    · obtain ⟨a', ea, h⟩ := at_nat hC' p (by omega)
      cases ea
      rw [h, ← hlast, hpi]
    · obtain ⟨a', ea, h⟩ := at_nat hC' 0 (by omega)
      cases ea
      rw [← hf0]
      exact h
  have HCP := Aside0.mk @hcp
  have hsp0 : ∀ n, spentH now n = cst last n := fun n => by unfold spentH; rw [if_neg hne, hlast]
  have hfi0 : ∀ n, firstH now n = f0 := fun n => by unfold firstH; rw [if_neg hne, hf0]
  have hlow0 : lowH S sl now = max la (last - sl) := by unfold lowH; rw [if_neg hne, hlast, hla]
  have hhigh0 : highH S sl now = min ha (last + sl) := by unfold highH; rw [if_neg hne, hlast, hha]
  have HSP := Aside0.mk hsp0
  have HFI := Aside0.mk hfi0
  have HNE := Aside0.mk hne
  have ep : IntKind.i64.wrap ((now.length : Int) - 1) = (p : Int) := by rw [hpi]; exact IntWalk.i64_in _ ⟨by omega, by omega⟩
  have em1 : IntKind.i64.wrap (last - sl) = last - sl := IntWalk.i64_in _ ⟨by omega, by omega⟩
  have em2 : IntKind.i64.wrap (last + sl) = last + sl := IntWalk.i64_in _ ⟨by omega, by omega⟩
  have hp0 : (p : Int) < (now.length : Int) := by omega
  have hd0 : decide ((0 : Int) < (now.length : Int)) = true := decide_eq_true (by omega)
  have hz0 : (0 : Int) < (now.length : Int) := by omega
  have hdn : decide (0 < now.length) = true := decide_eq_true (by omega)
  have hzn : 0 < now.length := by omega
  have m1 : (if la < last - sl then last - sl else la) = max la (last - sl) := by split <;> omega
  have m2 : (if last + sl < ha then last + sl else ha) = min ha (last + sl) := by split <;> omega
  obtain ⟨_, y1, y0⟩ := hcp (Keep2.refl b Bo w)
  have HP := Aside0.mk hp
  have HLOW := Aside0.mk hlow0
  have HHIGH := Aside0.mk hhigh0
  clear hce hR hnow hcp hsp0 hfi0 hne hpi hlast hf0 hC hp hlow0 hhigh0
  go_enter Tryz.func80, Tryz.ntmps80
  go_wp2
  go_quiet (fail)
  obtain ⟨nq1, rfl⟩ : ∃ m, m = nq := ⟨_, rfl⟩
  go_wp2
  go_quiet (fail)
  have b1 : Below w.heap.size w ((w.drewN nq1).drewN nq) := pw_below_drewN (pw_below_drewN (Below.refl _ _) _) _
  have HCE1 := Aside0.mk (HCE.out.below b1)
  have HK1 := Aside0.mk (Keep2.of_below (b := b) (o := Bo) b1)
  have HBo := Aside0.mk (show ((w.drewN nq1).drewN nq).heap[Bo]? = w.heap[Bo]? from rfl)
  have bla : 0 ≤ max la (last - sl) ∧ max la (last - sl) ≤ 100 := by omega
  have bha : -100 ≤ min ha (last + sl) ∧ min ha (last + sl) ≤ 30 := by omega
  clear x0 x1 y0 y1 c4 c2 b1 m1 m2 em1 em2
  generalize (w.drewN nq1).drewN nq = W1 at HCE1 HK1 HBo ⊢
  generalize max la (last - sl) = la2 at HLOW bla ⊢
  generalize min ha (last + sl) = ha2 at HHIGH bha ⊢
  go_wp2
  go_loopg [11] ((ha2 + 1 - la2).toNat) (fun q v wr => ∃ k : Nat, v = .int .i64 (la2 + (k : Int)) ∧ Aside0 (k ≤ (ha2 + 1 - la2).toNat ∧ q = (ha2 + 1 - la2).toNat - k) ∧ Aside0 (Keep2 b Bo w wr) ∧ Aside0 (CE lw hg sl ch ad cp b S Bs Bo Bw wr) ∧ Aside0 (wr.heap[Bo]? = w.heap[Bo]?) ∧ Aside0 (∀ j : Nat, j < k → gW S sl d now left (la2 + (j : Int)) = none))
  case atStart => exact ⟨0, by simp, ⟨by omega, by omega⟩, HK1, HCE1, HBo, ⟨fun j hj => by omega⟩⟩
  case round =>
    clear HCE1 HK1 HBo
    obtain ⟨k, rfl, HK, HKE, HCE1, HBo, HN⟩ := hrel
    by_cases hle : la2 + (k : Int) ≤ ha2
    · have hled : decide (la2 + (k : Int) ≤ ha2) = true := decide_eq_true hle
      have hk : k < (ha2 + 1 - la2).toNat := by omega
      have e3 : IntKind.i64.wrap (la2 + (k : Int) + 1) = la2 + (k : Int) + 1 := IntWalk.i64_in _ ⟨by omega, by omega⟩
      obtain ⟨n, hn⟩ : ∃ n, la2 + (k : Int) = n := ⟨_, rfl⟩
      have hnb : 0 ≤ n ∧ n ≤ 30 := by omega
      rw [hn] at hled e3 ⊢
      have HNN := Aside0.mk hn
      obtain ⟨_, y1, y0⟩ := HCP.out HKE.out
      obtain ⟨sp, hsp⟩ : ∃ s, cst last n = s := ⟨_, rfl⟩
      have hspb := cst_bd last n
      rw [hsp] at hspb
      have HCS := Aside0.mk hsp
      have HCC := Aside0.mk (fun W : World => (hsp ▸ cost_calls last n W : Calls Tryz.prog 81 #[.int .i64 last, .int .i64 n] W fun e w' => e = .returned (.int .i64 sp) ∧ w' = W))
      clear hn
      go_wp2
      go_quiet (first | (go_at_call 81; refine Calls.quiet_of_same (HCC.out _)))
      have b2 : Below wr.heap.size wr (wr.drewN nq) := pw_below_drewN (Below.refl _ _) _
      have HCE2 := Aside0.mk (HCE1.out.below b2)
      have HKE2 := Aside0.mk (HKE.out.trans (Keep2.of_below (b := b) (o := Bo) b2))
      have HBo2 := Aside0.mk (show (wr.drewN nq).heap[Bo]? = w.heap[Bo]? from HBo.out)
      clear HCE1 HKE HBo b2 y0 y1
      generalize wr.drewN nq = W2 at HCE2 HKE2 HBo2 ⊢
      have c0 := (blk_cell HCE2.out.s 0).trans rfl
      have c1 := (blk_cell HCE2.out.s 1).trans rfl
      have c2 := (blk_cell HCE2.out.s 2).trans rfl
      have c3 := (blk_cell HCE2.out.s 3).trans rfl
      have c4 := (blk_cell HCE2.out.s 4).trans rfl
      have c5 := (blk_cell HCE2.out.s 5).trans rfl
      obtain ⟨L, hL⟩ := HCE2.out.m
      have HL := Aside0.mk hL
      clear hL
      have HRA := Aside0.mk (rest_at lw hg sl ch ad cp b S hsl hlen hlo hhi d ((now.length : Int), n, f0) W2 L ⟨by simp only; omega, hnb, hfb⟩ (by simp only; omega) HL.out HCE2.out.p)
      obtain ⟨z, hz⟩ : ∃ z, restV S sl d ((now.length : Int), n, f0) = z := ⟨_, rfl⟩
      have hzb := restV_bd S sl d ((now.length : Int), n, f0)
      rw [hz] at hzb HRA
      have e4 : IntKind.i64.wrap (z + sp) = z + sp := IntWalk.i64_in _ ⟨by omega, by omega⟩
      have e5 : IntKind.i64.wrap (left - sp) = left - sp := IntWalk.i64_in _ ⟨by omega, by omega⟩
      have hg0 : gW S sl d now left n = if left < z + sp then none else camW S sl d (now ++ [n]) (left - sp) := by unfold gW; rw [HFI.out, HSP.out, HCS.out, hz]
      have HG0 := Aside0.mk hg0
      clear hg0 hz hsp
      by_cases hgt : left < z + sp
      · have hgd : decide (left < z + sp) = true := decide_eq_true hgt
        go_wp2_with (go_at_call 82; refine HRA.out.mono ?_; rintro e W5 ⟨rfl, ⟨L2, hM2, _⟩, hg2⟩; have HM2 := Aside0.mk hM2; have HK5 := Aside0.mk (Keep2.of_grown (o := Bo) hg2); have HBo5 := Aside0.mk ((hg2.block Bo (by obtain ⟨_, hv⟩ := HCE2.out.o; exact blk_lt hv) (by simpa using h7)).trans HBo2.out); clear hM2 hg2)
        have HKE5 := Aside0.mk (HKE2.out.trans HK5.out)
        have HCE5 := Aside0.mk (HCE2.out.keep HK5.out h1 h2 h3 h4 h5 h6 (by obtain ⟨v, hv⟩ := HCE2.out.o; exact ⟨v, by rw [HBo5.out, ← HBo2.out]; exact hv⟩) ⟨L2, HM2.out⟩)
        go_roundg ((ha2 + 1 - la2).toNat - (k + 1))
        case measure => have := HK.out; omega
        case rel => exact ⟨k + 1, by simp [← HNN.out]; omega, ⟨by omega, rfl⟩, HKE5, HCE5, HBo5, ⟨fun j hj => by
          by_cases e : j = k
          · subst e; rw [HNN.out, HG0.out, if_pos hgt]
          · exact HN.out j (by omega)⟩⟩
      · have hgd : decide (left < z + sp) = false := decide_eq_false hgt
        go_wp2_with (go_at_call 82; refine HRA.out.mono ?_; rintro e W5 ⟨rfl, ⟨L2, hM2, _⟩, hg2⟩; have HM2 := Aside0.mk hM2; have HK5 := Aside0.mk (Keep2.of_grown (o := Bo) hg2); have HBo5 := Aside0.mk ((hg2.block Bo (by obtain ⟨_, hv⟩ := HCE2.out.o; exact blk_lt hv) (by simpa using h7)).trans HBo2.out); clear hM2 hg2)
        have HKE5 := Aside0.mk (HKE2.out.trans HK5.out)
        have HCE5 := Aside0.mk (HCE2.out.keep HK5.out h1 h2 h3 h4 h5 h6 (by obtain ⟨v, hv⟩ := HCE2.out.o; exact ⟨v, by rw [HBo5.out, ← HBo2.out]; exact hv⟩) ⟨L2, HM2.out⟩)
        clear HCE2 HKE2 HBo2 HK5 HM2 HRA c0 c1 c2 c3 c4 c5 HL
        refine start_ (n := 10) (S := fun w' => w'.cell? ⟨Bw, 0, none⟩ = some (walkF Bs Bo Bw)) (ds := [9]) #[false, false, false, false, false, false, false, false, false, false] (by kernel_rfl) rfl rfl ((blk_cell HCE5.out.f 0).trans rfl) (fun hHeld => ?_)
        have HCE6 := Aside0.mk (HCE5.out.below (below_drew (Below.refl _ _)))
        have HKE6 := Aside0.mk (HKE5.out.trans (Keep2.of_below (b := b) (o := Bo) (below_drew (Below.refl _ _))))
        have HBo6 := Aside0.mk (show W5.drew.heap[Bo]? = w.heap[Bo]? from HBo5.out)
        clear HCE5 HKE5 HBo5
        generalize W5.drew = W6 at HCE6 HKE6 HBo6 hHeld ⊢
        refine pure_ (i := 1) (N := some 88) (v := ?_) (a' := ?_) #[false, true, false, false, false, false, false, false, false, false] rfl rfl (by kernel_rfl) (fun _ _ _ h => h) (Or.inl ⟨by rfl, ?_⟩) ?_ ?_
        rotate_left
        · intro w'
          go_simp
          with_reducible rfl
        rotate_left
        · simp only [Act.put, List.setIfInBounds_toArray, List.set_cons_zero, List.set_cons_succ, i64_w, i32_w]
          rfl
        refine pure_ (i := 3) (N := some 90) (v := ?_) (a' := ?_) #[false, true, false, true, false, false, false, false, false, false] rfl rfl (by kernel_rfl) (fun _ _ _ h => h) (Or.inl ⟨by rfl, ?_⟩) ?_ ?_
        rotate_left
        · intro w'
          go_simp
          with_reducible rfl
        rotate_left
        · simp only [Act.put, List.setIfInBounds_toArray, List.set_cons_zero, List.set_cons_succ, i64_w, i32_w]
          rfl
        refine pure_ (i := 6) (N := some 93) (v := ?_) (a' := ?_) #[false, true, false, true, false, false, true, false, false, false] rfl rfl (by kernel_rfl) (fun _ _ _ h => h) (Or.inl ⟨by rfl, ?_⟩) ?_ ?_
        rotate_left
        · intro w'
          go_simp
          with_reducible rfl
        rotate_left
        · simp only [Act.put, List.setIfInBounds_toArray, List.set_cons_zero, List.set_cons_succ, i64_w, i32_w]
          rfl
        refine pure_ (i := 7) (N := some 94) (v := ?_) (a' := ?_) #[false, true, false, true, false, false, true, true, false, false] rfl rfl (by kernel_rfl) (fun _ _ _ h => h) (Or.inl ⟨by rfl, ?_⟩) ?_ ?_
        rotate_left
        · intro w'
          go_simp
          with_reducible rfl
        rotate_left
        · simp only [Act.put, List.setIfInBounds_toArray, List.set_cons_zero, List.set_cons_succ, i64_w, i32_w]
          rfl
        refine pure_ (i := 8) (N := some 95) (v := ?_) (a' := ?_) #[false, true, false, true, false, false, true, true, true, false] rfl rfl (by kernel_rfl) (fun _ _ _ h => h) (Or.inl ⟨by rfl, ?_⟩) ?_ ?_
        rotate_left
        · intro w'
          go_simp
          with_reducible rfl
        rotate_left
        · simp only [Act.put, List.setIfInBounds_toArray, List.set_cons_zero, List.set_cons_succ, i64_w, i32_w]
          rfl
        refine take_ (i := 0) (N := some 87) (v := ?_) (a' := ?_) #[true, true, false, true, false, false, true, true, true, false] rfl rfl (by kernel_rfl) (fun _ _ _ h => h) (Or.inl ⟨by rfl, ?_⟩) hHeld ?_ ?_
        rotate_left
        · intro w' s0
          go_simp
          with_reducible rfl
        rotate_left
        · simp only [Act.put, List.setIfInBounds_toArray, List.set_cons_zero, List.set_cons_succ, i64_w, i32_w]
          rfl
        refine two_ (i := 2) (j := 4) (Ni := some 89) (Nj := some 91) #[true, true, true, true, false, false, true, true, true, false] #[true, true, false, true, true, false, true, true, true, false] rfl rfl rfl rfl (by kernel_rfl) (by decide) (by decide) (fun K hK => ?_) (fun K hK => ?_)
        · refine goes_ Tryz.func83 (by kernel_rfl) rfl #[.slice (some ad2) now.length c] (by rfl) rfl rfl (by (try simp only [List.map_toArray, List.map_cons, List.map_nil]); first | done | rfl) ?_
          have hrow6 := HKE6.out.row HR.out
          refine (clone_calls (some ad2) c now _ (by obtain ⟨A', c', e', _, hC'⟩ := Kd.R_reads hrow6; cases e'; exact hC') (by simp) (by omega)).mono ?_
          rintro e w9 ⟨v9, rfl, ho9, hb9⟩
          have HO9 := Aside0.mk ho9
          have HB9 := Aside0.mk hb9
          have HCE9 := Aside0.mk (HCE6.out.below hb9)
          clear ho9 hb9 hrow6
          refine ⟨v9, rfl, hK.out _ _ ((blk_cell HCE9.out.f 0).trans rfl) (fun hHeld => ?_)⟩
          clear hK K
          refine norm_ (a' := ?_) ?_ ?_
          rotate_left
          · show Act.put _ (some 89) _ = _
            simp only [Act.put, List.setIfInBounds_toArray, List.set_cons_zero, List.set_cons_succ, i64_w, i32_w]
            rfl
          refine one_ (i := 4) (N := some 91) #[true, true, true, true, true, false, true, true, true, false] rfl rfl (by kernel_rfl) (by decide) (fun K hK => ?_)
          refine value_ (w1 := ?_) (v := ?_) (by rfl) rfl ?_ ?_
          rotate_left 2
          · go_simp
            constructor
            · rfl
            · rfl
          refine hK.out _ _ ((blk_cell (HCE9.out.below (below_alloc (Below.refl _ _) _)).f 0).trans rfl) (fun hHeld => ?_)
          clear hK K
          refine norm_ (a' := ?_) ?_ ?_
          rotate_left
          · show Act.put _ (some 91) _ = _
            simp only [Act.put, List.setIfInBounds_toArray, List.set_cons_zero, List.set_cons_succ, i64_w, i32_w]
            rfl
          refine one_ (i := 5) (N := some 92) #[true, true, true, true, true, true, true, true, true, false] rfl rfl (by kernel_rfl) (by decide) (fun K hK => ?_)
          refine Kd.R_append_step (Kd.int .i64) (w0 := W6) W6.heap.size (by rfl) (.tmp 89) (.tmp 91) 22 3 (.int .i64 0) 8 rfl Tryz.underlying22 info3 rfl (by decide) (by omega) v9 now n [.int .i64 n] (fun _ => True) (fun _ => False) rfl rfl ?aP (fun _ hk => hk.elim) ?aF ?aO ?aB ?aS ?aL ?_
          (case aP => exact rfl)
          (case aF => exact (fun _ _ => trivial))
          (case aO => exact HO9.out)
          (case aB => exact HB9.out)
          (case aS => exact HB9.out.size)
          (case aL => omega)
          intro v10 w10 ho hb hgr hat
          have hb10 := hb
          have HCE10 := Aside0.mk (HCE6.out.below hb10)
          have HKE10 := Aside0.mk (HKE6.out.trans (Keep2.of_below (b := b) (o := Bo) hb10))
          have HBo10 := Aside0.mk ((hb10.block Bo (by obtain ⟨_, hv⟩ := HCE6.out.o; exact blk_lt hv)).trans HBo6.out)
          have HR10 := Aside0.mk (row_new (b := b) (o := Bo) (B0 := B0) ho (by obtain ⟨_, hm⟩ := HCE6.out.m; exact hm.lt) (by obtain ⟨_, hv⟩ := HCE6.out.o; exact blk_lt hv) (Nat.le_trans hB HKE6.out.size))
          clear ho hb hgr hat hb10
          refine hK.out _ _ ((blk_cell HCE10.out.f 0).trans rfl) (fun hHeld => ?_)
          clear hK K
          refine norm_ (a' := ?_) ?_ ?_
          rotate_left
          · show Act.put _ (some 92) _ = _
            simp only [Act.put, List.setIfInBounds_toArray, List.set_cons_zero, List.set_cons_succ, i64_w, i32_w]
            rfl
          refine last_ (i := 9) (N := some 96) #[true, true, true, true, true, true, true, true, true, true] rfl rfl (by kernel_rfl) (by decide) (fun K hK => ?_)
          refine call_ 80 #[v10, .int .i64 (left - sp), .pointer (some ⟨Bs, 0, none⟩), .pointer (some ⟨Bo, 0, none⟩), .pointer (some ⟨Bw, 0, none⟩)] (by rfl) rfl ?_ ?_
          · have he := fun args w => enters_ (P := Tryz.prog) Tryz.func80 (by kernel_rfl) rfl args w
            go_simp
            try simp [he]
          refine (ih (now ++ [n]) (left - sp) v10 w10 (by simp; omega) (fun x hx => by rcases List.mem_append.1 hx with h | h; exact HNOW.out x h; simp at h; rw [h]; exact hnb) (by omega) HCE10.out (Nat.le_trans hB HKE10.out.size) HR10.out (by simp)).mono ?_
          rintro e w11 ⟨hk11, hce11, hso, hno⟩
          have HKE11 := Aside0.mk (HKE10.out.trans hk11)
          have HCE11 := Aside0.mk hce11
          clear hk11 hce11
          cases hcam : camW S sl d (now ++ [n]) (left - sp) with
          | some r =>
            obtain ⟨rfl, hout⟩ := hso r hcam
            have HOUT := Aside0.mk hout
            have HCAM := Aside0.mk hcam
            clear hso hno hout hcam
            refine ⟨_, rfl, hK.out _ _ ?_⟩
            clear hK K
            refine norm_ (a' := ?_) ?_ ?_
            rotate_left
            · show Act.put _ (some 96) _ = _
              simp only [Act.put, List.setIfInBounds_toArray, List.set_cons_zero, List.set_cons_succ, i64_w, i32_w]
              rfl
            refine done_ (by kernel_rfl) ?_
            go_wp2
            go_ret
            refine ⟨HKE11.out, HCE11.out, fun r2 hr2 => ?_, fun hr2 => ?_⟩
            · rw [camW_succ, HLOW.out, HHIGH.out, upto_some _ (k := k) (by omega) HN.out (r := r) (by rw [HNN.out, HG0.out, if_neg (by omega)]; exact HCAM.out)] at hr2
              cases hr2
              exact ⟨rfl, HOUT.out⟩
            · rw [camW_succ, HLOW.out, HHIGH.out, upto_some _ (k := k) (by omega) HN.out (r := r) (by rw [HNN.out, HG0.out, if_neg (by omega)]; exact HCAM.out)] at hr2
              cases hr2
          | none =>
            obtain ⟨rfl, hout⟩ := hno hcam
            have HBo11 := Aside0.mk (hout.trans HBo10.out)
            have HCAM := Aside0.mk hcam
            clear hso hno hout hcam
            refine ⟨_, rfl, hK.out _ _ ?_⟩
            clear hK K
            refine norm_ (a' := ?_) ?_ ?_
            rotate_left
            · show Act.put _ (some 96) _ = _
              simp only [Act.put, List.setIfInBounds_toArray, List.set_cons_zero, List.set_cons_succ, i64_w, i32_w]
              rfl
            refine done_ (by kernel_rfl) ?_
            go_wp2
            go_roundg ((ha2 + 1 - la2).toNat - (k + 1))
            case measure => have := HK.out; omega
            case rel => exact ⟨k + 1, by simp [← HNN.out]; omega, ⟨by omega, rfl⟩, HKE11, HCE11, HBo11, ⟨fun j hj => by
              by_cases e : j = k
              · subst e; rw [HNN.out, HG0.out, if_neg (by omega)]; exact HCAM.out
              · exact HN.out j (by omega)⟩⟩
        · refine value_ (w1 := ?_) (v := ?_) (by rfl) rfl ?_ ?_
          rotate_left 2
          · go_simp
            constructor
            · rfl
            · rfl
          have HCE7 := Aside0.mk (HCE6.out.below (below_alloc (Below.refl _ _) (.cells #[.int .i64 n] 3)))
          have HKE7 := Aside0.mk (HKE6.out.trans (Keep2.of_below (b := b) (o := Bo) (below_alloc (Below.refl _ _) (.cells #[.int .i64 n] 3))))
          have hnew := Aside0.mk (blk_new W6 (.cells #[.int .i64 n] 3))
          have HBW := Aside0.mk (below_alloc (Below.refl _ W6) (.cells #[.int .i64 n] 3))
          refine hK.out _ _ ((blk_cell HCE7.out.f 0).trans rfl) (fun hHeld => ?_)
          clear hK K
          refine norm_ (a' := ?_) ?_ ?_
          rotate_left
          · show Act.put _ (some 91) _ = _
            simp only [Act.put, List.setIfInBounds_toArray, List.set_cons_zero, List.set_cons_succ, i64_w, i32_w]
            rfl
          generalize W6.alloc (.cells #[.int .i64 n] 3) = W7 at HCE7 HKE7 hnew HBW hHeld ⊢
          refine one_ (i := 2) (N := some 89) #[true, true, true, true, true, false, true, true, true, false] rfl rfl (by kernel_rfl) (by decide) (fun K hK => ?_)
          refine goes_ Tryz.func83 (by kernel_rfl) rfl #[.slice (some ad2) now.length c] (by rfl) rfl rfl (by (try simp only [List.map_toArray, List.map_cons, List.map_nil]); first | done | rfl) ?_
          have hrow6 := HKE7.out.row HR.out
          refine (clone_calls (some ad2) c now _ (by obtain ⟨A', c', e', _, hC'⟩ := Kd.R_reads hrow6; cases e'; exact hC') (by simp) (by omega)).mono ?_
          rintro e w9 ⟨v9, rfl, ho9, hb9⟩
          have HO9 := Aside0.mk ho9
          have HB9 := Aside0.mk hb9
          have HCE9 := Aside0.mk (HCE7.out.below hb9)
          have hnew9 := blk_below hnew.out hb9
          clear ho9 hb9 hrow6
          refine ⟨v9, rfl, hK.out _ _ ((blk_cell HCE9.out.f 0).trans rfl) (fun hHeld => ?_)⟩
          clear hK K
          refine norm_ (a' := ?_) ?_ ?_
          rotate_left
          · show Act.put _ (some 89) _ = _
            simp only [Act.put, List.setIfInBounds_toArray, List.set_cons_zero, List.set_cons_succ, i64_w, i32_w]
            rfl
          refine one_ (i := 5) (N := some 92) #[true, true, true, true, true, true, true, true, true, false] rfl rfl (by kernel_rfl) (by decide) (fun K hK => ?_)
          refine Kd.R_append_rows_step (Kd.int .i64) (Rr := fun x cs => cs = [.int .i64 x]) (w0 := W7) W7.heap.size (by rfl) (.tmp 89) (.tmp 91) 22 3 (.int .i64 0) 8 rfl Tryz.underlying22 info3 rfl (by decide) (by omega) v9 now [n] (some ⟨W6.heap.size, 0, none⟩) 1 1 (fun _ => True) (fun _ => False) rfl rfl ?aO ?aR (fun _ _ h => h) (fun _ hk => hk.elim) ?aF ?aB ?aS ?aL ?_
          (case aR => exact ⟨rfl, by omega, fun _ => ⟨_, rfl, fun j p hj => by
            have hj0 : j = 0 := by have := (List.getElem?_eq_some_iff.1 hj).1; simp at this; exact this
            subst hj0
            obtain rfl : n = p := by simpa using hj
            refine ⟨[.int .i64 n], rfl, rfl, fun i u hu => ?_⟩
            have hi0 : i = 0 := by have := (List.getElem?_eq_some_iff.1 hu).1; simp at this; exact this
            subst hi0
            obtain rfl : Value.int .i64 n = u := by simpa using hu
            exact (blk_cell hnew9 0).trans rfl⟩⟩)
          (case aF => exact (fun _ _ => trivial))
          (case aO => exact HO9.out)
          (case aB => exact HB9.out)
          (case aS => exact HB9.out.size)
          (case aL => omega)
          intro v10 w10 ho hb hgr hat
          have hb10 := HBW.out.trans (hb.mono HBW.out.size)
          have HCE10 := Aside0.mk (HCE6.out.below hb10)
          have HKE10 := Aside0.mk (HKE6.out.trans (Keep2.of_below (b := b) (o := Bo) hb10))
          have HBo10 := Aside0.mk ((hb10.block Bo (by obtain ⟨_, hv⟩ := HCE6.out.o; exact blk_lt hv)).trans HBo6.out)
          have HR10 := Aside0.mk (row_new (b := b) (o := Bo) (B0 := B0) ho (by obtain ⟨_, hm⟩ := HCE7.out.m; exact hm.lt) (by obtain ⟨_, hv⟩ := HCE7.out.o; exact blk_lt hv) (Nat.le_trans hB HKE7.out.size))
          clear ho hb hgr hat hb10
          refine hK.out _ _ ((blk_cell HCE10.out.f 0).trans rfl) (fun hHeld => ?_)
          clear hK K
          refine norm_ (a' := ?_) ?_ ?_
          rotate_left
          · show Act.put _ (some 92) _ = _
            simp only [Act.put, List.setIfInBounds_toArray, List.set_cons_zero, List.set_cons_succ, i64_w, i32_w]
            rfl
          refine last_ (i := 9) (N := some 96) #[true, true, true, true, true, true, true, true, true, true] rfl rfl (by kernel_rfl) (by decide) (fun K hK => ?_)
          refine call_ 80 #[v10, .int .i64 (left - sp), .pointer (some ⟨Bs, 0, none⟩), .pointer (some ⟨Bo, 0, none⟩), .pointer (some ⟨Bw, 0, none⟩)] (by rfl) rfl ?_ ?_
          · have he := fun args w => enters_ (P := Tryz.prog) Tryz.func80 (by kernel_rfl) rfl args w
            go_simp
            try simp [he]
          refine (ih (now ++ [n]) (left - sp) v10 w10 (by simp; omega) (fun x hx => by rcases List.mem_append.1 hx with h | h; exact HNOW.out x h; simp at h; rw [h]; exact hnb) (by omega) HCE10.out (Nat.le_trans hB HKE10.out.size) HR10.out (by simp)).mono ?_
          rintro e w11 ⟨hk11, hce11, hso, hno⟩
          have HKE11 := Aside0.mk (HKE10.out.trans hk11)
          have HCE11 := Aside0.mk hce11
          clear hk11 hce11
          cases hcam : camW S sl d (now ++ [n]) (left - sp) with
          | some r =>
            obtain ⟨rfl, hout⟩ := hso r hcam
            have HOUT := Aside0.mk hout
            have HCAM := Aside0.mk hcam
            clear hso hno hout hcam
            refine ⟨_, rfl, hK.out _ _ ?_⟩
            clear hK K
            refine norm_ (a' := ?_) ?_ ?_
            rotate_left
            · show Act.put _ (some 96) _ = _
              simp only [Act.put, List.setIfInBounds_toArray, List.set_cons_zero, List.set_cons_succ, i64_w, i32_w]
              rfl
            refine done_ (by kernel_rfl) ?_
            go_wp2
            go_ret
            refine ⟨HKE11.out, HCE11.out, fun r2 hr2 => ?_, fun hr2 => ?_⟩
            · rw [camW_succ, HLOW.out, HHIGH.out, upto_some _ (k := k) (by omega) HN.out (r := r) (by rw [HNN.out, HG0.out, if_neg (by omega)]; exact HCAM.out)] at hr2
              cases hr2
              exact ⟨rfl, HOUT.out⟩
            · rw [camW_succ, HLOW.out, HHIGH.out, upto_some _ (k := k) (by omega) HN.out (r := r) (by rw [HNN.out, HG0.out, if_neg (by omega)]; exact HCAM.out)] at hr2
              cases hr2
          | none =>
            obtain ⟨rfl, hout⟩ := hno hcam
            have HBo11 := Aside0.mk (hout.trans HBo10.out)
            have HCAM := Aside0.mk hcam
            clear hso hno hout hcam
            refine ⟨_, rfl, hK.out _ _ ?_⟩
            clear hK K
            refine norm_ (a' := ?_) ?_ ?_
            rotate_left
            · show Act.put _ (some 96) _ = _
              simp only [Act.put, List.setIfInBounds_toArray, List.set_cons_zero, List.set_cons_succ, i64_w, i32_w]
              rfl
            refine done_ (by kernel_rfl) ?_
            go_wp2
            go_roundg ((ha2 + 1 - la2).toNat - (k + 1))
            case measure => have := HK.out; omega
            case rel => exact ⟨k + 1, by simp [← HNN.out]; omega, ⟨by omega, rfl⟩, HKE11, HCE11, HBo11, ⟨fun j hj => by
              by_cases e : j = k
              · subst e; rw [HNN.out, HG0.out, if_neg (by omega)]; exact HCAM.out
              · exact HN.out j (by omega)⟩⟩
    · have hled : decide (la2 + (k : Int) ≤ ha2) = false := decide_eq_false hle
      go_wp2
      go_ret
      have hkk : k = (ha2 + 1 - la2).toNat := by have := HK.out; omega
      refine ⟨HKE.out, HCE1.out, fun r hr => ?_, fun _ => ⟨rfl, HBo.out⟩⟩
      rw [camW_succ, HLOW.out, HHIGH.out, upto_none _ (hkk ▸ HN.out)] at hr
      cases hr
theorem walk_at : ∀ d, WalkAt lw hg sl ch ad cp b S Bs Bo Bw B0 d
  | 0 => walk_zero lw hg sl ch ad cp b S Bs Bo Bw B0 h1 h2 h3 h4 h5 h6 h7
  | d + 1 => by
    intro now left v w hd hnow hleft hce hB hR hnil
    rcases row_shape hR with ⟨rfl, rfl⟩ | ⟨ad2, c, rfl, hc, hC⟩
    · exact walk_step0 lw hg sl ch ad cp b S Bs Bo Bw B0 hsl hlen hlo hhi h1 h2 h3 h4 h5 h6 h7 d (walk_at d) [] left w rfl hd hnow hleft hce hB hR
    · exact walk_step1 lw hg sl ch ad cp b S Bs Bo Bw B0 hsl hlen hlo hhi h1 h2 h3 h4 h5 h6 h7 d (walk_at d) now left ad2 c w (fun e => by have := hnil e; cases this) hd hnow hleft hce hB hR hC
end
end Go.Proofs.YtbjimmemcmjpcabGreatDoor.Print
end

/- What the program's functions compute that the chapter's examples reach, each with the walk that shows it; the kit's words for such walks. Joined by wip/pack.py. -/
import Derived.RangeFuncFrom
import Derived.RangeFuncCalls
import Derived.OwnWalkIn
import Derived.LoopNIn
import Derived.Sort.LoopGhostIn
import Derived.Shelf.RegionOpen
import Derived.WalkKit
import Derived.Test.YtbjimmemcmjpcabGreatDoorB5
import Derived.Test.YtbjimmemcmjpcabGreatDoorB3
section
set_option linter.unusedVariables false
set_option linter.unusedSimpArgs false
namespace Go.Proofs.YtbjimmemcmjpcabGreatDoor.Print
open Go.RowKit Go.Proofs.YtbjimmemcmjpcabGreatDoorW.PrintWords Go.Proofs.YtbjimmemcmjpcabGreatDoorW.PrintLast Go.Proofs.YtbjimmemcmjpcabGreatDoorW.PrintMore
attribute [local go_sem] Oper.semAt_some
def lo (S : List S48) (i : Nat) : Int := (rd_T48 S (i : Int)).f0
def hi (S : List S48) (i : Nat) : Int := (rd_T48 S (i : Int)).f1
def upto (a b : Int) : List Int := (List.range (b + 1 - a).toNat).map fun (i : Nat) => a + (i : Int)
def uptoN (a : Int) (k : Nat) : List Int := (List.range k).map fun (i : Nat) => a + (i : Int)
theorem uptoN_succ (a : Int) (k : Nat) : uptoN a (k + 1) = uptoN a k ++ [a + (k : Int)] := by simp [uptoN, List.range_succ]
theorem uptoN_len (a : Int) (k : Nat) : (uptoN a k).length = k := by simp [uptoN]
theorem uptoN_pre (a : Int) {k n : Nat} (h : k ≤ n) : uptoN a k <+: uptoN a n := by
  obtain ⟨d, rfl⟩ : ∃ d, n = k + d := ⟨n - k, by omega⟩
  induction d with
  | zero => exact List.prefix_rfl
  | succ d ih => rw [← Nat.add_assoc, uptoN_succ]; exact (ih (by omega)).trans (List.prefix_append _ _)
def hts (S : List S48) (sl : Int) (i : Nat) (h : Int) : List Int := upto (max (lo S i) (h - sl)) (min (hi S i) (h + sl))
def SpansAt (w : World) (ad : Addr) (S : List S48) : Prop := ∀ i, i < S.length → w.cell? (ad.add (i * 2)) = some (.int .i64 (lo S i)) ∧ w.cell? ⟨(ad.add (i * 2)).block, (ad.add (i * 2)).off + 1, none⟩ = some (.int .i64 (hi S i))
theorem SpansAt.of_C {w : World} {A : Option Addr} {S : List S48} (h : Kd.C k48 w A S.length S) (h0 : 0 < S.length) : ∃ ad, A = some ad ∧ SpansAt w ad S := by
  obtain ⟨ad, rfl, _⟩ := at_T48 h 0 (by omega) (by omega)
  refine ⟨ad, rfl, fun i hi => ?_⟩
  obtain ⟨ad', e, h1, h2⟩ := at_T48 h (i : Int) (by omega) (by omega)
  cases e
  simp only [Int.toNat_natCast] at h1 h2
  exact ⟨h1, h2⟩
theorem SpansAt.turn {w w' : World} {ad : Addr} {S : List S48} {row : Option Nat} (h : SpansAt w ad S) (hg : w.grownBy w' row) (hrow : ∀ r, row = some r → ∃ o : Obj, w.heap[r]? = some o ∧ o.isCells = false) : SpansAt w' ad S :=
  fun i hi => ⟨cell_kept (h i hi).1 hg hrow, cell_kept (h i hi).2 hg hrow⟩
theorem SpansAt.below {w w' : World} {ad : Addr} {S : List S48} (h : SpansAt w ad S) (hb : Below w.heap.size w w') : SpansAt w' ad S := h.turn (grown_of_below hb none) (fun _ e => by cases e)
abbrev searchV (l h s c : Int) (A : Option Addr) (n cp : Nat) (m : Value) : Value := .agg #[.int .i64 l, .int .i64 h, .int .i64 s, .int .i64 c, .slice A n cp, m]
abbrev searchO (l h s c : Int) (A : Option Addr) (n cp : Nat) (m : Value) : Obj := .cells #[.int .i64 l, .int .i64 h, .int .i64 s, .int .i64 c, .slice A n cp, m] 78 (0, 0)
set_option maxHeartbeats 1000000 in
theorem heights_calls (l h s c : Int) (A : Option Addr) (n cp : Nat) (m : Value) (st ht : Int) (w : World) :
    Calls Tryz.prog 98 #[searchV l h s c A n cp m, .int .i64 st, .int .i64 ht] w fun e w' => e = .returned (.func (.func 108) #[] #[.pointer (some ⟨w.heap.size, 0, none⟩), .pointer (some ⟨w.heap.size + 1, 0, none⟩), .pointer (some ⟨w.heap.size + 2, 0, none⟩)]) ∧ w' = ((w.alloc (searchO l h s c A n cp m)).alloc (.cells #[.int .i64 st] 3)).alloc (.cells #[.int .i64 ht] 3) := by
  have hu := Tryz.underlying78
  have hu2 := Tryz.underlying35
  go_enter Tryz.func98, Tryz.ntmps98
  go_wp2
  go_ret
  exact ⟨rfl, rfl⟩
set_option maxRecDepth 100000 in
set_option maxHeartbeats 4000000 in
theorem heights1_in (n ly B1 B2 B3 : Nat) (w0 : World) (l h s c : Int) (ad : Addr) (cp : Nat) (m : Value) (S : List S48) (st : Nat) (ht : Int) (hn : 2 ≤ n) (hst : st < S.length)
    (hs : 0 ≤ s ∧ s ≤ 30) (hh : 0 ≤ ht ∧ ht ≤ 30) (hlo : 0 ≤ lo S st ∧ lo S st ≤ 100) (hhi : -100 ≤ hi S st ∧ hi S st ≤ 30)
    (J Jx : List Int → World → Prop)
    (hb1 : w0.heap[B1]? = some (searchO l h s c (some ad) S.length cp m)) (hb2 : w0.heap[B2]? = some (.cells #[.int .i64 (st : Int)] 3 (0, 0))) (hb3 : w0.heap[B3]? = some (.cells #[.int .i64 ht] 3 (0, 0)))
    (hS : SpansAt w0 ad S)
    (hY : ∀ pre x W, J pre W → pre.length < (hts S s st ht).length → (0 ≤ x ∧ x ≤ 30) → YieldAt Fence.wide (n - 1) Tryz.prog ly #[Value.int .i64 x] W fun e W' =>
      (e = .returned (.bool true) ∧ J (pre ++ [x]) W' ∧ True) ∨ (e = .returned (.bool false) ∧ Jx (pre ++ [x]) W'))
    (N : Nat) (hJA : AbidesFrom N J)
    (W : World) (hW : Below w0.heap.size w0 W) (h0 : J [] W) :
    CallsIn Fence.wide n Tryz.prog 108 #[.func (.yield ly) #[] #[], .pointer (some ⟨B1, 0, none⟩), .pointer (some ⟨B2, 0, none⟩), .pointer (some ⟨B3, 0, none⟩)] W fun e W' => (∃ v, e = .returned v) ∧
      ((∃ ys, ys = hts S s st ht ∧ J ys W') ∨ (∃ pre, pre <+: hts S s st ht ∧ Jx pre W')) := by
  have hu1 := Tryz.underlying78
  have hu2 := Tryz.underlying35
  have hu3 := Tryz.underlying48
  have grw : ∀ {pre : List Int} {A B : World}, J pre A → Below A.heap.size A B → J pre B := fun hj hb => hJA _ _ _ none hj (grown_of_below hb none) (fun _ e => by cases e)
  have hmx : Tryz.prog.follows .mixedOrders = true := by kernel_rfl
  have q1 := blk_below hb1 hW
  have q2 := blk_below hb2 hW
  have q3 := blk_below hb3 hW
  obtain ⟨x0, x1⟩ := (hS.below hW) st hst
  have d2 : W.cell? ⟨B1, 2, none⟩ = some (.int .i64 s) := (blk_cell q1 2).trans rfl
  have d4 : W.cell? ⟨B1, 4, none⟩ = some (.slice (some ad) S.length cp) := (blk_cell q1 4).trans rfl
  have d6 : W.cell? ⟨B2, 0, none⟩ = some (.int .i64 (st : Int)) := (blk_cell q2 0).trans rfl
  have d7 : W.cell? ⟨B3, 0, none⟩ = some (.int .i64 ht) := (blk_cell q3 0).trans rfl
  obtain ⟨la, hla⟩ : ∃ x, lo S st = x := ⟨_, rfl⟩
  obtain ⟨ha, hha⟩ : ∃ x, hi S st = x := ⟨_, rfl⟩
  have x0' : W.cell? (ad.add (st * 2)) = some (.int .i64 la) := by rw [← hla]; exact x0
  have x1' : W.cell? ⟨(ad.add (st * 2)).block, (ad.add (st * 2)).off + 1, none⟩ = some (.int .i64 ha) := by rw [← hha]; exact x1
  rw [hla] at hlo
  rw [hha] at hhi
  have hdef : hts S s st ht = upto (max la (ht - s)) (min ha (ht + s)) := by unfold hts; rw [hla, hha]
  obtain ⟨H, hH⟩ : ∃ H, hts S s st ht = H := ⟨_, rfl⟩
  rw [hH] at hdef hY ⊢
  have e1 : IntKind.i64.wrap (ht - s) = ht - s := IntWalk.i64_in _ ⟨by omega, by omega⟩
  have e2 : IntKind.i64.wrap (ht + s) = ht + s := IntWalk.i64_in _ ⟨by omega, by omega⟩
  have hkl : ((st : Int) < (S.length : Int)) := by omega
  clear x0 x1 hb1 hb2 hb3 q1 q2 q3
  refine callsIn_of_wp Tryz.func108 rfl trivial ?_ rfl
  simp only [Tryz.ntmps108, List.size_toArray, List.length_cons, List.length_nil, Nat.reduceAdd, Nat.reduceSub, Array.replicate_succ, Array.replicate_zero, List.push_toArray, List.append_toArray, List.nil_append, List.cons_append]
  gi_wp2
  gi_quiet (fail)
  have m1 : (if la < ht - s then ht - s else la) = max la (ht - s) := by split <;> omega
  have m2 : (if ht + s < ha then ht + s else ha) = min ha (ht + s) := by split <;> omega
  rw [m1, m2]
  have bl : 0 ≤ max la (ht - s) ∧ max la (ht - s) ≤ 200 := by omega
  have bh : -200 ≤ min ha (ht + s) ∧ min ha (ht + s) ≤ 30 := by omega
  have h0' : J [] (W.drewN nq) := grw h0 (pw_below_drewN (Below.refl _ _) _)
  clear m1 m2 x0' x1' d2 d4 d6 d7 e1 e2 hkl hS
  generalize max la (ht - s) = a at bl hdef ⊢
  generalize min ha (ht + s) = z at bh hdef ⊢
  have hHn : H = uptoN a (z + 1 - a).toNat := hdef
  clear hdef
  generalize W.drewN nq = W1 at h0' ⊢
  gi_wp2
  gi_loopg [7] ((z + 1 - a).toNat) (fun q v wr => ∃ k : Nat, v = .int .i64 (a + (k : Int)) ∧ Aside0 (k ≤ (z + 1 - a).toNat ∧ q = (z + 1 - a).toNat - k) ∧ Aside0 (J (uptoN a k) wr))
  case atStart => exact ⟨0, by simp, ⟨by omega, by omega⟩, ⟨h0'⟩⟩
  case round =>
    obtain ⟨k, rfl, HK, HJ⟩ := hrel
    by_cases hle : a + (k : Int) ≤ z
    · have hd : decide (a + (k : Int) ≤ z) = true := decide_eq_true hle
      have hk : k < (z + 1 - a).toNat := by omega
      obtain ⟨fn, tmps, assign, body, hy, hR⟩ := hY (uptoN a k) (a + (k : Int)) wr HJ.out (by rw [hHn, uptoN_len, uptoN_len]; exact hk) (by omega)
      have e3 : IntKind.i64.wrap (a + (k : Int) + 1) = a + (k : Int) + 1 := IntWalk.i64_in _ ⟨by omega, by omega⟩
      gi_wp2
      refine ⟨fun _ => by omega, hR.mono ?_⟩
      rintro e W3 (⟨rfl, hJ3, _⟩ | ⟨rfl, hx3⟩)
      · have HJ3 := Aside0.mk hJ3
        clear hJ3
        gi_wp2
        gi_roundg ((z + 1 - a).toNat - (k + 1))
        case measure => have := HK.out; omega
        case rel => exact ⟨k + 1, by simp; omega, ⟨by omega, rfl⟩, ⟨by rw [uptoN_succ]; exact HJ3.out⟩⟩
      · have HX3 := Aside0.mk hx3
        clear hx3
        gi_wp2
        refine bodyPost_ret (results_none rfl _ _ _) rfl ?_
        exact ⟨⟨_, rfl⟩, .inr ⟨_, by rw [← uptoN_succ, hHn]; exact uptoN_pre a hk, HX3.out⟩⟩
    · have hd : decide (a + (k : Int) ≤ z) = false := decide_eq_false hle
      have hk : k = (z + 1 - a).toNat := by have := HK.out; omega
      gi_wp2
      go_end0
      refine ⟨⟨_, rfl⟩, .inl ?_⟩
      have := HJ.out
      rw [hk] at this
      exact this
abbrev Ht := { n : Int // 0 ≤ n ∧ n ≤ 30 }
theorem heights_stops (n B1 B2 B3 : Nat) (w0 : World) (l h s c : Int) (ad : Addr) (cp : Nat) (m : Value) (S : List S48) (st : Nat) (ht : Int) (hn : 2 ≤ n) (hst : st < S.length)
    (hs : 0 ≤ s ∧ s ≤ 30) (hh : 0 ≤ ht ∧ ht ≤ 30) (hlo : 0 ≤ lo S st ∧ lo S st ≤ 100) (hhi : -100 ≤ hi S st ∧ hi S st ≤ 30)
    (hb1 : w0.heap[B1]? = some (searchO l h s c (some ad) S.length cp m)) (hb2 : w0.heap[B2]? = some (.cells #[.int .i64 (st : Int)] 3 (0, 0))) (hb3 : w0.heap[B3]? = some (.cells #[.int .i64 ht] 3 (0, 0)))
    (hS : SpansAt w0 ad S) :
    SeqStopsK Fence.wide n Tryz.prog 108 #[.pointer (some ⟨B1, 0, none⟩), .pointer (some ⟨B2, 0, none⟩), .pointer (some ⟨B3, 0, none⟩)] (fun x : Ht => #[Value.int .i64 x.1]) (fun _ _ => True) (fun ys => ys.map (·.1) = hts S s st ht) (fun pre => pre.map (·.1) <+: hts S s st ht) (hts S s st ht).length w0 :=
  fun ly J Jx W hW hJ hJx hY h0 => (heights1_in n ly B1 B2 B3 w0 l h s c ad cp m S st ht hn hst hs hh hlo hhi (fun q W => ∃ q' : List Ht, q'.map (·.1) = q ∧ J q' W) (fun q W => ∃ q' : List Ht, q'.map (·.1) = q ∧ Jx q' W) hb1 hb2 hb3 hS
    (fun pre x W ⟨q, e, hj⟩ hl hx => by
      obtain ⟨fn, tmps, assign, body, hy, hR⟩ := hY q ⟨x, hx⟩ W hj (by rw [← e, List.length_map] at hl; exact hl)
      refine ⟨fn, tmps, assign, body, hy, hR.mono ?_⟩
      rintro e2 W3 (⟨h1, h2, _⟩ | ⟨h1, h2⟩)
      · exact .inl ⟨h1, ⟨_, by rw [List.map_append, e]; rfl, h2⟩, trivial⟩
      · exact .inr ⟨h1, ⟨_, by rw [List.map_append, e]; rfl, h2⟩⟩)
    W.heap.size (fun q A B row ⟨q', e, hj⟩ hg hr => ⟨q', e, hJ q' A B row hj hg hr⟩) W hW ⟨[], rfl, h0⟩).mono (by
      rintro e W3 ⟨hv, (⟨ys, rfl, q', e2, hj⟩ | ⟨pre, hp, q', rfl, hj⟩)⟩
      · exact ⟨hv, .inl ⟨q', e2, hj⟩⟩
      · exact ⟨hv, .inr ⟨q', hp, hj⟩⟩)
end Go.Proofs.YtbjimmemcmjpcabGreatDoor.Print
end

/- What the program's functions compute that the chapter's examples reach, each with the walk that shows it; the kit's words for such walks. Joined by wip/pack.py. -/
import Derived.Maps.OwnIn
import Derived.DeepKeys4
import Derived.Test.YtbjimmemcmjpcabGreatDoorB4
section
set_option linter.unusedVariables false
set_option linter.unusedSimpArgs false
namespace Go.Proofs.YtbjimmemcmjpcabGreatDoor.Print
open Go.RowKit Go.Proofs.YtbjimmemcmjpcabGreatDoorW.PrintWords Go.Proofs.YtbjimmemcmjpcabGreatDoorW.PrintLast Go.Proofs.YtbjimmemcmjpcabGreatDoorW.PrintMore
open Go.Maps (Keyed has)
theorem cm_laidOut : laidOutB Tryz.prog = true := by kernel_rfl
theorem spot_wide : (match Tryz.prog.underlying 104 with | some (.array _ _) | some (.struct _) => true | _ => false) = true := by rw [Tryz.underlying104]
theorem spot_row : 104 < Tryz.prog.types.size := of_decide_eq_true (by kernel_rfl)
theorem spot_at : Tryz.prog.keyTypeAt 2 104 = true := by kernel_rfl
set_option maxRecDepth 100000 in
theorem spot_law : WideMaps.KeyLaw Tryz.prog 104 := deep_law_laid cm_laidOut (m := 2) (by omega) spot_row spot_at spot_wide
theorem spot_keyed : Keyed Tryz.prog 104 := Keyed.of_law spot_law
abbrev spotV (s h f : Int) : Value := .agg #[.int .i64 s, .int .i64 h, .int .i64 f]
def spotK (s h f : Int) : Lit := .string (keyBytes [.int .i64 s, .int .i64 h, .int .i64 f])
theorem spot_key {s h f : Int} (hs : (Lit.int .i64 s).wf = true) (hh : (Lit.int .i64 h).wf = true) (hf : (Lit.int .i64 f).wf = true) : keyOf Tryz.prog 104 (spotV s h f) = some (spotK s h f) := by
  have hsz : ∃ m, Tryz.prog.types.size + 1 = m + 1 + 1 := ⟨Tryz.prog.types.size - 1, by have := spot_row; omega⟩
  have hkt : Tryz.prog.keyType 104 = true := by kernel_rfl
  have hco : Tryz.prog.cellsOf 104 = 3 := by kernel_rfl
  have hc3 : Tryz.prog.cellsOf 3 = 1 := by kernel_rfl
  obtain ⟨m, hm⟩ := hsz
  unfold keyOf
  simp only [Tryz.underlying104]
  rw [if_pos (by simp [hkt, Value.formed, Tryz.underlying104, hco]), hm]
  unfold Program.keyLits
  simp only [Tryz.underlying104, Value.cells]
  rw [if_pos (by rw [hco]; simp)]
  simp [Program.keyLits, Tryz.underlying3, hs, hh, hf, hc3, spotK]
theorem nodup_le : ∀ (N : Nat) (L : List Nat), L.Nodup → (∀ x ∈ L, x < N) → L.length ≤ N
  | 0, L, _, h => by
    cases L with
    | nil => simp
    | cons a L => exact absurd (h a (by simp)) (by omega)
  | N + 1, L, hn, h => by
    by_cases hm : N ∈ L
    · have h1 := nodup_le N (L.erase N) (hn.erase N) (fun x hx => by
        have h2 := (hn.mem_erase_iff).1 hx
        have := h x h2.2
        have := h2.1
        omega)
      have h3 := List.length_erase_of_mem hm
      have : 0 < L.length := List.length_pos_of_mem hm
      omega
    · exact Nat.le_succ_of_le (nodup_le N L hn fun x hx => by
        have := h x hx
        have : x ≠ N := fun e => hm (e ▸ hx)
        omega)
abbrev Spot := Int × Int × Int
def inBox (x : Spot) : Prop := (0 ≤ x.1 ∧ x.1 ≤ 30) ∧ (0 ≤ x.2.1 ∧ x.2.1 ≤ 30) ∧ (0 ≤ x.2.2 ∧ x.2.2 ≤ 30)
def spotN (x : Spot) : Nat := (x.1 * 961 + x.2.1 * 31 + x.2.2).toNat
theorem spots_few {L : List Spot} (hn : L.Nodup) (hb : ∀ x ∈ L, inBox x) : L.length ≤ 29791 := by
  have h1 : (L.map spotN).Nodup := by
    refine List.pairwise_map.2 (hn.imp_of_mem fun {a b} ha hb' hne he => hne ?_)
    have h1 := hb a ha
    have h2 := hb b hb'
    unfold inBox at h1 h2
    unfold spotN at he
    obtain ⟨a1, a2, a3⟩ := a
    obtain ⟨b1, b2, b3⟩ := b
    simp only at h1 h2 he ⊢
    have e1 : a1 = b1 := by omega
    have e2 : a2 = b2 := by omega
    have e3 : a3 = b3 := by omega
    rw [e1, e2, e3]
  have h2 := nodup_le 29791 _ h1 (fun x hx => by
    obtain ⟨y, hy, rfl⟩ := List.mem_map.1 hx
    have h1 := hb y hy
    unfold inBox at h1
    unfold spotN
    omega)
  simpa using h2
theorem wf_box {n : Int} (h : 0 ≤ n ∧ n ≤ 30) : (Lit.int .i64 n).wf = true := by
  have h1 : IntKind.i64.min = -9223372036854775808 := by decide
  have h2 : IntKind.i64.max = 9223372036854775807 := by decide
  simp [Lit.wf, h1, h2]
  omega
theorem wf_small {n : Int} (h : 0 ≤ n ∧ n ≤ 1000000) : (Lit.int .i64 n).wf = true := by
  have h1 : IntKind.i64.min = -9223372036854775808 := by decide
  have h2 : IntKind.i64.max = 9223372036854775807 := by decide
  simp [Lit.wf, h1, h2]
  omega
def keyL (x : Spot) : Lit := spotK x.1 x.2.1 x.2.2
theorem key_box {x : Spot} (h : inBox x) : keyOf Tryz.prog 104 (spotV x.1 x.2.1 x.2.2) = some (keyL x) := spot_key (wf_box h.1) (wf_box h.2.1) (wf_box h.2.2)
theorem key_ne {x y : Spot} (hx : inBox x) (hy : inBox y) (h : x ≠ y) : keyL x ≠ keyL y := fun e => h (by
  have h1 := key_box hx
  rw [e] at h1
  have h2 := spot_keyed.inj h1 (key_box hy)
  obtain ⟨a1, a2, a3⟩ := x
  obtain ⟨b1, b2, b3⟩ := y
  simpa using h2)
def MapOK (V : Spot → Int) (w : World) (b : Nat) (L : List Spot) : Prop :=
  ∃ D : DataW Unit, w.ownsMap Tryz.prog 104 (plainElem Tryz.prog 3) b L.length D ∧ Maps.IsMap D ∧ L.Nodup ∧ (∀ x ∈ L, inBox x) ∧ (∀ x, inBox x → has D (keyL x) = decide (x ∈ L)) ∧
    ∀ x ∈ L, D.atKey (keyL x) (.lit (.int .i64 0)) = .lit (.int .i64 (V x))
theorem MapOK.lt {V : Spot → Int} {w : World} {b : Nat} {L : List Spot} (h : MapOK V w b L) : b < w.heap.size := by
  obtain ⟨D, h, _⟩ := h
  exact h.lt
theorem MapOK.kept {V : Spot → Int} {w w' : World} {b : Nat} {L : List Spot} {row : Option Nat} (h : MapOK V w b L) (hg : w.grownBy w' row) (hne : some b ≠ row) : MapOK V w' b L := by
  obtain ⟨D, h, r⟩ := h
  exact ⟨D, h.kept hg hne, r⟩
theorem MapOK.below {V : Spot → Int} {w w' : World} {b : Nat} {L : List Spot} (h : MapOK V w b L) (hb : Below w.heap.size w w') : MapOK V w' b L := h.kept (grown_of_below hb none) (by simp)
theorem MapOK_made (V : Spot → Int) (w : World) : MapOK V (w.alloc (.map #[] 0)) w.heap.size [] :=
  ⟨.map [], World.ownsMap_made w _ _ _, Maps.isMap_empty, List.nodup_nil, by simp, fun x _ => by simp [Maps.has_eq], by simp⟩
section
variable {F : Fence} {nF : Nat} {V : Spot → Int} (w : World) {ops : Array Oper} {rest : List Oper} {o : Oper} {a : Act} {Q : Exit → Act → World → Prop}
theorem spot_lookup (hg : o.guard = none) (m x : Operand) (hop : o.op = Op.lookup 76 m x true) {b : Nat} {L : List Spot} (hM : MapOK V w b L) (hm : a.eval m = .map (some b)) (y : Spot) (hy : inBox y) (hx : a.eval x = spotV y.1 y.2.1 y.2.2)
    (hK : wpListIn F nF Tryz.prog ops Q rest (a.put o.dst (.tuple #[.int .i64 (if y ∈ L then V y else 0), .bool (decide (y ∈ L))])) w) :
    wpListIn F nF Tryz.prog ops Q (o :: rest) a w := by
  obtain ⟨D, hown, _, _, _, hhas, hval⟩ := hM
  refine wpListIn_lookup_own_ok_int w hg m x 76 hop 104 3 .i64 spot_keyed Tryz.underlying76 Tryz.underlying3 (by kernel_rfl) b _ D hm hown _ (keyL y) hx (key_box hy) ?_
  intro c hat _
  rw [hhas y hy]
  by_cases hm : y ∈ L
  · rw [hval y hm] at hat
    have : V y = c := by simpa using hat
    rw [if_pos hm, this] at hK
    exact hK
  · rw [Maps.atKey_of_not_has (by rw [hhas y hy]; simpa using hm)] at hat
    have : (0 : Int) = c := by simpa using hat
    rw [if_neg hm, this] at hK
    exact hK
theorem spot_update (hg : o.guard = none) (m x v : Operand) (hop : o.op = Op.mapUpdate 76 m x v) {b : Nat} {L : List Spot} (hM : MapOK V w b L) (hm : a.eval m = .map (some b)) (y : Spot) (hy : inBox y) (hnew : y ∉ L) (hx : a.eval x = spotV y.1 y.2.1 y.2.2)
    (hv : a.eval v = .int .i64 (V y)) (hwf : (Lit.int .i64 (V y)).wf = true)
    (hK : ∀ w', MapOK V w' b (y :: L) → w.grownBy w' (some b) → wpListIn F nF Tryz.prog ops Q rest (a.put o.dst undef) w') :
    wpListIn F nF Tryz.prog ops Q (o :: rest) a w := by
  obtain ⟨D, hown, his, hnd, hbox, hhas, hval⟩ := hM
  have hlen := spots_few hnd hbox
  refine wpListIn_mapUpdate_own w hg m x v 76 hop 104 3 spot_keyed Tryz.underlying76 _ b _ D hm hown (by unfold maxLen; omega) _ _ (keyL y) hx hv (key_box hy) (.lit (.int .i64 (V y))) [] (plainElem_int Tryz.underlying3 hwf) ?_
  intro w' hown' hgrow
  have hkl := spot_keyed.key (key_box hy)
  refine hK w' ⟨D.put (keyL y) (.lit (.int .i64 (V y))), hown', his.put _ _, List.nodup_cons.2 ⟨hnew, hnd⟩, ?_, ?_, ?_⟩ hgrow
  · intro z hz
    rcases List.mem_cons.1 hz with rfl | hz
    · exact hy
    · exact hbox z hz
  · intro z hz
    by_cases e : z = y
    · subst e
      rw [Maps.has_put_same his hkl]; simp
    · rw [Maps.has_put_other (key_ne hz hy e), hhas z hz]; simp [e]
  · intro z hz
    rcases List.mem_cons.1 hz with rfl | hz
    · exact Maps.atKey_put_same his hkl _ _
    · rw [Maps.atKey_put_other (key_ne (hbox z hz) hy (fun e => hnew (e ▸ hz)))]
      exact hval z hz
end
end Go.Proofs.YtbjimmemcmjpcabGreatDoor.Print
end

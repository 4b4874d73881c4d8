/- What the program's functions compute that the chapter's examples reach, each with the walk that shows it; the kit's words for such walks. Joined by wip/pack.py. -/
import Derived.Lib.SmallJoins
import Derived.Lib.AppendIntMem
import Derived.Test.YtbjimmemcmjpcabGreatDoorB4
import Derived.Test.YtbjimmemcmjpcabGreatDoorB5
import Derived.Test.YtbjimmemcmjpcabGreatDoorB15
section
set_option linter.unusedVariables false
set_option linter.unusedSimpArgs false
set_option linter.unusedSectionVars false
namespace Go.Proofs.YtbjimmemcmjpcabGreatDoor.Print
open Go.RowKit Go.Proofs.YtbjimmemcmjpcabGreatDoorW.PrintWords Go.Proofs.YtbjimmemcmjpcabGreatDoorW.PrintLast Go.Proofs.YtbjimmemcmjpcabGreatDoorW.PrintMore
def Tb (w : World) : Prop := Lib.TabIs Tryz.prog w "internal/strconv.uint64pow10" .u64 Lib.pow10Tab
theorem Tb_below {w w' : World} (h : Tb w) (hb : Below w.heap.size w w') : Tb w' := by
  cases hg : Tryz.prog.globalNamed "internal/strconv.uint64pow10" with
  | none => exact absurd h (by unfold Tb Lib.TabIs World.var?; rw [hg]; simp)
  | some g => exact Joins.tab_stays hg h hb (Nat.le_refl _)
def Numer (w : World) (n : Int) : Prop := (0 ≤ n ∧ n ≤ 999) ∧ (n < 100 ∨ Tb w)
theorem Numer_below {w w' : World} {n : Int} (h : Numer w n) (hb : Below w.heap.size w w') : Numer w' n := ⟨h.1, h.2.imp id fun k => Tb_below k hb⟩
theorem itoa_calls (n : Int) (w : World) (h : Numer w n) : Calls Tryz.prog 92 #[.int .i64 n] w fun e w' => e = .returned (.string ⟨(Lib.decDigits n.toNat).toArray⟩) ∧ Below w.heap.size w w' := by
  obtain ⟨m, rfl⟩ := Int.eq_ofNat_of_zero_le h.1.1
  rcases h.2 with h2 | h2
  · exact (Tryz.strconv_Itoa_small m (by omega) w).mono fun e w' ⟨he, hw⟩ => ⟨by rw [he, Int.toNat_natCast], hw ▸ Below.refl _ _⟩
  · refine (Tryz.strconv_Itoa (m : Int) (by omega) (by have := h.1.2; omega) w h2).mono fun e w' ⟨he, k, os, hw⟩ => ⟨by rw [he, Lib.itoa_nonneg, Int.toNat_natCast], ?_⟩
    rw [hw]
    exact Lib.below_grow _ _ (Nat.le_refl _) k os
theorem words_calls (w : World) : Calls Tryz.prog 102 #[] w fun e w' => e = .returned (.agg #[.string ⟨#[98, 111, 111, 107]⟩, .string ⟨#[99, 97, 109]⟩]) ∧ Below w.heap.size w w' := by
  go_enter Tryz.func102, Tryz.ntmps102
  go_wp2
  refine bodyPost_ret (v := .agg #[.string ⟨#[98, 111, 111, 107]⟩, .string ⟨#[99, 97, 109]⟩]) ?_ rfl ?_
  · have e0 := (blk_cell (blk_new w (.cells #[Value.string ⟨#[98, 111, 111, 107]⟩, .string ⟨#[99, 97, 109]⟩] 136)) 0).trans rfl
    have e1 := (blk_cell (blk_new w (.cells #[Value.string ⟨#[98, 111, 111, 107]⟩, .string ⟨#[99, 97, 109]⟩] 136)) 1).trans rfl
    simp [results, Tryz.results102, go_sem, e0, e1]
  · exact ⟨rfl, below_alloc (Below.refl _ w) _⟩
theorem own_numbers (v : Value) (w : World) : Calls Tryz.prog 143 #[v] w fun e w' => e = .returned v ∧ w = w' := by
  go_enter Tryz.func143, Tryz.ntmps143
  go_wp2
  go_ret
  exact ⟨rfl, rfl⟩
theorem head_numbers (a b c d : Int) (w : World) : Calls Tryz.prog 142 #[.agg #[.int .i64 a, .int .i64 b, .int .i64 c, .int .i64 d]] w fun e w' => ∃ g, e = .returned (.slice (some ⟨g, 0, none⟩) 4 4) ∧ w.heap.size ≤ g ∧ w'.heap[g]? = some (.cells #[.int .i64 a, .int .i64 b, .int .i64 c, .int .i64 d] 3 (0, 0)) ∧ Below w.heap.size w w' := by
  go_enter Tryz.func142, Tryz.ntmps142
  go_wp2
  go_ret
  refine ⟨_, rfl, by omega, ?_, below_alloc (below_alloc (Below.refl _ w) _) _⟩
  have := blk_new (w.alloc (.cells #[.int .i64 a, .int .i64 b, .int .i64 c, .int .i64 d] 119)) (.cells #[.int .i64 a, .int .i64 b, .int .i64 c, .int .i64 d] 3)
  rwa [World.size_alloc] at this
def numsS : List Int → List UInt8
  | [] => []
  | n :: l => 32 :: (Lib.decDigits n.toNat ++ numsS l)
theorem numsS_app : ∀ (l k : List Int), numsS (l ++ k) = numsS l ++ numsS k
  | [], k => rfl
  | n :: l, k => by simp [numsS, numsS_app l k]
theorem numsS_take (l : List Int) (k : Nat) (h : k < l.length) : numsS (l.take (k + 1)) = numsS (l.take k) ++ (32 :: Lib.decDigits (rd l k).toNat) := by
  rw [List.take_succ_eq_append_getElem h, numsS_app]
  simp [numsS, rd, List.getD_eq_getElem?_getD, h]
def kindS (k : Bool) : List UInt8 := if k then [99, 97, 109] else [98, 111, 111, 107]
def rowS (k : Bool) (l : List Int) : List UInt8 := kindS k ++ numsS l
theorem dec_len (n : Nat) (h : n ≤ 999) : (Lib.decDigits n).length ≤ 3 := by
  unfold Lib.decDigits
  split
  · simp
  · rw [List.length_append]
    have : (Lib.decDigits (n / 10)).length ≤ 2 := by
      unfold Lib.decDigits
      split
      · simp
      · rw [List.length_append]
        have : (Lib.decDigits (n / 10 / 10)).length ≤ 1 := by
          unfold Lib.decDigits
          rw [dif_pos (by omega)]
          simp
        simp; omega
    simp; omega
theorem numsS_len : ∀ (l : List Int), (∀ n ∈ l, n ≤ 999) → (numsS l).length ≤ 4 * l.length
  | [], _ => by simp [numsS]
  | n :: l, h => by
    have h1 := numsS_len l (fun m hm => h m (by simp [hm]))
    have h2 := dec_len n.toNat (by have := h n (by simp); omega)
    simp [numsS]; omega
theorem rowS_len (k : Bool) (l : List Int) (h : ∀ n ∈ l, n ≤ 999) : (rowS k l).length ≤ 4 + 4 * l.length := by
  have := numsS_len l h
  unfold rowS kindS
  rw [List.length_append]
  split <;> simp <;> omega
set_option maxRecDepth 100000 in
set_option maxHeartbeats 1000000 in
theorem row_own (A : Option Addr) (c : Nat) (l : List Int) (w : World) (hC : Kd.C (Kd.int .i64) w A l.length l) (hl : l.length ≤ 1000) (hn : ∀ n ∈ l, Numer w n) :
    Calls Tryz.prog 91 #[.iface 121 (.slice A l.length c)] w fun e w' => e = .returned (.string ⟨(rowS true l).toArray⟩) ∧ Below w.heap.size w w' := by
  have hta : ∀ W : World, (Instr.typeAssert (.iface 121 (.slice A l.length c)) 135 121 true).run Tryz.prog W = .ok (.tuple #[.slice A l.length c, .bool true]) W := fun _ => by kernel_rfl
  have hix : ∀ W : World, (Instr.index 136 (.agg #[.string ⟨#[98, 111, 111, 107]⟩, .string ⟨#[99, 97, 109]⟩]) (.int .i64 1)).run Tryz.prog W = .ok (.string ⟨#[99, 97, 109]⟩) W := fun _ => by kernel_rfl
  have hcm : ∀ W : World, (callMethod (.iface 121 (.slice A l.length c)) "tellurion/cam.numbers" #[]).run Tryz.prog W = .ok (.enter 143 #[.slice A l.length c]) W := fun _ => by kernel_rfl
  have HC := Aside0.mk hC
  have HN := Aside0.mk hn
  clear hC hn
  go_enter Tryz.func91, Tryz.ntmps91
  go_wp2_with fail
  refine (words_calls _).mono ?_
  rintro e w1 ⟨rfl, hb1⟩
  have HB1 := Aside0.mk hb1
  clear hb1
  go_wp2_with fail
  refine (own_numbers _ _).mono ?_
  rintro e w' ⟨rfl, rfl⟩
  go_wp2_with fail
  go_loopg [4, 17] l.length (fun m v4 v17 w' => ∃ k : Nat, v17 = .int .i64 k ∧ v4 = .string ⟨(rowS true (l.take k)).toArray⟩ ∧ Aside0 (k ≤ l.length ∧ m = l.length - k) ∧ Aside0 (Below w.heap.size w w'))
  case atStart => exact ⟨0, rfl, rfl, ⟨by omega, by omega⟩, HB1⟩
  case round =>
    obtain ⟨k, rfl, rfl, HK, HB⟩ := hrel
    by_cases hk : k < l.length
    · obtain ⟨ad', e1, hx⟩ := at_nat (Kd.C_below HC.out HB.out) k hk
      cases e1
      have hnum := Numer_below (HN.out (rd l k) (by simp [rd, List.getD_eq_getElem?_getD, hk])) HB.out
      have hit := itoa_calls (rd l k) wr hnum
      have hds := dec_len (rd l k).toNat (by have := hnum.1; omega)
      have hout := rowS_len true (l.take k) (fun n hm => (HN.out n (List.mem_of_mem_take hm)).1.2)
      rw [List.length_take] at hout
      have hnext : rowS true (l.take (k + 1)) = rowS true (l.take k) ++ (32 :: Lib.decDigits (rd l k).toNat) := by unfold rowS; rw [numsS_take l k hk, List.append_assoc]
      have HNX := Aside0.mk hnext
      clear hnext
      generalize rowS true (l.take k) = out at HNX hout ⊢
      generalize hdd : Lib.decDigits (rd l k).toNat = ds at HNX hds hit ⊢
      generalize hrk : rd l k = rk at hx hit hdd ⊢
      have hadd1 : ∀ W : World, (Op.stringOp .add ⟨#[32]⟩ ⟨ds.toArray⟩).run Tryz.prog W = .ok (.string ⟨(32 :: ds).toArray⟩) W := fun W => run_string_add_lists W [32] ds (by simp) (by omega)
      have hadd2 : ∀ W : World, (Op.stringOp .add ⟨out.toArray⟩ ⟨(32 :: ds).toArray⟩).run Tryz.prog W = .ok (.string ⟨(out ++ (32 :: ds)).toArray⟩) W := fun W => run_string_add_lists W out (32 :: ds) (by omega) (by simp; omega)
      have HIT := Aside0.mk hit
      clear hdd hrk hnum hds hout hit
      go_wp2_with fail
      refine HIT.out.mono ?_
      rintro e w2 ⟨rfl, hb2⟩
      have HB2 := Aside0.mk (below_step HB.out hb2)
      clear hb2
      go_wp2_with fail
      go_roundg (l.length - (k + 1))
      case measure => have := HK.out; omega
      case rel => exact ⟨k + 1, by go_num, by rw [HNX.out], ⟨by omega, by omega⟩, HB2⟩
    · go_wp2
      go_ret
      have := HK.out
      have e : k = l.length := by omega
      exact ⟨by rw [e, List.take_length]; rfl, HB.out⟩
set_option maxRecDepth 100000 in
set_option maxHeartbeats 1000000 in
theorem row_head (a b c d : Int) (w : World) (hn : ∀ n ∈ [a, b, c, d], Numer w n) :
    Calls Tryz.prog 91 #[.iface 119 (.agg #[.int .i64 a, .int .i64 b, .int .i64 c, .int .i64 d])] w fun e w' => e = .returned (.string ⟨(rowS false [a, b, c, d]).toArray⟩) ∧ Below w.heap.size w w' := by
  have hta : ∀ W : World, (Instr.typeAssert (.iface 119 (.agg #[.int .i64 a, .int .i64 b, .int .i64 c, .int .i64 d])) 135 121 true).run Tryz.prog W = .ok (.tuple #[.slice none 0 0, .bool false]) W := fun _ => by kernel_rfl
  have hix : ∀ W : World, (Instr.index 136 (.agg #[.string ⟨#[98, 111, 111, 107]⟩, .string ⟨#[99, 97, 109]⟩]) (.int .i64 0)).run Tryz.prog W = .ok (.string ⟨#[98, 111, 111, 107]⟩) W := fun _ => by kernel_rfl
  have hcm : ∀ W : World, (callMethod (.iface 119 (.agg #[.int .i64 a, .int .i64 b, .int .i64 c, .int .i64 d])) "tellurion/cam.numbers" #[]).run Tryz.prog W = .ok (.enter 142 #[.agg #[.int .i64 a, .int .i64 b, .int .i64 c, .int .i64 d]]) W := fun _ => by kernel_rfl
  have HN := Aside0.mk hn
  clear hn
  go_enter Tryz.func91, Tryz.ntmps91
  go_wp2_with fail
  refine (words_calls _).mono ?_
  rintro e w1 ⟨rfl, hb1⟩
  have HB1 := Aside0.mk hb1
  clear hb1
  go_wp2_with fail
  refine (head_numbers a b c d _).mono ?_
  rintro e w2 ⟨g, rfl, hg, hblk, hb2⟩
  obtain ⟨l, hl⟩ : ∃ l, [a, b, c, d] = l := ⟨_, rfl⟩
  have hl4 : l.length = 4 := by rw [← hl]; rfl
  have HB2 := Aside0.mk (below_step HB1.out hb2)
  have HBK : Aside0 (w2.heap[g]? = some (.cells (l.map (Value.int .i64)).toArray 3 (0, 0))) := ⟨by rw [hblk, ← hl]; rfl⟩
  rw [hl] at HN
  have HL := Aside0.mk hl
  replace HN := Aside0.mk (fun n hm => Numer_below (HN.out n hm) HB2.out)
  clear hb2 hblk hl HB1
  go_wp2_with fail
  go_loopg [4, 17] 4 (fun m v4 v17 w' => ∃ k : Nat, v17 = .int .i64 k ∧ v4 = .string ⟨(rowS false (l.take k)).toArray⟩ ∧ Aside0 (k ≤ 4 ∧ m = 4 - k) ∧ Aside0 (Below w2.heap.size w2 w'))
  case atStart => exact ⟨0, rfl, rfl, ⟨by omega, by omega⟩, ⟨Below.refl _ _⟩⟩
  case round =>
    obtain ⟨k, rfl, rfl, HK, HB⟩ := hrel
    by_cases hk : k < 4
    · have hx : wr.cell? ⟨g, k, none⟩ = some (.int .i64 (rd l k)) := (blk_cell (blk_below HBK.out HB.out) k).trans (by simp [rd, List.getD_eq_getElem?_getD, hl4, hk])
      have hnum := Numer_below (HN.out (rd l k) (by simp [rd, List.getD_eq_getElem?_getD, hl4, hk])) HB.out
      have hit := itoa_calls (rd l k) wr hnum
      have hds := dec_len (rd l k).toNat (by have := hnum.1; omega)
      have hout := rowS_len false (l.take k) (fun n hm => (HN.out n (List.mem_of_mem_take hm)).1.2)
      rw [List.length_take] at hout
      have hnext : rowS false (l.take (k + 1)) = rowS false (l.take k) ++ (32 :: Lib.decDigits (rd l k).toNat) := by unfold rowS; rw [numsS_take l k (by omega), List.append_assoc]
      have HNX := Aside0.mk hnext
      clear hnext
      generalize rowS false (l.take k) = out at HNX hout ⊢
      generalize hdd : Lib.decDigits (rd l k).toNat = ds at HNX hds hit ⊢
      generalize hrk : rd l k = rk at hx hit hdd ⊢
      have hadd1 : ∀ W : World, (Op.stringOp .add ⟨#[32]⟩ ⟨ds.toArray⟩).run Tryz.prog W = .ok (.string ⟨(32 :: ds).toArray⟩) W := fun W => run_string_add_lists W [32] ds (by simp) (by omega)
      have hadd2 : ∀ W : World, (Op.stringOp .add ⟨out.toArray⟩ ⟨(32 :: ds).toArray⟩).run Tryz.prog W = .ok (.string ⟨(out ++ (32 :: ds)).toArray⟩) W := fun W => run_string_add_lists W out (32 :: ds) (by omega) (by simp; omega)
      have HIT := Aside0.mk hit
      clear hdd hrk hnum hds hout hit
      go_wp2_with fail
      refine HIT.out.mono ?_
      rintro e w3 ⟨rfl, hb3⟩
      have HB3 := Aside0.mk (below_step HB.out hb3)
      clear hb3
      go_wp2_with fail
      go_roundg (4 - (k + 1))
      case measure => have := HK.out; omega
      case rel => exact ⟨k + 1, by go_num, by rw [HNX.out], ⟨by omega, by omega⟩, HB3⟩
    · go_wp2
      go_ret
      have := HK.out
      have e : k = l.length := by omega
      exact ⟨by rw [HL.out, e, List.take_length]; rfl, below_then HB2.out HB2.out.size HB.out⟩
end Go.Proofs.YtbjimmemcmjpcabGreatDoor.Print
end

/- What the program's functions compute that the chapter's examples reach, each with the walk that shows it; the kit's words for such walks. Joined by wip/pack.py. -/
import Derived.Deep.DeepMust
import Derived.Test.YtbjimmemcmjpcabGreatDoorB16
section
set_option linter.unusedVariables false
set_option linter.unusedSimpArgs false
set_option linter.unusedSectionVars false
namespace Go.Proofs.YtbjimmemcmjpcabGreatDoor.Print
open Go.RowKit Go.Proofs.YtbjimmemcmjpcabGreatDoorW.PrintWords Go.Proofs.YtbjimmemcmjpcabGreatDoorW.PrintLast Go.Proofs.YtbjimmemcmjpcabGreatDoorW.PrintMore
def kStr : Kd ByteArray := Kd.scalar Value.string (fun _ => rfl)
theorem infoStr : (Tryz.prog.info? 9).map (fun i => (i.zero, i.size, i.bytes)) = some (some (.string ⟨#[]⟩), 1, 16) := by kernel_rfl
theorem R_of_strs {w : World} {g base : Nat} {xs : List ByteArray} (h : w.heap[g]? = some (.cells (xs.map Value.string).toArray 9 (0, 0))) (hb : base ≤ g) (hl : xs.length ≤ 1000) : Kd.R kStr 9 w base (fun _ => True) (.slice (some ⟨g, 0, none⟩) xs.length xs.length) xs := by
  refine Kd.R_of_own (enc := Value.string) (h1 := fun _ => rfl) ⟨by simp [encs], .inr ⟨g, xs.length, _, rfl, hb, h, Nat.le_refl _, by unfold maxLen; omega, ?_, ?_⟩⟩ (fun _ _ => trivial)
  · simp [encs]
  · exact List.take_of_length_le (by simp)
theorem C_of_strs {w : World} {g : Nat} {xs : List ByteArray} (h : w.heap[g]? = some (.cells (xs.map Value.string).toArray 9 (0, 0))) (hl : xs.length ≤ 1000) : Kd.C kStr w (some ⟨g, 0, none⟩) xs.length xs := by
  obtain ⟨A, c, he, _, hC⟩ := Kd.R_reads (R_of_strs h (Nat.le_refl g) hl)
  cases he
  exact hC
def bytesOf (X : List (List UInt8)) : List ByteArray := X.map fun x => ⟨x.toArray⟩
def rowsS (a b c d : Int) (L : List (List Int)) : List (List UInt8) := rowS false [a, b, c, d] :: L.map (rowS true)
def chkR (x : List UInt8) (i : Nat) : Nat → Int
  | 0 => 0
  | k + 1 => chkR x i k + ((x.getD k 0).toNat : Int) * ((k : Int) + 1) * ((i : Int) + 1)
def chkA (Y : List (List UInt8)) : Nat → Int
  | 0 => 0
  | i + 1 => chkA Y i + chkR (Y.getD i []) i (Y.getD i []).length
theorem chk_term (x : List UInt8) (i k : Nat) (hi : i ≤ 400) (hk : k ≤ 2500) : 0 ≤ ((x.getD k 0).toNat : Int) * ((k : Int) + 1) * ((i : Int) + 1) ∧ ((x.getD k 0).toNat : Int) * ((k : Int) + 1) ≤ 255 * 2501 ∧ 0 ≤ ((x.getD k 0).toNat : Int) * ((k : Int) + 1) ∧ ((x.getD k 0).toNat : Int) * ((k : Int) + 1) * ((i : Int) + 1) ≤ 255 * 2501 * 401 := by
  have h0 : (x.getD k 0).toNat < 256 := (x.getD k 0).toNat_lt
  generalize (x.getD k 0).toNat = c at h0 ⊢
  have h1 : (c : Int) * ((k : Int) + 1) ≤ 255 * 2501 := Int.mul_le_mul (by omega) (by omega) (by omega) (by omega)
  have h2 : 0 ≤ (c : Int) * ((k : Int) + 1) := Int.mul_nonneg (by omega) (by omega)
  exact ⟨Int.mul_nonneg h2 (by omega), h1, h2, Int.mul_le_mul h1 (by omega) (by omega) (by omega)⟩
theorem chkR_bd (x : List UInt8) (i : Nat) (hi : i ≤ 400) : ∀ k : Nat, k ≤ 2500 → 0 ≤ chkR x i k ∧ chkR x i k ≤ 255739755 * k
  | 0, _ => by simp [chkR]
  | k + 1, h => by
    have h1 := chkR_bd x i hi k (by omega)
    have h2 := chk_term x i k hi (by omega)
    unfold chkR
    omega
theorem chkA_bd (Y : List (List UInt8)) (hY : ∀ x ∈ Y, x.length ≤ 2500) : ∀ i : Nat, i ≤ 401 → 0 ≤ chkA Y i ∧ chkA Y i ≤ 639349387500 * i
  | 0, _ => by simp [chkA]
  | i + 1, h => by
    have h1 := chkA_bd Y hY i (by omega)
    have hl : (Y.getD i []).length ≤ 2500 := by
      rw [List.getD_eq_getElem?_getD]
      by_cases hi : i < Y.length
      · simp [hi]; exact hY _ (List.getElem_mem hi)
      · simp [hi]
    have h2 := chkR_bd (Y.getD i []) i (by omega) _ hl
    unfold chkA
    omega
def endS (c : Int) : List UInt8 := [101, 110, 100, 32] ++ Lib.decDigits (c / 100).toNat ++ Lib.decDigits (c / 10 % 10).toNat ++ Lib.decDigits (c % 10).toNat
theorem str_at {w : World} {A : Option Addr} {Y : List (List UInt8)} (h : Kd.C kStr w A (bytesOf Y).length (bytesOf Y)) (i : Nat) (hi : i < Y.length) : ∃ ad, A = some ad ∧ w.cell? (ad.add i) = some (.string ⟨(Y.getD i []).toArray⟩) := by
  have hl : (bytesOf Y).length = Y.length := by simp [bytesOf]
  obtain ⟨ad, c, hA, _, hK, hc⟩ := Kd.C_get h ⟨#[]⟩ (i : Int) (by omega) (by omega)
  refine ⟨ad, hA, ?_⟩
  have hK' : c = [.string ((bytesOf Y).getD i ⟨#[]⟩)] := hK
  have := hc 0 _ (by rw [hK']; rfl)
  rw [show (bytesOf Y).getD i ⟨#[]⟩ = ⟨(Y.getD i []).toArray⟩ by simp [bytesOf, List.getD_eq_getElem?_getD, hi]] at this
  simpa [kStr, Kd.scalar] using this
theorem lens_le : ∀ (Z : List (List UInt8)) (b : Nat), (∀ x ∈ Z, x.length ≤ b) → Lib.lens Z ≤ b * Z.length
  | [], _, _ => by simp [Lib.lens]
  | x :: Z, b, h => by
    have h1 := lens_le Z b (fun y hy => h y (by simp [hy]))
    have h2 := h x (by simp)
    simp [Lib.lens] at h1 ⊢
    rw [Nat.mul_add]
    omega
theorem join_bd (Z : List (List UInt8)) (h1 : Z.length ≤ 500) (h2 : ∀ x ∈ Z, x.length ≤ 2500) : (Lib.join Z [10]).length ≤ 2000000 := by
  cases Z with
  | nil => simp [Lib.join_nil]
  | cons x r =>
    have := lens_le (x :: r) 2500 h2
    rw [Lib.join_length]
    simp at h1 this ⊢
    omega
theorem join_calls (Z : List (List UInt8)) (A : Option Addr) (c base : Nat) (W : World) (hR : Kd.R kStr 9 W base (fun _ => True) (.slice A (bytesOf Z).length c) (bytesOf Z)) (h0 : 1 ≤ Z.length) (h1 : Z.length ≤ 500) (h2 : ∀ x ∈ Z, x.length ≤ 2500) :
    Calls Tryz.prog 93 #[.slice A Z.length c, .string ⟨#[10]⟩] W fun e w' => e = .returned (.string ⟨(Lib.join Z [10]).toArray⟩) ∧ Below W.heap.size W w' := by
  have hl : (bytesOf Z).length = Z.length := by simp [bytesOf]
  have hm : (bytesOf Z).map (·.data.toList) = Z := by simp [bytesOf, Function.comp_def]
  obtain ⟨A', c', he, hcl, hC⟩ := Kd.R_reads hR
  have ho := Kd.own_of_R (enc := Value.string) (h1 := fun _ => rfl) hR
  rcases ho.2 with ⟨he0, hn⟩ | ⟨g, cap, cur, he9, hg, hh, _⟩
  · omega
  · cases he9
    cases he
    have hj := Tryz.strings_Join g 0 c (bytesOf Z) ⟨#[10]⟩ W (fun j x hx => by
      have hjl : j < Z.length := by have := (List.getElem?_eq_some_iff.1 hx).1; omega
      obtain ⟨ad, e1, hc⟩ := str_at hC j hjl
      cases e1
      rw [show x = ⟨(Z.getD j []).toArray⟩ by
        simp [bytesOf, hjl] at hx
        simp [List.getD_eq_getElem?_getD, hjl, ← hx]]
      cases j <;> simpa [Addr.add] using hc) (blk_lt hh) (by omega) (by omega) (by
        rw [hm]
        have := join_bd Z h1 h2
        show (Lib.join Z [10]).length ≤ _
        omega)
    rw [hm, hl] at hj
    exact hj
def textS (Y : List (List UInt8)) : List UInt8 := Lib.join (Y ++ [endS (chkA Y Y.length % 137)]) [10] ++ [10]
set_option maxRecDepth 100000 in
set_option maxHeartbeats 1000000 in
theorem text_calls (a b c d : Int) (A : Option Addr) (cp : Nat) (L : List (List Int)) (w : World) (hC : Kd.C (Kd.slice 3 (Kd.int .i64)) w A L.length L) (hL : L.length ≤ 400) (hl : ∀ l ∈ L, l.length ≤ 600)
    (hn : ∀ n ∈ [a, b, c, d], Numer w n) (hns : ∀ l ∈ L, ∀ n ∈ l, Numer w n) :
    Calls Tryz.prog 74 #[.agg #[.int .i64 a, .int .i64 b, .int .i64 c, .int .i64 d], .slice A L.length cp] w fun e w' => e = .returned (.string ⟨(textS (rowsS a b c d L)).toArray⟩) ∧ Below w.heap.size w w' := by
  have HC := Aside0.mk hC
  have HN := Aside0.mk hn
  have HNS := Aside0.mk hns
  have HLL := Aside0.mk hl
  clear hC hn hns hl
  go_enter Tryz.func74, Tryz.ntmps74
  go_wp2_with fail
  refine (row_head a b c d _ (fun n hm => Numer_below (HN.out n hm) (below_alloc (Below.refl _ w) _))).mono ?_
  rintro e w1 ⟨rfl, hb1⟩
  have HB1 := Aside0.mk (below_step (below_alloc (Below.refl w.heap.size w) _) hb1)
  generalize hr0 : rowS false [a, b, c, d] = r0
  have HR0 := Aside0.mk hr0
  have HW1 := Aside0.mk (show w.heap.size ≤ w1.heap.size from HB1.out.size)
  have HS0 := Aside0.mk (R_of_strs (xs := [⟨r0.toArray⟩]) (base := w.heap.size) (blk_new w1 (.cells #[.string ⟨r0.toArray⟩] 9)) HW1.out (by simp))
  clear hb1 hr0
  go_wp2_with fail
  go_loopg [5, 19] L.length (fun m v5 v19 w' => ∃ k : Nat, v19 = .int .i64 k ∧ Aside0 (k ≤ L.length ∧ m = L.length - k) ∧ Aside0 (Kd.R kStr 9 w' w.heap.size (fun _ => True) v5 (bytesOf (r0 :: (L.take k).map (rowS true)))) ∧ Aside0 (Below w.heap.size w w'))
  case atStart => exact ⟨0, rfl, ⟨by omega, by omega⟩, HS0, ⟨below_alloc HB1.out _⟩⟩
  case round =>
    obtain ⟨k, rfl, HK, HR, HB⟩ := hrel
    clear HS0
    by_cases hk : k < L.length
    · obtain ⟨ad, A0, c0, e1, hx, hlc, hi⟩ := at_L1 (Kd.C_below HC.out HB.out) (k : Int) (by omega) (by omega)
      cases e1
      rw [Int.toNat_natCast] at hx
      have hmem : rd_L1 L (k : Int) ∈ L := by simp [rd_L1, List.getD_eq_getElem?_getD, hk]
      have hro := row_own A0 c0 (rd_L1 L (k : Int)) wr hi (by have := HLL.out _ hmem; omega) (fun n hm => Numer_below (HNS.out _ hmem n hm) HB.out)
      have HRO := Aside0.mk hro
      have HNX : Aside0 (bytesOf (r0 :: (L.take k).map (rowS true)) ++ [⟨(rowS true (rd_L1 L (k : Int))).toArray⟩] = bytesOf (r0 :: (L.take (k + 1)).map (rowS true))) := ⟨by rw [List.take_succ_eq_append_getElem hk, show rd_L1 L (k : Int) = L[k] by simp [rd_L1, List.getD_eq_getElem?_getD, hk]]; simp only [bytesOf, List.map_cons, List.map_append, List.cons_append, List.map_nil]⟩
      clear hmem hro hlc hi
      go_wp2_with fail
      refine HRO.out.mono ?_
      rintro e w2 ⟨rfl, hb2⟩
      have HB2 := Aside0.mk (below_step HB.out hb2)
      have HR2 := Aside0.mk (Kd.R_below HR.out hb2)
      clear hb2
      generalize hrr : rowS true (rd_L1 L (k : Int)) = rr at HNX ⊢
      clear hrr
      have HCx := Aside0.mk (C_of_strs (xs := [⟨rr.toArray⟩]) (blk_new w2 (.cells #[.string ⟨rr.toArray⟩] 9)) (by simp))
      have hlen : (bytesOf (r0 :: (L.take k).map (rowS true))).length ≤ 401 := by simp [bytesOf]; omega
      generalize bytesOf (r0 :: (L.take k).map (rowS true)) = X at HR HR2 HNX hlen
      clear HR HRO
      have hba : w.heap.size ≤ (w2.alloc (.cells #[.string ⟨rr.toArray⟩] 9)).heap.size := by have := HB2.out.size; rw [World.size_alloc]; omega
      have hbl : (X.length + 1) * 16 ≤ 140737488355328 := by omega
      go_wp2_with ((with_reducible refine gate_builtin (b := .append) (xs := #[.tmp 23, .tmp 27]) rfl ?_); at_builtin; go_must ( refine Kd.R_append_row Value.string ⟨#[]⟩ (h1 := fun _ => rfl) (w0 := w) w.heap.size rfl (.tmp 23) (.tmp 27) 120 9 (.string ⟨#[]⟩) 16 rfl Tryz.underlying120 infoStr rfl (by decide) _ X [⟨rr.toArray⟩] (some ⟨w2.heap.size, 0, none⟩) 1 1 (fun _ => True) rfl rfl (fun _ _ => trivial) (Kd.R_below HR2.out (below_alloc (Below.refl _ w2) _)) HCx.out (below_alloc HB2.out _) hba hbl ?_; intro v9 w9 ho hb hg hat; have HO := Aside0.mk ho; have HB9 := Aside0.mk hb; clear ho hb hg hat))
      go_roundg (L.length - (k + 1))
      case measure => have := HK.out; omega
      case rel => exact ⟨k + 1, by go_num, ⟨by omega, by omega⟩, ⟨by rw [← HNX.out]; exact HO.out⟩, HB9⟩
    · have hkl : k = L.length := by have := HK.out; omega
      subst hkl
      rw [List.take_length] at HR
      clear HK hk
      have hYb : ∀ x ∈ r0 :: L.map (rowS true), x.length ≤ 2500 := by
        intro x hx
        rcases List.mem_cons.1 hx with rfl | hx
        · rw [← HR0.out]
          have := rowS_len false [a, b, c, d] (fun n hm => (HN.out n hm).1.2)
          simp at this ⊢
          omega
        · obtain ⟨l, hl, rfl⟩ := List.mem_map.1 hx
          have := rowS_len true l (fun n hm => (HNS.out l hl n hm).1.2)
          have := HLL.out l hl
          omega
      have hYl : (r0 :: L.map (rowS true)).length = L.length + 1 := by simp
      generalize hY : r0 :: L.map (rowS true) = Y at HR hYb hYl
      have HYE := Aside0.mk hY
      have HYB := Aside0.mk hYb
      obtain ⟨X, hX⟩ : ∃ X, bytesOf Y = X := ⟨_, rfl⟩
      rw [hX] at HR
      have hXl : X.length = Y.length := by rw [← hX]; simp [bytesOf]
      obtain ⟨A5, c5, rfl⟩ := Kd.R_slice HR.out
      have HX := Aside0.mk hX
      have HRC : Aside0 (Kd.C kStr wr A5 X.length X) := ⟨by obtain ⟨A, c, he, _, hc⟩ := Kd.R_reads HR.out; cases he; exact hc⟩
      have HXL := Aside0.mk hXl
      clear hX hY hYb
      rw [hXl]
      clear hXl
      have HYL := Aside0.mk hYl
      clear hYl
      rename World => wA
      go_wp2_with fail
      go_loopg [8, 32] Y.length (fun m v8 v32 w' => ∃ i : Nat, v32 = .int .i64 i ∧ v8 = .int .i64 (chkA Y i) ∧ Aside0 (i ≤ Y.length ∧ m = Y.length - i) ∧ Aside0 (Drawn0 wA w'))
      case atStart => exact ⟨0, rfl, rfl, ⟨by omega, by omega⟩, ⟨Drawn0.refl _⟩⟩
      case round =>
        obtain ⟨i, rfl, rfl, HI, HD⟩ := hrel
        obtain ⟨nd, hnd⟩ := HD.out.out
        subst hnd
        by_cases hi : i < Y.length
        · rw [← HX.out] at HRC
          obtain ⟨ad, e1, hx⟩ := str_at (Kd.C_drewN HRC.out nd) i hi
          cases e1
          have hxl : (Y.getD i []).length ≤ 2500 := HYB.out _ (by rw [List.getD_eq_getElem?_getD]; simp [hi])
          have HNA : Aside0 (chkA Y (i + 1) = chkA Y i + chkR (Y.getD i []) i (Y.getD i []).length) := ⟨rfl⟩
          have hAb := chkA_bd Y HYB.out i (by have := HYL.out; omega)
          generalize chkA Y i = sI at HNA hAb ⊢
          generalize Y.getD i [] = x at HNA hxl hx ⊢
          have hsz : (ByteArray.mk x.toArray).size = x.length := by simp [ByteArray.size]
          have hiL : i ≤ 400 := by have := HYL.out; omega
          go_wp2_with fail
          go_loopg [8, 39] x.length (fun m v8 v39 w' => ∃ k : Nat, v39 = .int .i64 k ∧ v8 = .int .i64 (sI + chkR x i k) ∧ Aside0 (k ≤ x.length ∧ m = x.length - k) ∧ Aside0 (Drawn0 wA w'))
          case atStart => exact ⟨0, rfl, by simp [chkR], ⟨by omega, by omega⟩, ⟨⟨⟨_, rfl⟩⟩⟩⟩
          case round =>
            obtain ⟨k, rfl, rfl, HK, HD⟩ := hrel
            obtain ⟨nd2, hnd⟩ := HD.out.out
            subst hnd
            by_cases hk : k < x.length
            · have hRb := chkR_bd x i hiL k (by omega)
              have hT := chk_term x i k hiL (by omega)
              have HNK : Aside0 (chkR x i (k + 1) = chkR x i k + ((x.getD k 0).toNat : Int) * ((k : Int) + 1) * ((i : Int) + 1)) := ⟨rfl⟩
              have hc : ∀ W : World, (Instr.index 9 (.string ⟨x.toArray⟩) (.int .i64 (k : Int))).run Tryz.prog W = .ok (.int .u8 ((x.getD k 0).toNat : Int)) W := fun W => by
                rw [run_index_string W 9 _ .i64 (k : Int) Tryz.underlying9, dif_pos ⟨by omega, by omega⟩]
                simp [List.getD_eq_getElem?_getD, hk, ByteArray.getElem_eq_getElem_data]
              have hc0 : (x.getD k 0).toNat < 256 := (x.getD k 0).toNat_lt
              generalize chkR x i k = rK at HNK hRb ⊢
              generalize (x.getD k 0).toNat = ch at HNK hT hc hc0
              go_wp2_with fail
              go_roundg (x.length - (k + 1))
              case measure => have := HK.out; omega
              case rel => exact ⟨k + 1, by go_num, by rw [HNK.out, Int.add_assoc], ⟨by omega, by omega⟩, ⟨⟨⟨_, rfl⟩⟩⟩⟩
            · have hkx : k = x.length := by have := HK.out; omega
              subst hkx
              go_wp2_with fail
              go_roundg (Y.length - (i + 1))
              case measure => have := HI.out; omega
              case rel => exact ⟨i + 1, by go_num, by rw [HNA.out], ⟨by omega, by omega⟩, ⟨⟨⟨_, rfl⟩⟩⟩⟩
        · have hiY : i = Y.length := by have := HI.out; omega
          subst hiY
          have hAb := chkA_bd Y HYB.out Y.length (by have := HYL.out; omega)
          have hYl4 : Y.length ≤ 401 := by have := HYL.out; omega
          generalize hch : chkA Y Y.length = ck at hAb ⊢
          have HCH := Aside0.mk hch
          clear hch hi HI
          go_wp2_with fail
          generalize hcc : ck % 137 = cc
          have hcb : 0 ≤ cc ∧ cc < 137 := by omega
          have HCC := Aside0.mk hcc
          clear hcc hAb
          refine (itoa_calls (cc / 100) _ ⟨by omega, .inl (by omega)⟩).mono ?_
          rintro e w2 ⟨rfl, hb2⟩
          have HB2 := Aside0.mk (below_step (pw_below_drewN (Below.refl _ wA) nd) hb2)
          have hl1 := dec_len (cc / 100).toNat (by omega)
          generalize hd1 : Lib.decDigits (cc / 100).toNat = d1 at hl1 ⊢
          have HD1 := Aside0.mk hd1
          clear hb2 hd1
          obtain ⟨e1, he1⟩ : ∃ e1, [101, 110, 100, 32] ++ d1 = e1 := ⟨_, rfl⟩
          have hadd1 : ∀ W : World, (Op.stringOp .add ⟨#[101, 110, 100, 32]⟩ ⟨d1.toArray⟩).run Tryz.prog W = .ok (.string ⟨e1.toArray⟩) W := fun W => by rw [← he1]; exact run_string_add_lists W [101, 110, 100, 32] d1 (by simp) (by omega)
          have hel1 : e1.length ≤ 7 := by rw [← he1]; simp; omega
          have HE1 := Aside0.mk he1
          clear he1
          go_wp2_with fail
          refine (itoa_calls (cc / 10 % 10) _ ⟨by omega, .inl (by omega)⟩).mono ?_
          rintro e w3 ⟨rfl, hb3⟩
          have HB3 := Aside0.mk (below_step HB2.out hb3)
          have hl2 := dec_len (cc / 10 % 10).toNat (by omega)
          generalize hd2 : Lib.decDigits (cc / 10 % 10).toNat = d2 at hl2 ⊢
          have HD2 := Aside0.mk hd2
          obtain ⟨e2, he2⟩ : ∃ e2, e1 ++ d2 = e2 := ⟨_, rfl⟩
          have hadd2 : ∀ W : World, (Op.stringOp .add ⟨e1.toArray⟩ ⟨d2.toArray⟩).run Tryz.prog W = .ok (.string ⟨e2.toArray⟩) W := fun W => by rw [← he2]; exact run_string_add_lists W e1 d2 (by omega) (by omega)
          have hel2 : e2.length ≤ 10 := by rw [← he2]; simp; omega
          have HE2 := Aside0.mk he2
          clear hb3 hd2 he2 hadd1
          go_wp2_with fail
          refine (itoa_calls (cc % 10) _ ⟨by omega, .inl (by omega)⟩).mono ?_
          rintro e w4 ⟨rfl, hb4⟩
          have HB4 := Aside0.mk (below_step HB3.out hb4)
          have hl3 := dec_len (cc % 10).toNat (by omega)
          generalize hd3 : Lib.decDigits (cc % 10).toNat = d3 at hl3 ⊢
          have HD3 := Aside0.mk hd3
          obtain ⟨eS, heS⟩ : ∃ eS, e2 ++ d3 = eS := ⟨_, rfl⟩
          have hadd3 : ∀ W : World, (Op.stringOp .add ⟨e2.toArray⟩ ⟨d3.toArray⟩).run Tryz.prog W = .ok (.string ⟨eS.toArray⟩) W := fun W => by rw [← heS]; exact run_string_add_lists W e2 d3 (by omega) (by omega)
          have hel : eS.length ≤ 13 := by rw [← heS]; simp; omega
          have HES : Aside0 (endS cc = eS) := ⟨by unfold endS; rw [HD1.out, HD2.out, HD3.out, HE1.out, HE2.out, heS]⟩
          clear heS hb4 hd3 hadd2
          have HCx := Aside0.mk (C_of_strs (xs := [⟨eS.toArray⟩]) (blk_new w4 (.cells #[.string ⟨eS.toArray⟩] 9)) (by simp))
          have hba : w.heap.size ≤ (w4.alloc (.cells #[.string ⟨eS.toArray⟩] 9)).heap.size := by have := HB.out.size; have := HB4.out.size; rw [World.size_alloc]; omega
          have hbl : (X.length + 1) * 16 ≤ 140737488355328 := by have := HXL.out; omega
          have hXY := HXL.out
          rw [hXY] at HR
          have HRX4 : Aside0 (Kd.R kStr 9 (w4.alloc (.cells #[.string ⟨eS.toArray⟩] 9)) w.heap.size (fun _ => True) (.slice A5 Y.length c5) X) := ⟨Kd.R_below HR.out (below_alloc HB4.out _)⟩
          have HBA : Aside0 (Below w.heap.size w (w4.alloc (.cells #[.string ⟨eS.toArray⟩] 9))) := ⟨below_alloc (below_then HB.out HB.out.size HB4.out) _⟩
          clear hXY
          go_wp2_with ((with_reducible refine gate_builtin (b := .append) (xs := #[.tmp 58, .tmp 72]) rfl ?_); at_builtin; go_must ( refine Kd.R_append_row Value.string ⟨#[]⟩ (h1 := fun _ => rfl) (w0 := w) w.heap.size rfl (.tmp 58) (.tmp 72) 120 9 (.string ⟨#[]⟩) 16 rfl Tryz.underlying120 infoStr rfl (by decide) _ X [⟨eS.toArray⟩] (some ⟨w4.heap.size, 0, none⟩) 1 1 (fun _ => True) rfl rfl (fun _ _ => trivial) HRX4.out HCx.out HBA.out hba hbl ?_; intro v9 w9 ho hb hg hat; have HO := Aside0.mk ho; have HB9 := Aside0.mk hb; clear ho hb hg hat; obtain ⟨A9, c9, rfl⟩ := Kd.R_slice HO.out))
          have hZ : X ++ [⟨eS.toArray⟩] = bytesOf (Y ++ [eS]) := by rw [← HX.out]; simp [bytesOf]
          have hZl : X.length + 1 = (Y ++ [eS]).length := by rw [HXL.out]; simp
          have HZ := HO.out
          rw [hZ] at HZ
          have hJ := join_calls (Y ++ [eS]) A9 c9 w.heap.size w9 HZ (by simp) (by have := HYL.out; simp; omega) (fun x hx => by
            rcases List.mem_append.1 hx with hx | hx
            · exact HYB.out x hx
            · have : x = eS := by simpa using hx
              rw [this]; omega)
          have hJl := join_bd (Y ++ [eS]) (by have := HYL.out; simp; omega) (fun x hx => by
            rcases List.mem_append.1 hx with hx | hx
            · exact HYB.out x hx
            · have : x = eS := by simpa using hx
              rw [this]; omega)
          rw [hZl]
          have HT : Aside0 (Lib.join (Y ++ [eS]) [10] ++ [10] = textS (rowsS a b c d L)) := ⟨by unfold textS rowsS; rw [HR0.out, HYE.out, HCH.out, HCC.out, HES.out]⟩
          generalize Lib.join (Y ++ [eS]) [10] = jS at HT hJ hJl
          have HJ := Aside0.mk hJ
          have hadd4 : ∀ W : World, (Op.stringOp .add ⟨jS.toArray⟩ ⟨#[10]⟩).run Tryz.prog W = .ok (.string ⟨(jS ++ [10]).toArray⟩) W := fun W => run_string_add_lists W jS [10] (by omega) (by simp)
          rw [HT.out] at hadd4
          clear hZ hZl HZ hJ hadd3
          refine HJ.out.mono ?_
          rintro e w10 ⟨rfl, hb10⟩
          have HB10 := Aside0.mk (below_step HB9.out hb10)
          clear hb10
          go_wp2_with fail
          go_ret
          exact ⟨rfl, HB10.out⟩
end Go.Proofs.YtbjimmemcmjpcabGreatDoor.Print
end

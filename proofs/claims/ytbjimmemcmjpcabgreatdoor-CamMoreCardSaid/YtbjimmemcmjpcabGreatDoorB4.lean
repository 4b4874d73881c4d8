/- What the program's functions compute that the chapter's examples reach, each with the walk that shows it; the kit's words for such walks. Joined by wip/pack.py. -/
import Derived.WalkLawsBesides
import Derived.Test.YtbjimmemcmjpcabGreatDoorB3
section
set_option linter.unusedVariables false
set_option linter.unusedSimpArgs false
namespace Go.Proofs.YtbjimmemcmjpcabGreatDoor.Print
open Go.RowKit Go.Proofs.YtbjimmemcmjpcabGreatDoorW.PrintWords Go.Proofs.YtbjimmemcmjpcabGreatDoorW.PrintLast Go.Proofs.YtbjimmemcmjpcabGreatDoorW.PrintMore
def isH (n : Int) : Bool := decide (0 ≤ n) && decide (n ≤ 30)
def isO (n : Int) : Bool := decide (-200 ≤ n) && decide (n ≤ 200)
theorem in_f (a b c : Int) : cam_in.f a b c = some (decide (b ≤ a) && decide (a ≤ c)) := by
  unfold cam_in.f
  by_cases h : b ≤ a <;> simp [h]
theorem isHeight_f (n : Int) : cam_isHeight.f n = some (isH n) := by
  unfold cam_isHeight.f; rw [in_f]; rfl
theorem isCam1 (n : Int) (w : World) : Calls Tryz.prog 79 #[.int .i64 n] w fun e w' => e = .returned (.bool (!isH n)) ∧ Drawn0 w w' := by
  go_enter Tryz.func79, Tryz.ntmps79
  go_wp2_with (go_at_call 59; refine (cam_isHeight.calls n _ _ (isHeight_f n)).mono ?_; rintro e w' ⟨rfl, ⟨⟨k, rfl⟩⟩⟩)
  go_ret
  exact ⟨rfl, ⟨⟨_, rfl⟩⟩⟩
theorem isMotion1 (n : Int) (w : World) : Calls Tryz.prog 76 #[.int .i64 n] w fun e w' => e = .returned (.bool (!isO n)) ∧ Drawn0 w w' := by
  go_enter Tryz.func76, Tryz.ntmps76
  go_wp2_with (go_at_call 56; refine (cam_in.calls n (-200) 200 _ _ (show cam_in.f n (-200) 200 = some (isO n) from in_f n (-200) 200)).mono ?_; rintro e w' ⟨rfl, ⟨⟨k, rfl⟩⟩⟩)
  go_ret
  exact ⟨rfl, ⟨⟨_, rfl⟩⟩⟩
theorem take_all (p : Int → Bool) (l : List Int) (k : Nat) (hk : k < l.length) (h : (l.take k).all p = true) (h2 : p (rd l k) = true) : (l.take (k + 1)).all p = true := by
  rw [List.take_succ_eq_append_getElem hk, List.all_append, h]
  simp [rd, List.getD_eq_getElem?_getD, hk] at h2
  simp [h2]
theorem not_all (p : Int → Bool) (l : List Int) (k : Nat) (hk : k < l.length) (h2 : p (rd l k) = false) : l.all p = false := by
  simp [rd, List.getD_eq_getElem?_getD, hk] at h2
  rw [List.all_eq_false]
  exact ⟨l[k], List.getElem_mem _, by simp [h2]⟩
theorem at_nat {w : World} {A : Option Addr} {l : List Int} (h : Kd.C (Kd.int .i64) w A l.length l) (k : Nat) (hk : k < l.length) : ∃ ad, A = some ad ∧ w.cell? (ad.add k) = some (.int .i64 (rd l k)) := by
  obtain ⟨ad, e, hx⟩ := Kd.at_int h (k : Int) (by omega) (by omega)
  exact ⟨ad, e, by simpa using hx⟩
theorem indexFunc_isCam (A : Option Addr) (c : Nat) (l : List Int) (w : World) (hr : Kd.C (Kd.int .i64) w A l.length l) :
    Calls Tryz.prog 94 #[.slice A l.length c, .func (.func 79) #[] #[]] w fun e w' => ∃ k : Int, e = .returned (.int .i64 k) ∧ (0 ≤ k ↔ l.all isH = false) ∧ Drawn0 w w' := by
  have hl := Kd.C_max hr
  have HR := Aside0.mk hr
  clear hr
  go_enter Tryz.func94, Tryz.ntmps94
  go_wp2
  go_loopg [5, 8] (l.length + 1) (fun m v5 v8 w' => ∃ k : Nat, v8 = .int .i64 k ∧ Aside0 (k ≤ l.length ∧ m = l.length + 1 - k) ∧ Aside0 ((l.take k).all isH = true) ∧ Aside0 (Drawn0 w w'))
  case atStart => exact ⟨0, rfl, ⟨by omega, by omega⟩, ⟨by simp⟩, ⟨Drawn0.refl _⟩⟩
  case round =>
    obtain ⟨k, rfl, HK, HA, HD⟩ := hrel
    by_cases hk : k < l.length
    · obtain ⟨ad, e1, hx⟩ := at_nat HR.out k hk
      obtain ⟨n, hn⟩ := HD.out.out
      subst e1
      subst hn
      cases hh : isH (rd l k) with
      | true =>
        have HH := Aside0.mk hh
        clear hh
        go_wp2_with (go_at_call 79; refine (isCam1 (rd l k) _).mono ?_; rintro e w' ⟨rfl, ⟨⟨k', rfl⟩⟩⟩; rw [HH.out])
        go_roundg (l.length - k)
        case measure => have := HK.out; omega
        case rel => exact ⟨k + 1, by go_num, ⟨by omega, by omega⟩, ⟨take_all _ _ _ hk HA.out HH.out⟩, ⟨⟨⟨_, rfl⟩⟩⟩⟩
      | false =>
        have HH := Aside0.mk hh
        clear hh
        go_wp2_with (go_at_call 79; refine (isCam1 (rd l k) _).mono ?_; rintro e w' ⟨rfl, ⟨⟨k', rfl⟩⟩⟩; rw [HH.out])
        go_ret
        exact ⟨_, rfl, by rw [not_all _ _ _ hk HH.out]; simp, ⟨⟨_, rfl⟩⟩⟩
    · go_wp2
      go_ret
      have := HK.out
      have e : k = l.length := by omega
      have h1 := HA.out
      rw [e, List.take_length] at h1
      exact ⟨_, rfl, by rw [h1]; simp, HD.out⟩
theorem containsFunc_isCam (A : Option Addr) (c : Nat) (l : List Int) (w : World) (hr : Kd.C (Kd.int .i64) w A l.length l) :
    Calls Tryz.prog 75 #[.slice A l.length c, .func (.func 79) #[] #[]] w fun e w' => e = .returned (.bool (!l.all isH)) ∧ Drawn0 w w' := by
  have HR := Aside0.mk hr
  clear hr
  go_enter Tryz.func75, Tryz.ntmps75
  go_wp2_with (go_at_call 94; refine (indexFunc_isCam A c l _ HR.out).mono ?_; rintro e w' ⟨k, rfl, hk, ⟨⟨n, rfl⟩⟩⟩; have HK := Aside0.mk hk; clear hk)
  go_ret
  refine ⟨?_, ⟨⟨_, rfl⟩⟩⟩
  have hk := HK.out
  cases h : l.all isH with
  | true => rw [h] at hk; simp at hk; simp; omega
  | false => rw [h] at hk; simp at hk; simp; omega
theorem indexFunc_isMotion (A : Option Addr) (c : Nat) (l : List Int) (w : World) (hr : Kd.C (Kd.int .i64) w A l.length l) :
    Calls Tryz.prog 94 #[.slice A l.length c, .func (.func 76) #[] #[]] w fun e w' => ∃ k : Int, e = .returned (.int .i64 k) ∧ (0 ≤ k ↔ l.all isO = false) ∧ Drawn0 w w' := by
  have hl := Kd.C_max hr
  have HR := Aside0.mk hr
  clear hr
  go_enter Tryz.func94, Tryz.ntmps94
  go_wp2
  go_loopg [5, 8] (l.length + 1) (fun m v5 v8 w' => ∃ k : Nat, v8 = .int .i64 k ∧ Aside0 (k ≤ l.length ∧ m = l.length + 1 - k) ∧ Aside0 ((l.take k).all isO = true) ∧ Aside0 (Drawn0 w w'))
  case atStart => exact ⟨0, rfl, ⟨by omega, by omega⟩, ⟨by simp⟩, ⟨Drawn0.refl _⟩⟩
  case round =>
    obtain ⟨k, rfl, HK, HA, HD⟩ := hrel
    by_cases hk : k < l.length
    · obtain ⟨ad, e1, hx⟩ := at_nat HR.out k hk
      obtain ⟨n, hn⟩ := HD.out.out
      subst e1
      subst hn
      cases hh : isO (rd l k) with
      | true =>
        have HH := Aside0.mk hh
        clear hh
        go_wp2_with (go_at_call 76; refine (isMotion1 (rd l k) _).mono ?_; rintro e w' ⟨rfl, ⟨⟨k', rfl⟩⟩⟩; rw [HH.out])
        go_roundg (l.length - k)
        case measure => have := HK.out; omega
        case rel => exact ⟨k + 1, by go_num, ⟨by omega, by omega⟩, ⟨take_all _ _ _ hk HA.out HH.out⟩, ⟨⟨⟨_, rfl⟩⟩⟩⟩
      | false =>
        have HH := Aside0.mk hh
        clear hh
        go_wp2_with (go_at_call 76; refine (isMotion1 (rd l k) _).mono ?_; rintro e w' ⟨rfl, ⟨⟨k', rfl⟩⟩⟩; rw [HH.out])
        go_ret
        exact ⟨_, rfl, by rw [not_all _ _ _ hk HH.out]; simp, ⟨⟨_, rfl⟩⟩⟩
    · go_wp2
      go_ret
      have := HK.out
      have e : k = l.length := by omega
      have h1 := HA.out
      rw [e, List.take_length] at h1
      exact ⟨_, rfl, by rw [h1]; simp, HD.out⟩
theorem containsFunc_isMotion (A : Option Addr) (c : Nat) (l : List Int) (w : World) (hr : Kd.C (Kd.int .i64) w A l.length l) :
    Calls Tryz.prog 75 #[.slice A l.length c, .func (.func 76) #[] #[]] w fun e w' => e = .returned (.bool (!l.all isO)) ∧ Drawn0 w w' := by
  have HR := Aside0.mk hr
  clear hr
  go_enter Tryz.func75, Tryz.ntmps75
  go_wp2_with (go_at_call 94; refine (indexFunc_isMotion A c l _ HR.out).mono ?_; rintro e w' ⟨k, rfl, hk, ⟨⟨n, rfl⟩⟩⟩; have HK := Aside0.mk hk; clear hk)
  go_ret
  refine ⟨?_, ⟨⟨_, rfl⟩⟩⟩
  have hk := HK.out
  cases h : l.all isO with
  | true => rw [h] at hk; simp at hk; simp; omega
  | false => rw [h] at hk; simp at hk; simp; omega
def cam_isCam.f (l0 : List Int) : Option Bool := some (decide (3 ≤ l0.length ∧ l0.length ≤ 24) && l0.all isH)
theorem cam_isCam.calls (A0 : Option Addr) (c0 : Nat) (l0 : List Int) (r : Bool) (w : World) (hr0 : Kd.C (Kd.int .i64) w A0 l0.length l0) (hc0 : l0.length ≤ c0) (h : cam_isCam.f l0 = some r) :
    Calls Tryz.prog 52 #[.slice A0 l0.length c0] w fun e w' => e = .returned (.bool r) ∧ Drawn0 w w' := by
  obtain rfl := Option.some.inj h
  have HR := Aside0.mk hr0
  clear hr0 h
  by_cases hi : 3 ≤ l0.length ∧ l0.length ≤ 24
  · have H : Aside0 ((decide (3 ≤ l0.length ∧ l0.length ≤ 24) && l0.all isH) = l0.all isH) := ⟨by simp [hi]⟩
    have h3 : cam_in.f (l0.length : Int) 3 24 = some true := by rw [in_f]; simp; omega
    have H3 := Aside0.mk h3
    clear h3
    rw [H.out]
    go_enter Tryz.func52, Tryz.ntmps52
    go_wp2_with (first | (go_at_call 56; refine (cam_in.calls _ 3 24 _ _ H3.out).mono ?_; rintro e w' ⟨rfl, ⟨⟨n, rfl⟩⟩⟩) | (go_at_call 75; refine (containsFunc_isCam A0 c0 l0 _ (Kd.C_below HR.out (pw_below_drewN (Below.refl _ _) _))).mono ?_; rintro e w' ⟨rfl, ⟨⟨n2, rfl⟩⟩⟩))
    go_ret
    exact ⟨by simp, ⟨⟨_, rfl⟩⟩⟩
  · have H : Aside0 ((decide (3 ≤ l0.length ∧ l0.length ≤ 24) && l0.all isH) = false) := ⟨by simp [hi]⟩
    have h3 : cam_in.f (l0.length : Int) 3 24 = some false := by rw [in_f]; simp; omega
    have H3 := Aside0.mk h3
    clear h3
    rw [H.out]
    go_enter Tryz.func52, Tryz.ntmps52
    go_wp2_with (go_at_call 56; refine (cam_in.calls _ 3 24 _ _ H3.out).mono ?_; rintro e w' ⟨rfl, ⟨⟨n, rfl⟩⟩⟩)
    go_ret
    exact ⟨rfl, ⟨⟨_, rfl⟩⟩⟩
def cam_isMotion.f (a0_0 : Int) (l0_1 : List Int) : Option Bool := some ((decide (1 ≤ a0_0 ∧ a0_0 ≤ 50) && decide (3 ≤ l0_1.length ∧ l0_1.length ≤ 24)) && l0_1.all isO)
theorem cam_isMotion.calls (a0_0 : Int) (A0_1 : Option Addr) (c0_1 : Nat) (l0_1 : List Int) (r : Bool) (w : World) (hr0_1 : Kd.C (Kd.int .i64) w A0_1 l0_1.length l0_1) (hc0_1 : l0_1.length ≤ c0_1) (h : cam_isMotion.f a0_0 l0_1 = some r) :
    Calls Tryz.prog 43 #[.agg #[.int .i64 a0_0, .slice A0_1 l0_1.length c0_1]] w fun e w' => e = .returned (.bool r) ∧ Below w.heap.size w w' := by
  obtain rfl := Option.some.inj h
  have hu := Tryz.underlying24
  have HR := Aside0.mk hr0_1
  clear hr0_1 h
  by_cases hu1 : 1 ≤ a0_0 ∧ a0_0 ≤ 50
  · have h1 : cam_in.f a0_0 1 50 = some true := by rw [in_f]; simp; omega
    have H1 := Aside0.mk h1
    clear h1
    by_cases hi : 3 ≤ l0_1.length ∧ l0_1.length ≤ 24
    · have H : Aside0 (((decide (1 ≤ a0_0 ∧ a0_0 ≤ 50) && decide (3 ≤ l0_1.length ∧ l0_1.length ≤ 24)) && l0_1.all isO) = l0_1.all isO) := ⟨by simp [hi, hu1]⟩
      have h3 : cam_in.f (l0_1.length : Int) 3 24 = some true := by rw [in_f]; simp; omega
      have H3 := Aside0.mk h3
      clear h3 hi hu1
      rw [H.out]
      go_enter Tryz.func43, Tryz.ntmps43
      go_wp2_with fail
      refine (cam_in.calls a0_0 1 50 _ _ H1.out).mono ?_; rintro e w' ⟨rfl, ⟨⟨n, rfl⟩⟩⟩
      go_wp2_with fail
      refine (cam_in.calls _ 3 24 _ _ H3.out).mono ?_; rintro e w' ⟨rfl, ⟨⟨n2, rfl⟩⟩⟩
      go_wp2_with fail
      refine (containsFunc_isMotion A0_1 c0_1 l0_1 _ (Kd.C_below HR.out ?hb)).mono ?_
      case hb => repeat (first | exact Below.refl _ _ | apply pw_below_drewN | apply below_alloc)
      rintro e w' ⟨rfl, ⟨⟨n3, rfl⟩⟩⟩
      go_wp2_with fail
      go_ret
      exact ⟨by simp, by repeat (first | exact Below.refl _ _ | apply pw_below_drewN | apply below_alloc)⟩
    · have H : Aside0 (((decide (1 ≤ a0_0 ∧ a0_0 ≤ 50) && decide (3 ≤ l0_1.length ∧ l0_1.length ≤ 24)) && l0_1.all isO) = false) := ⟨by simp [hi]⟩
      have h3 : cam_in.f (l0_1.length : Int) 3 24 = some false := by rw [in_f]; simp; omega
      have H3 := Aside0.mk h3
      clear h3 hi hu1
      rw [H.out]
      go_enter Tryz.func43, Tryz.ntmps43
      go_wp2_with fail
      refine (cam_in.calls a0_0 1 50 _ _ H1.out).mono ?_; rintro e w' ⟨rfl, ⟨⟨n, rfl⟩⟩⟩
      go_wp2_with fail
      refine (cam_in.calls _ 3 24 _ _ H3.out).mono ?_; rintro e w' ⟨rfl, ⟨⟨n2, rfl⟩⟩⟩
      go_wp2_with fail
      go_ret
      exact ⟨by simp, by repeat (first | exact Below.refl _ _ | apply pw_below_drewN | apply below_alloc)⟩
  · have H : Aside0 (((decide (1 ≤ a0_0 ∧ a0_0 ≤ 50) && decide (3 ≤ l0_1.length ∧ l0_1.length ≤ 24)) && l0_1.all isO) = false) := ⟨by simp [hu1]⟩
    have h1 : cam_in.f a0_0 1 50 = some false := by rw [in_f]; simp; omega
    have H1 := Aside0.mk h1
    clear h1 hu1
    rw [H.out]
    go_enter Tryz.func43, Tryz.ntmps43
    go_wp2_with fail
    refine (cam_in.calls a0_0 1 50 _ _ H1.out).mono ?_; rintro e w' ⟨rfl, ⟨⟨n, rfl⟩⟩⟩
    go_wp2_with fail
    go_ret
    exact ⟨by simp, by repeat (first | exact Below.refl _ _ | apply pw_below_drewN | apply below_alloc)⟩
end Go.Proofs.YtbjimmemcmjpcabGreatDoor.Print
end
section
set_option linter.unusedVariables false
set_option linter.unusedSimpArgs false
namespace Go.Proofs.YtbjimmemcmjpcabGreatDoor.Print
open Go.RowKit Go.Proofs.YtbjimmemcmjpcabGreatDoorW.PrintWords Go.Proofs.YtbjimmemcmjpcabGreatDoorW.PrintLast Go.Proofs.YtbjimmemcmjpcabGreatDoorW.PrintMore
theorem own_empty (w : World) (e : TypeId) : Kd.R (Kd.int .i64) e (w.alloc (.cells #[] e)) w.heap.size (fun _ => True) (.slice (some ⟨w.heap.size, 0, none⟩) 0 0) [] := by
  refine ⟨fun _ _ => trivial, [], ?_, ?_⟩
  · refine ⟨rfl, .inr ⟨w.heap.size, 0, #[], rfl, Nat.le_refl _, blk_new _ _, ?_⟩⟩
    simp
  · exact ⟨rfl, fun j p hj => by simp at hj⟩
set_option maxRecDepth 100000 in
theorem clone_calls (A : Option Addr) (c : Nat) (l : List Int) (w : World) (hC : Kd.C (Kd.int .i64) w A l.length l) (hc : A = none → c = 0) (hl : l.length ≤ 1000) :
    Calls Tryz.prog 83 #[.slice A l.length c] w fun e w' => ∃ v : Value, e = .returned v ∧ Kd.R (Kd.int .i64) 3 w' w.heap.size (fun _ => True) v l ∧ Below w.heap.size w w' := by
  cases A with
  | none =>
    obtain rfl : l = [] := by
      cases l with
      | nil => rfl
      | cons a l => obtain ⟨ad, h, _⟩ := hC.2.2 (by simp); cases h
    obtain rfl := hc rfl
    have hcmp : ∀ W : World, (binOp BinOp.eql 22 (.slice none 0 0) (.slice none 0 0)).run Tryz.prog W = .ok (.bool true) W := fun _ => by kernel_rfl
    go_enter Tryz.func83, Tryz.ntmps83
    go_wp2
    go_ret
    exact ⟨_, rfl, Kd.R_nil _ _ _ _ _, Below.refl _ _⟩
  | some ad =>
    have HC := Aside0.mk hC
    have hlen := hl
    clear hC
    have HB := Aside0.mk (Below.refl w.heap.size w)
    have hcmp : ∀ (n : Nat) (W : World), (binOp BinOp.eql 22 (.slice (some ad) n c) (.slice none 0 0)).run Tryz.prog W = .ok (.bool false) W := fun _ _ => by kernel_rfl
    go_enter Tryz.func83, Tryz.ntmps83
    go_wp2_with ((with_reducible refine gate_builtin (b := .append) (xs := #[.tmp 5, .tmp 6]) rfl ?_); at_builtin; refine Kd.R_append_row (Value.int .i64) 0 (h1 := fun _ => rfl) (w0 := w) w.heap.size rfl (.tmp 5) (.tmp 6) 22 3 (.int .i64 0) 8 rfl Tryz.underlying22 info3 rfl (by decide) _ [] l (some ad) l.length c (fun _ => True) rfl rfl (fun _ _ => trivial) (own_empty w _) (Kd.C_below HC.out (below_alloc (Below.refl _ _) _)) (below_alloc (Below.refl _ _) _) (by simp) (by simp; omega) ?_; intro v9 w9 ho hb hg hat; have HO := Aside0.mk ho; have HB9 := Aside0.mk hb; clear ho hb hg hat)
    go_ret
    exact ⟨_, rfl, by have := HO.out; rw [List.nil_append] at this; exact this, HB9.out⟩
end Go.Proofs.YtbjimmemcmjpcabGreatDoor.Print
end
section
set_option linter.unusedVariables false
set_option linter.unusedSimpArgs false
namespace Go.Proofs.YtbjimmemcmjpcabGreatDoor.Print
open Go.RowKit Go.Proofs.YtbjimmemcmjpcabGreatDoorW.PrintWords Go.Proofs.YtbjimmemcmjpcabGreatDoorW.PrintLast Go.Proofs.YtbjimmemcmjpcabGreatDoorW.PrintMore
def minI (l : List Int) : Int := (l.drop 1).foldl min (rd l 0)
def maxI (l : List Int) : Int := (l.drop 1).foldl max (rd l 0)
theorem take_succ_rd (l : List Int) (k : Nat) (hk : k < l.length) : l.take (k + 1) = l.take k ++ [rd l k] := by
  rw [List.take_succ_eq_append_getElem hk]
  simp [rd, List.getD_eq_getElem?_getD, hk]
theorem minI_take (l : List Int) (k : Nat) (h1 : 1 ≤ k) (hk : k < l.length) : minI (l.take (k + 1)) = min (minI (l.take k)) (rd l k) := by
  obtain ⟨k, rfl⟩ : ∃ m, k = m + 1 := ⟨k - 1, by omega⟩
  rw [take_succ_rd l _ hk]
  cases l with
  | nil => simp at hk
  | cons x l => simp [minI, rd, List.foldl_append]
theorem maxI_take (l : List Int) (k : Nat) (h1 : 1 ≤ k) (hk : k < l.length) : maxI (l.take (k + 1)) = max (maxI (l.take k)) (rd l k) := by
  obtain ⟨k, rfl⟩ : ∃ m, k = m + 1 := ⟨k - 1, by omega⟩
  rw [take_succ_rd l _ hk]
  cases l with
  | nil => simp at hk
  | cons x l => simp [maxI, rd, List.foldl_append]
theorem minI_one (l : List Int) (h : 1 ≤ l.length) : minI (l.take 1) = rd l 0 := by
  cases l with
  | nil => simp at h
  | cons x l => simp [minI, rd]
theorem maxI_one (l : List Int) (h : 1 ≤ l.length) : maxI (l.take 1) = rd l 0 := by
  cases l with
  | nil => simp at h
  | cons x l => simp [maxI, rd]
theorem min_ite (a b : Int) : (if b < a then b else a) = min a b := by simp only [Int.min_def]; split <;> split <;> omega
theorem max_ite (a b : Int) : (if a < b then b else a) = max a b := by simp only [Int.max_def]; split <;> split <;> omega
theorem addr_zero (ad : Addr) : ad.add 0 = ad := by
  unfold Addr.add
  split <;> simp_all
theorem slices_Min (A : Option Addr) (c : Nat) (l : List Int) (w : World) (hr : Kd.C (Kd.int .i64) w A l.length l) (h1 : 1 ≤ l.length) :
    Calls Tryz.prog 100 #[.slice A l.length c] w fun e w' => e = .returned (.int .i64 (minI l)) ∧ Drawn0 w w' := by
  have hl := Kd.C_max hr
  obtain ⟨ad, e1, hx0⟩ := at_nat hr 0 (by omega)
  have HR := Aside0.mk hr
  clear hr
  subst e1
  have hx0' : w.cell? ad = some (.int .i64 (minI (l.take 1))) := by rw [minI_one l h1]; rw [addr_zero] at hx0; exact hx0
  clear hx0
  have h2 : decide (l.length < 1) = false := decide_eq_false (by omega)
  have h3 : decide ((l.length : Int) < 1) = false := decide_eq_false (by omega)
  go_enter Tryz.func100, Tryz.ntmps100
  go_wp2
  go_loopg [3, 4] l.length (fun m v3 v4 w' => ∃ k : Nat, v4 = .int .i64 k ∧ v3 = .int .i64 (minI (l.take k)) ∧ Aside0 (1 ≤ k ∧ k ≤ l.length ∧ m = l.length + 1 - k) ∧ Aside0 (Drawn0 w w'))
  case atStart => exact ⟨1, rfl, rfl, ⟨by omega, by omega, by omega⟩, ⟨Drawn0.refl _⟩⟩
  case round =>
    obtain ⟨k, rfl, rfl, HK, HD⟩ := hrel
    obtain ⟨n, hn⟩ := HD.out.out
    subst hn
    by_cases hk : k < l.length
    · obtain ⟨ad', e1, hx⟩ := at_nat HR.out k hk
      cases e1
      have HM : Aside0 (minI (l.take (k + 1)) = min (minI (l.take k)) (rd l k)) := ⟨minI_take l k HK.out.1 hk⟩
      generalize hmk : minI (l.take k) = mk at HM ⊢
      generalize hrk : rd l k = rk at HM hx ⊢
      have HQ := Aside0.mk hmk
      clear hmk hrk
      go_wp2
      all_goals
        go_roundg (l.length - k)
        case measure => have := HK.out; omega
        case rel => exact ⟨k + 1, by go_num, by rw [HM.out]; first | rfl | (simp only [Int.min_def, Int.max_def]; (try split) <;> (first | rfl | (congr 1; omega))), ⟨by omega, by omega, by omega⟩, ⟨⟨⟨_, rfl⟩⟩⟩⟩
    · go_wp2
      go_ret
      have := HK.out
      have e : k = l.length := by omega
      exact ⟨by rw [e, List.take_length]; rfl, HD.out⟩
theorem foot_least (A : Option Addr) (c : Nat) (l : List Int) (w : World) (hr : Kd.C (Kd.int .i64) w A l.length l) (h1 : 1 ≤ l.length) :
    Calls Tryz.prog 89 #[.slice A l.length c] w fun e w' => e = .returned (.int .i64 (minI l)) ∧ Drawn0 w w' := by
  have HR := Aside0.mk hr
  clear hr
  go_enter Tryz.func89, Tryz.ntmps89
  go_wp2_with (go_at_call 100; refine (slices_Min A c l _ HR.out h1).mono ?_; rintro e w' ⟨rfl, ⟨⟨n, rfl⟩⟩⟩)
  go_ret
  exact ⟨rfl, ⟨⟨_, rfl⟩⟩⟩
theorem slices_Max (A : Option Addr) (c : Nat) (l : List Int) (w : World) (hr : Kd.C (Kd.int .i64) w A l.length l) (h1 : 1 ≤ l.length) :
    Calls Tryz.prog 101 #[.slice A l.length c] w fun e w' => e = .returned (.int .i64 (maxI l)) ∧ Drawn0 w w' := by
  have hl := Kd.C_max hr
  obtain ⟨ad, e1, hx0⟩ := at_nat hr 0 (by omega)
  have HR := Aside0.mk hr
  clear hr
  subst e1
  have hx0' : w.cell? ad = some (.int .i64 (maxI (l.take 1))) := by rw [maxI_one l h1]; rw [addr_zero] at hx0; exact hx0
  clear hx0
  have h2 : decide (l.length < 1) = false := decide_eq_false (by omega)
  have h3 : decide ((l.length : Int) < 1) = false := decide_eq_false (by omega)
  go_enter Tryz.func101, Tryz.ntmps101
  go_wp2
  go_loopg [3, 4] l.length (fun m v3 v4 w' => ∃ k : Nat, v4 = .int .i64 k ∧ v3 = .int .i64 (maxI (l.take k)) ∧ Aside0 (1 ≤ k ∧ k ≤ l.length ∧ m = l.length + 1 - k) ∧ Aside0 (Drawn0 w w'))
  case atStart => exact ⟨1, rfl, rfl, ⟨by omega, by omega, by omega⟩, ⟨Drawn0.refl _⟩⟩
  case round =>
    obtain ⟨k, rfl, rfl, HK, HD⟩ := hrel
    obtain ⟨n, hn⟩ := HD.out.out
    subst hn
    by_cases hk : k < l.length
    · obtain ⟨ad', e1, hx⟩ := at_nat HR.out k hk
      cases e1
      have HM : Aside0 (maxI (l.take (k + 1)) = max (maxI (l.take k)) (rd l k)) := ⟨maxI_take l k HK.out.1 hk⟩
      generalize hmk : maxI (l.take k) = mk at HM ⊢
      generalize hrk : rd l k = rk at HM hx ⊢
      have HQ := Aside0.mk hmk
      clear hmk hrk
      go_wp2
      all_goals
        go_roundg (l.length - k)
        case measure => have := HK.out; omega
        case rel => exact ⟨k + 1, by go_num, by rw [HM.out]; first | rfl | (simp only [Int.min_def, Int.max_def]; (try split) <;> (first | rfl | (congr 1; omega))), ⟨by omega, by omega, by omega⟩, ⟨⟨⟨_, rfl⟩⟩⟩⟩
    · go_wp2
      go_ret
      have := HK.out
      have e : k = l.length := by omega
      exact ⟨by rw [e, List.take_length]; rfl, HD.out⟩
theorem foot_greatest (A : Option Addr) (c : Nat) (l : List Int) (w : World) (hr : Kd.C (Kd.int .i64) w A l.length l) (h1 : 1 ≤ l.length) :
    Calls Tryz.prog 90 #[.slice A l.length c] w fun e w' => e = .returned (.int .i64 (maxI l)) ∧ Drawn0 w w' := by
  have HR := Aside0.mk hr
  clear hr
  go_enter Tryz.func90, Tryz.ntmps90
  go_wp2_with (go_at_call 101; refine (slices_Max A c l _ HR.out h1).mono ?_; rintro e w' ⟨rfl, ⟨⟨n, rfl⟩⟩⟩)
  go_ret
  exact ⟨rfl, ⟨⟨_, rfl⟩⟩⟩
def footL (l : List Int) (m : Nat) (i : Nat) : List Int := (List.range (2 * m + 1)).map fun (j : Nat) => rd l (((i : Int) + ((j : Int) - (m : Int))) % (l.length : Int))
def upFoot (l : List Int) (m i k : Nat) : List Int := (List.range k).map fun (j : Nat) => rd l (((i : Int) + ((j : Int) - (m : Int))) % (l.length : Int))
theorem upFoot_succ (l : List Int) (m i k : Nat) : upFoot l m i (k + 1) = upFoot l m i k ++ [rd l (((i : Int) + ((k : Int) - (m : Int))) % (l.length : Int))] := by
  simp [upFoot, List.range_succ]
theorem upFoot_length (l : List Int) (m i k : Nat) : (upFoot l m i k).length = k := by simp [upFoot]
theorem tmod_emod (a n : Int) (hn : 0 < n) : ∃ m, Int.tmod a n = m ∧ -n < m ∧ m < n ∧ (m + n) % n = a % n := by
  refine ⟨_, rfl, ?_, ?_, ?_⟩
  · have := Int.lt_tmod_of_pos a hn; omega
  · exact Int.tmod_lt_of_pos a hn
  · rw [Int.add_emod_right, Int.tmod_def, Int.sub_eq_add_neg, ← Int.mul_neg, Int.add_mul_emod_self_left]
def minsL (l : List Int) (m k : Nat) : List Int := (List.range k).map fun i => minI (footL l m i)
def maxsL (l : List Int) (m k : Nat) : List Int := (List.range k).map fun i => maxI (footL l m i)
theorem minsL_succ (l : List Int) (m k : Nat) : minsL l m (k + 1) = minsL l m k ++ [minI (footL l m k)] := by simp [minsL, List.range_succ]
theorem maxsL_succ (l : List Int) (m k : Nat) : maxsL l m (k + 1) = maxsL l m k ++ [maxI (footL l m k)] := by simp [maxsL, List.range_succ]
theorem minsL_length (l : List Int) (m k : Nat) : (minsL l m k).length = k := by simp [minsL]
theorem maxsL_length (l : List Int) (m k : Nat) : (maxsL l m k).length = k := by simp [maxsL]
structure ES (w w' : World) (v0 v1 : Value) (xs ys : List Int) : Prop where
  b0 : w'.heap[w.heap.size]? = some (.cells #[.slice none 0 0, .slice none 0 0] 88 (0, 0))
  b1 : w'.heap[w.heap.size + 1]? = some (.cells #[v0, v1] 88 (0, 0))
  r0 : Kd.R (Kd.int .i64) 3 w' w.heap.size (fun _ => True) v0 xs
  r1 : Kd.R (Kd.int .i64) 3 w' w.heap.size (fun _ => True) v1 ys
  ne : ∀ k, v0.ownBlock = some k → v1.ownBlock ≠ some k
  be : Below w.heap.size w w'
theorem ES.below {w w' w1 : World} {v0 v1 : Value} {xs ys : List Int} (h : ES w w' v0 v1 xs ys) (hb : Below w'.heap.size w' w1) : ES w w1 v0 v1 xs ys :=
  ⟨blk_below h.b0 hb, blk_below h.b1 hb, Kd.R_below h.r0 hb, Kd.R_below h.r1 hb, h.ne, below_then h.be h.be.size hb⟩
theorem R_int_ok {ik : IntKind} {e : Nat} {w : World} {base : Nat} {ok ok' : Nat → Prop} {v : Value} {xs : List Int} (h : Kd.R (Kd.int ik) e w base ok v xs) (h' : ∀ k, v.ownBlock = some k → ok' k) : Kd.R (Kd.int ik) e w base ok' v xs := ⟨h', h.2⟩
theorem R_lt {α : Type} {d : Kd α} {e : Nat} {w : World} {base : Nat} {ok : Nat → Prop} {v : Value} {xs : List α} (h : Kd.R d e w base ok v xs) (k : Nat) (hk : v.ownBlock = some k) : k < w.heap.size := by
  obtain ⟨inner, ho⟩ := Kd.R_own h
  exact own_lt ho k hk
structure ES1 (w w' : World) (v0 v1 c0 c1 : Value) (xs ys : List Int) : Prop where
  b0 : w'.heap[w.heap.size]? = some (.cells #[.slice none 0 0, .slice none 0 0] 88 (0, 0))
  b1 : w'.heap[w.heap.size + 1]? = some (.cells #[c0, c1] 88 (0, 0))
  r0 : Kd.R (Kd.int .i64) 3 w' w.heap.size (fun _ => True) v0 xs
  r1 : Kd.R (Kd.int .i64) 3 w' w.heap.size (fun _ => True) v1 ys
  ne : ∀ k, v0.ownBlock = some k → v1.ownBlock ≠ some k
  be : Below w.heap.size w w'
theorem ES.app0 {w W w9 : World} {v0 v1 v9 : Value} {xs xs' ys : List Int} (h : ES w W v0 v1 xs ys) (ho : Kd.R (Kd.int .i64) 3 w9 w.heap.size (fun _ => True) v9 xs') (hb : Below w.heap.size w w9) (hg : W.grownBy w9 v0.ownBlock)
    (hat : v9.ownBlock = v0.ownBlock ∨ ∃ b, v9.ownBlock = some b ∧ W.heap.size ≤ b) : ES1 w w9 v9 v1 v0 v1 xs' ys :=
  ⟨blk_grown h.b0 hg (Kd.R_ne h.r0 h.b0 (by decide)), blk_grown h.b1 hg (Kd.R_ne h.r0 h.b1 (by decide)), ho,
    R_int_ok (Kd.R_grown (R_int_ok h.r1 (ok' := fun k => some k ≠ v0.ownBlock) (fun k hk e => h.ne k e.symm hk)) hg (fun _ hk => hk)) (fun _ _ => trivial),
    fun k hk hk1 => by
      rcases hat with hat | ⟨b, hb', hle⟩
      · exact h.ne k (hat ▸ hk) hk1
      · rw [hb'] at hk
        have := R_lt h.r1 k hk1
        injection hk with hk
        omega, hb⟩
theorem ES.app1 {w W w9 : World} {v0 v1 v9 : Value} {xs ys' ys : List Int} (h : ES w W v0 v1 xs ys) (ho : Kd.R (Kd.int .i64) 3 w9 w.heap.size (fun _ => True) v9 ys') (hb : Below w.heap.size w w9) (hg : W.grownBy w9 v1.ownBlock)
    (hat : v9.ownBlock = v1.ownBlock ∨ ∃ b, v9.ownBlock = some b ∧ W.heap.size ≤ b) : ES1 w w9 v0 v9 v0 v1 xs ys' :=
  ⟨blk_grown h.b0 hg (Kd.R_ne h.r1 h.b0 (by decide)), blk_grown h.b1 hg (Kd.R_ne h.r1 h.b1 (by decide)),
    R_int_ok (Kd.R_grown (R_int_ok h.r0 (ok' := fun k => some k ≠ v1.ownBlock) (fun k hk e => h.ne k hk e.symm)) hg (fun _ hk => hk)) (fun _ _ => trivial), ho,
    fun k hk hk1 => by
      rcases hat with hat | ⟨b, hb', hle⟩
      · exact h.ne k hk (hat ▸ hk1)
      · rw [hb'] at hk1
        have := R_lt h.r0 k hk
        injection hk1 with hk1
        omega, hb⟩
structure FR (w w' : World) (vf v0 v1 : Value) (xs : List Int) : Prop where
  r : Kd.R (Kd.int .i64) 3 w' w.heap.size (fun _ => True) vf xs
  n0 : ∀ k, vf.ownBlock = some k → v0.ownBlock ≠ some k
  n1 : ∀ k, vf.ownBlock = some k → v1.ownBlock ≠ some k
theorem FR.start {w wo w' : World} {v0 v1 vf : Value} {xs ys zs : List Int} (h : ES w wo v0 v1 xs ys) (hf : Kd.R (Kd.int .i64) 3 w' wo.heap.size (fun _ => True) vf zs) : FR w w' vf v0 v1 zs :=
  ⟨Kd.R_lower hf h.be.size, fun k hk h0 => by have h1 := R_lt h.r0 k h0; obtain ⟨inner, ho⟩ := Kd.R_own hf; have := own_base ho k hk; omega,
    fun k hk h0 => by have h1 := R_lt h.r1 k h0; obtain ⟨inner, ho⟩ := Kd.R_own hf; have := own_base ho k hk; omega⟩
theorem FR.reads {w w' w'' : World} {A : Option Addr} {n c : Nat} {v0 v1 : Value} {zs : List Int} (h : FR w w' (.slice A n c) v0 v1 zs) (hb : Below w'.heap.size w' w'') : Kd.C (Kd.int .i64) w'' A zs.length zs := by
  obtain ⟨A', c', e, _, hc⟩ := Kd.R_reads h.r
  injection e with e1 e2 e3
  subst e1
  exact Kd.C_below hc hb
theorem FR.app0 {w W w9 : World} {v0 v1 v9 vf : Value} {zs : List Int} (h : FR w W vf v0 v1 zs) (hg : W.grownBy w9 v0.ownBlock)
    (hat : v9.ownBlock = v0.ownBlock ∨ ∃ b, v9.ownBlock = some b ∧ W.heap.size ≤ b) : FR w w9 vf v9 v1 zs :=
  ⟨R_int_ok (Kd.R_grown (R_int_ok h.r (ok' := fun k => some k ≠ v0.ownBlock) (fun k hk e => h.n0 k hk e.symm)) hg (fun _ hk => hk)) (fun _ _ => trivial),
    fun k hk h9 => by
      rcases hat with hat | ⟨b, hb', hle⟩
      · exact h.n0 k hk (hat ▸ h9)
      · rw [hb'] at h9
        have := R_lt h.r k hk
        injection h9 with h9
        omega, h.n1⟩
theorem FR.below {w w' w1 : World} {vf v0 v1 : Value} {zs : List Int} (h : FR w w' vf v0 v1 zs) (hb : Below w'.heap.size w' w1) : FR w w1 vf v0 v1 zs := ⟨Kd.R_below h.r hb, h.n0, h.n1⟩
theorem FR.set {w w' : World} {vf v0 v1 : Value} {zs : List Int} (h : FR w w' vf v0 v1 zs) {g : Nat} {cs : Array Value} (hb : w'.heap[g]? = some (.cells cs 88 (0, 0))) (j : Nat) (u : Value) : FR w (w'.setCell ⟨g, j, none⟩ u) vf v0 v1 zs := ⟨Kd.R_set h.r hb (by decide) j u, h.n0, h.n1⟩
theorem ES1.set {w w9 : World} {v0 v1 c0 c1 : Value} {xs ys : List Int} (h : ES1 w w9 v0 v1 c0 c1 xs ys) (j : Nat) (u : Value) (hc : (#[c0, c1] : Array Value).setIfInBounds j u = #[v0, v1]) : ES w (w9.setCell ⟨w.heap.size + 1, j, none⟩ u) v0 v1 xs ys :=
  ⟨blk_far h.b0 (by simp) u, blk_put h.b1 j u hc, Kd.R_set h.r0 h.b1 (by decide) j u, Kd.R_set h.r1 h.b1 (by decide) j u, h.ne, below_set h.be (by omega)⟩
set_option maxRecDepth 100000 in
set_option maxHeartbeats 4000000 in
theorem ends_calls (A : Option Addr) (c : Nat) (l : List Int) (m : Nat) (w : World) (hr : Kd.C (Kd.int .i64) w A l.length l) (hl1 : 1 ≤ l.length) (hl2 : l.length ≤ 1000) (hm : m ≤ 1000) :
    Calls Tryz.prog 67 #[.slice A l.length c, .int .i64 (m : Int)] w fun e w' => ∃ v0 v1 : Value, e = .returned (.agg #[v0, v1]) ∧ Kd.R (Kd.int .i64) 3 w' w.heap.size (fun _ => True) v0 (minsL l m l.length) ∧ Kd.R (Kd.int .i64) 3 w' w.heap.size (fun _ => True) v1 (maxsL l m l.length) ∧ Below w.heap.size w w' := by
  have HR := Aside0.mk hr
  clear hr
  go_enter Tryz.func67, Tryz.ntmps67
  go_wp2
  go_loopg [14] l.length (fun q v14 w' => ∃ (k : Nat) (v0 v1 : Value), v14 = .int .i64 k ∧ Aside0 (k ≤ l.length ∧ q = l.length - k) ∧ Aside0 (ES w w' v0 v1 (minsL l m k) (maxsL l m k)))
  case atStart =>
    refine ⟨0, .slice none 0 0, .slice none 0 0, rfl, ⟨by omega, by omega⟩, ⟨?_⟩⟩
    refine ⟨blk_alloc (blk_new _ _) _, ?_, Kd.R_nil _ _ _ _ _, Kd.R_nil _ _ _ _ _, fun k h => by simp [Value.ownBlock] at h, below_alloc (below_alloc (Below.refl _ _) _) _⟩
    have := blk_new (w.alloc (Obj.cells #[Value.slice none 0 0, Value.slice none 0 0] 88)) (Obj.cells #[Value.slice none 0 0, Value.slice none 0 0] 88)
    simpa using this
  case round =>
    obtain ⟨k, v0, v1, rfl, HK, HE⟩ := hrel
    by_cases hk : k < l.length
    · obtain ⟨wo, rfl⟩ : ∃ wo : World, wo = wr := ⟨_, rfl⟩
      go_wp2
      go_loopg [7, 8] (2 * m + 1) (fun q v7 v8 w' => ∃ (j : Nat), v8 = .int .i64 ((j : Int) - (m : Int)) ∧ Aside0 (j ≤ 2 * m + 1 ∧ q = 2 * m + 1 - j) ∧ Aside0 (Kd.R (Kd.int .i64) 3 w' wo.heap.size (fun _ => True) v7 (upFoot l m k j)) ∧ Aside0 (Below wo.heap.size wo w'))
      case atStart => exact ⟨0, by simp, ⟨by omega, by omega⟩, ⟨Kd.R_nil _ _ _ _ _⟩, ⟨Below.refl _ _⟩⟩
      case round =>
        obtain ⟨j, rfl, HJ, HF, HB⟩ := hrel
        by_cases hj : j < 2 * m + 1
        · obtain ⟨t, ht, ht1, ht2, ht3⟩ := tmod_emod ((k : Int) + ((j : Int) - (m : Int))) l.length (by omega)
          have hx : ∃ x : Nat, (t + (l.length : Int)) % (l.length : Int) = (x : Int) ∧ x < l.length := ⟨((t + (l.length : Int)) % (l.length : Int)).toNat, by have := Int.emod_nonneg (t + (l.length : Int)) (show (l.length : Int) ≠ 0 by omega); omega, by have := Int.emod_lt_of_pos (t + (l.length : Int)) (show (0 : Int) < (l.length : Int) by omega); have := Int.emod_nonneg (t + (l.length : Int)) (show (l.length : Int) ≠ 0 by omega); omega⟩
          obtain ⟨x, hx1, hx2⟩ := hx
          obtain ⟨ad, e1, hcell⟩ := at_nat HR.out x hx2
          subst e1
          replace hcell := (HB.out.cell (World.block_lt_of_cell? wo _ ((HE.out.be.cell (World.block_lt_of_cell? w _ hcell)).trans hcell))).trans ((HE.out.be.cell (World.block_lt_of_cell? w _ hcell)).trans hcell)
          have HX := Aside0.mk (show upFoot l m k (j + 1) = upFoot l m k j ++ [rd l x] by rw [upFoot_succ, ← ht3, hx1])
          have hn0 : ¬ ((l.length : Int) = 0) := by omega
          clear ht3
          generalize hrx : rd l (x : Int) = rx at hcell HX
          go_wp2_with ((with_reducible refine gate_builtin (b := .append) (xs := #[.tmp 24, .tmp 40]) rfl ?_); at_builtin; refine Kd.R_append (Kd.int .i64) (w0 := wo) wo.heap.size rfl (.tmp 24) (.tmp 40) 114 3 (.int .i64 0) 8 rfl Tryz.underlying114 info3 rfl (by decide) (by omega) (u7) (upFoot l m k j) (rx) [.int .i64 (rx)] (fun _ => True) (fun _ => False) rfl rfl ?aP (fun _ hk => hk.elim) ?aF ?aO ?aB ?aS ?aL ?_; (case aP => exact rfl); (case aF => exact (fun _ _ => trivial)); (case aO => exact (by (with_reducible repeat (first | apply Kd.R_alloc | apply Kd.R_drewN | apply Kd.R_drew)); exact HF.out)); (case aB => exact (by repeat (first | (with_reducible first | exact HB.out | apply below_alloc | apply pw_below_drewN | apply below_drew1) | exact HB.out))); (case aS => exact (below_size (by repeat (first | (with_reducible first | exact HB.out | apply below_alloc | apply pw_below_drewN | apply below_drew1) | exact HB.out)))); (case aL => rw [upFoot_length]; omega); intro v9 w9 ho hb hg hat; rw [← HX.out] at ho; have n0_ := Aside0.mk ho; have n1_ := Aside0.mk hb; clear HF HB ho hb hg hat hcell; have HF := n0_; have HB := n1_; clear n0_ n1_)
          go_roundg (2 * m - j)
          case measure => have := HJ.out; omega
          case rel => exact ⟨j + 1, by simp; omega, ⟨by omega, by omega⟩, ⟨HF.out⟩, ⟨HB.out⟩⟩
        · have hj2 : j = 2 * m + 1 := by have := HJ.out; omega
          have hle : ¬ ((j : Int) - (m : Int) ≤ (m : Int)) := by omega
          have hfl : upFoot l m k j = footL l m k := by rw [hj2]; rfl
          have hlen : (upFoot l m k j).length = 2 * m + 1 := by rw [upFoot_length]; exact hj2
          have HF' := Aside0.mk (hfl ▸ HF.out)
          clear HF
          have HF := HF'
          clear HF'
          obtain ⟨Af, cf, e7, hcf, hCf⟩ := Kd.R_reads HF.out
          rw [hfl] at hlen
          subst e7
          have HF2 := Aside0.mk (FR.start HE.out HF.out)
          have HLen := Aside0.mk hlen
          clear hCf hfl hlen hj2 hcf
          have HE2 := Aside0.mk (HE.out.below HB.out)
          have hi0 : ∀ (x y : Value) (W : World), (Instr.index 116 (.agg #[x, y]) (.int .i64 0)).run Tryz.prog W = .ok x W := fun _ _ _ => by kernel_rfl
          have hi1 : ∀ (x y : Value) (W : World), (Instr.index 116 (.agg #[x, y]) (.int .i64 1)).run Tryz.prog W = .ok y W := fun _ _ _ => by kernel_rfl
          clear HB HE HF
          obtain ⟨wq, rfl⟩ : ∃ wq : World, wq = wr := ⟨_, rfl⟩
          go_wp2
          go_loopg [47] 2 (fun q v47 w' => ∃ (j : Nat) (v0 v1 : Value), v47 = .int .i64 j ∧ Aside0 (j ≤ 2 ∧ q = 2 - j) ∧ Aside0 (ES w w' v0 v1 (if j = 0 then minsL l m k else minsL l m (k + 1)) (if j = 2 then maxsL l m (k + 1) else maxsL l m k)) ∧ Aside0 (j = 2 ∨ FR w w' (.slice Af (footL l m k).length cf) v0 v1 (footL l m k)))
          case atStart => exact ⟨0, v0, v1, rfl, ⟨by omega, by omega⟩, ⟨by simpa using HE2.out⟩, ⟨.inr HF2.out⟩⟩
          case round =>
            clear HE2 HF2
            obtain ⟨j, v0, v1, rfl, HJ2, HE, HFR⟩ := hrel
            match j, HJ2, HE, HFR with
            | 0, HJ2, HE, HFR =>
              have HFR' := Aside0.mk (HFR.out.resolve_left (by omega))
              clear HFR
              have HE' := Aside0.mk (show ES w wr v0 v1 (minsL l m k) (maxsL l m k) from by simpa using HE.out)
              clear HE
              obtain ⟨A0, c0, e0, _⟩ := Kd.R_reads HE'.out.r0
              subst e0
              have hcell : wr.cell? ⟨w.heap.size + 1, 0, none⟩ = some (.slice A0 (minsL l m k).length c0) := (blk_cell HE'.out.b1 0).trans rfl
              have hfr := blk_frozen HE'.out.b1 0
              have HO0 := Aside0.mk HE'.out.r0
              have HB0 := Aside0.mk HE'.out.be
              go_wp2_with (first | (go_at_call 89; refine (foot_least Af cf (footL l m k) _ (HFR'.out.reads (Below.refl _ _)) (by have := HLen.out; omega)).mono ?_; rintro e w' ⟨rfl, ⟨⟨n, rfl⟩⟩⟩) | ((with_reducible refine gate_builtin (b := .append) (xs := #[.tmp 56, .tmp 58]) rfl ?_); at_builtin; refine Kd.R_append (Kd.int .i64) (w0 := w) w.heap.size rfl (.tmp 56) (.tmp 58) 22 3 (.int .i64 0) 8 rfl Tryz.underlying22 info3 rfl (by decide) (by omega) (.slice A0 (minsL l m k).length c0) (minsL l m k) (minI (footL l m k)) [.int .i64 (minI (footL l m k))] (fun _ => True) (fun _ => False) rfl rfl ?aP (fun _ hk => hk.elim) ?aF ?aO ?aB ?aS ?aL ?_; (case aP => exact rfl); (case aF => exact (fun _ _ => trivial)); (case aO => exact (by (with_reducible repeat (first | apply Kd.R_alloc | apply Kd.R_drewN | apply Kd.R_drew)); exact HO0.out)); (case aB => exact (by repeat (first | (with_reducible first | exact HB0.out | apply below_alloc | apply pw_below_drewN | apply below_drew1) | exact HB0.out))); (case aS => exact (below_size (by repeat (first | (with_reducible first | exact HB0.out | apply below_alloc | apply pw_below_drewN | apply below_drew1) | exact HB0.out)))); (case aL => rw [minsL_length]; omega); intro v9 w9 ho hb hg hat; have hBw : Below wr.heap.size wr (wr.drewN n) := pw_below_drewN (Below.refl _ _) _; have n0_ := Aside0.mk (ES.app0 (HE'.out.below hBw) ho hb hg hat); have n1_ := Aside0.mk (FR.app0 (HFR'.out.below hBw) hg hat); clear HE' HFR' hcell hfr HO0 HB0 ho hg hat hb hBw; obtain ⟨A9, c9, e9, _⟩ := Kd.R_reads n0_.out.r0; subst e9; have hc9 := (blk_cell n0_.out.b1 0).trans rfl; have hf9 := blk_frozen n0_.out.b1 0))
              go_roundg 1
              case measure => have := HJ2.out; omega
              case rel => exact ⟨1, _, _, rfl, ⟨by omega, by omega⟩, ⟨by rw [if_neg (by omega), if_neg (by omega), minsL_succ]; exact n0_.out.set 0 _ (by simp)⟩, ⟨.inr (n1_.out.set n0_.out.b1 0 _)⟩⟩
            | 1, HJ2, HE, HFR =>
              have HFR' := Aside0.mk (HFR.out.resolve_left (by omega))
              clear HFR
              have HE' := Aside0.mk (show ES w wr v0 v1 (minsL l m (k + 1)) (maxsL l m k) from by simpa using HE.out)
              clear HE
              obtain ⟨A0, c0, e0, _⟩ := Kd.R_reads HE'.out.r1
              subst e0
              have hcell : wr.cell? ⟨w.heap.size + 1, 1, none⟩ = some (.slice A0 (maxsL l m k).length c0) := (blk_cell HE'.out.b1 1).trans rfl
              have hfr := blk_frozen HE'.out.b1 1
              have HO0 := Aside0.mk HE'.out.r1
              have HB0 := Aside0.mk HE'.out.be
              go_wp2_with (first | (go_at_call 90; refine (foot_greatest Af cf (footL l m k) _ (HFR'.out.reads (Below.refl _ _)) (by have := HLen.out; omega)).mono ?_; rintro e w' ⟨rfl, ⟨⟨n, rfl⟩⟩⟩) | ((with_reducible refine gate_builtin (b := .append) (xs := #[.tmp 56, .tmp 58]) rfl ?_); at_builtin; refine Kd.R_append (Kd.int .i64) (w0 := w) w.heap.size rfl (.tmp 56) (.tmp 58) 22 3 (.int .i64 0) 8 rfl Tryz.underlying22 info3 rfl (by decide) (by omega) (.slice A0 (maxsL l m k).length c0) (maxsL l m k) (maxI (footL l m k)) [.int .i64 (maxI (footL l m k))] (fun _ => True) (fun _ => False) rfl rfl ?aP (fun _ hk => hk.elim) ?aF ?aO ?aB ?aS ?aL ?_; (case aP => exact rfl); (case aF => exact (fun _ _ => trivial)); (case aO => exact (by (with_reducible repeat (first | apply Kd.R_alloc | apply Kd.R_drewN | apply Kd.R_drew)); exact HO0.out)); (case aB => exact (by repeat (first | (with_reducible first | exact HB0.out | apply below_alloc | apply pw_below_drewN | apply below_drew1) | exact HB0.out))); (case aS => exact (below_size (by repeat (first | (with_reducible first | exact HB0.out | apply below_alloc | apply pw_below_drewN | apply below_drew1) | exact HB0.out)))); (case aL => rw [maxsL_length]; omega); intro v9 w9 ho hb hg hat; have hBw : Below wr.heap.size wr (wr.drewN n) := pw_below_drewN (Below.refl _ _) _; have n0_ := Aside0.mk (ES.app1 (HE'.out.below hBw) ho hb hg hat); clear HE' HFR' hcell hfr HO0 HB0 ho hg hat hb hBw; obtain ⟨A9, c9, e9, _⟩ := Kd.R_reads n0_.out.r1; subst e9; have hc9 := (blk_cell n0_.out.b1 1).trans rfl; have hf9 := blk_frozen n0_.out.b1 1))
              go_roundg 0
              case measure => have := HJ2.out; omega
              case rel => exact ⟨2, _, _, rfl, ⟨by omega, by omega⟩, ⟨by rw [if_neg (by omega), if_pos rfl, maxsL_succ]; exact n0_.out.set 1 _ (by simp)⟩, ⟨.inl rfl⟩⟩
            | 2, HJ2, HE, HFR =>
              have HE' := Aside0.mk (show ES w wr v0 v1 (minsL l m (k + 1)) (maxsL l m (k + 1)) from by simpa using HE.out)
              clear HE HFR
              go_wp2
              go_roundg (l.length - (k + 1))
              case measure => have := HK.out; omega
              case rel => exact ⟨k + 1, _, _, by go_num, ⟨by omega, by omega⟩, ⟨HE'.out⟩⟩
            | j + 3, HJ2, _, _ => have := HJ2.out; omega
    · have hkl : k = l.length := by have := HK.out; omega
      have HE' := Aside0.mk (hkl ▸ HE.out)
      clear HE
      have HE := HE'
      clear HE' hkl
      obtain ⟨A0, c0, e0, _⟩ := Kd.R_reads HE.out.r0
      obtain ⟨A1, c1, e1, _⟩ := Kd.R_reads HE.out.r1
      subst e0
      subst e1
      have hc0 : wr.cell? ⟨w.heap.size + 1, 0, none⟩ = some (.slice A0 (minsL l m l.length).length c0) := (blk_cell HE.out.b1 0).trans rfl
      have hc1 : wr.cell? ⟨w.heap.size + 1, 1, none⟩ = some (.slice A1 (maxsL l m l.length).length c1) := (blk_cell HE.out.b1 1).trans rfl
      have hd0 : wr.cell? ⟨w.heap.size, 0, none⟩ = some (.slice none 0 0) := (blk_cell HE.out.b0 0).trans rfl
      have hd1 : wr.cell? ⟨w.heap.size, 1, none⟩ = some (.slice none 0 0) := (blk_cell HE.out.b0 1).trans rfl
      have hg0 := blk_frozen HE.out.b0 0
      have hg1 := blk_frozen HE.out.b0 1
      have n1_ := blk_put HE.out.b0 0 (.slice A0 (minsL l m l.length).length c0) (cs' := #[.slice A0 (minsL l m l.length).length c0, .slice none 0 0]) (by simp)
      have n2_ := Aside0.mk (blk_put n1_ 1 (.slice A1 (maxsL l m l.length).length c1) (cs' := #[.slice A0 (minsL l m l.length).length c0, .slice A1 (maxsL l m l.length).length c1]) (by simp))
      have n3_ := Aside0.mk (Kd.R_set (Kd.R_set HE.out.r0 HE.out.b0 (by decide) 0 (.slice A0 (minsL l m l.length).length c0)) n1_ (by decide) 1 (.slice A1 (maxsL l m l.length).length c1))
      have n4_ := Aside0.mk (Kd.R_set (Kd.R_set HE.out.r1 HE.out.b0 (by decide) 0 (.slice A0 (minsL l m l.length).length c0)) n1_ (by decide) 1 (.slice A1 (maxsL l m l.length).length c1))
      have n5_ := Aside0.mk (below_set (below_set HE.out.be (Nat.le_refl _) (j := 0) (v := .slice A0 (minsL l m l.length).length c0)) (Nat.le_refl _) (j := 1) (v := .slice A1 (maxsL l m l.length).length c1))
      clear n1_
      go_wp2
      revert n2_ n3_ n4_ n5_
      generalize ((wr.setCell { block := w.heap.size, off := 0 } (Value.slice A0 (minsL l m l.length).length c0)).setCell { block := w.heap.size, off := 1 } (Value.slice A1 (maxsL l m l.length).length c1)) = W2
      intro n2_ n3_ n4_ n5_
      have q0 : W2.cell? ⟨w.heap.size, 0, none⟩ = some (.slice A0 (minsL l m l.length).length c0) := (blk_cell n2_.out 0).trans rfl
      have q1 : W2.cell? ⟨w.heap.size, 1, none⟩ = some (.slice A1 (maxsL l m l.length).length c1) := (blk_cell n2_.out 1).trans rfl
      exact bodyPost_ret (v := .agg #[.slice A0 (minsL l m l.length).length c0, .slice A1 (maxsL l m l.length).length c1]) (by simp [results, Tryz.results67, go_sem, q0, q1]) rfl ⟨_, _, rfl, n3_.out, n4_.out, n5_.out⟩
end Go.Proofs.YtbjimmemcmjpcabGreatDoor.Print
end
section
set_option linter.unusedVariables false
set_option linter.unusedSimpArgs false
namespace Go.Proofs.YtbjimmemcmjpcabGreatDoor.Print
open Go.RowKit Go.Proofs.YtbjimmemcmjpcabGreatDoorW.PrintWords Go.Proofs.YtbjimmemcmjpcabGreatDoorW.PrintLast Go.Proofs.YtbjimmemcmjpcabGreatDoorW.PrintMore
def isCamB (l0 : List Int) : Bool := decide (3 ≤ l0.length ∧ l0.length ≤ 24) && l0.all isH
theorem isCam_f (l : List Int) : cam_isCam.f l = some (isCamB l) := rfl
def isFootB (n : Int) : Bool := decide (0 ≤ n) && decide (n ≤ 5)
theorem isFoot_f (n : Int) : cam_isFoot.f n = some (isFootB n) := by
  unfold cam_isFoot.f; rw [in_f]; rfl
def cam_Follow.f (l0 : List Int) (a1 : Int) : Option (List Int × Int) := if isCamB l0 = true ∧ isFootB a1 = true then some (maxsL l0 a1.toNat l0.length, 0) else some ([], 2)
set_option maxRecDepth 100000 in
theorem cam_Follow.calls (A0 : Option Addr) (c0 : Nat) (l0 : List Int) (a1 : Int) (r1 : List Int) (r2 : Int) (w : World) (hr0 : Kd.C (Kd.int .i64) w A0 l0.length l0) (hc0 : l0.length ≤ c0) (h : cam_Follow.f l0 a1 = some (r1, r2)) :
    Calls Tryz.prog 33 #[.slice A0 l0.length c0, .int .i64 a1] w fun e w' => ∃ v0_ : Value, e = .returned (.tuple #[v0_, .int .i64 r2]) ∧ Kd.R (Kd.int .i64) 3 w' w.heap.size (fun _ => True) v0_ r1 ∧ Below w.heap.size w w' := by
  have HR := Aside0.mk hr0
  clear hr0
  unfold cam_Follow.f at h
  cases hcam : isCamB l0 with
  | false =>
    rw [if_neg (by simp [hcam])] at h
    obtain ⟨rfl, rfl⟩ : [] = r1 ∧ 2 = r2 := by simpa using h
    have H1 := Aside0.mk (hcam ▸ isCam_f l0)
    clear hcam h
    go_enter Tryz.func33, Tryz.ntmps33
    go_wp2_with (go_at_call 52; refine (cam_isCam.calls A0 c0 l0 false _ HR.out hc0 H1.out).mono ?_; rintro e w' ⟨rfl, ⟨⟨n, rfl⟩⟩⟩)
    go_ret2
    exact ⟨_, rfl, Kd.R_nil _ _ _ _ _, pw_below_drewN (Below.refl _ _) _⟩
  | true =>
    have H1 := Aside0.mk (hcam ▸ isCam_f l0)
    cases hft : isFootB a1 with
    | false =>
      rw [if_neg (by simp [hft])] at h
      obtain ⟨rfl, rfl⟩ : [] = r1 ∧ 2 = r2 := by simpa using h
      have H2 := Aside0.mk (hft ▸ isFoot_f a1)
      clear hcam hft h
      go_enter Tryz.func33, Tryz.ntmps33
      go_wp2_with (first | (go_at_call 52; refine (cam_isCam.calls A0 c0 l0 true _ HR.out hc0 H1.out).mono ?_; rintro e w' ⟨rfl, ⟨⟨n, rfl⟩⟩⟩) | (go_at_call 66; refine (cam_isFoot.calls a1 false _ H2.out).mono ?_; rintro e w' ⟨rfl, ⟨⟨n2, rfl⟩⟩⟩))
      go_ret2
      exact ⟨_, rfl, Kd.R_nil _ _ _ _ _, pw_below_drewN (Below.refl _ _) _⟩
    | true =>
      rw [if_pos ⟨hcam, hft⟩] at h
      obtain ⟨rfl, rfl⟩ : maxsL l0 a1.toNat l0.length = r1 ∧ 0 = r2 := by simpa using h
      have H2 := Aside0.mk (hft ▸ isFoot_f a1)
      have hf1 : 0 ≤ a1 ∧ a1 ≤ 5 := by simpa [isFootB] using hft
      have hl1 : 3 ≤ l0.length ∧ l0.length ≤ 24 := by simp [isCamB] at hcam; exact hcam.1
      obtain ⟨m, rfl⟩ := Int.eq_ofNat_of_zero_le hf1.1
      clear hcam hft h
      have hi1 : ∀ (x y : Value) (W : World), (Instr.index 88 (.agg #[x, y]) (.int .i64 1)).run Tryz.prog W = .ok y W := fun _ _ _ => by kernel_rfl
      go_enter Tryz.func33, Tryz.ntmps33
      go_wp2_with (first | (go_at_call 52; refine (cam_isCam.calls A0 c0 l0 true _ HR.out hc0 H1.out).mono ?_; rintro e w' ⟨rfl, ⟨⟨n, rfl⟩⟩⟩) | (go_at_call 66; refine (cam_isFoot.calls (m : Int) true _ H2.out).mono ?_; rintro e w' ⟨rfl, ⟨⟨n2, rfl⟩⟩⟩) | (go_at_call 67; refine (ends_calls A0 c0 l0 m _ (Kd.C_below HR.out (by repeat (first | exact Below.refl _ _ | apply pw_below_drewN))) (by omega) (by omega) (by omega)).mono ?_; rintro e w' ⟨v0, v1, rfl, h0, h1, hb⟩; have H3 := Aside0.mk h1; have H4 := Aside0.mk hb; clear h0 h1 hb))
      go_ret2
      exact ⟨_, rfl, H3.out, below_step (by repeat (first | exact Below.refl _ _ | apply pw_below_drewN)) H4.out⟩
def carveL (least : List Int) (e : Nat) : List Int := least.map fun n => min 30 (n + (e : Int))
def lowB (want fol : List Int) (e k : Nat) : Bool := (List.range k).any fun i => decide (rd fol (i : Int) < rd want (i : Int) - (e : Int))
theorem lowB_succ (want fol : List Int) (e k : Nat) : lowB want fol e (k + 1) = (lowB want fol e k || decide (rd fol (k : Int) < rd want (k : Int) - (e : Int))) := by simp [lowB, List.range_succ]
def lowAt (want : List Int) (m e : Nat) : Bool := lowB want (maxsL (carveL (minsL want m want.length) e) m want.length) e want.length
def carve (want : List Int) (m : Nat) : List Int × Int × Int :=
  match (List.range 31).find? (fun e => !lowAt want m e) with
  | some e => (carveL (minsL want m want.length) e, (e : Int), 0)
  | none => ([], 0, 5)
def cam_Carve.f (l0 : List Int) (a1 : Int) : Option (List Int × Int × Int) := if isCamB l0 = true ∧ isFootB a1 = true then some (carve l0 a1.toNat) else some ([], 0, 2)
theorem find_of (p : Nat → Bool) (n e : Nat) (he : e < n) (hb : ∀ x, x < e → p x = false) (h : p e = true) : (List.range n).find? p = some e := by
  rw [List.find?_range_eq_some]
  exact ⟨h, by simpa using he, fun j hj => by simp [hb j hj]⟩
theorem find_none (p : Nat → Bool) (n : Nat) (hb : ∀ x, x < n → p x = false) : (List.range n).find? p = none := by
  rw [List.find?_eq_none]
  intro x hx
  simp [hb x (by simpa using hx)]
theorem carveL_length (l : List Int) (e : Nat) : (carveL l e).length = l.length := by simp [carveL]
theorem carveL_take (l : List Int) (e k : Nat) (hk : k < l.length) : carveL (l.take (k + 1)) e = carveL (l.take k) e ++ [min 30 (rd l (k : Int) + (e : Int))] := by
  rw [take_succ_rd l k hk]; simp [carveL]
theorem min30 (x : Int) : (if x < 30 then x else 30) = min 30 x := by simp only [Int.min_def]; split <;> split <;> omega
theorem isCam_rd {l : List Int} (h : isCamB l = true) (k : Nat) (hk : k < l.length) : 0 ≤ rd l (k : Int) ∧ rd l (k : Int) ≤ 30 := by
  simp only [isCamB, Bool.and_eq_true, List.all_eq_true] at h
  have := h.2 l[k] (List.getElem_mem hk)
  simp [isH] at this
  simpa [rd, List.getD_eq_getElem?_getD, hk] using this
theorem foldl_min_mem (P : Int → Prop) (l : List Int) : ∀ a, P a → (∀ x ∈ l, P x) → P (l.foldl min a) := by
  induction l with
  | nil => intro a h _; exact h
  | cons x l ih =>
    intro a h hl
    refine ih _ ?_ (fun y hy => hl y (List.mem_cons_of_mem _ hy))
    rw [Int.min_def]; split
    · exact h
    · exact hl x List.mem_cons_self
theorem foldl_max_mem (P : Int → Prop) (l : List Int) : ∀ a, P a → (∀ x ∈ l, P x) → P (l.foldl max a) := by
  induction l with
  | nil => intro a h _; exact h
  | cons x l ih =>
    intro a h hl
    refine ih _ ?_ (fun y hy => hl y (List.mem_cons_of_mem _ hy))
    rw [Int.max_def]; split
    · exact hl x List.mem_cons_self
    · exact h
theorem footL_all (P : Int → Prop) (l : List Int) (m i : Nat) (hl : 0 < l.length) (h : ∀ x ∈ l, P x) : ∀ x ∈ footL l m i, P x := by
  intro x hx
  simp only [footL, List.mem_map] at hx
  obtain ⟨j, _, rfl⟩ := hx
  have h0 := Int.emod_nonneg ((i : Int) + ((j : Int) - (m : Int))) (show (l.length : Int) ≠ 0 by omega)
  have h1 := Int.emod_lt_of_pos ((i : Int) + ((j : Int) - (m : Int))) (show (0 : Int) < (l.length : Int) by omega)
  generalize ((i : Int) + ((j : Int) - (m : Int))) % (l.length : Int) = q at h0 h1
  have : q.toNat < l.length := by omega
  simp only [rd, List.getD_eq_getElem?_getD, List.getElem?_eq_getElem this, Option.getD_some]
  exact h _ (List.getElem_mem _)
theorem mins_all (P : Int → Prop) (l : List Int) (m k : Nat) (hl : 0 < l.length) (h : ∀ x ∈ l, P x) : ∀ x ∈ minsL l m k, P x := by
  intro x hx
  simp only [minsL, List.mem_map] at hx
  obtain ⟨j, _, rfl⟩ := hx
  have hq := footL_all P l m j hl h
  unfold minI
  refine foldl_min_mem P _ _ ?_ (fun y hy => hq y (List.mem_of_mem_drop hy))
  have hlen : 0 < (footL l m j).length := by simp [footL]
  simp only [rd, List.getD_eq_getElem?_getD, Int.toNat_zero, List.getElem?_eq_getElem hlen, Option.getD_some]
  exact hq _ (List.getElem_mem _)
theorem maxs_all (P : Int → Prop) (l : List Int) (m k : Nat) (hl : 0 < l.length) (h : ∀ x ∈ l, P x) : ∀ x ∈ maxsL l m k, P x := by
  intro x hx
  simp only [maxsL, List.mem_map] at hx
  obtain ⟨j, _, rfl⟩ := hx
  have hq := footL_all P l m j hl h
  unfold maxI
  refine foldl_max_mem P _ _ ?_ (fun y hy => hq y (List.mem_of_mem_drop hy))
  have hlen : 0 < (footL l m j).length := by simp [footL]
  simp only [rd, List.getD_eq_getElem?_getD, Int.toNat_zero, List.getElem?_eq_getElem hlen, Option.getD_some]
  exact hq _ (List.getElem_mem _)
theorem rd_mem {l : List Int} {k : Nat} (hk : k < l.length) : rd l (k : Int) ∈ l := by
  simp [rd, List.getD_eq_getElem?_getD, hk]
set_option maxRecDepth 100000 in
set_option maxHeartbeats 4000000 in
theorem cam_Carve.calls (A0 : Option Addr) (c0 : Nat) (l0 : List Int) (a1 : Int) (r1 : List Int) (r2 : Int) (r3 : Int) (w : World) (hr0 : Kd.C (Kd.int .i64) w A0 l0.length l0) (hc0 : l0.length ≤ c0) (h : cam_Carve.f l0 a1 = some (r1, r2, r3)) :
    Calls Tryz.prog 32 #[.slice A0 l0.length c0, .int .i64 a1] w fun e w' => ∃ v0_ : Value, e = .returned (.tuple #[v0_, .int .i64 r2, .int .i64 r3]) ∧ Kd.R (Kd.int .i64) 3 w' w.heap.size (fun _ => True) v0_ r1 ∧ Below w.heap.size w w' := by
  have HR := Aside0.mk hr0
  clear hr0
  unfold cam_Carve.f at h
  cases hcam : isCamB l0 with
  | false =>
    rw [if_neg (by simp [hcam])] at h
    obtain ⟨rfl, rfl, rfl⟩ : [] = r1 ∧ 0 = r2 ∧ 2 = r3 := by simpa using h
    have H1 := Aside0.mk (hcam ▸ isCam_f l0)
    clear hcam h
    go_enter Tryz.func32, Tryz.ntmps32
    go_wp2_with (go_at_call 52; refine (cam_isCam.calls A0 c0 l0 false _ HR.out hc0 H1.out).mono ?_; rintro e w' ⟨rfl, ⟨⟨n, rfl⟩⟩⟩)
    go_ret3
    exact ⟨_, rfl, Kd.R_nil _ _ _ _ _, pw_below_drewN (Below.refl _ _) _⟩
  | true =>
    have H1 := Aside0.mk (hcam ▸ isCam_f l0)
    cases hft : isFootB a1 with
    | false =>
      rw [if_neg (by simp [hft])] at h
      obtain ⟨rfl, rfl, rfl⟩ : [] = r1 ∧ 0 = r2 ∧ 2 = r3 := by simpa using h
      have H2 := Aside0.mk (hft ▸ isFoot_f a1)
      clear hcam hft h
      go_enter Tryz.func32, Tryz.ntmps32
      go_wp2_with (first | (go_at_call 52; refine (cam_isCam.calls A0 c0 l0 true _ HR.out hc0 H1.out).mono ?_; rintro e w' ⟨rfl, ⟨⟨n, rfl⟩⟩⟩) | (go_at_call 66; refine (cam_isFoot.calls a1 false _ H2.out).mono ?_; rintro e w' ⟨rfl, ⟨⟨n2, rfl⟩⟩⟩))
      go_ret3
      exact ⟨_, rfl, Kd.R_nil _ _ _ _ _, pw_below_drewN (Below.refl _ _) _⟩
    | true =>
      rw [if_pos ⟨hcam, hft⟩] at h
      have H := Aside0.mk (Option.some.inj h)
      have H2 := Aside0.mk (hft ▸ isFoot_f a1)
      have hf1 : 0 ≤ a1 ∧ a1 ≤ 5 := by simpa [isFootB] using hft
      have hl1 : 3 ≤ l0.length ∧ l0.length ≤ 24 := by simp [isCamB] at hcam; exact hcam.1
      have hl2 := hl1.1
      have hl3 := hl1.2
      have hf2 := hf1.2
      obtain ⟨m, rfl⟩ := Int.eq_ofNat_of_zero_le hf1.1
      have HC := Aside0.mk hcam
      clear hcam hft h hf1 hl1
      rw [Int.toNat_natCast] at H
      have hi0 : ∀ (x y : Value) (W : World), (Instr.index 88 (.agg #[x, y]) (.int .i64 0)).run Tryz.prog W = .ok x W := fun _ _ _ => by kernel_rfl
      have hi1 : ∀ (x y : Value) (W : World), (Instr.index 88 (.agg #[x, y]) (.int .i64 1)).run Tryz.prog W = .ok y W := fun _ _ _ => by kernel_rfl
      go_enter Tryz.func32, Tryz.ntmps32
      go_wp2_with (first | (go_at_call 52; refine (cam_isCam.calls A0 c0 l0 true _ HR.out hc0 H1.out).mono ?_; rintro e w' ⟨rfl, ⟨⟨n, rfl⟩⟩⟩) | (go_at_call 66; refine (cam_isFoot.calls (m : Int) true _ H2.out).mono ?_; rintro e w' ⟨rfl, ⟨⟨n2, rfl⟩⟩⟩) | (go_at_call 67; refine (ends_calls A0 c0 l0 m _ (Kd.C_below HR.out (by repeat (first | exact Below.refl _ _ | apply pw_below_drewN))) (by omega) (by omega) (by omega)).mono ?_; rintro e wL ⟨v0, v1, rfl, h0, h1, hb⟩; obtain ⟨AL, cL, eL, _, hL⟩ := Kd.R_reads h0; subst eL; have HL := Aside0.mk hL; have HB := Aside0.mk (below_step (by repeat (first | exact Below.refl w.heap.size w | apply pw_below_drewN)) hb); clear h0 h1 hb hL))
      have HLen := Aside0.mk (minsL_length l0 m l0.length)
      have HMm : Aside0 (∀ x ∈ minsL l0 m l0.length, 0 ≤ x ∧ x ≤ 30) := ⟨mins_all (fun x => 0 ≤ x ∧ x ≤ 30) l0 m _ (by omega) (fun x hx => by have h := HC.out; simp only [isCamB, Bool.and_eq_true, List.all_eq_true] at h; have := h.2 x hx; simpa [isH] using this)⟩
      generalize hML : minsL l0 m l0.length = ML at HL HLen HMm ⊢
      have HML := Aside0.mk hML
      clear hML
      go_loopg [28] 31 (fun q v28 w' => ∃ (e : Nat), v28 = .int .i64 e ∧ Aside0 (e ≤ 31 ∧ q = 31 - e) ∧ Aside0 (∀ x, x < e → lowAt l0 m x = true) ∧ Aside0 (Below wL.heap.size wL w'))
      case atStart => exact ⟨0, rfl, ⟨by omega, by omega⟩, ⟨fun x hx => by omega⟩, ⟨Below.refl _ _⟩⟩
      case round =>
        obtain ⟨e, rfl, HE, HLo, HBl⟩ := hrel
        by_cases he : e < 31
        · obtain ⟨wo, rfl⟩ : ∃ wo : World, wo = wr := ⟨_, rfl⟩
          have hed : decide ((e : Int) < 31) = true := decide_eq_true (by omega)
          go_wp2
          go_loopg [9, 33] ML.length (fun q v9 v33 w' => ∃ (j : Nat), v33 = .int .i64 j ∧ Aside0 (j ≤ ML.length ∧ q = ML.length - j) ∧ Aside0 (Kd.R (Kd.int .i64) 3 w' wo.heap.size (fun _ => True) v9 (carveL (ML.take j) e)) ∧ Aside0 (Below wo.heap.size wo w'))
          case atStart => exact ⟨0, rfl, ⟨by omega, by omega⟩, ⟨Kd.R_nil _ _ _ _ _⟩, ⟨Below.refl _ _⟩⟩
          case round =>
            obtain ⟨j, rfl, HJ, HF, HB2⟩ := hrel
            by_cases hj : j < ML.length
            · obtain ⟨ad, e1, hcell⟩ := at_nat (Kd.C_below (Kd.C_below HL.out HBl.out) HB2.out) j hj
              subst e1
              have hb0 := HMm.out _ (rd_mem hj)
              obtain ⟨hb1, hb2⟩ := hb0
              have HX := Aside0.mk (carveL_take ML e j hj)
              have hlen := HLen.out
              generalize hrx : rd ML (j : Int) = rx at hcell HX hb1 hb2
              have HRX := Aside0.mk hrx
              clear hrx
              have hml : ML.length ≤ 24 := by omega
              have HLX := Aside0.mk hlen
              clear hlen
              obtain ⟨mz, hmz⟩ : ∃ z : Int, (if rx + (e : Int) < 30 then rx + (e : Int) else 30) = z := ⟨_, rfl⟩
              rw [← min30, hmz] at HX
              go_wp2_with ((with_reducible refine gate_builtin (b := .append) (xs := #[.tmp 37, .tmp 42]) rfl ?_); at_builtin; refine Kd.R_append (Kd.int .i64) (w0 := wo) wo.heap.size rfl (.tmp 37) (.tmp 42) 22 3 (.int .i64 0) 8 rfl Tryz.underlying22 info3 rfl (by decide) (by omega) (u9) (carveL (ML.take j) e) (mz) [.int .i64 (mz)] (fun _ => True) (fun _ => False) rfl rfl ?aP (fun _ hk => hk.elim) ?aF ?aO ?aB ?aS ?aL ?_; (case aP => exact rfl); (case aF => exact (fun _ _ => trivial)); (case aO => exact (by (with_reducible repeat (first | apply Kd.R_alloc | apply Kd.R_drewN | apply Kd.R_drew)); exact HF.out)); (case aB => exact (by repeat (first | (with_reducible first | exact HB2.out | apply below_alloc | apply pw_below_drewN | apply below_drew1) | exact HB2.out))); (case aS => exact (below_size (by repeat (first | (with_reducible first | exact HB2.out | apply below_alloc | apply pw_below_drewN | apply below_drew1) | exact HB2.out)))); (case aL => rw [carveL_length, List.length_take]; omega); intro v9 w9 ho hb hg hat; rw [← HX.out] at ho; have n0_ := Aside0.mk ho; have n1_ := Aside0.mk hb; clear HF HB2 ho hb hg hat hcell; have HF := n0_; have HB2 := n1_; clear n0_ n1_)
              go_roundg (ML.length - (j + 1))
              case measure => have := HJ.out; omega
              case rel => exact ⟨j + 1, by go_num, ⟨by omega, by omega⟩, ⟨HF.out⟩, ⟨HB2.out⟩⟩
            · have hj2 : j = ML.length := by have := HJ.out; omega
              have HF' := Aside0.mk (show Kd.R (Kd.int .i64) 3 wr wo.heap.size (fun _ => True) u9 (carveL ML e) by have h := HF.out; rw [hj2, List.take_length] at h; exact h)
              clear HF
              obtain ⟨Af, cf, e7, hcf, hCf⟩ := Kd.R_reads HF'.out
              subst e7
              have HCf := Aside0.mk hCf
              have HLc := Aside0.mk (show (carveL ML e).length = l0.length by rw [carveL_length]; exact HLen.out)
              clear hCf hj2
              generalize hCV : carveL ML e = CV at HCf HF' HLc hcf ⊢
              have HCV := Aside0.mk hCV
              clear hCV
              go_wp2_with (go_at_call 67; refine (ends_calls Af cf CV m _ HCf.out (by have := HLc.out; omega) (by have := HLc.out; omega) (by omega)).mono ?_; rintro e w2 ⟨v0, v1, rfl, h0, h1, hb⟩; obtain ⟨AX, cX, eX, _, hX⟩ := Kd.R_reads h1; subst eX; have HX := Aside0.mk hX; have HB3 := Aside0.mk hb; clear h0 h1 hb hX)
              have HBw := Aside0.mk (below_step (below_step (below_step HB.out HBl.out) HB2.out) HB3.out)
              have HXl := Aside0.mk (maxsL_length CV m CV.length)
              have HF3 := Aside0.mk (Kd.R_below HF'.out HB3.out)
              have HA0 := Aside0.mk (Kd.C_below HR.out HBw.out)
              have HBl2 := Aside0.mk (below_step (below_step HBl.out HB2.out) HB3.out)
              have HMX : Aside0 (∀ x ∈ maxsL CV m CV.length, 0 ≤ x ∧ x ≤ 30) := ⟨maxs_all (fun x => 0 ≤ x ∧ x ≤ 30) CV m _ (by have := HLc.out; omega) (fun x hx => by
                rw [← HCV.out] at hx
                simp only [carveL, List.mem_map] at hx
                obtain ⟨y, hy, rfl⟩ := hx
                have := HMm.out y hy
                simp only [Int.min_def]; split <;> omega)⟩
              clear HB3 HF' HB2 HCf
              have HLA := Aside0.mk (show lowAt l0 m e = lowB l0 (maxsL CV m CV.length) e l0.length by unfold lowAt; rw [HML.out, HCV.out, HLc.out])
              generalize hXV : maxsL CV m CV.length = XV at HX HXl HMX HLA ⊢
              clear hXV
              have hXn : XV.length = l0.length := HXl.out.trans HLc.out
              have HXn := Aside0.mk hXn
              have hxl : XV.length ≤ 24 := by omega
              clear hXn
              go_loopg [13, 51] XV.length (fun q v13 v51 w' => ∃ (j : Nat), v51 = .int .i64 j ∧ v13 = .bool (lowB l0 XV e j) ∧ Aside0 (j ≤ XV.length ∧ q = XV.length - j) ∧ Aside0 (Drawn0 w2 w'))
              case atStart => exact ⟨0, rfl, rfl, ⟨by omega, by omega⟩, ⟨Drawn0.refl _⟩⟩
              case round =>
                obtain ⟨j, rfl, rfl, HJ, HD⟩ := hrel
                obtain ⟨nd, hnd⟩ := HD.out.out
                subst hnd
                by_cases hj : j < XV.length
                · obtain ⟨ad, e1, hcell⟩ := at_nat HX.out j hj
                  subst e1
                  obtain ⟨ad0, e1, hcell0⟩ := at_nat HA0.out j (by have := HXn.out; omega)
                  subst e1
                  have hj0 : j < l0.length := by have := HXn.out; omega
                  obtain ⟨hb1, hb2⟩ := HMX.out _ (rd_mem hj)
                  obtain ⟨hb3, hb4⟩ := isCam_rd HC.out j hj0
                  have HS := Aside0.mk (lowB_succ l0 XV e j)
                  generalize hrx : rd XV (j : Int) = rx at hcell HS hb1 hb2
                  generalize hry : rd l0 (j : Int) = ry at hcell0 HS hb3 hb4
                  have HQ := Aside0.mk hrx
                  have HQ2 := Aside0.mk hry
                  clear hrx hry
                  cases hlb : lowB l0 XV e j with
                  | true =>
                    have HLB := Aside0.mk hlb
                    clear hlb
                    go_wp2
                    go_roundg (XV.length - (j + 1))
                    case measure => have := HJ.out; omega
                    case rel => exact ⟨j + 1, by go_num, by rw [HS.out, HLB.out]; rfl, ⟨by omega, by omega⟩, ⟨⟨⟨_, rfl⟩⟩⟩⟩
                  | false =>
                    have HLB := Aside0.mk hlb
                    clear hlb
                    go_wp2
                    go_roundg (XV.length - (j + 1))
                    case measure => have := HJ.out; omega
                    case rel => exact ⟨j + 1, by go_num, by rw [HS.out, HLB.out]; rfl, ⟨by omega, by omega⟩, ⟨⟨⟨_, rfl⟩⟩⟩⟩
                · have hj2 : j = l0.length := by have := HJ.out; have := HXn.out; omega
                  cases hlb : lowB l0 XV e j with
                  | true =>
                    have HLB := Aside0.mk (show lowAt l0 m e = true by rw [HLA.out, ← hj2]; exact hlb)
                    clear hlb hj2
                    go_wp2
                    go_roundg (31 - (e + 1))
                    case measure => have := HE.out; omega
                    case rel => exact ⟨e + 1, by go_num, ⟨by omega, by omega⟩, ⟨fun x hx => by rcases Nat.lt_or_ge x e with h | h; exact HLo.out x h; exact (show x = e by omega) ▸ HLB.out⟩, ⟨pw_below_drewN HBl2.out _⟩⟩
                  | false =>
                    have HLB := Aside0.mk (show lowAt l0 m e = false by rw [HLA.out, ← hj2]; exact hlb)
                    clear hlb hj2
                    go_wp2
                    go_ret3
                    have hfin : carve l0 m = (CV, (e : Int), 0) := by
                      unfold carve
                      rw [find_of _ 31 e (by omega) (fun x hx => by rw [HLo.out x hx]; rfl) (by rw [HLB.out]; rfl), HML.out]
                      show (carveL ML e, (e : Int), (0 : Int)) = _
                      rw [HCV.out]
                    have hq := H.out
                    rw [hfin] at hq
                    injection hq with hq1 hq2
                    injection hq2 with hq2 hq3
                    subst hq1
                    subst hq2
                    subst hq3
                    exact ⟨_, rfl, Kd.R_drewN (Kd.R_lower HF3.out (Nat.le_trans HB.out.size HBl.out.size)) _, pw_below_drewN HBw.out _⟩
        · have he2 : e = 31 := by have := HE.out; omega
          have hfin : carve l0 m = ([], 0, 5) := by
            unfold carve
            rw [find_none _ 31 (fun x hx => by rw [HLo.out x (by omega)]; rfl)]
          have hq := H.out
          rw [hfin] at hq
          injection hq with hq1 hq2
          injection hq2 with hq2 hq3
          subst hq1
          subst hq2
          subst hq3
          clear hfin he2
          have hed : decide ((e : Int) < 31) = false := decide_eq_false (by omega)
          go_wp2
          go_ret3
          exact ⟨_, rfl, Kd.R_nil _ _ _ _ _, below_step HB.out HBl.out⟩
end Go.Proofs.YtbjimmemcmjpcabGreatDoor.Print
end
section
set_option linter.unusedVariables false
set_option linter.unusedSimpArgs false
namespace Go.Proofs.YtbjimmemcmjpcabGreatDoor.Print
open Go.RowKit Go.Proofs.YtbjimmemcmjpcabGreatDoorW.PrintWords Go.Proofs.YtbjimmemcmjpcabGreatDoorW.PrintLast Go.Proofs.YtbjimmemcmjpcabGreatDoorW.PrintMore
def gOK (n : Int) (x : S66) : Bool := (decide (0 ≤ x.f0) && decide (x.f0 ≤ n - 1)) && (isH x.f1 && (decide (0 ≤ x.f2) && decide (x.f2 ≤ 5)))
theorem known1 (x : S66) (n : Int) (hn : 0 ≤ n ∧ n ≤ 100) (Bs : Nat) (w : World) (hs : w.heap[Bs]? = some (.cells #[.int .i64 n] 3 (0, 0))) :
    Calls Tryz.prog 58 #[.agg #[.int .i64 x.f0, .int .i64 x.f1, .int .i64 x.f2], .pointer (some ⟨Bs, 0, none⟩)] w fun e w' => e = .returned (.bool (!gOK n x)) ∧ Below w.heap.size w w' := by
  have hu := Tryz.underlying66
  have hbs : Bs < w.heap.size := blk_lt hs
  have c0 : w.cell? ⟨Bs, 0, none⟩ = some (.int .i64 n) := (blk_cell hs 0).trans rfl
  have e1 : IntKind.i64.wrap (n - 1) = n - 1 := IntWalk.i64_in _ ⟨by omega, by omega⟩
  have hB := blk_new w (.cells #[.int .i64 x.f0, .int .i64 x.f1, .int .i64 x.f2] 66)
  have hb := below_alloc (Below.refl w.heap.size w) (.cells #[.int .i64 x.f0, .int .i64 x.f1, .int .i64 x.f2] 66)
  have HBL := Aside0.mk hb
  have HN := Aside0.mk hB
  clear hB hb hs
  cases h1 : (decide (0 ≤ x.f0) && decide (x.f0 ≤ n - 1)) with
  | false =>
    have HR := Aside0.mk (show (!gOK n x) = true by unfold gOK; rw [h1]; rfl)
    have H1 := Aside0.mk (show cam_in.f x.f0 0 (n - 1) = some false by rw [in_f, h1])
    rw [HR.out]
    clear h1
    go_enter Tryz.func58, Tryz.ntmps58
    go_wp2_with (go_at_call 56; refine (cam_in.calls x.f0 0 (n - 1) false _ H1.out).mono ?_; rintro e w' ⟨rfl, ⟨⟨k, rfl⟩⟩⟩)
    go_ret
    exact ⟨rfl, pw_below_drewN HBL.out _⟩
  | true =>
    have H1 := Aside0.mk (show cam_in.f x.f0 0 (n - 1) = some true by rw [in_f, h1])
    cases h2 : isH x.f1 with
    | false =>
      have HR := Aside0.mk (show (!gOK n x) = true by unfold gOK; rw [h1, h2]; rfl)
      have H2 := Aside0.mk (show cam_isHeight.f x.f1 = some false by rw [isHeight_f, h2])
      rw [HR.out]
      clear h1 h2
      go_enter Tryz.func58, Tryz.ntmps58
      go_wp2_with (first | (go_at_call 56; refine (cam_in.calls x.f0 0 (n - 1) true _ H1.out).mono ?_; rintro e w' ⟨rfl, ⟨⟨k, rfl⟩⟩⟩) | (go_at_call 59; refine (cam_isHeight.calls x.f1 false _ H2.out).mono ?_; rintro e w' ⟨rfl, ⟨⟨k2, rfl⟩⟩⟩))
      go_ret
      exact ⟨rfl, by repeat (first | exact HBL.out | apply pw_below_drewN)⟩
    | true =>
      have H2 := Aside0.mk (show cam_isHeight.f x.f1 = some true by rw [isHeight_f, h2])
      obtain ⟨r, hr⟩ : ∃ r, (decide (0 ≤ x.f2) && decide (x.f2 ≤ 5)) = r := ⟨_, rfl⟩
      have HR := Aside0.mk (show (!gOK n x) = !r by unfold gOK; rw [h1, h2, hr]; rfl)
      have H3 := Aside0.mk (show cam_in.f x.f2 0 5 = some r by rw [in_f, hr])
      rw [HR.out]
      clear h1 h2 hr
      go_enter Tryz.func58, Tryz.ntmps58
      go_wp2_with fail
      refine (cam_in.calls x.f0 0 (n - 1) true _ H1.out).mono ?_; rintro e w' ⟨rfl, ⟨⟨k, rfl⟩⟩⟩
      go_wp2_with fail
      refine (cam_isHeight.calls x.f1 true _ H2.out).mono ?_; rintro e w' ⟨rfl, ⟨⟨k2, rfl⟩⟩⟩
      go_wp2_with fail
      refine (cam_in.calls x.f2 0 5 r _ H3.out).mono ?_; rintro e w' ⟨rfl, ⟨⟨k3, rfl⟩⟩⟩
      go_wp2_with fail
      go_ret
      exact ⟨rfl, by repeat (first | exact HBL.out | apply pw_below_drewN)⟩
theorem take_all47 (p : S66 → Bool) (l : List S66) (k : Nat) (hk : k < l.length) (h : (l.take k).all p = true) (h2 : p (rd_T66 l (k : Int)) = true) : (l.take (k + 1)).all p = true := by
  rw [List.take_succ_eq_append_getElem hk, List.all_append, h]
  simp [rd_T66, List.getD_eq_getElem?_getD, hk] at h2
  simp [h2]
theorem not_all47 (p : S66 → Bool) (l : List S66) (k : Nat) (hk : k < l.length) (h2 : p (rd_T66 l (k : Int)) = false) : l.all p = false := by
  simp [rd_T66, List.getD_eq_getElem?_getD, hk] at h2
  rw [List.all_eq_false]
  exact ⟨l[k], List.getElem_mem _, by simp [h2]⟩
theorem indexFunc_gauge (n : Int) (hn : 0 ≤ n ∧ n ≤ 100) (Bs : Nat) (A : Option Addr) (c : Nat) (l : List S66) (hl : l.length ≤ 1000) (w : World) (hs : w.heap[Bs]? = some (.cells #[.int .i64 n] 3 (0, 0))) (hr : Kd.C k66 w A l.length l) :
    Calls Tryz.prog 84 #[.slice A l.length c, .func (.func 58) #[] #[.pointer (some ⟨Bs, 0, none⟩)]] w fun e w' => ∃ k : Int, e = .returned (.int .i64 k) ∧ (0 ≤ k ↔ l.all (gOK n) = false) ∧ Below w.heap.size w w' := by
  have hu := Tryz.underlying66
  have HR := Aside0.mk hr
  have HS := Aside0.mk hs
  clear hr hs
  go_enter Tryz.func84, Tryz.ntmps84
  go_wp2
  go_loopg [5, 8] (l.length + 1) (fun m v5 v8 w' => ∃ k : Nat, v8 = .int .i64 k ∧ Aside0 (k ≤ l.length ∧ m = l.length + 1 - k) ∧ Aside0 ((l.take k).all (gOK n) = true) ∧ Aside0 (Below w.heap.size w w'))
  case atStart => exact ⟨0, rfl, ⟨by omega, by omega⟩, ⟨by simp⟩, ⟨Below.refl _ _⟩⟩
  case round =>
    obtain ⟨k, rfl, HK, HA, HD⟩ := hrel
    by_cases hk : k < l.length
    · have hd : decide ((k : Int) < (l.length : Int)) = true := decide_eq_true (by omega)
      obtain ⟨ad, e1, x0, x1, x2⟩ := at_T66 (Kd.C_below HR.out HD.out) (k : Int) (by omega) (by omega)
      simp only [Int.toNat_natCast] at x0 x1 x2
      subst e1
      obtain ⟨x, hx⟩ : ∃ x, rd_T66 l (k : Int) = x := ⟨_, rfl⟩
      rw [hx] at x0 x1 x2
      have HX := Aside0.mk hx
      clear hx
      cases hh : gOK n x with
      | true =>
        have HH := Aside0.mk hh
        clear hh
        go_wp2_with (go_at_call 58; refine (known1 x n hn Bs _ (blk_below HS.out HD.out)).mono ?_; rintro e w' ⟨rfl, hb⟩; have HB := Aside0.mk (below_step HD.out hb); clear hb; rw [HH.out])
        go_roundg (l.length - k)
        case measure => have := HK.out; omega
        case rel => exact ⟨k + 1, by go_num, ⟨by omega, by omega⟩, ⟨take_all47 _ _ _ hk HA.out (by rw [HX.out]; exact HH.out)⟩, HB⟩
      | false =>
        have HH := Aside0.mk hh
        clear hh
        go_wp2_with (go_at_call 58; refine (known1 x n hn Bs _ (blk_below HS.out HD.out)).mono ?_; rintro e w' ⟨rfl, hb⟩; have HB := Aside0.mk (below_step HD.out hb); clear hb; rw [HH.out])
        go_ret
        exact ⟨_, rfl, by rw [not_all47 _ _ _ hk (by rw [HX.out]; exact HH.out)]; simp, HB.out⟩
    · have hd : decide ((k : Int) < (l.length : Int)) = false := decide_eq_false (by omega)
      go_wp2
      go_ret
      have := HK.out
      have e : k = l.length := by omega
      have h1 := HA.out
      rw [e, List.take_length] at h1
      exact ⟨_, rfl, by rw [h1]; simp, HD.out⟩
theorem containsFunc_gauge (n : Int) (hn : 0 ≤ n ∧ n ≤ 100) (Bs : Nat) (A : Option Addr) (c : Nat) (l : List S66) (hl : l.length ≤ 1000) (w : World) (hs : w.heap[Bs]? = some (.cells #[.int .i64 n] 3 (0, 0))) (hr : Kd.C k66 w A l.length l) :
    Calls Tryz.prog 57 #[.slice A l.length c, .func (.func 58) #[] #[.pointer (some ⟨Bs, 0, none⟩)]] w fun e w' => e = .returned (.bool (!l.all (gOK n))) ∧ Below w.heap.size w w' := by
  have HR := Aside0.mk hr
  have HS := Aside0.mk hs
  clear hr hs
  go_enter Tryz.func57, Tryz.ntmps57
  go_wp2_with (go_at_call 84; refine (indexFunc_gauge n hn Bs A c l hl _ HS.out HR.out).mono ?_; rintro e w' ⟨k, rfl, hk, hb⟩; have HK := Aside0.mk hk; have HB := Aside0.mk hb; clear hk hb)
  go_ret
  refine ⟨?_, HB.out⟩
  have hk := HK.out
  cases h : l.all (gOK n) with
  | true => rw [h] at hk; simp at hk; simp; omega
  | false => rw [h] at hk; simp at hk; simp; omega
end Go.Proofs.YtbjimmemcmjpcabGreatDoor.Print
end
section
namespace Go.Proofs.YtbjimmemcmjpcabGreatDoor.Print
open Go.RowKit Go.Proofs.YtbjimmemcmjpcabGreatDoorW.PrintWords Go.Proofs.YtbjimmemcmjpcabGreatDoorW.PrintLast Go.Proofs.YtbjimmemcmjpcabGreatDoorW.PrintMore
attribute [local go_sem] max2_int min2_int max_two min_two max_three min_three max_four min_four
set_option linter.unusedVariables false
set_option linter.unusedSimpArgs false
def cam_areAll.l0 : Nat → List (List Int) → List (List Int) → Int → Int → Option (Bool)
  | 0, _, _, _, _ => none
  | k + 1, x0, x5, x6, x7 => if x7 < x6 then (if 0 ≤ x7 then (if x7 < (x5.length : Int) then ((cam_isCam.f (rd_L1 x5 x7)).bind fun t194 => (if t194 = true then (cam_areAll.l0 k x0 x5 x6 (wrap64 (x7 + 1))) else (some false))) else (none)) else (none)) else (some (decide ((x0.length : Int) ≤ 4)))
def cam_areAll.f (k : Nat) (l0 : List (List Int)) : Option (Bool) := cam_areAll.l0 k l0 l0 (l0.length : Int) 0
theorem cam_areAll.mono_l : ∀ k, (∀ y0 y1 y2 y3, LeO (cam_areAll.l0 k y0 y1 y2 y3) (cam_areAll.l0 (k + 1) y0 y1 y2 y3))
  | 0 => fun _ _ _ _ r h => by simp [cam_areAll.l0] at h
  | k + 1 => by
    have ih0 := cam_areAll.mono_l k
    · intro y0 y1 y2 y3
      unfold cam_areAll.l0
      repeat' first
      | (with_reducible exact ih0 _ _ _ _)
      | (with_reducible exact LeO.refl _)
      | (with_reducible exact LeO.none _)
      | (with_reducible refine LeO.ite ?_ ?_)
      | (with_reducible refine LeO.bind ?_ (fun _ => ?_))
      | exact ih0 _ _ _ _
      | exact LeO.none _
      | refine LeO.ite ?_ ?_
      | refine LeO.bind ?_ (fun _ => ?_)
theorem cam_areAll.mono : ∀ a0 k, LeO (cam_areAll.f k a0) (cam_areAll.f (k + 1) a0) := by
  intro a0 k
  have ih0 := cam_areAll.mono_l k
  unfold cam_areAll.f
  repeat' first
      | (with_reducible exact ih0 _ _ _ _)
      | (with_reducible exact LeO.refl _)
      | (with_reducible exact LeO.none _)
      | (with_reducible refine LeO.ite ?_ ?_)
      | (with_reducible refine LeO.bind ?_ (fun _ => ?_))
      | exact ih0 _ _ _ _
      | exact LeO.none _
      | refine LeO.ite ?_ ?_
      | refine LeO.bind ?_ (fun _ => ?_)
set_option maxHeartbeats 8000000 in
set_option maxRecDepth 100000 in
theorem cam_areAll.calls (k : Nat) (A0 : Option Addr) (c0 : Nat) (l0 : List (List Int)) (r : Bool) (w : World) (hr0 : Kd.C (Kd.slice 3 (Kd.int .i64)) w A0 l0.length l0) (hc0 : l0.length ≤ c0) (h : cam_areAll.f k l0 = some r) :
    Calls Tryz.prog 73 #[.slice A0 l0.length c0] w fun e w' => e = .returned (.bool r) ∧ Drawn0 w w' := by
  have HR0 := Aside0.mk hr0
  have HC0 := Aside0.mk hc0
  clear hr0 hc0
  have H : (cam_areAll.l0 k l0 l0 (l0.length : Int) 0) = some r := h
  clear h
  have H' := Aside0.mk H
  clear H
  go_enter Tryz.func73, Tryz.ntmps73
  go_wp2
  go_loopg [7] k (fun kq v7 w' => ∃ (x7_1 : Int), v7 = .int .i64 x7_1 ∧ Aside0 (cam_areAll.l0 kq l0 l0 (l0.length : Int) x7_1 = some r) ∧ Aside0 (kq ≤ k) ∧ Drawn0 w w')
  case atStart => exact ⟨(0), (by first | rfl | (simp; done) | (simp [*]; done)), H', ⟨Nat.le_refl _⟩, by repeat (first | exact Drawn0.refl _ | apply Drawn0.step)⟩
  case round =>
    clear H'
    obtain ⟨x7_1, rfl, HA, HK1, ⟨m1, rfl⟩⟩ := hrel
    cases gk with
    | zero => exact absurd HA.out (by simp [cam_areAll.l0])
    | succ k1 =>
      have H := HA.out
      clear HA
      simp only [cam_areAll.l0] at H
      by_cases c2 : x7_1 < (l0.length : Int)
      · rw [if_pos c2] at H
        have c2b0 : decide (x7_1 < (l0.length : Int)) = true := decide_eq_true c2
        clear c2
        by_cases c3 : 0 ≤ x7_1
        · rw [if_pos c3] at H
          have c3b0 : decide (0 ≤ x7_1) = true := decide_eq_true c3
          clear c3
          by_cases c4 : x7_1 < (l0.length : Int)
          · rw [if_pos c4] at H
            have c4b0 : decide (x7_1 < (l0.length : Int)) = true := decide_eq_true c4
            clear c4
            replace H := Option.bind_eq_some_iff.mp H
            obtain ⟨t194, A50, H⟩ := H
            replace H : (if t194 = true then (cam_areAll.l0 k1 l0 l0 (l0.length : Int) (wrap64 (x7_1 + 1))) else (some false)) = some r := H
            have A5 := Aside0.mk A50
            clear A50
            by_cases c6 : t194 = true
            · subst c6
              have H1 : (cam_areAll.l0 k1 l0 l0 (l0.length : Int) (wrap64 (x7_1 + 1))) = some r := by rw [if_pos rfl] at H; exact H
              clear H
              have H := H1
              clear H1
              have H' := Aside0.mk H
              clear H
              have p193 : 0 ≤ (x7_1 : Int) := of_decide_eq_true (by first | (with_reducible assumption) | assumption)
              have q193 : x7_1 < (l0.length : Int) := of_decide_eq_true (by first | (with_reducible assumption) | assumption)
              obtain ⟨ad193, A193_0, c193_0, e193, hx193_0, hl193_0, hi193_0⟩ := at_L1 HR0.out x7_1 p193 q193
              cases e193
              have HR193_0 := Aside0.mk hi193_0
              have HC193_0 := Aside0.mk hl193_0
              clear hi193_0 hl193_0
              replace p193 := eq_true p193
              replace q193 := eq_true q193
              go_wp2_with (first | ((with_reducible refine gate_callee (f := 52) rfl ?_); refine goesL_ (some 12) rfl rfl Tryz.func52 (by kernel_rfl) rfl #[.slice A193_0 (rd_L1 l0 x7_1).length c193_0] rfl (by (try simp only [List.map_toArray, List.map_cons, List.map_nil]); first | done | rfl | (simp only [List.length_drop, List.length_take]; rfl)) ?_; (with_reducible refine (cam_isCam.calls _ _ (rd_L1 l0 x7_1) true _ ?side1 ?side2 A5.out).mono ?_); (case side1 => repeat (first | exact HR193_0.out | (with_reducible refine Kd.C_alloc ?_ _) | (with_reducible refine Kd.C_drewN ?_ _) | (with_reducible refine Kd.C_drew ?_))); (case side2 => exact HC193_0.out); rintro e w' ⟨rfl, ⟨nd, rfl⟩⟩; refine ⟨_, rfl, ?_⟩))
              go_roundg k1
              case measure => have := HK1.out; omega
              case rel => exact ⟨(wrap64 (x7_1 + 1)), (by first | rfl | (simp; done) | (simp [*]; done)), H', ⟨by have := HK1.out; omega⟩, by repeat (first | exact Drawn0.refl _ | apply Drawn0.step)⟩
            · replace c6 := Bool.eq_false_iff.mpr c6
              subst c6
              have H1 : (some false) = some r := by rw [if_neg (show ¬ (false = true) by decide)] at H; exact H
              clear H
              have H := H1
              clear H1
              obtain rfl := Option.some.inj H
              have p193 : 0 ≤ (x7_1 : Int) := of_decide_eq_true (by first | (with_reducible assumption) | assumption)
              have q193 : x7_1 < (l0.length : Int) := of_decide_eq_true (by first | (with_reducible assumption) | assumption)
              obtain ⟨ad193, A193_0, c193_0, e193, hx193_0, hl193_0, hi193_0⟩ := at_L1 HR0.out x7_1 p193 q193
              cases e193
              have HR193_0 := Aside0.mk hi193_0
              have HC193_0 := Aside0.mk hl193_0
              clear hi193_0 hl193_0
              replace p193 := eq_true p193
              replace q193 := eq_true q193
              go_wp2_with (first | ((with_reducible refine gate_callee (f := 52) rfl ?_); refine goesL_ (some 12) rfl rfl Tryz.func52 (by kernel_rfl) rfl #[.slice A193_0 (rd_L1 l0 x7_1).length c193_0] rfl (by (try simp only [List.map_toArray, List.map_cons, List.map_nil]); first | done | rfl | (simp only [List.length_drop, List.length_take]; rfl)) ?_; (with_reducible refine (cam_isCam.calls _ _ (rd_L1 l0 x7_1) false _ ?side1 ?side2 A5.out).mono ?_); (case side1 => repeat (first | exact HR193_0.out | (with_reducible refine Kd.C_alloc ?_ _) | (with_reducible refine Kd.C_drewN ?_ _) | (with_reducible refine Kd.C_drew ?_))); (case side2 => exact HC193_0.out); rintro e w' ⟨rfl, ⟨nd, rfl⟩⟩; refine ⟨_, rfl, ?_⟩))
              go_ret
              exact ⟨by first | rfl | (simp; done) | (simp [*]; done), by repeat (first | exact Drawn0.refl _ | apply Drawn0.step)⟩
          · rw [if_neg c4] at H
            exact absurd H (by simp)
        · rw [if_neg c3] at H
          exact absurd H (by simp)
      · rw [if_neg c2] at H
        have c2b0 : decide (x7_1 < (l0.length : Int)) = false := decide_eq_false c2
        clear c2
        obtain rfl := Option.some.inj H
        go_wp2
        go_ret
        exact ⟨by first | rfl | (simp; done) | (simp [*]; done), by repeat (first | exact Drawn0.refl _ | apply Drawn0.step)⟩
end Go.Proofs.YtbjimmemcmjpcabGreatDoor.Print
end
section
namespace Go.Proofs.YtbjimmemcmjpcabGreatDoor.Print
open Go.RowKit Go.Proofs.YtbjimmemcmjpcabGreatDoorW.PrintWords Go.Proofs.YtbjimmemcmjpcabGreatDoorW.PrintLast Go.Proofs.YtbjimmemcmjpcabGreatDoorW.PrintMore
attribute [local go_sem] max2_int min2_int max_two min_two max_three min_three max_four min_four
set_option linter.unusedVariables false
set_option linter.unusedSimpArgs false
def cam_areCams.f (l0 : List Int) (l1 : List Int) : Option (Bool) := (cam_isCam.f l0).bind fun t172 => (if t172 = true then ((cam_isCam.f l1).bind fun t173 => (if t173 = true then (some ((l0.length : Int) == (l1.length : Int))) else (some false))) else (some false))
set_option maxHeartbeats 8000000 in
set_option maxRecDepth 100000 in
theorem cam_areCams.calls (A0 : Option Addr) (c0 : Nat) (l0 : List Int) (A1 : Option Addr) (c1 : Nat) (l1 : List Int) (r : Bool) (w : World) (hr0 : Kd.C (Kd.int .i64) w A0 l0.length l0) (hc0 : l0.length ≤ c0) (hr1 : Kd.C (Kd.int .i64) w A1 l1.length l1) (hc1 : l1.length ≤ c1) (h : cam_areCams.f l0 l1 = some r) :
    Calls Tryz.prog 69 #[.slice A0 l0.length c0, .slice A1 l1.length c1] w fun e w' => e = .returned (.bool r) ∧ Drawn0 w w' := by
  have HR0 := Aside0.mk hr0
  have HC0 := Aside0.mk hc0
  clear hr0 hc0
  have HR1 := Aside0.mk hr1
  have HC1 := Aside0.mk hc1
  clear hr1 hc1
  have H : ((cam_isCam.f l0).bind fun t172 => (if t172 = true then ((cam_isCam.f l1).bind fun t173 => (if t173 = true then (some ((l0.length : Int) == (l1.length : Int))) else (some false))) else (some false))) = some r := h
  clear h
  replace H := Option.bind_eq_some_iff.mp H
  obtain ⟨t172, A30, H⟩ := H
  replace H : (if t172 = true then ((cam_isCam.f l1).bind fun t173 => (if t173 = true then (some ((l0.length : Int) == (l1.length : Int))) else (some false))) else (some false)) = some r := H
  have A3 := Aside0.mk A30
  clear A30
  by_cases c4 : t172 = true
  · subst c4
    have H1 : ((cam_isCam.f l1).bind fun t173 => (if t173 = true then (some ((l0.length : Int) == (l1.length : Int))) else (some false))) = some r := by rw [if_pos rfl] at H; exact H
    clear H
    have H := H1
    clear H1
    replace H := Option.bind_eq_some_iff.mp H
    obtain ⟨t173, A50, H⟩ := H
    replace H : (if t173 = true then (some ((l0.length : Int) == (l1.length : Int))) else (some false)) = some r := H
    have A5 := Aside0.mk A50
    clear A50
    by_cases c6 : t173 = true
    · subst c6
      have H1 : (some ((l0.length : Int) == (l1.length : Int))) = some r := by rw [if_pos rfl] at H; exact H
      clear H
      have H := H1
      clear H1
      obtain rfl := Option.some.inj H
      go_enter Tryz.func69, Tryz.ntmps69
      go_wp2_with (first | ((with_reducible refine gate_callee (f := 52) rfl ?_); refine goesL_ (some 6) rfl rfl Tryz.func52 (by kernel_rfl) rfl #[.slice A0 l0.length c0] rfl (by (try simp only [List.map_toArray, List.map_cons, List.map_nil]); first | done | rfl | (simp only [List.length_drop, List.length_take]; rfl)) ?_; (with_reducible refine (cam_isCam.calls _ _ l0 true _ ?side1 ?side2 A3.out).mono ?_); (case side1 => repeat (first | exact HR0.out | (with_reducible refine Kd.C_alloc ?_ _) | (with_reducible refine Kd.C_drewN ?_ _) | (with_reducible refine Kd.C_drew ?_))); (case side2 => exact HC0.out); rintro e w' ⟨rfl, ⟨nd, rfl⟩⟩; refine ⟨_, rfl, ?_⟩) | (go_at_call 52; (with_reducible refine (cam_isCam.calls _ _ l1 true _ ?side1 ?side2 A5.out).mono ?_); (case side1 => repeat (first | exact HR1.out | (with_reducible refine Kd.C_alloc ?_ _) | (with_reducible refine Kd.C_drewN ?_ _) | (with_reducible refine Kd.C_drew ?_))); (case side2 => exact HC1.out); rintro e w' ⟨rfl, ⟨nd, rfl⟩⟩))
      go_ret
      exact ⟨by first | rfl | (simp; done) | (simp [*]; done), by repeat (first | exact Drawn0.refl _ | apply Drawn0.step)⟩
    · replace c6 := Bool.eq_false_iff.mpr c6
      subst c6
      have H1 : (some false) = some r := by rw [if_neg (show ¬ (false = true) by decide)] at H; exact H
      clear H
      have H := H1
      clear H1
      obtain rfl := Option.some.inj H
      go_enter Tryz.func69, Tryz.ntmps69
      go_wp2_with (first | ((with_reducible refine gate_callee (f := 52) rfl ?_); refine goesL_ (some 6) rfl rfl Tryz.func52 (by kernel_rfl) rfl #[.slice A0 l0.length c0] rfl (by (try simp only [List.map_toArray, List.map_cons, List.map_nil]); first | done | rfl | (simp only [List.length_drop, List.length_take]; rfl)) ?_; (with_reducible refine (cam_isCam.calls _ _ l0 true _ ?side1 ?side2 A3.out).mono ?_); (case side1 => repeat (first | exact HR0.out | (with_reducible refine Kd.C_alloc ?_ _) | (with_reducible refine Kd.C_drewN ?_ _) | (with_reducible refine Kd.C_drew ?_))); (case side2 => exact HC0.out); rintro e w' ⟨rfl, ⟨nd, rfl⟩⟩; refine ⟨_, rfl, ?_⟩) | (go_at_call 52; (with_reducible refine (cam_isCam.calls _ _ l1 false _ ?side1 ?side2 A5.out).mono ?_); (case side1 => repeat (first | exact HR1.out | (with_reducible refine Kd.C_alloc ?_ _) | (with_reducible refine Kd.C_drewN ?_ _) | (with_reducible refine Kd.C_drew ?_))); (case side2 => exact HC1.out); rintro e w' ⟨rfl, ⟨nd, rfl⟩⟩))
      go_ret
      exact ⟨by first | rfl | (simp; done) | (simp [*]; done), by repeat (first | exact Drawn0.refl _ | apply Drawn0.step)⟩
  · replace c4 := Bool.eq_false_iff.mpr c4
    subst c4
    have H1 : (some false) = some r := by rw [if_neg (show ¬ (false = true) by decide)] at H; exact H
    clear H
    have H := H1
    clear H1
    obtain rfl := Option.some.inj H
    go_enter Tryz.func69, Tryz.ntmps69
    go_wp2_with (first | ((with_reducible refine gate_callee (f := 52) rfl ?_); refine goesL_ (some 6) rfl rfl Tryz.func52 (by kernel_rfl) rfl #[.slice A0 l0.length c0] rfl (by (try simp only [List.map_toArray, List.map_cons, List.map_nil]); first | done | rfl | (simp only [List.length_drop, List.length_take]; rfl)) ?_; (with_reducible refine (cam_isCam.calls _ _ l0 false _ ?side1 ?side2 A3.out).mono ?_); (case side1 => repeat (first | exact HR0.out | (with_reducible refine Kd.C_alloc ?_ _) | (with_reducible refine Kd.C_drewN ?_ _) | (with_reducible refine Kd.C_drew ?_))); (case side2 => exact HC0.out); rintro e w' ⟨rfl, ⟨nd, rfl⟩⟩; refine ⟨_, rfl, ?_⟩))
    go_ret
    exact ⟨by first | rfl | (simp; done) | (simp [*]; done), by repeat (first | exact Drawn0.refl _ | apply Drawn0.step)⟩
end Go.Proofs.YtbjimmemcmjpcabGreatDoor.Print
end
section
set_option linter.unusedVariables false
set_option linter.unusedSimpArgs false
namespace Go.Proofs.YtbjimmemcmjpcabGreatDoor.Print
open Go.RowKit Go.Proofs.YtbjimmemcmjpcabGreatDoorW.PrintWords Go.Proofs.YtbjimmemcmjpcabGreatDoorW.PrintLast Go.Proofs.YtbjimmemcmjpcabGreatDoorW.PrintMore
theorem shift1 (a b c d : Int) (w : World) : Calls Tryz.prog 72 #[.agg #[.int .i64 a, .int .i64 b], .agg #[.int .i64 c, .int .i64 d]] w fun e w' => e = .returned (.bool (decide (b < d))) ∧ Below w.heap.size w w' := by
  have hu := Tryz.underlying93
  cases hbd : decide (b < d) with
  | true =>
    go_enter Tryz.func72, Tryz.ntmps72
    go_wp2
    go_ret
    exact ⟨rfl, by repeat (first | exact Below.refl _ _ | apply below_alloc)⟩
  | false =>
    go_enter Tryz.func72, Tryz.ntmps72
    go_wp2
    go_ret
    exact ⟨rfl, by repeat (first | exact Below.refl _ _ | apply below_alloc)⟩
def stepB (o x : S93) : S93 := if x.f1 < o.f1 then x else o
def bestL (l : List S93) (k : Nat) : S93 := (l.take k).foldl stepB (rd_T93 l 0)
theorem bestL_succ (l : List S93) (k : Nat) (hk : k < l.length) : bestL l (k + 1) = stepB (bestL l k) (rd_T93 l (k : Int)) := by
  unfold bestL
  rw [List.take_succ_eq_append_getElem hk, List.foldl_append]
  simp [rd_T93, List.getD_eq_getElem?_getD, hk]
def cam_shifted.f (l0 : List S93) : Option (Int × Int) := if 0 < l0.length then some ((bestL l0 l0.length).f0, (bestL l0 l0.length).f1) else none
theorem addr0 (ad : Addr) : ad.add 0 = ad := by
  unfold Addr.add
  split <;> simp_all
set_option maxRecDepth 100000 in
set_option maxHeartbeats 4000000 in
theorem cam_shifted.calls (A0 : Option Addr) (c0 : Nat) (l0 : List S93) (r1 r2 : Int) (w : World) (hr0 : Kd.C k93 w A0 l0.length l0) (hc0 : l0.length ≤ c0) (h : cam_shifted.f l0 = some (r1, r2)) :
    Calls Tryz.prog 71 #[.slice A0 l0.length c0, .func (.func 72) #[] #[]] w fun e w' => e = .returned (.agg #[.int .i64 r1, .int .i64 r2]) ∧ Below w.heap.size w w' := by
  have hl := Kd.C_max hr0
  have hu := Tryz.underlying93
  unfold cam_shifted.f at h
  by_cases h0 : 0 < l0.length
  · rw [if_pos h0] at h
    have H := Aside0.mk (Option.some.inj h)
    clear h
    obtain ⟨ad, e1, hx0, hx1⟩ := at_T93 hr0 0 (by omega) (by omega)
    subst e1
    simp only [Int.toNat_zero, Nat.zero_mul, addr0] at hx0 hx1
    have HR := Aside0.mk hr0
    clear hr0
    have hlt : ad.block < w.heap.size := World.block_lt_of_cell? w _ hx0
    have HB0 := Aside0.mk (show bestL l0 0 = rd_T93 l0 0 from rfl)
    generalize hz : rd_T93 l0 0 = z0 at hx0 hx1 HB0
    have HZ := Aside0.mk hz
    clear hz
    go_enter Tryz.func71, Tryz.ntmps71
    go_wp2
    go_loopg [13] l0.length (fun q v13 w' => ∃ (k : Nat) (o : S93), v13 = .int .i64 k ∧ Aside0 (k ≤ l0.length ∧ q = l0.length - k) ∧ Aside0 (bestL l0 k = o) ∧ Aside0 (w'.heap[w.heap.size]? = some (.cells #[.int .i64 0, .int .i64 0] 93 (0, 0))) ∧ Aside0 (w'.heap[w.heap.size + 1]? = some (.cells #[.int .i64 o.f0, .int .i64 o.f1] 93 (0, 0))) ∧ Aside0 (Below w.heap.size w w'))
    case atStart =>
      have e2 := blk_new (w.alloc (Obj.cells #[Value.int IntKind.i64 0, Value.int IntKind.i64 0] 93)) (Obj.cells #[Value.int IntKind.i64 z0.f0, Value.int IntKind.i64 z0.f1] 93)
      exact ⟨0, z0, rfl, ⟨by omega, by omega⟩, HB0, ⟨blk_alloc (blk_new _ _) _⟩, ⟨by simpa using e2⟩, ⟨below_alloc (below_alloc (Below.refl _ _) _) _⟩⟩
    case round =>
      obtain ⟨k, o, rfl, HK, HO, BK0, BK1, HB⟩ := hrel
      clear hx0 hx1 hlt
      by_cases hk : k < l0.length
      · have hkb : decide ((k : Int) < (l0.length : Int)) = true := decide_eq_true (by omega)
        obtain ⟨ad', e1, hx0, hx1⟩ := at_T93 (Kd.C_below HR.out HB.out) (k : Int) (by omega) (by omega)
        cases e1
        simp only [Int.toNat_natCast] at hx0 hx1
        have HX := Aside0.mk (bestL_succ l0 k hk)
        generalize hx : rd_T93 l0 (k : Int) = x at hx0 hx1 HX
        have HQ := Aside0.mk hx
        clear hx
        have hlt : (ad.add (k * 2)).block < wr.heap.size := World.block_lt_of_cell? wr _ hx0
        have ho0 : wr.cell? ⟨w.heap.size + 1, 0, none⟩ = some (.int .i64 o.f0) := (blk_cell BK1.out 0).trans rfl
        have ho1 : wr.cell? ⟨w.heap.size + 1, 1, none⟩ = some (.int .i64 o.f1) := (blk_cell BK1.out 1).trans rfl
        have hlt2 : w.heap.size + 1 < wr.heap.size := blk_lt BK1.out
        have hfz := blk_frozen BK1.out 0
        have hfz1 := blk_frozen BK1.out 1
        have HN := Aside0.mk (blk_new wr (Obj.cells #[Value.int IntKind.i64 x.f0, Value.int IntKind.i64 x.f1] 93))
        have HA1 := Aside0.mk (blk_alloc BK1.out (Obj.cells #[Value.int IntKind.i64 x.f0, Value.int IntKind.i64 x.f1] 93))
        have HA0 := Aside0.mk (blk_alloc BK0.out (Obj.cells #[Value.int IntKind.i64 x.f0, Value.int IntKind.i64 x.f1] 93))
        cases hlt3 : decide (x.f1 < o.f1) with
        | true =>
          have HS := Aside0.mk (show stepB o x = x from if_pos (of_decide_eq_true hlt3))
          have HL3 := Aside0.mk hlt3
          clear hlt3
          go_wp2_with (go_at_call 72; refine (shift1 x.f0 x.f1 o.f0 o.f1 _).mono ?_; rintro e w1 ⟨rfl, hb⟩; rw [HL3.out]; have n0_ := Aside0.mk (blk_below HA0.out hb); have n1_ := Aside0.mk (blk_below HA1.out hb); have n2_ := Aside0.mk (blk_below HN.out hb); have n3_ := Aside0.mk (below_step (below_alloc HB.out _) hb); have hs0 : w1.cell? ⟨wr.heap.size, 0, none⟩ = some (.int .i64 x.f0) := (blk_cell n2_.out 0).trans rfl; have hs1 : w1.cell? ⟨wr.heap.size, 1, none⟩ = some (.int .i64 x.f1) := (blk_cell n2_.out 1).trans rfl; have ht0 : w1.cell? ⟨w.heap.size + 1, 0, none⟩ = some (.int .i64 o.f0) := (blk_cell n1_.out 0).trans rfl; have ht1 : w1.cell? ⟨w.heap.size + 1, 1, none⟩ = some (.int .i64 o.f1) := (blk_cell n1_.out 1).trans rfl; have hfa := blk_frozen n1_.out 0; have hfb := blk_frozen n1_.out 1; clear hb hx0 hx1 hlt ho0 ho1 hfz hfz1)
          go_roundg (l0.length - (k + 1))
          case measure => have := HK.out; omega
          case rel => exact ⟨k + 1, x, by go_num, ⟨by omega, by omega⟩, ⟨by rw [HX.out, HO.out]; exact HS.out⟩, ⟨blk_far (blk_far n0_.out (by simp) _) (by simp) _⟩, ⟨blk_put (blk_put n1_.out 0 (.int .i64 x.f0) (cs' := #[.int .i64 x.f0, .int .i64 o.f1]) (by simp)) 1 (.int .i64 x.f1) (by simp)⟩, ⟨below_set (below_set n3_.out (by omega)) (by omega)⟩⟩
        | false =>
          have HS := Aside0.mk (show stepB o x = o from if_neg (of_decide_eq_false hlt3))
          have HL3 := Aside0.mk hlt3
          clear hlt3
          go_wp2_with (go_at_call 72; refine (shift1 x.f0 x.f1 o.f0 o.f1 _).mono ?_; rintro e w1 ⟨rfl, hb⟩; rw [HL3.out]; have n0_ := Aside0.mk (blk_below HA0.out hb); have n1_ := Aside0.mk (blk_below HA1.out hb); have n2_ := Aside0.mk (blk_below HN.out hb); have n3_ := Aside0.mk (below_step (below_alloc HB.out _) hb); have hs0 : w1.cell? ⟨wr.heap.size, 0, none⟩ = some (.int .i64 x.f0) := (blk_cell n2_.out 0).trans rfl; have hs1 : w1.cell? ⟨wr.heap.size, 1, none⟩ = some (.int .i64 x.f1) := (blk_cell n2_.out 1).trans rfl; have ht0 : w1.cell? ⟨w.heap.size + 1, 0, none⟩ = some (.int .i64 o.f0) := (blk_cell n1_.out 0).trans rfl; have ht1 : w1.cell? ⟨w.heap.size + 1, 1, none⟩ = some (.int .i64 o.f1) := (blk_cell n1_.out 1).trans rfl; have hfa := blk_frozen n1_.out 0; have hfb := blk_frozen n1_.out 1; clear hb hx0 hx1 hlt ho0 ho1 hfz hfz1)
          go_roundg (l0.length - (k + 1))
          case measure => have := HK.out; omega
          case rel => exact ⟨k + 1, o, by go_num, ⟨by omega, by omega⟩, ⟨by rw [HX.out, HO.out]; exact HS.out⟩, n0_, n1_, n3_⟩
      · have hkl : k = l0.length := by have := HK.out; omega
        have HO2 := Aside0.mk (show bestL l0 l0.length = o by rw [← hkl]; exact HO.out)
        clear hkl
        have hkb : decide ((k : Int) < (l0.length : Int)) = false := decide_eq_false (by omega)
        have ho0 : wr.cell? ⟨w.heap.size + 1, 0, none⟩ = some (.int .i64 o.f0) := (blk_cell BK1.out 0).trans rfl
        have ho1 : wr.cell? ⟨w.heap.size + 1, 1, none⟩ = some (.int .i64 o.f1) := (blk_cell BK1.out 1).trans rfl
        have hz0 : wr.cell? ⟨w.heap.size, 0, none⟩ = some (.int .i64 0) := (blk_cell BK0.out 0).trans rfl
        have hz1 : wr.cell? ⟨w.heap.size, 1, none⟩ = some (.int .i64 0) := (blk_cell BK0.out 1).trans rfl
        have hf0 := blk_frozen BK0.out 0
        have hf1 := blk_frozen BK0.out 1
        have n2_ := Aside0.mk (blk_put (blk_put BK0.out 0 (.int .i64 o.f0) (cs' := #[.int .i64 o.f0, .int .i64 0]) (by simp)) 1 (.int .i64 o.f1) (cs' := #[.int .i64 o.f0, .int .i64 o.f1]) (by simp))
        have n5_ := Aside0.mk (below_set (below_set HB.out (Nat.le_refl _) (j := 0) (v := .int .i64 o.f0)) (Nat.le_refl _) (j := 1) (v := .int .i64 o.f1))
        go_wp2
        revert n2_ n5_
        generalize ((wr.setCell { block := w.heap.size, off := 0 } (Value.int .i64 o.f0)).setCell { block := w.heap.size, off := 1 } (Value.int .i64 o.f1)) = W2
        intro n2_ n5_
        have q0 : W2.cell? ⟨w.heap.size, 0, none⟩ = some (.int .i64 o.f0) := (blk_cell n2_.out 0).trans rfl
        have q1 : W2.cell? ⟨w.heap.size, 1, none⟩ = some (.int .i64 o.f1) := (blk_cell n2_.out 1).trans rfl
        refine bodyPost_ret (v := .agg #[.int .i64 o.f0, .int .i64 o.f1]) (by simp [results, Tryz.results71, go_sem, q0, q1]) rfl ?_
        have hq := H.out
        rw [HO2.out] at hq
        injection hq with hq1 hq2
        subst hq1
        subst hq2
        exact ⟨rfl, n5_.out⟩
  · rw [if_neg h0] at h
    exact absurd h (by simp)
end Go.Proofs.YtbjimmemcmjpcabGreatDoor.Print
end
section
namespace Go.Proofs.YtbjimmemcmjpcabGreatDoor.Print
open Go.RowKit Go.Proofs.YtbjimmemcmjpcabGreatDoorW.PrintWords Go.Proofs.YtbjimmemcmjpcabGreatDoorW.PrintLast Go.Proofs.YtbjimmemcmjpcabGreatDoorW.PrintMore
attribute [local go_sem] max2_int min2_int max_two min_two max_three min_three max_four min_four
set_option linter.unusedVariables false
set_option linter.unusedSimpArgs false
mutual
def cam_Shift.l0 : Nat → List Int → List Int → List (S93) → Int → Int → Option (Int × Int × Int)
  | 0, _, _, _, _, _ => none
  | k + 1, x0, x1, x7, x18, x19 => if x19 < x18 then (cam_Shift.l1 k x0 x1 x7 x19 x18 x19 x0 (x0.length : Int) 0 x19 0) else ((cam_shifted.f x7).bind fun bt176 => (some (bt176.1, bt176.2, 0)))
def cam_Shift.l1 : Nat → List Int → List Int → List (S93) → Int → Int → Int → List Int → Int → Int → Int → Int → Option (Int × Int × Int)
  | 0, _, _, _, _, _, _, _, _, _, _, _ => none
  | k + 1, x0, x1, x7, x8, x18, x19, x24, x25, x26, x180000, x180001 => if x26 < x25 then (if 0 ≤ x26 then (if x26 < (x24.length : Int) then (if (x1.length : Int) = 0 then (none) else (if 0 ≤ (Int.tmod (wrap64 (x26 + x8)) (x1.length : Int)) then (if (Int.tmod (wrap64 (x26 + x8)) (x1.length : Int)) < (x1.length : Int) then ((cam_sum.f k (([rd x24 x26, rd x1 (Int.tmod (wrap64 (x26 + x8)) (x1.length : Int))] : List Int))).bind fun t185 => (cam_Shift.l1 k x0 x1 x7 x8 x18 x19 x24 x25 (wrap64 (x26 + 1)) x180000 (mx x180001 t185))) else (none)) else (none))) else (none)) else (none)) else (if x7.length < 8796093022208 then (cam_Shift.l0 k x0 x1 (x7 ++ [(⟨x180000, x180001⟩ : S93)]) x18 (wrap64 (x19 + 1))) else (none))
end
def cam_Shift.f (k : Nat) (l0 : List Int) (l1 : List Int) : Option (Int × Int × Int) := (cam_areCams.f l0 l1).bind fun t175 => (if t175 = true then (cam_Shift.l0 k l0 l1 ([] : List (S93)) (l0.length : Int) 0) else (some (0, 0, 2)))
theorem cam_Shift.mono_l : ∀ k, (∀ y0 y1 y2 y3 y4, LeO (cam_Shift.l0 k y0 y1 y2 y3 y4) (cam_Shift.l0 (k + 1) y0 y1 y2 y3 y4)) ∧ (∀ y0 y1 y2 y3 y4 y5 y6 y7 y8 y9 y10, LeO (cam_Shift.l1 k y0 y1 y2 y3 y4 y5 y6 y7 y8 y9 y10) (cam_Shift.l1 (k + 1) y0 y1 y2 y3 y4 y5 y6 y7 y8 y9 y10))
  | 0 => ⟨fun _ _ _ _ _ r h => by simp [cam_Shift.l0] at h, fun _ _ _ _ _ _ _ _ _ _ _ r h => by simp [cam_Shift.l1] at h⟩
  | k + 1 => by
    obtain ⟨ih0, ih1⟩ := cam_Shift.mono_l k
    refine ⟨?_, ?_⟩
    · intro y0 y1 y2 y3 y4
      unfold cam_Shift.l0
      repeat' first
      | (with_reducible exact ih0 _ _ _ _ _)
      | (with_reducible exact ih1 _ _ _ _ _ _ _ _ _ _ _)
      | (with_reducible exact cam_sum.mono _ _)
      | (with_reducible exact LeO.refl _)
      | (with_reducible exact LeO.none _)
      | (with_reducible refine LeO.ite ?_ ?_)
      | (with_reducible refine LeO.bind ?_ (fun _ => ?_))
      | exact ih0 _ _ _ _ _
      | exact ih1 _ _ _ _ _ _ _ _ _ _ _
      | exact cam_sum.mono _ _
      | exact LeO.none _
      | refine LeO.ite ?_ ?_
      | refine LeO.bind ?_ (fun _ => ?_)
    · intro y0 y1 y2 y3 y4 y5 y6 y7 y8 y9 y10
      unfold cam_Shift.l1
      repeat' first
      | (with_reducible exact ih0 _ _ _ _ _)
      | (with_reducible exact ih1 _ _ _ _ _ _ _ _ _ _ _)
      | (with_reducible exact cam_sum.mono _ _)
      | (with_reducible exact LeO.refl _)
      | (with_reducible exact LeO.none _)
      | (with_reducible refine LeO.ite ?_ ?_)
      | (with_reducible refine LeO.bind ?_ (fun _ => ?_))
      | exact ih0 _ _ _ _ _
      | exact ih1 _ _ _ _ _ _ _ _ _ _ _
      | exact cam_sum.mono _ _
      | exact LeO.none _
      | refine LeO.ite ?_ ?_
      | refine LeO.bind ?_ (fun _ => ?_)
theorem cam_Shift.mono : ∀ a0 a1 k, LeO (cam_Shift.f k a0 a1) (cam_Shift.f (k + 1) a0 a1) := by
  intro a0 a1 k
  obtain ⟨ih0, ih1⟩ := cam_Shift.mono_l k
  unfold cam_Shift.f
  repeat' first
      | (with_reducible exact ih0 _ _ _ _ _)
      | (with_reducible exact ih1 _ _ _ _ _ _ _ _ _ _ _)
      | (with_reducible exact cam_sum.mono _ _)
      | (with_reducible exact LeO.refl _)
      | (with_reducible exact LeO.none _)
      | (with_reducible refine LeO.ite ?_ ?_)
      | (with_reducible refine LeO.bind ?_ (fun _ => ?_))
      | exact ih0 _ _ _ _ _
      | exact ih1 _ _ _ _ _ _ _ _ _ _ _
      | exact cam_sum.mono _ _
      | exact LeO.none _
      | refine LeO.ite ?_ ?_
      | refine LeO.bind ?_ (fun _ => ?_)
def cam_Shift.T11 : Bool × List (List Nat × List Nat) := (true, [([], []), ([0], [0]), ([], []), ([], []), ([], []), ([], []), ([4, 5], [4, 5]), ([], []), ([7], [7]), ([6, 8], [6, 8]), ([3, 9], [3, 9]), ([10], [10]), ([2, 11], [2, 11]), ([12], [12]), ([1, 13], [1, 13]), ([0, 1, 2, 3, 4, 5, 6, 7, 8, 9, 10, 11, 12, 13, 14], []), ([15, 14, 13, 0, 1, 2, 3, 4, 5, 6, 7, 8, 9, 10, 11, 12, 13, 14], [14, 15])])
def cam_Shift.B11 : List Nat := [0, 1, 0, 0, 0, 0, 48, 0, 128, 496, 1016, 2040, 4092, 8188, 16383, 32767, 65535]
theorem cam_Shift.tab11 : rtab .any (opsOf Tryz.f39 11) = cam_Shift.T11 := by kernel_rfl
theorem cam_Shift.bits11 : waitsOk cam_Shift.T11.2 cam_Shift.B11 = true := by kernel_rfl
set_option maxHeartbeats 8000000 in
set_option maxRecDepth 100000 in
theorem cam_Shift.calls (k : Nat) (A0 : Option Addr) (c0 : Nat) (l0 : List Int) (A1 : Option Addr) (c1 : Nat) (l1 : List Int) (r1 : Int) (r2 : Int) (r3 : Int) (w : World) (hr0 : Kd.C (Kd.int .i64) w A0 l0.length l0) (hc0 : l0.length ≤ c0) (hr1 : Kd.C (Kd.int .i64) w A1 l1.length l1) (hc1 : l1.length ≤ c1) (h : cam_Shift.f k l0 l1 = some (r1, r2, r3)) :
    Calls Tryz.prog 39 #[.slice A0 l0.length c0, .slice A1 l1.length c1] w fun e w' => e = .returned (.tuple #[.int .i64 r1, .int .i64 r2, .int .i64 r3]) ∧ Below w.heap.size w w' := by
  have hu93 := Tryz.underlying93
  have HR0 := Aside0.mk hr0
  have HC0 := Aside0.mk hc0
  clear hr0 hc0
  have HR1 := Aside0.mk hr1
  have HC1 := Aside0.mk hc1
  clear hr1 hc1
  have HB := Aside0.mk (Below.refl w.heap.size w)
  have H : ((cam_areCams.f l0 l1).bind fun t175 => (if t175 = true then (cam_Shift.l0 k l0 l1 ([] : List (S93)) (l0.length : Int) 0) else (some (0, 0, 2)))) = some (r1, r2, r3) := h
  clear h
  replace H := Option.bind_eq_some_iff.mp H
  obtain ⟨t175, A30, H⟩ := H
  replace H : (if t175 = true then (cam_Shift.l0 k l0 l1 ([] : List (S93)) (l0.length : Int) 0) else (some (0, 0, 2))) = some (r1, r2, r3) := H
  have A3 := Aside0.mk A30
  clear A30
  by_cases c4 : t175 = true
  · subst c4
    have H1 : (cam_Shift.l0 k l0 l1 ([] : List (S93)) (l0.length : Int) 0) = some (r1, r2, r3) := by rw [if_pos rfl] at H; exact H
    clear H
    have H := H1
    clear H1
    have H' := Aside0.mk H
    clear H
    go_enter Tryz.func39, Tryz.ntmps39
    go_wp2_with (first | ((with_reducible refine gate_callee (f := 69) rfl ?_); refine goesL_ (some 15) rfl rfl Tryz.func69 (by kernel_rfl) rfl #[.slice A0 l0.length c0, .slice A1 l1.length c1] rfl (by (try simp only [List.map_toArray, List.map_cons, List.map_nil]); first | done | rfl | (simp only [List.length_drop, List.length_take]; rfl)) ?_; (with_reducible refine (cam_areCams.calls _ _ l0 _ _ l1 true _ ?side1 ?side2 ?side3 ?side4 A3.out).mono ?_); (case side1 => repeat (first | exact HR0.out | (with_reducible refine Kd.C_alloc ?_ _) | (with_reducible refine Kd.C_drewN ?_ _) | (with_reducible refine Kd.C_drew ?_))); (case side2 => exact HC0.out); (case side3 => repeat (first | exact HR1.out | (with_reducible refine Kd.C_alloc ?_ _) | (with_reducible refine Kd.C_drewN ?_ _) | (with_reducible refine Kd.C_drew ?_))); (case side4 => exact HC1.out); rintro e w' ⟨rfl, ⟨nd, rfl⟩⟩; refine ⟨_, rfl, ?_⟩))
    go_loopg [7, 19] k (fun kq v7 v19 w' => ∃ (x7_1 : List (S93)) (x19_1 : Int), v19 = .int .i64 x19_1 ∧ Aside0 (cam_Shift.l0 kq l0 l1 x7_1 (l0.length : Int) x19_1 = some (r1, r2, r3)) ∧ Aside0 (kq ≤ k) ∧ Aside0 (Kd.R k93 93 w' w.heap.size (fun _ => True) v7 x7_1) ∧ Aside0 (Below w.heap.size w w'))
    case atStart => exact ⟨(([] : List (S93))), (0), (by first | rfl | (simp; done) | (simp [*]; done)), H', ⟨Nat.le_refl _⟩, ⟨by first | exact Kd.R_nil _ _ _ _ _ | exact Kd.N_nil _ _ _ _ _ | exact Kd.V_nil _ _ _ _ _ | exact Kd.Q_nil _ _ _ _ _ | exact Kd.S_nil _ _ _ _ _⟩, ⟨by repeat (first | (with_reducible first | exact HB.out | apply below_alloc | apply pw_below_drewN | apply below_drew1) | exact HB.out)⟩⟩
    case round =>
      clear H'
      try clear c1
      try clear p2
      try clear c3
      try clear c4
      obtain ⟨x7_1, x19_1, rfl, HA, HK1, HO_7, HB⟩ := hrel
      cases gk with
      | zero => exact absurd HA.out (by simp [cam_Shift.l0])
      | succ k1 =>
        have H := HA.out
        clear HA
        simp only [cam_Shift.l0] at H
        by_cases c5 : x19_1 < (l0.length : Int)
        · rw [if_pos c5] at H
          have c5b0 : decide (x19_1 < (l0.length : Int)) = true := decide_eq_true c5
          clear c5
          have H' := Aside0.mk H
          clear H
          go_wp2_with (first | ((with_reducible refine gate_dst (N := 9) rfl ?_); refine box_event ?hg (N := 9) ?hd (cs := #[.int .i64 0, .int .i64 0]) (t := 93) ?hr ?_; (case hd => rfl); (case hg => rfl); (case hr => first | (go_simp; done) | (go_simp; rfl)); intro gb179 hg w6 hbox hb; have n0_ := Aside0.mk (Kd.R_below (Kd.R_elderB (by (with_reducible repeat (first | apply Kd.R_alloc | apply Kd.R_drewN | apply Kd.R_drew)); exact HO_7.out) gb179 (Nat.le_of_eq hg.symm)) hb); have n1_ := Aside0.mk (below_step (by repeat (first | (with_reducible first | exact HB.out | apply below_alloc | apply pw_below_drewN | apply below_drew1) | exact HB.out)) hb); have n2_ := Aside0.mk (hbox); have n3_ := Aside0.mk ((by rw [hg]; exact (below_size (by repeat (first | (with_reducible first | exact HB.out | apply below_alloc | apply pw_below_drewN | apply below_drew1) | exact HB.out))) : w.heap.size ≤ gb179)); have n4_ := Aside0.mk ((by rw [hg]; exact (below_size (by repeat (first | (with_reducible first | exact HB.out | apply below_alloc | apply pw_below_drewN | apply below_drew1) | exact HB.out))) : w.heap.size ≤ gb179)); clear HO_7; clear HB; have HO_7 := n0_; have HB := n1_; have BK179 := n2_; have GW179 := n3_; have GE179 := n4_; clear n0_ n1_ n2_ n3_ n4_; clear hb hbox hg; have hcz7_0 : w6.cell? ⟨gb179, 0, none⟩ = some (.int .i64 0) := (blk_cell BK179.out 0).trans rfl; have hcz7_1 : w6.cell? ⟨gb179, 1, none⟩ = some (.int .i64 0) := (blk_cell BK179.out 1).trans rfl; have hfz7_0 := blk_frozen BK179.out 0; have hfz7_1 := blk_frozen BK179.out 1))
          go_loopg [26] k1 (fun kq v26 w' => ∃ (x26_2 : Int) (x180001_2 : Int), v26 = .int .i64 x26_2 ∧ Aside0 (cam_Shift.l1 kq l0 l1 x7_1 x19_1 (l0.length : Int) x19_1 l0 (l0.length : Int) x26_2 x19_1 x180001_2 = some (r1, r2, r3)) ∧ Aside0 (kq ≤ k1) ∧ Aside0 (Kd.R k93 93 w' w.heap.size (fun k_ => k_ ≠ gb179) u7 x7_1) ∧ Aside0 (w'.heap[gb179]? = some (.cells #[.int .i64 x19_1, .int .i64 x180001_2] 93 (0, 0))) ∧ Aside0 (Below w.heap.size w w'))
          case atStart => exact ⟨(0), (0), (by first | rfl | (simp; done) | (simp [*]; done)), H', ⟨Nat.le_refl _⟩, ⟨by (with_reducible repeat (first | apply Kd.R_alloc | apply Kd.R_drewN | apply Kd.R_drew)); exact Kd.R_mono (Kd.R_far (p := ⟨gb179, 1, none⟩) (Kd.R_far (p := ⟨gb179, 0, none⟩) (Kd.R_mono HO_7.out (fun k_ hk => (⟨hk, hk.2⟩ : _ ∧ k_ ≠ gb179))) (fun _ hk => hk.2) (.int .i64 x19_1)) (fun _ hk => hk.2) (.int .i64 0)) (fun _ hk => hk.1.2)⟩, ⟨by (with_reducible repeat (first | refine blk_drewN ?_ _ | refine blk_drew ?_ | refine blk_alloc ?_ _)); refine blk_put (cs := #[.int .i64 x19_1, .int .i64 0]) ?_ 1 _ rfl; (with_reducible repeat (first | refine blk_drewN ?_ _ | refine blk_drew ?_ | refine blk_alloc ?_ _)); refine blk_put (cs := #[.int .i64 0, .int .i64 0]) ?_ 0 _ rfl; (with_reducible repeat (first | refine blk_drewN ?_ _ | refine blk_drew ?_ | refine blk_alloc ?_ _)); exact BK179.out⟩, ⟨by repeat (first | (with_reducible first | exact HB.out | apply below_alloc | apply pw_below_drewN | apply below_drew1 | refine below_set ?_ GE179.out) | exact HB.out)⟩⟩
          case round =>
            clear H'
            try clear c1
            try clear p2
            try clear c3
            try clear c4
            try clear c5
            try clear c5b0
            try clear c6
            try clear hcz7_0
            try clear hcz7_1
            try clear hfz7_0
            try clear hfz7_1
            try clear p2
            obtain ⟨x26_2, x180001_2, rfl, HA, HK2, HO_7, BK179, HB⟩ := hrel
            cases gk with
            | zero => exact absurd HA.out (by simp [cam_Shift.l1])
            | succ k2 =>
              have H := HA.out
              clear HA
              simp only [cam_Shift.l1] at H
              by_cases c8 : x26_2 < (l0.length : Int)
              · rw [if_pos c8] at H
                have c8b0 : decide (x26_2 < (l0.length : Int)) = true := decide_eq_true c8
                clear c8
                by_cases c9 : 0 ≤ x26_2
                · rw [if_pos c9] at H
                  have c9b0 : decide (0 ≤ x26_2) = true := decide_eq_true c9
                  clear c9
                  by_cases c10 : x26_2 < (l0.length : Int)
                  · rw [if_pos c10] at H
                    have c10b0 : decide (x26_2 < (l0.length : Int)) = true := decide_eq_true c10
                    clear c10
                    by_cases c11 : (l1.length : Int) = 0
                    · rw [if_pos c11] at H
                      exact absurd H (by simp)
                    · rw [if_neg c11] at H
                      have c11b0 : ((l1.length : Int) == 0) = false := beq_eq_false_iff_ne.mpr c11
                      have c11b1 : ((l1.length : Int) != 0) = true := bne_iff_ne.mpr c11
                      have c11b2 : ¬ (l1 = []) := fun h_ => c11 (by rw [h_]; rfl)
                      obtain ⟨ji12, hji12⟩ : ∃ j_ : Int, (Int.tmod (wrap64 (x26_2 + x19_1)) (l1.length : Int)) = j_ := ⟨_, rfl⟩
                      replace H : (if 0 ≤ (ji12) then (if (ji12) < (l1.length : Int) then ((cam_sum.f k2 (([rd l0 x26_2, rd l1 (ji12)] : List Int))).bind fun t185 => (cam_Shift.l1 k2 l0 l1 x7_1 x19_1 (l0.length : Int) x19_1 l0 (l0.length : Int) (wrap64 (x26_2 + 1)) x19_1 (mx x180001_2 t185))) else (none)) else (none)) = some (r1, r2, r3) := by first | (rw [hji12] at H; exact H) | (simp only [hji12] at H ⊢; exact H)
                      by_cases c13 : 0 ≤ (ji12)
                      · rw [if_pos c13] at H
                        have c13b0 : decide (0 ≤ (ji12)) = true := decide_eq_true c13
                        clear c13
                        by_cases c14 : (ji12) < (l1.length : Int)
                        · rw [if_pos c14] at H
                          have c14b0 : decide ((ji12) < (l1.length : Int)) = true := decide_eq_true c14
                          clear c14
                          obtain ⟨y182, hy182⟩ : ∃ y_ : List Int, y_ = (([rd l0 x26_2, rd l1 (ji12)] : List Int)) := ⟨_, rfl⟩
                          replace H : ((cam_sum.f k2 y182).bind fun t185 => (cam_Shift.l1 k2 l0 l1 x7_1 x19_1 (l0.length : Int) x19_1 l0 (l0.length : Int) (wrap64 (x26_2 + 1)) x19_1 (mx x180001_2 t185))) = some (r1, r2, r3) := by first | (rw [hy182]; with_reducible exact H) | (have H2_ := (Option.bind_some _ _).symm.trans H; rw [hy182]; with_reducible exact H2_) | (have H2_ := (Option.bind_some _ _).symm.trans H; with_reducible exact H2_) | with_reducible exact H | (rw [hy182]; exact H) | exact H
                          have Ny182 := Aside0.mk hy182
                          clear hy182
                          replace H := Option.bind_eq_some_iff.mp H
                          obtain ⟨t185, A150, H⟩ := H
                          replace H : (cam_Shift.l1 k2 l0 l1 x7_1 x19_1 (l0.length : Int) x19_1 l0 (l0.length : Int) (wrap64 (x26_2 + 1)) x19_1 (mx x180001_2 t185)) = some (r1, r2, r3) := H
                          have A15 := Aside0.mk A150
                          clear A150
                          obtain ⟨ji16, hji16⟩ : ∃ j_ : Int, (mx x180001_2 t185) = j_ := ⟨_, rfl⟩
                          replace H : (cam_Shift.l1 k2 l0 l1 x7_1 x19_1 (l0.length : Int) x19_1 l0 (l0.length : Int) (wrap64 (x26_2 + 1)) x19_1 ji16) = some (r1, r2, r3) := by first | (rw [hji16] at H; exact H) | (simp only [hji16] at H ⊢; exact H)
                          (try rw [hji16] at A15)
                          have hji16_ : (if x180001_2 < t185 then t185 else x180001_2) = ji16 := hji16
                          have H' := Aside0.mk H
                          clear H
                          have p180 : 0 ≤ (x26_2 : Int) := of_decide_eq_true (by first | (with_reducible assumption) | assumption)
                          have q180 : x26_2 < (l0.length : Int) := of_decide_eq_true (by first | (with_reducible assumption) | assumption)
                          obtain ⟨ad180, e180, hx180_0⟩ := Kd.at_int HR0.out x26_2 p180 q180
                          cases e180
                          replace hx180_0 := (HB.out.cell (World.block_lt_of_cell? w _ hx180_0)).trans hx180_0
                          replace p180 := eq_true p180
                          replace q180 := eq_true q180
                          try go_wp2
                          have n0_ := Aside0.mk (Kd.R_drew HO_7.out)
                          have n1_ := Aside0.mk (blk_drew BK179.out)
                          have n2_ := Aside0.mk (below_drew1 HB.out)
                          clear HO_7
                          clear BK179
                          clear HB
                          have HO_7 := n0_
                          have BK179 := n1_
                          have HB := n2_
                          clear n0_ n1_ n2_
                          have p181 : 0 ≤ ((ji12) : Int) := of_decide_eq_true (by first | (with_reducible assumption) | assumption)
                          have q181 : (ji12) < (l1.length : Int) := of_decide_eq_true (by first | (with_reducible assumption) | assumption)
                          obtain ⟨ad181, e181, hx181_0⟩ := Kd.at_int HR1.out (ji12) p181 q181
                          have hw181_0 := hx181_0
                          cases e181
                          replace hx181_0 := (HB.out.cell (World.block_lt_of_cell? w _ hx181_0)).trans hx181_0
                          replace p181 := eq_true p181
                          replace q181 := eq_true q181
                          refine start_ (n := 17) (S := fun w' => w'.cell? ⟨gb179, 0, none⟩ = some (.int .i64 x19_1) ∧ w'.cell? ⟨gb179, 1, none⟩ = some (.int .i64 x180001_2) ∧ w'.cell? (ad181.add ((ji12)).toNat) = some (.int .i64 (rd l1 (ji12)))) (ds := [16]) #[false, false, false, false, false, false, false, false, false, false, false, false, false, false, false, false, false] (by kernel_rfl) rfl rfl ⟨(blk_cell BK179.out 0).trans rfl, (blk_cell BK179.out 1).trans rfl, ((HB.out.cell (World.block_lt_of_cell? w _ hw181_0)).trans hw181_0)⟩ (fun hHeld => ?_); refine with_tabW cam_Shift.tab11 cam_Shift.bits11 (fun HT_ HW_ => ?_)
                          generalize wr.drew = w17 at HO_7 BK179 HB hx181_0 hHeld ⊢
                          refine pure_ (i := 0) (N := some 31) (v := ?_) (a' := ?_) #[true, false, false, false, false, false, false, false, false, false, false, false, false, false, false, false, false] rfl rfl (any_of HT_.out (by kernel_rfl)) (fun _ _ _ h => h) (Or.inl ⟨by rfl, ?_⟩) ?_ ?_
                          rotate_left
                          · intro w'
                            go_simp
                            with_reducible rfl
                          rotate_left
                          · simp only [Act.put, List.setIfInBounds_toArray, List.set_cons_zero, List.set_cons_succ, i64_w, i32_w]
                            rfl
                          refine pure_ (i := 2) (N := some 33) (v := ?_) (a' := ?_) #[true, false, true, false, false, false, false, false, false, false, false, false, false, false, false, false, false] rfl rfl (any_of HT_.out (by kernel_rfl)) (fun _ _ _ h => h) (Or.inl ⟨by rfl, ?_⟩) ?_ ?_
                          rotate_left
                          · intro w'
                            go_simp
                            with_reducible rfl
                          rotate_left
                          · simp only [Act.put, List.setIfInBounds_toArray, List.set_cons_zero, List.set_cons_succ, i64_w, i32_w]
                            rfl
                          refine pure_ (i := 3) (N := some 34) (v := ?_) (a' := ?_) #[true, false, true, true, false, false, false, false, false, false, false, false, false, false, false, false, false] rfl rfl (any_of HT_.out (by kernel_rfl)) (fun _ _ _ h => h) (Or.inl ⟨by rfl, ?_⟩) ?_ ?_
                          rotate_left
                          · intro w'
                            go_simp
                            with_reducible rfl
                          rotate_left
                          · simp only [Act.put, List.setIfInBounds_toArray, List.set_cons_zero, List.set_cons_succ, i64_w, i32_w]
                            rfl
                          refine pure_ (i := 4) (N := some 35) (v := ?_) (a' := ?_) #[true, false, true, true, true, false, false, false, false, false, false, false, false, false, false, false, false] rfl rfl (any_of HT_.out (by kernel_rfl)) (fun _ _ _ h => h) (Or.inl ⟨by rfl, ?_⟩) ?_ ?_
                          rotate_left
                          · intro w'
                            go_simp
                            with_reducible rfl
                          rotate_left
                          · simp only [Act.put, List.setIfInBounds_toArray, List.set_cons_zero, List.set_cons_succ, i64_w, i32_w]
                            rfl
                          refine pure_ (i := 5) (N := some 36) (v := ?_) (a' := ?_) #[true, false, true, true, true, true, false, false, false, false, false, false, false, false, false, false, false] rfl rfl (any_of HT_.out (by kernel_rfl)) (fun _ _ _ h => h) (Or.inl ⟨by rfl, ?_⟩) ?_ ?_
                          rotate_left
                          · intro w'
                            go_simp
                            with_reducible rfl
                          rotate_left
                          · simp only [Act.put, List.setIfInBounds_toArray, List.set_cons_zero, List.set_cons_succ, i64_w, i32_w]
                            rfl
                          refine pure_ (i := 6) (N := some 37) (v := ?_) (a' := ?_) #[true, false, true, true, true, true, true, false, false, false, false, false, false, false, false, false, false] rfl rfl (any_of HT_.out (by kernel_rfl)) (fun _ _ _ h => h) (Or.inl ⟨by rfl, ?_⟩) ?_ ?_
                          rotate_left
                          · intro w'
                            go_simp
                            with_reducible rfl
                          rotate_left
                          · simp only [Act.put, List.setIfInBounds_toArray, List.set_cons_zero, List.set_cons_succ, i64_w, i32_w]
                            rfl
                          refine pure_ (i := 7) (N := some 38) (v := ?_) (a' := ?_) #[true, false, true, true, true, true, true, true, false, false, false, false, false, false, false, false, false] rfl rfl (any_of HT_.out (by kernel_rfl)) (fun _ _ _ h => h) (Or.inl ⟨by rfl, ?_⟩) ?_ ?_
                          rotate_left
                          · intro w'
                            go_simp
                            with_reducible rfl
                          rotate_left
                          · simp only [Act.put, List.setIfInBounds_toArray, List.set_cons_zero, List.set_cons_succ, i64_w, i32_w]
                            rfl
                          refine pure_ (i := 8) (N := some 39) (v := ?_) (a' := ?_) #[true, false, true, true, true, true, true, true, true, false, false, false, false, false, false, false, false] rfl rfl (any_of HT_.out (by kernel_rfl)) (fun _ _ _ h => h) (Or.inl ⟨by rfl, ?_⟩) ?_ ?_
                          rotate_left
                          · intro w'
                            go_simp
                            with_reducible rfl
                          rotate_left
                          · simp only [Act.put, List.setIfInBounds_toArray, List.set_cons_zero, List.set_cons_succ, i64_w, i32_w]
                            rfl
                          refine pure_ (i := 9) (N := some 40) (v := ?_) (a' := ?_) #[true, false, true, true, true, true, true, true, true, true, false, false, false, false, false, false, false] rfl rfl (any_of HT_.out (by kernel_rfl)) (fun _ _ _ h => h) (Or.inl ⟨by rfl, ?_⟩) ?_ ?_
                          rotate_left
                          · intro w'
                            go_simp
                            with_reducible rfl
                          rotate_left
                          · simp only [Act.put, List.setIfInBounds_toArray, List.set_cons_zero, List.set_cons_succ, i64_w, i32_w]
                            rfl
                          refine pure_ (i := 10) (N := some 41) (v := ?_) (a' := ?_) #[true, false, true, true, true, true, true, true, true, true, true, false, false, false, false, false, false] rfl rfl (any_of HT_.out (by kernel_rfl)) (fun _ _ _ h => h) (Or.inl ⟨by rfl, ?_⟩) ?_ ?_
                          rotate_left
                          · intro w'
                            go_simp
                            with_reducible rfl
                          rotate_left
                          · simp only [Act.put, List.setIfInBounds_toArray, List.set_cons_zero, List.set_cons_succ, i64_w, i32_w]
                            rfl
                          refine take_ (i := 1) (N := some 32) (v := ?_) (a' := ?_) #[true, true, true, true, true, true, true, true, true, true, true, false, false, false, false, false, false] rfl rfl (take_ofW HT_.out HW_.out (by kernel_rfl)) (fun _ _ _ h => h) (Or.inl ⟨by rfl, ?_⟩) hHeld ?_ ?_
                          rotate_left
                          · rintro w' ⟨s0, s1, s2⟩
                            go_simp
                            with_reducible rfl
                          rotate_left
                          · simp only [Act.put, List.setIfInBounds_toArray, List.set_cons_zero, List.set_cons_succ, i64_w, i32_w]
                            rfl
                          refine take_ (i := 11) (N := some 42) (v := ?_) (a' := ?_) #[true, true, true, true, true, true, true, true, true, true, true, true, false, false, false, false, false] rfl rfl (take_ofW HT_.out HW_.out (by kernel_rfl)) (fun _ _ _ h => h) (Or.inl ⟨by rfl, ?_⟩) hHeld ?_ ?_
                          rotate_left
                          · rintro w' ⟨s0, s1, s2⟩
                            go_simp
                            with_reducible rfl
                          rotate_left
                          · simp only [Act.put, List.setIfInBounds_toArray, List.set_cons_zero, List.set_cons_succ, i64_w, i32_w]
                            rfl
                          refine one_ (i := 12) (N := some 43) #[true, true, true, true, true, true, true, true, true, true, true, true, true, false, false, false, false] rfl rfl (one_of HT_.out (by kernel_rfl)) (by decide) (fun K hK => ?_)
                          refine Kd.R_lit_step (Kd.int .i64) _ 3 ?hg (N := 43) ?hd (xs := ([rd l0 x26_2, rd l1 (ji12)] : List Int)) (inner := [.int .i64 (rd l0 x26_2), .int .i64 (rd l1 (ji12))]) (ok := fun _ => True) (okp := fun _ => True) ?hr ?hp (fun _ hk => hk) trivial (Below.refl _ _) (Nat.le_refl _) (by simp) ?_; (case hd => rfl); (case hg => rfl); (case hr => first | (go_simp; done) | (go_simp; rfl)); (case hp => exact (Reps.one (show Kd.M (Kd.int .i64) _ _ _ (rd l0 x26_2) [.int .i64 (rd l0 x26_2)] from rfl) (Reps.one (show Kd.M (Kd.int .i64) _ _ _ (rd l1 (ji12)) [.int .i64 (rd l1 (ji12))] from rfl) (Reps.none _ _))))
                          intro v183 w18 ho19 hb hg_ hnew_
                          clear hg_ hnew_
                          (first | rw [← Ny182.out] at ho19 | (simp only [Int.reduceToNat] at ho19; rw [← Ny182.out] at ho19))
                          have n0_ := Aside0.mk (Kd.R_below (by (with_reducible repeat (first | apply Kd.R_alloc | apply Kd.R_drewN | apply Kd.R_drew)); exact HO_7.out) hb)
                          have n1_ := Aside0.mk (Kd.R_lower ho19 (below_size (by repeat (first | (with_reducible first | exact HB.out | apply below_alloc | apply pw_below_drewN | apply below_drew1 | refine below_set ?_ GE179.out) | exact HB.out))))
                          have n2_ := Aside0.mk (blk_below (g := gb179) (o := .cells #[.int .i64 x19_1, .int .i64 x180001_2] 93 (0, 0)) (by (with_reducible repeat (first | refine blk_drewN ?_ _ | refine blk_drew ?_ | refine blk_alloc ?_ _)); exact BK179.out) hb)
                          have n3_ := Aside0.mk (below_step (by repeat (first | (with_reducible first | exact HB.out | apply below_alloc | apply pw_below_drewN | apply below_drew1 | refine below_set ?_ GE179.out) | exact HB.out)) hb)
                          clear HO_7
                          clear BK179
                          clear HB
                          have HO_7 := n0_
                          have HO184 := n1_
                          have BK179 := n2_
                          have HB := n3_
                          clear n0_ n1_ n2_ n3_
                          clear hb ho19
                          obtain ⟨Ao20, co20, eo20⟩ := Kd.R_slice HO184.out
                          (first | subst eo20 | (injection eo20 with f1_ f2_ f3_; have f4_ := f1_.symm; have f5_ := f3_.symm; clear f1_ f2_ f3_; subst f4_; subst f5_))
                          refine hK.out _ _ ⟨(blk_cell BK179.out 0).trans rfl, (blk_cell BK179.out 1).trans rfl, ((HB.out.cell (World.block_lt_of_cell? w _ hw181_0)).trans hw181_0)⟩ (fun hHeld => ?_)
                          clear hK K
                          refine norm_ (a' := ?_) ?_ ?_
                          rotate_left
                          · show Act.put _ (some 43) _ = _
                            simp only [Act.put, List.setIfInBounds_toArray, List.set_cons_zero, List.set_cons_succ, i64_w, i32_w]
                            rfl
                          refine one_ (i := 13) (N := some 44) #[true, true, true, true, true, true, true, true, true, true, true, true, true, true, false, false, false] rfl rfl (one_of HT_.out (by kernel_rfl)) (by decide) (fun K hK => ?_)
                          refine goes_ Tryz.func70 (by kernel_rfl) rfl #[.slice Ao20 y182.length co20] (by rfl) rfl rfl (by (try simp only [List.map_toArray, List.map_cons, List.map_nil]); first | done | rfl | (simp only [List.length_drop, List.length_take]; rfl)) ?_
                          with_reducible refine (cam_sum.calls k2 _ _ y182 t185 _ ?side1 ?side2 A15.out).mono ?_
                          (case side1 => repeat (first | exact (Kd.R_reads' HO184.out).2.2 | (with_reducible refine Kd.C_alloc ?_ _) | (with_reducible refine Kd.C_drewN ?_ _) | (with_reducible refine Kd.C_drew ?_)))
                          (case side2 => exact (Kd.R_reads' HO184.out).2.1)
                          rintro e w' ⟨rfl, ⟨nd, rfl⟩⟩
                          refine ⟨_, rfl, ?_⟩
                          refine hK.out _ _ ⟨(blk_cell BK179.out 0).trans rfl, (blk_cell BK179.out 1).trans rfl, ((HB.out.cell (World.block_lt_of_cell? w _ hw181_0)).trans hw181_0)⟩ (fun hHeld => ?_)
                          clear hK K
                          refine norm_ (a' := ?_) ?_ ?_
                          rotate_left
                          · show Act.put _ (some 44) _ = _
                            simp only [Act.put, List.setIfInBounds_toArray, List.set_cons_zero, List.set_cons_succ, i64_w, i32_w]
                            rfl
                          refine pure_ (i := 14) (N := some 45) (v := ?_) (a' := ?_) #[true, true, true, true, true, true, true, true, true, true, true, true, true, true, true, false, false] rfl rfl (any_of HT_.out (by kernel_rfl)) (fun _ _ _ h => h) (Or.inl ⟨by rfl, ?_⟩) ?_ ?_
                          rotate_left
                          · intro w'
                            go_simp
                            with_reducible rfl
                          rotate_left
                          · simp only [Act.put, List.setIfInBounds_toArray, List.set_cons_zero, List.set_cons_succ, i64_w, i32_w]
                            rfl
                          refine pure_ (i := 15) (N := some 46) (v := ?_) (a' := ?_) #[true, true, true, true, true, true, true, true, true, true, true, true, true, true, true, true, false] rfl rfl (any_of HT_.out (by kernel_rfl)) (fun _ _ _ h => h) (Or.inl ⟨by rfl, ?_⟩) ?_ ?_
                          rotate_left
                          · intro w'
                            go_simp
                            with_reducible rfl
                          rotate_left
                          · simp only [Act.put, List.setIfInBounds_toArray, List.set_cons_zero, List.set_cons_succ, i64_w, i32_w]
                            rfl
                          refine last_ (i := 16) (N := none) #[true, true, true, true, true, true, true, true, true, true, true, true, true, true, true, true, true] rfl rfl (one_of HT_.out (by kernel_rfl)) (by decide) (fun K hK => ?_)
                          have hs21 : w18.cell? ⟨gb179, 1, none⟩ = some (.int .i64 x180001_2) := (blk_cell BK179.out 1).trans rfl
                          have hfs21 := blk_frozen BK179.out 1
                          refine skip_ (w1 := ?_) (by rfl) rfl ?_ ?_
                          rotate_left
                          · go_simp
                            rfl
                          refine hK.out _ _ ?_
                          clear hK K
                          refine done_ (done_of HT_.out (by kernel_rfl)) ?_
                          try go_wp2
                          go_roundg k2
                          case measure => have := HK1.out; have := HK2.out; omega
                          case rel => exact ⟨(wrap64 (x26_2 + 1)), (ji16), (by first | rfl | (simp; done) | (simp [*]; done)), H', ⟨by have := HK1.out; have := HK2.out; omega⟩, ⟨by (with_reducible repeat (first | apply Kd.R_alloc | apply Kd.R_drewN | apply Kd.R_drew)); exact Kd.R_mono (Kd.R_far (p := ⟨gb179, 1, none⟩) (Kd.R_mono HO_7.out (fun k_ hk => (⟨hk, hk⟩ : _ ∧ k_ ≠ gb179))) (fun _ hk => hk.2) (.int .i64 ji16)) (fun _ hk => hk.1)⟩, ⟨by (with_reducible repeat (first | refine blk_drewN ?_ _ | refine blk_drew ?_ | refine blk_alloc ?_ _)); refine blk_put (cs := #[.int .i64 x19_1, .int .i64 x180001_2]) ?_ 1 _ rfl; (with_reducible repeat (first | refine blk_drewN ?_ _ | refine blk_drew ?_ | refine blk_alloc ?_ _)); exact BK179.out⟩, ⟨by repeat (first | (with_reducible first | exact HB.out | apply below_alloc | apply pw_below_drewN | apply below_drew1 | refine below_set ?_ GE179.out) | exact HB.out)⟩⟩
                        · rw [if_neg c14] at H
                          exact absurd H (by simp)
                      · rw [if_neg c13] at H
                        exact absurd H (by simp)
                  · rw [if_neg c10] at H
                    exact absurd H (by simp)
                · rw [if_neg c9] at H
                  exact absurd H (by simp)
              · rw [if_neg c8] at H
                have c8b0 : decide (x26_2 < (l0.length : Int)) = false := decide_eq_false c8
                clear c8
                by_cases c22 : x7_1.length < 8796093022208
                · rw [if_pos c22] at H
                  have LMc22 := Aside0.mk c22
                  clear c22
                  obtain ⟨y186, hy186⟩ : ∃ y_ : List (S93), y_ = (x7_1 ++ [(⟨x19_1, x180001_2⟩ : S93)]) := ⟨_, rfl⟩
                  replace H : (cam_Shift.l0 k2 l0 l1 y186 (l0.length : Int) (wrap64 (x19_1 + 1))) = some (r1, r2, r3) := by first | (rw [hy186]; with_reducible exact H) | (have H2_ := (Option.bind_some _ _).symm.trans H; rw [hy186]; with_reducible exact H2_) | (have H2_ := (Option.bind_some _ _).symm.trans H; with_reducible exact H2_) | with_reducible exact H | (rw [hy186]; exact H) | exact H
                  have Ny186 := Aside0.mk hy186
                  clear hy186
                  have H' := Aside0.mk H
                  clear H
                  have hcz23_0 : wr.cell? ⟨gb179, 0, none⟩ = some (.int .i64 x19_1) := (blk_cell BK179.out 0).trans rfl
                  have hcz23_1 : wr.cell? ⟨gb179, 1, none⟩ = some (.int .i64 x180001_2) := (blk_cell BK179.out 1).trans rfl
                  have hfz23_0 := blk_frozen BK179.out 0
                  have hfz23_1 := blk_frozen BK179.out 1
                  go_wp2_with (first | ((with_reducible refine gate_builtin (b := .append) (xs := #[.tmp 48, .tmp 50]) rfl ?_); at_builtin; refine Kd.R_append k93 (w0 := w) w.heap.size rfl (.tmp 48) (.tmp 50) 91 93 (.agg #[(.int .i64 0), (.int .i64 0)]) 16 rfl Tryz.underlying91 info93 rfl (by decide) (by omega) u7 x7_1 (⟨x19_1, x180001_2⟩ : S93) [.int .i64 x19_1, .int .i64 x180001_2] (fun k_ => k_ ≠ gb179) (fun _ => False) rfl rfl ?aP (fun _ hk => hk.elim) ?aF ?aO ?aB ?aS ?aL ?_; (case aP => exact k93_mkM _ _ _ (⟨x19_1, x180001_2⟩ : S93)); (case aB => exact (by repeat (first | (with_reducible first | exact HB.out | apply below_alloc | apply pw_below_drewN | apply below_drew1 | refine below_set ?_ GE179.out) | exact HB.out))); (case aF => exact (fun k_ hk => Kd.freshB (g := gb179) (o := .cells #[.int .i64 x19_1, .int .i64 x180001_2] 93 (0, 0)) (by (with_reducible repeat (first | refine blk_drewN ?_ _ | refine blk_drew ?_ | refine blk_alloc ?_ _)); exact BK179.out) k_ hk)); (case aO => exact (by (with_reducible repeat (first | apply Kd.R_alloc | apply Kd.R_drewN | apply Kd.R_drew)); exact HO_7.out)); (case aS => exact (below_size (by repeat (first | (with_reducible first | exact HB.out | apply below_alloc | apply pw_below_drewN | apply below_drew1 | refine below_set ?_ GE179.out) | exact HB.out)))); (case aL => have := LMc22.out; omega); intro v187 w24 ho hb hg hat; rw [← Ny186.out] at ho; have n0_ := Aside0.mk (blk_grown (g := gb179) (o := .cells #[.int .i64 x19_1, .int .i64 x180001_2] 93 (0, 0)) (by (with_reducible repeat (first | refine blk_drewN ?_ _ | refine blk_drew ?_ | refine blk_alloc ?_ _)); exact BK179.out) hg (Kd.R_away HO_7.out (fun _ hk => hk))); have n1_ := Aside0.mk (hb); have n2_ := Aside0.mk (ho); clear BK179; clear HB; clear HO_7; have BK179 := n0_; have HB := n1_; have HO188 := n2_; clear n0_ n1_ n2_; clear ho hb hg hat))
                  go_roundg k2
                  case measure => have := HK1.out; have := HK2.out; omega
                  case rel => exact ⟨(y186), (wrap64 (x19_1 + 1)), (by first | rfl | (simp; done) | (simp [*]; done)), H', ⟨by have := HK1.out; have := HK2.out; omega⟩, ⟨by (with_reducible repeat (first | apply Kd.R_alloc | apply Kd.R_drewN | apply Kd.R_drew)); exact Kd.R_mono HO188.out (fun _ hk => trivial)⟩, ⟨by repeat (first | (with_reducible first | exact HB.out | apply below_alloc | apply pw_below_drewN | apply below_drew1 | refine below_set ?_ GE179.out) | exact HB.out)⟩⟩
                · rw [if_neg c22] at H
                  exact absurd H (by simp)
        · rw [if_neg c5] at H
          have c5b0 : decide (x19_1 < (l0.length : Int)) = false := decide_eq_false c5
          clear c5
          replace H := Option.bind_eq_some_iff.mp H
          obtain ⟨⟨t176, t177⟩, A250, H⟩ := H
          replace H : (some (t176, t177, 0)) = some (r1, r2, r3) := H
          have A25 := Aside0.mk A250
          clear A250
          simp only [Option.some.injEq, Prod.mk.injEq] at H
          obtain ⟨rfl, rfl, rfl⟩ := H
          obtain ⟨Ao26, co26, eo26⟩ := Kd.R_slice HO_7.out
          subst eo26
          try go_wp2_with (first | ((with_reducible refine gate_callee (f := 71) rfl ?_); refine goesL_ (some 54) rfl rfl Tryz.func71 (by kernel_rfl) rfl #[.slice Ao26 x7_1.length co26, .func (.func 72) #[] #[]] rfl (by (try simp only [List.map_toArray, List.map_cons, List.map_nil]); first | done | rfl | (simp only [List.length_drop, List.length_take]; rfl)) ?_; (with_reducible refine (cam_shifted.calls _ _ x7_1 t176 t177 _ ?side1 ?side2 A25.out).mono ?_); (case side1 => repeat (first | exact (Kd.R_reads' HO_7.out).2.2 | (with_reducible refine Kd.C_alloc ?_ _) | (with_reducible refine Kd.C_drewN ?_ _) | (with_reducible refine Kd.C_drew ?_))); (case side2 => exact (Kd.R_reads' HO_7.out).2.1); rintro e w27 ⟨rfl, hb⟩; refine ⟨_, rfl, ?_⟩; have n0_ := Aside0.mk (Kd.R_below (by (with_reducible repeat (first | apply Kd.R_alloc | apply Kd.R_drewN | apply Kd.R_drew)); exact HO_7.out) hb); have n1_ := Aside0.mk (below_step (by repeat (first | (with_reducible first | exact HB.out | apply below_alloc | apply pw_below_drewN | apply below_drew1) | exact HB.out)) hb); clear HO_7; clear HB; have HO_7 := n0_; have HB := n1_; clear n0_ n1_; (try clear hb); (try clear hb2); (try clear hk); (try clear hi)) | ((with_reducible refine gate_dst (N := 12) rfl ?_); refine box_event ?hg (N := 12) ?hd (cs := #[.int .i64 0, .int .i64 0]) (t := 93) ?hr ?_; (case hd => rfl); (case hg => rfl); (case hr => first | (go_simp; done) | (go_simp; rfl)); intro gb178 hg w28 hbox hb; have n0_ := Aside0.mk (Kd.R_below (Kd.R_elderB (by (with_reducible repeat (first | apply Kd.R_alloc | apply Kd.R_drewN | apply Kd.R_drew)); exact HO_7.out) gb178 (Nat.le_of_eq hg.symm)) hb); have n1_ := Aside0.mk (below_step (by repeat (first | (with_reducible first | exact HB.out | apply below_alloc | apply pw_below_drewN | apply below_drew1) | exact HB.out)) hb); have n2_ := Aside0.mk (hbox); have n3_ := Aside0.mk ((by rw [hg]; exact (below_size (by repeat (first | (with_reducible first | exact HB.out | apply below_alloc | apply pw_below_drewN | apply below_drew1) | exact HB.out))) : w.heap.size ≤ gb178)); have n4_ := Aside0.mk ((by rw [hg]; exact (below_size (by repeat (first | (with_reducible first | exact HB.out | apply below_alloc | apply pw_below_drewN | apply below_drew1) | exact HB.out))) : w.heap.size ≤ gb178)); clear HO_7; clear HB; have HO_7 := n0_; have HB := n1_; have BK178 := n2_; have GW178 := n3_; have GE178 := n4_; clear n0_ n1_ n2_ n3_ n4_; clear hb hbox hg; have hcz29_0 : w28.cell? ⟨gb178, 0, none⟩ = some (.int .i64 0) := (blk_cell BK178.out 0).trans rfl; have hcz29_1 : w28.cell? ⟨gb178, 1, none⟩ = some (.int .i64 0) := (blk_cell BK178.out 1).trans rfl; have hfz29_0 := blk_frozen BK178.out 0; have hfz29_1 := blk_frozen BK178.out 1))
          have n0_ : Aside0 (Kd.R k93 93 ((w28.setCell ⟨gb178, 0, none⟩ (.int .i64 t176)).setCell ⟨gb178, 1, none⟩ (.int .i64 t177)) w.heap.size (fun k_ => k_ ≠ gb178) (.slice Ao26 x7_1.length co26) x7_1) := ⟨by (with_reducible repeat (first | apply Kd.R_alloc | apply Kd.R_drewN | apply Kd.R_drew)); exact Kd.R_mono (Kd.R_far (p := ⟨gb178, 1, none⟩) (Kd.R_far (p := ⟨gb178, 0, none⟩) (Kd.R_mono HO_7.out (fun k_ hk => (⟨hk, hk.2⟩ : _ ∧ k_ ≠ gb178))) (fun _ hk => hk.2) (.int .i64 t176)) (fun _ hk => hk.2) (.int .i64 t177)) (fun _ hk => hk.1.2)⟩
          have n1_ : Aside0 (((w28.setCell ⟨gb178, 0, none⟩ (.int .i64 t176)).setCell ⟨gb178, 1, none⟩ (.int .i64 t177)).heap[gb178]? = some (.cells #[.int .i64 t176, .int .i64 t177] 93 (0, 0))) := ⟨by (with_reducible repeat (first | refine blk_drewN ?_ _ | refine blk_drew ?_ | refine blk_alloc ?_ _)); refine blk_put (cs := #[.int .i64 t176, .int .i64 0]) ?_ 1 _ rfl; (with_reducible repeat (first | refine blk_drewN ?_ _ | refine blk_drew ?_ | refine blk_alloc ?_ _)); refine blk_put (cs := #[.int .i64 0, .int .i64 0]) ?_ 0 _ rfl; (with_reducible repeat (first | refine blk_drewN ?_ _ | refine blk_drew ?_ | refine blk_alloc ?_ _)); exact BK178.out⟩
          have n2_ : Aside0 (Below w.heap.size w ((w28.setCell ⟨gb178, 0, none⟩ (.int .i64 t176)).setCell ⟨gb178, 1, none⟩ (.int .i64 t177))) := ⟨by repeat (first | (with_reducible first | exact HB.out | apply below_alloc | apply pw_below_drewN | apply below_drew1 | refine below_set ?_ GE178.out) | exact HB.out)⟩
          (try clear HO_7)
          (try clear BK178)
          (try clear HB)
          generalize ((w28.setCell ⟨gb178, 0, none⟩ (.int .i64 t176)).setCell ⟨gb178, 1, none⟩ (.int .i64 t177)) = w30 at n0_ n1_ n2_ ⊢
          have HO_7 := n0_
          have BK178 := n1_
          have HB := n2_
          clear n0_ n1_ n2_
          have n0_ := Aside0.mk (Kd.R_drew HO_7.out)
          have n1_ := Aside0.mk (blk_drew BK178.out)
          have n2_ := Aside0.mk (below_drew1 HB.out)
          clear HO_7
          clear BK178
          clear HB
          have HO_7 := n0_
          have BK178 := n1_
          have HB := n2_
          clear n0_ n1_ n2_
          refine start_ (n := 7) (S := fun w' => w'.cell? ⟨gb178, 0, none⟩ = some (.int .i64 t176) ∧ w'.cell? ⟨gb178, 1, none⟩ = some (.int .i64 t177)) (ds := []) #[false, false, false, false, false, false, false] (by kernel_rfl) rfl rfl ⟨(blk_cell BK178.out 0).trans rfl, (blk_cell BK178.out 1).trans rfl⟩ (fun hHeld => ?_)
          generalize w30.drew = w31 at HO_7 BK178 HB hHeld ⊢
          refine pure_ (i := 0) (N := some 55) (v := ?_) (a' := ?_) #[true, false, false, false, false, false, false] rfl rfl (by kernel_rfl) (fun _ _ _ h => h) (Or.inl ⟨by rfl, ?_⟩) ?_ ?_
          rotate_left
          · intro w'
            go_simp
            with_reducible rfl
          rotate_left
          · simp only [Act.put, List.setIfInBounds_toArray, List.set_cons_zero, List.set_cons_succ, i64_w, i32_w]
            rfl
          refine pure_ (i := 2) (N := some 57) (v := ?_) (a' := ?_) #[true, false, true, false, false, false, false] rfl rfl (by kernel_rfl) (fun _ _ _ h => h) (Or.inl ⟨by rfl, ?_⟩) ?_ ?_
          rotate_left
          · intro w'
            go_simp
            with_reducible rfl
          rotate_left
          · simp only [Act.put, List.setIfInBounds_toArray, List.set_cons_zero, List.set_cons_succ, i64_w, i32_w]
            rfl
          refine take_ (i := 1) (N := some 56) (v := ?_) (a' := ?_) #[true, true, true, false, false, false, false] rfl rfl (by kernel_rfl) (fun _ _ _ h => h) (Or.inl ⟨by rfl, ?_⟩) hHeld ?_ ?_
          rotate_left
          · rintro w' ⟨s0, s1⟩
            go_simp
            with_reducible rfl
          rotate_left
          · simp only [Act.put, List.setIfInBounds_toArray, List.set_cons_zero, List.set_cons_succ, i64_w, i32_w]
            rfl
          refine pure_ (i := 4) (N := some 4) (v := ?_) (a' := ?_) #[true, true, true, false, true, false, false] rfl rfl (by kernel_rfl) (fun _ _ _ h => h) (Or.inl ⟨by rfl, ?_⟩) ?_ ?_
          rotate_left
          · intro w'
            go_simp
            with_reducible rfl
          rotate_left
          · simp only [Act.put, List.setIfInBounds_toArray, List.set_cons_zero, List.set_cons_succ, i64_w, i32_w]
            rfl
          refine take_ (i := 3) (N := some 58) (v := ?_) (a' := ?_) #[true, true, true, true, true, false, false] rfl rfl (by kernel_rfl) (fun _ _ _ h => h) (Or.inl ⟨by rfl, ?_⟩) hHeld ?_ ?_
          rotate_left
          · rintro w' ⟨s0, s1⟩
            go_simp
            with_reducible rfl
          rotate_left
          · simp only [Act.put, List.setIfInBounds_toArray, List.set_cons_zero, List.set_cons_succ, i64_w, i32_w]
            rfl
          refine pure_ (i := 5) (N := some 5) (v := ?_) (a' := ?_) #[true, true, true, true, true, true, false] rfl rfl (by kernel_rfl) (fun _ _ _ h => h) (Or.inl ⟨by rfl, ?_⟩) ?_ ?_
          rotate_left
          · intro w'
            go_simp
            with_reducible rfl
          rotate_left
          · simp only [Act.put, List.setIfInBounds_toArray, List.set_cons_zero, List.set_cons_succ, i64_w, i32_w]
            rfl
          refine pure_ (i := 6) (N := some 6) (v := ?_) (a' := ?_) #[true, true, true, true, true, true, true] rfl rfl (by kernel_rfl) (fun _ _ _ h => h) (Or.inl ⟨by rfl, ?_⟩) ?_ ?_
          rotate_left
          · intro w'
            go_simp
            with_reducible rfl
          rotate_left
          · simp only [Act.put, List.setIfInBounds_toArray, List.set_cons_zero, List.set_cons_succ, i64_w, i32_w]
            rfl
          refine done_ (by kernel_rfl) ?_
          try go_wp2
          go_ret3
          exact ⟨by first | rfl | (simp [errW_none, errW_some] <;> rfl) | (simp [*, errW_none, errW_some] <;> rfl), by repeat (first | (with_reducible first | exact HB.out | apply below_alloc | apply pw_below_drewN | apply below_drew1 | refine below_set ?_ GE178.out) | exact HB.out)⟩
  · replace c4 := Bool.eq_false_iff.mpr c4
    subst c4
    have H1 : (some (0, 0, 2)) = some (r1, r2, r3) := by rw [if_neg (show ¬ (false = true) by decide)] at H; exact H
    clear H
    have H := H1
    clear H1
    simp only [Option.some.injEq, Prod.mk.injEq] at H
    obtain ⟨rfl, rfl, rfl⟩ := H
    go_enter Tryz.func39, Tryz.ntmps39
    go_wp2_with (first | ((with_reducible refine gate_callee (f := 69) rfl ?_); refine goesL_ (some 15) rfl rfl Tryz.func69 (by kernel_rfl) rfl #[.slice A0 l0.length c0, .slice A1 l1.length c1] rfl (by (try simp only [List.map_toArray, List.map_cons, List.map_nil]); first | done | rfl | (simp only [List.length_drop, List.length_take]; rfl)) ?_; (with_reducible refine (cam_areCams.calls _ _ l0 _ _ l1 false _ ?side1 ?side2 ?side3 ?side4 A3.out).mono ?_); (case side1 => repeat (first | exact HR0.out | (with_reducible refine Kd.C_alloc ?_ _) | (with_reducible refine Kd.C_drewN ?_ _) | (with_reducible refine Kd.C_drew ?_))); (case side2 => exact HC0.out); (case side3 => repeat (first | exact HR1.out | (with_reducible refine Kd.C_alloc ?_ _) | (with_reducible refine Kd.C_drewN ?_ _) | (with_reducible refine Kd.C_drew ?_))); (case side4 => exact HC1.out); rintro e w' ⟨rfl, ⟨nd, rfl⟩⟩; refine ⟨_, rfl, ?_⟩))
    go_ret3
    exact ⟨by first | rfl | (simp [errW_none, errW_some] <;> rfl) | (simp [*, errW_none, errW_some] <;> rfl), by repeat (first | (with_reducible first | exact HB.out | apply below_alloc | apply pw_below_drewN | apply below_drew1) | exact HB.out)⟩
end Go.Proofs.YtbjimmemcmjpcabGreatDoor.Print
end
section
set_option linter.unusedVariables false
set_option linter.unusedSimpArgs false
namespace Go.Proofs.YtbjimmemcmjpcabGreatDoor.Print
open Go.RowKit Go.Proofs.YtbjimmemcmjpcabGreatDoorW.PrintWords Go.Proofs.YtbjimmemcmjpcabGreatDoorW.PrintLast Go.Proofs.YtbjimmemcmjpcabGreatDoorW.PrintMore
def isMotionB (u : Int) (l : List Int) : Bool := (decide (1 ≤ u ∧ u ≤ 50) && decide (3 ≤ l.length ∧ l.length ≤ 24)) && l.all isO
theorem isMotion_f (u : Int) (l : List Int) : cam_isMotion.f u l = some (isMotionB u l) := rfl
theorem motion_rd {u : Int} {l : List Int} (h : isMotionB u l = true) (i : Int) : -200 ≤ rd l i ∧ rd l i ≤ 200 := by
  simp only [isMotionB, Bool.and_eq_true, List.all_eq_true] at h
  unfold rd
  rw [List.getD_eq_getElem?_getD]
  rcases Nat.lt_or_ge i.toNat l.length with hk | hk
  · rw [List.getElem?_eq_getElem hk, Option.getD_some]
    have := h.2 l[i.toNat] (List.getElem_mem hk)
    simpa [isO] using this
  · rw [List.getElem?_eq_none hk]; simp
theorem motion_len {u : Int} {l : List Int} (h : isMotionB u l = true) : (1 ≤ u ∧ u ≤ 50) ∧ 3 ≤ l.length ∧ l.length ≤ 24 := by
  simp only [isMotionB, Bool.and_eq_true, decide_eq_true_eq] at h
  exact h.1
def plc (u : Int) (l : List Int) (t : Int) : Int := t * u + rd l (t % (l.length : Int))
def spd (u : Int) (l : List Int) (t : Int) : Int := if t < 0 then plc u l (t + (l.length : Int) + 1) - plc u l (t + (l.length : Int)) else plc u l (t + 1) - plc u l t
def sgn (n : Int) : Int := if n < 0 then -1 else if n = 0 then 0 else 1
theorem sign_f (n : Int) : cam_sign.f n = some (sgn n) := by
  unfold cam_sign.f sgn mx mn
  congr 1
  split <;> split <;> (try split) <;> (try split) <;> omega
theorem mul_bd {t u : Int} (h0 : 0 ≤ t) (h1 : t ≤ 1000000) (u0 : 1 ≤ u) (u1 : u ≤ 50) : 0 ≤ t * u ∧ t * u ≤ 50000000 := by
  have := Int.mul_nonneg h0 (show 0 ≤ u by omega)
  have h2 : t * u ≤ t * 50 := Int.mul_le_mul_of_nonneg_left u1 h0
  omega
theorem plc_bd {u : Int} {l : List Int} (h : isMotionB u l = true) {t : Int} (h0 : 0 ≤ t) (h1 : t ≤ 1000000) : -200 ≤ plc u l t ∧ plc u l t ≤ 50000200 := by
  have hm := motion_len h
  have hr := motion_rd h (t % (l.length : Int))
  have hb := mul_bd h0 h1 hm.1.1 hm.1.2
  unfold plc
  omega
theorem place_f {u : Int} {l : List Int} (h : isMotionB u l = true) {t : Int} (h0 : 0 ≤ t) (h1 : t ≤ 1000000) : cam_place.f u l t = some (plc u l t) := by
  have hm := motion_len h
  have hb := mul_bd h0 h1 hm.1.1 hm.1.2
  have hp := plc_bd h h0 h1
  have e1 : Int.tmod t (l.length : Int) = t % (l.length : Int) := Int.tmod_eq_emod_of_nonneg h0
  have e2 := Int.emod_nonneg t (show (l.length : Int) ≠ 0 by omega)
  have e3 := Int.emod_lt_of_pos t (show (0 : Int) < (l.length : Int) by omega)
  unfold cam_place.f
  rw [if_neg (by omega), e1, if_pos e2, if_pos e3, IntWalk.wrap64_in (t * u) ⟨by omega, by omega⟩]
  unfold plc at hp ⊢
  rw [IntWalk.wrap64_in _ ⟨by omega, by omega⟩]
theorem speed_f {u : Int} {l : List Int} (h : isMotionB u l = true) {t : Int} (h0 : -1 ≤ t) (h1 : t ≤ 900000) : cam_speed.f u l t = some (spd u l t) := by
  have hm := motion_len h
  unfold cam_speed.f spd
  by_cases hn : t < 0
  · rw [if_pos hn, if_pos hn, IntWalk.wrap64_in (t + (l.length : Int)) ⟨by omega, by omega⟩, IntWalk.wrap64_in (t + (l.length : Int) + 1) ⟨by omega, by omega⟩, place_f h (by omega) (by omega), place_f h (by omega) (by omega)]
    have a := plc_bd h (t := t + (l.length : Int) + 1) (by omega) (by omega)
    have b := plc_bd h (t := t + (l.length : Int)) (by omega) (by omega)
    simp only [Option.bind_some]
    rw [IntWalk.wrap64_in _ ⟨by omega, by omega⟩]
  · rw [if_neg hn, if_neg hn, IntWalk.wrap64_in (t + 1) ⟨by omega, by omega⟩, place_f h (by omega) (by omega), place_f h (by omega) (by omega)]
    have a := plc_bd h (t := t + 1) (by omega) (by omega)
    have b := plc_bd h (t := t) (by omega) (by omega)
    simp only [Option.bind_some]
    rw [IntWalk.wrap64_in _ ⟨by omega, by omega⟩]
theorem spd_bd {u : Int} {l : List Int} (h : isMotionB u l = true) {t : Int} (h0 : -1 ≤ t) (h1 : t ≤ 900000) : -60000000 ≤ spd u l t ∧ spd u l t ≤ 60000000 := by
  have hm := motion_len h
  unfold spd
  split
  · have a := plc_bd h (t := t + (l.length : Int) + 1) (by omega) (by omega)
    have b := plc_bd h (t := t + (l.length : Int)) (by omega) (by omega)
    omega
  · have a := plc_bd h (t := t + 1) (by omega) (by omega)
    have b := plc_bd h (t := t) (by omega) (by omega)
    omega
end Go.Proofs.YtbjimmemcmjpcabGreatDoor.Print
end
section
namespace Go.Proofs.YtbjimmemcmjpcabGreatDoor.Print
open Go.RowKit Go.Proofs.YtbjimmemcmjpcabGreatDoorW.PrintWords Go.Proofs.YtbjimmemcmjpcabGreatDoorW.PrintLast Go.Proofs.YtbjimmemcmjpcabGreatDoorW.PrintMore
attribute [local go_sem] max2_int min2_int max_two min_two max_three min_three max_four min_four
set_option linter.unusedVariables false
set_option linter.unusedSimpArgs false
mutual
def cam_Passes.j0 : Nat → Int → Int → Bool → Int → List Int → Option (List Int × Int)
  | 0, _, _, _, _, _ => none
  | k + 1, x1, x2, x24, x145000, x145001 => if x24 = true then (some (([] : List Int), 2)) else (cam_Passes.l0 k x1 ([] : List Int) (wrap64 (x2 + 1)) 0 x145000 x145001)
def cam_Passes.l0 : Nat → Int → List Int → Int → Int → Int → List Int → Option (List Int × Int)
  | 0, _, _, _, _, _, _ => none
  | k + 1, x1, x8, x26, x27, x145000, x145001 => if x27 < x26 then ((cam_place.f x145000 x145001 x27).bind fun t148 => ((cam_place.f x145000 x145001 (wrap64 (x27 + 1))).bind fun t149 => (if t148 = x1 then (if x8.length < 17592186044416 then (cam_Passes.l0 k x1 (x8 ++ [x27]) x26 (wrap64 (x27 + 1)) x145000 x145001) else (none)) else ((cam_within.f x1 (wrap64 ((mn t148 t149) + 1)) (wrap64 ((mx t148 t149) - 1))).bind fun t153 => (if t153 = true then (if x8.length < 17592186044416 then (cam_Passes.l0 k x1 (x8 ++ [x27]) x26 (wrap64 (x27 + 1)) x145000 x145001) else (none)) else (cam_Passes.l0 k x1 x8 x26 (wrap64 (x27 + 1)) x145000 x145001)))))) else (some (x8, 0))
end
def cam_Passes.f (k : Nat) (a0_0 : Int) (l0_1 : List Int) (a1 : Int) (a2 : Int) : Option (List Int × Int) := (cam_isMotion.f a0_0 l0_1).bind fun t145 => (if t145 = true then ((cam_in.f a1 (-200000) 200000).bind fun t146 => (if t146 = true then ((cam_isTime.f a2).bind fun t147 => (cam_Passes.j0 k a1 a2 (!t147) a0_0 l0_1)) else (cam_Passes.j0 k a1 a2 true a0_0 l0_1))) else (cam_Passes.j0 k a1 a2 true a0_0 l0_1))
theorem cam_Passes.mono_l : ∀ k, (∀ y0 y1 y2 y3 y4, LeO (cam_Passes.j0 k y0 y1 y2 y3 y4) (cam_Passes.j0 (k + 1) y0 y1 y2 y3 y4)) ∧ (∀ y0 y1 y2 y3 y4 y5, LeO (cam_Passes.l0 k y0 y1 y2 y3 y4 y5) (cam_Passes.l0 (k + 1) y0 y1 y2 y3 y4 y5))
  | 0 => ⟨fun _ _ _ _ _ r h => by simp [cam_Passes.j0] at h, fun _ _ _ _ _ _ r h => by simp [cam_Passes.l0] at h⟩
  | k + 1 => by
    obtain ⟨ih0, ih1⟩ := cam_Passes.mono_l k
    refine ⟨?_, ?_⟩
    · intro y0 y1 y2 y3 y4
      unfold cam_Passes.j0
      repeat' first
      | (with_reducible exact ih0 _ _ _ _ _)
      | (with_reducible exact ih1 _ _ _ _ _ _)
      | (with_reducible exact LeO.refl _)
      | (with_reducible exact LeO.none _)
      | (with_reducible refine LeO.ite ?_ ?_)
      | (with_reducible refine LeO.bind ?_ (fun _ => ?_))
      | exact ih0 _ _ _ _ _
      | exact ih1 _ _ _ _ _ _
      | exact LeO.none _
      | refine LeO.ite ?_ ?_
      | refine LeO.bind ?_ (fun _ => ?_)
    · intro y0 y1 y2 y3 y4 y5
      unfold cam_Passes.l0
      repeat' first
      | (with_reducible exact ih0 _ _ _ _ _)
      | (with_reducible exact ih1 _ _ _ _ _ _)
      | (with_reducible exact LeO.refl _)
      | (with_reducible exact LeO.none _)
      | (with_reducible refine LeO.ite ?_ ?_)
      | (with_reducible refine LeO.bind ?_ (fun _ => ?_))
      | exact ih0 _ _ _ _ _
      | exact ih1 _ _ _ _ _ _
      | exact LeO.none _
      | refine LeO.ite ?_ ?_
      | refine LeO.bind ?_ (fun _ => ?_)
theorem cam_Passes.mono : ∀ a0 a1 a2 a3 k, LeO (cam_Passes.f k a0 a1 a2 a3) (cam_Passes.f (k + 1) a0 a1 a2 a3) := by
  intro a0 a1 a2 a3 k
  obtain ⟨ih0, ih1⟩ := cam_Passes.mono_l k
  unfold cam_Passes.f
  repeat' first
      | (with_reducible exact ih0 _ _ _ _ _)
      | (with_reducible exact ih1 _ _ _ _ _ _)
      | (with_reducible exact LeO.refl _)
      | (with_reducible exact LeO.none _)
      | (with_reducible refine LeO.ite ?_ ?_)
      | (with_reducible refine LeO.bind ?_ (fun _ => ?_))
      | exact ih0 _ _ _ _ _
      | exact ih1 _ _ _ _ _ _
      | exact LeO.none _
      | refine LeO.ite ?_ ?_
      | refine LeO.bind ?_ (fun _ => ?_)
def cam_Passes.T7 : Bool × List (List Nat × List Nat) := (true, [([], []), ([], []), ([0, 1], [0, 1]), ([], []), ([], []), ([4], [4]), ([3, 5, 2], [3, 5]), ([2, 6, 0, 1, 2], [2]), ([6, 7, 0, 1, 2, 3, 4, 5, 6, 7], [6])])
def cam_Passes.B7 : List Nat := [0, 0, 3, 0, 0, 16, 63, 127, 255]
theorem cam_Passes.tab7 : rtab .any (opsOf Tryz.f25 7) = cam_Passes.T7 := by kernel_rfl
theorem cam_Passes.bits7 : waitsOk cam_Passes.T7.2 cam_Passes.B7 = true := by kernel_rfl
set_option maxHeartbeats 8000000 in
set_option maxRecDepth 100000 in
theorem cam_Passes.calls (k : Nat) (a0_0 : Int) (A0_1 : Option Addr) (c0_1 : Nat) (l0_1 : List Int) (a1 : Int) (a2 : Int) (r1 : List Int) (r2 : Int) (w : World) (hr0_1 : Kd.C (Kd.int .i64) w A0_1 l0_1.length l0_1) (hc0_1 : l0_1.length ≤ c0_1) (h : cam_Passes.f k a0_0 l0_1 a1 a2 = some (r1, r2)) :
    Calls Tryz.prog 25 #[.agg #[.int .i64 a0_0, .slice A0_1 l0_1.length c0_1], .int .i64 a1, .int .i64 a2] w fun e w' => ∃ v0_ : Value, e = .returned (.tuple #[v0_, .int .i64 r2]) ∧ Kd.R (Kd.int .i64) 3 w' w.heap.size (fun _ => True) v0_ r1 ∧ Below w.heap.size w w' := by
  have hu24 := Tryz.underlying24
  have hu48 := Tryz.underlying48
  have HR0_1 := Aside0.mk hr0_1
  have HC0_1 := Aside0.mk hc0_1
  clear hr0_1 hc0_1
  have HB := Aside0.mk (Below.refl w.heap.size w)
  have H : ((cam_isMotion.f a0_0 l0_1).bind fun t145 => (if t145 = true then ((cam_in.f a1 (-200000) 200000).bind fun t146 => (if t146 = true then ((cam_isTime.f a2).bind fun t147 => (cam_Passes.j0 k a1 a2 (!t147) a0_0 l0_1)) else (cam_Passes.j0 k a1 a2 true a0_0 l0_1))) else (cam_Passes.j0 k a1 a2 true a0_0 l0_1))) = some (r1, r2) := h
  clear h
  have HC4 := Aside0.mk H
  clear H
  go_enter Tryz.func25, Tryz.ntmps25
  go_upto_region 1 with (first | ((with_reducible refine gate_dst (N := 3) rfl ?_); (try (refine gate_guard (by rfl) ?_; dsimp only)); refine box_event ?hg (N := 3) ?hd (cs := #[.int .i64 a0_0, .slice A0_1 l0_1.length c0_1]) (t := 24) ?hr ?_; (case hd => rfl); (case hg => rfl); (case hr => first | (go_simp; done) | (go_simp; rfl)); intro gb144 hg w5 hbox hb; have n0_ := Aside0.mk (below_step (by repeat (first | (with_reducible first | exact HB.out | apply below_alloc | apply pw_below_drewN | apply below_drew1) | exact HB.out)) hb); have n1_ := Aside0.mk (hbox); have n2_ := Aside0.mk ((by rw [hg]; exact (below_size (by repeat (first | (with_reducible first | exact HB.out | apply below_alloc | apply pw_below_drewN | apply below_drew1) | exact HB.out))) : w.heap.size ≤ gb144)); have n3_ := Aside0.mk ((by rw [hg]; exact (below_size (by repeat (first | (with_reducible first | exact HB.out | apply below_alloc | apply pw_below_drewN | apply below_drew1) | exact HB.out))) : w.heap.size ≤ gb144)); clear HB; have HB := n0_; have BK144 := n1_; have GW144 := n2_; have GE144 := n3_; clear n0_ n1_ n2_ n3_; clear hb hbox hg))
  (try simp only [Act.put, List.setIfInBounds_toArray, List.set_cons_zero, List.set_cons_succ])
  go_cut [24] (fun v24 wc => ∃ (kq : Nat) (x24_3 : Bool), v24 = .bool x24_3 ∧ Aside0 (cam_Passes.j0 kq a1 a2 x24_3 a0_0 l0_1 = some (r1, r2)) ∧ Aside0 (kq ≤ k) ∧ Aside0 (wc.heap[gb144]? = some (.cells #[.int .i64 a0_0, (.slice A0_1 l0_1.length c0_1)] 24 (0, 0))) ∧ Aside0 (Below w.heap.size w wc))
  case first =>
    have H := HC4.out
    clear HC4
    replace H := Option.bind_eq_some_iff.mp H
    obtain ⟨t145, A60, H⟩ := H
    replace H : (if t145 = true then ((cam_in.f a1 (-200000) 200000).bind fun t146 => (if t146 = true then ((cam_isTime.f a2).bind fun t147 => (cam_Passes.j0 k a1 a2 (!t147) a0_0 l0_1)) else (cam_Passes.j0 k a1 a2 true a0_0 l0_1))) else (cam_Passes.j0 k a1 a2 true a0_0 l0_1)) = some (r1, r2) := H
    have A6 := Aside0.mk A60
    clear A60
    by_cases c7 : t145 = true
    · subst c7
      have H1 : ((cam_in.f a1 (-200000) 200000).bind fun t146 => (if t146 = true then ((cam_isTime.f a2).bind fun t147 => (cam_Passes.j0 k a1 a2 (!t147) a0_0 l0_1)) else (cam_Passes.j0 k a1 a2 true a0_0 l0_1))) = some (r1, r2) := by rw [if_pos rfl] at H; exact H
      clear H
      have H := H1
      clear H1
      replace H := Option.bind_eq_some_iff.mp H
      obtain ⟨t146, A80, H⟩ := H
      replace H : (if t146 = true then ((cam_isTime.f a2).bind fun t147 => (cam_Passes.j0 k a1 a2 (!t147) a0_0 l0_1)) else (cam_Passes.j0 k a1 a2 true a0_0 l0_1)) = some (r1, r2) := H
      have A8 := Aside0.mk A80
      clear A80
      by_cases c9 : t146 = true
      · subst c9
        have H1 : ((cam_isTime.f a2).bind fun t147 => (cam_Passes.j0 k a1 a2 (!t147) a0_0 l0_1)) = some (r1, r2) := by rw [if_pos rfl] at H; exact H
        clear H
        have H := H1
        clear H1
        replace H := Option.bind_eq_some_iff.mp H
        obtain ⟨t147, A100, H⟩ := H
        replace H : (cam_Passes.j0 k a1 a2 (!t147) a0_0 l0_1) = some (r1, r2) := H
        have A10 := Aside0.mk A100
        clear A100
        have H' := Aside0.mk H
        clear H
        have hcz11_0 : w5.cell? ⟨gb144, 0, none⟩ = some (.int .i64 a0_0) := (blk_cell BK144.out 0).trans rfl
        have hcz11_1 : w5.cell? ⟨gb144, 1, none⟩ = some (.slice A0_1 l0_1.length c0_1) := (blk_cell BK144.out 1).trans rfl
        have hfz11_0 := blk_frozen BK144.out 0
        have hfz11_1 := blk_frozen BK144.out 1
        go_wp2_with (first | ((with_reducible refine gate_callee (f := 43) rfl ?_); refine goesL_ (some 13) rfl rfl Tryz.func43 (by kernel_rfl) rfl #[.agg #[.int .i64 a0_0, .slice A0_1 l0_1.length c0_1]] rfl (by (try simp only [List.map_toArray, List.map_cons, List.map_nil]); first | done | rfl | (simp only [List.length_drop, List.length_take]; rfl)) ?_; (with_reducible refine (cam_isMotion.calls a0_0 _ _ l0_1 true _ ?side1 ?side2 A6.out).mono ?_); (case side1 => repeat (first | exact (Kd.C_below HR0_1.out HB.out) | (with_reducible refine Kd.C_alloc ?_ _) | (with_reducible refine Kd.C_drewN ?_ _) | (with_reducible refine Kd.C_drew ?_))); (case side2 => exact HC0_1.out); rintro e w12 ⟨rfl, hb⟩; refine ⟨_, rfl, ?_⟩; have n0_ := Aside0.mk (blk_below (g := gb144) (o := .cells #[.int .i64 a0_0, .slice A0_1 l0_1.length c0_1] 24 (0, 0)) (by (with_reducible repeat (first | refine blk_drewN ?_ _ | refine blk_drew ?_ | refine blk_alloc ?_ _)); exact BK144.out) hb); have n1_ := Aside0.mk (below_step (by repeat (first | (with_reducible first | exact HB.out | apply below_alloc | apply pw_below_drewN | apply below_drew1 | refine below_set ?_ GE144.out) | exact HB.out)) hb); clear BK144; clear HB; have BK144 := n0_; have HB := n1_; clear n0_ n1_; (try clear hb); (try clear hb2); (try clear hk); (try clear hi)) | (go_at_call 56; (with_reducible refine (cam_in.calls a1 (-200000) 200000 true _ A8.out).mono ?_); rintro e w' ⟨rfl, ⟨nd, rfl⟩⟩) | (go_at_call 44; (with_reducible refine (cam_isTime.calls a2 t147 _ A10.out).mono ?_); rintro e w' ⟨rfl, ⟨nd, rfl⟩⟩))
        go_meet
        case rel => exact ⟨_, (!t147), (by first | rfl | (simp; done) | (simp [*]; done)), H', ⟨by first | omega | exact Nat.le_refl _⟩, ⟨by (with_reducible repeat (first | refine blk_drewN ?_ _ | refine blk_drew ?_ | refine blk_alloc ?_ _)); exact BK144.out⟩, ⟨by repeat (first | (with_reducible first | exact HB.out | apply below_alloc | apply pw_below_drewN | apply below_drew1 | refine below_set ?_ GE144.out) | exact HB.out)⟩⟩
      · replace c9 := Bool.eq_false_iff.mpr c9
        subst c9
        have H1 : (cam_Passes.j0 k a1 a2 true a0_0 l0_1) = some (r1, r2) := by rw [if_neg (show ¬ (false = true) by decide)] at H; exact H
        clear H
        have H := H1
        clear H1
        have H' := Aside0.mk H
        clear H
        have hcz13_0 : w5.cell? ⟨gb144, 0, none⟩ = some (.int .i64 a0_0) := (blk_cell BK144.out 0).trans rfl
        have hcz13_1 : w5.cell? ⟨gb144, 1, none⟩ = some (.slice A0_1 l0_1.length c0_1) := (blk_cell BK144.out 1).trans rfl
        have hfz13_0 := blk_frozen BK144.out 0
        have hfz13_1 := blk_frozen BK144.out 1
        go_wp2_with (first | ((with_reducible refine gate_callee (f := 43) rfl ?_); refine goesL_ (some 13) rfl rfl Tryz.func43 (by kernel_rfl) rfl #[.agg #[.int .i64 a0_0, .slice A0_1 l0_1.length c0_1]] rfl (by (try simp only [List.map_toArray, List.map_cons, List.map_nil]); first | done | rfl | (simp only [List.length_drop, List.length_take]; rfl)) ?_; (with_reducible refine (cam_isMotion.calls a0_0 _ _ l0_1 true _ ?side1 ?side2 A6.out).mono ?_); (case side1 => repeat (first | exact (Kd.C_below HR0_1.out HB.out) | (with_reducible refine Kd.C_alloc ?_ _) | (with_reducible refine Kd.C_drewN ?_ _) | (with_reducible refine Kd.C_drew ?_))); (case side2 => exact HC0_1.out); rintro e w14 ⟨rfl, hb⟩; refine ⟨_, rfl, ?_⟩; have n0_ := Aside0.mk (blk_below (g := gb144) (o := .cells #[.int .i64 a0_0, .slice A0_1 l0_1.length c0_1] 24 (0, 0)) (by (with_reducible repeat (first | refine blk_drewN ?_ _ | refine blk_drew ?_ | refine blk_alloc ?_ _)); exact BK144.out) hb); have n1_ := Aside0.mk (below_step (by repeat (first | (with_reducible first | exact HB.out | apply below_alloc | apply pw_below_drewN | apply below_drew1 | refine below_set ?_ GE144.out) | exact HB.out)) hb); clear BK144; clear HB; have BK144 := n0_; have HB := n1_; clear n0_ n1_; (try clear hb); (try clear hb2); (try clear hk); (try clear hi)) | (go_at_call 56; (with_reducible refine (cam_in.calls a1 (-200000) 200000 false _ A8.out).mono ?_); rintro e w' ⟨rfl, ⟨nd, rfl⟩⟩))
        go_meet
        case rel => exact ⟨_, (true), (by first | rfl | (simp; done) | (simp [*]; done)), H', ⟨by first | omega | exact Nat.le_refl _⟩, ⟨by (with_reducible repeat (first | refine blk_drewN ?_ _ | refine blk_drew ?_ | refine blk_alloc ?_ _)); exact BK144.out⟩, ⟨by repeat (first | (with_reducible first | exact HB.out | apply below_alloc | apply pw_below_drewN | apply below_drew1 | refine below_set ?_ GE144.out) | exact HB.out)⟩⟩
    · replace c7 := Bool.eq_false_iff.mpr c7
      subst c7
      have H1 : (cam_Passes.j0 k a1 a2 true a0_0 l0_1) = some (r1, r2) := by rw [if_neg (show ¬ (false = true) by decide)] at H; exact H
      clear H
      have H := H1
      clear H1
      have H' := Aside0.mk H
      clear H
      have hcz15_0 : w5.cell? ⟨gb144, 0, none⟩ = some (.int .i64 a0_0) := (blk_cell BK144.out 0).trans rfl
      have hcz15_1 : w5.cell? ⟨gb144, 1, none⟩ = some (.slice A0_1 l0_1.length c0_1) := (blk_cell BK144.out 1).trans rfl
      have hfz15_0 := blk_frozen BK144.out 0
      have hfz15_1 := blk_frozen BK144.out 1
      go_wp2_with (first | ((with_reducible refine gate_callee (f := 43) rfl ?_); refine goesL_ (some 13) rfl rfl Tryz.func43 (by kernel_rfl) rfl #[.agg #[.int .i64 a0_0, .slice A0_1 l0_1.length c0_1]] rfl (by (try simp only [List.map_toArray, List.map_cons, List.map_nil]); first | done | rfl | (simp only [List.length_drop, List.length_take]; rfl)) ?_; (with_reducible refine (cam_isMotion.calls a0_0 _ _ l0_1 false _ ?side1 ?side2 A6.out).mono ?_); (case side1 => repeat (first | exact (Kd.C_below HR0_1.out HB.out) | (with_reducible refine Kd.C_alloc ?_ _) | (with_reducible refine Kd.C_drewN ?_ _) | (with_reducible refine Kd.C_drew ?_))); (case side2 => exact HC0_1.out); rintro e w16 ⟨rfl, hb⟩; refine ⟨_, rfl, ?_⟩; have n0_ := Aside0.mk (blk_below (g := gb144) (o := .cells #[.int .i64 a0_0, .slice A0_1 l0_1.length c0_1] 24 (0, 0)) (by (with_reducible repeat (first | refine blk_drewN ?_ _ | refine blk_drew ?_ | refine blk_alloc ?_ _)); exact BK144.out) hb); have n1_ := Aside0.mk (below_step (by repeat (first | (with_reducible first | exact HB.out | apply below_alloc | apply pw_below_drewN | apply below_drew1 | refine below_set ?_ GE144.out) | exact HB.out)) hb); clear BK144; clear HB; have BK144 := n0_; have HB := n1_; clear n0_ n1_; (try clear hb); (try clear hb2); (try clear hk); (try clear hi)))
      go_meet
      case rel => exact ⟨_, (true), (by first | rfl | (simp; done) | (simp [*]; done)), H', ⟨by first | omega | exact Nat.le_refl _⟩, ⟨by (with_reducible repeat (first | refine blk_drewN ?_ _ | refine blk_drew ?_ | refine blk_alloc ?_ _)); exact BK144.out⟩, ⟨by repeat (first | (with_reducible first | exact HB.out | apply below_alloc | apply pw_below_drewN | apply below_drew1 | refine below_set ?_ GE144.out) | exact HB.out)⟩⟩
  case rest =>
    clear HC4
    try clear c2
    try clear p2
    try clear c4
    try clear c7
    try clear c9
    try clear hcz11_0
    try clear hcz11_1
    try clear hcz13_0
    try clear hcz13_1
    try clear hcz15_0
    try clear hcz15_1
    try clear hfz11_0
    try clear hfz11_1
    try clear hfz13_0
    try clear hfz13_1
    try clear hfz15_0
    try clear hfz15_1
    obtain ⟨kq, x24_3, rfl, HA, HJ3, BK144, HB⟩ := hcut
    cases kq with
    | zero => exact absurd HA.out (by simp [cam_Passes.j0])
    | succ kj3 =>
      have H := HA.out
      clear HA
      simp only [cam_Passes.j0] at H
      by_cases c17 : x24_3 = true
      · subst c17
        have H1 : (some (([] : List Int), 2)) = some (r1, r2) := by rw [if_pos rfl] at H; exact H
        clear H
        have H := H1
        clear H1
        simp only [Option.some.injEq, Prod.mk.injEq] at H
        obtain ⟨rfl, rfl⟩ := H
        go_wp2
        go_ret2
        exact ⟨_, by first | rfl | (simp [errW_none, errW_some] <;> rfl) | (simp [*, errW_none, errW_some] <;> rfl), by first | exact Kd.R_nil _ _ _ _ _ | exact Kd.N_nil _ _ _ _ _ | exact Kd.V_nil _ _ _ _ _ | exact Kd.Q_nil _ _ _ _ _ | exact Kd.S_nil _ _ _ _ _, by repeat (first | (with_reducible first | exact HB.out | apply below_alloc | apply pw_below_drewN | apply below_drew1 | refine below_set ?_ GE144.out) | exact HB.out)⟩
      · replace c17 := Bool.eq_false_iff.mpr c17
        subst c17
        have H1 : (cam_Passes.l0 kj3 a1 ([] : List Int) (wrap64 (a2 + 1)) 0 a0_0 l0_1) = some (r1, r2) := by rw [if_neg (show ¬ (false = true) by decide)] at H; exact H
        clear H
        have H := H1
        clear H1
        have H' := Aside0.mk H
        clear H
        go_wp2
        go_loopg [8, 27] kj3 (fun kq v8 v27 w' => ∃ (x8_2 : List Int) (x27_2 : Int), v27 = .int .i64 x27_2 ∧ Aside0 (cam_Passes.l0 kq a1 x8_2 (wrap64 (a2 + 1)) x27_2 a0_0 l0_1 = some (r1, r2)) ∧ Aside0 (kq ≤ kj3) ∧ Aside0 (Kd.R (Kd.int .i64) 3 w' w.heap.size (fun _ => True) v8 x8_2) ∧ Aside0 (w'.heap[gb144]? = some (.cells #[.int .i64 a0_0, (.slice A0_1 l0_1.length c0_1)] 24 (0, 0))) ∧ Aside0 (Below w.heap.size w w'))
        case atStart => exact ⟨(([] : List Int)), (0), (by first | rfl | (simp; done) | (simp [*]; done)), H', ⟨Nat.le_refl _⟩, ⟨by first | exact Kd.R_nil _ _ _ _ _ | exact Kd.N_nil _ _ _ _ _ | exact Kd.V_nil _ _ _ _ _ | exact Kd.Q_nil _ _ _ _ _ | exact Kd.S_nil _ _ _ _ _⟩, ⟨by (with_reducible repeat (first | refine blk_drewN ?_ _ | refine blk_drew ?_ | refine blk_alloc ?_ _)); exact BK144.out⟩, ⟨by repeat (first | (with_reducible first | exact HB.out | apply below_alloc | apply pw_below_drewN | apply below_drew1 | refine below_set ?_ GE144.out) | exact HB.out)⟩⟩
        case round =>
          clear H'
          try clear c1
          try clear c2
          try clear p2
          try clear c4
          try clear p6
          try clear c7
          try clear c9
          try clear c17
          try clear hcz11_0
          try clear hcz11_1
          try clear hcz13_0
          try clear hcz13_1
          try clear hcz15_0
          try clear hcz15_1
          try clear hfz11_0
          try clear hfz11_1
          try clear hfz13_0
          try clear hfz13_1
          try clear hfz15_0
          try clear hfz15_1
          try clear p2
          obtain ⟨x8_2, x27_2, rfl, HA, HK2, HO_8, BK144, HB⟩ := hrel
          cases gk with
          | zero => exact absurd HA.out (by simp [cam_Passes.l0])
          | succ k2 =>
            have H := HA.out
            clear HA
            simp only [cam_Passes.l0] at H
            by_cases c18 : x27_2 < (wrap64 (a2 + 1))
            · rw [if_pos c18] at H
              have c18b0 : decide (x27_2 < (wrap64 (a2 + 1))) = true := decide_eq_true c18
              clear c18
              replace H := Option.bind_eq_some_iff.mp H
              obtain ⟨t148, A190, H⟩ := H
              replace H : ((cam_place.f a0_0 l0_1 (wrap64 (x27_2 + 1))).bind fun t149 => (if t148 = a1 then (if x8_2.length < 17592186044416 then (cam_Passes.l0 k2 a1 (x8_2 ++ [x27_2]) (wrap64 (a2 + 1)) (wrap64 (x27_2 + 1)) a0_0 l0_1) else (none)) else ((cam_within.f a1 (wrap64 ((mn t148 t149) + 1)) (wrap64 ((mx t148 t149) - 1))).bind fun t153 => (if t153 = true then (if x8_2.length < 17592186044416 then (cam_Passes.l0 k2 a1 (x8_2 ++ [x27_2]) (wrap64 (a2 + 1)) (wrap64 (x27_2 + 1)) a0_0 l0_1) else (none)) else (cam_Passes.l0 k2 a1 x8_2 (wrap64 (a2 + 1)) (wrap64 (x27_2 + 1)) a0_0 l0_1))))) = some (r1, r2) := H
              have A19 := Aside0.mk A190
              clear A190
              replace H := Option.bind_eq_some_iff.mp H
              obtain ⟨t149, A200, H⟩ := H
              replace H : (if t148 = a1 then (if x8_2.length < 17592186044416 then (cam_Passes.l0 k2 a1 (x8_2 ++ [x27_2]) (wrap64 (a2 + 1)) (wrap64 (x27_2 + 1)) a0_0 l0_1) else (none)) else ((cam_within.f a1 (wrap64 ((mn t148 t149) + 1)) (wrap64 ((mx t148 t149) - 1))).bind fun t153 => (if t153 = true then (if x8_2.length < 17592186044416 then (cam_Passes.l0 k2 a1 (x8_2 ++ [x27_2]) (wrap64 (a2 + 1)) (wrap64 (x27_2 + 1)) a0_0 l0_1) else (none)) else (cam_Passes.l0 k2 a1 x8_2 (wrap64 (a2 + 1)) (wrap64 (x27_2 + 1)) a0_0 l0_1)))) = some (r1, r2) := H
              have A20 := Aside0.mk A200
              clear A200
              by_cases c21 : t148 = a1
              · rw [if_pos c21] at H
                have c21b0 : (t148 == a1) = true := beq_iff_eq.mpr c21
                have c21b1 : (t148 != a1) = false := bne_eq_false_iff_eq.mpr c21
                clear c21
                by_cases c22 : x8_2.length < 17592186044416
                · rw [if_pos c22] at H
                  have LMc22 := Aside0.mk c22
                  clear c22
                  obtain ⟨y150, hy150⟩ : ∃ y_ : List Int, y_ = (x8_2 ++ [x27_2]) := ⟨_, rfl⟩
                  replace H : (cam_Passes.l0 k2 a1 y150 (wrap64 (a2 + 1)) (wrap64 (x27_2 + 1)) a0_0 l0_1) = some (r1, r2) := by first | (rw [hy150]; with_reducible exact H) | (have H2_ := (Option.bind_some _ _).symm.trans H; rw [hy150]; with_reducible exact H2_) | (have H2_ := (Option.bind_some _ _).symm.trans H; with_reducible exact H2_) | with_reducible exact H | (rw [hy150]; exact H) | exact H
                  have Ny150 := Aside0.mk hy150
                  clear hy150
                  have H' := Aside0.mk H
                  clear H
                  try go_wp2
                  have n0_ := Aside0.mk (Kd.R_drew HO_8.out)
                  have n1_ := Aside0.mk (blk_drew BK144.out)
                  have n2_ := Aside0.mk (below_drew1 HB.out)
                  clear HO_8
                  clear BK144
                  clear HB
                  have HO_8 := n0_
                  have BK144 := n1_
                  have HB := n2_
                  clear n0_ n1_ n2_
                  refine start_ (n := 9) (S := fun w' => w'.cell? ⟨gb144, 0, none⟩ = some (.int .i64 a0_0) ∧ w'.cell? ⟨gb144, 1, none⟩ = some (.slice A0_1 l0_1.length c0_1)) (ds := []) #[false, false, false, false, false, false, false, false, false] (by kernel_rfl) rfl rfl ⟨(blk_cell BK144.out 0).trans rfl, (blk_cell BK144.out 1).trans rfl⟩ (fun hHeld => ?_); refine with_tabW cam_Passes.tab7 cam_Passes.bits7 (fun HT_ HW_ => ?_)
                  generalize wr.drew = w23 at HO_8 BK144 HB hHeld ⊢
                  refine pure_ (i := 1) (N := some 31) (v := ?_) (a' := ?_) #[false, true, false, false, false, false, false, false, false] rfl rfl (any_of HT_.out (by kernel_rfl)) (fun _ _ _ h => h) (Or.inl ⟨by rfl, ?_⟩) ?_ ?_
                  rotate_left
                  · intro w'
                    go_simp
                    with_reducible rfl
                  rotate_left
                  · simp only [Act.put, List.setIfInBounds_toArray, List.set_cons_zero, List.set_cons_succ, i64_w, i32_w]
                    rfl
                  refine pure_ (i := 4) (N := some 34) (v := ?_) (a' := ?_) #[false, true, false, false, true, false, false, false, false] rfl rfl (any_of HT_.out (by kernel_rfl)) (fun _ _ _ h => h) (Or.inl ⟨by rfl, ?_⟩) ?_ ?_
                  rotate_left
                  · intro w'
                    go_simp
                    with_reducible rfl
                  rotate_left
                  · simp only [Act.put, List.setIfInBounds_toArray, List.set_cons_zero, List.set_cons_succ, i64_w, i32_w]
                    rfl
                  refine pure_ (i := 5) (N := some 35) (v := ?_) (a' := ?_) #[false, true, false, false, true, true, false, false, false] rfl rfl (any_of HT_.out (by kernel_rfl)) (fun _ _ _ h => h) (Or.inl ⟨by rfl, ?_⟩) ?_ ?_
                  rotate_left
                  · intro w'
                    go_simp
                    with_reducible rfl
                  rotate_left
                  · simp only [Act.put, List.setIfInBounds_toArray, List.set_cons_zero, List.set_cons_succ, i64_w, i32_w]
                    rfl
                  refine take_ (i := 0) (N := some 30) (v := ?_) (a' := ?_) #[true, true, false, false, true, true, false, false, false] rfl rfl (take_ofW HT_.out HW_.out (by kernel_rfl)) (fun _ _ _ h => h) (Or.inl ⟨by rfl, ?_⟩) hHeld ?_ ?_
                  rotate_left
                  · rintro w' ⟨s0, s1⟩
                    go_simp
                    with_reducible rfl
                  rotate_left
                  · simp only [Act.put, List.setIfInBounds_toArray, List.set_cons_zero, List.set_cons_succ, i64_w, i32_w]
                    rfl
                  refine take_ (i := 3) (N := some 33) (v := ?_) (a' := ?_) #[true, true, false, true, true, true, false, false, false] rfl rfl (take_ofW HT_.out HW_.out (by kernel_rfl)) (fun _ _ _ h => h) (Or.inl ⟨by rfl, ?_⟩) hHeld ?_ ?_
                  rotate_left
                  · rintro w' ⟨s0, s1⟩
                    go_simp
                    with_reducible rfl
                  rotate_left
                  · simp only [Act.put, List.setIfInBounds_toArray, List.set_cons_zero, List.set_cons_succ, i64_w, i32_w]
                    rfl
                  refine one_ (i := 2) (N := some 32) #[true, true, true, true, true, true, false, false, false] rfl rfl (one_of HT_.out (by kernel_rfl)) (by decide) (fun K hK => ?_)
                  refine goes_ Tryz.func47 (by kernel_rfl) rfl #[.agg #[.int .i64 a0_0, .slice A0_1 l0_1.length c0_1], .int .i64 x27_2] (by rfl) rfl rfl (by (try simp only [List.map_toArray, List.map_cons, List.map_nil]); first | done | rfl | (simp only [List.length_drop, List.length_take]; rfl)) ?_
                  with_reducible refine (cam_place.calls a0_0 _ _ l0_1 x27_2 t148 _ ?side1 ?side2 A19.out).mono ?_
                  (case side1 => repeat (first | exact (Kd.C_below HR0_1.out HB.out) | (with_reducible refine Kd.C_alloc ?_ _) | (with_reducible refine Kd.C_drewN ?_ _) | (with_reducible refine Kd.C_drew ?_)))
                  (case side2 => exact HC0_1.out)
                  rintro e w24 ⟨rfl, hb⟩
                  refine ⟨_, rfl, ?_⟩
                  have n0_ := Aside0.mk (Kd.R_below (by (with_reducible repeat (first | apply Kd.R_alloc | apply Kd.R_drewN | apply Kd.R_drew)); exact HO_8.out) hb)
                  have n1_ := Aside0.mk (blk_below (g := gb144) (o := .cells #[.int .i64 a0_0, .slice A0_1 l0_1.length c0_1] 24 (0, 0)) (by (with_reducible repeat (first | refine blk_drewN ?_ _ | refine blk_drew ?_ | refine blk_alloc ?_ _)); exact BK144.out) hb)
                  have n2_ := Aside0.mk (below_step (by repeat (first | (with_reducible first | exact HB.out | apply below_alloc | apply pw_below_drewN | apply below_drew1 | refine below_set ?_ GE144.out) | exact HB.out)) hb)
                  clear HO_8
                  clear BK144
                  clear HB
                  have HO_8 := n0_
                  have BK144 := n1_
                  have HB := n2_
                  clear n0_ n1_ n2_
                  (try clear hb)
                  (try clear hb2)
                  (try clear hk)
                  (try clear hi)
                  refine hK.out _ _ ⟨(blk_cell BK144.out 0).trans rfl, (blk_cell BK144.out 1).trans rfl⟩ (fun hHeld => ?_)
                  clear hK K
                  refine norm_ (a' := ?_) ?_ ?_
                  rotate_left
                  · show Act.put _ (some 32) _ = _
                    simp only [Act.put, List.setIfInBounds_toArray, List.set_cons_zero, List.set_cons_succ, i64_w, i32_w]
                    rfl
                  refine one_ (i := 6) (N := some 36) #[true, true, true, true, true, true, true, false, false] rfl rfl (one_of HT_.out (by kernel_rfl)) (by decide) (fun K hK => ?_)
                  refine goes_ Tryz.func47 (by kernel_rfl) rfl #[.agg #[.int .i64 a0_0, .slice A0_1 l0_1.length c0_1], .int .i64 (wrap64 (x27_2 + 1))] (by rfl) rfl rfl (by (try simp only [List.map_toArray, List.map_cons, List.map_nil]); first | done | rfl | (simp only [List.length_drop, List.length_take]; rfl)) ?_
                  with_reducible refine (cam_place.calls a0_0 _ _ l0_1 (wrap64 (x27_2 + 1)) t149 _ ?side1 ?side2 A20.out).mono ?_
                  (case side1 => repeat (first | exact (Kd.C_below HR0_1.out HB.out) | (with_reducible refine Kd.C_alloc ?_ _) | (with_reducible refine Kd.C_drewN ?_ _) | (with_reducible refine Kd.C_drew ?_)))
                  (case side2 => exact HC0_1.out)
                  rintro e w25 ⟨rfl, hb⟩
                  refine ⟨_, rfl, ?_⟩
                  have n0_ := Aside0.mk (Kd.R_below (by (with_reducible repeat (first | apply Kd.R_alloc | apply Kd.R_drewN | apply Kd.R_drew)); exact HO_8.out) hb)
                  have n1_ := Aside0.mk (blk_below (g := gb144) (o := .cells #[.int .i64 a0_0, .slice A0_1 l0_1.length c0_1] 24 (0, 0)) (by (with_reducible repeat (first | refine blk_drewN ?_ _ | refine blk_drew ?_ | refine blk_alloc ?_ _)); exact BK144.out) hb)
                  have n2_ := Aside0.mk (below_step (by repeat (first | (with_reducible first | exact HB.out | apply below_alloc | apply pw_below_drewN | apply below_drew1 | refine below_set ?_ GE144.out) | exact HB.out)) hb)
                  clear HO_8
                  clear BK144
                  clear HB
                  have HO_8 := n0_
                  have BK144 := n1_
                  have HB := n2_
                  clear n0_ n1_ n2_
                  (try clear hb)
                  (try clear hb2)
                  (try clear hk)
                  (try clear hi)
                  refine hK.out _ _ ⟨(blk_cell BK144.out 0).trans rfl, (blk_cell BK144.out 1).trans rfl⟩ (fun hHeld => ?_)
                  clear hK K
                  refine norm_ (a' := ?_) ?_ ?_
                  rotate_left
                  · show Act.put _ (some 36) _ = _
                    simp only [Act.put, List.setIfInBounds_toArray, List.set_cons_zero, List.set_cons_succ, i64_w, i32_w]
                    rfl
                  refine pure_ (i := 7) (N := some 10) (v := ?_) (a' := ?_) #[true, true, true, true, true, true, true, true, false] rfl rfl (any_of HT_.out (by kernel_rfl)) (fun _ _ _ h => h) (Or.inl ⟨by rfl, ?_⟩) ?_ ?_
                  rotate_left
                  · intro w'
                    go_simp
                    with_reducible rfl
                  rotate_left
                  · simp only [Act.put, List.setIfInBounds_toArray, List.set_cons_zero, List.set_cons_succ, i64_w, i32_w]
                    rfl
                  refine pure_ (i := 8) (N := some 11) (v := ?_) (a' := ?_) #[true, true, true, true, true, true, true, true, true] rfl rfl (any_of HT_.out (by kernel_rfl)) (fun _ _ _ h => h) (Or.inl ⟨by rfl, ?_⟩) ?_ ?_
                  rotate_left
                  · intro w'
                    go_simp
                    with_reducible rfl
                  rotate_left
                  · simp only [Act.put, List.setIfInBounds_toArray, List.set_cons_zero, List.set_cons_succ, i64_w, i32_w]
                    rfl
                  refine done_ (done_of HT_.out (by kernel_rfl)) ?_
                  try go_wp2_with (first | ((with_reducible refine gate_builtin (b := .append) (xs := #[.tmp 53, .tmp 55]) rfl ?_); (try (refine gate_guard (by rfl) ?_; dsimp only)); at_builtin; refine Kd.R_append (Kd.int .i64) (w0 := w) w.heap.size rfl (.tmp 53) (.tmp 55) 22 3 (.int .i64 0) 8 rfl Tryz.underlying22 info3 rfl (by decide) (by omega) u8 x8_2 x27_2 [.int .i64 x27_2] (fun _ => True) (fun _ => False) rfl rfl ?aP (fun _ hk => hk.elim) ?aF ?aO ?aB ?aS ?aL ?_; (case aP => exact rfl); (case aB => exact (by repeat (first | (with_reducible first | exact HB.out | apply below_alloc | apply pw_below_drewN | apply below_drew1 | refine below_set ?_ GE144.out) | exact HB.out))); (case aF => exact (fun _ _ => trivial)); (case aO => exact (by (with_reducible repeat (first | apply Kd.R_alloc | apply Kd.R_drewN | apply Kd.R_drew)); exact HO_8.out)); (case aS => exact (below_size (by repeat (first | (with_reducible first | exact HB.out | apply below_alloc | apply pw_below_drewN | apply below_drew1 | refine below_set ?_ GE144.out) | exact HB.out)))); (case aL => have := LMc22.out; omega); intro v151 w26 ho hb hg hat; rw [← Ny150.out] at ho; have n0_ := Aside0.mk (blk_grown (g := gb144) (o := .cells #[.int .i64 a0_0, .slice A0_1 l0_1.length c0_1] 24 (0, 0)) (by (with_reducible repeat (first | refine blk_drewN ?_ _ | refine blk_drew ?_ | refine blk_alloc ?_ _)); exact BK144.out) hg (Kd.R_ne HO_8.out BK144.out (by decide))); have n1_ := Aside0.mk (hb); have n2_ := Aside0.mk (ho); clear BK144; clear HB; clear HO_8; have BK144 := n0_; have HB := n1_; have HO152 := n2_; clear n0_ n1_ n2_; clear ho hb hg hat))
                  go_roundg k2
                  case measure => have := HJ3.out; have := HK2.out; omega
                  case rel => exact ⟨(y150), (wrap64 (x27_2 + 1)), (by first | rfl | (simp; done) | (simp [*]; done)), H', ⟨by have := HJ3.out; have := HK2.out; omega⟩, ⟨by (with_reducible repeat (first | apply Kd.R_alloc | apply Kd.R_drewN | apply Kd.R_drew)); exact HO152.out⟩, ⟨by (with_reducible repeat (first | refine blk_drewN ?_ _ | refine blk_drew ?_ | refine blk_alloc ?_ _)); exact BK144.out⟩, ⟨by repeat (first | (with_reducible first | exact HB.out | apply below_alloc | apply pw_below_drewN | apply below_drew1 | refine below_set ?_ GE144.out) | exact HB.out)⟩⟩
                · rw [if_neg c22] at H
                  exact absurd H (by simp)
              · rw [if_neg c21] at H
                have c21b0 : (t148 == a1) = false := beq_eq_false_iff_ne.mpr c21
                have c21b1 : (t148 != a1) = true := bne_iff_ne.mpr c21
                obtain ⟨ji27, hji27⟩ : ∃ j_ : Int, (mn t148 t149) = j_ := ⟨_, rfl⟩
                replace H : ((cam_within.f a1 (wrap64 ((ji27) + 1)) (wrap64 ((mx t148 t149) - 1))).bind fun t153 => (if t153 = true then (if x8_2.length < 17592186044416 then (cam_Passes.l0 k2 a1 (x8_2 ++ [x27_2]) (wrap64 (a2 + 1)) (wrap64 (x27_2 + 1)) a0_0 l0_1) else (none)) else (cam_Passes.l0 k2 a1 x8_2 (wrap64 (a2 + 1)) (wrap64 (x27_2 + 1)) a0_0 l0_1))) = some (r1, r2) := by first | (rw [hji27] at H; exact H) | (simp only [hji27] at H ⊢; exact H)
                (try rw [hji27] at A19)
                (try rw [hji27] at A20)
                have hji27_ : (if t149 < t148 then t149 else t148) = ji27 := hji27
                obtain ⟨ji28, hji28⟩ : ∃ j_ : Int, (mx t148 t149) = j_ := ⟨_, rfl⟩
                replace H : ((cam_within.f a1 (wrap64 ((ji27) + 1)) (wrap64 ((ji28) - 1))).bind fun t153 => (if t153 = true then (if x8_2.length < 17592186044416 then (cam_Passes.l0 k2 a1 (x8_2 ++ [x27_2]) (wrap64 (a2 + 1)) (wrap64 (x27_2 + 1)) a0_0 l0_1) else (none)) else (cam_Passes.l0 k2 a1 x8_2 (wrap64 (a2 + 1)) (wrap64 (x27_2 + 1)) a0_0 l0_1))) = some (r1, r2) := by first | (rw [hji28] at H; exact H) | (simp only [hji28] at H ⊢; exact H)
                (try rw [hji28] at A19)
                (try rw [hji28] at A20)
                have hji28_ : (if t148 < t149 then t149 else t148) = ji28 := hji28
                replace H := Option.bind_eq_some_iff.mp H
                obtain ⟨t153, A290, H⟩ := H
                replace H : (if t153 = true then (if x8_2.length < 17592186044416 then (cam_Passes.l0 k2 a1 (x8_2 ++ [x27_2]) (wrap64 (a2 + 1)) (wrap64 (x27_2 + 1)) a0_0 l0_1) else (none)) else (cam_Passes.l0 k2 a1 x8_2 (wrap64 (a2 + 1)) (wrap64 (x27_2 + 1)) a0_0 l0_1)) = some (r1, r2) := H
                have A29 := Aside0.mk A290
                clear A290
                by_cases c30 : t153 = true
                · subst c30
                  have H1 : (if x8_2.length < 17592186044416 then (cam_Passes.l0 k2 a1 (x8_2 ++ [x27_2]) (wrap64 (a2 + 1)) (wrap64 (x27_2 + 1)) a0_0 l0_1) else (none)) = some (r1, r2) := by rw [if_pos rfl] at H; exact H
                  clear H
                  have H := H1
                  clear H1
                  by_cases c31 : x8_2.length < 17592186044416
                  · rw [if_pos c31] at H
                    have LMc31 := Aside0.mk c31
                    clear c31
                    obtain ⟨y154, hy154⟩ : ∃ y_ : List Int, y_ = (x8_2 ++ [x27_2]) := ⟨_, rfl⟩
                    replace H : (cam_Passes.l0 k2 a1 y154 (wrap64 (a2 + 1)) (wrap64 (x27_2 + 1)) a0_0 l0_1) = some (r1, r2) := by first | (rw [hy154]; with_reducible exact H) | (have H2_ := (Option.bind_some _ _).symm.trans H; rw [hy154]; with_reducible exact H2_) | (have H2_ := (Option.bind_some _ _).symm.trans H; with_reducible exact H2_) | with_reducible exact H | (rw [hy154]; exact H) | exact H
                    have Ny154 := Aside0.mk hy154
                    clear hy154
                    have H' := Aside0.mk H
                    clear H
                    try go_wp2
                    have n0_ := Aside0.mk (Kd.R_drew HO_8.out)
                    have n1_ := Aside0.mk (blk_drew BK144.out)
                    have n2_ := Aside0.mk (below_drew1 HB.out)
                    clear HO_8
                    clear BK144
                    clear HB
                    have HO_8 := n0_
                    have BK144 := n1_
                    have HB := n2_
                    clear n0_ n1_ n2_
                    refine start_ (n := 9) (S := fun w' => w'.cell? ⟨gb144, 0, none⟩ = some (.int .i64 a0_0) ∧ w'.cell? ⟨gb144, 1, none⟩ = some (.slice A0_1 l0_1.length c0_1)) (ds := []) #[false, false, false, false, false, false, false, false, false] (by kernel_rfl) rfl rfl ⟨(blk_cell BK144.out 0).trans rfl, (blk_cell BK144.out 1).trans rfl⟩ (fun hHeld => ?_); refine with_tabW cam_Passes.tab7 cam_Passes.bits7 (fun HT_ HW_ => ?_)
                    generalize wr.drew = w32 at HO_8 BK144 HB hHeld ⊢
                    refine pure_ (i := 1) (N := some 31) (v := ?_) (a' := ?_) #[false, true, false, false, false, false, false, false, false] rfl rfl (any_of HT_.out (by kernel_rfl)) (fun _ _ _ h => h) (Or.inl ⟨by rfl, ?_⟩) ?_ ?_
                    rotate_left
                    · intro w'
                      go_simp
                      with_reducible rfl
                    rotate_left
                    · simp only [Act.put, List.setIfInBounds_toArray, List.set_cons_zero, List.set_cons_succ, i64_w, i32_w]
                      rfl
                    refine pure_ (i := 4) (N := some 34) (v := ?_) (a' := ?_) #[false, true, false, false, true, false, false, false, false] rfl rfl (any_of HT_.out (by kernel_rfl)) (fun _ _ _ h => h) (Or.inl ⟨by rfl, ?_⟩) ?_ ?_
                    rotate_left
                    · intro w'
                      go_simp
                      with_reducible rfl
                    rotate_left
                    · simp only [Act.put, List.setIfInBounds_toArray, List.set_cons_zero, List.set_cons_succ, i64_w, i32_w]
                      rfl
                    refine pure_ (i := 5) (N := some 35) (v := ?_) (a' := ?_) #[false, true, false, false, true, true, false, false, false] rfl rfl (any_of HT_.out (by kernel_rfl)) (fun _ _ _ h => h) (Or.inl ⟨by rfl, ?_⟩) ?_ ?_
                    rotate_left
                    · intro w'
                      go_simp
                      with_reducible rfl
                    rotate_left
                    · simp only [Act.put, List.setIfInBounds_toArray, List.set_cons_zero, List.set_cons_succ, i64_w, i32_w]
                      rfl
                    refine take_ (i := 0) (N := some 30) (v := ?_) (a' := ?_) #[true, true, false, false, true, true, false, false, false] rfl rfl (take_ofW HT_.out HW_.out (by kernel_rfl)) (fun _ _ _ h => h) (Or.inl ⟨by rfl, ?_⟩) hHeld ?_ ?_
                    rotate_left
                    · rintro w' ⟨s0, s1⟩
                      go_simp
                      with_reducible rfl
                    rotate_left
                    · simp only [Act.put, List.setIfInBounds_toArray, List.set_cons_zero, List.set_cons_succ, i64_w, i32_w]
                      rfl
                    refine take_ (i := 3) (N := some 33) (v := ?_) (a' := ?_) #[true, true, false, true, true, true, false, false, false] rfl rfl (take_ofW HT_.out HW_.out (by kernel_rfl)) (fun _ _ _ h => h) (Or.inl ⟨by rfl, ?_⟩) hHeld ?_ ?_
                    rotate_left
                    · rintro w' ⟨s0, s1⟩
                      go_simp
                      with_reducible rfl
                    rotate_left
                    · simp only [Act.put, List.setIfInBounds_toArray, List.set_cons_zero, List.set_cons_succ, i64_w, i32_w]
                      rfl
                    refine one_ (i := 2) (N := some 32) #[true, true, true, true, true, true, false, false, false] rfl rfl (one_of HT_.out (by kernel_rfl)) (by decide) (fun K hK => ?_)
                    refine goes_ Tryz.func47 (by kernel_rfl) rfl #[.agg #[.int .i64 a0_0, .slice A0_1 l0_1.length c0_1], .int .i64 x27_2] (by rfl) rfl rfl (by (try simp only [List.map_toArray, List.map_cons, List.map_nil]); first | done | rfl | (simp only [List.length_drop, List.length_take]; rfl)) ?_
                    with_reducible refine (cam_place.calls a0_0 _ _ l0_1 x27_2 t148 _ ?side1 ?side2 A19.out).mono ?_
                    (case side1 => repeat (first | exact (Kd.C_below HR0_1.out HB.out) | (with_reducible refine Kd.C_alloc ?_ _) | (with_reducible refine Kd.C_drewN ?_ _) | (with_reducible refine Kd.C_drew ?_)))
                    (case side2 => exact HC0_1.out)
                    rintro e w33 ⟨rfl, hb⟩
                    refine ⟨_, rfl, ?_⟩
                    have n0_ := Aside0.mk (Kd.R_below (by (with_reducible repeat (first | apply Kd.R_alloc | apply Kd.R_drewN | apply Kd.R_drew)); exact HO_8.out) hb)
                    have n1_ := Aside0.mk (blk_below (g := gb144) (o := .cells #[.int .i64 a0_0, .slice A0_1 l0_1.length c0_1] 24 (0, 0)) (by (with_reducible repeat (first | refine blk_drewN ?_ _ | refine blk_drew ?_ | refine blk_alloc ?_ _)); exact BK144.out) hb)
                    have n2_ := Aside0.mk (below_step (by repeat (first | (with_reducible first | exact HB.out | apply below_alloc | apply pw_below_drewN | apply below_drew1 | refine below_set ?_ GE144.out) | exact HB.out)) hb)
                    clear HO_8
                    clear BK144
                    clear HB
                    have HO_8 := n0_
                    have BK144 := n1_
                    have HB := n2_
                    clear n0_ n1_ n2_
                    (try clear hb)
                    (try clear hb2)
                    (try clear hk)
                    (try clear hi)
                    refine hK.out _ _ ⟨(blk_cell BK144.out 0).trans rfl, (blk_cell BK144.out 1).trans rfl⟩ (fun hHeld => ?_)
                    clear hK K
                    refine norm_ (a' := ?_) ?_ ?_
                    rotate_left
                    · show Act.put _ (some 32) _ = _
                      simp only [Act.put, List.setIfInBounds_toArray, List.set_cons_zero, List.set_cons_succ, i64_w, i32_w]
                      rfl
                    refine one_ (i := 6) (N := some 36) #[true, true, true, true, true, true, true, false, false] rfl rfl (one_of HT_.out (by kernel_rfl)) (by decide) (fun K hK => ?_)
                    refine goes_ Tryz.func47 (by kernel_rfl) rfl #[.agg #[.int .i64 a0_0, .slice A0_1 l0_1.length c0_1], .int .i64 (wrap64 (x27_2 + 1))] (by rfl) rfl rfl (by (try simp only [List.map_toArray, List.map_cons, List.map_nil]); first | done | rfl | (simp only [List.length_drop, List.length_take]; rfl)) ?_
                    with_reducible refine (cam_place.calls a0_0 _ _ l0_1 (wrap64 (x27_2 + 1)) t149 _ ?side1 ?side2 A20.out).mono ?_
                    (case side1 => repeat (first | exact (Kd.C_below HR0_1.out HB.out) | (with_reducible refine Kd.C_alloc ?_ _) | (with_reducible refine Kd.C_drewN ?_ _) | (with_reducible refine Kd.C_drew ?_)))
                    (case side2 => exact HC0_1.out)
                    rintro e w34 ⟨rfl, hb⟩
                    refine ⟨_, rfl, ?_⟩
                    have n0_ := Aside0.mk (Kd.R_below (by (with_reducible repeat (first | apply Kd.R_alloc | apply Kd.R_drewN | apply Kd.R_drew)); exact HO_8.out) hb)
                    have n1_ := Aside0.mk (blk_below (g := gb144) (o := .cells #[.int .i64 a0_0, .slice A0_1 l0_1.length c0_1] 24 (0, 0)) (by (with_reducible repeat (first | refine blk_drewN ?_ _ | refine blk_drew ?_ | refine blk_alloc ?_ _)); exact BK144.out) hb)
                    have n2_ := Aside0.mk (below_step (by repeat (first | (with_reducible first | exact HB.out | apply below_alloc | apply pw_below_drewN | apply below_drew1 | refine below_set ?_ GE144.out) | exact HB.out)) hb)
                    clear HO_8
                    clear BK144
                    clear HB
                    have HO_8 := n0_
                    have BK144 := n1_
                    have HB := n2_
                    clear n0_ n1_ n2_
                    (try clear hb)
                    (try clear hb2)
                    (try clear hk)
                    (try clear hi)
                    refine hK.out _ _ ⟨(blk_cell BK144.out 0).trans rfl, (blk_cell BK144.out 1).trans rfl⟩ (fun hHeld => ?_)
                    clear hK K
                    refine norm_ (a' := ?_) ?_ ?_
                    rotate_left
                    · show Act.put _ (some 36) _ = _
                      simp only [Act.put, List.setIfInBounds_toArray, List.set_cons_zero, List.set_cons_succ, i64_w, i32_w]
                      rfl
                    refine pure_ (i := 7) (N := some 10) (v := ?_) (a' := ?_) #[true, true, true, true, true, true, true, true, false] rfl rfl (any_of HT_.out (by kernel_rfl)) (fun _ _ _ h => h) (Or.inl ⟨by rfl, ?_⟩) ?_ ?_
                    rotate_left
                    · intro w'
                      go_simp
                      with_reducible rfl
                    rotate_left
                    · simp only [Act.put, List.setIfInBounds_toArray, List.set_cons_zero, List.set_cons_succ, i64_w, i32_w]
                      rfl
                    refine pure_ (i := 8) (N := some 11) (v := ?_) (a' := ?_) #[true, true, true, true, true, true, true, true, true] rfl rfl (any_of HT_.out (by kernel_rfl)) (fun _ _ _ h => h) (Or.inl ⟨by rfl, ?_⟩) ?_ ?_
                    rotate_left
                    · intro w'
                      go_simp
                      with_reducible rfl
                    rotate_left
                    · simp only [Act.put, List.setIfInBounds_toArray, List.set_cons_zero, List.set_cons_succ, i64_w, i32_w]
                      rfl
                    refine done_ (done_of HT_.out (by kernel_rfl)) ?_
                    try go_wp2_with (first | (go_at_call 64; (with_reducible refine (cam_within.calls a1 (wrap64 ((ji27) + 1)) (wrap64 ((ji28) - 1)) true _ A29.out).mono ?_); rintro e w35 ⟨rfl, hb⟩; have n0_ := Aside0.mk (Kd.R_below (by (with_reducible repeat (first | apply Kd.R_alloc | apply Kd.R_drewN | apply Kd.R_drew)); exact HO_8.out) hb); have n1_ := Aside0.mk (blk_below (g := gb144) (o := .cells #[.int .i64 a0_0, .slice A0_1 l0_1.length c0_1] 24 (0, 0)) (by (with_reducible repeat (first | refine blk_drewN ?_ _ | refine blk_drew ?_ | refine blk_alloc ?_ _)); exact BK144.out) hb); have n2_ := Aside0.mk (below_step (by repeat (first | (with_reducible first | exact HB.out | apply below_alloc | apply pw_below_drewN | apply below_drew1 | refine below_set ?_ GE144.out) | exact HB.out)) hb); clear HO_8; clear BK144; clear HB; have HO_8 := n0_; have BK144 := n1_; have HB := n2_; clear n0_ n1_ n2_; (try clear hb); (try clear hb2); (try clear hk); (try clear hi)) | ((with_reducible refine gate_builtin (b := .append) (xs := #[.tmp 53, .tmp 55]) rfl ?_); (try (refine gate_guard (by rfl) ?_; dsimp only)); at_builtin; refine Kd.R_append (Kd.int .i64) (w0 := w) w.heap.size rfl (.tmp 53) (.tmp 55) 22 3 (.int .i64 0) 8 rfl Tryz.underlying22 info3 rfl (by decide) (by omega) u8 x8_2 x27_2 [.int .i64 x27_2] (fun _ => True) (fun _ => False) rfl rfl ?aP (fun _ hk => hk.elim) ?aF ?aO ?aB ?aS ?aL ?_; (case aP => exact rfl); (case aB => exact (by repeat (first | (with_reducible first | exact HB.out | apply below_alloc | apply pw_below_drewN | apply below_drew1 | refine below_set ?_ GE144.out) | exact HB.out))); (case aF => exact (fun _ _ => trivial)); (case aO => exact (by (with_reducible repeat (first | apply Kd.R_alloc | apply Kd.R_drewN | apply Kd.R_drew)); exact HO_8.out)); (case aS => exact (below_size (by repeat (first | (with_reducible first | exact HB.out | apply below_alloc | apply pw_below_drewN | apply below_drew1 | refine below_set ?_ GE144.out) | exact HB.out)))); (case aL => have := LMc31.out; omega); intro v155 w36 ho hb hg hat; rw [← Ny154.out] at ho; have n0_ := Aside0.mk (blk_grown (g := gb144) (o := .cells #[.int .i64 a0_0, .slice A0_1 l0_1.length c0_1] 24 (0, 0)) (by (with_reducible repeat (first | refine blk_drewN ?_ _ | refine blk_drew ?_ | refine blk_alloc ?_ _)); exact BK144.out) hg (Kd.R_ne HO_8.out BK144.out (by decide))); have n1_ := Aside0.mk (hb); have n2_ := Aside0.mk (ho); clear BK144; clear HB; clear HO_8; have BK144 := n0_; have HB := n1_; have HO156 := n2_; clear n0_ n1_ n2_; clear ho hb hg hat))
                    go_roundg k2
                    case measure => have := HJ3.out; have := HK2.out; omega
                    case rel => exact ⟨(y154), (wrap64 (x27_2 + 1)), (by first | rfl | (simp; done) | (simp [*]; done)), H', ⟨by have := HJ3.out; have := HK2.out; omega⟩, ⟨by (with_reducible repeat (first | apply Kd.R_alloc | apply Kd.R_drewN | apply Kd.R_drew)); exact HO156.out⟩, ⟨by (with_reducible repeat (first | refine blk_drewN ?_ _ | refine blk_drew ?_ | refine blk_alloc ?_ _)); exact BK144.out⟩, ⟨by repeat (first | (with_reducible first | exact HB.out | apply below_alloc | apply pw_below_drewN | apply below_drew1 | refine below_set ?_ GE144.out) | exact HB.out)⟩⟩
                  · rw [if_neg c31] at H
                    exact absurd H (by simp)
                · replace c30 := Bool.eq_false_iff.mpr c30
                  subst c30
                  have H1 : (cam_Passes.l0 k2 a1 x8_2 (wrap64 (a2 + 1)) (wrap64 (x27_2 + 1)) a0_0 l0_1) = some (r1, r2) := by rw [if_neg (show ¬ (false = true) by decide)] at H; exact H
                  clear H
                  have H := H1
                  clear H1
                  have H' := Aside0.mk H
                  clear H
                  try go_wp2
                  have n0_ := Aside0.mk (Kd.R_drew HO_8.out)
                  have n1_ := Aside0.mk (blk_drew BK144.out)
                  have n2_ := Aside0.mk (below_drew1 HB.out)
                  clear HO_8
                  clear BK144
                  clear HB
                  have HO_8 := n0_
                  have BK144 := n1_
                  have HB := n2_
                  clear n0_ n1_ n2_
                  refine start_ (n := 9) (S := fun w' => w'.cell? ⟨gb144, 0, none⟩ = some (.int .i64 a0_0) ∧ w'.cell? ⟨gb144, 1, none⟩ = some (.slice A0_1 l0_1.length c0_1)) (ds := []) #[false, false, false, false, false, false, false, false, false] (by kernel_rfl) rfl rfl ⟨(blk_cell BK144.out 0).trans rfl, (blk_cell BK144.out 1).trans rfl⟩ (fun hHeld => ?_); refine with_tabW cam_Passes.tab7 cam_Passes.bits7 (fun HT_ HW_ => ?_)
                  generalize wr.drew = w37 at HO_8 BK144 HB hHeld ⊢
                  refine pure_ (i := 1) (N := some 31) (v := ?_) (a' := ?_) #[false, true, false, false, false, false, false, false, false] rfl rfl (any_of HT_.out (by kernel_rfl)) (fun _ _ _ h => h) (Or.inl ⟨by rfl, ?_⟩) ?_ ?_
                  rotate_left
                  · intro w'
                    go_simp
                    with_reducible rfl
                  rotate_left
                  · simp only [Act.put, List.setIfInBounds_toArray, List.set_cons_zero, List.set_cons_succ, i64_w, i32_w]
                    rfl
                  refine pure_ (i := 4) (N := some 34) (v := ?_) (a' := ?_) #[false, true, false, false, true, false, false, false, false] rfl rfl (any_of HT_.out (by kernel_rfl)) (fun _ _ _ h => h) (Or.inl ⟨by rfl, ?_⟩) ?_ ?_
                  rotate_left
                  · intro w'
                    go_simp
                    with_reducible rfl
                  rotate_left
                  · simp only [Act.put, List.setIfInBounds_toArray, List.set_cons_zero, List.set_cons_succ, i64_w, i32_w]
                    rfl
                  refine pure_ (i := 5) (N := some 35) (v := ?_) (a' := ?_) #[false, true, false, false, true, true, false, false, false] rfl rfl (any_of HT_.out (by kernel_rfl)) (fun _ _ _ h => h) (Or.inl ⟨by rfl, ?_⟩) ?_ ?_
                  rotate_left
                  · intro w'
                    go_simp
                    with_reducible rfl
                  rotate_left
                  · simp only [Act.put, List.setIfInBounds_toArray, List.set_cons_zero, List.set_cons_succ, i64_w, i32_w]
                    rfl
                  refine take_ (i := 0) (N := some 30) (v := ?_) (a' := ?_) #[true, true, false, false, true, true, false, false, false] rfl rfl (take_ofW HT_.out HW_.out (by kernel_rfl)) (fun _ _ _ h => h) (Or.inl ⟨by rfl, ?_⟩) hHeld ?_ ?_
                  rotate_left
                  · rintro w' ⟨s0, s1⟩
                    go_simp
                    with_reducible rfl
                  rotate_left
                  · simp only [Act.put, List.setIfInBounds_toArray, List.set_cons_zero, List.set_cons_succ, i64_w, i32_w]
                    rfl
                  refine take_ (i := 3) (N := some 33) (v := ?_) (a' := ?_) #[true, true, false, true, true, true, false, false, false] rfl rfl (take_ofW HT_.out HW_.out (by kernel_rfl)) (fun _ _ _ h => h) (Or.inl ⟨by rfl, ?_⟩) hHeld ?_ ?_
                  rotate_left
                  · rintro w' ⟨s0, s1⟩
                    go_simp
                    with_reducible rfl
                  rotate_left
                  · simp only [Act.put, List.setIfInBounds_toArray, List.set_cons_zero, List.set_cons_succ, i64_w, i32_w]
                    rfl
                  refine one_ (i := 2) (N := some 32) #[true, true, true, true, true, true, false, false, false] rfl rfl (one_of HT_.out (by kernel_rfl)) (by decide) (fun K hK => ?_)
                  refine goes_ Tryz.func47 (by kernel_rfl) rfl #[.agg #[.int .i64 a0_0, .slice A0_1 l0_1.length c0_1], .int .i64 x27_2] (by rfl) rfl rfl (by (try simp only [List.map_toArray, List.map_cons, List.map_nil]); first | done | rfl | (simp only [List.length_drop, List.length_take]; rfl)) ?_
                  with_reducible refine (cam_place.calls a0_0 _ _ l0_1 x27_2 t148 _ ?side1 ?side2 A19.out).mono ?_
                  (case side1 => repeat (first | exact (Kd.C_below HR0_1.out HB.out) | (with_reducible refine Kd.C_alloc ?_ _) | (with_reducible refine Kd.C_drewN ?_ _) | (with_reducible refine Kd.C_drew ?_)))
                  (case side2 => exact HC0_1.out)
                  rintro e w38 ⟨rfl, hb⟩
                  refine ⟨_, rfl, ?_⟩
                  have n0_ := Aside0.mk (Kd.R_below (by (with_reducible repeat (first | apply Kd.R_alloc | apply Kd.R_drewN | apply Kd.R_drew)); exact HO_8.out) hb)
                  have n1_ := Aside0.mk (blk_below (g := gb144) (o := .cells #[.int .i64 a0_0, .slice A0_1 l0_1.length c0_1] 24 (0, 0)) (by (with_reducible repeat (first | refine blk_drewN ?_ _ | refine blk_drew ?_ | refine blk_alloc ?_ _)); exact BK144.out) hb)
                  have n2_ := Aside0.mk (below_step (by repeat (first | (with_reducible first | exact HB.out | apply below_alloc | apply pw_below_drewN | apply below_drew1 | refine below_set ?_ GE144.out) | exact HB.out)) hb)
                  clear HO_8
                  clear BK144
                  clear HB
                  have HO_8 := n0_
                  have BK144 := n1_
                  have HB := n2_
                  clear n0_ n1_ n2_
                  (try clear hb)
                  (try clear hb2)
                  (try clear hk)
                  (try clear hi)
                  refine hK.out _ _ ⟨(blk_cell BK144.out 0).trans rfl, (blk_cell BK144.out 1).trans rfl⟩ (fun hHeld => ?_)
                  clear hK K
                  refine norm_ (a' := ?_) ?_ ?_
                  rotate_left
                  · show Act.put _ (some 32) _ = _
                    simp only [Act.put, List.setIfInBounds_toArray, List.set_cons_zero, List.set_cons_succ, i64_w, i32_w]
                    rfl
                  refine one_ (i := 6) (N := some 36) #[true, true, true, true, true, true, true, false, false] rfl rfl (one_of HT_.out (by kernel_rfl)) (by decide) (fun K hK => ?_)
                  refine goes_ Tryz.func47 (by kernel_rfl) rfl #[.agg #[.int .i64 a0_0, .slice A0_1 l0_1.length c0_1], .int .i64 (wrap64 (x27_2 + 1))] (by rfl) rfl rfl (by (try simp only [List.map_toArray, List.map_cons, List.map_nil]); first | done | rfl | (simp only [List.length_drop, List.length_take]; rfl)) ?_
                  with_reducible refine (cam_place.calls a0_0 _ _ l0_1 (wrap64 (x27_2 + 1)) t149 _ ?side1 ?side2 A20.out).mono ?_
                  (case side1 => repeat (first | exact (Kd.C_below HR0_1.out HB.out) | (with_reducible refine Kd.C_alloc ?_ _) | (with_reducible refine Kd.C_drewN ?_ _) | (with_reducible refine Kd.C_drew ?_)))
                  (case side2 => exact HC0_1.out)
                  rintro e w39 ⟨rfl, hb⟩
                  refine ⟨_, rfl, ?_⟩
                  have n0_ := Aside0.mk (Kd.R_below (by (with_reducible repeat (first | apply Kd.R_alloc | apply Kd.R_drewN | apply Kd.R_drew)); exact HO_8.out) hb)
                  have n1_ := Aside0.mk (blk_below (g := gb144) (o := .cells #[.int .i64 a0_0, .slice A0_1 l0_1.length c0_1] 24 (0, 0)) (by (with_reducible repeat (first | refine blk_drewN ?_ _ | refine blk_drew ?_ | refine blk_alloc ?_ _)); exact BK144.out) hb)
                  have n2_ := Aside0.mk (below_step (by repeat (first | (with_reducible first | exact HB.out | apply below_alloc | apply pw_below_drewN | apply below_drew1 | refine below_set ?_ GE144.out) | exact HB.out)) hb)
                  clear HO_8
                  clear BK144
                  clear HB
                  have HO_8 := n0_
                  have BK144 := n1_
                  have HB := n2_
                  clear n0_ n1_ n2_
                  (try clear hb)
                  (try clear hb2)
                  (try clear hk)
                  (try clear hi)
                  refine hK.out _ _ ⟨(blk_cell BK144.out 0).trans rfl, (blk_cell BK144.out 1).trans rfl⟩ (fun hHeld => ?_)
                  clear hK K
                  refine norm_ (a' := ?_) ?_ ?_
                  rotate_left
                  · show Act.put _ (some 36) _ = _
                    simp only [Act.put, List.setIfInBounds_toArray, List.set_cons_zero, List.set_cons_succ, i64_w, i32_w]
                    rfl
                  refine pure_ (i := 7) (N := some 10) (v := ?_) (a' := ?_) #[true, true, true, true, true, true, true, true, false] rfl rfl (any_of HT_.out (by kernel_rfl)) (fun _ _ _ h => h) (Or.inl ⟨by rfl, ?_⟩) ?_ ?_
                  rotate_left
                  · intro w'
                    go_simp
                    with_reducible rfl
                  rotate_left
                  · simp only [Act.put, List.setIfInBounds_toArray, List.set_cons_zero, List.set_cons_succ, i64_w, i32_w]
                    rfl
                  refine pure_ (i := 8) (N := some 11) (v := ?_) (a' := ?_) #[true, true, true, true, true, true, true, true, true] rfl rfl (any_of HT_.out (by kernel_rfl)) (fun _ _ _ h => h) (Or.inl ⟨by rfl, ?_⟩) ?_ ?_
                  rotate_left
                  · intro w'
                    go_simp
                    with_reducible rfl
                  rotate_left
                  · simp only [Act.put, List.setIfInBounds_toArray, List.set_cons_zero, List.set_cons_succ, i64_w, i32_w]
                    rfl
                  refine done_ (done_of HT_.out (by kernel_rfl)) ?_
                  try go_wp2_with (first | (go_at_call 64; (with_reducible refine (cam_within.calls a1 (wrap64 ((ji27) + 1)) (wrap64 ((ji28) - 1)) false _ A29.out).mono ?_); rintro e w40 ⟨rfl, hb⟩; have n0_ := Aside0.mk (Kd.R_below (by (with_reducible repeat (first | apply Kd.R_alloc | apply Kd.R_drewN | apply Kd.R_drew)); exact HO_8.out) hb); have n1_ := Aside0.mk (blk_below (g := gb144) (o := .cells #[.int .i64 a0_0, .slice A0_1 l0_1.length c0_1] 24 (0, 0)) (by (with_reducible repeat (first | refine blk_drewN ?_ _ | refine blk_drew ?_ | refine blk_alloc ?_ _)); exact BK144.out) hb); have n2_ := Aside0.mk (below_step (by repeat (first | (with_reducible first | exact HB.out | apply below_alloc | apply pw_below_drewN | apply below_drew1 | refine below_set ?_ GE144.out) | exact HB.out)) hb); clear HO_8; clear BK144; clear HB; have HO_8 := n0_; have BK144 := n1_; have HB := n2_; clear n0_ n1_ n2_; (try clear hb); (try clear hb2); (try clear hk); (try clear hi)))
                  go_roundg k2
                  case measure => have := HJ3.out; have := HK2.out; omega
                  case rel => exact ⟨(x8_2), (wrap64 (x27_2 + 1)), (by first | rfl | (simp; done) | (simp [*]; done)), H', ⟨by have := HJ3.out; have := HK2.out; omega⟩, ⟨by (with_reducible repeat (first | apply Kd.R_alloc | apply Kd.R_drewN | apply Kd.R_drew)); exact HO_8.out⟩, ⟨by (with_reducible repeat (first | refine blk_drewN ?_ _ | refine blk_drew ?_ | refine blk_alloc ?_ _)); exact BK144.out⟩, ⟨by repeat (first | (with_reducible first | exact HB.out | apply below_alloc | apply pw_below_drewN | apply below_drew1 | refine below_set ?_ GE144.out) | exact HB.out)⟩⟩
            · rw [if_neg c18] at H
              have c18b0 : decide (x27_2 < (wrap64 (a2 + 1))) = false := decide_eq_false c18
              clear c18
              simp only [Option.some.injEq, Prod.mk.injEq] at H
              obtain ⟨rfl, rfl⟩ := H
              go_wp2
              go_ret2
              exact ⟨_, by first | rfl | (simp [errW_none, errW_some] <;> rfl) | (simp [*, errW_none, errW_some] <;> rfl), by (with_reducible repeat (first | apply Kd.R_alloc | apply Kd.R_drewN | apply Kd.R_drew)); exact HO_8.out, by repeat (first | (with_reducible first | exact HB.out | apply below_alloc | apply pw_below_drewN | apply below_drew1 | refine below_set ?_ GE144.out) | exact HB.out)⟩
end Go.Proofs.YtbjimmemcmjpcabGreatDoor.Print
end

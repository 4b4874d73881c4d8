/- What the program's functions compute that the chapter's examples reach, each with the walk that shows it; the kit's words for such walks. Joined by wip/pack.py. -/
import Derived.Deep.DeepFit
import Derived.Deep.DeepMust
import Derived.Laws.CopyOwn
import Derived.Deep.CutRange
import Derived.WalkLawsBesides
import Derived.Test.YtbjimmemcmjpcabGreatDoorB4
import Derived.Test.YtbjimmemcmjpcabGreatDoorB3
section
set_option linter.unusedVariables false
set_option linter.unusedSimpArgs false
namespace Go.Proofs.YtbjimmemcmjpcabGreatDoor.Print
open Go.RowKit Go.Proofs.YtbjimmemcmjpcabGreatDoorW.PrintWords Go.Proofs.YtbjimmemcmjpcabGreatDoorW.PrintLast Go.Proofs.YtbjimmemcmjpcabGreatDoorW.PrintMore
abbrev KINT : Kd Int := Kd.int .i64
abbrev KSPAN : Kd S48 := k48
abbrev ZINT : Int := 0
abbrev ZSPAN : S48 := z48
theorem MINT {w : World} {base : Nat} {ok : Nat → Prop} : KINT.M w base ok ZINT (Value.cells (.int .i64 0)).toList := rfl
theorem MSPAN {w : World} {base : Nat} {ok : Nat → Prop} : KSPAN.M w base ok ZSPAN (Value.cells (.agg #[.int .i64 0, .int .i64 0])).toList := k48_mkM w base ok z48
theorem run_copy_rows (P : Program) (w : World) (dT sT ty elem : TypeId) (g o dLen dCap : Nat) (a : Addr) (sLen sCap sz : Nat) (cur : Array Value) (t : TypeId) (cs : List Value)
    (hu : P.underlying dT = some (.slice elem)) (hs : (P.info? elem).map (·.size) = some sz)
    (hg : w.heap[g]? = some (.cells cur t (0, 0))) (hn : cs.length = Nat.min sLen dLen * sz)
    (hsrc : ∀ j v, cs[j]? = some v → w.cell? (a.add j) = some v) (hfit : o + cs.length ≤ cur.size) (h1 : ∀ v ∈ cs, v.oneCell' = true) :
    (Builtin.copy_ #[dT, sT] ty #[.slice (some ⟨g, o, none⟩) dLen dCap, .slice (some a) sLen sCap]).run P w =
      .ok (goInt (Nat.min sLen dLen : Nat)) (w.setRow g (cur.toList.take o ++ cs ++ cur.toList.drop (o + cs.length)).toArray) := by
  have hl := run_loadCells_list (P := P) w a cs hsrc
  have hst := run_storeCells_at P g o t cs 0 cur w hg (by simpa using hfit) h1
  cases hq : P.info? elem with
  | none => simp [hq] at hs
  | some i =>
    have hi : i.size = sz := by simpa [hq] using hs
    simp [Builtin.copy_, run_underlying hu, Builtin.lenOf, Builtin.firstCells, sizeOf, typeInfo, hq, hi, ← hn, hl, hst]
theorem wpList_copy_rows {P : Program} {w : World} {ops : Array Oper} {rest : List Oper} {o : Oper} {a : Act} {Q : Exit → Act → World → Prop} (hgd : o.guard = none) (d s : Operand) (dT sT : TypeId)
    (ho : o.op = .call { callee := .builtin .copy, args := #[d, s], argTypes := #[dT, sT] }) (elem : TypeId) (sz : Nat) (hu : P.underlying dT = some (.slice elem)) (hsz : (P.info? elem).map (·.size) = some sz)
    (g off dLen dCap : Nat) (ad : Addr) (sLen sCap : Nat) (hd : a.eval d = .slice (some ⟨g, off, none⟩) dLen dCap) (hs : a.eval s = .slice (some ad) sLen sCap)
    (cur : Array Value) (t : TypeId) (hg : w.heap[g]? = some (.cells cur t (0, 0))) (cs : List Value) (n : Nat) (hmin : Nat.min sLen dLen = n) (hn : cs.length = n * sz)
    (hsrc : ∀ j v, cs[j]? = some v → w.cell? (ad.add j) = some v) (hfit : off + cs.length ≤ cur.size) (h1 : ∀ v ∈ cs, v.oneCell' = true)
    (h : wpList P ops Q rest (a.put o.dst (goInt (n : Nat))) (w.setRow g (splice cur.toList off cs).toArray)) : wpList P ops Q (o :: rest) a w := by
  subst hmin
  refine wpList_plain hgd fun K hK => ?_
  have hrun := run_copy_rows P w dT sT o.type elem g off dLen dCap ad sLen sCap sz cur t cs hu hsz hg hn hsrc hfit h1
  unfold Oper.wp
  simp only [execOp, ho, resolve, invoke, builtin, Sem.run_bind, Sem.run_pure, Result.andThen_ok, List.map_toArray, List.map_cons, List.map_nil, hd, hs, hrun]
  rw [List.append_assoc]
  exact hK _ _ h
theorem step_copy_rows {P : Program} {ops : Array Oper} {o : Oper} {a : Act} {w : World} {K : Act → World → Prop} {Q : Exit → Act → World → Prop} {E : Prop} (hgd : o.guard = none) (d s : Operand) (dT sT : TypeId)
    (ho : o.op = .call { callee := .builtin .copy, args := #[d, s], argTypes := #[dT, sT] }) (elem : TypeId) (sz : Nat) (hu : P.underlying dT = some (.slice elem)) (hsz : (P.info? elem).map (·.size) = some sz)
    (g off dLen dCap : Nat) (ad : Addr) (sLen sCap : Nat) (hd : a.eval d = .slice (some ⟨g, off, none⟩) dLen dCap) (hs : a.eval s = .slice (some ad) sLen sCap)
    (cur : Array Value) (t : TypeId) (hg : w.heap[g]? = some (.cells cur t (0, 0))) (cs : List Value) (n : Nat) (hmin : Nat.min sLen dLen = n) (hn : cs.length = n * sz)
    (hsrc : ∀ j v, cs[j]? = some v → w.cell? (ad.add j) = some v) (hfit : off + cs.length ≤ cur.size) (h1 : ∀ v ∈ cs, v.oneCell' = true)
    (h : K (a.put o.dst (goInt (n : Nat))) (w.setRow g (splice cur.toList off cs).toArray)) :
    if Region.wanted o (yielded ops a.tmps) = true then Oper.wp P o a w K Q else E := by
  subst hmin
  have hw : Region.wanted o (yielded ops a.tmps) = true := by simp [Region.wanted, hgd]
  rw [if_pos hw]
  have hrun := run_copy_rows P w dT sT o.type elem g off dLen dCap ad sLen sCap sz cur t cs hu hsz hg hn hsrc hfit h1
  unfold Oper.wp
  simp only [execOp, ho, resolve, invoke, builtin, Sem.run_bind, Sem.run_pure, Result.andThen_ok, List.map_toArray, List.map_cons, List.map_nil, hd, hs, hrun]
  rw [List.append_assoc]
  exact h
theorem mul_one (n : Nat) (h : n ≤ 40) : bits_Mul.f 1 (n : Int) = some (0, (n : Int)) := by
  have : ∀ k : Fin 41, bits_Mul.f 1 ((k.val : Nat) : Int) = some (0, ((k.val : Nat) : Int)) := by decide
  exact this ⟨n, by omega⟩
def pat (p : List Value) (n : Nat) : List Value := (List.replicate n p).flatten
theorem pat_len (p : List Value) (n : Nat) : (pat p n).length = n * p.length := by simp [pat]
theorem pat_add (p : List Value) (m n : Nat) : pat p (m + n) = pat p m ++ pat p n := by simp [pat, ← List.replicate_append_replicate]
theorem pat_take (p : List Value) {m n : Nat} (h : m ≤ n) : (pat p n).take (m * p.length) = pat p m := by
  obtain ⟨d, rfl⟩ : ∃ d, n = m + d := ⟨n - m, by omega⟩
  rw [pat_add, List.take_append_of_le_length (by rw [pat_len]; exact Nat.le_refl _), List.take_of_length_le (by rw [pat_len]; exact Nat.le_refl _)]
theorem pat_drop (p : List Value) {m n : Nat} (h : m ≤ n) : (pat p n).drop (m * p.length) = pat p (n - m) := by
  obtain ⟨d, rfl⟩ : ∃ d, n = m + d := ⟨n - m, by omega⟩
  rw [pat_add, List.drop_append_of_le_length (by rw [pat_len]; exact Nat.le_refl _), List.drop_of_length_le (by rw [pat_len]; exact Nat.le_refl _)]
  simp
theorem made_block {α : Type} {d : Kd α} {e : Nat} {w : World} {base : Nat} {ok : Nat → Prop} {v : Value} {xs : List α} (h : d.R e w base ok v xs) (h0 : 0 < xs.length) :
    ∃ g cap cur, v = .slice (some ⟨g, 0, none⟩) xs.length cap ∧ base ≤ g ∧ w.heap[g]? = some (.cells cur e (0, 0)) ∧ xs.length ≤ cap ∧ cur.size = cap * d.sz := by
  obtain ⟨_, inner, ⟨_, hv⟩, _⟩ := h
  rcases hv with ⟨h1, h2⟩ | ⟨g, cap, cur, h1, h2, h3, h4, _, h5, _⟩
  · omega
  · exact ⟨g, cap, cur, h1, h2, h3, h4, h5⟩
theorem make_rows' (P : Program) (t e : TypeId) (z : Value) (sz bytes n : Nat) (ht : P.underlying t = some (.slice e)) (hinfo : (P.info? e).map (fun i => (i.zero, i.size, i.bytes)) = some (some z, sz, bytes)) (hb : bytes ≤ 1000) (hn : n ≤ 1000) :
    ∃ cur : Array Value, cur.size = n * sz ∧ ∀ W : World, (Instr.makeSlice t (.int .i64 (n : Int)) (.int .i64 (n : Int))).run P W = .ok (.slice (some ⟨W.heap.size, 0, none⟩) n n) (W.alloc (.cells cur e)) := by
  obtain ⟨i0, hi, hzz⟩ := Option.map_eq_some_iff.1 hinfo
  simp only [Prod.mk.injEq] at hzz
  obtain ⟨hz0, hz1, hz2⟩ := hzz
  refine ⟨madeCells z.cells (n * sz), by simp [madeCells], fun W => ?_⟩
  have hr := run_make (P := P) (w := W) t e i0 z ht hi hz0 .i64 .i64 (n : Int) (n : Int) (by omega) (by omega) (by
    have h3 : i0.bytes * n ≤ 1000000 := by rw [hz2]; exact Nat.le_trans (Nat.mul_le_mul hb hn) (by omega)
    have h4 : ((i0.bytes * n : Nat) : Int) ≤ 1000000 := by omega
    rw [Int.natCast_mul] at h4
    omega) (by omega)
  simp only [Int.toNat_natCast, hz1] at hr
  exact hr
theorem pat_one (p : List Value) : pat p 1 = p := by simp [pat]
theorem splice_first (Z p : List Value) : (splice Z 0 p).take p.length = pat p 1 := by
  rw [pat_one]; simp [splice]
theorem pat_grow (Z p : List Value) (n m : Nat) (hZ : Z.take (n * p.length) = pat p n) (hl : n * p.length ≤ Z.length) :
    (splice Z (n * p.length) (pat p m)).take ((n + m) * p.length) = pat p (n + m) := by
  rw [splice, hZ, pat_add, Nat.add_mul, ← List.append_assoc, ← pat_len p n, ← pat_len p m, ← List.length_append, List.take_left']
  rfl
theorem pat_get {Z p : List Value} {n m j : Nat} {v : Value} (hZ : Z.take (n * p.length) = pat p n) (hm : m ≤ n) (h : (pat p m)[j]? = some v) : Z[j]? = some v := by
  have hj : j < m * p.length := by
    rcases Nat.lt_or_ge j (m * p.length) with h1 | h1
    · exact h1
    · rw [List.getElem?_eq_none (by rw [pat_len]; exact h1)] at h; cases h
  have hj2 : j < n * p.length := Nat.lt_of_lt_of_le hj (Nat.mul_le_mul_right _ hm)
  rw [← pat_take p hm, ← hZ, List.getElem?_take, if_pos hj, List.getElem?_take, if_pos hj2] at h
  exact h
theorem pat_cells {p : List Value} (h1 : ∀ v ∈ p, v.oneCell' = true) (m : Nat) : ∀ v ∈ pat p m, v.oneCell' = true := fun v hv => by
  unfold pat at hv
  obtain ⟨q, hq, hv⟩ := List.mem_flatten.1 hv
  rw [(List.mem_replicate.1 hq).2] at hv
  exact h1 v hv
theorem natmin_one (n : Nat) (h : 1 ≤ n) : Nat.min 1 n = 1 := Nat.min_eq_left h
set_option maxRecDepth 100000 in
set_option maxHeartbeats 1000000 in
theorem repeatI (p : List Value) (hp : p.length = 1) (h1 : ∀ v ∈ p, v.oneCell' = true) (ad : Addr) (c cnt : Nat) (hc0 : 1 ≤ cnt ∧ cnt ≤ 40) (w : World) (hp0 : ∀ j v, p[j]? = some v → w.cell? (ad.add j) = some v) :
    Calls Tryz.prog 87 #[.slice (some ad) 1 c, .int .i64 (cnt : Int)] w fun e w' => ∃ (g : Nat), e = .returned (.slice (some ⟨g, 0, none⟩) cnt cnt) ∧ w.heap.size ≤ g ∧ w'.heap[g]? = some (.cells (pat p cnt).toArray 3 (0, 0)) ∧ Below w.heap.size w w' := by
  have HM := Aside0.mk (mul_one cnt (by omega))
  have HP0 := Aside0.mk hp0
  clear hp0
  have hcd : decide ((cnt : Int) < 0) = false := decide_eq_false (by omega)
  obtain ⟨cur, hsize, hmk⟩ := make_rows' Tryz.prog 22 3 _ 1 8 cnt Tryz.underlying22 info3 (by omega) (by omega)
  have HS := Aside0.mk hsize
  have hsz : (Tryz.prog.info? 3).map (·.size) = some 1 := by have h := info3; obtain ⟨i0, hi, hzz⟩ := Option.map_eq_some_iff.1 h; simp only [Prod.mk.injEq] at hzz; rw [hi, Option.map_some, hzz.2.1]
  have HSZ := Aside0.mk hsz
  have hpl : 1 ≤ p.length := by rw [hp]; omega
  have HP := Aside0.mk hp
  have H1 := Aside0.mk h1
  clear hsize hsz hp h1
  go_enter Tryz.func87, Tryz.ntmps87
  go_wp2_with (first | (go_at_call 99; refine (bits_Mul.calls 1 (cnt : Int) 0 (cnt : Int) _ HM.out).mono ?_; rintro e w' ⟨rfl, ⟨⟨n, rfl⟩⟩⟩) | ((with_reducible refine gate_builtin (b := .copy) (xs := #[.tmp 31, .tmp 32]) rfl ?_); go_must ( have HB := Aside0.mk (below_alloc (pw_below_drewN (Below.refl w.heap.size w) n) (.cells cur 3)); have HG := Aside0.mk (blk_new (w.drewN n) (.cells cur 3)); generalize (w.drewN n).alloc (.cells cur 3) = W1 at HB HG ⊢; refine wpList_copy_rows rfl (.tmp 31) (.tmp 32) 22 22 rfl 3 1 Tryz.underlying22 HSZ.out w.heap.size 0 cnt cnt ad 1 c rfl rfl cur 3 HG.out p 1 (natmin_one cnt (by omega)) ?hn ?hsrc ?hfit H1.out ?_; (case hn => exact HP.out); (case hsrc => exact fun j v hj => (HB.out.cell (World.block_lt_of_cell? w _ (HP0.out j v hj))).trans (HP0.out j v hj)); (case hfit => rw [HP.out, HS.out]; omega); have HB2 := Aside0.mk (below_setRow HB.out (Nat.le_refl _) (splice cur.toList 0 p).toArray); have HG2 := Aside0.mk (setRow_heap W1 w.heap.size _ (splice cur.toList 0 p).toArray 3 _ HG.out); have HL2 := Aside0.mk (show (splice cur.toList 0 p).length = cnt * 1 by rw [length_splice _ _ _ (by rw [HP.out, Array.length_toList, HS.out]; omega), Array.length_toList, HS.out]); have HT2 := Aside0.mk (splice_first cur.toList p); generalize splice cur.toList 0 p = Z0 at HB2 HG2 HL2 HT2 ⊢; generalize W1.setRow w.heap.size Z0.toArray = W2 at HB2 HG2 ⊢)))
  have hlt0 : w.heap.size < W2.heap.size := blk_lt HG2.out
  go_loopg [8] (cnt - 1) (fun m v8 wr => ∃ k : Nat, v8 = .int .i64 (k : Int) ∧ Aside0 (1 ≤ k ∧ k ≤ cnt ∧ m = cnt - k) ∧ Aside0 (∃ Z : List Value, wr.heap[w.heap.size]? = some (.cells Z.toArray 3 (0, 0)) ∧ Z.length = cnt * 1 ∧ Z.take (k * p.length) = pat p k) ∧ Aside0 (Below w.heap.size w wr))
  case atStart => exact ⟨1, rfl, ⟨by omega⟩, ⟨Z0, HG2.out, HL2.out, by rw [Nat.one_mul]; exact HT2.out⟩, HB2⟩
  case round =>
    clear HB2 HG2 HL2 HT2 HM HP0 hcd hmk HS
    obtain ⟨k, rfl, HK, HZ, HB⟩ := hrel
    have hk := HK.out
    by_cases hlt : k < cnt
    · have hd : decide ((k : Int) < (cnt : Int)) = true := decide_eq_true (by omega)
      obtain ⟨Z, z1, z2, z3⟩ := HZ.out
      obtain ⟨m, hm⟩ : ∃ m, Nat.min k (cnt - k) = m := ⟨_, rfl⟩
      have hm1 : m ≤ k := by rw [← hm]; exact Nat.min_le_left _ _
      have hm2 : m ≤ cnt - k := by rw [← hm]; exact Nat.min_le_right _ _
      have hm3 : 1 ≤ m := by rw [← hm]; exact Nat.le_min.2 ⟨by omega, by omega⟩
      have hkc : (k : Int) ≤ (cnt : Int) := by omega
      have hk0 : (0 : Int) ≤ (k : Int) := by omega
      have hki : ((k : Int)).toNat = k := Int.toNat_natCast k
      have hnk : ¬ cnt = k := by omega
      have hoff : k * p.length = k := by rw [HP.out] <;> omega
      have hfit : k + (pat p m).length ≤ Z.toArray.size := by rw [← hoff, pat_len, HP.out, List.size_toArray, z2, ← Nat.add_mul]; exact Nat.mul_le_mul_right _ (by omega)
      have HFIT := Aside0.mk hfit
      have HM := Aside0.mk hm
      have HB3 := Aside0.mk (below_setRow (below_drew1 HB.out) (Nat.le_refl _) (splice Z (k) (pat p m)).toArray)
      have HG3 := Aside0.mk (setRow_heap wr.drew w.heap.size _ (splice Z (k) (pat p m)).toArray 3 _ z1)
      have HL3 := Aside0.mk (show (splice Z (k) (pat p m)).length = cnt * 1 by rw [length_splice _ _ _ (by simpa using hfit), z2])
      have HT3 := Aside0.mk (show (splice Z (k) (pat p m)).take ((k + m) * p.length) = pat p (k + m) by have h := pat_grow Z p k m z3 (by rw [z2, HP.out]; exact Nat.mul_le_mul_right _ (by omega)); rw [hoff] at h; exact h)
      have ekm : IntKind.i64.wrap ((k : Int) + (m : Int)) = ((k + m : Nat) : Int) := by rw [IntWalk.i64_in _ ⟨by omega, by omega⟩]; omega
      clear hm hfit hoff
      go_wp2
      go_region_law (refine step_copy_rows rfl (.tmp 41) (.tmp 44) 22 22 rfl 3 1 Tryz.underlying22 HSZ.out w.heap.size (k) (cnt - k) (cnt - k) ⟨w.heap.size, 0, none⟩ k cnt (by simp [Act.eval, Act.put]) (by simp [Act.eval, Act.put]) Z.toArray 3 z1 (pat p m) m HM.out ?hn ?hsrc HFIT.out (pat_cells H1.out _) ?_; (case hn => rw [pat_len, HP.out]); (case hsrc => exact fun j v hj => by rw [add_plain]; exact (blk_cell z1 j).trans (by simpa using pat_get z3 hm1 hj)))
      all_goals (
        try rw [ekm]
        clear ekm
        go_wp2
        go_roundg (cnt - (k + m))
        case measure => omega
        case rel => exact ⟨k + m, by first | rfl | go_num, ⟨by omega⟩, ⟨_, HG3.out, HL3.out, HT3.out⟩, HB3⟩)
    · have hd : decide ((k : Int) < (cnt : Int)) = false := decide_eq_false (by omega)
      have hke : k = cnt := by omega
      have HKE := Aside0.mk hke
      clear hke
      go_wp2
      go_ret
      obtain rfl := HKE.out
      obtain ⟨Z, z1, z2, z3⟩ := HZ.out
      refine ⟨w.heap.size, rfl, Nat.le_refl _, ?_, HB.out⟩
      rw [List.take_of_length_le (by rw [z2, HP.out]; exact Nat.le_refl _)] at z3
      rw [← z3]
      exact z1
set_option maxRecDepth 100000 in
set_option maxHeartbeats 1000000 in
theorem repeatS (p : List Value) (hp : p.length = 2) (h1 : ∀ v ∈ p, v.oneCell' = true) (ad : Addr) (c cnt : Nat) (hc0 : 1 ≤ cnt ∧ cnt ≤ 40) (w : World) (hp0 : ∀ j v, p[j]? = some v → w.cell? (ad.add j) = some v) :
    Calls Tryz.prog 86 #[.slice (some ad) 1 c, .int .i64 (cnt : Int)] w fun e w' => ∃ (g : Nat), e = .returned (.slice (some ⟨g, 0, none⟩) cnt cnt) ∧ w.heap.size ≤ g ∧ w'.heap[g]? = some (.cells (pat p cnt).toArray 48 (0, 0)) ∧ Below w.heap.size w w' := by
  have HM := Aside0.mk (mul_one cnt (by omega))
  have HP0 := Aside0.mk hp0
  clear hp0
  have hcd : decide ((cnt : Int) < 0) = false := decide_eq_false (by omega)
  obtain ⟨cur, hsize, hmk⟩ := make_rows' Tryz.prog 44 48 _ 2 16 cnt Tryz.underlying44 info48 (by omega) (by omega)
  have HS := Aside0.mk hsize
  have hsz : (Tryz.prog.info? 48).map (·.size) = some 2 := by have h := info48; obtain ⟨i0, hi, hzz⟩ := Option.map_eq_some_iff.1 h; simp only [Prod.mk.injEq] at hzz; rw [hi, Option.map_some, hzz.2.1]
  have HSZ := Aside0.mk hsz
  have hpl : 1 ≤ p.length := by rw [hp]; omega
  have HP := Aside0.mk hp
  have H1 := Aside0.mk h1
  clear hsize hsz hp h1
  go_enter Tryz.func86, Tryz.ntmps86
  go_wp2_with (first | (go_at_call 99; refine (bits_Mul.calls 1 (cnt : Int) 0 (cnt : Int) _ HM.out).mono ?_; rintro e w' ⟨rfl, ⟨⟨n, rfl⟩⟩⟩) | ((with_reducible refine gate_builtin (b := .copy) (xs := #[.tmp 31, .tmp 32]) rfl ?_); go_must ( have HB := Aside0.mk (below_alloc (pw_below_drewN (Below.refl w.heap.size w) n) (.cells cur 48)); have HG := Aside0.mk (blk_new (w.drewN n) (.cells cur 48)); generalize (w.drewN n).alloc (.cells cur 48) = W1 at HB HG ⊢; refine wpList_copy_rows rfl (.tmp 31) (.tmp 32) 44 44 rfl 48 2 Tryz.underlying44 HSZ.out w.heap.size 0 cnt cnt ad 1 c rfl rfl cur 48 HG.out p 1 (natmin_one cnt (by omega)) ?hn ?hsrc ?hfit H1.out ?_; (case hn => exact HP.out); (case hsrc => exact fun j v hj => (HB.out.cell (World.block_lt_of_cell? w _ (HP0.out j v hj))).trans (HP0.out j v hj)); (case hfit => rw [HP.out, HS.out]; omega); have HB2 := Aside0.mk (below_setRow HB.out (Nat.le_refl _) (splice cur.toList 0 p).toArray); have HG2 := Aside0.mk (setRow_heap W1 w.heap.size _ (splice cur.toList 0 p).toArray 48 _ HG.out); have HL2 := Aside0.mk (show (splice cur.toList 0 p).length = cnt * 2 by rw [length_splice _ _ _ (by rw [HP.out, Array.length_toList, HS.out]; omega), Array.length_toList, HS.out]); have HT2 := Aside0.mk (splice_first cur.toList p); generalize splice cur.toList 0 p = Z0 at HB2 HG2 HL2 HT2 ⊢; generalize W1.setRow w.heap.size Z0.toArray = W2 at HB2 HG2 ⊢)))
  have hlt0 : w.heap.size < W2.heap.size := blk_lt HG2.out
  go_loopg [8] (cnt - 1) (fun m v8 wr => ∃ k : Nat, v8 = .int .i64 (k : Int) ∧ Aside0 (1 ≤ k ∧ k ≤ cnt ∧ m = cnt - k) ∧ Aside0 (∃ Z : List Value, wr.heap[w.heap.size]? = some (.cells Z.toArray 48 (0, 0)) ∧ Z.length = cnt * 2 ∧ Z.take (k * p.length) = pat p k) ∧ Aside0 (Below w.heap.size w wr))
  case atStart => exact ⟨1, rfl, ⟨by omega⟩, ⟨Z0, HG2.out, HL2.out, by rw [Nat.one_mul]; exact HT2.out⟩, HB2⟩
  case round =>
    clear HB2 HG2 HL2 HT2 HM HP0 hcd hmk HS
    obtain ⟨k, rfl, HK, HZ, HB⟩ := hrel
    have hk := HK.out
    by_cases hlt : k < cnt
    · have hd : decide ((k : Int) < (cnt : Int)) = true := decide_eq_true (by omega)
      obtain ⟨Z, z1, z2, z3⟩ := HZ.out
      obtain ⟨m, hm⟩ : ∃ m, Nat.min k (cnt - k) = m := ⟨_, rfl⟩
      have hm1 : m ≤ k := by rw [← hm]; exact Nat.min_le_left _ _
      have hm2 : m ≤ cnt - k := by rw [← hm]; exact Nat.min_le_right _ _
      have hm3 : 1 ≤ m := by rw [← hm]; exact Nat.le_min.2 ⟨by omega, by omega⟩
      have hkc : (k : Int) ≤ (cnt : Int) := by omega
      have hk0 : (0 : Int) ≤ (k : Int) := by omega
      have hki : ((k : Int)).toNat = k := Int.toNat_natCast k
      have hnk : ¬ cnt = k := by omega
      have hoff : k * p.length = k*2 := by rw [HP.out] <;> omega
      have hfit : k*2 + (pat p m).length ≤ Z.toArray.size := by rw [← hoff, pat_len, HP.out, List.size_toArray, z2, ← Nat.add_mul]; exact Nat.mul_le_mul_right _ (by omega)
      have HFIT := Aside0.mk hfit
      have HM := Aside0.mk hm
      have HB3 := Aside0.mk (below_setRow (below_drew1 HB.out) (Nat.le_refl _) (splice Z (k*2) (pat p m)).toArray)
      have HG3 := Aside0.mk (setRow_heap wr.drew w.heap.size _ (splice Z (k*2) (pat p m)).toArray 48 _ z1)
      have HL3 := Aside0.mk (show (splice Z (k*2) (pat p m)).length = cnt * 2 by rw [length_splice _ _ _ (by simpa using hfit), z2])
      have HT3 := Aside0.mk (show (splice Z (k*2) (pat p m)).take ((k + m) * p.length) = pat p (k + m) by have h := pat_grow Z p k m z3 (by rw [z2, HP.out]; exact Nat.mul_le_mul_right _ (by omega)); rw [hoff] at h; exact h)
      have ekm : IntKind.i64.wrap ((k : Int) + (m : Int)) = ((k + m : Nat) : Int) := by rw [IntWalk.i64_in _ ⟨by omega, by omega⟩]; omega
      clear hm hfit hoff
      go_wp2
      go_region_law (refine step_copy_rows rfl (.tmp 41) (.tmp 44) 44 44 rfl 48 2 Tryz.underlying44 HSZ.out w.heap.size (k*2) (cnt - k) (cnt - k) ⟨w.heap.size, 0, none⟩ k cnt (by simp [Act.eval, Act.put]) (by simp [Act.eval, Act.put]) Z.toArray 48 z1 (pat p m) m HM.out ?hn ?hsrc HFIT.out (pat_cells H1.out _) ?_; (case hn => rw [pat_len, HP.out]); (case hsrc => exact fun j v hj => by rw [add_plain]; exact (blk_cell z1 j).trans (by simpa using pat_get z3 hm1 hj)))
      all_goals (
        try rw [ekm]
        clear ekm
        go_wp2
        go_roundg (cnt - (k + m))
        case measure => omega
        case rel => exact ⟨k + m, by first | rfl | go_num, ⟨by omega⟩, ⟨_, HG3.out, HL3.out, HT3.out⟩, HB3⟩)
    · have hd : decide ((k : Int) < (cnt : Int)) = false := decide_eq_false (by omega)
      have hke : k = cnt := by omega
      have HKE := Aside0.mk hke
      clear hke
      go_wp2
      go_ret
      obtain rfl := HKE.out
      obtain ⟨Z, z1, z2, z3⟩ := HZ.out
      refine ⟨w.heap.size, rfl, Nat.le_refl _, ?_, HB.out⟩
      rw [List.take_of_length_le (by rw [z2, HP.out]; exact Nat.le_refl _)] at z3
      rw [← z3]
      exact z1
end Go.Proofs.YtbjimmemcmjpcabGreatDoor.Print
end
section
set_option linter.unusedVariables false
set_option linter.unusedSimpArgs false
namespace Go.Proofs.YtbjimmemcmjpcabGreatDoor.Print
open Go.RowKit Go.Proofs.YtbjimmemcmjpcabGreatDoorW.PrintWords Go.Proofs.YtbjimmemcmjpcabGreatDoorW.PrintLast Go.Proofs.YtbjimmemcmjpcabGreatDoorW.PrintMore
abbrev SP := S48
abbrev GA := S66
def spanC (S : List SP) : List Value := (S.map fun s => [Value.int .i64 s.f0, Value.int .i64 s.f1]).flatten
theorem spanC_cons (s : SP) (S : List SP) : spanC (s :: S) = .int .i64 s.f0 :: .int .i64 s.f1 :: spanC S := rfl
theorem spanC_len (S : List SP) : (spanC S).length = S.length * 2 := by
  induction S with
  | nil => rfl
  | cons s S ih => rw [spanC_cons]; simp only [List.length_cons, ih]; omega
theorem spanC_get : ∀ (S : List SP) (i : Nat), i < S.length → (spanC S)[i * 2]? = some (.int .i64 (rd_T48 S (i : Int)).f0) ∧ (spanC S)[i * 2 + 1]? = some (.int .i64 (rd_T48 S (i : Int)).f1)
  | [], i, h => by simp at h
  | s :: S, 0, h => by rw [spanC_cons]; exact ⟨rfl, rfl⟩
  | s :: S, i + 1, h => by
    have := spanC_get S i (by simpa using h)
    rw [spanC_cons, show (i + 1) * 2 = i * 2 + 1 + 1 by omega]
    simp only [List.getElem?_cons_succ]
    simpa [rd_T48] using this
theorem spanC_set : ∀ (S : List SP) (i : Nat) (a b : Int), i < S.length → ((spanC S).set (i * 2) (.int .i64 a)).set (i * 2 + 1) (.int .i64 b) = spanC (S.set i ⟨a, b⟩)
  | [], i, a, b, h => by simp at h
  | s :: S, 0, a, b, h => rfl
  | s :: S, i + 1, a, b, h => by
    have := spanC_set S i a b (by simpa using h)
    rw [spanC_cons, show (i + 1) * 2 = i * 2 + 1 + 1 by omega]
    simp only [List.set_cons_succ]
    rw [this]
    rfl
theorem spanC_pat (a b : Int) (n : Nat) : pat [.int .i64 a, .int .i64 b] n = spanC (List.replicate n ⟨a, b⟩) := by
  unfold pat spanC
  rw [List.map_replicate]
def SpanBlk (w : World) (g : Nat) (S : List SP) : Prop := w.heap[g]? = some (.cells (spanC S).toArray 48 (0, 0))
theorem SpanBlk.cells {w : World} {g : Nat} {S : List SP} (h : SpanBlk w g S) (i : Nat) (hi : i < S.length) : w.cell? ⟨g, i * 2, none⟩ = some (.int .i64 (rd_T48 S (i : Int)).f0) ∧ w.cell? ⟨g, i * 2 + 1, none⟩ = some (.int .i64 (rd_T48 S (i : Int)).f1) := by
  have := spanC_get S i hi
  exact ⟨(blk_cell h _).trans (by simpa using this.1), (blk_cell h _).trans (by simpa using this.2)⟩
theorem SpanBlk.put {w : World} {g : Nat} {S : List SP} (h : SpanBlk w g S) (i : Nat) (hi : i < S.length) (a b : Int) : SpanBlk ((w.setCell ⟨g, i * 2, none⟩ (.int .i64 a)).setCell ⟨g, i * 2 + 1, none⟩ (.int .i64 b)) g (S.set i ⟨a, b⟩) := by
  refine blk_put (blk_put h (i * 2) (.int .i64 a) rfl) (i * 2 + 1) (.int .i64 b) ?_
  rw [← spanC_set S i a b hi]
  simp
theorem SpanBlk.below {w w' : World} {g : Nat} {S : List SP} (h : SpanBlk w g S) (hb : Below w.heap.size w w') : SpanBlk w' g S := blk_below h hb
theorem rd_set_same (S : List SP) (i : Nat) (x : SP) (h : i < S.length) : rd_T48 (S.set i x) (i : Int) = x := by simp [rd_T48, List.getD_eq_getElem?_getD, h]
def gaugeS (S : List SP) (x : GA) : SP := ⟨max (rd_T48 S x.f0).f0 (x.f1 - x.f2), min (rd_T48 S x.f0).f1 (x.f1 + x.f2)⟩
def gaugeL : List GA → List SP → Option (List SP)
  | [], S => some S
  | x :: G, S => if (gaugeS S x).f1 < (gaugeS S x).f0 then none else gaugeL G (S.set x.f0.toNat (gaugeS S x))
theorem gaugeL_no {S : List SP} {x : GA} {G : List GA} {a b : Int} (h : gaugeS S x = ⟨a, b⟩) (hl : b < a) : gaugeL (x :: G) S = none := by rw [gaugeL, h]; exact if_pos hl
theorem gaugeL_go {S : List SP} {x : GA} {G : List GA} {a b : Int} {st : Nat} (h : gaugeS S x = ⟨a, b⟩) (hl : ¬ b < a) (hs : x.f0 = (st : Int)) : gaugeL (x :: G) S = gaugeL G (S.set st ⟨a, b⟩) := by rw [gaugeL, h, if_neg hl, hs]; rfl
theorem gauged_post {fn : Func} {w w' : World} {n : Nat} {res : Option (List SP)} {tmps : Array Value} {s : Int} (hb : Below w.heap.size w w') (hr : res = none) :
    bodyPost Tryz.prog fn (fun e w' => Below w.heap.size w w' ∧
      ((∃ (g : Nat) (S : List SP), res = some S ∧ e = .returned (.slice (some ⟨g, 0, none⟩) n n) ∧ w.heap.size ≤ g ∧ SpanBlk w' g S) ∨
       (res = none ∧ ∃ s : Int, e = .panicked [{ v := .iface 108 (.agg #[.int .i64 s]), recovered := false }]))) (Exit.panic [{ v := .iface 108 (.agg #[.int .i64 s]), recovered := false }]) { tmps := tmps, defers := [] } w' :=
  ⟨rfl, hb, .inr ⟨hr, s, rfl⟩⟩
def gaugeOK (n : Nat) (x : GA) : Prop := (0 ≤ x.f0 ∧ x.f0 < n) ∧ (0 ≤ x.f1 ∧ x.f1 ≤ 30) ∧ (0 ≤ x.f2 ∧ x.f2 ≤ 5)
theorem rd_mem47 (G : List GA) (k : Nat) (h : k < G.length) : rd_T66 G (k : Int) ∈ G := by simp [rd_T66, List.getD_eq_getElem?_getD, h]
theorem drop_rd47 (G : List GA) (k : Nat) (h : k < G.length) : G.drop k = rd_T66 G (k : Int) :: G.drop (k + 1) := by
  rw [List.drop_eq_getElem_cons h]
  simp [rd_T66, List.getD_eq_getElem?_getD, h]
set_option maxRecDepth 100000 in
set_option maxHeartbeats 4000000 in
theorem gauged_calls (lw hg sl ch : Int) (n : Nat) (hn : 1 ≤ n ∧ n ≤ 40) (A : Option Addr) (c : Nat) (G : List GA) (hG : ∀ x ∈ G, gaugeOK n x) (hl : G.length ≤ 1000) (hlwb : -100 ≤ lw ∧ hg ≤ 100) (w : World) (hC : Kd.C k66 w A G.length G) :
    Calls Tryz.prog 62 #[.agg #[.int .i64 lw, .int .i64 hg, .int .i64 sl, .int .i64 ch], .int .i64 (n : Int), .slice A G.length c] w fun e w' => Below w.heap.size w w' ∧
      ((∃ (g : Nat) (S : List SP), gaugeL G (List.replicate n ⟨lw, hg⟩) = some S ∧ e = .returned (.slice (some ⟨g, 0, none⟩) n n) ∧ w.heap.size ≤ g ∧ SpanBlk w' g S) ∨
       (gaugeL G (List.replicate n ⟨lw, hg⟩) = none ∧ ∃ s : Int, e = .panicked [{ v := .iface 108 (.agg #[.int .i64 s]), recovered := false }])) := by
  have hu23 := Tryz.underlying35
  have hu47 := Tryz.underlying66
  have hu50 := Tryz.underlying48
  have HC := Aside0.mk hC
  have HG := Aside0.mk hG
  clear hC hG
  obtain ⟨res, hres⟩ : ∃ r, gaugeL G (List.replicate n ⟨lw, hg⟩) = r := ⟨_, rfl⟩
  rw [hres]
  have HRES := Aside0.mk hres
  clear hres
  go_enter Tryz.func62, Tryz.ntmps62
  go_wp2_with fail
  have HB0 := Aside0.mk (below_alloc (below_alloc (Below.refl w.heap.size w) (.cells #[.int .i64 lw, .int .i64 hg, .int .i64 sl, .int .i64 ch] 35)) (.cells #[.int .i64 lw, .int .i64 hg] 48))
  have HN0 := blk_new (w.alloc (.cells #[.int .i64 lw, .int .i64 hg, .int .i64 sl, .int .i64 ch] 35)) (.cells #[.int .i64 lw, .int .i64 hg] 48)
  rw [World.size_alloc] at HN0
  refine (repeatS [.int .i64 lw, .int .i64 hg] rfl (by intro v hv; simp at hv; rcases hv with rfl | rfl <;> rfl) ⟨w.heap.size + 1, 0, none⟩ 1 n ⟨hn.1, hn.2⟩ _ (fun j v hj => by rw [add_plain]; exact (blk_cell HN0 j).trans (by simpa using hj))).mono ?_
  rintro e w1 ⟨g, rfl, hg1, hb1, hb2⟩
  rw [spanC_pat] at hb1
  have HB1 := Aside0.mk (below_step HB0.out hb2)
  have HS1 := Aside0.mk (show SpanBlk w1 g (List.replicate n ⟨lw, hg⟩) from hb1)
  have hgw : w.heap.size ≤ g := by have := HB0.out.size; omega
  clear HN0 hb1 hb2 hg1 HB0
  go_wp2
  go_loopg [21] G.length (fun m v wr => ∃ k : Nat, v = .int .i64 (k : Int) ∧ Aside0 (k ≤ G.length ∧ m = G.length - k) ∧ Aside0 (∃ S : List SP, S.length = n ∧ (∀ i : Nat, i < n → -100 ≤ (rd_T48 S (i : Int)).f0 ∧ (rd_T48 S (i : Int)).f1 ≤ 100) ∧ SpanBlk wr g S ∧ gaugeL (G.drop k) S = res) ∧ Aside0 (Below w.heap.size w wr))
  case atStart => exact ⟨0, rfl, ⟨by omega, by omega⟩, ⟨_, by simp, fun i hi => by rw [show rd_T48 (List.replicate n (⟨lw, hg⟩ : SP)) (i : Int) = ⟨lw, hg⟩ by simp [rd_T48, List.getD_eq_getElem?_getD, hi]]; exact hlwb, HS1.out, HRES.out⟩, HB1⟩
  case round =>
    clear HB1 HS1 HRES
    obtain ⟨k, rfl, HK, HZ, HB⟩ := hrel
    by_cases hk : k < G.length
    · have hd : decide ((k : Int) < (G.length : Int)) = true := decide_eq_true (by omega)
      obtain ⟨ad, rfl, x0, x1, x2⟩ := at_T66 (Kd.C_below HC.out HB.out) (k : Int) (by omega) (by omega)
      obtain ⟨x, hx⟩ : ∃ x, rd_T66 G (k : Int) = x := ⟨_, rfl⟩
      have hok : gaugeOK n x := by rw [← hx]; exact HG.out _ (rd_mem47 G k hk)
      rw [hx] at x0 x1 x2
      simp only [Int.toNat_natCast] at x0 x1 x2
      obtain ⟨S, s1, s2, s3, s4⟩ := HZ.out
      rw [drop_rd47 G k hk, hx] at s4
      obtain ⟨⟨st, hst⟩, hok2⟩ : (∃ st : Nat, x.f0 = (st : Int)) ∧ True := ⟨⟨x.f0.toNat, by have := hok.1; omega⟩, trivial⟩
      have S4 := Aside0.mk s4
      have hx1 := hok.2.1
      have hx2 := hok.2.2
      have hstn : (st : Int) < (n : Int) := by have := hok.1; omega
      have hst0 : (0 : Int) ≤ (st : Int) := by omega
      have HOK := Aside0.mk hok
      have HST := Aside0.mk hst
      have HX := Aside0.mk hx
      have gs0 : Aside0 (gaugeS S x = ⟨max (rd_T48 S (st : Int)).f0 (x.f1 - x.f2), min (rd_T48 S (st : Int)).f1 (x.f1 + x.f2)⟩) := ⟨by unfold gaugeS; rw [hst]⟩
      have hglt : g < wr.heap.size := blk_lt s3
      have bn := blk_new wr (.cells #[.int .i64 (st : Int), .int .i64 x.f1, .int .i64 x.f2] 66)
      have sb := s3.below (below_alloc (Below.refl _ _) (.cells #[.int .i64 (st : Int), .int .i64 x.f1, .int .i64 x.f2] 66))
      have bb := below_alloc HB.out (.cells #[.int .i64 (st : Int), .int .i64 x.f1, .int .i64 x.f2] 66)
      have BN := Aside0.mk bn
      have SB := Aside0.mk sb
      have BB := Aside0.mk bb
      clear s4 hx bn sb bb hok hok2
      go_upto_region 6 with (fail)
      generalize wr.alloc (.cells #[.int .i64 (st : Int), .int .i64 x.f1, .int .i64 x.f2] 66) = W2 at BN SB BB ⊢
      obtain ⟨a, ha⟩ : ∃ a, (rd_T48 S (st : Int)).f0 = a := ⟨_, rfl⟩
      obtain ⟨b, hb⟩ : ∃ b, (rd_T48 S (st : Int)).f1 = b := ⟨_, rfl⟩
      have hab := s2 st (by omega)
      rw [ha, hb] at hab
      have c0 : W2.cell? ⟨g, st * 2, none⟩ = some (.int .i64 a) := by rw [← ha]; exact (SB.out.cells st (by omega)).1
      have c1 : W2.cell? ⟨g, st * 2 + 1, none⟩ = some (.int .i64 b) := by rw [← hb]; exact (SB.out.cells st (by omega)).2
      have f0 : W2.frozen? ⟨g, st * 2, none⟩ = false := blk_frozen SB.out _
      have f1 : W2.frozen? ⟨g, st * 2 + 1, none⟩ = false := blk_frozen SB.out _
      have d0 := (blk_cell BN.out 0).trans rfl
      have d1 := (blk_cell BN.out 1).trans rfl
      have d2 := (blk_cell BN.out 2).trans rfl
      have e1 : IntKind.i64.wrap (x.f1 - x.f2) = x.f1 - x.f2 := IntWalk.i64_in _ ⟨by omega, by omega⟩
      have e2 : IntKind.i64.wrap (x.f1 + x.f2) = x.f1 + x.f2 := IntWalk.i64_in _ ⟨by omega, by omega⟩
      have hgn : ¬ g = wr.heap.size := by omega
      have m1 : (if a < x.f1 - x.f2 then x.f1 - x.f2 else a) = max a (x.f1 - x.f2) := by split <;> omega
      have m2 : (if x.f1 + x.f2 < b then x.f1 + x.f2 else b) = min b (x.f1 + x.f2) := by split <;> omega
      have M12 := Aside0.mk (And.intro m1 m2)
      obtain ⟨A1, hA⟩ : ∃ z, max a (x.f1 - x.f2) = z := ⟨_, rfl⟩
      obtain ⟨B1, hB⟩ : ∃ z, min b (x.f1 + x.f2) = z := ⟨_, rfl⟩
      have hAB : -100 ≤ A1 ∧ B1 ≤ 100 := by omega
      have GS1 := Aside0.mk (show gaugeS S x = ⟨A1, B1⟩ by rw [gs0.out, ha, hb, hA, hB])
      have HAB := Aside0.mk (And.intro hA hB)
      have sb3 := SpanBlk.below (SB.out.put st (by omega) A1 B1) (below_drew (Below.refl _ _))
      have bb3 : Below w.heap.size w ((W2.setCell ⟨g, st * 2, none⟩ (.int .i64 A1)).setCell ⟨g, st * 2 + 1, none⟩ (.int .i64 B1)).drew := ((BB.out.setCell (p := ⟨g, st * 2, none⟩) hgw _).setCell (p := ⟨g, st * 2 + 1, none⟩) hgw _).drew
      have d3 : (((W2.setCell ⟨g, st * 2, none⟩ (.int .i64 A1)).setCell ⟨g, st * 2 + 1, none⟩ (.int .i64 B1)).drew).cell? ⟨wr.heap.size, 0, none⟩ = some (.int .i64 (st : Int)) := (blk_cell (blk_far (blk_far BN.out (p := ⟨g, st * 2, none⟩) (by simp; omega) _) (p := ⟨g, st * 2 + 1, none⟩) (by simp; omega) _) 0).trans rfl
      have R3 := Aside0.mk (And.intro sb3 (And.intro bb3 d3))
      have HBD := Aside0.mk (show ∀ i : Nat, i < n → -100 ≤ (rd_T48 (S.set st ⟨A1, B1⟩) (i : Int)).f0 ∧ (rd_T48 (S.set st ⟨A1, B1⟩) (i : Int)).f1 ≤ 100 from fun i hi => by
        by_cases e : i = st
        · subst e; rw [rd_set_same S i _ (by omega)]; exact hAB
        · rw [show rd_T48 (S.set st ⟨A1, B1⟩) (i : Int) = rd_T48 S (i : Int) by simp [rd_T48, List.getD_eq_getElem?_getD, List.getElem?_set_ne (Ne.symm e)]]; exact s2 i hi)
      have hSl : (S.set st ⟨A1, B1⟩).length = n := by rw [List.length_set]; exact s1
      clear x0 x1 x2 ha hb gs0 m1 m2 hA hB sb3 bb3 d3 hab
      go_cut [] from 29 to 54 (fun wx => SpanBlk wx g (S.set st ⟨A1, B1⟩) ∧ Below w.heap.size w wx ∧ wx.cell? ⟨wr.heap.size, 0, none⟩ = some (.int .i64 (st : Int)))
      case first =>
        go_region
        all_goals (
          rw [M12.out.1, M12.out.2, HAB.out.1, HAB.out.2]
          go_wp2
          go_meet
          case rel => exact R3.out)
      case rest =>
        clear c0 c1 f0 f1 d0 d1 d2 e1 e2 M12 HAB R3 SB BB BN
        obtain ⟨hs3, hb3, d3⟩ := hcut
        have SB3 := Aside0.mk hs3
        have BB3 := Aside0.mk hb3
        have c0 : wc.cell? ⟨g, st * 2, none⟩ = some (.int .i64 A1) := by have := (hs3.cells st (by rw [hSl]; omega)).1; rwa [rd_set_same S st _ (by omega)] at this
        have c1 : wc.cell? ⟨g, st * 2 + 1, none⟩ = some (.int .i64 B1) := by have := (hs3.cells st (by rw [hSl]; omega)).2; rwa [rd_set_same S st _ (by omega)] at this
        clear hs3 hb3
        by_cases hlt : B1 < A1
        · have hdl : decide (B1 < A1) = true := decide_eq_true hlt
          have HR := Aside0.mk (S4.out.symm.trans (gaugeL_no GS1.out hlt))
          go_wp2
          go_region
          go_wp2
          exact gauged_post BB3.out.drew HR.out
        · have hdl : decide (B1 < A1) = false := decide_eq_false hlt
          have HR := Aside0.mk ((gaugeL_go (G := G.drop (k + 1)) GS1.out hlt HST.out).symm.trans S4.out)
          go_wp2
          go_region
          go_wp2
          go_roundg (G.length - (k + 1))
          case measure => have := HK.out; omega
          case rel => exact ⟨k + 1, by go_num, ⟨by omega, rfl⟩, ⟨_, hSl, HBD.out, SpanBlk.below SB3.out (below_drew (Below.refl _ _)), HR.out⟩, ⟨BB3.out.drew⟩⟩
    · have hd : decide ((k : Int) < (G.length : Int)) = false := decide_eq_false (by omega)
      obtain ⟨S, s1, s2, s3, s4⟩ := HZ.out
      have HR := Aside0.mk (show res = some S by rw [← s4, List.drop_of_length_le (by omega)]; rfl)
      clear s4
      go_wp2
      go_ret
      exact ⟨HB.out, .inl ⟨g, S, HR.out, rfl, hgw, s3⟩⟩
end Go.Proofs.YtbjimmemcmjpcabGreatDoor.Print
end

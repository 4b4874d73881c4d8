/- What the program's functions compute that the chapter's examples reach, each with the walk that shows it; the kit's words for such walks. Joined by wip/pack.py. -/
import Derived.Laws.EntriesVeiled
import Derived.WalkLawsBesides
import Derived.Test.YtbjimmemcmjpcabGreatDoorB5
section
set_option linter.unusedVariables false
set_option linter.unusedSimpArgs false
namespace Go.Proofs.YtbjimmemcmjpcabGreatDoor.Print
open Go.RowKit Go.Proofs.YtbjimmemcmjpcabGreatDoorW.PrintWords Go.Proofs.YtbjimmemcmjpcabGreatDoorW.PrintLast Go.Proofs.YtbjimmemcmjpcabGreatDoorW.PrintMore
theorem tryc_idle (p : Addr) (w : World) :
    CallsD Tryz.prog 85 #[.pointer (some p)] .returning w fun e u' w' => e = .returned (.tuple #[]) ∧ u' = .returning ∧ w = w' := by
  refine callsD_of_wpS Tryz.func85 rfl fun c₀ cs hu => ?_
  apply wpS_seq
  apply wpS_region
  simp [wpOpsS, go_sem, recoverD, hu, Tryz.ntmps85, Exit.thenS]
  refine wpS_of_wp ?_
  generalize hQ : (fun (e : Exit) (a' : Act) (w' : World) => bodyPostS Tryz.prog Tryz.f85 c₀ cs _ e a' _ w') = Q
  have HQ := Aside0.mk hQ
  have HU := Aside0.mk hu
  clear hQ hu
  have heq : ∀ W : World, (binOp BinOp.eql 20 Value.nilIface Value.nilIface).run Tryz.prog W = .ok (.bool true) W := fun _ => by kernel_rfl
  rw [show ({ tmps := #[Value.pointer (some p)] ++ (Array.replicate 13 undef).setIfInBounds 4 Value.nilIface, defers := [] } : Act) = { tmps := #[Value.pointer (some p), undef, undef, undef, undef, Value.nilIface, undef, undef, undef, undef, undef, undef, undef, undef], defers := [] } from rfl]
  go_wp2
  rw [← HQ.out]
  exact ⟨rfl, c₀.mode, rfl, .tuple #[], by simp [results, Tryz.results85], rfl, HU.out, rfl⟩
set_option maxRecDepth 100000 in
theorem tryc_against (p : Addr) (x : Int) (s : Int) (older : List PanicEntry) (w : World) (hc : w.cell? p = some (.int .i64 x)) (hz : w.frozen? p = false) :
    CallsD Tryz.prog 85 #[.pointer (some p)] (.panicking ({ v := .iface 108 (.agg #[(Value.int .i64 s)]), recovered := false } :: older)) w fun e u' w' =>
      e = .returned (.tuple #[]) ∧ u' = .panicking ({ v := .iface 108 (.agg #[(Value.int .i64 s)]), recovered := true } :: older) ∧ (w.alloc (.cells #[(Value.int .i64 s)] 108)).setCell p (.int .i64 7) = w' := by
  refine callsD_of_wpS Tryz.func85 rfl fun c₀ cs hu => ?_
  apply wpS_seq
  apply wpS_region
  simp [wpOpsS, go_sem, recoverD, hu, Tryz.ntmps85, Exit.thenS]
  refine wpS_of_wp ?_
  generalize hQ : (fun (e : Exit) (a' : Act) (w' : World) => bodyPostS Tryz.prog Tryz.f85 c₀ cs _ e a' _ w') = Q
  have HQ := Aside0.mk hQ
  have HU := Aside0.mk hu
  clear hQ hu
  have heq : ∀ W : World, (binOp BinOp.eql 20 (.iface 108 (.agg #[(Value.int .i64 s)])) Value.nilIface).run Tryz.prog W = .ok (.bool false) W := fun _ => by kernel_rfl
  have hta : ∀ W : World, (Instr.typeAssert (.iface 108 (.agg #[(Value.int .i64 s)])) 20 108 true).run Tryz.prog W = .ok (.tuple #[.agg #[(Value.int .i64 s)], .bool true]) W := fun _ => by kernel_rfl
  have hlt := World.block_lt_of_cell? w _ hc
  have hu117 := Tryz.underlying108
  have hc2 : (w.alloc (.cells #[(Value.int .i64 s)] 108)).cell? p = some (.int .i64 x) := ((below_alloc (Below.refl _ w) (.cells #[(Value.int .i64 s)] 108)).cell (p := p) hlt).trans hc
  have hz2 : (w.alloc (.cells #[(Value.int .i64 s)] 108)).frozen? p = false := ((below_alloc (Below.refl _ w) (.cells #[(Value.int .i64 s)] 108)).frozen (p := p) hlt).trans hz
  rw [show ({ tmps := #[Value.pointer (some p)] ++ (Array.replicate 13 undef).setIfInBounds 4 (.iface 108 (.agg #[(Value.int .i64 s)])), defers := [] } : Act) = { tmps := #[Value.pointer (some p), undef, undef, undef, undef, (.iface 108 (.agg #[(Value.int .i64 s)])), undef, undef, undef, undef, undef, undef, undef, undef], defers := [] } from rfl]
  go_wp2
  rw [← HQ.out]
  exact ⟨rfl, _, rfl, .tuple #[], by simp [results, Tryz.results85], rfl, rfl, rfl⟩
set_option maxRecDepth 100000 in
theorem tryc_none (p : Addr) (x : Int) (s : ByteArray) (older : List PanicEntry) (w : World) (hc : w.cell? p = some (.int .i64 x)) (hz : w.frozen? p = false) :
    CallsD Tryz.prog 85 #[.pointer (some p)] (.panicking ({ v := .iface 110 (.agg #[(Value.string s)]), recovered := false } :: older)) w fun e u' w' =>
      e = .returned (.tuple #[]) ∧ u' = .panicking ({ v := .iface 110 (.agg #[(Value.string s)]), recovered := true } :: older) ∧ (w.alloc (.cells #[(Value.string s)] 110)).setCell p (.int .i64 4) = w' := by
  refine callsD_of_wpS Tryz.func85 rfl fun c₀ cs hu => ?_
  apply wpS_seq
  apply wpS_region
  simp [wpOpsS, go_sem, recoverD, hu, Tryz.ntmps85, Exit.thenS]
  refine wpS_of_wp ?_
  generalize hQ : (fun (e : Exit) (a' : Act) (w' : World) => bodyPostS Tryz.prog Tryz.f85 c₀ cs _ e a' _ w') = Q
  have HQ := Aside0.mk hQ
  have HU := Aside0.mk hu
  clear hQ hu
  have heq : ∀ W : World, (binOp BinOp.eql 20 (.iface 110 (.agg #[(Value.string s)])) Value.nilIface).run Tryz.prog W = .ok (.bool false) W := fun _ => by kernel_rfl
  have hta : ∀ W : World, (Instr.typeAssert (.iface 110 (.agg #[(Value.string s)])) 20 110 true).run Tryz.prog W = .ok (.tuple #[.agg #[(Value.string s)], .bool true]) W := fun _ => by kernel_rfl
  have htb : ∀ W : World, (Instr.typeAssert (.iface 110 (.agg #[Value.string s])) 20 108 true).run Tryz.prog W = .ok (.tuple #[.agg #[.int .i64 0], .bool false]) W := fun _ => by kernel_rfl
  have hlt := World.block_lt_of_cell? w _ hc
  have hu117 := Tryz.underlying110
  have hc2 : (w.alloc (.cells #[(Value.string s)] 110)).cell? p = some (.int .i64 x) := ((below_alloc (Below.refl _ w) (.cells #[(Value.string s)] 110)).cell (p := p) hlt).trans hc
  have hz2 : (w.alloc (.cells #[(Value.string s)] 110)).frozen? p = false := ((below_alloc (Below.refl _ w) (.cells #[(Value.string s)] 110)).frozen (p := p) hlt).trans hz
  rw [show ({ tmps := #[Value.pointer (some p)] ++ (Array.replicate 13 undef).setIfInBounds 4 (.iface 110 (.agg #[(Value.string s)])), defers := [] } : Act) = { tmps := #[Value.pointer (some p), undef, undef, undef, undef, (.iface 110 (.agg #[(Value.string s)])), undef, undef, undef, undef, undef, undef, undef, undef], defers := [] } from rfl]
  go_wp2
  rw [← HQ.out]
  exact ⟨rfl, _, rfl, .tuple #[], by simp [results, Tryz.results85], rfl, rfl, rfl⟩
theorem grown_setCell (w : World) (g j : Nat) (v : Value) : w.grownBy (w.setCell ⟨g, j, none⟩ v) (some g) := by
  have k := (Below.refl 0 w).setCell (p := ⟨g, j, none⟩) (Nat.zero_le _) v
  exact ⟨k.os, k.tape, k.output, k.size, fun i hi hne => Below.heap_setCell w ⟨g, j, none⟩ v i (by simpa using hne)⟩
theorem grown_trans {w w1 w2 : World} {row : Option Nat} (h : w.grownBy w1 row) (k : w1.grownBy w2 row) : w.grownBy w2 row :=
  ⟨k.os.trans h.os, k.tape.trans h.tape, k.output.trans h.output, Nat.le_trans h.size k.size, fun i hi hne => (k.block i (Nat.lt_of_lt_of_le hi h.size) hne).trans (h.block i hi hne)⟩
set_option maxRecDepth 100000 in
theorem tryK_calls (caps : Array Value) (w : World) (Pok Pbad : World → Prop)
    (hdo : Calls Tryz.prog 61 caps (w.alloc (.cells #[.int .i64 0] 27)) fun e w' => w'.heap[w.heap.size]? = some (.cells #[.int .i64 0] 27 (0, 0)) ∧
      ((e = .returned (.tuple #[]) ∧ Pok w') ∨ ((∃ s : Int, e = .panicked [{ v := .iface 108 (.agg #[(Value.int .i64 s)]), recovered := false }]) ∧ Pbad w'))) :
    Calls Tryz.prog 60 #[.func (.func 61) #[] caps] w fun e w' => (∃ w0, Pok w0 ∧ e = .returned (.int .i64 0) ∧ w0.grownBy w' (some w.heap.size)) ∨ (∃ w0, Pbad w0 ∧ e = .returned (.int .i64 7) ∧ w0.grownBy w' (some w.heap.size)) := by
  have hmf : ∀ (fn : Fn) (first cap : Array Value) (w : World), (Instr.makeFunc fn first cap).run Tryz.prog w = .ok (.func fn first cap) w := fun _ _ _ _ => rfl
  go_enter_defers Tryz.func60, Tryz.ntmps60
  go_wp2_with fail
  refine hdo.mono ?_
  rintro e w1 ⟨hk, (⟨rfl, hok⟩ | ⟨⟨s, rfl⟩, hbad⟩)⟩
  · have c0 := (blk_cell hk 0).trans rfl
    have f0 := blk_frozen hk 0
    have HK := Aside0.mk hk
    clear hk hdo
    go_wp2
    refine leaves_cons (f := 85) (args := #[.pointer (some ⟨w.heap.size, 0, none⟩)]) (by simp) (by simp [go_sem]) ?_
    refine (tryc_idle ⟨w.heap.size, 0, none⟩ _).mono ?_
    rintro e u' w'' ⟨rfl, rfl, rfl⟩
    have hb1 := blk_put HK.out 0 (.int .i64 0) (cs' := #[.int .i64 0]) (by simp)
    have e0 := (blk_cell hb1 0).trans rfl
    exact ⟨.int .i64 0, by simp [results, Tryz.results60, go_sem, e0], .inl ⟨w1, hok, rfl, grown_setCell w1 w.heap.size 0 _⟩⟩
  · have c0 : w1.cell? ⟨w.heap.size, 0, none⟩ = some (.int .i64 0) := (blk_cell hk 0).trans rfl
    have f0 := blk_frozen hk 0
    have HK := Aside0.mk hk
    clear hk hdo
    go_wp2
    refine leaves_cons (f := 85) (args := #[.pointer (some ⟨w.heap.size, 0, none⟩)]) (by simp) (by simp [go_sem]) ?_
    refine (tryc_against ⟨w.heap.size, 0, none⟩ 0 s [] _ c0 f0).mono ?_
    rintro e u' w'' ⟨rfl, rfl, rfl⟩
    have hb1 := blk_put (blk_alloc HK.out (.cells #[(Value.int .i64 s)] 108)) 0 (.int .i64 7) (cs' := #[.int .i64 7]) (by simp)
    have e0 := (blk_cell hb1 0).trans rfl
    have hg : w1.grownBy ((w1.alloc (.cells #[(Value.int .i64 s)] 108)).setCell ⟨w.heap.size, 0, none⟩ (.int .i64 7)) (some w.heap.size) := grown_trans (grown_of_below (below_alloc (Below.refl _ w1) _) _) (grown_setCell _ w.heap.size 0 _)
    simp [Leaves, settle, results, Tryz.results60, go_sem, e0]
    exact ⟨w1, hbad, hg⟩
end Go.Proofs.YtbjimmemcmjpcabGreatDoor.Print
end

import Derived.Test.YthlllcmffgdcmabPCodeChecksx0
import Derived.Defers
import Derived.Recover
import Derived.Laws.Pointers
namespace Go.Proofs.Ythlllcmffgdcmab.Src
open Go.RowKit Go.Proofs.YthlllcmffgdcmabW.PrintWords Go.Proofs.YthlllcmffgdcmabW.PrintLast Go.Proofs.YthlllcmffgdcmabW.PrintMore
set_option linter.unusedVariables false
set_option linter.unusedSimpArgs false

theorem tmps_idle (p q v : Value) : #[p, q] ++ (Array.replicate 20 undef).setIfInBounds 4 v = #[p, q, undef, undef, undef, undef, v, undef, undef, undef, undef, undef, undef, undef, undef, undef, undef, undef, undef, undef, undef, undef] := by kernel_rfl
theorem caught_idle (p q : Addr) (w : World) :
    CallsD Try.prog 76 #[.pointer (some p), .pointer (some q)] .returning w fun e u' w' => e = .returned (.tuple #[]) ∧ u' = .returning ∧ w' = w := by
  refine callsD_of_wpS Try.func76 rfl fun c₀ cs hu => ?_
  apply wpS_seq
  apply wpS_region
  simp [wpOpsS, go_sem, recoverD, hu, Try.ntmps76, Exit.thenS]
  refine wpS_of_wp ?_
  generalize hQ : (fun e a' w' => bodyPostS Try.prog Try.f76 c₀ cs (fun e u' w' => e = Ending.returned (Value.tuple #[]) ∧ u' = FrameMode.returning ∧ w' = w) e a' (c₀ :: cs) w') = Q
  have HQ := Aside0.mk hQ
  have HU := Aside0.mk hu
  clear hQ hu
  rw [tmps_idle]
  go_wp2
  rw [← HQ.out]
  have hu := HU.out
  cases c₀
  simp_all [bodyPostS, results, Try.results76]


theorem ta_dry (v : Value) (w : World) : (Instr.typeAssert (.iface 168 v) 20 168 true).run Try.prog w = .ok (.tuple #[v, .bool true]) w := by kernel_rfl
theorem ta_no (t : TypeId) (ht : t = 27 ∨ t = 9) (v : Value) (w : World) : (Instr.typeAssert (.iface t v) 20 168 true).run Try.prog w = .ok (.tuple #[.agg #[], .bool false]) w := by rcases ht with rfl | rfl <;> kernel_rfl
theorem ta_un (v : Value) (w : World) : (Instr.typeAssert (.iface 27 v) 20 27 true).run Try.prog w = .ok (.tuple #[v, .bool true]) w := by kernel_rfl

theorem some_alloc {w : World} {a : Addr} {v : Value} (h : w.cell? a = some v) (o : Obj) : (w.alloc o).cell? a = some v := pw_cell_below (below_alloc (Below.refl _ _) o) h
theorem frozen_below {w w' : World} (hb : Below w.heap.size w w') {a : Addr} (hlt : a.block < w.heap.size) : w'.frozen? a = w.frozen? a := hb.frozen hlt

set_option maxHeartbeats 1000000 in
set_option maxRecDepth 100000 in
theorem caught_dry (p q d : Addr) (x : Int) (older : List PanicEntry) (w : World) (hc : w.cell? p = some (.pointer (some d))) (hd : w.cell? d = some (.int .i64 x)) (hf : w.frozen? d = false) :
    CallsD Try.prog 76 #[.pointer (some p), .pointer (some q)] (.panicking ({ v := .iface 168 (.agg #[]), recovered := false } :: older)) w fun e u' w' =>
      e = .returned (.tuple #[]) ∧ u' = .panicking ({ v := .iface 168 (.agg #[]), recovered := true } :: older) ∧ w' = (w.alloc (.cells #[] 168)).setCell d (.int .i64 1) := by
  refine callsD_of_wpS Try.func76 rfl fun c₀ cs hu => ?_
  apply wpS_seq
  apply wpS_region
  simp [wpOpsS, go_sem, recoverD, hu, Try.ntmps76, Exit.thenS]
  refine wpS_of_wp ?_
  rw [tmps_idle]
  generalize hQ : (fun e a' w' => bodyPostS Try.prog Try.f76 _ cs _ e a' _ w') = Q
  have HQ := Aside0.mk hQ
  have t1 := ta_dry
  have hc' := some_alloc hc (.cells #[] 168)
  have hd' := some_alloc hd (.cells #[] 168)
  have hf' := (frozen_below (below_alloc (Below.refl w.heap.size w) (.cells #[] 168)) (World.block_lt_of_cell? w _ hd)).trans hf
  clear hQ hu hc hd hf
  go_wp2
  rw [← HQ.out]
  simp [bodyPostS, results, Try.results76]

theorem hmf : ∀ (fn : Fn) (first cap : Array Value) (w : World), (Instr.makeFunc fn first cap).run Try.prog w = .ok (.func fn first cap) w := fun _ _ _ _ => rfl

/-- The world in which the function runs that is guarded. -/
def inW (w : World) (p q : Addr) : World := (w.alloc (.cells #[.pointer (some p)] 137)).alloc (.cells #[.pointer (some q)] 138)

set_option maxHeartbeats 1000000 in
theorem caught_well (K : Nat) (caps : Array Value) (hK : ∀ W, (callFunc K caps).run Try.prog W = .ok (.enter K caps) W) (p q : Addr) (w : World) (Q : World → Prop)
    (hrun : Calls Try.prog K caps (inW w p q) fun e w' => e = .returned (.tuple #[]) ∧ Q w') :
    Calls Try.prog 56 #[.func (.func K) #[] caps, .pointer (some p), .pointer (some q)] w fun e w' => e = .returned (.tuple #[]) ∧ Q w' := by
  have HR := Aside0.mk hrun
  have h1 := hmf
  clear hrun
  go_enter_defers Try.func56, Try.ntmps56
  go_wp2
  refine HR.out.mono ?_
  rintro e w1 ⟨rfl, hq⟩
  have HQ := Aside0.mk hq
  clear hq
  go_wp2
  refine leaves_cons (f := 76) (args := #[.pointer (some ⟨w.heap.size, 0, none⟩), .pointer (some ⟨w.heap.size + 1, 0, none⟩)]) (by simp) (by simp [go_sem]) ?_
  refine (caught_idle _ _ _).mono ?_
  rintro e u' w'' ⟨rfl, rfl, rfl⟩
  simp [Leaves, settle, results, Try.results56, go_sem, HQ.out]

set_option maxHeartbeats 1000000 in
theorem caught_dry_calls (K : Nat) (caps : Array Value) (hK : ∀ W, (callFunc K caps).run Try.prog W = .ok (.enter K caps) W) (p q : Addr) (w : World) (Q : World → Prop)
    (hrun : Calls Try.prog K caps (inW w p q) fun e w' => e = .panicked [{ v := .iface 168 (.agg #[]), recovered := false }] ∧ Q w' ∧ w'.cell? ⟨w.heap.size, 0, none⟩ = some (.pointer (some p)) ∧ (∃ x, w'.cell? p = some (.int .i64 x)) ∧ w'.frozen? p = false) :
    Calls Try.prog 56 #[.func (.func K) #[] caps, .pointer (some p), .pointer (some q)] w fun e w' => e = .returned (.tuple #[]) ∧ ∃ w1, Q w1 ∧ w' = (w1.alloc (.cells #[] 168)).setCell p (.int .i64 1) := by
  have HR := Aside0.mk hrun
  have h1 := hmf
  clear hrun
  go_enter_defers Try.func56, Try.ntmps56
  go_wp2
  refine HR.out.mono ?_
  rintro e w1 ⟨rfl, hq, c1, ⟨x, c2⟩, f2⟩
  have HQ := Aside0.mk hq
  have H1 := Aside0.mk c1
  have H2 := Aside0.mk c2
  have H3 := Aside0.mk f2
  clear hq c1 c2 f2
  go_wp2
  refine leaves_cons (f := 76) (args := #[.pointer (some ⟨w.heap.size, 0, none⟩), .pointer (some ⟨w.heap.size + 1, 0, none⟩)]) (by simp) (by simp [go_sem]) ?_
  refine (caught_dry _ _ p x [] w1 H1.out H2.out H3.out).mono ?_
  rintro e u' w'' ⟨rfl, rfl, rfl⟩
  have hfin : ∃ w1', Q w1' ∧ (w1.alloc (.cells #[] 168)).setCell p (.int .i64 1) = (w1'.alloc (.cells #[] 168)).setCell p (.int .i64 1) := ⟨w1, HQ.out, rfl⟩
  have HF := Aside0.mk hfin
  clear hfin
  generalize (w1.alloc (.cells #[] 168)).setCell p (.int .i64 1) = w9 at HF ⊢
  simp [Leaves, settle, results, Try.results56, go_sem]
  exact HF.out
end Go.Proofs.Ythlllcmffgdcmab.Src

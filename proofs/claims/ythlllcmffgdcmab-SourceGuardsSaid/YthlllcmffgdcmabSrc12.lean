import Derived.Test.YthlllcmffgdcmabSrc1
import Derived.Orders
import Derived.WalkSmall
namespace Go.Proofs.Ythlllcmffgdcmab.Src
open Go.RowKit Go.Proofs.YthlllcmffgdcmabW.PrintWords Go.Proofs.YthlllcmffgdcmabW.PrintLast Go.Proofs.YthlllcmffgdcmabW.PrintMore
set_option linter.unusedVariables false
set_option linter.unusedSimpArgs false

theorem wpS_region_draw {P : Program} {id : Nat} {ops : Array Oper} {Q : Exit → Act → List Frame → World → Prop} {a : Act} {cs : List Frame} {w : World}
    (h : ∀ t, wpOpsS P ops Q (Region.schedule (P.follows .mixedOrders) ops t) a cs { w with drawn := w.drawn + 1 }) : (Code.region id ops true).wpS P Q a cs w :=
  fun b k hb hr => let ⟨e, a', cs', w', q, r⟩ := wp_opsS _ a cs _ (h _) b k hb hr; ⟨e, a', cs', w', q, .of_steps (.one step_region_draw) r⟩

/-- The operations of the one region of passes$1. -/
noncomputable def ops57 : Array Oper := match Try.f57.body with | some (.region _ ops _) => ops | _ => #[]
theorem go_step (ops : Array Oper) (fuel t : Nat) (listed : Array Bool) (acc r : List Nat) (h : Region.ready .any ops listed = r) :
    Region.linearise.go .any ops (fuel + 1) t listed acc = match r[t % r.length]? with
      | some i => Region.linearise.go .any ops fuel (t / r.length) (listed.setIfInBounds i true) (i :: acc)
      | none => acc.reverse := by
  subst h
  simp only [Region.linearise.go]
  rfl
theorem go_one {ops : Array Oper} {fuel t i : Nat} {listed l2 : Array Bool} {acc r : List Nat} (h : Region.ready .any ops listed = [i]) (hl : listed.setIfInBounds i true = l2) (k : Region.linearise.go .any ops fuel t l2 (i :: acc) = r) :
    Region.linearise.go .any ops (fuel + 1) t listed acc = r := by
  rw [go_step _ _ _ _ _ _ h]
  simpa [Nat.mod_one, hl] using k
theorem go_left {ops : Array Oper} {fuel t i j : Nat} {listed l2 : Array Bool} {acc r : List Nat} (h : Region.ready .any ops listed = [i, j]) (ht : t % 2 = 0) (hl : listed.setIfInBounds i true = l2) (k : Region.linearise.go .any ops fuel (t / 2) l2 (i :: acc) = r) :
    Region.linearise.go .any ops (fuel + 1) t listed acc = r := by
  rw [go_step _ _ _ _ _ _ h]
  simpa [ht, hl] using k
theorem go_right {ops : Array Oper} {fuel t i j : Nat} {listed l2 : Array Bool} {acc r : List Nat} (h : Region.ready .any ops listed = [i, j]) (ht : t % 2 = 1) (hl : listed.setIfInBounds j true = l2) (k : Region.linearise.go .any ops fuel (t / 2) l2 (j :: acc) = r) :
    Region.linearise.go .any ops (fuel + 1) t listed acc = r := by
  rw [go_step _ _ _ _ _ _ h]
  simpa [ht, hl] using k
theorem go_done {ops : Array Oper} {t : Nat} {listed : Array Bool} {acc : List Nat} : Region.linearise.go .any ops 0 t listed acc = acc.reverse := by simp [Region.linearise.go]
theorem sched57 (t : Nat) : Region.schedule true ops57 t = [0, 1, 2, 3, 4, 5] ∨ Region.schedule true ops57 t = [1, 0, 2, 3, 4, 5] ∨ Region.schedule true ops57 t = [1, 2, 0, 3, 4, 5] ∨ Region.schedule true ops57 t = [1, 2, 3, 0, 4, 5] := by
  have e : Region.schedule true ops57 t = Region.linearise.go .any ops57 6 t #[false, false, false, false, false, false] [] := by
    simp only [Region.schedule, Bool.true_or, if_true, Region.linearise]
    rfl
  rw [e]
  have r0 : Region.ready .any ops57 #[false, false, false, false, false, false] = [0, 1] := by kernel_rfl
  have r1 : Region.ready .any ops57 #[true, false, false, false, false, false] = [1] := by kernel_rfl
  have r2 : Region.ready .any ops57 #[true, true, false, false, false, false] = [2] := by kernel_rfl
  have r3 : Region.ready .any ops57 #[true, true, true, false, false, false] = [3] := by kernel_rfl
  have r4 : Region.ready .any ops57 #[true, true, true, true, false, false] = [4] := by kernel_rfl
  have r5 : Region.ready .any ops57 #[true, true, true, true, true, false] = [5] := by kernel_rfl
  have s1 : Region.ready .any ops57 #[false, true, false, false, false, false] = [0, 2] := by kernel_rfl
  have s2 : Region.ready .any ops57 #[false, true, true, false, false, false] = [0, 3] := by kernel_rfl
  have s3 : Region.ready .any ops57 #[false, true, true, true, false, false] = [0] := by kernel_rfl
  rcases Nat.mod_two_eq_zero_or_one t with h | h
  · exact .inl (go_left r0 h rfl (go_one r1 rfl (go_one r2 rfl (go_one r3 rfl (go_one r4 rfl (go_one r5 rfl go_done))))))
  · rcases Nat.mod_two_eq_zero_or_one (t / 2) with h2 | h2
    · exact .inr (.inl (go_right r0 h rfl (go_left s1 h2 rfl (go_one r2 rfl (go_one r3 rfl (go_one r4 rfl (go_one r5 rfl go_done)))))))
    · rcases Nat.mod_two_eq_zero_or_one (t / 2 / 2) with h3 | h3
      · exact .inr (.inr (.inl (go_right r0 h rfl (go_right s1 h2 rfl (go_left s2 h3 rfl (go_one r3 rfl (go_one r4 rfl (go_one r5 rfl go_done))))))))
      · exact .inr (.inr (.inr (go_right r0 h rfl (go_right s1 h2 rfl (go_right s2 h3 rfl (go_one s3 rfl (go_one r4 rfl (go_one r5 rfl go_done))))))))

theorem add9 (a b : ByteArray) (w : World) (h : a.size + b.size ≤ 9223372036854775807) : (binOp .add 9 (.string a) (.string b)).run Try.prog w = .ok (.string (a ++ b)) w := by
  simp [go_sem]
  omega
theorem eq20 (x : ByteArray) (w : World) : (binOp .eql 20 (.iface 9 (.string x)) (.iface 9 (.string x))).run Try.prog w = .ok (.bool true) w := by
  have h : (binOp .eql 20 (.iface 9 (.string x)) (.iface 9 (.string x))).run Try.prog w = .ok (.bool (x == x)) w := by kernel_rfl
  have h2 : (x == x) = true := by
    obtain ⟨d⟩ := x
    show (d.isEqv d fun a b => decide (a = b)) = true
    rw [Array.isEqv_iff_rel]
    exact ⟨rfl, fun i hi => by simp⟩
  rw [h, h2]
/-- What the panic of passes$2 bears. -/
def xs9 (s : ByteArray) : Value := .iface 9 (.string (({ data := #[120] } : ByteArray) ++ s))
set_option maxHeartbeats 1000000 in
theorem passes1 (p q : Addr) (s : ByteArray) (b : Bool) (older : List PanicEntry) (w : World) (hp : w.cell? p = some (.string s)) (hq : w.cell? q = some (.bool b)) (hf : w.frozen? q = false) (hs : s.size < 9223372036854775807) :
    CallsD Try.prog 57 #[.pointer (some p), .pointer (some q)] (.panicking ({ v := xs9 s, recovered := false } :: older)) w fun e u' w' =>
      e = .returned (.tuple #[]) ∧ u' = .panicking ({ v := xs9 s, recovered := true } :: older) ∧ w' = w.drew.setCell q (.bool true) := by
  refine callsD_of_wpS Try.func57 rfl fun c₀ cs hu => ?_
  apply wpS_region_draw
  intro t
  rw [show Try.prog.follows .mixedOrders = true from by kernel_rfl]
  change wpOpsS _ ops57 _ (Region.schedule true ops57 t) _ _ w.drew
  have hp' : w.drew.cell? p = some (.string s) := hp
  have hq' : w.drew.cell? q = some (.bool b) := hq
  have hf' : w.drew.frozen? q = false := hf
  have hz : ¬ 9223372036854775807 < 1 + s.size := by omega
  have hz2 : 1 + s.size ≤ 9223372036854775807 := by omega
  have hq20 := eq20
  unfold xs9 at hu ⊢
  rcases sched57 t with h | h | h | h <;> rw [h] <;> simp [ops57, Try.f57, wpOpsS, go_sem, recoverD, hu, Try.ntmps57, Exit.thenS, hp, hq, hf, hp', hq', hf', hz, hz2, eq20, bodyPostS, results]

theorem callFunc58 (caps : Array Value) (W : World) : (callFunc 58 caps).run Try.prog W = .ok (.enter 58 caps) W := by kernel_rfl
set_option maxHeartbeats 1000000 in
theorem passes2 (p : Addr) (s : ByteArray) (w : World) (hp : w.cell? p = some (.string s)) (hs : s.size < 9223372036854775807) :
    Calls Try.prog 58 #[.pointer (some p)] w fun e w' => e = .panicked [{ v := xs9 s, recovered := false }] ∧ w' = w := by
  have hz : ¬ 9223372036854775807 < 1 + s.size := by omega
  go_enter Try.func58, Try.ntmps58
  go_wp2
  exact ⟨rfl, rfl, rfl⟩

theorem ta_no9 (v : Value) (w : World) : (Instr.typeAssert (.iface 9 v) 20 27 true).run Try.prog w = .ok (.tuple #[.agg zU, .bool false]) w := by kernel_rfl
set_option maxHeartbeats 1000000 in
theorem caught_other (p q : Addr) (x : Value) (older : List PanicEntry) (w : World) :
    CallsD Try.prog 76 #[.pointer (some p), .pointer (some q)] (.panicking ({ v := .iface 9 x, recovered := false } :: older)) w fun e u' w' =>
      e = .panicked [{ v := .iface 9 x, recovered := false }] ∧ u' = .panicking ({ v := .iface 9 x, recovered := true } :: older) ∧ w' = w := by
  refine callsD_of_wpS Try.func76 rfl fun c₀ cs hu => ?_
  apply wpS_seq
  apply wpS_region
  simp [wpOpsS, go_sem, recoverD, hu, Try.ntmps76, Exit.thenS]
  refine wpS_of_wp ?_
  rw [tmps_idle]
  generalize hQ : (fun e a' w' => bodyPostS Try.prog Try.f76 _ cs _ e a' _ w') = Q
  have HQ := Aside0.mk hQ
  have t1 := ta_no 9 (.inr rfl)
  have t2 := ta_no9
  clear hQ hu
  go_wp2
  rw [← HQ.out]
  simp [bodyPostS]

set_option maxHeartbeats 1000000 in
theorem caught_other_calls (K : Nat) (caps : Array Value) (hK : ∀ W, (callFunc K caps).run Try.prog W = .ok (.enter K caps) W) (p q : Addr) (x : Value) (w : World) (Q : World → Prop)
    (hrun : Calls Try.prog K caps (inW w p q) fun e w' => e = .panicked [{ v := .iface 9 x, recovered := false }] ∧ Q w') :
    Calls Try.prog 56 #[.func (.func K) #[] caps, .pointer (some p), .pointer (some q)] w fun e w' => e = .panicked [{ v := .iface 9 x, recovered := false }, { v := .iface 9 x, recovered := true }] ∧ Q w' := by
  have HR := Aside0.mk hrun
  have h1 := hmf
  clear hrun
  go_enter_defers Try.func56, Try.ntmps56
  go_wp2
  refine HR.out.mono ?_
  rintro e w1 ⟨rfl, hq⟩
  have HQ := Aside0.mk hq
  clear hq
  go_wp2
  refine leaves_cons (f := 76) (args := #[.pointer (some ⟨w.heap.size, 0, none⟩), .pointer (some ⟨w.heap.size + 1, 0, none⟩)]) (by simp) (by simp [go_sem]) ?_
  refine (caught_other _ _ x [] w1).mono ?_
  rintro e u' w'' ⟨rfl, rfl, rfl⟩
  simp [Leaves, raised, go_sem]
  exact HQ.out

set_option maxHeartbeats 1000000 in
set_option maxRecDepth 100000 in
theorem guard_other (K : Nat) (caps : Array Value) (hK : ∀ W, (callFunc K caps).run Try.prog W = .ok (.enter K caps) W) (x : Value) (w : World) (R : World → Prop)
    (hrun : ∀ W, Below w.heap.size w W → Calls Try.prog K caps W fun e w' => e = .panicked [{ v := .iface 9 x, recovered := false }] ∧ R w') :
    Calls Try.prog 16 #[.func (.func K) #[] caps] w fun e w' => e = .panicked [{ v := .iface 9 x, recovered := false }, { v := .iface 9 x, recovered := true }] ∧ R w' := by
  have HR := Aside0.mk (caught_other_calls K caps hK ⟨w.heap.size + 1, 0, none⟩ ⟨w.heap.size + 1 + 1, 0, none⟩ x _ R (hrun _ ((gW_below w).trans ((inW_below (gW w) ⟨w.heap.size + 1, 0, none⟩ ⟨w.heap.size + 1 + 1, 0, none⟩).mono (gW_below w).size))))
  clear hrun
  go_enter Try.func16, Try.ntmps16
  go_wp2_with (go_at_call 56; refine HR.out.mono ?_; rintro e w1 ⟨rfl, hR⟩; have H1 := Aside0.mk hR; clear hR)
  exact ⟨rfl, rfl, H1.out⟩
end Go.Proofs.Ythlllcmffgdcmab.Src

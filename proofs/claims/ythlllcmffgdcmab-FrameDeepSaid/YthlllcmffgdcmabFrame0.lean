import Derived.Test.YthlllcmffgdcmabSrc0
import Derived.Maps.Own
import Derived.Maps.Views
import Derived.Carry
import Derived.StillTailTactics
import Derived.Deep.RegionHeld3
namespace Go.Proofs.Ythlllcmffgdcmab.Frame
open Go.RowKit Go.Proofs.YthlllcmffgdcmabW.PrintWords Go.Proofs.YthlllcmffgdcmabW.PrintLast Go.Proofs.YthlllcmffgdcmabW.PrintMore
set_option linter.unusedVariables false
set_option linter.unusedSimpArgs false

/-- How a function value without captures reads. -/
def fnElem : Value → Option (DataW Unit × List MemPlace)
  | .func (.func n) a b => if a.size = 0 ∧ b.size = 0 then some (.lit (.int .i64 n), []) else none
  | _ => none
theorem fnElem_mk (n : Nat) : fnElem (.func (.func n) #[] #[]) = some (.lit (.int .i64 n), []) := rfl
theorem fnElem_inv {v : Value} {n : Int} {ps : List MemPlace} (h : fnElem v = some (.lit (.int .i64 n), ps)) : ∃ k : Nat, n = k ∧ v = .func (.func k) #[] #[] := by
  unfold fnElem at h
  split at h
  · rename_i f a b
    split at h
    · rename_i hc
      simp at h
      obtain ⟨h1, _⟩ := h
      exact ⟨_, h1.symm, by rw [Array.eq_empty_of_size_eq_zero hc.1, Array.eq_empty_of_size_eq_zero hc.2]⟩
    · cases h
  · cases h

theorem wf9 (k : Int) (h0 : 0 ≤ k) (h1 : k ≤ 30) : (Lit.int .i64 k).wf = true := by
  have e1 : IntKind.i64.min = -9223372036854775808 := by decide
  have e2 : IntKind.i64.max = 9223372036854775807 := by decide
  simp only [Lit.wf, e1, e2, Bool.and_eq_true, decide_eq_true_eq]
  omega

section
variable {ops : Array Oper} {rest : List Oper} {o : Oper} {a : Act} {Q : Exit → Act → World → Prop}
/-- A literal map's next entry. -/
theorem ins_step (w w0 : World) (hg : o.guard = none) (m x v : Operand) (hop : o.op = Op.insert 154 m x v) (b n : Nat) (D : DataW Unit) (hm : a.eval m = .map (some b)) (h : w.ownsMap Try.prog 74 fnElem b n D) (hn : n < 1000) (hB : Below w0.heap.size w0 w) (hb : w0.heap.size ≤ b)
    (k : Int) (f : Nat) (hx : a.eval x = .int .i64 k) (hv : a.eval v = .func (.func f) #[] #[]) (h0 : 0 ≤ k) (h1 : k ≤ 30)
    (hK : ∀ w', w'.ownsMap Try.prog 74 fnElem b (n + 1) (D.put (.int .i64 k) (.lit (.int .i64 f))) → Below w0.heap.size w0 w' → wpList Try.prog ops Q rest (a.put o.dst undef) w') : wpList Try.prog ops Q (o :: rest) a w := by
  refine wpList_plain hg fun K' hK' => ?_
  obtain ⟨w', hrun, r1, r2⟩ := h.update (Go.Maps.int_keyed Try.underlying74) Try.underlying154 (by simp only [maxLen]; omega) (Go.Maps.keyOf_int_mk Try.underlying74 (wf9 k h0 h1)) (fnElem_mk f)
  unfold Oper.wp
  simp [execOp, hop, hm, hx, hv, hrun, Result.andThen]
  exact hK' _ _ (hK w' r1 (hB.grown r2 hB.size (fun k' hk' => by cases hk'; exact hb)))
end

/-- The table. -/
def tab : DataW Unit := .map [(.int .i64 0, .lit (.int .i64 77)), (.int .i64 1, .lit (.int .i64 78)), (.int .i64 2, .lit (.int .i64 79)), (.int .i64 3, .lit (.int .i64 80)), (.int .i64 4, .lit (.int .i64 81)), (.int .i64 5, .lit (.int .i64 82)), (.int .i64 6, .lit (.int .i64 83)), (.int .i64 7, .lit (.int .i64 84)), (.int .i64 8, .lit (.int .i64 85))]
def puts : Nat → DataW Unit
  | 0 => .map []
  | n + 1 => (puts n).put (.int .i64 n) (.lit (.int .i64 (77 + n)))
theorem puts_tab : puts 9 = tab := by kernel_rfl

set_option maxHeartbeats 1000000 in
set_option maxRecDepth 100000 in
theorem table_calls (w : World) : Calls Try.prog 67 #[] w fun e w' => e = .returned (.map (some w.heap.size)) ∧ w'.ownsMap Try.prog 74 fnElem w.heap.size 9 tab ∧ Below w.heap.size w w' := by
  have hmm := @run_makeMap Try.prog
  have HM := Aside0.mk (World.ownsMap_made w Try.prog 74 fnElem)
  have HB := Aside0.mk (below_alloc (Below.refl w.heap.size w) (.map #[] 0))
  go_enter Try.func67, Try.ntmps67
  go_wp2_with (first
    | (refine ins_step _ w rfl _ _ _ rfl w.heap.size 0 (puts 0) rfl HM.out (by omega) HB.out (Nat.le_refl _) 0 77 rfl rfl (by omega) (by omega) ?_; intro w1 hm hb; clear HM HB; have HM := Aside0.mk hm; have HB := Aside0.mk hb; clear hm hb)
    | (refine ins_step _ w rfl _ _ _ rfl w.heap.size 1 (puts 1) rfl HM.out (by omega) HB.out (Nat.le_refl _) 1 78 rfl rfl (by omega) (by omega) ?_; intro w2 hm hb; clear HM HB; have HM := Aside0.mk hm; have HB := Aside0.mk hb; clear hm hb)
    | (refine ins_step _ w rfl _ _ _ rfl w.heap.size 2 (puts 2) rfl HM.out (by omega) HB.out (Nat.le_refl _) 2 79 rfl rfl (by omega) (by omega) ?_; intro w3 hm hb; clear HM HB; have HM := Aside0.mk hm; have HB := Aside0.mk hb; clear hm hb)
    | (refine ins_step _ w rfl _ _ _ rfl w.heap.size 3 (puts 3) rfl HM.out (by omega) HB.out (Nat.le_refl _) 3 80 rfl rfl (by omega) (by omega) ?_; intro w4 hm hb; clear HM HB; have HM := Aside0.mk hm; have HB := Aside0.mk hb; clear hm hb)
    | (refine ins_step _ w rfl _ _ _ rfl w.heap.size 4 (puts 4) rfl HM.out (by omega) HB.out (Nat.le_refl _) 4 81 rfl rfl (by omega) (by omega) ?_; intro w5 hm hb; clear HM HB; have HM := Aside0.mk hm; have HB := Aside0.mk hb; clear hm hb)
    | (refine ins_step _ w rfl _ _ _ rfl w.heap.size 5 (puts 5) rfl HM.out (by omega) HB.out (Nat.le_refl _) 5 82 rfl rfl (by omega) (by omega) ?_; intro w6 hm hb; clear HM HB; have HM := Aside0.mk hm; have HB := Aside0.mk hb; clear hm hb)
    | (refine ins_step _ w rfl _ _ _ rfl w.heap.size 6 (puts 6) rfl HM.out (by omega) HB.out (Nat.le_refl _) 6 83 rfl rfl (by omega) (by omega) ?_; intro w7 hm hb; clear HM HB; have HM := Aside0.mk hm; have HB := Aside0.mk hb; clear hm hb)
    | (refine ins_step _ w rfl _ _ _ rfl w.heap.size 7 (puts 7) rfl HM.out (by omega) HB.out (Nat.le_refl _) 7 84 rfl rfl (by omega) (by omega) ?_; intro w8 hm hb; clear HM HB; have HM := Aside0.mk hm; have HB := Aside0.mk hb; clear hm hb)
    | (refine ins_step _ w rfl _ _ _ rfl w.heap.size 8 (puts 8) rfl HM.out (by omega) HB.out (Nat.le_refl _) 8 85 rfl rfl (by omega) (by omega) ?_; intro w9 hm hb; clear HM HB; have HM := Aside0.mk hm; have HB := Aside0.mk hb; clear hm hb))
  go_ret
  exact ⟨rfl, puts_tab ▸ HM.out, HB.out⟩

theorem look_tab {w : World} {b n : Nat} (h : w.ownsMap Try.prog 74 fnElem b n tab) (k : Int) (f : Nat) (h0 : 0 ≤ k) (h1 : k ≤ 30) (hh : tab.atKey (.int .i64 k) (.lit .nil) = .lit (.int .i64 f)) :
    (Instr.lookup 154 (.map (some b)) (.int .i64 k) true).run Try.prog w = .ok (.tuple #[.func (.func f) #[] #[], .bool true]) w := by
  obtain ⟨es, clock, hb, F, _, hD⟩ := h
  have hz : (zeroValue 152).run Try.prog w = .ok .nilFunc w := by kernel_rfl
  rcases Go.Maps.fit_look true (Go.Maps.int_keyed Try.underlying74) Try.underlying154 hz hb F (Go.Maps.keyOf_int_mk Try.underlying74 (wf9 k h0 h1)) with ⟨hrun, _, hat⟩ | ⟨e0, y, _, _, hrun, hR, hat, _⟩
  · have := hat (.lit .nil)
    rw [← hD, hh] at this
    cases this
  · have := hat (.lit .nil)
    rw [← hD, hh] at this
    obtain ⟨y1, y2⟩ := y
    simp only at this
    subst this
    obtain ⟨k', e, hv⟩ := fnElem_inv hR
    rw [hrun, hv]
    have : k' = f := by omega
    subst this
    rfl
theorem look_no {w : World} {b n : Nat} (h : w.ownsMap Try.prog 74 fnElem b n tab) (k : Int) (h0 : 0 ≤ k) (h1 : k ≤ 30) (hh : Go.Maps.has tab (.int .i64 k) = false) :
    (Instr.lookup 154 (.map (some b)) (.int .i64 k) true).run Try.prog w = .ok (.tuple #[.nilFunc, .bool false]) w := by
  obtain ⟨es, clock, hb, F, _, hD⟩ := h
  have hz : (zeroValue 152).run Try.prog w = .ok .nilFunc w := by kernel_rfl
  rcases Go.Maps.fit_look true (Go.Maps.int_keyed Try.underlying74) Try.underlying154 hz hb F (Go.Maps.keyOf_int_mk Try.underlying74 (wf9 k h0 h1)) with ⟨hrun, _, hat⟩ | ⟨e0, y, _, _, hrun, hR, hat, _⟩
  · exact hrun
  · have h5 := hat (.lit .nil)
    rw [← hD, Go.Maps.atKey_of_not_has hh] at h5
    obtain ⟨y1, y2⟩ := y
    simp only at h5
    subst h5
    unfold fnElem at hR
    split at hR
    · split at hR
      · simp at hR
      · cases hR
    · cases hR

end Go.Proofs.Ythlllcmffgdcmab.Frame

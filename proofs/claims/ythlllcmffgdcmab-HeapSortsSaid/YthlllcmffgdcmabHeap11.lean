import Derived.Test.YthlllcmffgdcmabHeap10
import Derived.Maps.OwnOps
import Derived.Maps.OwnSet
import Derived.Maps.Views
import Derived.Deep.DeepCutAuto
import Derived.Deep.CutBlock
namespace Go.Proofs.Ythlllcmffgdcmab.Heap
open Go.RowKit Go.Proofs.YthlllcmffgdcmabW.PrintWords Go.Proofs.YthlllcmffgdcmabW.PrintLast Go.Proofs.YthlllcmffgdcmabW.PrintMore Go.Proofs.Ythlllcmffgdcmab.HeapPlain
attribute [local go_sem] max2_int min2_int max_two min_two
set_option linter.unusedVariables false
set_option linter.unusedSimpArgs false

/-- The first one, cancelled. -/
theorem cancel_first (B p : Nat) (v : Value) (l : List It) (sq s : Int) (w : World) (h : IsHeap B w p v l sq) (hl : l.length ≤ 1000) (h0 : 0 < l.length) (hs : (g l 0).s = s) : Calls Try.prog 41 #[.pointer (some ⟨p, 0, none⟩), .int .u64 s] w fun e w' =>
    e = .returned (.bool true) ∧ ∃ v', IsHeap B w' p v' (rm l 0) sq ∧ Step B p v v' w w' :=
  (cancel_calls B p v l sq s w h hl (fun b w' => b = true ∧ ∃ v', IsHeap B w' p v' (rm l 0) sq ∧ Step B p v v' w w')
    (fun i w' hi he hne v' hR hS => by
      rcases Nat.eq_zero_or_pos i with e | e
      · subst e; exact ⟨rfl, v', hR, hS⟩
      · exact absurd hs (hne 0 e))
    (fun w' hne _ _ => absurd hs (hne 0 h0))).mono fun e w' ⟨b, h1, h2, h3⟩ => ⟨by rw [h1, h2], h3⟩

/-- A set of numbers that were counted. -/
structure Cnt (w : World) (b n : Nat) (D : DataW Unit) : Prop where
  own : w.ownsMap Try.prog 3 (plainElem Try.prog 3) b n D
  tidy : Go.Maps.Tidy D
  size : Go.Maps.size D = n
theorem Cnt.made (w : World) : Cnt (w.alloc (.map #[] 0)) w.heap.size 0 (.map []) := ⟨World.ownsMap_made w _ _ _, Go.Maps.tidy_empty, rfl⟩
theorem Cnt.below {w w' : World} {b n : Nat} {D : DataW Unit} (h : Cnt w b n D) (hb : Below w.heap.size w w') : Cnt w' b n D := ⟨h.own.kept (grown_of_below hb none) (by simp), h.tidy, h.size⟩
theorem Cnt.kept {w w' : World} {b n : Nat} {D : DataW Unit} {S : Nat → Prop} (h : Cnt w b n D) (hk : Kept w w' S) (hb : ¬ S b) : Cnt w' b n D := by
  obtain ⟨⟨es, cl, hh, F, hn, hD⟩, h2, h3⟩ := h
  exact ⟨⟨es, cl, blk_kept hh hk hb, F, hn, hD⟩, h2, h3⟩
theorem lit100 (k : Int) (h0 : 0 ≤ k) (h1 : k ≤ 1000) : (Lit.int .i64 k).wf = true := by
  have e1 : IntKind.i64.min = -9223372036854775808 := by decide
  have e2 : IntKind.i64.max = 9223372036854775807 := by decide
  simp only [Lit.wf, e1, e2, Bool.and_eq_true, decide_eq_true_eq]
  omega
set_option maxRecDepth 100000 in
theorem Cnt.new {w : World} {b n : Nat} {D : DataW Unit} (h : Cnt w b n D) (k : Int) (h0 : 0 ≤ k) (h1 : k ≤ 1000) (hh : Go.Maps.has D (.int .i64 k) = false) : (Instr.lookup 90 (.map (some b)) (.int .i64 k) false).run Try.prog w = .ok (.int .i64 0) w := by
  obtain ⟨x, hr, hx, _⟩ := h.own.lookup_int (Go.Maps.int_keyed Try.underlying3) Try.underlying90 Try.underlying3 (by kernel_rfl) (Go.Maps.keyOf_int_mk Try.underlying3 (lit100 k h0 h1))
  rw [hr]
  have := (Go.Maps.atKey_of_not_has hh (.lit (.int .i64 0))).symm.trans hx
  injection this with this
  injection this with _ this
  rw [← this]
theorem Cnt.has_put {D : DataW Unit} {k j : Int} (hne : j ≠ k) (d : DataW Unit) : Go.Maps.has (D.put (.int .i64 k) d) (.int .i64 j) = Go.Maps.has D (.int .i64 j) :=
  Go.Maps.has_put_other (by intro he; injection he with _ he; exact hne he) d

section
variable {ops : Array Oper} {rest : List Oper} {o : Oper} {a : Act} {Q : Exit → Act → World → Prop}
theorem cnt_update (w : World) (hg : o.guard = none) (m x v : Operand) (hop : o.op = Op.mapUpdate 90 m x v) (b n : Nat) (D : DataW Unit) (hm : a.eval m = .map (some b)) (h : Cnt w b n D) (hn : n < 1000) (k : Int) (hx : a.eval x = .int .i64 k) (hv : a.eval v = .int .i64 1)
    (h0 : 0 ≤ k) (h1 : k ≤ 1000) (hh : Go.Maps.has D (.int .i64 k) = false)
    (hK : ∀ w', Cnt w' b (n + 1) (D.put (.int .i64 k) (.lit (.int .i64 1))) → w.grownBy w' (some b) → wpList Try.prog ops Q rest (a.put o.dst undef) w') : wpList Try.prog ops Q (o :: rest) a w := by
  refine wpList_mapUpdate_own w hg m x v 90 hop 3 3 (Go.Maps.int_keyed Try.underlying3) Try.underlying90 _ b n D hm h.own (by simp only [maxLen]; omega) _ _ (.int .i64 k) hx hv (Go.Maps.keyOf_int_mk Try.underlying3 (lit100 k h0 h1)) _ [] (plainElem_int Try.underlying3 (lit100 1 (by omega) (by omega)))
    fun w' h5 h6 => hK w' ⟨h5, h.tidy.put (show Go.WideAt.IsKeyLit (.int .i64 k) from trivial) _, ?_⟩ h6
  rw [Go.Maps.size_put h.tidy, hh, h.size]
  rfl
end
end Go.Proofs.Ythlllcmffgdcmab.Heap

import Derived.Test.YthlllcmffgdcmabHeap15
import Derived.Test.YthlllcmffgdcmabOpen
import Derived.Test.YthlllcmffgdcmabOpenInts
namespace Go.Proofs.Ythlllcmffgdcmab.Heap
open Go.RowKit Go.Proofs.YthlllcmffgdcmabW.PrintWords
set_option linter.unusedVariables false
set_option linter.unusedSimpArgs false

/-- A row of calls. -/
theorem acts_list (A : Option Addr) (len cap : Nat) (w : World) (F : Nat → Nat → Int) (hl : len ≤ cap) (hn : A = none → len = 0 ∧ cap = 0)
    (hF : ∀ a, A = some a → ∀ i, i < cap → ∀ (j : Nat) k, [IntKind.i64, IntKind.i64, IntKind.u64][j]? = some k → w.cell? (a.add (i * 3 + j)) = some (.int k (F i j)) ∧ (Lit.int k (F i j)).wf = true) :
    ∃ qs : List (Int × Int × Int), qs.length = len ∧ Acts w A qs.length qs := by
  refine ⟨(List.range len).map fun i => (F i 0, F i 1, F i 2), by simp, ⟨rfl, fun i hi => ?_⟩⟩
  simp only [List.length_map, List.length_range] at hi
  cases A with
  | none => have := (hn rfl).1; omega
  | some a =>
    have h0 := (hF a rfl i (by omega) 0 .i64 rfl).1
    have h1 := (hF a rfl i (by omega) 1 .i64 rfl).1
    have h2 := (hF a rfl i (by omega) 2 .u64 rfl).1
    refine ⟨a, rfl, ?_, ?_, ?_⟩
    · simpa [List.getD_eq_getElem?_getD, List.getElem?_map, List.getElem?_range hi] using h0
    · simpa [List.getD_eq_getElem?_getD, List.getElem?_map, List.getElem?_range hi] using h1
    · simpa [List.getD_eq_getElem?_getD, List.getElem?_map, List.getElem?_range hi] using h2
end Go.Proofs.Ythlllcmffgdcmab.Heap

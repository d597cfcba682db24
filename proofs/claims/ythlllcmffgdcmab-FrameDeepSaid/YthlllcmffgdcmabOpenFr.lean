import Derived.Test.YthlllcmffgdcmabFrame6
import Derived.Test.YthlllcmffgdcmabOpen
import Derived.Test.YthlllcmffgdcmabOpenInts
namespace Go.Proofs.Ythlllcmffgdcmab.Frame
open Go.RowKit Go.Proofs.YthlllcmffgdcmabW.PrintWords

/-- A row of numbers with a sign: what it reads. -/
theorem i64_list (A : Option Addr) (len cap : Nat) (w : World) (B : Nat → Int) (hl : len ≤ cap) (hm : cap ≤ maxLen) (hn : A = none → len = 0 ∧ cap = 0)
    (hB : ∀ a, A = some a → ∀ i, i < cap → w.cell? (a.add i) = some (.int .i64 (B i)) ∧ (Lit.int .i64 (B i)).wf = true) :
    ∃ xs : List Int, xs.length = len ∧ ReadsInt w .i64 A xs.length xs := by
  refine ⟨(List.range len).map B, by simp, ⟨rfl, by simp; unfold maxLen at hm; omega, fun h0 => ?_⟩⟩
  simp only [List.length_map, List.length_range] at h0 ⊢
  cases A with
  | none => have := (hn rfl).1; omega
  | some a =>
    refine ⟨a, rfl, fun j hj => ?_⟩
    rw [(hB a rfl j (by omega)).1]
    simp [List.getD_eq_getElem?_getD, List.getElem?_map, List.getElem?_range hj]
end Go.Proofs.Ythlllcmffgdcmab.Frame

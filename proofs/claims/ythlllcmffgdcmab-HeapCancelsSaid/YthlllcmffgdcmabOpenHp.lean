import Derived.Test.YthlllcmffgdcmabSrc0
import Derived.Test.YthlllcmffgdcmabOpen
import Derived.Test.YthlllcmffgdcmabOpenInts
namespace Go.Proofs.Ythlllcmffgdcmab.OpenHp
open Go.RowKit Go.Proofs.YthlllcmffgdcmabW.PrintWords

/-- A row of numbers without a sign: what it reads, each in its range. -/
theorem u64_list (A : Option Addr) (len cap : Nat) (w : World) (B : Nat → Int) (hl : len ≤ cap) (hm : cap ≤ maxLen) (hn : A = none → len = 0 ∧ cap = 0)
    (hB : ∀ a, A = some a → ∀ i, i < cap → w.cell? (a.add i) = some (.int .u64 (B i)) ∧ (Lit.int .u64 (B i)).wf = true) :
    ∃ xs : List Int, xs.length = len ∧ ReadsInt w .u64 A xs.length xs ∧ ∀ x ∈ xs, 0 ≤ x ∧ x < 18446744073709551616 := by
  have e1 : IntKind.u64.min = 0 := by decide
  have e2 : IntKind.u64.max = 18446744073709551615 := by decide
  refine ⟨(List.range len).map B, by simp, ⟨rfl, by simp; unfold maxLen at hm; omega, fun h0 => ?_⟩, ?_⟩
  · simp only [List.length_map, List.length_range] at h0 ⊢
    cases A with
    | none => have := (hn rfl).1; omega
    | some a =>
      refine ⟨a, rfl, fun j hj => ?_⟩
      rw [(hB a rfl j (by omega)).1]
      simp [List.getD_eq_getElem?_getD, List.getElem?_map, List.getElem?_range hj]
  · intro x hx
    simp only [List.mem_map, List.mem_range] at hx
    obtain ⟨i, hi, rfl⟩ := hx
    cases A with
    | none => have := (hn rfl).1; omega
    | some a =>
      have := (hB a rfl i (by omega)).2
      simp only [Lit.wf, e1, e2, Bool.and_eq_true, decide_eq_true_eq] at this
      omega
end Go.Proofs.Ythlllcmffgdcmab.OpenHp

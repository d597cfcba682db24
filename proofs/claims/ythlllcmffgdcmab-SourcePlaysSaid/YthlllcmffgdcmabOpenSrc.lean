import Derived.Test.YthlllcmffgdcmabSrc8
import Derived.Test.YthlllcmffgdcmabOpen
import Derived.Test.YthlllcmffgdcmabOpenInts
import Derived.Test.YthlllcmffgdcmabWSized
namespace Go.Proofs.Ythlllcmffgdcmab.Src
open Go.RowKit Go.Proofs.YthlllcmffgdcmabW.PrintWords

/-- A row of numbers without a sign: what it reads, each in its range. -/
theorem u64_list (A : Option Addr) (len cap : Nat) (w : World) (B : Nat → Int) (hl : len ≤ cap) (hm : cap ≤ maxLen) (hn : A = none → len = 0 ∧ cap = 0)
    (hB : ∀ a, A = some a → ∀ i, i < cap → w.cell? (a.add i) = some (.int .u64 (B i)) ∧ (Lit.int .u64 (B i)).wf = true) :
    ∃ xs : List Int, xs.length = len ∧ ReadsInt w .u64 A xs.length xs ∧ ∀ x ∈ xs, 0 ≤ x ∧ x < 18446744073709551616 := by
  have e1 : IntKind.u64.min = 0 := by decide
  have e2 : IntKind.u64.max = 18446744073709551615 := by decide
  refine ⟨(List.range len).map B, by simp, ⟨rfl, by simp; unfold maxLen at hm; omega, fun h0 => ?_⟩, ?_⟩
  · simp only [List.length_map, List.length_range] at h0 ⊢
    cases A with
    | none => have := (hn rfl).1; omega
    | some a =>
      refine ⟨a, rfl, fun j hj => ?_⟩
      rw [(hB a rfl j (by omega)).1]
      simp [List.getD_eq_getElem?_getD, List.getElem?_map, List.getElem?_range hj]
  · intro x hx
    simp only [List.mem_map, List.mem_range] at hx
    obtain ⟨i, hi, rfl⟩ := hx
    cases A with
    | none => have := (hn rfl).1; omega
    | some a =>
      have := (hB a rfl i (by omega)).2
      simp only [Lit.wf, e1, e2, Bool.and_eq_true, decide_eq_true_eq] at this
      omega

/-- A row of asks. -/
theorem asks_list (A : Option Addr) (len cap : Nat) (w : World) (F : Nat → Nat → Int) (hl : len ≤ cap) (hn : A = none → len = 0 ∧ cap = 0)
    (hF : ∀ a, A = some a → ∀ i, i < cap → ∀ (j : Nat) k, [IntKind.i64, IntKind.i64][j]? = some k → w.cell? (a.add (i * 2 + j)) = some (.int k (F i j)) ∧ (Lit.int k (F i j)).wf = true) :
    ∃ qs : List (Int × Int), qs.length = len ∧ Asks w A qs.length qs := by
  refine ⟨(List.range len).map fun i => (F i 0, F i 1), by simp, ⟨rfl, fun i hi => ?_⟩⟩
  simp only [List.length_map, List.length_range] at hi
  cases A with
  | none => have := (hn rfl).1; omega
  | some a =>
    have h0 := (hF a rfl i (by omega) 0 .i64 rfl).1
    have h1 := (hF a rfl i (by omega) 1 .i64 rfl).1
    refine ⟨a, rfl, ?_, ?_⟩
    · simpa [List.getD_eq_getElem?_getD, List.getElem?_map, List.getElem?_range hi] using h0
    · simpa [List.getD_eq_getElem?_getD, List.getElem?_map, List.getElem?_range hi] using h1
end Go.Proofs.Ythlllcmffgdcmab.Src

/- Arguments opened: a row of decisions. -/
import Derived.Test.YthlllcmffgdcmabSrc19
import Derived.Test.YthlllcmffgdcmabOpen
import Derived.Test.YthlllcmffgdcmabOpenInts
namespace Go.Proofs.Ythlllcmffgdcmab.OpenRecs
open Go.ChangeShapes Go.WideShapes Go.Deep Go.RowKit Go.Proofs.YthlllcmffgdcmabW.PrintWords
open Go.Proofs.Ythlllcmffgdcmab.PSourceChains (S57 k57 k57_mk)
set_option linter.unusedVariables false
set_option linter.unusedSimpArgs false
/-- A row of decisions, of its cells. -/
theorem recs_list (A : Option Addr) (len cap : Nat) (w : World) (F : Nat → Nat → Int) (hl : len ≤ cap) (hm : cap ≤ maxLen) (hn : A = none → len = 0 ∧ cap = 0)
    (hF : ∀ a, A = some a → ∀ i, i < cap → ∀ (j : Nat) k, [IntKind.i64, IntKind.u64][j]? = some k → w.cell? (a.add (i * 2 + j)) = some (.int k (F i j)) ∧ (Lit.int k (F i j)).wf = true) :
    ∃ l : List S57, l.length = len ∧ Kd.C k57 w A l.length l := by
  refine ⟨(List.range len).map fun i => ⟨F i 0, F i 1⟩, by simp, rfl, by simp; unfold maxLen at hm; omega, fun h0 => ?_⟩
  simp only [List.length_map, List.length_range] at h0
  cases A with
  | none => have := (hn rfl).1; omega
  | some a =>
    refine ⟨a, rfl, fun j p hj => ?_⟩
    have hjl : j < len := by
      rcases Nat.lt_or_ge j len with h | h
      · exact h
      · rw [List.getElem?_eq_none (by simp; exact h)] at hj; cases hj
    have ep : p = ⟨F j 0, F j 1⟩ := by
      rw [List.getElem?_map, List.getElem?_range hjl] at hj
      injection hj with hj
      exact hj.symm
    subst ep
    refine ⟨_, rfl, k57_mk w _, fun i u hu => ?_⟩
    have hsz : k57.sz = 2 := rfl
    rw [hsz]
    match i, hu with
    | 0, hu => injection hu with hu; subst hu; exact (hF a rfl j (by omega) 0 .i64 rfl).1
    | 1, hu => injection hu with hu; subst hu; exact (hF a rfl j (by omega) 1 .u64 rfl).1
end Go.Proofs.Ythlllcmffgdcmab.OpenRecs

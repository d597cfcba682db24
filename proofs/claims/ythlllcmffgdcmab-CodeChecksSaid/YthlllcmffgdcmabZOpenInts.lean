/- Arguments opened: slices of whole numbers, slices of bools, as rows that are read. Over any program; no function of this one in sight. -/
import Derived.Test.YthlllcmffgdcmabZOpen
import Derived.Test.YthlllcmffgdcmabZ1
section
namespace Go.Proofs.Ythlllcmffgdcmab.Open
open Go.ChangeShapes Go.WideShapes Go.Deep Go.Proofs.YthlllcmffgdcmabW.PrintWords
def intOfV : Value → Int | .int _ n => n | _ => 0
section
variable {H : Type} {enc : TypeId × Value → H} {P : Program} {w : World} {base : Nat} {spare : Nat → Bool} {held : Bool}
theorem ints {t e : TypeId} {k : IntKind} (ht : P.underlying t = some (.slice e)) (he : P.underlying e = some (.int k)) (hC : P.cellsOf e = 1)
    {A : Option Addr} {len cap : Nat} {d : DataW H} {p : List MemPlace} (hs : ∀ b, spare b = true) (h : DataW.Trod enc P w base spare held t (.slice A len cap) d p) :
    len ≤ cap ∧ cap ≤ maxLen ∧ (A = none → len = 0 ∧ cap = 0) ∧ ∃ B : Nat → Int, ∀ a, A = some a → ∀ i, i < cap → w.cell? (a.add i) = some (.int k (B i)) ∧ (Lit.int k (B i)).wf = true := by
  obtain ⟨fuel, hf⟩ := h
  rcases open_slice1 ht hC hf with ⟨hcs, _⟩ | ⟨a, len', cap', m, n, V, D, Pl, hcs, _, hl, hm, hmm, _, hi⟩
  · simp [Value.cells] at hcs
    obtain ⟨rfl, rfl, rfl⟩ := hcs
    exact ⟨Nat.le_refl _, by unfold maxLen; omega, fun _ => ⟨rfl, rfl⟩, fun _ => 0, fun a ha => by cases ha⟩
  · simp [Value.cells] at hcs
    obtain ⟨rfl, rfl, rfl⟩ := hcs
    rw [hs, if_pos rfl] at hmm
    subst hmm
    refine ⟨hl, hm, (fun h => by cases h), fun i => intOfV (V i), fun a' ha' i him => ?_⟩
    cases ha'
    obtain ⟨hc, hy⟩ := hi i him
    obtain ⟨q, hv, _, hwf⟩ := DataW.trod_int he hy
    simp only [List.cons.injEq, and_true] at hv
    show w.cell? (a.add i) = some (.int k (intOfV (V i))) ∧ (Lit.int k (intOfV (V i))).wf = true
    rw [hc, hv, intOfV]
    exact ⟨rfl, hwf⟩
end
end Go.Proofs.Ythlllcmffgdcmab.Open
end

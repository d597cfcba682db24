import Derived.Test.YthlllcmffgdcmabHeap0
import Derived.BigRegion
namespace Go.Proofs.Ythlllcmffgdcmab.Heap
open Go.RowKit Go.Proofs.YthlllcmffgdcmabW.PrintWords Go.Proofs.YthlllcmffgdcmabW.PrintLast Go.Proofs.YthlllcmffgdcmabW.PrintMore Go.Proofs.Ythlllcmffgdcmab.HeapPlain
set_option linter.unusedVariables false
set_option linter.unusedSimpArgs false

theorem IsHeap.set3 {B : Nat} {w : World} {p gr cap : Nat} {l : List It} {sq : Int} (h : IsHeap B w p (.slice (some ⟨gr, 0, none⟩) l.length cap) l sq) {i : Nat} (hi : i < l.length) (x : It) : IsHeap B (set3 w gr i x) p (.slice (some ⟨gr, 0, none⟩) l.length cap) (l.set i x) sq := by
  refine ⟨h.ge, ?_, h.row.set hi x⟩
  have hne : p ≠ gr := by
    have := own_ne h.row h.blk (by decide)
    intro e; subst e; exact this rfl
  exact blk_far (blk_far (blk_far h.blk (p := ⟨gr, i * 3, none⟩) hne _) (p := ⟨gr, i * 3 + 1, none⟩) hne _) (p := ⟨gr, i * 3 + 2, none⟩) hne _
theorem Step.set3 {B p gr n cap : Nat} {a b : World} {v : Value} (h : Step B p v (.slice (some ⟨gr, 0, none⟩) n cap) a b) (hv : v.ownBlock = some gr) (hB : B ≤ gr) (i : Nat) (x : It) : Step B p v (.slice (some ⟨gr, 0, none⟩) n cap) a (set3 b gr i x) :=
  ⟨((h.below.setCell hB _).setCell hB _).setCell hB _, ((h.kept.setCell (p := ⟨gr, i * 3, none⟩) (.inl (.inr hv)) _).setCell (p := ⟨gr, i * 3 + 1, none⟩) (.inl (.inr hv)) _).setCell (p := ⟨gr, i * 3 + 2, none⟩) (.inl (.inr hv)) _, h.moved⟩

theorem some_set {w : World} {p a : Addr} {v : Value} (u : Value) (h : w.cell? a = some v) : ∃ v', (w.setCell p u).cell? a = some v' := by
  by_cases e : a = p
  · subst e
    exact ⟨u, by rw [World.cell?_setCell_same _ _ _ h]⟩
  · exact ⟨v, by rw [World.cell?_setCell_other _ _ _ _ (fun x => e (by first | exact x | exact x.symm)), h]⟩
theorem some_set3 {w : World} {gr i : Nat} {x : It} {a : Addr} {v : Value} (h : w.cell? a = some v) : ∃ v', (Heap.set3 w gr i x).cell? a = some v' := by
  obtain ⟨v1, h1⟩ := some_set (p := ⟨gr, i * 3, none⟩) (.int .u64 x.t) h
  obtain ⟨v2, h2⟩ := some_set (p := ⟨gr, i * 3 + 1, none⟩) (.int .u64 x.s) h1
  exact some_set (p := ⟨gr, i * 3 + 2, none⟩) (.int .i64 x.d) h2

set_option maxHeartbeats 4000000 in
set_option maxRecDepth 100000 in
theorem swap_calls (B p : Nat) (v : Value) (l : List It) (sq : Int) (i j : Nat) (w : World) (h : IsHeap B w p v l sq) (hi : i < l.length) (hj : j < l.length) (hl : l.length ≤ 1000) : Calls Try.prog 87 #[.pointer (some ⟨p, 0, none⟩), .int .i64 i, .int .i64 j] w fun e w' =>
    e = .returned (.tuple #[]) ∧ IsHeap B w' p v (swp l i j) sq ∧ Step B p v v w w' := by
  obtain ⟨gr, cap, rfl, hc, hB, hg, hcell, hf⟩ := h.row.form (by omega)
  have H := Aside0.mk h
  have k0 : w.cell? ⟨p, 0, none⟩ = some (.slice (some ⟨gr, 0, none⟩) l.length cap) := (blk_cell h.blk 0).trans rfl
  obtain ⟨i0, i1, i2⟩ := hcell i hi
  obtain ⟨j0, j1, j2⟩ := hcell j hj
  have fi0 := hf (i * 3)
  have fi1 := hf (i * 3 + 1)
  have fi2 := hf (i * 3 + 2)
  have fj0 := hf (j * 3)
  have fj1 := hf (j * 3 + 1)
  have fj2 := hf (j * 3 + 2)
  have b1 : (0 : Int) ≤ (i : Int) := by omega
  have b2 : (i : Int) < (l.length : Int) := by omega
  have b3 : (0 : Int) ≤ (j : Int) := by omega
  have b4 : (j : Int) < (l.length : Int) := by omega
  obtain ⟨xi, hxi⟩ : ∃ x, g l i = x := ⟨_, rfl⟩
  obtain ⟨xj, hxj⟩ : ∃ x, g l j = x := ⟨_, rfl⟩
  rw [hxi] at i0 i1 i2
  rw [hxj] at j0 j1 j2
  have HE := Aside0.mk (show swp l i j = (l.set i xj).set j xi by rw [← hxi, ← hxj]; rfl)
  have HG := Aside0.mk (And.intro hB hg)
  clear hxi hxj
  clear h hcell hf
  go_enter Try.func87, Try.ntmps87
  have e0 := some_set3 (w := w) (gr := gr) (i := i) (x := xj) j0
  have e1 := some_set3 (w := w) (gr := gr) (i := i) (x := xj) j1
  have e2 := some_set3 (w := w) (gr := gr) (i := i) (x := xj) j2
  obtain ⟨u0, e0⟩ := e0
  obtain ⟨u1, e1⟩ := e1
  obtain ⟨u2, e2⟩ := e2
  unfold Heap.set3 at e0 e1 e2
  go_region
  have h1 := H.out.set3 hi xj
  have h2 := IsHeap.set3 (l := l.set i xj) (cap := cap) (gr := gr) (by rw [List.length_set]; exact h1) (i := j) (by rw [List.length_set]; exact hj) xi
  rw [List.length_set] at h2
  have h3 := ((Step.refl B p (.slice (some ⟨gr, 0, none⟩) l.length cap) w).set3 rfl HG.out.1 i xj).set3 rfl HG.out.1 j xi
  exact bodyPost_end (results_none rfl _ _ _) rfl ⟨rfl, by rw [HE.out]; exact h2.drew, h3.drew⟩
end Go.Proofs.Ythlllcmffgdcmab.Heap

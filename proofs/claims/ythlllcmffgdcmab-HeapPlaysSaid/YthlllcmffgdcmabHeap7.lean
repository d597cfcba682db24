import Derived.Test.YthlllcmffgdcmabHeap6
namespace Go.Proofs.Ythlllcmffgdcmab.Heap
open Go.RowKit Go.Proofs.YthlllcmffgdcmabW.PrintWords Go.Proofs.YthlllcmffgdcmabW.PrintLast Go.Proofs.YthlllcmffgdcmabW.PrintMore Go.Proofs.Ythlllcmffgdcmab.HeapPlain
set_option linter.unusedVariables false
set_option linter.unusedSimpArgs false

theorem IsHeap.cells {B : Nat} {w : World} {p gr n cap : Nat} {l : List It} {sq : Int} (h : IsHeap B w p (.slice (some ⟨gr, 0, none⟩) n cap) l sq) {i : Nat} (hi : i < l.length) : w.cell? ⟨gr, i * 3, none⟩ = some (.int .u64 (g l i).t) ∧ w.cell? ⟨gr, i * 3 + 1, none⟩ = some (.int .u64 (g l i).s) ∧ w.cell? ⟨gr, i * 3 + 2, none⟩ = some (.int .i64 (g l i).d) := by
  obtain ⟨gr', cap', e, _, _, _, hcell, _⟩ := h.row.form (by omega)
  injection e with e el ec
  injection e with e
  injection e with e
  subst e
  exact hcell i hi
theorem below_z {w w' : World} {z : Nat} (h : Below w.heap.size w w') (hz : w.heap.size ≤ z) (i : Nat) (u : Value) : Below w.heap.size w (w'.setCell ⟨z, i, none⟩ u) := h.setCell hz _

set_option maxHeartbeats 4000000 in
set_option maxRecDepth 100000 in
theorem min_some (B p : Nat) (v : Value) (l : List It) (sq : Int) (w : World) (h : IsHeap B w p v l sq) (hl : 0 < l.length) : Calls Try.prog 44 #[.pointer (some ⟨p, 0, none⟩)] w fun e w' =>
    e = .returned (.tuple #[.agg (a3 (g l 0)), .bool true]) ∧ Below w.heap.size w w' := by
  have H := Aside0.mk h
  obtain ⟨gr, cap, rfl, hc, hB, hg, _, _⟩ := h.row.form (by omega)
  obtain ⟨x, hx⟩ : ∃ x, g l 0 = x := ⟨_, rfl⟩
  have HX := Aside0.mk hx
  have HL := Aside0.mk hl
  have q1 : ((l.length : Int) == 0) = false := by rw [beq_eq_false_iff_ne]; omega
  have b2 : (0 : Int) < (l.length : Int) := by omega
  clear h hl hx
  go_enter Try.func44, Try.ntmps44
  go_upto_region 1 with (fail)
  have HZ1 := Aside0.mk (blk_new w (.cells zI 88))
  have H1 := Aside0.mk (H.out.below (below_alloc (Below.refl _ _) (.cells zI 88)))
  have HB1 := Aside0.mk (below_alloc (Below.refl w.heap.size w) (.cells zI 88))
  obtain ⟨z, hz⟩ : ∃ z, w.heap.size = z := ⟨_, rfl⟩
  rw [hz] at HZ1 ⊢
  have HZ := Aside0.mk hz
  clear hz
  change Code.wp _ _ _ _ (w.alloc (.cells zI 88))
  generalize w.alloc (.cells zI 88) = w1 at HZ1 H1 HB1 ⊢
  obtain ⟨i0, i1, i2⟩ := H1.out.cells HL.out
  rw [HX.out] at i0 i1 i2
  have k0 : w1.cell? ⟨p, 0, none⟩ = some (.slice (some ⟨gr, 0, none⟩) l.length cap) := (blk_cell H1.out.blk 0).trans rfl
  have z0 : w1.cell? ⟨z, 0, none⟩ = some (.int .u64 0) := (blk_cell HZ1.out 0).trans rfl
  have z1 : w1.cell? ⟨z, 1, none⟩ = some (.int .u64 0) := (blk_cell HZ1.out 1).trans rfl
  have z2 : w1.cell? ⟨z, 2, none⟩ = some (.int .i64 0) := (blk_cell HZ1.out 2).trans rfl
  have g0 := blk_frozen HZ1.out 0
  have g1 := blk_frozen HZ1.out 1
  have g2 := blk_frozen HZ1.out 2
  have i0' : w1.cell? ⟨gr, 0, none⟩ = some (.int .u64 x.t) := by simpa using i0
  have i1' : w1.cell? ⟨gr, 1, none⟩ = some (.int .u64 x.s) := by simpa using i1
  have i2' : w1.cell? ⟨gr, 2, none⟩ = some (.int .i64 x.d) := by simpa using i2
  clear i0 i1 i2
  go_wp2
  have hb := blk_set (blk_set (blk_set HZ1.out 0 (.int .u64 x.t)) 1 (.int .u64 x.s)) 2 (.int .i64 x.d)
  have hB' := below_z (below_z (below_z HB1.out (Nat.le_of_eq HZ.out) 0 (.int .u64 x.t)) (Nat.le_of_eq HZ.out) 1 (.int .u64 x.s)) (Nat.le_of_eq HZ.out) 2 (.int .i64 x.d)
  have hxx := HX.out
  have hzz := HZ.out
  exact bodyPost_ret (results_ct (P := Try.prog) rfl _ _ z 88 (a3 x) (0, 0) _ rfl (by simpa [zI, a3] using hb) Try.underlying88 rfl (by kernel_rfl)) rfl ⟨by rw [hxx]; rfl, hB'⟩

set_option maxHeartbeats 4000000 in
theorem min_none (B p : Nat) (v : Value) (sq : Int) (w : World) (h : IsHeap B w p v [] sq) : Calls Try.prog 44 #[.pointer (some ⟨p, 0, none⟩)] w fun e w' =>
    e = .returned (.tuple #[.agg zI, .bool false]) ∧ Below w.heap.size w w' := by
  have H := Aside0.mk h
  obtain ⟨A, c, rfl⟩ := own_slice h.row
  clear h
  go_enter Try.func44, Try.ntmps44
  go_upto_region 1 with (fail)
  have HZ1 := Aside0.mk (blk_new w (.cells zI 88))
  have H1 := Aside0.mk (H.out.below (below_alloc (Below.refl _ _) (.cells zI 88)))
  have HB1 := Aside0.mk (below_alloc (Below.refl w.heap.size w) (.cells zI 88))
  obtain ⟨z, hz⟩ : ∃ z, w.heap.size = z := ⟨_, rfl⟩
  rw [hz] at HZ1 ⊢
  have HZ := Aside0.mk hz
  clear hz
  change Code.wp _ _ _ _ (w.alloc (.cells zI 88))
  generalize w.alloc (.cells zI 88) = w1 at HZ1 H1 HB1 ⊢
  have k0 : w1.cell? ⟨p, 0, none⟩ = some (.slice A 0 c) := (blk_cell H1.out.blk 0).trans rfl
  have z0 : w1.cell? ⟨z, 0, none⟩ = some (.int .u64 0) := (blk_cell HZ1.out 0).trans rfl
  have z1 : w1.cell? ⟨z, 1, none⟩ = some (.int .u64 0) := (blk_cell HZ1.out 1).trans rfl
  have z2 : w1.cell? ⟨z, 2, none⟩ = some (.int .i64 0) := (blk_cell HZ1.out 2).trans rfl
  have g0 := blk_frozen HZ1.out 0
  have g1 := blk_frozen HZ1.out 1
  have g2 := blk_frozen HZ1.out 2
  go_wp2
  have hb := blk_set (blk_set (blk_set HZ1.out 0 (.int .u64 0)) 1 (.int .u64 0)) 2 (.int .i64 0)
  have hB' := below_z (below_z (below_z HB1.out (Nat.le_of_eq HZ.out) 0 (.int .u64 0)) (Nat.le_of_eq HZ.out) 1 (.int .u64 0)) (Nat.le_of_eq HZ.out) 2 (.int .i64 0)
  have hzz := HZ.out
  exact bodyPost_ret (results_ct (P := Try.prog) rfl _ _ z 88 zI (0, 0) _ rfl (by simpa [zI] using hb) Try.underlying88 rfl (by kernel_rfl)) rfl ⟨rfl, hB'⟩
end Go.Proofs.Ythlllcmffgdcmab.Heap

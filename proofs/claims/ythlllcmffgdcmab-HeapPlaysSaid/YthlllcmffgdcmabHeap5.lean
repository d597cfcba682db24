import Derived.Test.YthlllcmffgdcmabHeap4
namespace Go.Proofs.Ythlllcmffgdcmab.Heap
open Go.RowKit Go.Proofs.YthlllcmffgdcmabW.PrintWords Go.Proofs.YthlllcmffgdcmabW.PrintLast Go.Proofs.YthlllcmffgdcmabW.PrintMore Go.Proofs.Ythlllcmffgdcmab.HeapPlain
set_option linter.unusedVariables false
set_option linter.unusedSimpArgs false

theorem len_calls (B p : Nat) (v : Value) (l : List It) (sq : Int) (w : World) (h : IsHeap B w p v l sq) : Calls Try.prog 43 #[.pointer (some ⟨p, 0, none⟩)] w fun e w' =>
    e = .returned (.int .i64 l.length) ∧ w = w' := by
  obtain ⟨A, c, rfl⟩ := own_slice h.row
  have k0 : w.cell? ⟨p, 0, none⟩ = some (.slice A l.length c) := (blk_cell h.blk 0).trans rfl
  clear h
  go_enter Try.func43, Try.ntmps43
  go_wp2
  go_ret
  exact ⟨rfl, rfl⟩

def zI : Array Value := #[.int .u64 0, .int .u64 0, .int .i64 0]
/-- A row, cut short. -/
theorem Row.take {w : World} {B gr cap : Nat} {l : List It} (h : Row w B (.slice (some ⟨gr, 0, none⟩) l.length cap) l) (n : Nat) (hn : n ≤ l.length) : Row w B (.slice (some ⟨gr, 0, none⟩) n cap) (l.take n) := by
  obtain ⟨hl, h2⟩ := h
  have hlen : (l.take n).length = n := by rw [List.length_take]; omega
  refine ⟨by rw [cs3_len], ?_⟩
  rw [hlen]
  rcases h2 with ⟨e, _⟩ | ⟨g', cap', cur, e, hb, hh, hc, hm, hs, ht⟩
  · cases e
  · injection e with e e1 e2
    injection e with e
    injection e with e
    subst e e2
    refine .inr ⟨gr, cap, cur, rfl, hb, hh, by omega, hm, hs, ?_⟩
    rw [← cs3_take, ← ht, List.take_take]
    congr 1
    have := Nat.mul_le_mul_right 3 hn
    omega

theorem IsHeap.cut {B : Nat} {w : World} {p gr n m cap : Nat} {l : List It} {sq : Int} (h : IsHeap B w p (.slice (some ⟨gr, 0, none⟩) n cap) l sq) (hn : n = l.length) (hm : m ≤ n) : IsHeap B (w.setCell ⟨p, 0, none⟩ (.slice (some ⟨gr, 0, none⟩) m cap)) p (.slice (some ⟨gr, 0, none⟩) m cap) (l.take m) sq := by
  subst hn
  exact ⟨h.ge, by simpa using blk_set h.blk 0 (.slice (some ⟨gr, 0, none⟩) m cap), own_setCell (h.row.take m hm) (p := ⟨p, 0, none⟩) (own_ne (h.row.take m hm) h.blk (by decide)) _⟩
theorem IsHeap.far {B : Nat} {w : World} {p : Nat} {v : Value} {l : List It} {sq : Int} (h : IsHeap B w p v l sq) {q : Addr} (hp : q.block ≠ p) (hv : some q.block ≠ v.ownBlock) (u : Value) : IsHeap B (w.setCell q u) p v l sq :=
  ⟨h.ge, blk_far h.blk (Ne.symm hp) u, own_setCell h.row hv u⟩
theorem Step.far {B p : Nat} {a b : World} {v v' : Value} (h : Step B p v v' a b) {q : Addr} (hq : a.heap.size ≤ q.block) (hB : B ≤ q.block) (u : Value) : Step B p v v' a (b.setCell q u) :=
  ⟨h.below.setCell hB _, h.kept.setCell (.inr hq) _, h.moved⟩
theorem Step.cut {B p gr n m cap : Nat} {a b : World} {v : Value} (h : Step B p v (.slice (some ⟨gr, 0, none⟩) n cap) a b) (hp : B ≤ p) : Step B p v (.slice (some ⟨gr, 0, none⟩) m cap) a (b.setCell ⟨p, 0, none⟩ (.slice (some ⟨gr, 0, none⟩) m cap)) :=
  ⟨h.below.setCell hp _, h.kept.setCell (p := ⟨p, 0, none⟩) (.inl (.inl rfl)) _, h.moved⟩

set_option maxHeartbeats 4000000 in
set_option maxRecDepth 100000 in
theorem remove_calls (B p : Nat) (v : Value) (l : List It) (sq : Int) (i : Nat) (w : World) (h : IsHeap B w p v l sq) (hi : i < l.length) (hl : l.length ≤ 1000) : Calls Try.prog 69 #[.pointer (some ⟨p, 0, none⟩), .int .i64 i] w fun e w' =>
    e = .returned (.agg (a3 (g l i))) ∧ ∃ v', IsHeap B w' p v' (rm l i) sq ∧ Step B p v v' w w' := by
  have H := Aside0.mk h
  have HI := Aside0.mk (And.intro hi hl)
  obtain ⟨gr, cap, rfl, hc, hB, hg, _, _⟩ := h.row.form (by omega)
  have b1 : (0 : Int) ≤ (i : Int) := by omega
  have b2 : (i : Int) < (l.length : Int) := by omega
  obtain ⟨x, hx⟩ : ∃ x, g l i = x := ⟨_, rfl⟩
  have HX := Aside0.mk hx
  clear h hl hx
  go_enter Try.func69, Try.ntmps69
  go_upto_region 1 with (fail)
  have HZ1 := Aside0.mk (blk_new w (.cells zI 88))
  have H1 := Aside0.mk (H.out.below (below_alloc (Below.refl _ _) (.cells zI 88)))
  have HS1 := Aside0.mk ((Step.refl B p (.slice (some ⟨gr, 0, none⟩) l.length cap) w).of_below (below_alloc (Below.refl _ _) (.cells zI 88)) H.out.bsz)
  have HZL := Aside0.mk (show w.heap.size < (w.alloc (.cells zI 88)).heap.size by simp)
  obtain ⟨z, hz⟩ : ∃ z, w.heap.size = z := ⟨_, rfl⟩
  rw [hz] at HZ1 HZL ⊢
  have HZ := Aside0.mk hz
  clear hz
  change Code.wp _ _ _ _ (w.alloc (.cells zI 88))
  generalize w.alloc (.cells zI 88) = w1 at HZ1 H1 HS1 HZL ⊢
  obtain ⟨gr', cap', e, _, _, _, hcell, _⟩ := H1.out.row.form (by omega)
  injection e with e el ec
  injection e with e
  injection e with e
  subst e
  obtain ⟨i0, i1, i2⟩ := hcell i hi
  rw [HX.out] at i0 i1 i2
  have k0 : w1.cell? ⟨p, 0, none⟩ = some (.slice (some ⟨gr, 0, none⟩) l.length cap) := (blk_cell H1.out.blk 0).trans rfl
  clear el ec hcell
  go_upto_region 2 with (fail)
  have HY2 := Aside0.mk (blk_new w1 (.cells (a3 x) 88))
  have HZ2 := Aside0.mk (blk_alloc HZ1.out (.cells (a3 x) 88))
  have H2 := Aside0.mk (H1.out.below (below_alloc (Below.refl _ _) (.cells (a3 x) 88)))
  have HS2 := Aside0.mk (HS1.out.of_below (below_alloc (Below.refl _ _) (.cells (a3 x) 88)) H1.out.bsz)
  obtain ⟨y, hy⟩ : ∃ y, w1.heap.size = y := ⟨_, rfl⟩
  rw [hy] at HY2 HZL ⊢
  have HF := Aside0.mk (show z ≠ p ∧ y ≠ p ∧ z ≠ gr ∧ y ≠ gr ∧ y ≠ z ∧ B ≤ z by
    have h1 := H.out.plt
    have h2 := HZ.out
    have h3 := HZL.out
    have h4 := H.out.bsz
    exact ⟨by omega, by omega, by omega, by omega, by omega, by omega⟩)
  clear hy i0 i1 i2 k0
  change Code.wp _ _ _ _ (w1.alloc (.cells (a3 x) 88))
  generalize w1.alloc (.cells (a3 x) 88) = w2 at HY2 HZ2 H2 HS2 ⊢
  have k2 : w2.cell? ⟨p, 0, none⟩ = some (.slice (some ⟨gr, 0, none⟩) l.length cap) := (blk_cell H2.out.blk 0).trans rfl
  obtain ⟨m, hm⟩ : ∃ m, l.length - 1 = m := ⟨_, rfl⟩
  have e1 : (l.length : Int) - 1 = (m : Int) := by omega
  have HM := Aside0.mk (show l.length = m + 1 ∧ m < l.length ∧ m ≤ cap by omega)
  have b3 : (0 : Int) ≤ (m : Int) := by omega
  have b4 : (m : Int) ≤ (cap : Int) := by omega
  have b5 : l.length ≤ 1000 := HI.out.2
  have b6 : m ≤ 1000 := by omega
  have e2 : wrap64 (m : Int) = (m : Int) := by unfold wrap64; omega
  clear hm
  go_upto_region 4 with (go_at_call 87; (with_reducible refine (swap_calls B p _ l sq i m w2 H2.out HI.out.1 HM.out.2.1 HI.out.2).mono ?_); rintro e w3 ⟨rfl, hR3, hS3⟩; have HR3 := Aside0.mk hR3; have HS3 := Aside0.mk (HS2.out.trans hS3 H.out.plt); have HY3 := Aside0.mk (blk_kept HY2.out hS3.kept (by rintro (h | h); exact HF.out.2.1 h; injection h with h; exact HF.out.2.2.2.1 h.symm)); have HZ3 := Aside0.mk (blk_kept HZ2.out hS3.kept (by rintro (h | h); exact HF.out.1 h; injection h with h; exact HF.out.2.2.1 h.symm)); clear hR3 hS3 k2)
  have k3 : w3.cell? ⟨p, 0, none⟩ = some (.slice (some ⟨gr, 0, none⟩) l.length cap) := (blk_cell HR3.out.blk 0).trans rfl
  have f3 := blk_frozen HR3.out.blk 0
  go_upto_region 5 with (fail)
  have HRM := Aside0.mk (show rm l i = if i < m then up (down ((swp l i m).take m) i) i else (swp l i m).take m by
    have e : l.length - 1 = m := by have := HM.out.1; omega
    unfold rm
    rw [e])
  have HCL := Aside0.mk (show ((swp l i m).take m).length = m by rw [List.length_take, swp_len]; omega)
  have H4 := Aside0.mk (HR3.out.cut (m := m) (swp_len _ _ _).symm (by omega))
  have HS4 := Aside0.mk (HS3.out.cut (m := m) H.out.ge)
  have HY4 := Aside0.mk (blk_far HY3.out (p := ⟨p, 0, none⟩) HF.out.2.1 (.slice (some ⟨gr, 0, none⟩) m cap))
  have HZ4 := Aside0.mk (blk_far HZ3.out (p := ⟨p, 0, none⟩) HF.out.1 (.slice (some ⟨gr, 0, none⟩) m cap))
  generalize (swp l i m).take m = cc at HRM HCL H4 ⊢
  generalize w3.setCell ⟨p, 0, none⟩ (.slice (some ⟨gr, 0, none⟩) m cap) = w4 at H4 HS4 HY4 HZ4 ⊢
  clear k3 f3 b5 b6 e2 e1
  have hcase : i < m ∨ ¬ i < m := by omega
  rcases hcase with him | him
  case' inl =>
    have q1 : decide ((i : Int) < (m : Int)) = true := decide_eq_true (by omega)
    have HR := Aside0.mk (HRM.out.trans (if_pos him))
    go_upto_region 8 with (first
      | (go_at_call 88; (with_reducible refine (down_calls B p _ cc sq i w4 H4.out (by rw [HCL.out]; exact him) (by rw [HCL.out]; have := HM.out; have := HI.out; omega)).mono ?_); rintro e w5 ⟨rfl, hR5, hL5, hS5⟩; have HR5 := Aside0.mk hR5; have HL5 := Aside0.mk (hL5.trans HCL.out); have HS5 := Aside0.mk (HS4.out.trans hS5 H.out.plt); have HY5 := Aside0.mk (blk_kept HY4.out hS5.kept (by rintro (h | h); exact HF.out.2.1 h; injection h with h; exact HF.out.2.2.2.1 h.symm)); have HZ5 := Aside0.mk (blk_kept HZ4.out hS5.kept (by rintro (h | h); exact HF.out.1 h; injection h with h; exact HF.out.2.2.1 h.symm)); clear hR5 hL5 hS5)
      | (go_at_call 68; (with_reducible refine (up_calls B p _ (down cc i) sq i w5 HR5.out (by rw [HL5.out]; exact him) (by rw [HL5.out]; have := HM.out; have := HI.out; omega)).mono ?_); rintro e w6 ⟨rfl, hR6, hL6, hS6⟩; have H9 := Aside0.mk (HR.out ▸ hR6 : IsHeap B w6 p (.slice (some ⟨gr, 0, none⟩) m cap) (rm l i) sq); have HS9 := Aside0.mk (HS5.out.trans hS6 H.out.plt); have HY9 := Aside0.mk (blk_kept HY5.out hS6.kept (by rintro (h | h); exact HF.out.2.1 h; injection h with h; exact HF.out.2.2.2.1 h.symm)); have HZ9 := Aside0.mk (blk_kept HZ5.out hS6.kept (by rintro (h | h); exact HF.out.1 h; injection h with h; exact HF.out.2.2.1 h.symm)); clear hR6 hL6 hS6))
    clear HR q1
  case' inr =>
    have q1 : decide ((i : Int) < (m : Int)) = false := decide_eq_false (by omega)
    have HR := Aside0.mk (HRM.out.trans (if_neg him))
    go_upto_region 8 with (fail)
    have H9 := Aside0.mk (HR.out ▸ H4.out : IsHeap B w4 p (.slice (some ⟨gr, 0, none⟩) m cap) (rm l i) sq)
    have HS9 := HS4
    have HY9 := HY4
    have HZ9 := HZ4
    clear HR q1
  all_goals
    have y0 : _ = some (Value.int IntKind.u64 x.t) := (blk_cell HY9.out 0).trans rfl
    have y1 : _ = some (Value.int IntKind.u64 x.s) := (blk_cell HY9.out 1).trans rfl
    have y2 : _ = some (Value.int IntKind.i64 x.d) := (blk_cell HY9.out 2).trans rfl
    have z0 : _ = some (Value.int IntKind.u64 0) := (blk_cell HZ9.out 0).trans rfl
    have z1 : _ = some (Value.int IntKind.u64 0) := (blk_cell HZ9.out 1).trans rfl
    have z2 : _ = some (Value.int IntKind.i64 0) := (blk_cell HZ9.out 2).trans rfl
    have g0 := blk_frozen HZ9.out 0
    have g1 := blk_frozen HZ9.out 1
    have g2 := blk_frozen HZ9.out 2
    go_wp2
    have hz1 : w.heap.size = z := HZ.out
    have hg3 : some z ≠ (Value.slice (some ⟨gr, 0, none⟩) m cap).ownBlock := fun h => by injection h with h; exact HF.out.2.2.1 h
    have hH := ((H9.out.far (q := ⟨z, 0, none⟩) HF.out.1 hg3 (.int .u64 x.t)).far (q := ⟨z, 1, none⟩) HF.out.1 hg3 (.int .u64 x.s)).far (q := ⟨z, 2, none⟩) HF.out.1 hg3 (.int .i64 x.d)
    have hS := ((HS9.out.far (q := ⟨z, 0, none⟩) (Nat.le_of_eq hz1) HF.out.2.2.2.2.2 (.int .u64 x.t)).far (q := ⟨z, 1, none⟩) (Nat.le_of_eq hz1) HF.out.2.2.2.2.2 (.int .u64 x.s)).far (q := ⟨z, 2, none⟩) (Nat.le_of_eq hz1) HF.out.2.2.2.2.2 (.int .i64 x.d)
    have hb := blk_set (blk_set (blk_set HZ9.out 0 (.int .u64 x.t)) 1 (.int .u64 x.s)) 2 (.int .i64 x.d)
    have hxx := HX.out
    exact bodyPost_ret (results_cell_row (P := Try.prog) rfl _ _ z 88 (a3 x) (0, 0) _ rfl (by simpa [zI, a3] using hb) Try.underlying88 rfl (by kernel_rfl)) rfl ⟨by rw [hxx], _, hH, hS⟩
end Go.Proofs.Ythlllcmffgdcmab.Heap

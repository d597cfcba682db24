import Derived.Test.YthlllcmffgdcmabHeap3
namespace Go.Proofs.Ythlllcmffgdcmab.Heap
open Go.RowKit Go.Proofs.YthlllcmffgdcmabW.PrintWords Go.Proofs.YthlllcmffgdcmabW.PrintLast Go.Proofs.YthlllcmffgdcmabW.PrintMore Go.Proofs.Ythlllcmffgdcmab.HeapPlain
set_option linter.unusedVariables false
set_option linter.unusedSimpArgs false

set_option maxHeartbeats 4000000 in
set_option maxRecDepth 100000 in
theorem up_calls (B p : Nat) (v : Value) (l : List It) (sq : Int) (i : Nat) (w : World) (h : IsHeap B w p v l sq) (hi : i < l.length) (hl : l.length ≤ 1000) : Calls Try.prog 68 #[.pointer (some ⟨p, 0, none⟩), .int .i64 i] w fun e w' =>
    e = .returned (.tuple #[]) ∧ IsHeap B w' p v (up l i) sq ∧ (up l i).length = l.length ∧ Step B p v v w w' := by
  have H := Aside0.mk h
  have HI := Aside0.mk (And.intro hi hl)
  obtain ⟨gr, cap, rfl, _⟩ := h.row.form (by omega)
  clear h hi hl
  go_enter Try.func68, Try.ntmps68
  go_wp2
  go_loopw [1] (fun iv wr => ∃ (i' : Nat) (l' : List It), iv = .int .i64 i' ∧ i' < l'.length ∧ l'.length = l.length ∧ up l' i' = up l i ∧ IsHeap B wr p (.slice (some ⟨gr, 0, none⟩) l.length cap) l' sq ∧ Step B p (.slice (some ⟨gr, 0, none⟩) l.length cap) (.slice (some ⟨gr, 0, none⟩) l.length cap) w wr) (fun iv _ => (intOf iv).toNat)
  case atStart => exact ⟨i, l, rfl, HI.out.1, rfl, rfl, H.out, Step.refl _ _ _ _⟩
  case round =>
    obtain ⟨i', l', rfl, hi', hl', hd, hR, hS⟩ := hrel
    have HD := Aside0.mk (And.intro hl' hd)
    have HR := Aside0.mk hR
    have HS := Aside0.mk hS
    have HI' := Aside0.mk hi'
    by_cases hi0 : i' = 0
    · subst hi0
      have HF := Aside0.mk (up_stop (l := l') (i := 0) (fun h => absurd h.1 (by omega)))
      clear hl' hd hR hS hi'
      go_wp2
      go_quiet (fail)
      go_wp2
      have e1 : up l i = l' := HD.out.2.symm.trans HF.out
      have hx : IsHeap B (wr.drewN nq) p (.slice (some ⟨gr, 0, none⟩) l.length cap) l' sq := ⟨HR.out.ge, HR.out.blk, HR.out.row⟩
      have hy : Step B p (.slice (some ⟨gr, 0, none⟩) l.length cap) (.slice (some ⟨gr, 0, none⟩) l.length cap) w (wr.drewN nq) := ⟨pw_below_drewN HS.out.below _, HS.out.kept.drewN _, HS.out.moved⟩
      exact bodyPost_end (results_none rfl _ _ _) rfl ⟨rfl, by rw [e1]; exact hx, by rw [e1]; exact HD.out.1, hy⟩
    · obtain ⟨q, hq⟩ : ∃ q, par i' = q := ⟨_, rfl⟩
      obtain ⟨m, hm⟩ : ∃ m, i' - 1 = m := ⟨_, rfl⟩
      have hqm : q = m / 4 := by rw [← hq, ← hm]; rfl
      obtain ⟨gr', cap', e, _, _, _, hcell, _⟩ := hR.row.form (by omega)
      injection e with e el ec
      injection e with e
      injection e with e
      subst e
      obtain ⟨j0, j1, j2⟩ := hcell i' hi'
      obtain ⟨i0, i1, i2⟩ := hcell q (by omega)
      have k0 : wr.cell? ⟨p, 0, none⟩ = some (.slice (some ⟨gr, 0, none⟩) l.length cap) := (blk_cell hR.blk 0).trans rfl
      have e1 : IntKind.i64.wrap ((i' : Int) - 1) = (m : Int) := by have := HI.out.2; rw [IntKind.wrap_i64]; omega
      have e2 : ((m : Int)).tdiv 4 = (q : Int) := by rw [Int.tdiv_eq_ediv_of_nonneg (by omega)]; omega
      have e3 : (m : Int) / 4 = (q : Int) := by omega
      have e4 : IntKind.i64.wrap (q : Int) = (q : Int) := by have := HI.out.2; rw [IntKind.wrap_i64]; omega
      have e6 : IntKind.i64.wrap (m : Int) = (m : Int) := by have := HI.out.2; rw [IntKind.wrap_i64]; omega
      have e7 : (i' : Int).toNat = i' := Int.toNat_natCast _
      have e8 : (q : Int).toNat = q := Int.toNat_natCast _
      have HQ := Aside0.mk (show q < l'.length ∧ q < i' by omega)
      have b1 : (0 : Int) ≤ (m : Int) := by omega
      have b0 : (0 : Int) ≤ (i' : Int) := by omega
      have b2 : (i' : Int) < (l.length : Int) := by omega
      have b3 : (0 : Int) ≤ (q : Int) := by omega
      have n1 : i' < l.length := by omega
      have n2 : q < l.length := by omega
      have b4 : (q : Int) < (l.length : Int) := by omega
      have HBF := Aside0.mk (fun w => before_calls (g l' i') (g l' q) w)
      have HU := Aside0.mk (show ((g l' i').bf (g l' q) → up l' i' = up (swp l' i' q) q) ∧ (¬ (g l' i').bf (g l' q) → up l' i' = l') from ⟨fun hb => by rw [up_go (by omega) (by rw [hq]; exact hb), hq], fun hb => up_stop (fun h => hb (by rw [hq] at h; exact h.2))⟩)
      generalize g l' i' = xq at j0 j1 j2 HBF HU
      generalize g l' q = xo at i0 i1 i2 HBF HU
      clear el ec hcell hq hqm hm hl' hd hR hS hi'
      go_wp2
      have q0 : decide ((0 : Int) < (i' : Int)) = true := decide_eq_true (by omega)
      have q0' : 0 < i' := by omega
      have q0'' : decide (0 < i') = true := decide_eq_true q0'
      go_region_held3 (fun w' => w'.cell? ⟨p, 0, none⟩ = some (.slice (some ⟨gr, 0, none⟩) l.length cap) ∧ w'.cell? ⟨gr, i' * 3, none⟩ = some (.int .u64 xq.t) ∧ w'.cell? ⟨gr, i' * 3 + 1, none⟩ = some (.int .u64 xq.s) ∧ w'.cell? ⟨gr, i' * 3 + 2, none⟩ = some (.int .i64 xq.d) ∧ w'.cell? ⟨gr, q * 3, none⟩ = some (.int .u64 xo.t) ∧ w'.cell? ⟨gr, q * 3 + 1, none⟩ = some (.int .u64 xo.s) ∧ w'.cell? ⟨gr, q * 3 + 2, none⟩ = some (.int .i64 xo.d)) (first | (go_keep; done))
        ((go_at_call 86; refine (HBF.out _).mono ?_; rintro e w3 ⟨rfl, hb3⟩; have zk0 := pw_cell_below hb3 (show World.cell? _ _ = _ from k0); have zj0 := pw_cell_below hb3 (show World.cell? _ _ = _ from j0); have zj1 := pw_cell_below hb3 (show World.cell? _ _ = _ from j1); have zj2 := pw_cell_below hb3 (show World.cell? _ _ = _ from j2); have zi0 := pw_cell_below hb3 (show World.cell? _ _ = _ from i0); have zi1 := pw_cell_below hb3 (show World.cell? _ _ = _ from i1); have zi2 := pw_cell_below hb3 (show World.cell? _ _ = _ from i2); have hR3 : IsHeap B w3 p (.slice (some ⟨gr, 0, none⟩) l.length cap) l' sq := (by first | exact HR.out.below hb3 | exact HR.out.drew.below hb3); have hS3 : Step B p (.slice (some ⟨gr, 0, none⟩) l.length cap) (.slice (some ⟨gr, 0, none⟩) l.length cap) w w3 := (by first | exact HS.out.of_below hb3 HR.out.bsz | exact HS.out.drew.of_below hb3 HR.out.bsz); have HR3 := Aside0.mk hR3; have HS3 := Aside0.mk hS3; clear hb3 hR3 hS3))
      all_goals
        by_cases hbf : xq.bf xo
        · rw [bfB_true hbf]
          clear zk0 zj0 zj1 zj2 zi0 zi1 zi2 k0 i0 i1 i2 j0 j1 j2
          go_wp2_with (go_at_call 87; (with_reducible refine (swap_calls B p _ l' sq i' q _ HR3.out HI'.out HQ.out.1 (by rw [HD.out.1]; exact HI.out.2)).mono ?_); rintro e w2 ⟨rfl, hR2, hS2⟩; have HR2 := Aside0.mk hR2; have HS2 := Aside0.mk (HS3.out.trans hS2 H.out.plt); clear hR2 hS2)
          exact ⟨⟨q, swp l' i' q, rfl, by rw [swp_len]; exact HQ.out.1, by rw [swp_len]; exact HD.out.1, (HU.out.1 hbf).symm.trans HD.out.2, HR2.out, HS2.out⟩, by have := HQ.out.2; simp [intOf]; omega⟩
        · rw [bfB_false hbf]
          clear zk0 zj0 zj1 zj2 zi0 zi1 zi2 k0 i0 i1 i2 j0 j1 j2
          go_wp2
          have e5 : up l i = l' := HD.out.2.symm.trans (HU.out.2 hbf)
          exact bodyPost_end (results_none rfl _ _ _) rfl ⟨rfl, by rw [e5]; exact HR3.out, by rw [e5]; exact HD.out.1, HS3.out⟩
end Go.Proofs.Ythlllcmffgdcmab.Heap

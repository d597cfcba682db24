import Derived.Test.YthlllcmffgdcmabHeap1
namespace Go.Proofs.Ythlllcmffgdcmab.Heap
open Go.RowKit Go.Proofs.YthlllcmffgdcmabW.PrintWords Go.Proofs.YthlllcmffgdcmabW.PrintLast Go.Proofs.YthlllcmffgdcmabW.PrintMore Go.Proofs.Ythlllcmffgdcmab.HeapPlain
set_option linter.unusedVariables false
set_option linter.unusedSimpArgs false

theorem lst_lt (l : List It) (i m : Nat) (hi : i < l.length) : lst l i m < l.length := by
  rcases lst_or l i m with h | h
  · rw [h]; exact hi
  · exact h.2.2
theorem lst_succ_yes {l : List It} {i m : Nat} (h : 4 * i + 1 + m < l.length) (hb : (g l (4 * i + 1 + m)).bf (g l (lst l i m))) : lst l i (m + 1) = 4 * i + 1 + m := by rw [lst, if_pos ⟨h, hb⟩]
theorem lst_succ_no {l : List It} {i m : Nat} (hb : ¬ (g l (4 * i + 1 + m)).bf (g l (lst l i m))) : lst l i (m + 1) = lst l i m := by rw [lst, if_neg (fun h => hb h.2)]

set_option maxHeartbeats 4000000 in
set_option maxRecDepth 100000 in
theorem least_calls (B p : Nat) (v : Value) (l : List It) (sq : Int) (i : Nat) (w : World) (h : IsHeap B w p v l sq) (hi : i < l.length) (hl : l.length ≤ 1000) : Calls Try.prog 91 #[.pointer (some ⟨p, 0, none⟩), .int .i64 i] w fun e w' =>
    e = .returned (.int .i64 (least l i)) ∧ Below w.heap.size w w' := by
  obtain ⟨gr, cap, rfl, hc, hB, hg, _, _⟩ := h.row.form (by omega)
  have H := Aside0.mk h
  clear h
  go_enter Try.func91, Try.ntmps91
  go_wp2
  go_loopw [5, 6] (fun o k wr => ∃ q m : Nat, k = .int .i64 q ∧ q = 4 * i + 1 + m ∧ m ≤ 4 ∧ o = .int .i64 (lst l i m) ∧ Below w.heap.size w wr) (fun _ k _ => 4 * i + 5 - (intOf k).toNat)
  case atStart => exact ⟨4 * i + 1, 0, by go_num, by omega, by omega, rfl, Below.refl _ _⟩
  case round =>
    obtain ⟨q, m, rfl, hq, hm, rfl, hb⟩ := hrel
    have hR := H.out.below hb
    have k0 : wr.cell? ⟨p, 0, none⟩ = some (.slice (some ⟨gr, 0, none⟩) l.length cap) := (blk_cell hR.blk 0).trans rfl
    have HB := Aside0.mk hb
    have HR := Aside0.mk hR
    clear hb hR
    by_cases h4 : m < 4
    · have q1 : decide ((q : Int) ≤ 4 * (i : Int) + 4) = true := decide_eq_true (by omega)
      by_cases hlt : q < l.length
      · have q2 : decide ((q : Int) < (l.length : Int)) = true := decide_eq_true (by omega)
        obtain ⟨gr', cap', e, _, _, _, hcell, _⟩ := HR.out.row.form (by omega)
        injection e with e _ _
        injection e with e
        injection e with e
        subst e
        obtain ⟨o, ho⟩ : ∃ o, lst l i m = o := ⟨_, rfl⟩
        have hol := lst_lt l i m hi
        rw [ho] at hol ⊢
        obtain ⟨j0, j1, j2⟩ := hcell q hlt
        obtain ⟨i0, i1, i2⟩ := hcell o hol
        have HBF := Aside0.mk (fun w => before_calls (g l q) (g l o) w)
        have HS := Aside0.mk (show ((g l q).bf (g l o) → lst l i (m + 1) = q) ∧ (¬ (g l q).bf (g l o) → lst l i (m + 1) = o) from ⟨fun hb => by rw [lst_succ_yes (by omega) (by rw [← hq, ho]; exact hb)]; exact hq.symm, fun hb => by rw [lst_succ_no (by rw [← hq, ho]; exact hb)]; exact ho⟩)
        have HQ := Aside0.mk hq
        have b1 : (0 : Int) ≤ (q : Int) := by omega
        have b2 : (q : Int) < (l.length : Int) := by omega
        have b3 : (0 : Int) ≤ (o : Int) := by omega
        have b4 : (o : Int) < (l.length : Int) := by omega
        generalize g l q = xq at j0 j1 j2 HBF HS
        generalize g l o = xo at i0 i1 i2 HBF HS
        clear hcell ho hq
        go_upto_region 5 with (fail)
        go_region_held3 (fun w' => w'.cell? ⟨p, 0, none⟩ = some (.slice (some ⟨gr, 0, none⟩) l.length cap) ∧ w'.cell? ⟨gr, q * 3, none⟩ = some (.int .u64 xq.t) ∧ w'.cell? ⟨gr, q * 3 + 1, none⟩ = some (.int .u64 xq.s) ∧ w'.cell? ⟨gr, q * 3 + 2, none⟩ = some (.int .i64 xq.d) ∧ w'.cell? ⟨gr, o * 3, none⟩ = some (.int .u64 xo.t) ∧ w'.cell? ⟨gr, o * 3 + 1, none⟩ = some (.int .u64 xo.s) ∧ w'.cell? ⟨gr, o * 3 + 2, none⟩ = some (.int .i64 xo.d)) (first | (go_keep; done))
          ((go_at_call 86; refine (HBF.out _).mono ?_; rintro e w3 ⟨rfl, hb3⟩; have z0 := pw_cell_below hb3 (show World.cell? _ ⟨p, 0, none⟩ = some (.slice (some ⟨gr, 0, none⟩) l.length cap) from k0); have zj0 := pw_cell_below hb3 (show World.cell? _ _ = _ from j0); have zj1 := pw_cell_below hb3 (show World.cell? _ _ = _ from j1); have zj2 := pw_cell_below hb3 (show World.cell? _ _ = _ from j2); have zi0 := pw_cell_below hb3 (show World.cell? _ _ = _ from i0); have zi1 := pw_cell_below hb3 (show World.cell? _ _ = _ from i1); have zi2 := pw_cell_below hb3 (show World.cell? _ _ = _ from i2); have hB3 : Below w.heap.size w w3 := (by first | exact below_then HB.out HB.out.size hb3 | exact below_then HB.out.drew HB.out.size hb3); have HB3 := Aside0.mk hB3; clear hb3 hB3))
        all_goals
          by_cases hbf : xq.bf xo
          · rw [bfB_true hbf]
            clear zj0 zj1 zj2 zi0 zi1 zi2 z0 k0 i0 i1 i2 j0 j1 j2
            go_wp2
            exact ⟨⟨q + 1, m + 1, by go_num, by have := HQ.out; omega, by omega, by rw [HS.out.1 hbf], HB3.out⟩, by have := HQ.out; simp [intOf]; omega⟩
          · rw [bfB_false hbf]
            clear z0 zj0 zj1 zj2 zi0 zi1 zi2 k0 i0 i1 i2 j0 j1 j2
            go_wp2
            exact ⟨⟨q + 1, m + 1, by go_num, by have := HQ.out; omega, by omega, by rw [HS.out.2 hbf], HB3.out⟩, by have := HQ.out; simp [intOf]; omega⟩
      · have q2 : decide ((q : Int) < (l.length : Int)) = false := decide_eq_false (by omega)
        have HE := Aside0.mk (show lst l i m = least l i from (lst_stop l i m 4 (by omega) hm).symm)
        clear hq
        go_wp2
        go_ret
        exact ⟨by rw [HE.out]; rfl, HB.out⟩
    · have q1 : decide ((q : Int) ≤ 4 * (i : Int) + 4) = false := decide_eq_false (by omega)
      obtain rfl : m = 4 := by omega
      clear hq
      go_wp2
      go_ret
      exact ⟨rfl, HB.out⟩
end Go.Proofs.Ythlllcmffgdcmab.Heap

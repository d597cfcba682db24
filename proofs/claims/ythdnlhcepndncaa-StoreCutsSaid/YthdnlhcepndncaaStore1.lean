import Derived.Test.YthdnlhcepndncaaStore0
namespace Go.Proofs.Ythdnlhcepndncaa.Stores
open Go.RowKit Go.Proofs.YthdnlhcepndncaaW.PrintWords Go.Proofs.YthdnlhcepndncaaW.PrintLast Go.Proofs.YthdnlhcepndncaaW.PrintMore
set_option linter.unusedVariables false
set_option linter.unusedSimpArgs false
variable (B g : Nat) (xs : List Int) (safe room left : Int) (dead : Bool) (w : World) (h : IsStore B w g xs safe room left dead)
include h

theorem dead_calls : Calls Try.prog 48 #[.pointer (some ⟨g, 0, none⟩)] w fun e w' => e = .returned (.bool dead) ∧ w' = w := by
  obtain ⟨hg, v, hb, ho⟩ := h
  have c4 : w.cell? ⟨g, 4, none⟩ = some (.bool dead) := (blk_cell hb 4).trans rfl
  clear hb ho
  go_enter Try.func48, Try.ntmps48
  go_wp2
  go_ret
  exact ⟨rfl, rfl⟩

theorem safe_calls : Calls Try.prog 46 #[.pointer (some ⟨g, 0, none⟩)] w fun e w' => e = .returned (.int .i64 safe) ∧ w' = w := by
  obtain ⟨hg, v, hb, ho⟩ := h
  have c1 : w.cell? ⟨g, 1, none⟩ = some (.int .i64 safe) := (blk_cell hb 1).trans rfl
  clear hb ho
  go_enter Try.func46, Try.ntmps46
  go_wp2
  go_ret
  exact ⟨rfl, rfl⟩

theorem len_calls : Calls Try.prog 45 #[.pointer (some ⟨g, 0, none⟩)] w fun e w' => e = .returned (.int .i64 xs.length) ∧ w' = w := by
  obtain ⟨hg, v, hb, ho⟩ := h
  obtain ⟨A1, c1, rfl⟩ := own_slice ho
  have c0 : w.cell? ⟨g, 0, none⟩ = some (.slice A1 xs.length c1) := (blk_cell hb 0).trans rfl
  clear hb ho
  go_enter Try.func45, Try.ntmps45
  go_wp2
  go_ret
  exact ⟨rfl, rfl⟩

theorem bytes_calls : Calls Try.prog 44 #[.pointer (some ⟨g, 0, none⟩)] w fun e w' => e = .returned (.string (strOfNums xs)) ∧ w' = w := by
  obtain ⟨hg, v, hb, ho⟩ := h
  have hcv := own_string (P := Try.prog) Try.underlying66 Try.underlying5 Try.underlying9 ho
  have c0 : w.cell? ⟨g, 0, none⟩ = some v := (blk_cell hb 0).trans rfl
  clear hb ho
  go_enter Try.func44, Try.ntmps44
  go_wp2
  go_ret
  exact ⟨rfl, rfl⟩

set_option maxHeartbeats 4000000 in
theorem sync_calls (hl : left ≤ 9223372036854775807) (hB : B ≤ w.heap.size) : Calls Try.prog 42 #[.pointer (some ⟨g, 0, none⟩)] w fun e w' =>
    e = .returned (.int .i64 (cE left dead)) ∧ IsStore B w' g xs (if cE left dead = 0 then (xs.length : Int) else safe) room (cL left dead) (cD left dead) ∧ Below B w w' := by
  have HS := Aside0.mk h
  have hE : cE left dead = 8 ∨ cE left dead = 0 := by unfold cE; split <;> simp
  clear h
  rcases hE with hE | hE
  · rw [hE, if_neg (by decide)]
    go_enter Try.func42, Try.ntmps42
    go_wp2_with (first
      | (go_at_call 51; (with_reducible refine (call_calls B g xs safe room left dead w HS.out hl hB).mono ?_); rintro e w1 ⟨rfl, hs, hb⟩; (rw [hE]; have HS1 := Aside0.mk hs; have HB1 := Aside0.mk hb; clear hs hb)))
    go_ret
    exact ⟨rfl, HS1.out, HB1.out⟩
  · rw [hE, if_pos rfl]
    go_enter Try.func42, Try.ntmps42
    go_wp2_with (first
      | (go_at_call 51; (with_reducible refine (call_calls B g xs safe room left dead w HS.out hl hB).mono ?_); rintro e w1 ⟨rfl, hs, hb⟩; rw [hE]; (obtain ⟨hg, v, hh, ho⟩ := hs); (obtain ⟨A1, cc1, rfl⟩ := own_slice ho); (have c0 : w1.cell? ⟨g, 0, none⟩ = some (.slice A1 xs.length cc1) := (blk_cell hh 0).trans rfl); (have c1 := (blk_cell hh 1).trans rfl; have f1 := blk_frozen hh 1; have HH := Aside0.mk hh; have HO := Aside0.mk ho; have HB1 := Aside0.mk hb; clear hh ho hb)))
    go_ret
    exact ⟨rfl, ⟨hg, _, by simpa using blk_set HH.out 1 _, own_setCell HO.out (own_ne HO.out HH.out (by decide)) _⟩, HB1.out.setCell hg _⟩
end Go.Proofs.Ythdnlhcepndncaa.Stores

import Derived.Test.YthdnlhcepndncaaLocks1
namespace Go.Proofs.Ythdnlhcepndncaa.Locks
open Go.RowKit Go.Proofs.YthdnlhcepndncaaW.PrintWords Go.Proofs.YthdnlhcepndncaaW.PrintLast Go.Proofs.YthdnlhcepndncaaW.PrintMore
set_option linter.unusedVariables false
set_option linter.unusedSimpArgs false

set_option maxHeartbeats 4000000 in
set_option maxRecDepth 100000 in
theorem awake_calls (w : World) : Calls Try.prog 15 #[] w fun e w' => e = .returned (.bool true) ∧ Below w.heap.size w w' := by
  have h0 : w.heap.size ≤ w.heap.size := Nat.le_refl _
  go_enter Try.func15, Try.ntmps15
  go_wp2_with (first
    | (go_at_call 16; refine (new_calls w.heap.size w h0).mono ?_; rintro e w1 ⟨g, rfl, hl, hb⟩; have HL1 := Aside0.mk hl; have HB1 := Aside0.mk hb; clear hl hb)
    | (go_at_call 17; refine (take_calls w.heap.size g (-1) 1 [] w1 HL1.out (by simp) HB1.out.size).mono ?_; rintro e w2 ⟨rfl, hl, hb⟩; have HL2 := Aside0.mk (show IsLock w.heap.size w2 g 1 [] from hl); have HB2 := Aside0.mk (HB1.out.trans hb); clear hl hb HL1)
    | (go_at_call 17; refine (take_calls w.heap.size g 1 2 [] w2 HL2.out (by simp) HB2.out.size).mono ?_; rintro e w3 ⟨rfl, hl, hb⟩; have HL3 := Aside0.mk (show IsLock w.heap.size w3 g 1 [2] from hl); have HB3 := Aside0.mk (HB2.out.trans hb); clear hl hb HL2)
    | (go_at_call 19; refine (give_calls w.heap.size g 1 1 [2] w3 HL3.out (by simp) HB3.out.size).mono ?_; rintro e w4 ⟨rfl, hl, hb⟩; have HB4 := Aside0.mk (HB3.out.trans hb); clear hl hb HL3; have e1 : gN 1 1 [2] = 2 := rfl; have e2 : gE 1 1 = 0 := rfl; rw [e1, e2]; clear e1 e2))
  go_ret
  exact ⟨rfl, HB4.out⟩
end Go.Proofs.Ythdnlhcepndncaa.Locks

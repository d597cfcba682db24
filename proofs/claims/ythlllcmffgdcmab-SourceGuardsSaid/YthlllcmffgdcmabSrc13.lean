import Derived.Test.YthlllcmffgdcmabSrc12
import Derived.Test.YthlllcmffgdcmabSrc8
namespace Go.Proofs.Ythlllcmffgdcmab.Src
open Go.RowKit Go.Proofs.YthlllcmffgdcmabW.PrintWords Go.Proofs.YthlllcmffgdcmabW.PrintLast Go.Proofs.YthlllcmffgdcmabW.PrintMore
set_option linter.unusedVariables false
set_option linter.unusedSimpArgs false

set_option maxHeartbeats 1000000 in
theorem passes_calls (s : ByteArray) (w : World) (hs : s.size < 9223372036854775807) : Calls Try.prog 18 #[.string s] w fun e w' => e = .returned (.bool true) ∧ Below w.heap.size w w' := by
  have h1 := hmf
  obtain ⟨W1, hW1⟩ : ∃ W1, W1 = (w.alloc (.cells #[.string s] 9)).alloc (.cells #[.bool false] 4) := ⟨_, rfl⟩
  have hb0 : W1.heap[w.heap.size]? = some (.cells #[.string s] 9 (0, 0)) := hW1 ▸ blk_alloc (blk_new w _) _
  have hb1 : W1.heap[w.heap.size + 1]? = some (.cells #[.bool false] 4 (0, 0)) := by
    have := blk_new (w.alloc (.cells #[.string s] 9)) (.cells #[.bool false] 4)
    rw [show (w.alloc (.cells #[.string s] 9)).heap.size = w.heap.size + 1 by simp, ← hW1] at this
    exact this
  have HL := Aside0.mk (show Below w.heap.size w W1 from hW1 ▸ below_alloc (below_alloc (Below.refl _ _) _) _)
  have HG := Aside0.mk (guard_other 58 #[.pointer (some ⟨w.heap.size, 0, none⟩)] (callFunc58 _) (.string (({ data := #[120] } : ByteArray) ++ s)) W1 (fun w' => Below W1.heap.size W1 w')
    fun W hW => (passes2 ⟨w.heap.size, 0, none⟩ s W ((blk_cell (blk_below hb0 hW) 0).trans rfl) hs).mono fun e w' ⟨h1, h2⟩ => ⟨h1, h2 ▸ hW⟩)
  have HB := Aside0.mk (And.intro hb0 hb1)
  have HW := Aside0.mk hW1.symm
  have HS := Aside0.mk hs
  clear hW1 hb0 hb1 hs
  go_enter_defers Try.func18, Try.ntmps18
  go_wp2_with (go_at_call 16; rw [HW.out]; refine HG.out.mono ?_; rintro e w2 ⟨rfl, hb⟩; have H2 := Aside0.mk hb; clear hb)
  have hb2 := blk_below HB.out.1 H2.out
  have hb3 := blk_below HB.out.2 H2.out
  refine leaves_cons (f := 57) (args := #[.pointer (some ⟨w.heap.size, 0, none⟩), .pointer (some ⟨w.heap.size + 1, 0, none⟩)]) (by simp) (by simp [go_sem]) ?_
  refine (passes1 _ _ s false [{ v := xs9 s, recovered := true }] w2 ((blk_cell hb2 0).trans rfl) ((blk_cell hb3 0).trans rfl) (blk_frozen hb3 0) HS.out).mono ?_
  rintro e u' w'' ⟨rfl, rfl, rfl⟩
  have c9 : (w2.drew.setCell ⟨w.heap.size + 1, 0, none⟩ (.bool true)).cell? ⟨w.heap.size + 1, 0, none⟩ = some (.bool true) := (blk_cell (blk_set (blk_drew hb3) 0 (.bool true)) 0).trans rfl
  have B9 : Below w.heap.size w (w2.drew.setCell ⟨w.heap.size + 1, 0, none⟩ (.bool true)) := ((below_step HL.out H2.out).drew).setCell (by simp) _
  have HB9 := Aside0.mk B9
  clear hb2 hb3 B9
  generalize w2.drew.setCell ⟨w.heap.size + 1, 0, none⟩ (.bool true) = w9 at c9 HB9 ⊢
  simp [Leaves, settle, results, Try.f18, go_sem, c9, HB9.out]

set_option maxHeartbeats 1000000 in
theorem nothing_calls (w : World) : Calls Try.prog 17 #[] w fun e w' => e = .returned (.tuple #[]) ∧ w' = w := by
  go_enter Try.func17, Try.ntmps17
  go_wp2
  refine bodyPost_end (results_none rfl _ _ _) rfl ⟨rfl, rfl⟩
theorem callFunc17 (caps : Array Value) (W : World) : (callFunc 17 caps).run Try.prog W = .ok (.enter 17 caps) W := by kernel_rfl

set_option maxHeartbeats 1000000 in
theorem guards_law (s : ByteArray) (w : World) (hs : s.size < 9223372036854775807) : Calls Try.prog 3 #[.string s] w fun e w' => e = .returned (.bool true) ∧ Below w.heap.size w w' := by
  have HP := Aside0.mk (fun W => passes_calls s W hs)
  have HG := Aside0.mk (fun w : World => guard_well 17 #[] (callFunc17 _) w (fun w' => Below w.heap.size w w') (fun W hW => (nothing_calls W).mono fun e w' ⟨h1, h2⟩ => ⟨h1, h2 ▸ Since.refl _ _, h2 ▸ hW⟩))
  clear hs
  go_enter Try.func3, Try.ntmps3
  go_wp2_with (first
    | (go_at_call 15; (with_reducible refine (awake_calls w).mono ?_); rintro e w1 ⟨rfl, hb⟩; have B1 := Aside0.mk hb; clear hb)
    | (go_at_call 16; (with_reducible refine (HG.out w1).mono ?_); rintro e w3 ⟨rfl, w2, hb, ht, hb2⟩; rw [zU_eq]; have B3 := Aside0.mk ((below_step B1.out hb).trans (hb2.mono B1.out.size)); clear hb ht hb2)
    | (go_at_call 18; (with_reducible refine (HP.out _).mono ?_); rintro e w4 ⟨rfl, hb⟩; have B4 := Aside0.mk hb; clear hb))
  go_ret
  exact ⟨rfl, below_step (B3.out.alloc B3.out.size _) B4.out⟩
end Go.Proofs.Ythlllcmffgdcmab.Src

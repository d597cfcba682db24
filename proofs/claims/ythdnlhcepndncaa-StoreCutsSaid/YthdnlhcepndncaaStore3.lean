import Derived.Test.YthdnlhcepndncaaStore2
namespace Go.Proofs.Ythdnlhcepndncaa.Stores
open Go.RowKit Go.Proofs.YthdnlhcepndncaaW.PrintWords Go.Proofs.YthdnlhcepndncaaW.PrintLast Go.Proofs.YthdnlhcepndncaaW.PrintMore
set_option linter.unusedVariables false
set_option linter.unusedSimpArgs false
variable (B g : Nat) (xs : List Int) (safe room left : Int) (dead : Bool) (w : World) (h : IsStore B w g xs safe room left dead)
include h
theorem arm_calls (n : Int) (hn : 0 ≤ n) (hB : B ≤ w.heap.size) : Calls Try.prog 47 #[.pointer (some ⟨g, 0, none⟩), .int .i64 n] w fun e w' => e = .returned (.tuple #[]) ∧ IsStore B w' g xs safe room n dead ∧ Below B w w' := by
  obtain ⟨hg, v, hb, ho⟩ := h
  have c3 : w.cell? ⟨g, 3, none⟩ = some (.int .i64 left) := (blk_cell hb 3).trans rfl
  have f3 := blk_frozen hb 3
  have HB := Aside0.mk hb
  have HO := Aside0.mk ho
  have hm : max n (-1) = n := by omega
  clear hb ho
  go_enter Try.func47, Try.ntmps47
  go_wp2
  refine bodyPost_end (results_none rfl _ _ _) rfl ⟨rfl, ⟨hg, v, by simpa using blk_set HB.out 3 _, own_setCell HO.out (own_ne HO.out HB.out (by decide)) _⟩, (Below.refl _ _).setCell hg _⟩
end Go.Proofs.Ythdnlhcepndncaa.Stores

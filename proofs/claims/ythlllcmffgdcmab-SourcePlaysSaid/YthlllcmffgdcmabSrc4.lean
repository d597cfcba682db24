import Derived.Test.YthlllcmffgdcmabSrc3
namespace Go.Proofs.Ythlllcmffgdcmab.Src
open Go.RowKit Go.Proofs.YthlllcmffgdcmabW.PrintWords Go.Proofs.YthlllcmffgdcmabW.PrintLast Go.Proofs.YthlllcmffgdcmabW.PrintMore
set_option linter.unusedVariables false
set_option linter.unusedSimpArgs false

theorem callFunc61 (caps : Array Value) (W : World) : (callFunc 61 caps).run Try.prog W = .ok (.enter 61 caps) W := by kernel_rfl

set_option maxHeartbeats 1000000 in
theorem run_ok (s a b c d : Nat) (kind n v x : Int) (w : World) (P : World → Prop)
    (ha : w.heap[a]? = some (.cells #[.pointer (some ⟨s, 0, none⟩)] 33 (0, 0))) (hb : w.heap[b]? = some (.cells #[.int .i64 kind] 3 (0, 0))) (hc : w.heap[c]? = some (.cells #[.int .i64 n] 3 (0, 0)))
    (hrun : Calls Try.prog 62 #[.pointer (some ⟨s, 0, none⟩), .int .i64 kind, .int .i64 n] w fun e w' => e = .returned (.int .i64 v) ∧ P w' ∧ w'.heap[d]? = some (.cells #[.int .i64 x] 3 (0, 0))) :
    Calls Try.prog 61 #[.pointer (some ⟨a, 0, none⟩), .pointer (some ⟨b, 0, none⟩), .pointer (some ⟨c, 0, none⟩), .pointer (some ⟨d, 0, none⟩)] w fun e w' => e = .returned (.tuple #[]) ∧ ∃ w1, P w1 ∧ w1.heap[d]? = some (.cells #[.int .i64 x] 3 (0, 0)) ∧ w' = w1.setCell ⟨d, 0, none⟩ (.int .i64 v) := by
  have HR := Aside0.mk hrun
  have k0 : w.cell? ⟨a, 0, none⟩ = some (.pointer (some ⟨s, 0, none⟩)) := (blk_cell ha 0).trans rfl
  have k1 : w.cell? ⟨b, 0, none⟩ = some (.int .i64 kind) := (blk_cell hb 0).trans rfl
  have k2 : w.cell? ⟨c, 0, none⟩ = some (.int .i64 n) := (blk_cell hc 0).trans rfl
  clear hrun ha hb hc
  go_enter Try.func61, Try.ntmps61
  go_wp2_with (go_at_call 62; refine HR.out.mono ?_; rintro e w1 ⟨rfl, hp, hd⟩; have HP := Aside0.mk hp; have HD := Aside0.mk hd; have d0 := (blk_cell hd 0).trans rfl; have f0 := blk_frozen hd 0; clear hp hd)
  refine bodyPost_end (results_none rfl _ _ _) rfl ⟨rfl, w1, HP.out, HD.out, rfl⟩

set_option maxHeartbeats 1000000 in
theorem run_panics (s a b c d : Nat) (kind n : Int) (pv : Value) (w : World) (P : World → Prop)
    (ha : w.heap[a]? = some (.cells #[.pointer (some ⟨s, 0, none⟩)] 33 (0, 0))) (hb : w.heap[b]? = some (.cells #[.int .i64 kind] 3 (0, 0))) (hc : w.heap[c]? = some (.cells #[.int .i64 n] 3 (0, 0)))
    (hrun : Calls Try.prog 62 #[.pointer (some ⟨s, 0, none⟩), .int .i64 kind, .int .i64 n] w fun e w' => e = .panicked [{ v := pv, recovered := false }] ∧ P w') :
    Calls Try.prog 61 #[.pointer (some ⟨a, 0, none⟩), .pointer (some ⟨b, 0, none⟩), .pointer (some ⟨c, 0, none⟩), .pointer (some ⟨d, 0, none⟩)] w fun e w' => e = .panicked [{ v := pv, recovered := false }] ∧ P w' := by
  have HR := Aside0.mk hrun
  have k0 : w.cell? ⟨a, 0, none⟩ = some (.pointer (some ⟨s, 0, none⟩)) := (blk_cell ha 0).trans rfl
  have k1 : w.cell? ⟨b, 0, none⟩ = some (.int .i64 kind) := (blk_cell hb 0).trans rfl
  have k2 : w.cell? ⟨c, 0, none⟩ = some (.int .i64 n) := (blk_cell hc 0).trans rfl
  clear hrun ha hb hc
  go_enter Try.func61, Try.ntmps61
  go_wp2_with (go_at_call 62; refine HR.out.mono ?_; rintro e w1 ⟨rfl, hp⟩; have HP := Aside0.mk hp; clear hp)
  exact ⟨rfl, rfl, HP.out⟩
end Go.Proofs.Ythlllcmffgdcmab.Src

import Derived.Test.YthdnlhcepndncaaStore1
namespace Go.Proofs.Ythdnlhcepndncaa.Stores
open Go.RowKit Go.Proofs.YthdnlhcepndncaaW.PrintWords Go.Proofs.YthdnlhcepndncaaW.PrintLast Go.Proofs.YthdnlhcepndncaaW.PrintMore
set_option linter.unusedVariables false
set_option linter.unusedSimpArgs false
theorem info5 : (Try.prog.info? 5).map (fun i => (i.zero, i.size, i.bytes)) = some (some (.int .u8 0), 1, 1) := by kernel_rfl
variable (B g : Nat) (xs : List Int) (safe room left : Int) (dead : Bool) (w : World) (h : IsStore B w g xs safe room left dead)
include h

set_option maxHeartbeats 4000000 in
theorem append_cut (y : ByteArray) (hE : cE left dead = 8) (hl : left ≤ 9223372036854775807) (hB : B ≤ w.heap.size) : Calls Try.prog 41 #[.pointer (some ⟨g, 0, none⟩), .string y] w fun e w' =>
    e = .returned (.int .i64 8) ∧ IsStore B w' g xs safe room (cL left dead) (cD left dead) ∧ Below B w w' := by
  have HS := Aside0.mk h
  clear h
  go_enter Try.func41, Try.ntmps41
  go_wp2_with (first
    | (go_at_call 51; (with_reducible refine (call_calls B g xs safe room left dead w HS.out hl hB).mono ?_); rintro e w1 ⟨rfl, hs, hb⟩; rw [hE]; have HS1 := Aside0.mk hs; have HB1 := Aside0.mk hb; clear hs hb))
  go_ret
  exact ⟨rfl, HS1.out, HB1.out⟩

set_option maxHeartbeats 4000000 in
theorem append_ok (y : ByteArray) (hE : cE left dead = 0) (hl : left ≤ 9223372036854775807) (hB : B ≤ w.heap.size) (hr : (xs.length : Int) + y.size ≤ room) (hr2 : room ≤ 1000000) : Calls Try.prog 41 #[.pointer (some ⟨g, 0, none⟩), .string y] w fun e w' =>
    e = .returned (.int .i64 0) ∧ IsStore B w' g (xs ++ bytesOf y) safe room (cL left dead) (cD left dead) ∧ Below B w w' := by
  have HS := Aside0.mk h
  clear h
  have q1 : decide (room - (xs.length : Int) < (y.size : Int)) = false := decide_eq_false (by omega)
  have q2 : wrap64 (room - (xs.length : Int)) = room - (xs.length : Int) := by clear q1; simp only [wrap64]; omega
  have HLN := Aside0.mk (show xs.length + y.size ≤ 140737488355328 by clear q1 q2; omega)
  go_enter Try.func41, Try.ntmps41
  go_wp2_with (first
    | (go_at_call 51; (with_reducible refine (call_calls B g xs safe room left dead w HS.out hl hB).mono ?_); rintro e w1 ⟨rfl, hs, hb⟩; rw [hE]; obtain ⟨hg, v, hh, ho⟩ := hs; obtain ⟨A1, cc1, rfl⟩ := own_slice ho; have c0 : w1.cell? ⟨g, 0, none⟩ = some (.slice A1 xs.length cc1) := (blk_cell hh 0).trans rfl; have c2 : w1.cell? ⟨g, 2, none⟩ = some (.int .i64 room) := (blk_cell hh 2).trans rfl; have HH := Aside0.mk hh; have HO := Aside0.mk ho; have HB1 := Aside0.mk hb; clear hh ho hb))
  go_region_held3 (fun w' => w'.cell? ⟨g, 0, none⟩ = some (.slice A1 xs.length cc1) ∧ w'.cell? ⟨g, 2, none⟩ = some (.int .i64 room)) (go_keep) (fail)
  have HOd := Aside0.mk (show w1.drew.ownsRow B 5 1 (.slice A1 xs.length cc1) xs.length (nums .u8 xs) from HO.out)
  have HHd := Aside0.mk (blk_drew HH.out)
  have HBd := Aside0.mk (HB1.out.drew)
  generalize w1.drew = wd at HOd HHd HBd ⊢
  have c0 : wd.cell? ⟨g, 0, none⟩ = some (.slice A1 xs.length cc1) := (blk_cell HHd.out 0).trans rfl
  have q3 : IntKind.i64.wrap (room - (xs.length : Int)) = room - (xs.length : Int) := by clear q1 q2; rw [IntKind.wrap_i64]; omega
  clear q2
  go_wp2_with (first
    | (at_builtin; refine print_append_str (w0 := w) B rfl _ _ 66 9 5 rfl Try.underlying66 Try.underlying9 info5 _ xs y rfl rfl HOd.out HBd.out (Nat.le_trans hB HBd.out.size) HLN.out ?_; intro v1 w2 hown hbel hgr; have HH2 := Aside0.mk (blk_grown HHd.out hgr (own_ne HOd.out HHd.out (by decide))); have HO2 := Aside0.mk hown; have HB2 := Aside0.mk hbel; clear c0 hbel hgr; obtain ⟨A2, cc2, rfl⟩ := own_slice hown; clear hown; have d0 := (blk_cell HH2.out 0).trans rfl; have f0 := blk_frozen HH2.out 0))
  go_ret
  exact ⟨rfl, ⟨hg, _, by simpa using blk_set HH2.out 0 _, own_setCell HO2.out (own_ne HO2.out HH2.out (by decide)) _⟩, HB2.out.setCell hg _⟩
end Go.Proofs.Ythdnlhcepndncaa.Stores

import Derived.Test.YthlllcmffgdcmabFrame3
namespace Go.Proofs.Ythlllcmffgdcmab.Frame
open Go.RowKit Go.Proofs.YthlllcmffgdcmabW.PrintWords Go.Proofs.YthlllcmffgdcmabW.PrintLast Go.Proofs.YthlllcmffgdcmabW.PrintMore
attribute [local go_sem] max2_int min2_int max_two min_two
set_option linter.unusedVariables false
set_option linter.unusedSimpArgs false

theorem stk_new (w : World) (f a into : Int) : Stk (w.alloc (.cells (frV f a into) 70)) w.heap.size (.slice (some ⟨w.heap.size, 0, none⟩) 1 1) 1 (fr f a into) :=
  ⟨rfl, rfl, .inr ⟨w.heap.size, 1, frV f a into, rfl, Nat.le_refl _, blk_new w _, Nat.le_refl _, by unfold maxLen; omega, rfl, rfl⟩⟩
theorem Stk.ge {w : World} {B g n cap : Nat} {xs : List Int} (h : Stk w B (.slice (some ⟨g, 0, none⟩) n cap) n xs) : B ≤ g := own_base h.2 g rfl

theorem ptr_ne (a : Addr) (w : World) : (binOp .eql 71 (.pointer (some a)) (.pointer none)).run Try.prog w = .ok (.bool false) w := by kernel_rfl

theorem top1 (g cap : Nat) (w : World) : Calls Try.prog 36 #[.slice (some ⟨g, 0, none⟩) 1 cap] w fun e w' => e = .returned (.pointer (some ⟨g, 0, none⟩)) ∧ w = w' := top_calls g 1 cap w (by omega) (by omega)
theorem begin05 (w : World) : Calls Try.prog 33 #[.int .i64 0, .int .i64 5] w fun e w' => e = .returned (.slice (some ⟨w.heap.size, 0, none⟩) 1 1) ∧ Stk w' w.heap.size (.slice (some ⟨w.heap.size, 0, none⟩) 1 1) 1 (fr 0 5 0) ∧ Below w.heap.size w w' :=
  (begin_calls 0 5 w).mono fun e w' ⟨h1, h2⟩ => ⟨h1, by rw [h2]; exact stk_new w 0 5 0, by rw [h2]; exact below_alloc (Below.refl _ _) _⟩
theorem aw_const (B g : Nat) (w0 w : World) (h : Stk w B (.slice (some ⟨g, 0, none⟩) 1 1) 1 (fr 0 5 0)) (hb : Below B w0 w) (hB : B ≤ w.heap.size) : Calls Try.prog 37 #[.pointer (some ⟨g, 0, none⟩), .agg #[.int .i64 1, .int .i64 1, .int .i64 7, .int .i64 0]] w fun e w' =>
    e = .returned (.bool true) ∧ Stk w' B (.slice (some ⟨g, 0, none⟩) 1 1) 1 [0, 1, 5, 7, 0, 0, 0, 0, 0, 0, 0] ∧ Below B w0 w' ∧ B ≤ w'.heap.size :=
  (pure_const B g 1 1 (fr 0 5 0) 0 1 (by omega) 7 w h (by omega) rfl (by omega) (by omega)).mono fun e w' ⟨h1, h2, h3⟩ => ⟨h1, h2, hb.grown h3 hB (fun k hk => by cases hk; exact h.ge), Nat.le_trans hB h3.size⟩
theorem aw_add (B g : Nat) (w0 w : World) (h : Stk w B (.slice (some ⟨g, 0, none⟩) 1 1) 1 [0, 1, 5, 7, 0, 0, 0, 0, 0, 0, 0]) (hb : Below B w0 w) (hB : B ≤ w.heap.size) : Calls Try.prog 37 #[.pointer (some ⟨g, 0, none⟩), .agg #[.int .i64 3, .int .i64 2, .int .i64 0, .int .i64 1]] w fun e w' =>
    e = .returned (.bool true) ∧ Stk w' B (.slice (some ⟨g, 0, none⟩) 1 1) 1 [0, 2, 5, 7, 12, 0, 0, 0, 0, 0, 0] ∧ Below B w0 w' ∧ B ≤ w'.heap.size :=
  (pure_add B g 1 1 _ 1 2 0 1 (by omega) (by omega) (by omega) 5 7 w h (by omega) rfl (by omega) (by omega) rfl rfl (by omega) (by omega)).mono fun e w' ⟨h1, h2, h3⟩ => ⟨h1, h2, hb.grown h3 hB (fun k hk => by cases hk; exact h.ge), Nat.le_trans hB h3.size⟩
theorem aw_no (g : Nat) (w : World) : Calls Try.prog 37 #[.pointer (some ⟨g, 0, none⟩), .agg #[.int .i64 12, .int .i64 0, .int .i64 0, .int .i64 0]] w fun e w' => e = .returned (.bool false) ∧ Below w.heap.size w w' := pure_no g 1 w

set_option maxHeartbeats 2000000 in
set_option maxRecDepth 100000 in
theorem awake_calls (w : World) : Calls Try.prog 32 #[] w fun e w' => e = .returned (.bool true) ∧ Below w.heap.size w w' := by
  have hp := ptr_ne
  obtain ⟨B, hBe⟩ : ∃ B, w.heap.size = B := ⟨_, rfl⟩
  have hb5 := begin05 w
  rw [hBe] at hb5 ⊢
  have HBE := Aside0.mk hBe
  have H5 := Aside0.mk hb5
  clear hBe hb5
  go_enter Try.func32, Try.ntmps32
  go_wp2_with (first
    | (go_at_call 33; (with_reducible refine H5.out.mono ?_); rintro e w1 ⟨rfl, hS, hB⟩; have HS1 := Aside0.mk hS; have HB1 := Aside0.mk (And.intro hB (show B ≤ w1.heap.size from HBE.out ▸ hB.size)); clear hS hB)
    | (go_at_call 36; (with_reducible refine (top1 B 1 _).mono ?_); rintro e w' ⟨rfl, rfl⟩)
    | (go_at_call 37; (with_reducible refine (aw_const B B w w1 HS1.out HB1.out.1 HB1.out.2).mono ?_); rintro e w2 ⟨rfl, hS, hB⟩; have HS2 := Aside0.mk hS; have HB2 := Aside0.mk hB; clear hS hB)
    | (go_at_call 37; (with_reducible refine (aw_add B B w w2 HS2.out HB2.out.1 HB2.out.2).mono ?_); rintro e w3 ⟨rfl, hS, hB⟩; have HB3 := Aside0.mk hB; have r2 : w3.cell? ⟨B, 4, none⟩ = some (.int .i64 12) := (hS.setK (by omega) (j := 4) (by omega)).1; have r1 : w3.cell? ⟨B, 1, none⟩ = some (.int .i64 2) := (hS.setK (by omega) (j := 1) (by omega)).1; clear hS hB)
    | (go_at_call 37; (with_reducible refine (aw_no B w3).mono ?_); rintro e w4 ⟨rfl, hb⟩; have HB4 := Aside0.mk (below_then HB3.out.1 HB3.out.2 hb); clear hb))
  go_ret
  exact ⟨rfl, HB4.out⟩
end Go.Proofs.Ythlllcmffgdcmab.Frame

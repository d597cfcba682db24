import Derived.Test.YthlllcmffgdcmabHeap9
import Derived.Test.YthlllcmffgdcmabHeapSorts
namespace Go.Proofs.Ythlllcmffgdcmab.Heap
open Go.RowKit Go.Proofs.YthlllcmffgdcmabW.PrintWords Go.Proofs.YthlllcmffgdcmabW.PrintLast Go.Proofs.YthlllcmffgdcmabW.PrintMore Go.Proofs.Ythlllcmffgdcmab.HeapPlain
set_option linter.unusedVariables false
set_option linter.unusedSimpArgs false

/-- A heap of nothing. -/
theorem new_heap (w : World) : IsHeap w.heap.size (w.alloc (.cells #[.slice none 0 0, .int .u64 0] 83)) w.heap.size (.slice none 0 0) [] 0 := ⟨Nat.le_refl _, blk_new _ _, Row.nil _ _⟩
theorem psh_len (l : List It) (x : It) (h : HeapPlain.H l) : (psh l x).length = l.length + 1 := (psh_spec l x h).2.2

theorem push_b (B p : Nat) (v : Value) (l : List It) (sq t id : Int) (w0 w : World) (h : IsHeap B w p v l sq) (hl : l.length ≤ 900) (hs0 : 0 ≤ sq) (hs1 : sq ≤ 1000000) (hb : Below B w0 w) : Calls Try.prog 40 #[.pointer (some ⟨p, 0, none⟩), .int .u64 t, .int .i64 id] w fun e w' =>
    e = .returned (.int .u64 sq) ∧ ∃ v', IsHeap B w' p v' (psh l ⟨t, sq, id⟩) (sq + 1) ∧ Below B w0 w' :=
  (push_calls B p v l sq t id w h hl hs0 hs1).mono fun e w' ⟨h1, v', h2, h3⟩ => ⟨h1, v', h2, hb.trans h3.below⟩

theorem aw_wake (B p : Nat) (v : Value) (w0 w : World) (h : IsHeap B w p v (psh (psh (psh [] ⟨5, 0, 1⟩) ⟨3, 1, 2⟩) ⟨5, 2, 3⟩) 3) (ho : HeapPlain.H (psh (psh (psh [] ⟨5, 0, 1⟩) ⟨3, 1, 2⟩) ⟨5, 2, 3⟩)) (hl : (psh (psh (psh [] ⟨5, 0, 1⟩) ⟨3, 1, 2⟩) ⟨5, 2, 3⟩).length ≤ 1000) (hb : Below B w0 w) : Calls Try.prog 42 #[.pointer (some ⟨p, 0, none⟩), .int .u64 5] w fun e w' =>
    ∃ gg cp v', e = .returned (.slice (some ⟨gg, 0, none⟩) 3 cp) ∧ w'.cell? ⟨gg, 2, none⟩ = some (.int .i64 2) ∧ w'.cell? ⟨gg, 5, none⟩ = some (.int .i64 1) ∧ w'.cell? ⟨gg, 8, none⟩ = some (.int .i64 3) ∧ IsHeap B w' p v' [] 3 ∧ Below B w0 w' :=
  (wake_calls B p v _ _ 5 w h hl ho).mono fun e w' ⟨vo, os, v', l', h1, h2, h3⟩ => by
    obtain ⟨rfl, rfl⟩ := awake_list os l' h2.perm h2.sorted h3
    obtain ⟨gg, cp, rfl, _, _, _, hcell, _⟩ := h2.out.form (by decide)
    exact ⟨gg, cp, v', h1, (hcell 0 (by decide)).2.2, (hcell 1 (by decide)).2.2, (hcell 2 (by decide)).2.2, h2.heap, hb.trans h2.step.below⟩

set_option maxHeartbeats 4000000 in
set_option maxRecDepth 100000 in
theorem awake_calls (w : World) : Calls Try.prog 39 #[] w fun e w' => e = .returned (.bool true) ∧ Below w.heap.size w w' := by
  have HN := Aside0.mk (new_heap w)
  have HB := Aside0.mk (below_alloc (Below.refl w.heap.size w) (.cells #[.slice none 0 0, .int .u64 0] 83))
  obtain ⟨B, hB⟩ : ∃ B, w.heap.size = B := ⟨_, rfl⟩
  rw [hB] at HN HB ⊢
  go_enter Try.func39, Try.ntmps39
  go_upto_region 2 with (fail)
  change Code.wp _ _ _ _ (w.alloc (.cells #[.slice none 0 0, .int .u64 0] 83))
  generalize w.alloc (.cells #[.slice none 0 0, .int .u64 0] 83) = w1 at HN HB ⊢
  clear hB
  have e1 := psh_spec [] ⟨5, 0, 1⟩ H_nil
  have e2 := psh_spec _ ⟨3, 1, 2⟩ e1.1
  have e3 := psh_spec _ ⟨5, 2, 3⟩ e2.1
  have HL := Aside0.mk (And.intro e1.2.2 (And.intro e2.2.2 e3.2.2))
  have HO := Aside0.mk e3.1
  have HP := Aside0.mk (fun os l' hp hs hl => awake_list os l' hp hs hl)
  clear e1 e2 e3
  generalize hl1 : psh [] ⟨5, 0, 1⟩ = l1 at HL HO HP
  generalize hl2 : psh l1 ⟨3, 1, 2⟩ = l2 at HL HO HP
  generalize hl3 : psh l2 ⟨5, 2, 3⟩ = l3 at HL HO HP
  have H1 := Aside0.mk hl1
  have H2 := Aside0.mk hl2
  have H3 := Aside0.mk hl3
  clear hl1 hl2 hl3
  go_wp2_with (first
    | (go_at_call 40; (with_reducible refine (push_b B B _ [] 0 5 1 w w1 HN.out (by decide) (by decide) (by decide) HB.out).mono ?_); rintro e w2 ⟨rfl, v2, hR, hb⟩; rw [H1.out] at hR; have HR2 := Aside0.mk (show IsHeap B w2 B v2 l1 1 from hR); have HB2 := Aside0.mk hb; clear hR hb)
    | (go_at_call 40; (with_reducible refine (push_b B B v2 l1 1 3 2 w w2 HR2.out (by rw [HL.out.1]; decide) (by decide) (by decide) HB2.out).mono ?_); rintro e w3 ⟨rfl, v3, hR, hb⟩; rw [H2.out] at hR; have HR3 := Aside0.mk (show IsHeap B w3 B v3 l2 2 from hR); have HB3 := Aside0.mk hb; clear hR hb)
    | (go_at_call 40; (with_reducible refine (push_b B B v3 l2 2 5 3 w w3 HR3.out (by rw [HL.out.2.1, HL.out.1]; decide) (by decide) (by decide) HB3.out).mono ?_); rintro e w4 ⟨rfl, v4, hR, hb⟩; rw [H3.out] at hR; have HR4 := Aside0.mk (show IsHeap B w4 B v4 l3 3 from hR); have HB4 := Aside0.mk hb; clear hR hb)
    | (go_at_call 42; (with_reducible refine (aw_wake B B v4 w w4 (by rw [H1.out, H2.out, H3.out]; exact HR4.out) (by rw [H1.out, H2.out, H3.out]; exact HO.out) (by rw [H1.out, H2.out, H3.out, HL.out.2.2, HL.out.2.1, HL.out.1]; decide) HB4.out).mono ?_); rintro e w5 ⟨gg, cp, v5, rfl, d0, d1, d2, hR, hb⟩; have HR5 := Aside0.mk hR; have HB5 := Aside0.mk hb; clear hR hb)
    | (go_at_call 43; (with_reducible refine (len_calls B B v5 [] _ w5 HR5.out).mono ?_); rintro e w6 ⟨rfl, rfl⟩))
  go_ret
  exact ⟨rfl, HB5.out⟩
end Go.Proofs.Ythlllcmffgdcmab.Heap

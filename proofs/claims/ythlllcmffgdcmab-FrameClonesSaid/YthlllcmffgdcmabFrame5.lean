import Derived.Test.YthlllcmffgdcmabFrame4
import Derived.Deep.DeepCutAuto
import Derived.Deep.CutBlock
namespace Go.Proofs.Ythlllcmffgdcmab.Frame
open Go.RowKit Go.Proofs.YthlllcmffgdcmabW.PrintWords Go.Proofs.YthlllcmffgdcmabW.PrintLast Go.Proofs.YthlllcmffgdcmabW.PrintMore
attribute [local go_sem] max2_int min2_int max_two min_two
set_option linter.unusedVariables false
set_option linter.unusedSimpArgs false

theorem Stk.other {w w' : World} {B g n cap g2 : Nat} {xs : List Int} (h : Stk w B (.slice (some ⟨g, 0, none⟩) n cap) n xs) (hg : w.grownBy w' (some g2)) (hne : g ≠ g2) : Stk w' B (.slice (some ⟨g, 0, none⟩) n cap) n xs :=
  ⟨h.1, own_other h.2 hg (.inr (by simp [Value.ownBlock]; exact hne))⟩
theorem Stk.lt {w : World} {B g n cap : Nat} {xs : List Int} (h : Stk w B (.slice (some ⟨g, 0, none⟩) n cap) n xs) : g < w.heap.size := own_lt h.2 g rfl
theorem begin_stk (f a : Int) (w : World) : Calls Try.prog 33 #[.int .i64 f, .int .i64 a] w fun e w' => e = .returned (.slice (some ⟨w.heap.size, 0, none⟩) 1 1) ∧ Stk w' w.heap.size (.slice (some ⟨w.heap.size, 0, none⟩) 1 1) 1 (fr f a 0) ∧ Below w.heap.size w w' :=
  (begin_calls f a w).mono fun e w' ⟨h1, h2⟩ => ⟨h1, by rw [h2]; exact stk_new w f a 0, by rw [h2]; exact below_alloc (Below.refl _ _) _⟩
theorem rd_app (xs : List Int) (f a into : Int) (n j : Nat) (h : xs.length = n * 11) : rd (xs ++ fr f a into) ((n * 11 + j : Nat) : Int) = rd (fr f a into) j := by
  unfold rd
  rw [Int.toNat_natCast, Int.toNat_natCast, List.getD_eq_getElem?_getD, List.getD_eq_getElem?_getD, List.getElem?_append_right (by omega), h]
  congr 2; omega

theorem top_succ (g n cap : Nat) (w : World) (hm : n ≤ 100) : Calls Try.prog 36 #[.slice (some ⟨g, 0, none⟩) (n + 1) cap] w fun e w' => e = .returned (.pointer (some ⟨g, n * 11, none⟩)) ∧ w = w' := top_calls g (n + 1) cap w (by omega) (by omega)
theorem clone_form (B g n cap : Nat) (xs : List Int) (w : World) (h : Stk w B (.slice (some ⟨g, 0, none⟩) n cap) n xs) (hn : 0 < n) (hm : n ≤ 16) : Calls Try.prog 35 #[.slice (some ⟨g, 0, none⟩) n cap] w fun e w' =>
    ∃ g2 c2, e = .returned (.slice (some ⟨g2, 0, none⟩) n c2) ∧ Stk w' w.heap.size (.slice (some ⟨g2, 0, none⟩) n c2) n xs ∧ Below w.heap.size w w' :=
  (clone_calls B _ n xs w h hn hm).mono fun e w' ⟨v', h1, h2, h3⟩ => by
    obtain ⟨g2, c2, rfl, _⟩ := h2.form hn
    exact ⟨g2, c2, h1, h2, h3⟩
theorem call_form (B g n cap : Nat) (xs : List Int) (f a into : Int) (w : World) (h : Stk w B (.slice (some ⟨g, 0, none⟩) n cap) n xs) (hn : 0 < n) (hm : n < 16) : Calls Try.prog 34 #[.slice (some ⟨g, 0, none⟩) n cap, .int .i64 f, .int .i64 a, .int .i64 into] w fun e w' =>
    ∃ g2 c2, e = .returned (.tuple #[.slice (some ⟨g2, 0, none⟩) (n + 1) c2, .bool true]) ∧ Stk w' w.heap.size (.slice (some ⟨g2, 0, none⟩) (n + 1) c2) (n + 1) (xs ++ fr f a into) ∧ Below w.heap.size w w' :=
  (call_calls B _ n xs f a into w h hn hm).mono fun e w' ⟨v', h1, h2, h3⟩ => by
    obtain ⟨g2, c2, rfl, _⟩ := h2.form (by omega)
    exact ⟨g2, c2, h1, h2, h3⟩
theorem t_const (B g n cap : Nat) (xs : List Int) (b : Int) (w : World) (h : Stk w B (.slice (some ⟨g, 0, none⟩) n cap) n xs) (hn : 0 < n) (ht : rd xs (((n - 1) * 11 + 1 : Nat) : Int) = 0) : Calls Try.prog 37 #[.pointer (some ⟨g, (n - 1) * 11, none⟩), .agg #[.int .i64 1, .int .i64 0, .int .i64 b, .int .i64 0]] w fun e w' =>
    e = .returned (.bool true) ∧ Stk w' B (.slice (some ⟨g, 0, none⟩) n cap) n ((xs.set ((n - 1) * 11 + 1) 1).set ((n - 1) * 11 + 2) b) ∧ w.grownBy w' (some g) :=
  (pure_const B g n cap xs 0 0 (by omega) b w h hn ht (by omega) (by omega))
theorem u_const (B g n cap : Nat) (xs : List Int) (b : Int) (w : World) (h : Stk w B (.slice (some ⟨g, 0, none⟩) (n + 1) cap) (n + 1) xs) (ht : rd xs ((n * 11 + 1 : Nat) : Int) = 0) : Calls Try.prog 37 #[.pointer (some ⟨g, n * 11, none⟩), .agg #[.int .i64 1, .int .i64 0, .int .i64 b, .int .i64 0]] w fun e w' =>
    e = .returned (.bool true) ∧ w.grownBy w' (some g) :=
  (pure_const B g (n + 1) cap xs 0 0 (by omega) b w h (by omega) ht (by omega) (by omega)).mono fun e w' ⟨h1, _, h2⟩ => ⟨h1, h2⟩
theorem ptr_nil (w : World) : (binOp .eql 71 (.pointer none) (.pointer none)).run Try.prog w = .ok (.bool true) w := by kernel_rfl

/-- What a stack holds at its top. -/
def At0 (B : Nat) (w0 : World) (v : Value) (w : World) : Prop := ∃ (g n cap : Nat) (xs : List Int), v = .slice (some ⟨g, 0, none⟩) n cap ∧ 0 < n ∧ n ≤ 6 ∧ Stk w B v n xs ∧ rd xs (((n - 1) * 11 + 1 : Nat) : Int) = 0 ∧ Below B w0 w ∧ B ≤ w.heap.size

set_option maxHeartbeats 4000000 in
set_option maxRecDepth 100000 in
theorem clones_law (A : Option Addr) (c : Nat) (xs : List Int) (a b : Int) (w : World) (hx : ReadsInt w .i64 A xs.length xs) :
    Calls Try.prog 8 #[.slice A xs.length c, .int .i64 a, .int .i64 b] w fun e w' => e = .returned (.bool true) ∧ Below w.heap.size w w' := by
  have HX := Aside0.mk hx
  obtain ⟨B, hBe⟩ : ∃ B, w.heap.size = B := ⟨_, rfl⟩
  have HBE := Aside0.mk hBe
  have HAW := Aside0.mk (awake_calls w)
  rw [hBe] at HAW ⊢
  clear hBe hx
  go_enter Try.func8, Try.ntmps8
  go_upto_block 0 with (first
    | (go_at_call 32; (with_reducible refine HAW.out.mono ?_); rintro e w1 ⟨rfl, hb⟩; have B1 := Aside0.mk (And.intro hb (show B ≤ w1.heap.size from HBE.out ▸ hb.size)); clear hb)
    | (go_at_call 33; (with_reducible refine (begin_stk 0 a w1).mono ?_); rintro e w2 ⟨rfl, hS, hb⟩; have HS2 := Aside0.mk (hS.lower B1.out.2); have HB2 := Aside0.mk (And.intro (below_then B1.out.1 B1.out.2 hb) (Nat.le_trans B1.out.2 hb.size)); clear hS hb))
  go_cut [7] (fun v wx => At0 B w v wx)
  case first =>
    go_wp2
    go_loopw [7, 8] (fun v i wr => ∃ k : Nat, k ≤ 5 ∧ k ≤ xs.length ∧ i = .int .i64 k ∧ ∃ (g cap : Nat) (ys : List Int), v = .slice (some ⟨g, 0, none⟩) (k + 1) cap ∧ Stk wr B v (k + 1) ys ∧ rd ys ((k * 11 + 1 : Nat) : Int) = 0 ∧ Below B w wr ∧ B ≤ wr.heap.size) (fun _ i _ => 5 - (intOf i).toNat)
    case atStart => exact ⟨0, by omega, by omega, rfl, _, _, _, rfl, HS2.out, rfl, HB2.out.1, HB2.out.2⟩
    case round =>
      obtain ⟨k, hk5, hkx, rfl, g, cap, ys, rfl, hS, h0, hb, hB⟩ := hrel
      have HS := Aside0.mk hS
      have H0 := Aside0.mk h0
      have HB := Aside0.mk (And.intro hb hB)
      clear hS h0 hb hB HS2 HB2
      by_cases hlt : k < xs.length
      · have q1 : decide ((k : Int) < (xs.length : Int)) = true := decide_eq_true (by omega)
        by_cases h5 : k < 5
        · have q2 : decide ((k : Int) < 5) = true := decide_eq_true (by omega)
          obtain ⟨ad, e0, x0⟩ := (HX.out.below (w1 := wr) (by rw [HBE.out]; exact HB.out.1)).at_ (k : Int) (by omega) (by omega)
          subst e0
          rw [Int.toNat_natCast] at x0
          generalize rd xs (k : Int) = x at x0
          have HC := Aside0.mk (call_calls B (.slice (some ⟨g, 0, none⟩) (k + 1) cap) (k + 1) ys k x k wr HS.out (by omega) (by omega))
          go_wp2_with (go_at_call 34; (with_reducible refine HC.out.mono ?_); rintro e w3 ⟨v3, rfl, hS3, hb3⟩; have HS3 := Aside0.mk hS3; have HB3 := Aside0.mk hb3; clear hS3 hb3)
          obtain ⟨g3, c3, rfl, _⟩ := HS3.out.form (by omega)
          refine ⟨⟨k + 1, by omega, by omega, by go_num, g3, c3, _, rfl, HS3.out.lower HB.out.2, ?_, below_then HB.out.1 HB.out.2 HB3.out, Nat.le_trans HB.out.2 HB3.out.size⟩, by simp [intOf]; omega⟩
          rw [rd_app _ _ _ _ _ _ HS.out.1]
          rfl
        · have q2 : decide ((k : Int) < 5) = false := decide_eq_false (by omega)
          go_wp2
          go_meet
          exact ⟨g, k + 1, cap, ys, rfl, by omega, by omega, HS.out, H0.out, HB.out⟩
      · have q1 : decide ((k : Int) < (xs.length : Int)) = false := decide_eq_false (by omega)
        go_wp2
        go_meet
        exact ⟨g, k + 1, cap, ys, rfl, by omega, by omega, HS.out, H0.out, HB.out⟩
  case rest =>
    clear HS2 HB2
    obtain ⟨g, n, cap, ys, rfl, hn, hn6, hS, h0, hb, hB⟩ := hcut
    have HS := Aside0.mk hS
    have H0 := Aside0.mk h0
    have HB := Aside0.mk (And.intro hb hB)
    have hp := ptr_nil
    have ks := (hS.setK hn (j := (n - 1) * 11 + 2) (by omega)).1
    obtain ⟨r0, hr0⟩ : ∃ r0, rd ys (((n - 1) * 11 + 2 : Nat) : Int) = r0 := ⟨_, rfl⟩
    rw [hr0] at ks
    have HR := Aside0.mk hr0
    clear hr0
    have HUR := Aside0.mk (show rd (ys ++ fr 1 b 2) ((n * 11 + 1 : Nat) : Int) = 0 by rw [rd_app _ _ _ _ _ _ hS.1]; rfl)
    clear hS h0 hb hB
    go_wp2_with (first
      | (go_at_call 35; (with_reducible refine (clone_form B g n cap ys wc HS.out (by omega) (by omega)).mono ?_); rintro e w3 ⟨g2, c2, rfl, hS2, hb2⟩; have HT3 := Aside0.mk hS2; have HS3 := Aside0.mk (HS.out.below hb2); have HB3 := Aside0.mk (And.intro (below_then HB.out.1 HB.out.2 hb2) (Nat.le_trans HB.out.2 hb2.size)); have ks3 := pw_cell_below hb2 ks; clear hS2 hb2 ks)
      | (go_at_call 36; (with_reducible refine (top_calls g n cap _ (by omega) (by omega)).mono ?_); rintro e w' ⟨rfl, rfl⟩)
      | (go_at_call 36; (with_reducible refine (top_calls g2 n c2 _ (by omega) (by omega)).mono ?_); rintro e w' ⟨rfl, rfl⟩)
      | (go_at_call 37; (with_reducible refine (t_const wc.heap.size g2 n c2 ys b w3 HT3.out (by omega) H0.out).mono ?_); rintro e w4 ⟨rfl, hT4, hG4⟩; have HT4 := Aside0.mk hT4; have HS4 := Aside0.mk (HS3.out.other hG4 (by have := HT3.out.ge; have := HS.out.lt; omega)); have HB4 := Aside0.mk (And.intro (HB3.out.1.grown hG4 HB3.out.2 (fun k hk => by cases hk; exact Nat.le_trans HB.out.2 HT3.out.ge)) (Nat.le_trans HB3.out.2 hG4.size)); clear hT4 hG4 ks3)
      | (go_at_call 34; (with_reducible refine (call_form B g n cap ys 1 b 2 w4 HS4.out (by omega) (by omega)).mono ?_); rintro e w5 ⟨g5, c5, rfl, hU, hb5⟩; have HU5 := Aside0.mk hU; have HS5 := Aside0.mk (HS4.out.below hb5); have HT5 := Aside0.mk (HT4.out.below hb5); have HB5 := Aside0.mk (And.intro (below_then HB4.out.1 HB4.out.2 hb5) (Nat.le_trans HB4.out.2 hb5.size)); clear hU hb5)
      | (go_at_call 36; (with_reducible refine (top_succ g5 n c5 _ (by omega)).mono ?_); rintro e w' ⟨rfl, rfl⟩)
      | (go_at_call 37; (with_reducible refine (u_const w4.heap.size g5 n c5 (ys ++ fr 1 b 2) 3 w5 HU5.out HUR.out).mono ?_); rintro e w6 ⟨rfl, hG6⟩; have HS6 := Aside0.mk (HS5.out.other hG6 (by have := HU5.out.ge; have := HS4.out.lt; omega)); have HT6 := Aside0.mk (HT5.out.other hG6 (by have := HU5.out.ge; have := HT4.out.lt; omega)); have HB6 := Aside0.mk (HB5.out.1.grown hG6 HB5.out.2 (fun k hk => by cases hk; exact Nat.le_trans HB4.out.2 HU5.out.ge)); have s2 := (HS6.out.setK (by omega) (j := (n - 1) * 11 + 2) (by omega)).1; have s1 := (HS6.out.setK (by omega) (j := (n - 1) * 11 + 1) (by omega)).1; have t2 := (HT6.out.setK (by omega) (j := (n - 1) * 11 + 2) (by omega)).1; rw [rd_set _ _ _ _ (by rw [List.length_set, HS.out.1]; omega), if_pos rfl] at t2; rw [H0.out] at s1; rw [HR.out] at s2; clear hG6)
      | (go_at_call 36; (with_reducible refine (top_nil _).mono ?_); rintro e w' ⟨rfl, rfl⟩))
    go_ret
    exact ⟨rfl, HB6.out⟩
end Go.Proofs.Ythlllcmffgdcmab.Frame

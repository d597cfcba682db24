import Derived.Test.YthlllcmffgdcmabFrame5
namespace Go.Proofs.Ythlllcmffgdcmab.Frame
open Go.RowKit Go.Proofs.YthlllcmffgdcmabW.PrintWords Go.Proofs.YthlllcmffgdcmabW.PrintLast Go.Proofs.YthlllcmffgdcmabW.PrintMore
attribute [local go_sem] max2_int min2_int max_two min_two
set_option linter.unusedVariables false
set_option linter.unusedSimpArgs false

theorem i64_and7 (n : Int) : Go.bits .and .i64 n 7 = n % 8 := by
  have h127 : (BitVec.ofInt 64 7).toNat = 2 ^ 3 - 1 := by decide
  have key : (BitVec.ofInt 64 n &&& BitVec.ofInt 64 7).toNat = (n % ((2 ^ 64 : Nat) : Int)).toNat % 2 ^ 3 := by
    rw [BitVec.toNat_and, BitVec.toNat_ofInt, h127, Nat.and_two_pow_sub_one_eq_mod]
  show IntKind.i64.wrap ((BitVec.ofInt 64 n &&& BitVec.ofInt 64 7).toNat : Nat) = n % 8
  rw [key, IntKind.wrap_i64]
  omega
theorem top_q (g n cap : Nat) (w : World) (hm : n ≤ 100) : Calls Try.prog 36 #[.slice (some ⟨g, 0, none⟩) (n + 1) cap] w fun e w' => e = .returned (.pointer (some ⟨g, n * 11, none⟩)) ∧ w' = w := top_still g (n + 1) cap w (by omega) (by omega)

set_option maxHeartbeats 1000000 in
theorem call_full (g n cap : Nat) (h : n = 15) (f a into : Int) (w : World) : Calls Try.prog 34 #[.slice (some ⟨g, 0, none⟩) (n + 1) cap, .int .i64 f, .int .i64 a, .int .i64 into] w fun e w' => e = .returned (.tuple #[.slice (some ⟨g, 0, none⟩) (n + 1) cap, .bool false]) ∧ w = w' := by
  subst h
  go_enter Try.func34, Try.ntmps34
  go_wp2
  go_ret2
  exact ⟨rfl, rfl⟩
set_option maxHeartbeats 1000000 in
theorem return_no (g cap : Nat) (x : Int) (w : World) : Calls Try.prog 38 #[.slice (some ⟨g, 0, none⟩) 1 cap, .int .i64 x] w fun e w' => e = .returned (.tuple #[.slice none 0 0, .bool false]) ∧ w = w' := by
  go_enter Try.func38, Try.ntmps38
  go_wp2
  go_ret2
  exact ⟨rfl, rfl⟩
theorem return_form (B g n cap : Nat) (xs : List Int) (x : Int) (w : World) (h : Stk w B (.slice (some ⟨g, 0, none⟩) (n + 1 + 1) cap) (n + 1 + 1) xs) (hm : n ≤ 14) (i : Nat) (hi : i < 8) (hx : rd xs (((n + 1) * 11 + 10 : Nat) : Int) = i) : Calls Try.prog 38 #[.slice (some ⟨g, 0, none⟩) (n + 1 + 1) cap, .int .i64 x] w fun e w' =>
    ∃ g2 c2, e = .returned (.tuple #[.slice (some ⟨g2, 0, none⟩) (n + 1) c2, .bool true]) ∧ Stk w' w.heap.size (.slice (some ⟨g2, 0, none⟩) (n + 1) c2) (n + 1) ((xs.take ((n + 1) * 11)).set (n * 11 + 2 + i) x) ∧ Below w.heap.size w w' :=
  (return_calls B _ (n + 1 + 1) xs x w h (by omega) (by omega) i hi hx).mono fun e w' ⟨v', h1, h2, h3⟩ => by
    obtain ⟨g2, c2, rfl, _⟩ := h2.form (by omega)
    exact ⟨g2, c2, h1, h2, h3⟩

/-- Where each call returns to. -/
def Into (xs : List Int) (m : Nat) : Prop := ∀ j, j < m → rd xs (((j + 1) * 11 + 10 : Nat) : Int) = ((j % 8 : Nat) : Int)
theorem rd_app_lt (xs ys : List Int) (j : Nat) (h : j < xs.length) : rd (xs ++ ys) (j : Int) = rd xs j := by
  unfold rd
  rw [Int.toNat_natCast, List.getD_eq_getElem?_getD, List.getD_eq_getElem?_getD, List.getElem?_append_left h]
theorem rd_take (xs : List Int) (n j : Nat) (h : j < n) : rd (xs.take n) (j : Int) = rd xs j := by
  unfold rd
  rw [Int.toNat_natCast, List.getD_eq_getElem?_getD, List.getD_eq_getElem?_getD, List.getElem?_take_of_lt h]
theorem Into.app {xs : List Int} {m : Nat} (h : Into xs m) (hl : xs.length = (m + 1) * 11) (f a : Int) : Into (xs ++ fr f a ((m % 8 : Nat) : Int)) (m + 1) := by
  intro j hj
  by_cases e : j = m
  · subst e
    rw [rd_app _ _ _ _ _ _ hl]
    rfl
  · rw [rd_app_lt _ _ _ (by omega)]
    exact h j (by omega)
theorem Into.ret {xs : List Int} {m : Nat} (h : Into xs (m + 1)) (hl : xs.length = (m + 2) * 11) (i : Nat) (hi : i < 8) (x : Int) : Into ((xs.take ((m + 1) * 11)).set (m * 11 + 2 + i) x) m := by
  intro j hj
  rw [rd_set_ne _ _ _ _ (by omega), rd_take _ _ _ (by omega)]
  exact h j (by omega)

set_option maxHeartbeats 4000000 in
set_option maxRecDepth 100000 in
theorem deep_law (A : Option Addr) (c : Nat) (xs : List Int) (w : World) (hx : ReadsInt w .i64 A xs.length xs) :
    Calls Try.prog 9 #[.slice A xs.length c] w fun e w' => e = .returned (.bool true) ∧ Below w.heap.size w w' := by
  have HX := Aside0.mk hx
  obtain ⟨B, hBe⟩ : ∃ B, w.heap.size = B := ⟨_, rfl⟩
  have HBE := Aside0.mk hBe
  have HAW := Aside0.mk (awake_calls w)
  rw [hBe] at HAW ⊢
  obtain ⟨n, hn⟩ : ∃ n : Nat, (if (15 : Int) < (xs.length : Int) then (15 : Int) else (xs.length : Int)) = (n : Int) := ⟨if 15 < xs.length then 15 else xs.length, by split <;> split <;> omega⟩
  have hn15 : n ≤ 15 := by split at hn <;> omega
  have hnx : n ≤ xs.length := by split at hn <;> omega
  clear hBe hx
  go_enter Try.func9, Try.ntmps9
  go_upto_block 0 with (first
    | (go_at_call 32; (with_reducible refine HAW.out.mono ?_); rintro e w1 ⟨rfl, hb⟩; have B1 := Aside0.mk (And.intro hb (show B ≤ w1.heap.size from HBE.out ▸ hb.size)); clear hb)
    | (go_at_call 33; (with_reducible refine (begin_stk 0 7 w1).mono ?_); rintro e w2 ⟨rfl, hS, hb⟩; have HS2 := Aside0.mk (hS.lower B1.out.2); have HB2 := Aside0.mk (And.intro (below_then B1.out.1 B1.out.2 hb) (Nat.le_trans B1.out.2 hb.size)); clear hS hb))
  have HN := Aside0.mk hn
  clear hn
  go_cut [3] (fun v wx => ∃ (g cap : Nat) (ys : List Int), v = .slice (some ⟨g, 0, none⟩) (n + 1) cap ∧ Stk wx B v (n + 1) ys ∧ Into ys n ∧ Below B w wx ∧ B ≤ wx.heap.size)
  case first =>
    go_wp2
    go_loopw [3, 22] (fun v i wr => ∃ k : Nat, k ≤ n ∧ i = .int .i64 k ∧ ∃ (g cap : Nat) (ys : List Int), v = .slice (some ⟨g, 0, none⟩) (k + 1) cap ∧ Stk wr B v (k + 1) ys ∧ Into ys k ∧ Below B w wr ∧ B ≤ wr.heap.size) (fun _ i _ => n - (intOf i).toNat)
    case atStart => exact ⟨0, by omega, rfl, _, _, _, rfl, HS2.out, fun j hj => by omega, HB2.out.1, HB2.out.2⟩
    case round =>
      obtain ⟨k, hkn, rfl, g, cap, ys, rfl, hS, h0, hb, hB⟩ := hrel
      have HS := Aside0.mk hS
      have H0 := Aside0.mk h0
      have HB := Aside0.mk (And.intro hb hB)
      clear hS h0 hb hB HS2 HB2
      by_cases hlt : k < n
      · have q1 : decide ((k : Int) < (n : Int)) = true := decide_eq_true (by omega)
        obtain ⟨ad, e0, x0⟩ := (HX.out.below (w1 := wr) (by rw [HBE.out]; exact HB.out.1)).at_ (k : Int) (by omega) (by omega)
        subst e0
        rw [Int.toNat_natCast] at x0
        generalize rd xs (k : Int) = x at x0
        obtain ⟨q, hq, hq8⟩ : ∃ q : Nat, Go.bits .and .i64 (k : Int) 7 = (q : Int) ∧ q = k % 8 := ⟨k % 8, by rw [i64_and7]; omega, rfl⟩
        have HQ := Aside0.mk hq8
        clear hq8
        have HC := Aside0.mk (call_form B g (k + 1) cap ys k x q wr HS.out (by omega) (by omega))
        go_upto_region 9 with (go_at_call 34; (with_reducible refine HC.out.mono ?_); rintro e w3 ⟨g3, c3, rfl, hS3, hb3⟩; have HS3 := Aside0.mk hS3; have HB3 := Aside0.mk hb3; have y0 := pw_cell_below hb3 x0; have s0 := (hS3.setK (by omega) (j := (k + 1) * 11) (by omega)).1; have s2 := (hS3.setK (by omega) (j := (k + 1) * 11 + 2) (by omega)).1; rw [rd_app _ _ _ _ _ _ HS.out.1] at s2; rw [show (k + 1) * 11 = (k + 1) * 11 + 0 from rfl, rd_app _ _ _ _ _ _ HS.out.1] at s0; have s2' : w3.cell? ⟨g3, (k + 1) * 11 + 2, none⟩ = some (.int .i64 x) := s2; have s0' : w3.cell? ⟨g3, (k + 1) * 11, none⟩ = some (.int .i64 k) := s0; clear hS3 hb3 x0 s0 s2)
        go_quiet ((go_at_call 36; exact Calls.quiet_of_same (top_q g3 (k + 1) c3 _ (by omega))))
        go_wp2
        refine ⟨⟨k + 1, by omega, by go_num, g3, c3, ys ++ fr k x q, rfl, HS3.out.lower HB.out.2, ?_, pw_below_drewN (below_then HB.out.1 HB.out.2 HB3.out) _, Nat.le_trans HB.out.2 HB3.out.size⟩, by simp [intOf]; omega⟩
        have := H0.out.app HS.out.1 k x
        rw [← HQ.out] at this
        exact this
      · have q1 : decide ((k : Int) < (n : Int)) = false := decide_eq_false (by omega)
        obtain rfl : k = n := by omega
        go_wp2
        go_meet
        exact ⟨g, cap, ys, rfl, HS.out, H0.out, HB.out⟩
  case rest =>
    obtain ⟨g, cap, ys, rfl, hS, h0, hb, hB⟩ := hcut
    have HS := Aside0.mk hS
    have H0 := Aside0.mk h0
    have HB := Aside0.mk (And.intro hb hB)
    clear hS h0 hb hB
    have h15 : n < 15 ∨ n = 15 := by omega
    rcases h15 with h15 | h15
    case' inl =>
      have q1 : decide ((n : Int) < 15) = true := decide_eq_true (by omega)
      go_upto_block 2 with (go_at_call 34; (with_reducible refine (call_form B g (n + 1) cap ys 0 0 0 wc HS.out (by omega) (by omega)).mono ?_); rintro e w3 ⟨g3, c3, rfl, hS3, hb3⟩; have HB3 := Aside0.mk hb3; clear hS3 hb3)
      have HS4 := Aside0.mk (HS.out.below HB3.out)
      have HB4 := Aside0.mk (And.intro (below_then HB.out.1 HB.out.2 HB3.out) (Nat.le_trans HB.out.2 HB3.out.size))
      clear q1
    case' inr =>
      have q1 : decide ((n : Int) < 15) = false := decide_eq_false (by omega)
      have q2 : ((n : Int) + 1 != 16) = false := by rw [bne_eq_false_iff_eq]; omega
      have HH := Aside0.mk h15
      clear h15
      go_upto_block 2 with (go_at_call 34; (with_reducible refine (call_full g n cap HH.out 0 0 0 _).mono ?_); rintro e w3 ⟨rfl, rfl⟩)
      have HS4 := HS
      have HB4 := HB
      clear q1 q2
    all_goals
      clear HS HB HS2 HB2
      go_wp2
      go_loopw [3, 10] (fun v i wr => ∃ m : Nat, m ≤ n ∧ ((m = 0 ∧ i = .int .i64 (-1)) ∨ ∃ k : Nat, m = k + 1 ∧ i = .int .i64 k) ∧ ∃ (g cap : Nat) (ys : List Int), v = .slice (some ⟨g, 0, none⟩) (m + 1) cap ∧ Stk wr B v (m + 1) ys ∧ Into ys m ∧ Below B w wr ∧ B ≤ wr.heap.size) (fun _ i _ => (intOf i + 1).toNat)
      case atStart =>
        refine ⟨n, Nat.le_refl _, ?_, g, cap, ys, rfl, HS4.out, H0.out, HB4.out⟩
        rcases n with _ | k
        · exact .inl ⟨rfl, rfl⟩
        · exact .inr ⟨k, rfl, by rw [show ((k + 1 : Nat) : Int) - 1 = k by omega]⟩
      case round =>
        obtain ⟨m, hmn, hi, g, cap, ys, rfl, hS, h0, hb, hB⟩ := hrel
        have HS := Aside0.mk hS
        have H0 := Aside0.mk h0
        have HB := Aside0.mk (And.intro hb hB)
        clear hS h0 hb hB HS4 HB4
        rcases hi with ⟨rfl, rfl⟩ | ⟨k, rfl, rfl⟩
        · go_wp2_with (go_at_call 38; (with_reducible refine (return_no g cap 0 _).mono ?_); rintro e w3 ⟨rfl, rfl⟩)
          go_ret
          exact ⟨rfl, HB.out.1⟩
        · obtain ⟨ad, e0, x0⟩ := (HX.out.below (w1 := wr) (by rw [HBE.out]; exact HB.out.1)).at_ (k : Int) (by omega) (by omega)
          subst e0
          rw [Int.toNat_natCast] at x0
          generalize rd xs (k : Int) = x at x0
          obtain ⟨q, hq, hq8⟩ : ∃ q : Nat, Go.bits .and .i64 (k : Int) 7 = (q : Int) ∧ q = k % 8 := ⟨k % 8, by rw [i64_and7]; omega, rfl⟩
          have HQ := Aside0.mk (hq8 ▸ H0.out k (by omega) : rd ys (((k + 1) * 11 + 10 : Nat) : Int) = (q : Int))
          have b1 : (0 : Int) ≤ (q : Int) := by omega
          have b2 : (q : Int) < 8 := by omega
          have HQ8 := Aside0.mk (show q < 8 by omega)
          clear hq8
          go_upto_region 20 with (go_at_call 38; (with_reducible refine (return_form B g k cap ys _ wr HS.out (by omega) q HQ8.out HQ.out).mono ?_); rintro e w3 ⟨g3, c3, rfl, hS3, hb3⟩; have HS3 := Aside0.mk hS3; have HB3 := Aside0.mk hb3; have y0 := pw_cell_below hb3 x0; have s2 := (hS3.setK (by omega) (j := k * 11 + 2 + q) (by have := HQ8.out; omega)).1; rw [rd_set _ _ _ _ (by rw [List.length_take, HS.out.1]; have := HQ8.out; omega), if_pos rfl] at s2; clear hS3 hb3 x0)
          have hw : IntKind.i64.wrap (x + 1) = wrap64 (x + 1) := by rw [IntKind.wrap_i64]; unfold wrap64; omega
          go_quiet ((go_at_call 36; exact Calls.quiet_of_same (top_q g3 k c3 _ (by omega))))
          clear hw
          go_wp2
          refine ⟨⟨k, by omega, ?_, g3, c3, _, rfl, HS3.out.lower HB.out.2, H0.out.ret HS.out.1 q HQ8.out _, pw_below_drewN (below_then HB.out.1 HB.out.2 HB3.out) _, Nat.le_trans HB.out.2 HB3.out.size⟩, by simp [intOf]⟩
          rcases k with _ | k
          · exact .inl ⟨rfl, rfl⟩
          · exact .inr ⟨k, rfl, by rw [show ((k + 1 : Nat) : Int) - 1 = k by omega]⟩
end Go.Proofs.Ythlllcmffgdcmab.Frame

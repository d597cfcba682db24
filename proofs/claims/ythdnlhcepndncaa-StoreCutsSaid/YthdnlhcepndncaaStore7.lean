import Derived.Test.YthdnlhcepndncaaStore6
namespace Go.Proofs.Ythdnlhcepndncaa.Stores
open Go.RowKit Go.Proofs.YthdnlhcepndncaaW.PrintWords Go.Proofs.YthdnlhcepndncaaW.PrintLast Go.Proofs.YthdnlhcepndncaaW.PrintMore Go.Proofs.Ythdnlhcepndncaa.Copy
attribute [local go_sem] max2_int min2_int max_two min_two max_three min_three
set_option linter.unusedVariables false
set_option linter.unusedSimpArgs false

theorem store_kept {B g : Nat} {xs : List Int} {safe room left : Int} {dead : Bool} {w w' : World} (h : IsStore B w g xs safe room left dead) (hb : Below w.heap.size w w') : IsStore B w' g xs safe room left dead := by
  obtain ⟨hg, v, hh, ho⟩ := h
  exact ⟨hg, v, blk_below hh hb, pw_own_below ho hb⟩

/-- Behind so many calls of which n are let through: the store. -/
def leftAt (n k : Nat) : Int := ((n - k : Nat) : Int)

theorem cE_ok (n i : Nat) (h : i < n) : cE ((n - i : Nat) : Int) (decide (n < i)) = 0 ∧ cL ((n - i : Nat) : Int) (decide (n < i)) = ((n - (i + 1) : Nat) : Int) ∧ cD ((n - i : Nat) : Int) (decide (n < i)) = decide (n < i + 1) := by
  have e1 : decide (n < i) = false := decide_eq_false (by omega)
  have e2 : decide (n < i + 1) = false := decide_eq_false (by omega)
  rw [e1, e2]
  refine ⟨if_neg (by simp; omega), ?_, ?_⟩
  · unfold cL; rw [if_neg (by simp; omega)]; omega
  · unfold cD; simp; omega
theorem cE_cut (n i : Nat) (h : n ≤ i) : cE ((n - i : Nat) : Int) (decide (n < i)) = 8 ∧ cL ((n - i : Nat) : Int) (decide (n < i)) = ((n - (i + 1) : Nat) : Int) ∧ cD ((n - i : Nat) : Int) (decide (n < i)) = decide (n < i + 1) := by
  have e0 : n - i = 0 := by omega
  have e1 : n - (i + 1) = 0 := by omega
  have e2 : decide (n < i + 1) = true := decide_eq_true (by omega)
  rw [e0, e1, e2]
  refine ⟨if_pos (Or.inr rfl), ?_, ?_⟩
  · unfold cL; split <;> simp_all
  · unfold cD; simp

theorem and31 (n0 : Int) : ∃ n : Nat, Go.bits .and .i64 n0 31 = (n : Int) ∧ n ≤ 31 := by
  have h : Go.bits .and .i64 n0 31 = n0 % 32 := by
    have h127 : (BitVec.ofInt 64 31).toNat = 2 ^ 5 - 1 := by decide
    have key : (BitVec.ofInt 64 n0 &&& BitVec.ofInt 64 31).toNat = (n0 % ((2 ^ 64 : Nat) : Int)).toNat % 2 ^ 5 := by
      rw [BitVec.toNat_and, BitVec.toNat_ofInt, h127, Nat.and_two_pow_sub_one_eq_mod]
    show IntKind.i64.wrap ((BitVec.ofInt 64 n0 &&& BitVec.ofInt 64 31).toNat : Nat) = n0 % 32
    rw [key, IntKind.wrap_i64]
    omega
  exact ⟨(n0 % 32).toNat, by rw [h]; omega, by omega⟩

theorem arm_live (B g : Nat) (xs : List Int) (safe : Nat) (room : Int) (w : World) (h : Live B w g xs safe room) (n : Nat) (hB : B ≤ w.heap.size) : Calls Try.prog 47 #[.pointer (some ⟨g, 0, none⟩), .int .i64 (n : Int)] w fun e w' =>
    e = .returned (.tuple #[]) ∧ IsStore B w' g xs safe room (n : Int) false ∧ Below B w w' :=
  arm_calls B g xs safe room (-1) false w h (n : Int) (by omega) hB
theorem dead_live (B g : Nat) (xs : List Int) (safe : Nat) (room : Int) (w : World) (h : Live B w g xs safe room) : Calls Try.prog 48 #[.pointer (some ⟨g, 0, none⟩)] w fun e w' => e = .returned (.bool false) ∧ w = w' :=
  (dead_calls B g xs safe room (-1) false w h).mono fun _ _ h => ⟨h.1, h.2.symm⟩

theorem two_size : (⟨#[97, 98]⟩ : ByteArray).size = 2 := rfl

/-- A store somewhere in memory, of at most m bytes. -/
def Some (B : Nat) (w : World) (g : Nat) (m : Nat) (left : Int) (dead : Bool) : Prop := ∃ (xs : List Int) (safe : Nat), safe ≤ xs.length ∧ xs.length ≤ m ∧ IsStore B w g xs safe 10000 left dead

theorem over_empty (xs : List Int) (o : Nat) : over xs o ⟨#[]⟩ = xs := over_none xs o _ (Nat.zero_min _)

theorem crash_some (B g m : Nat) (left : Int) (dead : Bool) (w : World) (h : Some B w g m left dead) (hm : m ≤ 1000) (hB : B ≤ w.heap.size) : Calls Try.prog 43 #[.pointer (some ⟨g, 0, none⟩), .int .i64 1000000, .string ⟨#[]⟩] w fun e w' =>
    e = .returned (.tuple #[]) ∧ (∃ xs : List Int, xs.length ≤ m ∧ Live B w' g xs xs.length 10000) ∧ Below B w w' := by
  obtain ⟨xs, safe, hs, hx, h⟩ := h
  have := crash_calls B g xs safe 10000 left dead w h 1000000 1000000 ((xs.length : Int) - safe) ⟨#[]⟩ rfl (if_pos (by omega)) hs (by omega) hB
  rw [over_empty, show safe + ((xs.length : Int) - safe).toNat = xs.length by omega, List.take_length, show (safe : Int) + ((xs.length : Int) - safe) = (xs.length : Int) by omega] at this
  exact this.mono fun e w' h => ⟨h.1, ⟨xs, hx, h.2.1⟩, h.2.2⟩

set_option maxHeartbeats 4000000 in
theorem cuts_law (n0 : Int) (A0 : Option Addr) (c0 : Nat) (xs : List Bool) (w : World) (h0 : ReadsOf Value.bool false w A0 xs.length xs) :
    Calls Try.prog 14 #[.int .i64 n0, .slice A0 xs.length c0] w fun e w' => e = .returned (.bool true) ∧ Below w.heap.size w w' := by
  have HR0 := Aside0.mk h0
  clear h0
  obtain ⟨n, hn, hnb⟩ : ∃ n : Nat, Go.bits .and .i64 n0 31 = (n : Int) ∧ n ≤ 31 := and31 n0
  obtain ⟨D, hD⟩ : ∃ D : Nat, D = min n (min xs.length 50) := ⟨_, rfl⟩
  obtain ⟨M1, m3⟩ : ∃ M1 : Int, (if (xs.length : Int) < (n : Int) then (xs.length : Int) else (n : Int)) = M1 := ⟨_, rfl⟩
  have m4 : (if (50 : Int) < M1 then (50 : Int) else M1) = (D : Int) := by omega
  have HD := Aside0.mk hD
  clear hD
  go_enter Try.func14, Try.ntmps14
  go_upto_block 0 with (first
    | (go_at_call 39; (with_reducible refine (awake_calls w).mono ?_); rintro e w1 ⟨rfl, hb⟩; have B1 := Aside0.mk hb; clear hb)
    | (go_at_call 40; (with_reducible refine (new_live w.heap.size 10000 (by decide) w1 B1.out.size).mono ?_); rintro e w2 ⟨g, rfl, hs, hb⟩; have S2 := Aside0.mk hs; have B2 := Aside0.mk (below_then B1.out B1.out.size hb); clear hs hb)
    | (go_at_call 47; (with_reducible refine (arm_live w.heap.size g [] 0 10000 w2 S2.out n B2.out.size).mono ?_); rintro e w3 ⟨rfl, hs, hb⟩; have S3 := Aside0.mk hs; have B3 := Aside0.mk (B2.out.trans hb); clear hs hb))
  go_cut [6] (fun v6 wx => v6 = .int .i64 (D : Int) ∧ (∃ left dead, Some w.heap.size wx g 100 left dead) ∧ Below w.heap.size w wx)
  case first =>
    go_wp2
    go_loopw [6, 7] (fun d i wr => ∃ k : Nat, k ≤ xs.length ∧ k ≤ 50 ∧ i = .int .i64 k ∧ d = .int .i64 ((min n k : Nat) : Int) ∧ Some w.heap.size wr g (2 * k) ((n - k : Nat) : Int) (decide (n < k)) ∧ Below w.heap.size w wr) (fun _ i _ => 50 - (intOf i).toNat)
    case atStart => exact ⟨0, by omega, by omega, rfl, by simp, ⟨[], 0, by simp, by simp, S3.out⟩, B3.out⟩
    case round =>
      obtain ⟨k, hk, hk50, rfl, rfl, hs, hb⟩ := hrel
      have HS := Aside0.mk hs
      have HB := Aside0.mk hb
      clear hs hb
      by_cases hlt : k < xs.length
      · have q1 : decide ((k : Int) < (xs.length : Int)) = true := decide_eq_true (by omega)
        by_cases h50 : k < 50
        · have q2 : decide ((k : Int) < 50) = true := decide_eq_true (by omega)
          obtain ⟨ad0, e0, k0⟩ := (HR0.out.below HB.out).at_ (k : Int) (by omega) (by omega)
          subst e0
          rw [Int.toNat_natCast] at k0
          generalize rdOf false xs (k : Int) = sy at k0
          obtain ⟨ys, sf, hsf, hys, hst⟩ := HS.out
          have HT := Aside0.mk hst
          have HY := Aside0.mk (And.intro hsf hys)
          clear hst hsf hys
          by_cases hkn : k < n
          · obtain ⟨u1, u2, u3⟩ := cE_ok n k hkn
            have U1 := Aside0.mk u1
            have U2 := Aside0.mk u2
            have U3 := Aside0.mk u3
            clear u1 u2 u3
            have HLb := Aside0.mk (show ((n - k : Nat) : Int) ≤ 9223372036854775807 by omega)
            have HLr := Aside0.mk (show (ys.length : Int) + (⟨#[97, 98]⟩ : ByteArray).size ≤ 10000 by have := HY.out; show (ys.length : Int) + 2 ≤ 10000; omega)
            have q3 : decide ((k : Int) < (n : Int)) = true := decide_eq_true (by omega)
            have HM := Aside0.mk (show min n (k + 1) = min n k + 1 by omega)
            generalize hmm : min n k = mk at HM ⊢
            have hmb : mk ≤ 50 := by omega
            clear hmm
            cases sy with
            | true =>
              go_wp2_with (first
                | (go_at_call 44; (with_reducible refine (bytes_calls w.heap.size g ys sf 10000 _ _ wr HT.out).mono ?_); rintro e w4 ⟨rfl, hw⟩; obtain rfl := hw.symm)
                | (go_at_call 42; (with_reducible refine (sync_calls w.heap.size g ys sf 10000 _ _ wr HT.out HLb.out HB.out.size).mono ?_); rintro e w5 ⟨rfl, hs, hb⟩; rw [U1.out, U2.out, U3.out, if_pos rfl] at hs; rw [U1.out]; have S5 := Aside0.mk hs; have B5 := Aside0.mk (HB.out.trans hb); clear hs hb))
              exact ⟨⟨k + 1, by omega, by omega, by go_num, by rw [HM.out]; go_num, ⟨ys, ys.length, Nat.le_refl _, by have := HY.out; (try simp only [List.length_append, bytesOf_length, two_size]); omega, S5.out⟩, B5.out⟩, by simp [intOf]; omega⟩
            | false =>
              go_wp2_with (first
                | (go_at_call 44; (with_reducible refine (bytes_calls w.heap.size g ys sf 10000 _ _ wr HT.out).mono ?_); rintro e w4 ⟨rfl, hw⟩; obtain rfl := hw.symm)
                | (go_at_call 41; (with_reducible refine (append_ok w.heap.size g ys sf 10000 _ _ wr HT.out _ U1.out HLb.out HB.out.size HLr.out (by decide)).mono ?_); rintro e w5 ⟨rfl, hs, hb⟩; rw [U2.out, U3.out] at hs; have S5 := Aside0.mk hs; have B5 := Aside0.mk (HB.out.trans hb); clear hs hb))
              exact ⟨⟨k + 1, by omega, by omega, by go_num, by rw [HM.out]; go_num, ⟨ys ++ bytesOf ⟨#[97, 98]⟩, sf, by have := HY.out; rw [List.length_append]; omega, by have := HY.out; (try simp only [List.length_append, bytesOf_length, two_size]); omega, S5.out⟩, B5.out⟩, by simp [intOf]; omega⟩
          · obtain ⟨u1, u2, u3⟩ := cE_cut n k (by omega)
            have U1 := Aside0.mk u1
            have U2 := Aside0.mk u2
            have U3 := Aside0.mk u3
            have U4 := Aside0.mk (show decide (n < k + 1) = true from decide_eq_true (by omega))
            clear u1 u2 u3
            have HLb := Aside0.mk (show ((n - k : Nat) : Int) ≤ 9223372036854775807 by omega)
            have q3 : decide ((k : Int) < (n : Int)) = false := decide_eq_false (by omega)
            have HM := Aside0.mk (show min n (k + 1) = min n k by omega)
            generalize min n k = mk at HM ⊢
            cases sy with
            | true =>
              go_wp2_with (first
                | (go_at_call 44; (with_reducible refine (bytes_calls w.heap.size g ys sf 10000 _ _ wr HT.out).mono ?_); rintro e w4 ⟨rfl, hw⟩; obtain rfl := hw.symm)
                | (go_at_call 42; (with_reducible refine (sync_calls w.heap.size g ys sf 10000 _ _ wr HT.out HLb.out HB.out.size).mono ?_); rintro e w5 ⟨rfl, hs, hb⟩; rw [U1.out, U2.out, U3.out, if_neg (by decide)] at hs; rw [U1.out]; have S5 := Aside0.mk hs; have B5 := Aside0.mk (HB.out.trans hb); clear hs hb)
                | (go_at_call 44; (with_reducible refine (bytes_calls w.heap.size g ys sf 10000 _ _ w5 S5.out).mono ?_); rintro e w4 ⟨rfl, hw⟩; obtain rfl := hw.symm)
                | (go_at_call 48; (with_reducible refine (dead_calls w.heap.size g ys sf 10000 _ _ w5 S5.out).mono ?_); rintro e w4 ⟨rfl, hw⟩; obtain rfl := hw.symm; rw [U4.out]))
              exact ⟨⟨k + 1, by omega, by omega, by go_num, by rw [HM.out], ⟨ys, sf, HY.out.1, by have := HY.out; (try simp only [List.length_append, bytesOf_length, two_size]); omega, S5.out⟩, B5.out⟩, by simp [intOf]; omega⟩
            | false =>
              go_wp2_with (first
                | (go_at_call 44; (with_reducible refine (bytes_calls w.heap.size g ys sf 10000 _ _ wr HT.out).mono ?_); rintro e w4 ⟨rfl, hw⟩; obtain rfl := hw.symm)
                | (go_at_call 41; (with_reducible refine (append_cut w.heap.size g ys sf 10000 _ _ wr HT.out _ U1.out HLb.out HB.out.size).mono ?_); rintro e w5 ⟨rfl, hs, hb⟩; rw [U2.out, U3.out] at hs; have S5 := Aside0.mk hs; have B5 := Aside0.mk (HB.out.trans hb); clear hs hb)
                | (go_at_call 44; (with_reducible refine (bytes_calls w.heap.size g ys sf 10000 _ _ w5 S5.out).mono ?_); rintro e w4 ⟨rfl, hw⟩; obtain rfl := hw.symm)
                | (go_at_call 48; (with_reducible refine (dead_calls w.heap.size g ys sf 10000 _ _ w5 S5.out).mono ?_); rintro e w4 ⟨rfl, hw⟩; obtain rfl := hw.symm; rw [U4.out]))
              exact ⟨⟨k + 1, by omega, by omega, by go_num, by rw [HM.out], ⟨ys, sf, HY.out.1, by have := HY.out; (try simp only [List.length_append, bytesOf_length, two_size]); omega, S5.out⟩, B5.out⟩, by simp [intOf]; omega⟩
        · have q2 : decide ((k : Int) < 50) = false := decide_eq_false (by omega)
          obtain rfl : k = 50 := by omega
          have HE := Aside0.mk (show min n 50 = D by have := HD.out; omega)
          rw [HE.out]
          go_wp2
          go_meet
          exact ⟨rfl, ⟨_, _, HS.out⟩, HB.out⟩
      · have q1 : decide ((k : Int) < (xs.length : Int)) = false := decide_eq_false (by omega)
        have HE := Aside0.mk (show min n k = D by have := HD.out; omega)
        have HS2 := Aside0.mk (show Some w.heap.size wr g 100 ((n - k : Nat) : Int) (decide (n < k)) from by obtain ⟨a, b, h1, h2, h3⟩ := HS.out; exact ⟨a, b, h1, by omega, h3⟩)
        rw [HE.out]
        go_wp2
        go_meet
        exact ⟨rfl, ⟨_, _, HS2.out⟩, HB.out⟩
  case rest =>
    obtain ⟨rfl, ⟨left, dead, hs⟩, hb⟩ := hcut
    have S5 := Aside0.mk hs
    have B5 := Aside0.mk hb
    clear hs hb
    go_wp2_with (first
      | (go_at_call 43; (with_reducible refine (crash_some w.heap.size g 100 left dead wc S5.out (by decide) B5.out.size).mono ?_); rintro e w5 ⟨rfl, ⟨ys, hys, hs⟩, hb⟩; have S6 := Aside0.mk hs; have B6 := Aside0.mk (B5.out.trans hb); have HYS := Aside0.mk (show (ys.length : Int) + (⟨#[99]⟩ : ByteArray).size ≤ 10000 by show (ys.length : Int) + 1 ≤ 10000; omega); clear hs hb)
      | (go_at_call 48; (with_reducible refine (dead_live w.heap.size g ys _ 10000 w5 S6.out).mono ?_); rintro e w4 ⟨rfl, rfl⟩)
      | (go_at_call 41; (with_reducible refine (append_live w.heap.size g ys _ 10000 w5 S6.out _ B6.out.size HYS.out (by decide)).mono ?_); rintro e w6 ⟨rfl, hs, hb⟩; have S7 := Aside0.mk hs; have B7 := Aside0.mk (B6.out.trans hb); clear hs hb)
      | (go_at_call 42; (with_reducible refine (sync_live w.heap.size g _ _ 10000 w6 S7.out B7.out.size).mono ?_); rintro e w7 ⟨rfl, hs, hb⟩; have S8 := Aside0.mk hs; have B8 := Aside0.mk (B7.out.trans hb); clear hs hb)
      | (go_at_call 46; (with_reducible refine (safe_live w.heap.size g _ _ 10000 w7 S8.out).mono ?_); rintro e w8 ⟨rfl, rfl⟩)
      | (go_at_call 45; (with_reducible refine (len_live w.heap.size g _ _ 10000 w7 S8.out).mono ?_); rintro e w8 ⟨rfl, rfl⟩))
    all_goals (go_ret; exact ⟨rfl, B8.out⟩)
end Go.Proofs.Ythdnlhcepndncaa.Stores

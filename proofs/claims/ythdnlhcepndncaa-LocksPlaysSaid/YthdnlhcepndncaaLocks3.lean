import Derived.Test.YthdnlhcepndncaaLocks2
namespace Go.Proofs.Ythdnlhcepndncaa.Locks
open Go.RowKit Go.Proofs.YthdnlhcepndncaaW.PrintWords Go.Proofs.YthdnlhcepndncaaW.PrintLast Go.Proofs.YthdnlhcepndncaaW.PrintMore
set_option linter.unusedVariables false
set_option linter.unusedSimpArgs false

theorem i64_and7 (n : Int) : Go.bits .and .i64 n 7 = n % 8 := by
  have h127 : (BitVec.ofInt 64 7).toNat = 2 ^ 3 - 1 := by decide
  have key : (BitVec.ofInt 64 n &&& BitVec.ofInt 64 7).toNat = (n % ((2 ^ 64 : Nat) : Int)).toNat % 2 ^ 3 := by
    rw [BitVec.toNat_and, BitVec.toNat_ofInt, h127, Nat.and_two_pow_sub_one_eq_mod]
  show IntKind.i64.wrap ((BitVec.ofInt 64 n &&& BitVec.ofInt 64 7).toNat : Nat) = n % 8
  rw [key, IntKind.wrap_i64]
  omega
theorem i64_and255 (n : Int) : Go.bits .and .i64 n 255 = n % 256 := by
  have h127 : (BitVec.ofInt 64 255).toNat = 2 ^ 8 - 1 := by decide
  have key : (BitVec.ofInt 64 n &&& BitVec.ofInt 64 255).toNat = (n % ((2 ^ 64 : Nat) : Int)).toNat % 2 ^ 8 := by
    rw [BitVec.toNat_and, BitVec.toNat_ofInt, h127, Nat.and_two_pow_sub_one_eq_mod]
  show IntKind.i64.wrap ((BitVec.ofInt 64 n &&& BitVec.ofInt 64 255).toNat : Nat) = n % 256
  rw [key, IntKind.wrap_i64]
  omega
theorem i64_and65535 (n : Int) : Go.bits .and .i64 n 65535 = n % 65536 := by
  have h127 : (BitVec.ofInt 64 65535).toNat = 2 ^ 16 - 1 := by decide
  have key : (BitVec.ofInt 64 n &&& BitVec.ofInt 64 65535).toNat = (n % ((2 ^ 64 : Nat) : Int)).toNat % 2 ^ 16 := by
    rw [BitVec.toNat_and, BitVec.toNat_ofInt, h127, Nat.and_two_pow_sub_one_eq_mod]
  show IntKind.i64.wrap ((BitVec.ofInt 64 n &&& BitVec.ofInt 64 65535).toNat : Nat) = n % 65536
  rw [key, IntKind.wrap_i64]
  omega
/-- A row of numbers, one above the other. -/
def row (a : Int) (m : Nat) : List Int := (List.range m).map fun k : Nat => a + (k : Int)
theorem row_length (a : Int) (m : Nat) : (row a m).length = m := by simp [row]
theorem row_snoc (a : Int) (m : Nat) : row a m ++ [a + (m : Int)] = row a (m + 1) := by simp [row, List.range_succ]
theorem row_cons (a : Int) (m : Nat) : row a (m + 1) = a :: row (a + 1) m := by
  simp only [row, List.range_succ_eq_map, List.map_cons, List.map_map]
  congr 1
  · simp
  · apply List.map_congr_left; intro k _; simp only [Function.comp]; push_cast; omega

/-- The lock when i have come; when the first i have gone. -/
def upO (f : Int) (i : Nat) : Int := if i = 0 then -1 else f
def upW (f : Int) (i : Nat) : List Int := row (f + 1) (i - 1)
def dnO (f : Int) (n i : Nat) : Int := if i < n then f + (i : Int) else -1
def dnW (f : Int) (n i : Nat) : List Int := row (f + (i : Int) + 1) (n - 1 - i)
theorem up_step (f : Int) (i : Nat) (h0 : 0 ≤ f) : (if upO f i = -1 then f + (i : Int) else upO f i) = upO f (i + 1) ∧ (if upO f i = -1 then upW f i else upW f i ++ [f + (i : Int)]) = upW f (i + 1) ∧ (upO f i == -1) = decide ((i : Int) = 0) := by
  rcases Nat.eq_zero_or_pos i with h | h
  · subst h; simp [upO, upW, row]
  · have h1 : upO f i = f := if_neg (by omega)
    have h2 : ¬ upO f i = -1 := by omega
    rw [if_neg h2, if_neg h2]
    refine ⟨by rw [h1, upO, if_neg (by omega)], ?_, ?_⟩
    · obtain ⟨m, rfl⟩ : ∃ m, i = m + 1 := ⟨i - 1, by omega⟩
      simp only [upW, Nat.add_sub_cancel]
      rw [← row_snoc]
      congr 2
      push_cast; omega
    · have : ¬ (i : Int) = 0 := by omega
      rw [decide_eq_false this]; simpa using h2
theorem up_down (f : Int) (n : Nat) (h : 0 < n) : upO f n = dnO f n 0 ∧ upW f n = dnW f n 0 := by
  constructor
  · rw [upO, dnO, if_neg (by omega), if_pos h]; simp
  · simp [upW, dnW]
theorem dn_step (f : Int) (n i : Nat) (h0 : 0 ≤ f) (h : i < n) : dnO f n i = f + (i : Int) ∧ (dnW f n i).headD (-1) = (if i + 1 < n then f + (i : Int) + 1 else -1) ∧ (dnW f n i).headD (-1) = dnO f n (i + 1) ∧ (dnW f n i).tail = dnW f n (i + 1) := by
  rcases Nat.lt_or_ge (i + 1) n with hn | hn
  · obtain ⟨m, hm⟩ : ∃ m, n - 1 - i = m + 1 := ⟨n - 1 - i - 1, by omega⟩
    have h2 : n - 1 - (i + 1) = m := by omega
    refine ⟨if_pos h, ?_, ?_, ?_⟩
    · rw [if_pos hn, dnW, hm, row_cons]; rfl
    · rw [dnO, if_pos hn, dnW, hm, row_cons]; simp only [List.headD_cons]; push_cast; omega
    · rw [dnW, dnW, hm, h2, row_cons, List.tail_cons]; congr 1; push_cast; omega
  · have hm : n - 1 - i = 0 := by omega
    have h2 : n - 1 - (i + 1) = 0 := by omega
    refine ⟨if_pos h, ?_, ?_, ?_⟩
    · rw [if_neg (by omega), dnW, hm]; simp [row]
    · rw [dnO, if_neg (by omega), dnW, hm]; simp [row]
    · rw [dnW, dnW, hm, h2]; simp [row]

set_option maxHeartbeats 4000000 in
set_option maxRecDepth 100000 in
theorem one_calls (n0 f0 : Int) (w : World) : Calls Try.prog 3 #[.int .i64 n0, .int .i64 f0] w fun e w' => e = .returned (.bool true) ∧ Below w.heap.size w w' := by
  have h0 : w.heap.size ≤ w.heap.size := Nat.le_refl _
  obtain ⟨n, hn0, hn1, hN⟩ : ∃ n : Nat, 0 < n ∧ n ≤ 40 ∧ wrap64 (1 + (Go.bits .and .i64 n0 255).tmod 40) = (n : Int) := by
    rw [i64_and255]
    have h1 : 0 ≤ n0 % 256 := Int.emod_nonneg _ (by decide)
    rw [Int.tmod_eq_emod_of_nonneg h1]
    refine ⟨(1 + n0 % 256 % 40).toNat, by omega, by omega, ?_⟩
    simp only [wrap64]
    omega
  obtain ⟨f, hf0, hf1, hF⟩ : ∃ f : Int, 0 ≤ f ∧ f ≤ 65535 ∧ Go.bits .and .i64 f0 65535 = f := by
    rw [i64_and65535]
    exact ⟨f0 % 65536, by omega, by omega, rfl⟩
  have HN := Aside0.mk hN
  have HF := Aside0.mk hF
  clear hN hF
  go_enter Try.func3, Try.ntmps3
  go_wp2_with (first
    | (go_at_call 15; refine (awake_calls w).mono ?_; rintro e w1 ⟨rfl, hb⟩; have HB1 := Aside0.mk hb; clear hb)
    | (go_at_call 16; refine (new_calls w.heap.size w1 HB1.out.size).mono ?_; rintro e w2 ⟨g, rfl, hl, hb⟩; have HL2 := Aside0.mk hl; have HB2 := Aside0.mk (below_step HB1.out hb); clear hl hb))
  rw [HN.out, HF.out]
  clear HN HF
  go_loopw [22] (fun v W => ∃ i : Nat, i ≤ n ∧ v = .int .i64 i ∧ IsLock w.heap.size W g (upO f i) (upW f i) ∧ Below w.heap.size w W) (fun v _ => n - (intOf v).toNat)
  case atStart => exact ⟨0, by omega, rfl, HL2.out, HB2.out⟩
  case round =>
    obtain ⟨i, hi, rfl, hL, hB⟩ := hrel
    have HL := Aside0.mk hL
    have HB := Aside0.mk hB
    clear hL hB HL2 HB2
    by_cases hlt : i < n
    · obtain ⟨u1, u2, u3⟩ := up_step f i hf0
      have U1 := Aside0.mk u1
      have U2 := Aside0.mk u2
      have wf : wrap64 (f + (i : Int)) = f + (i : Int) := by simp only [wrap64]; omega
      obtain ⟨b, b1, b2, b3, b4⟩ : ∃ b : Bool, (upO f i == -1) = b ∧ ((i : Int) == 0) = b ∧ decide ((i : Int) = 0) = b ∧ decide (i = 0) = b := ⟨decide (i = 0), by rw [u3]; exact decide_eq_decide.2 (by omega), decide_eq_decide.2 (by omega), decide_eq_decide.2 (by omega), rfl⟩
      · clear u1 u2 u3
        have hlw : (upW f i).length ≤ 1000 := by rw [upW, row_length]; omega
        have HW := Aside0.mk hlw
        clear hlw
        go_wp2_with (first
          | (go_at_call 17; refine (take_calls w.heap.size g (upO f i) (f + (i : Int)) (upW f i) wr HL.out HW.out HB.out.size).mono ?_; rintro e w3 ⟨rfl, hl, hb⟩; rw [U1.out, U2.out] at hl; have HL3 := Aside0.mk hl; have HB3 := Aside0.mk (HB.out.trans hb); clear hl hb))
        go_roundw
        case rel => exact ⟨i + 1, by omega, by go_num, HL3.out, HB3.out⟩
        case measure => simp [intOf]; omega
    · have hin : i = n := by omega
      subst hin
      have hd := up_down f i hn0
      have HL2 := Aside0.mk (show IsLock w.heap.size wr g (dnO f i 0) (dnW f i 0) by rw [← hd.1, ← hd.2]; exact HL.out)
      have HB2 := HB
      clear HL HB hi hlt hd
      go_wp2
      go_loopw [35] (fun v W => ∃ j : Nat, j ≤ i ∧ v = .int .i64 j ∧ IsLock w.heap.size W g (dnO f i j) (dnW f i j) ∧ Below w.heap.size w W) (fun v _ => i - (intOf v).toNat)
      case atStart => exact ⟨0, by omega, rfl, HL2.out, HB2.out⟩
      case round =>
        obtain ⟨j, hj, rfl, hL, hB⟩ := hrel
        clear HL2 HB2
        by_cases hlt : j < i
        · obtain ⟨d1, d2, d3, d4⟩ := dn_step f i j hf0 hlt
          rw [d1] at hL
          have HL := Aside0.mk hL
          have HB := Aside0.mk hB
          have HW := Aside0.mk (show (dnW f i j).length ≤ 1000 by rw [dnW, row_length]; omega)
          clear hL hB
          have wf : wrap64 (f + (j : Int)) = f + (j : Int) := by simp only [wrap64]; omega
          have wf1 : wrap64 (f + (j : Int) + 1) = f + (j : Int) + 1 := by clear wf; simp only [wrap64]; omega
          have wn : wrap64 ((i : Int) - 1) = (i : Int) - 1 := by clear wf wf1; simp only [wrap64]; omega
          obtain ⟨n1, n2, n3, n4⟩ := g_no (o := f + (j : Int)) (x := f + (j : Int) + 1) (dnW f i j) (Or.inr (by clear wf wf1 wn; omega))
          obtain ⟨y1, y2, y3, y4⟩ := g_yes (o := f + (j : Int)) (dnW f i j) (by clear wf wf1 wn; omega)
          rw [d2] at y1
          rw [d3] at y3
          rw [d4] at y4
          have A1 := Aside0.mk n1
          have A2 := Aside0.mk n2
          have A3 := Aside0.mk n3
          have A4 := Aside0.mk n4
          have E1 := Aside0.mk y1
          have E2 := Aside0.mk y2
          have E3 := Aside0.mk y3
          have E4 := Aside0.mk y4
          clear d1 d2 d3 d4 n1 n2 n3 n4 y1 y2 y3 y4
          by_cases hlast : j + 1 < i
          · replace E1 := Aside0.mk (E1.out.trans (if_pos hlast))
            have p1 : decide ((j : Int) < (i : Int) - 1) = true := decide_eq_true (by clear wf wf1 wn; omega)
            have p2 : ((j : Int) == (i : Int) - 1) = false := by clear wf wf1 wn; simp; omega
            clear hlast
            go_wp2_with (first
              | (go_at_call 18; with_reducible refine (owner_calls w.heap.size g (f + (j : Int)) (dnW f i j) wr HL.out).mono ?_; rintro e w3 ⟨rfl, hw⟩; subst hw)
              | (go_at_call 19; with_reducible refine (give_calls w.heap.size g (f + (j : Int)) (f + (j : Int) + 1) (dnW f i j) _ HL.out HW.out HB.out.size).mono ?_; rintro e w3 ⟨rfl, hl, hb⟩; rw [A3.out, A4.out] at hl; rw [A1.out, A2.out]; replace HL := Aside0.mk hl; replace HB := Aside0.mk (HB.out.trans hb); clear hl hb A1 A2 A3 A4)
              | (go_at_call 19; with_reducible refine (give_calls w.heap.size g (f + (j : Int)) (f + (j : Int)) (dnW f i j) _ HL.out HW.out HB.out.size).mono ?_; rintro e w4 ⟨rfl, hl, hb⟩; rw [E3.out, E4.out] at hl; rw [E1.out, E2.out]; have HL4 := Aside0.mk hl; have HB4 := Aside0.mk (HB.out.trans hb); clear hl hb E1 E2 E3 E4))
            clear wf wf1 wn p1 p2
            exact ⟨⟨j + 1, by omega, by go_num, HL4.out, HB4.out⟩, by simp [intOf]; omega⟩
          · replace E1 := Aside0.mk (E1.out.trans (if_neg hlast))
            have p1 : decide ((j : Int) < (i : Int) - 1) = false := decide_eq_false (by clear wf wf1 wn; omega)
            have p2 : ((j : Int) == (i : Int) - 1) = true := by clear wf wf1 wn; simp; omega
            clear hlast
            go_wp2_with (first
              | (go_at_call 18; with_reducible refine (owner_calls w.heap.size g (f + (j : Int)) (dnW f i j) wr HL.out).mono ?_; rintro e w3 ⟨rfl, hw⟩; subst hw)
              | (go_at_call 19; with_reducible refine (give_calls w.heap.size g (f + (j : Int)) (f + (j : Int) + 1) (dnW f i j) _ HL.out HW.out HB.out.size).mono ?_; rintro e w3 ⟨rfl, hl, hb⟩; rw [A3.out, A4.out] at hl; rw [A1.out, A2.out]; replace HL := Aside0.mk hl; replace HB := Aside0.mk (HB.out.trans hb); clear hl hb A1 A2 A3 A4)
              | (go_at_call 19; with_reducible refine (give_calls w.heap.size g (f + (j : Int)) (f + (j : Int)) (dnW f i j) _ HL.out HW.out HB.out.size).mono ?_; rintro e w4 ⟨rfl, hl, hb⟩; rw [E3.out, E4.out] at hl; rw [E1.out, E2.out]; have HL4 := Aside0.mk hl; have HB4 := Aside0.mk (HB.out.trans hb); clear hl hb E1 E2 E3 E4))
            clear wf wf1 wn p1 p2
            exact ⟨⟨j + 1, by omega, by go_num, HL4.out, HB4.out⟩, by simp [intOf]; omega⟩
        · have hji : j = i := by omega
          subst hji
          rw [show dnO f j j = -1 from if_neg (Nat.lt_irrefl _)] at hL
          have HL := Aside0.mk hL
          have HB := Aside0.mk hB
          clear hL hB hj hlt
          go_wp2_with (first
              | (go_at_call 18; with_reducible refine (owner_calls w.heap.size g (-1) (dnW f j j) wr HL.out).mono ?_; rintro e w3 ⟨rfl, hw⟩; subst hw))
          go_ret
          exact ⟨rfl, HB.out⟩
end Go.Proofs.Ythdnlhcepndncaa.Locks

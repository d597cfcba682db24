import Derived.Test.YthlllcmffgdcmabSrc7
namespace Go.Proofs.Ythlllcmffgdcmab.Src
open Go.RowKit Go.Proofs.YthlllcmffgdcmabW.PrintWords Go.Proofs.YthlllcmffgdcmabW.PrintLast Go.Proofs.YthlllcmffgdcmabW.PrintMore
attribute [local go_sem] max2_int min2_int max_two min_two
set_option linter.unusedVariables false
set_option linter.unusedSimpArgs false

theorem zU_eq : Value.agg zU = .agg #[.int .i64 0, .int .i64 0, .int .i64 0, .int .i64 0, .int .u64 0] := rfl
/-- A row of asks in memory. -/
def Asks (w : World) (A : Option Addr) (n : Nat) (qs : List (Int × Int)) : Prop :=
  qs.length = n ∧ ∀ i, i < n → ∃ ad, A = some ad ∧ w.cell? (ad.add (i * 2)) = some (.int .i64 (qs.getD i (0, 0)).1) ∧ w.cell? (ad.add (i * 2 + 1)) = some (.int .i64 (qs.getD i (0, 0)).2)
theorem Asks.below {w w' : World} {A : Option Addr} {n : Nat} {qs : List (Int × Int)} (h : Asks w A n qs) (hb : Below w.heap.size w w') : Asks w' A n qs :=
  ⟨h.1, fun i hi => by obtain ⟨ad, e, h1, h2⟩ := h.2 i hi; exact ⟨ad, e, pw_cell_below hb h1, pw_cell_below hb h2⟩⟩

set_option maxHeartbeats 4000000 in
set_option maxRecDepth 100000 in
theorem below_law (A0 A1 : Option Addr) (c0 c1 : Nat) (xs : List Int) (qs : List (Int × Int)) (w : World) (h0 : ReadsInt w .u64 A0 xs.length xs) (hx : xs.length * 8 ≤ 140737488355328) (hp : ∀ x ∈ xs, 0 ≤ x ∧ x < 18446744073709551616) (h1 : Asks w A1 qs.length qs) :
    Calls Try.prog 4 #[.slice A0 xs.length c0, .slice A1 qs.length c1] w fun e w' => e = .returned (.bool true) ∧ Below w.heap.size w w' := by
  have HR0 := Aside0.mk h0
  have HA := Aside0.mk h1
  have HX := Aside0.mk hx
  have HP := Aside0.mk hp
  clear h0 h1 hx hp
  go_enter Try.func4, Try.ntmps4
  go_wp2_with (first
    | (go_at_call 15; (with_reducible refine (awake_calls w).mono ?_); rintro e w1 ⟨rfl, hb⟩; have B1 := Aside0.mk hb; clear hb)
    | (go_at_call 19; (with_reducible refine (oracle_calls A0 c0 xs w1 (HR0.out.below B1.out) HX.out).mono ?_); rintro e w2 ⟨s, o, vl, rfl, hO, hS, hb⟩; have HO := Aside0.mk (hO.lower B1.out.size); have HS := Aside0.mk (hS.lower B1.out.size); have HB := Aside0.mk (below_step B1.out hb); clear hO hS hb))
  go_loopw [6] (fun i wr => ∃ (k : Nat) (vt : Value) (rs : List Value), k ≤ 40 ∧ k ≤ xs.length ∧ k ≤ qs.length ∧ i = .int .i64 k ∧ Orc w.heap.size wr o xs k vl ∧ Srce w.heap.size wr s 59 60 o vt k rs .nilFunc ∧ Below w.heap.size w wr) (fun i _ => 40 - (intOf i).toNat)
  case atStart => exact ⟨0, _, _, by omega, by omega, by omega, rfl, HO.out, HS.out, HB.out⟩
  case round =>
    clear HO HS HB
    obtain ⟨k, vt, rs, hk40, hkx, hka, rfl, hO, hS, hb⟩ := hrel
    have HO := Aside0.mk hO
    have HS := Aside0.mk hS
    have HB := Aside0.mk hb
    clear hO hS hb
    by_cases ha : k < qs.length
    · have q1 : decide ((k : Int) < (qs.length : Int)) = true := decide_eq_true (by omega)
      by_cases h40 : k < 40
      · have q2 : decide ((k : Int) < 40) = true := decide_eq_true (by omega)
        by_cases hx : k < xs.length
        · have q3 : decide ((k : Int) < (xs.length : Int)) = true := decide_eq_true (by omega)
          obtain ⟨ad, e1, a0, a1⟩ := (HA.out.below HB.out).2 k ha
          subst e1
          rw [add_field ad (k * 2) 1 (by decide)] at a1
          obtain ⟨ad0, e0, x0⟩ := (HR0.out.below HB.out).at_ (k : Int) (by omega) (by omega)
          subst e0
          rw [Int.toNat_natCast] at x0
          generalize (qs.getD k (0, 0)).1 = kk at a0
          generalize (qs.getD k (0, 0)).2 = nn at a1
          have hn := fitN_le nn
          obtain ⟨m, hm⟩ : ∃ m : Int, (if fitN nn < 1 then 1 else fitN nn) = m := ⟨_, rfl⟩
          have hm1 : 1 ≤ m := by rw [← hm]; split <;> omega
          have hm2 : m ≤ 1099511627776 := by rw [← hm]; split <;> omega
          obtain ⟨x, hxe⟩ : ∃ x, rd xs (k : Int) = x := ⟨_, rfl⟩
          have hxr : 0 ≤ x ∧ x < 18446744073709551616 := HP.out x (by rw [← hxe]; simp [rd, hx])
          have hx0 := hxr.1
          have HD := Aside0.mk (odraw21_ok w.heap.size s o xs k vl vt k rs (fitK kk) (fitN nn) m)
          rw [hxe] at x0 HD
          obtain ⟨v, hv⟩ : ∃ v, x % m = v := ⟨_, rfl⟩
          have hv0 : 0 ≤ v := by rw [← hv]; exact Int.emod_nonneg _ (by omega)
          have hv1 : v < m := by rw [← hv]; exact Int.emod_lt_of_pos _ (by omega)
          have hv2 : x.tmod m = v := by rw [Int.tmod_eq_emod_of_nonneg hx0]; exact hv
          rw [hv] at HD
          have HM := Aside0.mk hm
          have HX0 := Aside0.mk hx0
          have HK := Aside0.mk (And.intro hx h40)
          obtain ⟨k1, hk1⟩ : ∃ k1, fitK kk = k1 := ⟨_, rfl⟩
          obtain ⟨n1, hn1⟩ : ∃ n1, fitN nn = n1 := ⟨_, rfl⟩
          rw [hk1, hn1] at HD
          rw [hn1] at hn hm HM
          have HF := Aside0.mk (And.intro hk1 hn1)
          have HKB := Aside0.mk (show m ≤ 9223372036854775807 ∧ k ≤ 1000 by omega)
          have HLF := Aside0.mk (show (xs.length : Int) - ((k + 1 : Nat) : Int) = (xs.length : Int) - (k : Int) - 1 by omega)
          have hm3 : ¬ v < 0 := by omega
          have q4 : decide (m ≤ v) = false := decide_eq_false (by omega)
          have q5 : decide (v < 0) = false := decide_eq_false (by omega)
          have HXE := Aside0.mk hxe
          have hxl : xs.length ≤ 17592186044416 := by have := HX.out; omega
          clear hk1 hn1 hxe
          go_wp2_with (first
            | (go_at_call 20; (with_reducible refine (fit_calls kk nn _).mono ?_); rintro e w4 ⟨rfl, hb4⟩; rw [HF.out.1, HF.out.2]; have HO4 := Aside0.mk (HO.out.below hb4); have HS4 := Aside0.mk (HS.out.below hb4); have HB4 := Aside0.mk (HB.out.trans (hb4.mono HB.out.size)); have x4 := pw_cell_below hb4 x0; clear hb4 x0)
            | (go_at_call 21; (with_reducible refine (HD.out w4 HO4.out HS4.out HB4.out.size HK.out.1 HM.out HKB.out.1 HX0.out HKB.out.2).mono ?_); rintro e w5 ⟨rfl, vt5, hO5, hS5, hb5⟩; rw [zU_eq]; have HO5 := Aside0.mk (hO5.below (below_alloc (Below.refl _ _) (.cells #[.int .i64 0, .int .i64 0, .int .i64 0, .int .i64 0, .int .u64 0] 27))); have HS5 := Aside0.mk (hS5.below (below_alloc (Below.refl _ _) (.cells #[.int .i64 0, .int .i64 0, .int .i64 0, .int .i64 0, .int .u64 0] 27))); have HB5 := Aside0.mk ((HB4.out.trans hb5).alloc (Nat.le_trans HB4.out.size hb5.size) (.cells #[.int .i64 0, .int .i64 0, .int .i64 0, .int .i64 0, .int .u64 0] 27)); obtain ⟨ad9, e9, x5⟩ := (HR0.out.below HB5.out).at_ (k : Int) (by omega) (by have := HK.out.1; omega); cases e9; rw [Int.toNat_natCast, HXE.out] at x5; clear hO5 hS5 hb5 x4)
            | (go_at_call 22; ((refine (oleft_calls w.heap.size s o xs (k + 1) vl vt5 (k + 1) (rs ++ [.int .i64 k1, .int .u64 v]) .nilFunc _ _ HO5.out HS5.out HK.out.1 HLF.out).mono ?_); rintro e w6 ⟨rfl, mm, hw⟩; have HO6 := Aside0.mk (show Orc w.heap.size w6 o xs (k + 1) vl from by rw [hw]; exact ⟨HO5.out.ge, HO5.out.blk, HO5.out.row⟩); have HS6 := Aside0.mk (show Srce w.heap.size w6 s 59 60 o vt5 (k + 1) (rs ++ [.int .i64 k1, .int .u64 v]) .nilFunc from by rw [hw]; exact ⟨HS5.out.ge, HS5.out.blk, HS5.out.row⟩); have HB6 := Aside0.mk (drew_below HB5.out hw); clear hw)))
          exact ⟨⟨k + 1, vt5, rs ++ [.int .i64 k1, .int .u64 v], by have := HK.out.2; omega, by have := HK.out.1; omega, by omega, by go_num, HO6.out, HS6.out, HB6.out⟩, by have := HK.out.2; simp [intOf]; omega⟩
        · have q3 : decide ((k : Int) < (xs.length : Int)) = false := decide_eq_false (by omega)
          go_wp2
          go_ret
          exact ⟨rfl, HB.out⟩
      · have q2 : decide ((k : Int) < 40) = false := decide_eq_false (by omega)
        go_wp2
        go_ret
        exact ⟨rfl, HB.out⟩
    · have q1 : decide ((k : Int) < (qs.length : Int)) = false := decide_eq_false (by omega)
      go_wp2
      go_ret
      exact ⟨rfl, HB.out⟩
end Go.Proofs.Ythlllcmffgdcmab.Src

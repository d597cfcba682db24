/- The walk of LebRow, out of the kit's print; a length's second spelling is laid beside the first. -/
import Derived.Test.YthdnlhcepndncaaPLebRowx1
namespace Go.Proofs.Ythdnlhcepndncaa.Row
open Go.RowKit Go.Proofs.Ythdnlhcepndncaa.PLebRow Go.Proofs.YthdnlhcepndncaaW.PrintWords Go.Proofs.YthdnlhcepndncaaW.PrintLast Go.Proofs.YthdnlhcepndncaaW.PrintMore
attribute [local go_sem] max2_int min2_int max_two min_two max_three min_three max_four min_four
set_option linter.unusedVariables false
set_option linter.unusedSimpArgs false

/-! ### shunterlaw01_LebRow: function 9 -/
mutual
def shunterlaw01_LebRow.l0 : Nat → List Int → ByteArray → List Int → Int → Int → Option (Bool)
  | 0, _, _, _, _, _ => none
  | k + 1, x0, x3, x22, x23, x24 => if x24 < x23 then (if 0 ≤ x24 then (if x24 < (x22.length : Int) then ((leb_Put.f k (rd x22 x24)).bind fun t115 => (if x3.size + t115.size ≤ 9223372036854775807 then (shunterlaw01_LebRow.l0 k x0 (x3 ++ t115) x22 x23 (wrap64 (x24 + 1))) else (none))) else (none)) else (none)) else (shunterlaw01_LebRow.l1 k x3 0 x0 (x0.length : Int) 0)
def shunterlaw01_LebRow.l1 : Nat → ByteArray → Int → List Int → Int → Int → Option (Bool)
  | 0, _, _, _, _, _ => none
  | k + 1, x3, x6, x33, x34, x35 => if x35 < x34 then (if 0 ≤ x35 then (if x35 < (x33.length : Int) then ((leb_Get.f k x3 x6).bind fun bt120 => (if bt120.2.2 = 0 then (if bt120.1 = (rd x33 x35) then ((leb_Len.f k (rd x33 x35)).bind fun t123 => (if bt120.2.1 = (wrap64 (x6 + t123)) then (shunterlaw01_LebRow.l1 k x3 bt120.2.1 x33 x34 (wrap64 (x35 + 1))) else (some false))) else (some false)) else (some false))) else (none)) else (none)) else ((leb_Get.f k x3 x6).bind fun bt116 => (if x6 = (x3.size : Int) then (some (bt116.2.2 == 2)) else (some false)))
end
def shunterlaw01_LebRow.f (k : Nat) (l0 : List Int) : Option (Bool) := (shunterlaw01_awake.f k).bind fun t112 => (if t112 = true then (if 0 ≤ (mn (l0.length : Int) 30) then (if (mn (l0.length : Int) 30) ≤ (l0.length : Int) then (shunterlaw01_LebRow.l0 k (l0.take ((mn (l0.length : Int) 30) : Int).toNat) (⟨#[]⟩ : ByteArray) (l0.take ((mn (l0.length : Int) 30) : Int).toNat) ((l0.take ((mn (l0.length : Int) 30) : Int).toNat).length : Int) 0) else (none)) else (none)) else (some false))
theorem shunterlaw01_LebRow.mono_l : ∀ k, (∀ y0 y1 y2 y3 y4, LeO (shunterlaw01_LebRow.l0 k y0 y1 y2 y3 y4) (shunterlaw01_LebRow.l0 (k + 1) y0 y1 y2 y3 y4)) ∧ (∀ y0 y1 y2 y3 y4, LeO (shunterlaw01_LebRow.l1 k y0 y1 y2 y3 y4) (shunterlaw01_LebRow.l1 (k + 1) y0 y1 y2 y3 y4))
  | 0 => ⟨fun _ _ _ _ _ r h => by simp [shunterlaw01_LebRow.l0] at h, fun _ _ _ _ _ r h => by simp [shunterlaw01_LebRow.l1] at h⟩
  | k + 1 => by
    obtain ⟨ih0, ih1⟩ := shunterlaw01_LebRow.mono_l k
    refine ⟨?_, ?_⟩
    · intro y0 y1 y2 y3 y4
      unfold shunterlaw01_LebRow.l0
      repeat' first
      | (with_reducible exact ih0 _ _ _ _ _)
      | (with_reducible exact ih1 _ _ _ _ _)
      | (with_reducible exact leb_Get.mono _ _ _)
      | (with_reducible exact leb_Len.mono _ _)
      | (with_reducible exact leb_Put.mono _ _)
      | (with_reducible exact shunterlaw01_awake.mono _)
      | (with_reducible exact LeO.refl _)
      | (with_reducible exact LeO.none _)
      | (with_reducible refine LeO.ite ?_ ?_)
      | (with_reducible refine LeO.bind ?_ (fun _ => ?_))
      | exact ih0 _ _ _ _ _
      | exact ih1 _ _ _ _ _
      | exact leb_Get.mono _ _ _
      | exact leb_Len.mono _ _
      | exact leb_Put.mono _ _
      | exact shunterlaw01_awake.mono _
      | exact LeO.none _
      | refine LeO.ite ?_ ?_
      | refine LeO.bind ?_ (fun _ => ?_)
    · intro y0 y1 y2 y3 y4
      unfold shunterlaw01_LebRow.l1
      repeat' first
      | (with_reducible exact ih0 _ _ _ _ _)
      | (with_reducible exact ih1 _ _ _ _ _)
      | (with_reducible exact leb_Get.mono _ _ _)
      | (with_reducible exact leb_Len.mono _ _)
      | (with_reducible exact leb_Put.mono _ _)
      | (with_reducible exact shunterlaw01_awake.mono _)
      | (with_reducible exact LeO.refl _)
      | (with_reducible exact LeO.none _)
      | (with_reducible refine LeO.ite ?_ ?_)
      | (with_reducible refine LeO.bind ?_ (fun _ => ?_))
      | exact ih0 _ _ _ _ _
      | exact ih1 _ _ _ _ _
      | exact leb_Get.mono _ _ _
      | exact leb_Len.mono _ _
      | exact leb_Put.mono _ _
      | exact shunterlaw01_awake.mono _
      | exact LeO.none _
      | refine LeO.ite ?_ ?_
      | refine LeO.bind ?_ (fun _ => ?_)
theorem shunterlaw01_LebRow.mono : ∀ a0 k, LeO (shunterlaw01_LebRow.f k a0) (shunterlaw01_LebRow.f (k + 1) a0) := by
  intro a0 k
  obtain ⟨ih0, ih1⟩ := shunterlaw01_LebRow.mono_l k
  unfold shunterlaw01_LebRow.f
  repeat' first
      | (with_reducible exact ih0 _ _ _ _ _)
      | (with_reducible exact ih1 _ _ _ _ _)
      | (with_reducible exact leb_Get.mono _ _ _)
      | (with_reducible exact leb_Len.mono _ _)
      | (with_reducible exact leb_Put.mono _ _)
      | (with_reducible exact shunterlaw01_awake.mono _)
      | (with_reducible exact LeO.refl _)
      | (with_reducible exact LeO.none _)
      | (with_reducible refine LeO.ite ?_ ?_)
      | (with_reducible refine LeO.bind ?_ (fun _ => ?_))
      | exact ih0 _ _ _ _ _
      | exact ih1 _ _ _ _ _
      | exact leb_Get.mono _ _ _
      | exact leb_Len.mono _ _
      | exact leb_Put.mono _ _
      | exact shunterlaw01_awake.mono _
      | exact LeO.none _
      | refine LeO.ite ?_ ?_
      | refine LeO.bind ?_ (fun _ => ?_)
set_option maxHeartbeats 8000000 in
set_option maxRecDepth 100000 in
theorem shunterlaw01_LebRow.calls (k : Nat) (A0 : Option Addr) (c0 : Nat) (l0 : List Int) (r : Bool) (w : World) (hr0 : Kd.C (Kd.int .u64) w A0 l0.length l0) (hc0 : l0.length ≤ c0) (h : shunterlaw01_LebRow.f k l0 = some r) :
    Calls Try.prog 9 #[.slice A0 l0.length c0] w fun e w' => e = .returned (.bool r) ∧ Below w.heap.size w w' := by
  have HR0 := Aside0.mk hr0
  have HC0 := Aside0.mk hc0
  clear hr0 hc0
  have HB := Aside0.mk (Below.refl w.heap.size w)
  have H : ((shunterlaw01_awake.f k).bind fun t112 => (if t112 = true then (if 0 ≤ (mn (l0.length : Int) 30) then (if (mn (l0.length : Int) 30) ≤ (l0.length : Int) then (shunterlaw01_LebRow.l0 k (l0.take ((mn (l0.length : Int) 30) : Int).toNat) (⟨#[]⟩ : ByteArray) (l0.take ((mn (l0.length : Int) 30) : Int).toNat) ((l0.take ((mn (l0.length : Int) 30) : Int).toNat).length : Int) 0) else (none)) else (none)) else (some false))) = some r := h
  clear h
  replace H := Option.bind_eq_some_iff.mp H
  obtain ⟨t112, A20, H⟩ := H
  replace H : (if t112 = true then (if 0 ≤ (mn (l0.length : Int) 30) then (if (mn (l0.length : Int) 30) ≤ (l0.length : Int) then (shunterlaw01_LebRow.l0 k (l0.take ((mn (l0.length : Int) 30) : Int).toNat) (⟨#[]⟩ : ByteArray) (l0.take ((mn (l0.length : Int) 30) : Int).toNat) ((l0.take ((mn (l0.length : Int) 30) : Int).toNat).length : Int) 0) else (none)) else (none)) else (some false)) = some r := H
  have A2 := Aside0.mk A20
  clear A20
  by_cases c3 : t112 = true
  · subst c3
    have H1 : (if 0 ≤ (mn (l0.length : Int) 30) then (if (mn (l0.length : Int) 30) ≤ (l0.length : Int) then (shunterlaw01_LebRow.l0 k (l0.take ((mn (l0.length : Int) 30) : Int).toNat) (⟨#[]⟩ : ByteArray) (l0.take ((mn (l0.length : Int) 30) : Int).toNat) ((l0.take ((mn (l0.length : Int) 30) : Int).toNat).length : Int) 0) else (none)) else (none)) = some r := by rw [if_pos rfl] at H; exact H
    clear H
    have H := H1
    clear H1
    obtain ⟨ji4, hji4⟩ : ∃ j_ : Int, (mn (l0.length : Int) 30) = j_ := ⟨_, rfl⟩
    replace H : (if 0 ≤ (ji4) then (if (ji4) ≤ (l0.length : Int) then (shunterlaw01_LebRow.l0 k (l0.take ((ji4) : Int).toNat) (⟨#[]⟩ : ByteArray) (l0.take ((ji4) : Int).toNat) ((l0.take ((ji4) : Int).toNat).length : Int) 0) else (none)) else (none)) = some r := by first | (rw [hji4] at H; exact H) | (simp only [hji4] at H ⊢; exact H)
    (try rw [hji4] at A2)
    (try (have hji4h : ji4 ≤ 30 := by (rw [← hji4]; unfold mn; (repeat' split) <;> omega)))
    (try (have hji4g : ji4 ≤ 64 := by omega))
    (try (have hji4l : 0 ≤ ji4 := by (rw [← hji4]; unfold mn; (repeat' split) <;> omega)))
    (try (have hji4m : 0 ≤ ji4 := by omega))
    have hji4_ : (if 30 < (l0.length : Int) then 30 else (l0.length : Int)) = ji4 := hji4
    by_cases c5 : 0 ≤ (ji4)
    · rw [if_pos c5] at H
      have c5b0 := eq_true c5
      have c5b1 : decide (0 ≤ (ji4)) = true := decide_eq_true c5
      clear c5
      by_cases c6 : (ji4) ≤ (l0.length : Int)
      · rw [if_pos c6] at H
        have c6b0 := eq_true c6
        have hlen := Aside0.mk (show ((l0.take (ji4 : Int).toNat).length : Int) = max ji4 0 by have := of_decide_eq_true c5b1; rw [List.length_take]; omega)
        have c6b1 : decide ((ji4) ≤ (l0.length : Int)) = true := decide_eq_true c6
        clear c6
        have H' := Aside0.mk H
        clear H
        go_enter Try.func9, Try.ntmps9
        go_wp2_with (first | ((with_reducible refine gate_callee (f := 25) rfl ?_); refine goesL_ (some 15) rfl rfl Try.func25 (by kernel_rfl) rfl #[] rfl (by (try simp only [List.map_toArray, List.map_cons, List.map_nil]); first | done | rfl | (simp only [List.length_drop, List.length_take]; rfl)) ?_; (with_reducible refine (shunterlaw01_awake.calls k  true _ A2.out).mono ?_); rintro e w7 ⟨rfl, hb⟩; refine ⟨_, rfl, ?_⟩; have n0_ := Aside0.mk (below_step (by repeat (first | (with_reducible first | exact HB.out | apply below_alloc | apply pw_below_drewN | apply below_drew1) | exact HB.out)) hb); clear HB; have HB := n0_; clear n0_; (try clear hb); (try clear hb2); (try clear hk); (try clear hi); obtain ⟨i08, hi08, _, hsz8, _⟩ := info_parts info44; obtain ⟨hcut8, hA8, hC8⟩ := print_take_of (P := Try.prog) (Value.int .u64) 0 56 44 .i64 Try.underlying56 hi08 hsz8 A0 c0 l0 (ji4) (of_decide_eq_true (by first | (with_reducible assumption) | assumption)) (of_decide_eq_true (by first | (with_reducible assumption) | assumption)) HC0.out; have HR113 := Aside0.mk (Kd.C_of_reads (h1 := fun _ => rfl) (hA8 _ (Kd.reads_of_C HR0.out))); have HC113 := Aside0.mk hC8; clear hA8 hC8 hi08 hsz8))
        go_loopg [3, 24] k (fun kq v3 v24 w' => ∃ (x3_1 : ByteArray) (x24_1 : Int), v3 = .string x3_1 ∧ v24 = .int .i64 x24_1 ∧ Aside0 (shunterlaw01_LebRow.l0 kq (l0.take ((ji4) : Int).toNat) x3_1 (l0.take ((ji4) : Int).toNat) ((l0.take ((ji4) : Int).toNat).length : Int) x24_1 = some r) ∧ Aside0 (kq ≤ k) ∧ Aside0 (Below w.heap.size w w'))
        case atStart => exact ⟨((⟨#[]⟩ : ByteArray)), (0), (by first | rfl | (simp; done) | (simp [*]; done)), (by first | rfl | (simp; done) | (simp [*]; done)), H', ⟨Nat.le_refl _⟩, ⟨by repeat (first | (with_reducible first | exact HB.out | apply below_alloc | apply pw_below_drewN | apply below_drew1) | exact HB.out)⟩⟩
        case round =>
          clear H'
          try clear c2
          try clear p2
          try clear c3
          try clear c5
          try clear c5b0
          try clear c5b1
          try clear c6
          try clear c6b0
          try clear c6b1
          obtain ⟨x3_1, x24_1, rfl, rfl, HA, HK1, HB⟩ := hrel
          cases gk with
          | zero => exact absurd HA.out (by simp [shunterlaw01_LebRow.l0])
          | succ k1 =>
            have H := HA.out
            clear HA
            simp only [shunterlaw01_LebRow.l0] at H
            by_cases c9 : x24_1 < ((l0.take ((ji4) : Int).toNat).length : Int)
            · rw [if_pos c9] at H
              have c9b0 : decide (x24_1 < ((l0.take ((ji4) : Int).toNat).length : Int)) = true := decide_eq_true c9
              have c9b0m : decide (x24_1 < max ji4 0) = true := by rw [← hlen.out]; exact c9b0
              have c9b0n : (x24_1 < max ji4 0) = True := eq_true (of_decide_eq_true c9b0m)
              have c9b0o : (max ji4 0 ≤ x24_1) = False := eq_false (Int.not_le.2 (of_decide_eq_true c9b0m))
              clear c9
              by_cases c10 : 0 ≤ x24_1
              · rw [if_pos c10] at H
                have c10b0 : decide (0 ≤ x24_1) = true := decide_eq_true c10
                clear c10
                by_cases c11 : x24_1 < ((l0.take ((ji4) : Int).toNat).length : Int)
                · rw [if_pos c11] at H
                  have c11b0 : decide (x24_1 < ((l0.take ((ji4) : Int).toNat).length : Int)) = true := decide_eq_true c11
                  have c11b0m : decide (x24_1 < max ji4 0) = true := by rw [← hlen.out]; exact c11b0
                  have c11b0n : (x24_1 < max ji4 0) = True := eq_true (of_decide_eq_true c11b0m)
                  have c11b0o : (max ji4 0 ≤ x24_1) = False := eq_false (Int.not_le.2 (of_decide_eq_true c11b0m))
                  clear c11
                  replace H := Option.bind_eq_some_iff.mp H
                  obtain ⟨t115, A120, H⟩ := H
                  replace H : (if x3_1.size + t115.size ≤ 9223372036854775807 then (shunterlaw01_LebRow.l0 k1 (l0.take ((ji4) : Int).toNat) (x3_1 ++ t115) (l0.take ((ji4) : Int).toNat) ((l0.take ((ji4) : Int).toNat).length : Int) (wrap64 (x24_1 + 1))) else (none)) = some r := H
                  have A12 := Aside0.mk A120
                  clear A120
                  by_cases c13 : x3_1.size + t115.size ≤ 9223372036854775807
                  · rw [if_pos c13] at H
                    have c13b0 := eq_true c13
                    have c13b1 : decide (x3_1.size + t115.size ≤ 9223372036854775807) = true := decide_eq_true c13
                    try have c13b2 : (9223372036854775807 < x3_1.size + t115.size) = False := eq_false (Nat.not_lt.2 c13)
                    have H' := Aside0.mk H
                    clear H
                    have p114 : 0 ≤ (x24_1 : Int) := of_decide_eq_true (by first | (with_reducible assumption) | assumption)
                    have q114 : x24_1 < ((l0.take ((ji4) : Int).toNat).length : Int) := of_decide_eq_true (by first | (with_reducible assumption) | assumption)
                    obtain ⟨ad114, e114, hx114_0⟩ := Kd.at_int HR113.out x24_1 p114 q114
                    cases e114
                    replace hx114_0 := (HB.out.cell (World.block_lt_of_cell? w _ hx114_0)).trans hx114_0
                    replace p114 := eq_true p114
                    replace q114 := eq_true q114
                    go_wp2_with (first | ((with_reducible refine gate_callee (f := 28) rfl ?_); refine goesL_ (some 30) rfl rfl Try.func28 (by kernel_rfl) rfl #[.int .u64 (rd (l0.take ((ji4) : Int).toNat) x24_1)] rfl (by (try simp only [List.map_toArray, List.map_cons, List.map_nil]); first | done | (simp only [hji4]; rfl) | rfl | (simp only [List.length_drop, List.length_take]; rfl)) ?_; (with_reducible refine (leb_Put.calls k1 (rd (l0.take ((ji4) : Int).toNat) x24_1) t115 _ A12.out).mono ?_); rintro e w14 ⟨rfl, hb⟩; refine ⟨_, rfl, ?_⟩; have n0_ := Aside0.mk (below_step (by repeat (first | (with_reducible first | exact HB.out | apply below_alloc | apply pw_below_drewN | apply below_drew1) | exact HB.out)) hb); clear HB; have HB := n0_; clear n0_; (try clear hb); (try clear hb2); (try clear hk); (try clear hi)))
                    go_roundg k1
                    case measure => have := HK1.out; omega
                    case rel => exact ⟨(x3_1 ++ t115), (wrap64 (x24_1 + 1)), (by first | rfl | (simp; done) | (simp [*]; done)), (by first | rfl | (simp; done) | (simp [*]; done)), H', ⟨by have := HK1.out; omega⟩, ⟨by repeat (first | (with_reducible first | exact HB.out | apply below_alloc | apply pw_below_drewN | apply below_drew1) | exact HB.out)⟩⟩
                  · rw [if_neg c13] at H
                    exact absurd H (by simp)
                · rw [if_neg c11] at H
                  exact absurd H (by simp)
              · rw [if_neg c10] at H
                exact absurd H (by simp)
            · rw [if_neg c9] at H
              have c9b0 : decide (x24_1 < ((l0.take ((ji4) : Int).toNat).length : Int)) = false := decide_eq_false c9
              have c9b0m : decide (x24_1 < max ji4 0) = false := by rw [← hlen.out]; exact c9b0
              clear c9
              have H' := Aside0.mk H
              clear H
              go_wp2
              go_loopg [6, 35] k1 (fun kq v6 v35 w' => ∃ (x6_2 : Int) (x35_2 : Int), v6 = .int .i64 x6_2 ∧ v35 = .int .i64 x35_2 ∧ Aside0 (shunterlaw01_LebRow.l1 kq x3_1 x6_2 (l0.take ((ji4) : Int).toNat) ((l0.take ((ji4) : Int).toNat).length : Int) x35_2 = some r) ∧ Aside0 (kq ≤ k1) ∧ Aside0 (Below w.heap.size w w'))
              case atStart => exact ⟨(0), (0), (by first | rfl | (simp; done) | (simp [*]; done)), (by first | rfl | (simp; done) | (simp [*]; done)), H', ⟨Nat.le_refl _⟩, ⟨by repeat (first | (with_reducible first | exact HB.out | apply below_alloc | apply pw_below_drewN | apply below_drew1) | exact HB.out)⟩⟩
              case round =>
                clear H'
                try clear c1
                try clear p1
                try clear q1
                try clear hx1
                try clear c2
                try clear p2
                try clear c3
                try clear c5
                try clear c5b0
                try clear c5b1
                try clear c6
                try clear c6b0
                try clear c6b1
                try clear p6
                try clear c9
                try clear c9b0
                try clear c10
                try clear c10b0
                try clear c11
                try clear c11b0
                try clear p11
                try clear q11
                try clear hx11
                try clear c13
                try clear c13b0
                try clear c13b1
                try clear c13b2
                try clear hx114_0
                try clear p114
                try clear p2
                try clear q114
                obtain ⟨x6_2, x35_2, rfl, rfl, HA, HK2, HB⟩ := hrel
                cases gk with
                | zero => exact absurd HA.out (by simp [shunterlaw01_LebRow.l1])
                | succ k2 =>
                  have H := HA.out
                  clear HA
                  simp only [shunterlaw01_LebRow.l1] at H
                  by_cases c15 : x35_2 < ((l0.take ((ji4) : Int).toNat).length : Int)
                  · rw [if_pos c15] at H
                    have c15b0 : decide (x35_2 < ((l0.take ((ji4) : Int).toNat).length : Int)) = true := decide_eq_true c15
                    have c15b0m : decide (x35_2 < max ji4 0) = true := by rw [← hlen.out]; exact c15b0
                    have c15b0n : (x35_2 < max ji4 0) = True := eq_true (of_decide_eq_true c15b0m)
                    have c15b0o : (max ji4 0 ≤ x35_2) = False := eq_false (Int.not_le.2 (of_decide_eq_true c15b0m))
                    clear c15
                    by_cases c16 : 0 ≤ x35_2
                    · rw [if_pos c16] at H
                      have c16b0 : decide (0 ≤ x35_2) = true := decide_eq_true c16
                      clear c16
                      by_cases c17 : x35_2 < ((l0.take ((ji4) : Int).toNat).length : Int)
                      · rw [if_pos c17] at H
                        have c17b0 : decide (x35_2 < ((l0.take ((ji4) : Int).toNat).length : Int)) = true := decide_eq_true c17
                        have c17b0m : decide (x35_2 < max ji4 0) = true := by rw [← hlen.out]; exact c17b0
                        have c17b0n : (x35_2 < max ji4 0) = True := eq_true (of_decide_eq_true c17b0m)
                        have c17b0o : (max ji4 0 ≤ x35_2) = False := eq_false (Int.not_le.2 (of_decide_eq_true c17b0m))
                        clear c17
                        replace H := Option.bind_eq_some_iff.mp H
                        obtain ⟨⟨t120, t121, t122⟩, A180, H⟩ := H
                        replace H : (if t122 = 0 then (if t120 = (rd (l0.take ((ji4) : Int).toNat) x35_2) then ((leb_Len.f k2 (rd (l0.take ((ji4) : Int).toNat) x35_2)).bind fun t123 => (if t121 = (wrap64 (x6_2 + t123)) then (shunterlaw01_LebRow.l1 k2 x3_1 t121 (l0.take ((ji4) : Int).toNat) ((l0.take ((ji4) : Int).toNat).length : Int) (wrap64 (x35_2 + 1))) else (some false))) else (some false)) else (some false)) = some r := H
                        have A18 := Aside0.mk A180
                        clear A180
                        by_cases c19 : t122 = 0
                        · rw [if_pos c19] at H
                          have c19b0 : (t122 == 0) = true := beq_iff_eq.mpr c19
                          have c19b1 : (t122 != 0) = false := bne_eq_false_iff_eq.mpr c19
                          clear c19
                          by_cases c20 : t120 = (rd (l0.take ((ji4) : Int).toNat) x35_2)
                          · rw [if_pos c20] at H
                            have c20b0 : (t120 == (rd (l0.take ((ji4) : Int).toNat) x35_2)) = true := beq_iff_eq.mpr c20
                            have c20b1 : (t120 != (rd (l0.take ((ji4) : Int).toNat) x35_2)) = false := bne_eq_false_iff_eq.mpr c20
                            clear c20
                            replace H := Option.bind_eq_some_iff.mp H
                            obtain ⟨t123, A210, H⟩ := H
                            replace H : (if t121 = (wrap64 (x6_2 + t123)) then (shunterlaw01_LebRow.l1 k2 x3_1 t121 (l0.take ((ji4) : Int).toNat) ((l0.take ((ji4) : Int).toNat).length : Int) (wrap64 (x35_2 + 1))) else (some false)) = some r := H
                            have A21 := Aside0.mk A210
                            clear A210
                            by_cases c22 : t121 = (wrap64 (x6_2 + t123))
                            · rw [if_pos c22] at H
                              have c22b0 : (t121 == (wrap64 (x6_2 + t123))) = true := beq_iff_eq.mpr c22
                              have c22b1 : (t121 != (wrap64 (x6_2 + t123))) = false := bne_eq_false_iff_eq.mpr c22
                              clear c22
                              have H' := Aside0.mk H
                              clear H
                              have p119 : 0 ≤ (x35_2 : Int) := of_decide_eq_true (by first | (with_reducible assumption) | assumption)
                              have q119 : x35_2 < ((l0.take ((ji4) : Int).toNat).length : Int) := of_decide_eq_true (by first | (with_reducible assumption) | assumption)
                              obtain ⟨ad119, e119, hx119_0⟩ := Kd.at_int HR113.out x35_2 p119 q119
                              cases e119
                              replace hx119_0 := (HB.out.cell (World.block_lt_of_cell? w _ hx119_0)).trans hx119_0
                              replace p119 := eq_true p119
                              replace q119 := eq_true q119
                              go_wp2_with (first | ((with_reducible refine gate_callee (f := 26) rfl ?_); refine goesL_ (some 42) rfl rfl Try.func26 (by kernel_rfl) rfl #[.string x3_1, .int .i64 x6_2] rfl (by (try simp only [List.map_toArray, List.map_cons, List.map_nil]); first | done | rfl | (simp only [List.length_drop, List.length_take]; rfl)) ?_; (with_reducible refine (leb_Get.calls k2 x3_1 x6_2 t120 t121 t122 _ A18.out).mono ?_); rintro e w' ⟨rfl, ⟨nd, rfl⟩⟩; refine ⟨_, rfl, ?_⟩) | (go_at_call 33; (with_reducible refine (leb_Len.calls k2 (rd (l0.take ((ji4) : Int).toNat) x35_2) t123 _ A21.out).mono ?_); rintro e w' ⟨rfl, ⟨nd, rfl⟩⟩))
                              go_roundg k2
                              case measure => have := HK1.out; have := HK2.out; omega
                              case rel => exact ⟨(t121), (wrap64 (x35_2 + 1)), (by first | rfl | (simp; done) | (simp [*]; done)), (by first | rfl | (simp; done) | (simp [*]; done)), H', ⟨by have := HK1.out; have := HK2.out; omega⟩, ⟨by repeat (first | (with_reducible first | exact HB.out | apply below_alloc | apply pw_below_drewN | apply below_drew1) | exact HB.out)⟩⟩
                            · rw [if_neg c22] at H
                              have c22b0 : (t121 == (wrap64 (x6_2 + t123))) = false := beq_eq_false_iff_ne.mpr c22
                              have c22b1 : (t121 != (wrap64 (x6_2 + t123))) = true := bne_iff_ne.mpr c22
                              obtain rfl := Option.some.inj H
                              have p119 : 0 ≤ (x35_2 : Int) := of_decide_eq_true (by first | (with_reducible assumption) | assumption)
                              have q119 : x35_2 < ((l0.take ((ji4) : Int).toNat).length : Int) := of_decide_eq_true (by first | (with_reducible assumption) | assumption)
                              obtain ⟨ad119, e119, hx119_0⟩ := Kd.at_int HR113.out x35_2 p119 q119
                              cases e119
                              replace hx119_0 := (HB.out.cell (World.block_lt_of_cell? w _ hx119_0)).trans hx119_0
                              replace p119 := eq_true p119
                              replace q119 := eq_true q119
                              go_wp2_with (first | ((with_reducible refine gate_callee (f := 26) rfl ?_); refine goesL_ (some 42) rfl rfl Try.func26 (by kernel_rfl) rfl #[.string x3_1, .int .i64 x6_2] rfl (by (try simp only [List.map_toArray, List.map_cons, List.map_nil]); first | done | rfl | (simp only [List.length_drop, List.length_take]; rfl)) ?_; (with_reducible refine (leb_Get.calls k2 x3_1 x6_2 t120 t121 t122 _ A18.out).mono ?_); rintro e w' ⟨rfl, ⟨nd, rfl⟩⟩; refine ⟨_, rfl, ?_⟩) | (go_at_call 33; (with_reducible refine (leb_Len.calls k2 (rd (l0.take ((ji4) : Int).toNat) x35_2) t123 _ A21.out).mono ?_); rintro e w' ⟨rfl, ⟨nd, rfl⟩⟩))
                              go_ret
                              exact ⟨by first | rfl | (simp [errW_none, errW_some] <;> rfl) | (simp only [← hji4]; first | rfl | (simp [errW_none, errW_some] <;> rfl)) | (simp [*, errW_none, errW_some] <;> rfl), by repeat (first | (with_reducible first | exact HB.out | apply below_alloc | apply pw_below_drewN | apply below_drew1) | exact HB.out)⟩
                          · rw [if_neg c20] at H
                            have c20b0 : (t120 == (rd (l0.take ((ji4) : Int).toNat) x35_2)) = false := beq_eq_false_iff_ne.mpr c20
                            have c20b1 : (t120 != (rd (l0.take ((ji4) : Int).toNat) x35_2)) = true := bne_iff_ne.mpr c20
                            obtain rfl := Option.some.inj H
                            have p119 : 0 ≤ (x35_2 : Int) := of_decide_eq_true (by first | (with_reducible assumption) | assumption)
                            have q119 : x35_2 < ((l0.take ((ji4) : Int).toNat).length : Int) := of_decide_eq_true (by first | (with_reducible assumption) | assumption)
                            obtain ⟨ad119, e119, hx119_0⟩ := Kd.at_int HR113.out x35_2 p119 q119
                            cases e119
                            replace hx119_0 := (HB.out.cell (World.block_lt_of_cell? w _ hx119_0)).trans hx119_0
                            replace p119 := eq_true p119
                            replace q119 := eq_true q119
                            go_wp2_with (first | ((with_reducible refine gate_callee (f := 26) rfl ?_); refine goesL_ (some 42) rfl rfl Try.func26 (by kernel_rfl) rfl #[.string x3_1, .int .i64 x6_2] rfl (by (try simp only [List.map_toArray, List.map_cons, List.map_nil]); first | done | rfl | (simp only [List.length_drop, List.length_take]; rfl)) ?_; (with_reducible refine (leb_Get.calls k2 x3_1 x6_2 t120 t121 t122 _ A18.out).mono ?_); rintro e w' ⟨rfl, ⟨nd, rfl⟩⟩; refine ⟨_, rfl, ?_⟩))
                            go_ret
                            exact ⟨by first | rfl | (simp [errW_none, errW_some] <;> rfl) | (simp only [← hji4]; first | rfl | (simp [errW_none, errW_some] <;> rfl)) | (simp [*, errW_none, errW_some] <;> rfl), by repeat (first | (with_reducible first | exact HB.out | apply below_alloc | apply pw_below_drewN | apply below_drew1) | exact HB.out)⟩
                        · rw [if_neg c19] at H
                          have c19b0 : (t122 == 0) = false := beq_eq_false_iff_ne.mpr c19
                          have c19b1 : (t122 != 0) = true := bne_iff_ne.mpr c19
                          obtain rfl := Option.some.inj H
                          have p119 : 0 ≤ (x35_2 : Int) := of_decide_eq_true (by first | (with_reducible assumption) | assumption)
                          have q119 : x35_2 < ((l0.take ((ji4) : Int).toNat).length : Int) := of_decide_eq_true (by first | (with_reducible assumption) | assumption)
                          obtain ⟨ad119, e119, hx119_0⟩ := Kd.at_int HR113.out x35_2 p119 q119
                          cases e119
                          replace hx119_0 := (HB.out.cell (World.block_lt_of_cell? w _ hx119_0)).trans hx119_0
                          replace p119 := eq_true p119
                          replace q119 := eq_true q119
                          go_wp2_with (first | ((with_reducible refine gate_callee (f := 26) rfl ?_); refine goesL_ (some 42) rfl rfl Try.func26 (by kernel_rfl) rfl #[.string x3_1, .int .i64 x6_2] rfl (by (try simp only [List.map_toArray, List.map_cons, List.map_nil]); first | done | rfl | (simp only [List.length_drop, List.length_take]; rfl)) ?_; (with_reducible refine (leb_Get.calls k2 x3_1 x6_2 t120 t121 t122 _ A18.out).mono ?_); rintro e w' ⟨rfl, ⟨nd, rfl⟩⟩; refine ⟨_, rfl, ?_⟩))
                          go_ret
                          exact ⟨by first | rfl | (simp [errW_none, errW_some] <;> rfl) | (simp only [← hji4]; first | rfl | (simp [errW_none, errW_some] <;> rfl)) | (simp [*, errW_none, errW_some] <;> rfl), by repeat (first | (with_reducible first | exact HB.out | apply below_alloc | apply pw_below_drewN | apply below_drew1) | exact HB.out)⟩
                      · rw [if_neg c17] at H
                        exact absurd H (by simp)
                    · rw [if_neg c16] at H
                      exact absurd H (by simp)
                  · rw [if_neg c15] at H
                    have c15b0 : decide (x35_2 < ((l0.take ((ji4) : Int).toNat).length : Int)) = false := decide_eq_false c15
                    have c15b0m : decide (x35_2 < max ji4 0) = false := by rw [← hlen.out]; exact c15b0
                    clear c15
                    replace H := Option.bind_eq_some_iff.mp H
                    obtain ⟨⟨t116, t117, t118⟩, A230, H⟩ := H
                    replace H : (if x6_2 = (x3_1.size : Int) then (some (t118 == 2)) else (some false)) = some r := H
                    have A23 := Aside0.mk A230
                    clear A230
                    by_cases c24 : x6_2 = (x3_1.size : Int)
                    · rw [if_pos c24] at H
                      have c24b0 : (x6_2 == (x3_1.size : Int)) = true := beq_iff_eq.mpr c24
                      have c24b1 : (x6_2 != (x3_1.size : Int)) = false := bne_eq_false_iff_eq.mpr c24
                      clear c24
                      obtain rfl := Option.some.inj H
                      go_wp2_with (first | ((with_reducible refine gate_callee (f := 26) rfl ?_); refine goesL_ (some 66) rfl rfl Try.func26 (by kernel_rfl) rfl #[.string x3_1, .int .i64 x6_2] rfl (by (try simp only [List.map_toArray, List.map_cons, List.map_nil]); first | done | rfl | (simp only [List.length_drop, List.length_take]; rfl)) ?_; (with_reducible refine (leb_Get.calls k2 x3_1 x6_2 t116 t117 t118 _ A23.out).mono ?_); rintro e w' ⟨rfl, ⟨nd, rfl⟩⟩; refine ⟨_, rfl, ?_⟩))
                      go_ret
                      exact ⟨by first | rfl | (simp [errW_none, errW_some] <;> rfl) | (simp only [← hji4]; first | rfl | (simp [errW_none, errW_some] <;> rfl)) | (simp [*, errW_none, errW_some] <;> rfl), by repeat (first | (with_reducible first | exact HB.out | apply below_alloc | apply pw_below_drewN | apply below_drew1) | exact HB.out)⟩
                    · rw [if_neg c24] at H
                      have c24b0 : (x6_2 == (x3_1.size : Int)) = false := beq_eq_false_iff_ne.mpr c24
                      have c24b1 : (x6_2 != (x3_1.size : Int)) = true := bne_iff_ne.mpr c24
                      obtain rfl := Option.some.inj H
                      go_wp2_with (first | ((with_reducible refine gate_callee (f := 26) rfl ?_); refine goesL_ (some 66) rfl rfl Try.func26 (by kernel_rfl) rfl #[.string x3_1, .int .i64 x6_2] rfl (by (try simp only [List.map_toArray, List.map_cons, List.map_nil]); first | done | rfl | (simp only [List.length_drop, List.length_take]; rfl)) ?_; (with_reducible refine (leb_Get.calls k2 x3_1 x6_2 t116 t117 t118 _ A23.out).mono ?_); rintro e w' ⟨rfl, ⟨nd, rfl⟩⟩; refine ⟨_, rfl, ?_⟩))
                      go_ret
                      exact ⟨by first | rfl | (simp [errW_none, errW_some] <;> rfl) | (simp only [← hji4]; first | rfl | (simp [errW_none, errW_some] <;> rfl)) | (simp [*, errW_none, errW_some] <;> rfl), by repeat (first | (with_reducible first | exact HB.out | apply below_alloc | apply pw_below_drewN | apply below_drew1) | exact HB.out)⟩
      · rw [if_neg c6] at H
        exact absurd H (by simp)
    · rw [if_neg c5] at H
      exact absurd H (by simp)
  · replace c3 := Bool.eq_false_iff.mpr c3
    subst c3
    have H1 : (some false) = some r := by rw [if_neg (show ¬ (false = true) by decide)] at H; exact H
    clear H
    have H := H1
    clear H1
    obtain rfl := Option.some.inj H
    go_enter Try.func9, Try.ntmps9
    go_wp2_with (first | ((with_reducible refine gate_callee (f := 25) rfl ?_); refine goesL_ (some 15) rfl rfl Try.func25 (by kernel_rfl) rfl #[] rfl (by (try simp only [List.map_toArray, List.map_cons, List.map_nil]); first | done | rfl | (simp only [List.length_drop, List.length_take]; rfl)) ?_; (with_reducible refine (shunterlaw01_awake.calls k  false _ A2.out).mono ?_); rintro e w25 ⟨rfl, hb⟩; refine ⟨_, rfl, ?_⟩; have n0_ := Aside0.mk (below_step (by repeat (first | (with_reducible first | exact HB.out | apply below_alloc | apply pw_below_drewN | apply below_drew1) | exact HB.out)) hb); clear HB; have HB := n0_; clear n0_; (try clear hb); (try clear hb2); (try clear hk); (try clear hi)))
    go_ret
    exact ⟨by first | rfl | (simp [errW_none, errW_some] <;> rfl) | (simp [*, errW_none, errW_some] <;> rfl), by repeat (first | (with_reducible first | exact HB.out | apply below_alloc | apply pw_below_drewN | apply below_drew1) | exact HB.out)⟩

/-- THE ONE PURE STATEMENT of shunterlaw01_LebRow: yours. -/
def shunterlaw01_LebRow.Pure : Prop := ∀ (l0 : List Int), l0.length ≤ maxLen → l0.length * 8 ≤ 140737488351232 → (∀ x ∈ l0, (Lit.int .u64 x).wf = true) → ∃ k, shunterlaw01_LebRow.f k l0 = some true
theorem shunterlaw01_LebRow.walk (P : shunterlaw01_LebRow.Pure) (a0 : Option Addr) (len0 cap0 : Nat) (z0 : List Int) (w : World) (w0 : (a0 = none ∧ len0 = 0 ∧ cap0 = 0 ∧ z0 = []) ∨ ∃ x, a0 = some x ∧ len0 ≤ cap0 ∧ cap0 ≤ maxLen ∧ z0.length = cap0 ∧ (∀ i, i < z0.length → w.cell? (x.add i) = some (.int .u64 (z0.getD i 0))) ∧ ∀ n ∈ z0, (Lit.int .u64 n).wf = true) (y0 : len0 * 8 ≤ 140737488351232) :
    Calls Try.prog 9 #[.slice a0 len0 cap0] w fun e w' => e = .returned (.bool true) ∧ Below w.heap.size w w' := by
  obtain ⟨l0, rfl, hr0, hm0, hw0, hc0⟩ := ReadsInt.ofRowC w0
  obtain ⟨k, h⟩ := P l0 hm0 y0 hw0
  refine (shunterlaw01_LebRow.calls k _ _ l0 true w (Kd.C_of_reads (d := (0 : Int)) (h1 := fun _ => rfl) hr0) hc0 h).mono ?_
  rintro e w' ⟨rfl, hd⟩
  exact ⟨rfl, hd⟩


end Go.Proofs.Ythdnlhcepndncaa.Row

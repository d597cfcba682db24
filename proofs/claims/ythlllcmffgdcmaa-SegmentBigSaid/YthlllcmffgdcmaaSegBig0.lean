/- The walk of SegmentBig: the ways that tell true. -/
import Derived.Test.YthlllcmffgdcmaaQSegmentOpensx3
namespace Go.Proofs.Ythlllcmffgdcmaa.SegBig
open Go.RowKit Go.Proofs.Ythlllcmffgdcmaa.Crc Go.Proofs.Ythlllcmffgdcmaa.QSegmentOpens Go.Proofs.YthlllcmffgdcmaaW.PrintWords Go.Proofs.YthlllcmffgdcmaaW.PrintLast Go.Proofs.YthlllcmffgdcmaaW.PrintMore
attribute [local go_sem] max2_int min2_int max_two min_two max_three min_three max_four min_four
set_option linter.unusedVariables false
set_option linter.unusedSimpArgs false

/-! ### shunterlaw05_SegmentBig: function 9 -/
def shunterlaw05_SegmentBig.f (k : Nat) (a0 : Int) : Option (Bool) := (shunterlaw05_awake.f k).bind fun t143 => (if t143 = true then (if 0 ≤ (Int.tmod (Go.bits .and .i64 a0 65535) 5001) then (if (Int.tmod (Go.bits .and .i64 a0 65535) 5001 : Int).toNat ≤ 281474976710656 then ((some (List.replicate (Int.tmod (Go.bits .and .i64 a0 65535) 5001 : Int).toNat 0 : List Int)).bind fun y144 => ((segment_Frame.f k 7 (strOfNums y144)).bind fun bt147 => (if (Int.tmod (Go.bits .and .i64 a0 65535) 5001) > 4096 then (if bt147.2 = 3 then (some (bt147.1.toList == ([] : List UInt8))) else (some false)) else ((segment_Open.f k bt147.1 0).bind fun bt149 => (if bt147.2 = 0 then (if bt149.2.2.2 = 0 then (some (bt149.2.1.toList == (strOfNums y144).toList)) else (some false)) else (some false)))))) else (none)) else (none)) else (some false))
theorem shunterlaw05_SegmentBig.mono : ∀ a0 k, LeO (shunterlaw05_SegmentBig.f k a0) (shunterlaw05_SegmentBig.f (k + 1) a0) := by
  intro a0 k
  unfold shunterlaw05_SegmentBig.f
  repeat' first
      | (with_reducible exact segment_Frame.mono _ _ _)
      | (with_reducible exact segment_Open.mono _ _ _)
      | (with_reducible exact shunterlaw05_awake.mono _)
      | (with_reducible exact LeO.refl _)
      | (with_reducible exact LeO.none _)
      | (with_reducible refine LeO.ite ?_ ?_)
      | (with_reducible refine LeO.bind ?_ (fun _ => ?_))
      | exact segment_Frame.mono _ _ _
      | exact segment_Open.mono _ _ _
      | exact shunterlaw05_awake.mono _
      | exact LeO.none _
      | refine LeO.ite ?_ ?_
      | refine LeO.bind ?_ (fun _ => ?_)
set_option maxHeartbeats 8000000 in
set_option maxRecDepth 100000 in
theorem shunterlaw05_SegmentBig.calls (k : Nat) (a0 : Int) (r : Bool) (w : World) (h : shunterlaw05_SegmentBig.f k a0 = some r) (hT : Aside0 (r = true)) :
    Calls Try.prog 9 #[.int .i64 a0] w fun e w' => e = .returned (.bool r) ∧ Below w.heap.size w w' := by
  have HB := Aside0.mk (Below.refl w.heap.size w)
  have H : ((shunterlaw05_awake.f k).bind fun t143 => (if t143 = true then (if 0 ≤ (Int.tmod (Go.bits .and .i64 a0 65535) 5001) then (if (Int.tmod (Go.bits .and .i64 a0 65535) 5001 : Int).toNat ≤ 281474976710656 then ((some (List.replicate (Int.tmod (Go.bits .and .i64 a0 65535) 5001 : Int).toNat 0 : List Int)).bind fun y144 => ((segment_Frame.f k 7 (strOfNums y144)).bind fun bt147 => (if (Int.tmod (Go.bits .and .i64 a0 65535) 5001) > 4096 then (if bt147.2 = 3 then (some (bt147.1.toList == ([] : List UInt8))) else (some false)) else ((segment_Open.f k bt147.1 0).bind fun bt149 => (if bt147.2 = 0 then (if bt149.2.2.2 = 0 then (some (bt149.2.1.toList == (strOfNums y144).toList)) else (some false)) else (some false)))))) else (none)) else (none)) else (some false))) = some r := h
  clear h
  replace H := Option.bind_eq_some_iff.mp H
  obtain ⟨t143, A20, H⟩ := H
  replace H : (if t143 = true then (if 0 ≤ (Int.tmod (Go.bits .and .i64 a0 65535) 5001) then (if (Int.tmod (Go.bits .and .i64 a0 65535) 5001 : Int).toNat ≤ 281474976710656 then ((some (List.replicate (Int.tmod (Go.bits .and .i64 a0 65535) 5001 : Int).toNat 0 : List Int)).bind fun y144 => ((segment_Frame.f k 7 (strOfNums y144)).bind fun bt147 => (if (Int.tmod (Go.bits .and .i64 a0 65535) 5001) > 4096 then (if bt147.2 = 3 then (some (bt147.1.toList == ([] : List UInt8))) else (some false)) else ((segment_Open.f k bt147.1 0).bind fun bt149 => (if bt147.2 = 0 then (if bt149.2.2.2 = 0 then (some (bt149.2.1.toList == (strOfNums y144).toList)) else (some false)) else (some false)))))) else (none)) else (none)) else (some false)) = some r := H
  have A2 := Aside0.mk A20
  clear A20
  by_cases c3 : t143 = true
  · subst c3
    have H1 : (if 0 ≤ (Int.tmod (Go.bits .and .i64 a0 65535) 5001) then (if (Int.tmod (Go.bits .and .i64 a0 65535) 5001 : Int).toNat ≤ 281474976710656 then ((some (List.replicate (Int.tmod (Go.bits .and .i64 a0 65535) 5001 : Int).toNat 0 : List Int)).bind fun y144 => ((segment_Frame.f k 7 (strOfNums y144)).bind fun bt147 => (if (Int.tmod (Go.bits .and .i64 a0 65535) 5001) > 4096 then (if bt147.2 = 3 then (some (bt147.1.toList == ([] : List UInt8))) else (some false)) else ((segment_Open.f k bt147.1 0).bind fun bt149 => (if bt147.2 = 0 then (if bt149.2.2.2 = 0 then (some (bt149.2.1.toList == (strOfNums y144).toList)) else (some false)) else (some false)))))) else (none)) else (none)) = some r := by rw [if_pos rfl] at H; exact H
    clear H
    have H := H1
    clear H1
    obtain ⟨ji4, hji4⟩ : ∃ j_ : Int, (Int.tmod (Go.bits .and .i64 a0 65535) 5001) = j_ := ⟨_, rfl⟩
    replace H : (if 0 ≤ (ji4) then (if (ji4 : Int).toNat ≤ 281474976710656 then ((some (List.replicate (ji4 : Int).toNat 0 : List Int)).bind fun y144 => ((segment_Frame.f k 7 (strOfNums y144)).bind fun bt147 => (if (ji4) > 4096 then (if bt147.2 = 3 then (some (bt147.1.toList == ([] : List UInt8))) else (some false)) else ((segment_Open.f k bt147.1 0).bind fun bt149 => (if bt147.2 = 0 then (if bt149.2.2.2 = 0 then (some (bt149.2.1.toList == (strOfNums y144).toList)) else (some false)) else (some false)))))) else (none)) else (none)) = some r := by first | (rw [hji4] at H; exact H) | (simp only [hji4] at H ⊢; exact H)
    (try rw [hji4] at A2)
    by_cases c5 : 0 ≤ (ji4)
    · rw [if_pos c5] at H
      have c5b0 := eq_true c5
      have c5b1 : decide (0 ≤ (ji4)) = true := decide_eq_true c5
      clear c5
      by_cases c6 : (ji4 : Int).toNat ≤ 281474976710656
      · rw [if_pos c6] at H
        have c6b0 := eq_true c6
        have c6b1 : decide ((ji4 : Int).toNat ≤ 281474976710656) = true := decide_eq_true c6
        clear c6
        obtain ⟨y144, hy144⟩ : ∃ y_ : List Int, y_ = (List.replicate (ji4 : Int).toNat 0) := ⟨_, rfl⟩
        replace H : ((segment_Frame.f k 7 (strOfNums y144)).bind fun bt147 => (if (ji4) > 4096 then (if bt147.2 = 3 then (some (bt147.1.toList == ([] : List UInt8))) else (some false)) else ((segment_Open.f k bt147.1 0).bind fun bt149 => (if bt147.2 = 0 then (if bt149.2.2.2 = 0 then (some (bt149.2.1.toList == (strOfNums y144).toList)) else (some false)) else (some false))))) = some r := by first | (rw [hy144]; with_reducible exact H) | (have H2_ := (Option.bind_some _ _).symm.trans H; rw [hy144]; with_reducible exact H2_) | (have H2_ := (Option.bind_some _ _).symm.trans H; with_reducible exact H2_) | with_reducible exact H | (rw [hy144]; exact H) | exact H
        have Ny144 := Aside0.mk hy144
        clear hy144
        replace H := Option.bind_eq_some_iff.mp H
        obtain ⟨⟨t147, t148⟩, A70, H⟩ := H
        replace H : (if (ji4) > 4096 then (if t148 = 3 then (some (t147.toList == ([] : List UInt8))) else (some false)) else ((segment_Open.f k t147 0).bind fun bt149 => (if t148 = 0 then (if bt149.2.2.2 = 0 then (some (bt149.2.1.toList == (strOfNums y144).toList)) else (some false)) else (some false)))) = some r := H
        have A7 := Aside0.mk A70
        clear A70
        by_cases c8 : (ji4) > 4096
        · rw [if_pos c8] at H
          have c8b0 : decide (4096 < (ji4)) = true := decide_eq_true c8
          clear c8
          by_cases c9 : t148 = 3
          · rw [if_pos c9] at H
            have c9b0 : (t148 == 3) = true := beq_iff_eq.mpr c9
            have c9b1 : (t148 != 3) = false := bne_eq_false_iff_eq.mpr c9
            clear c9
            obtain rfl := Option.some.inj H
            go_enter Try.func9, Try.ntmps9
            go_wp2_with (first | ((with_reducible refine gate_callee (f := 29) rfl ?_); refine goesL_ (some 10) rfl rfl Try.func29 (by kernel_rfl) rfl #[] rfl (by (try simp only [List.map_toArray, List.map_cons, List.map_nil]); first | done | rfl | (simp only [List.length_drop, List.length_take]; rfl)) ?_; (with_reducible refine (shunterlaw05_awake.calls k  true _ A2.out).mono ?_); rintro e w10 ⟨rfl, hb⟩; refine ⟨_, rfl, ?_⟩; have n0_ := Aside0.mk (below_step (by repeat (first | (with_reducible first | exact HB.out | apply below_alloc | apply pw_below_drewN | apply below_drew1) | exact HB.out)) hb); clear HB; have HB := n0_; clear n0_; (try clear hb); (try clear hb2); (try clear hk); (try clear hi)) | ((with_reducible refine gate_dst (N := 16) rfl ?_); refine Kd.R_make (Kd.int .u8) _ 5 rfl (N := 16) rfl 59 _ _ rfl ji4 rfl rfl Try.underlying59 (.int .u8 0) 1 info5 rfl (by decide) (by omega) 0 (ok := fun _ => True) (okp := fun _ => True) rfl (fun _ hk => hk) trivial (of_decide_eq_true (by first | (with_reducible assumption) | assumption)) (Nat.le_trans (Nat.mul_le_mul_right _ (of_decide_eq_true (by first | (with_reducible assumption) | assumption) : ji4.toNat ≤ 281474976710656)) (by omega)) (Below.refl _ _) (Nat.le_refl _) ?_; intro v145 w11 ho12 hb hg_ hnew_; clear hg_ hnew_; (first | rw [← Ny144.out] at ho12 | (simp only [Int.reduceToNat] at ho12; rw [← Ny144.out] at ho12)); have n0_ := Aside0.mk (Kd.R_lower ho12 (below_size (by repeat (first | (with_reducible first | exact HB.out | apply below_alloc | apply pw_below_drewN | apply below_drew1) | exact HB.out)))); have n1_ := Aside0.mk (below_step (by repeat (first | (with_reducible first | exact HB.out | apply below_alloc | apply pw_below_drewN | apply below_drew1) | exact HB.out)) hb); clear HB; have HO146 := n0_; have HB := n1_; clear n0_ n1_; clear hb ho12; have hcv13 := own_string (P := Try.prog) Try.underlying59 Try.underlying5 Try.underlying9 (Kd.own_of_R HO146.out)) | ((with_reducible refine gate_callee (f := 30) rfl ?_); refine goesL_ (some 20) rfl rfl Try.func30 (by kernel_rfl) rfl #[.int .u64 7, .string (strOfNums y144)] rfl (by (try simp only [List.map_toArray, List.map_cons, List.map_nil]); first | done | rfl | (simp only [List.length_drop, List.length_take]; rfl)) ?_; (with_reducible refine (segment_Frame.calls k 7 (strOfNums y144) t147 t148 _ A7.out).mono ?_); rintro e w14 ⟨rfl, hb⟩; refine ⟨_, rfl, ?_⟩; have n0_ := Aside0.mk (Kd.R_below (by (with_reducible repeat (first | apply Kd.R_alloc | apply Kd.R_drewN | apply Kd.R_drew)); exact HO146.out) hb); have n1_ := Aside0.mk (below_step (by repeat (first | (with_reducible first | exact HB.out | apply below_alloc | apply pw_below_drewN | apply below_drew1) | exact HB.out)) hb); clear HO146; clear HB; have HO146 := n0_; have HB := n1_; clear n0_ n1_; (try clear hb); (try clear hb2); (try clear hk); (try clear hi)))
            go_ret
            exact ⟨by first | rfl | (simp [errW_none, errW_some] <;> rfl) | (simp only [← hji4]; first | rfl | (simp [errW_none, errW_some] <;> rfl)) | (simp [*, errW_none, errW_some] <;> rfl), by repeat (first | (with_reducible first | exact HB.out | apply below_alloc | apply pw_below_drewN | apply below_drew1) | exact HB.out)⟩
          · rw [if_neg c9] at H
            have c9b0 : (t148 == 3) = false := beq_eq_false_iff_ne.mpr c9
            have c9b1 : (t148 != 3) = true := bne_iff_ne.mpr c9
            exact absurd (H.trans (congrArg some hT.out)) (by simp)
        · rw [if_neg c8] at H
          have c8b0 : decide (4096 < (ji4)) = false := decide_eq_false c8
          clear c8
          replace H := Option.bind_eq_some_iff.mp H
          obtain ⟨⟨t149, t150, t151, t152⟩, A200, H⟩ := H
          replace H : (if t148 = 0 then (if t152 = 0 then (some (t150.toList == (strOfNums y144).toList)) else (some false)) else (some false)) = some r := H
          have A20 := Aside0.mk A200
          clear A200
          by_cases c21 : t148 = 0
          · rw [if_pos c21] at H
            have c21b0 : (t148 == 0) = true := beq_iff_eq.mpr c21
            have c21b1 : (t148 != 0) = false := bne_eq_false_iff_eq.mpr c21
            clear c21
            by_cases c22 : t152 = 0
            · rw [if_pos c22] at H
              have c22b0 : (t152 == 0) = true := beq_iff_eq.mpr c22
              have c22b1 : (t152 != 0) = false := bne_eq_false_iff_eq.mpr c22
              clear c22
              obtain rfl := Option.some.inj H
              go_enter Try.func9, Try.ntmps9
              go_wp2_with (first | ((with_reducible refine gate_callee (f := 29) rfl ?_); refine goesL_ (some 10) rfl rfl Try.func29 (by kernel_rfl) rfl #[] rfl (by (try simp only [List.map_toArray, List.map_cons, List.map_nil]); first | done | rfl | (simp only [List.length_drop, List.length_take]; rfl)) ?_; (with_reducible refine (shunterlaw05_awake.calls k  true _ A2.out).mono ?_); rintro e w23 ⟨rfl, hb⟩; refine ⟨_, rfl, ?_⟩; have n0_ := Aside0.mk (below_step (by repeat (first | (with_reducible first | exact HB.out | apply below_alloc | apply pw_below_drewN | apply below_drew1) | exact HB.out)) hb); clear HB; have HB := n0_; clear n0_; (try clear hb); (try clear hb2); (try clear hk); (try clear hi)) | ((with_reducible refine gate_dst (N := 16) rfl ?_); refine Kd.R_make (Kd.int .u8) _ 5 rfl (N := 16) rfl 59 _ _ rfl ji4 rfl rfl Try.underlying59 (.int .u8 0) 1 info5 rfl (by decide) (by omega) 0 (ok := fun _ => True) (okp := fun _ => True) rfl (fun _ hk => hk) trivial (of_decide_eq_true (by first | (with_reducible assumption) | assumption)) (Nat.le_trans (Nat.mul_le_mul_right _ (of_decide_eq_true (by first | (with_reducible assumption) | assumption) : ji4.toNat ≤ 281474976710656)) (by omega)) (Below.refl _ _) (Nat.le_refl _) ?_; intro v145 w24 ho25 hb hg_ hnew_; clear hg_ hnew_; (first | rw [← Ny144.out] at ho25 | (simp only [Int.reduceToNat] at ho25; rw [← Ny144.out] at ho25)); have n0_ := Aside0.mk (Kd.R_lower ho25 (below_size (by repeat (first | (with_reducible first | exact HB.out | apply below_alloc | apply pw_below_drewN | apply below_drew1) | exact HB.out)))); have n1_ := Aside0.mk (below_step (by repeat (first | (with_reducible first | exact HB.out | apply below_alloc | apply pw_below_drewN | apply below_drew1) | exact HB.out)) hb); clear HB; have HO146 := n0_; have HB := n1_; clear n0_ n1_; clear hb ho25; have hcv26 := own_string (P := Try.prog) Try.underlying59 Try.underlying5 Try.underlying9 (Kd.own_of_R HO146.out)) | ((with_reducible refine gate_callee (f := 30) rfl ?_); refine goesL_ (some 20) rfl rfl Try.func30 (by kernel_rfl) rfl #[.int .u64 7, .string (strOfNums y144)] rfl (by (try simp only [List.map_toArray, List.map_cons, List.map_nil]); first | done | rfl | (simp only [List.length_drop, List.length_take]; rfl)) ?_; (with_reducible refine (segment_Frame.calls k 7 (strOfNums y144) t147 t148 _ A7.out).mono ?_); rintro e w27 ⟨rfl, hb⟩; refine ⟨_, rfl, ?_⟩; have n0_ := Aside0.mk (Kd.R_below (by (with_reducible repeat (first | apply Kd.R_alloc | apply Kd.R_drewN | apply Kd.R_drew)); exact HO146.out) hb); have n1_ := Aside0.mk (below_step (by repeat (first | (with_reducible first | exact HB.out | apply below_alloc | apply pw_below_drewN | apply below_drew1) | exact HB.out)) hb); clear HO146; clear HB; have HO146 := n0_; have HB := n1_; clear n0_ n1_; (try clear hb); (try clear hb2); (try clear hk); (try clear hi)) | ((with_reducible refine gate_callee (f := 31) rfl ?_); refine goesL_ (some 33) rfl rfl Try.func31 (by kernel_rfl) rfl #[.string t147, .int .i64 0] rfl (by (try simp only [List.map_toArray, List.map_cons, List.map_nil]); first | done | rfl | (simp only [List.length_drop, List.length_take]; rfl)) ?_; (with_reducible refine (segment_Open.calls k t147 0 t149 t150 t151 t152 _ A20.out).mono ?_); rintro e w28 ⟨rfl, hb⟩; refine ⟨_, rfl, ?_⟩; have n0_ := Aside0.mk (Kd.R_below (by (with_reducible repeat (first | apply Kd.R_alloc | apply Kd.R_drewN | apply Kd.R_drew)); exact HO146.out) hb); have n1_ := Aside0.mk (below_step (by repeat (first | (with_reducible first | exact HB.out | apply below_alloc | apply pw_below_drewN | apply below_drew1) | exact HB.out)) hb); clear HO146; clear HB; have HO146 := n0_; have HB := n1_; clear n0_ n1_; (try clear hb); (try clear hb2); (try clear hk); (try clear hi)))
              go_ret
              exact ⟨by first | rfl | (simp [errW_none, errW_some] <;> rfl) | (simp only [← hji4]; first | rfl | (simp [errW_none, errW_some] <;> rfl)) | (simp [*, errW_none, errW_some] <;> rfl), by repeat (first | (with_reducible first | exact HB.out | apply below_alloc | apply pw_below_drewN | apply below_drew1) | exact HB.out)⟩
            · rw [if_neg c22] at H
              have c22b0 : (t152 == 0) = false := beq_eq_false_iff_ne.mpr c22
              have c22b1 : (t152 != 0) = true := bne_iff_ne.mpr c22
              exact absurd (H.trans (congrArg some hT.out)) (by simp)
          · rw [if_neg c21] at H
            have c21b0 : (t148 == 0) = false := beq_eq_false_iff_ne.mpr c21
            have c21b1 : (t148 != 0) = true := bne_iff_ne.mpr c21
            exact absurd (H.trans (congrArg some hT.out)) (by simp)
      · rw [if_neg c6] at H
        exact absurd H (by simp)
    · rw [if_neg c5] at H
      exact absurd H (by simp)
  · replace c3 := Bool.eq_false_iff.mpr c3
    subst c3
    have H1 : (some false) = some r := by rw [if_neg (show ¬ (false = true) by decide)] at H; exact H
    clear H
    have H := H1
    clear H1
    exact absurd (H.trans (congrArg some hT.out)) (by simp)
/-- THE ONE PURE STATEMENT of shunterlaw05_SegmentBig: yours. -/
def shunterlaw05_SegmentBig.Pure : Prop := ∀ (a0 : Int), (Lit.int .i64 a0).wf = true → ∃ k, shunterlaw05_SegmentBig.f k a0 = some true
theorem shunterlaw05_SegmentBig.walk (P : shunterlaw05_SegmentBig.Pure) (a0 : Int) (w : World) (w0 : (Lit.int .i64 a0).wf = true) :
    Calls Try.prog 9 #[.int .i64 a0] w fun e w' => e = .returned (.bool true) ∧ Below w.heap.size w w' := by
  obtain ⟨k, h⟩ := P a0 w0
  refine (shunterlaw05_SegmentBig.calls k a0 true w h ⟨rfl⟩).mono ?_
  rintro e w' ⟨rfl, hd⟩
  exact ⟨rfl, hd⟩


end Go.Proofs.Ythlllcmffgdcmaa.SegBig

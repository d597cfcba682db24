-- Walks by a program: this session's turn of the kit's print, over contracts of the session's own.
import Derived.Test.YthlllcmffgdcmaaQSegmentOpensx0
import Derived.Test.YthlllcmffgdcmaaQSegmentOpensx1
import Derived.Test.YthlllcmffgdcmaaQSegmentOpensx3
import Derived.Test.YthlllcmffgdcmaaQSegmentOpensx6
namespace Go.Proofs.Ythlllcmffgdcmaa.QSegmentOpens
open Go.RowKit Go.Proofs.Ythlllcmffgdcmaa.Crc Go.Proofs.YthlllcmffgdcmaaW.PrintWords Go.Proofs.YthlllcmffgdcmaaW.PrintLast Go.Proofs.YthlllcmffgdcmaaW.PrintMore
attribute [local go_sem] max2_int min2_int max_two min_two max_three min_three max_four min_four   -- for this text's walks alone
set_option linter.unusedVariables false
set_option linter.unusedSimpArgs false

/-! ### shunterlaw05_SegmentOpens: function 7 -/
def shunterlaw05_SegmentOpens.f (k : Nat) (a0 : ByteArray) (a1 : Int) : Option (Bool) := (shunterlaw01_Cut.f a0 200).bind fun t163 => ((shunterlaw05_awake.f k).bind fun t164 => (if t164 = true then ((segment_Open.f k t163 a1).bind fun bt165 => ((shunterref05_Open.f k t163 a1).bind fun bt169 => (if bt165.1 = bt169.1 then (if bt165.2.1.toList = bt169.2.1.toList then (if bt165.2.2.1 = bt169.2.2.1 then (some (bt165.2.2.2 == bt169.2.2.2)) else (some false)) else (some false)) else (some false)))) else (some false)))
theorem shunterlaw05_SegmentOpens.mono : ∀ a0 a1 k, LeO (shunterlaw05_SegmentOpens.f k a0 a1) (shunterlaw05_SegmentOpens.f (k + 1) a0 a1) := by
  intro a0 a1 k
  unfold shunterlaw05_SegmentOpens.f
  repeat' first
      | (with_reducible exact segment_Open.mono _ _ _)
      | (with_reducible exact shunterlaw05_awake.mono _)
      | (with_reducible exact shunterref05_Open.mono _ _ _)
      | (with_reducible exact LeO.refl _)
      | (with_reducible exact LeO.none _)
      | (with_reducible refine LeO.ite ?_ ?_)
      | (with_reducible refine LeO.bind ?_ (fun _ => ?_))
      | exact segment_Open.mono _ _ _
      | exact shunterlaw05_awake.mono _
      | exact shunterref05_Open.mono _ _ _
      | exact LeO.none _
      | refine LeO.ite ?_ ?_
      | refine LeO.bind ?_ (fun _ => ?_)
set_option maxHeartbeats 8000000 in
set_option maxRecDepth 100000 in
theorem shunterlaw05_SegmentOpens.calls (k : Nat) (a0 : ByteArray) (a1 : Int) (r : Bool) (w : World) (h : shunterlaw05_SegmentOpens.f k a0 a1 = some r) (hT : Aside0 (r = true)) :
    Calls Try.prog 7 #[.string a0, .int .i64 a1] w fun e w' => e = .returned (.bool r) ∧ Below w.heap.size w w' := by
  have HB := Aside0.mk (Below.refl w.heap.size w)
  have H : ((shunterlaw01_Cut.f a0 200).bind fun t163 => ((shunterlaw05_awake.f k).bind fun t164 => (if t164 = true then ((segment_Open.f k t163 a1).bind fun bt165 => ((shunterref05_Open.f k t163 a1).bind fun bt169 => (if bt165.1 = bt169.1 then (if bt165.2.1.toList = bt169.2.1.toList then (if bt165.2.2.1 = bt169.2.2.1 then (some (bt165.2.2.2 == bt169.2.2.2)) else (some false)) else (some false)) else (some false)))) else (some false)))) = some r := h
  clear h
  replace H := Option.bind_eq_some_iff.mp H
  obtain ⟨t163, A30, H⟩ := H
  replace H : ((shunterlaw05_awake.f k).bind fun t164 => (if t164 = true then ((segment_Open.f k t163 a1).bind fun bt165 => ((shunterref05_Open.f k t163 a1).bind fun bt169 => (if bt165.1 = bt169.1 then (if bt165.2.1.toList = bt169.2.1.toList then (if bt165.2.2.1 = bt169.2.2.1 then (some (bt165.2.2.2 == bt169.2.2.2)) else (some false)) else (some false)) else (some false)))) else (some false))) = some r := H
  have A3 := Aside0.mk A30
  clear A30
  replace H := Option.bind_eq_some_iff.mp H
  obtain ⟨t164, A40, H⟩ := H
  replace H : (if t164 = true then ((segment_Open.f k t163 a1).bind fun bt165 => ((shunterref05_Open.f k t163 a1).bind fun bt169 => (if bt165.1 = bt169.1 then (if bt165.2.1.toList = bt169.2.1.toList then (if bt165.2.2.1 = bt169.2.2.1 then (some (bt165.2.2.2 == bt169.2.2.2)) else (some false)) else (some false)) else (some false)))) else (some false)) = some r := H
  have A4 := Aside0.mk A40
  clear A40
  by_cases c5 : t164 = true
  · subst c5
    have H1 : ((segment_Open.f k t163 a1).bind fun bt165 => ((shunterref05_Open.f k t163 a1).bind fun bt169 => (if bt165.1 = bt169.1 then (if bt165.2.1.toList = bt169.2.1.toList then (if bt165.2.2.1 = bt169.2.2.1 then (some (bt165.2.2.2 == bt169.2.2.2)) else (some false)) else (some false)) else (some false)))) = some r := by rw [if_pos rfl] at H; exact H
    clear H
    have H := H1
    clear H1
    replace H := Option.bind_eq_some_iff.mp H
    obtain ⟨⟨t165, t166, t167, t168⟩, A60, H⟩ := H
    replace H : ((shunterref05_Open.f k t163 a1).bind fun bt169 => (if t165 = bt169.1 then (if t166.toList = bt169.2.1.toList then (if t167 = bt169.2.2.1 then (some (t168 == bt169.2.2.2)) else (some false)) else (some false)) else (some false))) = some r := H
    have A6 := Aside0.mk A60
    clear A60
    replace H := Option.bind_eq_some_iff.mp H
    obtain ⟨⟨t169, t170, t171, t172⟩, A70, H⟩ := H
    replace H : (if t165 = t169 then (if t166.toList = t170.toList then (if t167 = t171 then (some (t168 == t172)) else (some false)) else (some false)) else (some false)) = some r := H
    have A7 := Aside0.mk A70
    clear A70
    by_cases c8 : t165 = t169
    · rw [if_pos c8] at H
      have c8b0 : (t165 == t169) = true := beq_iff_eq.mpr c8
      have c8b1 : (t165 != t169) = false := bne_eq_false_iff_eq.mpr c8
      clear c8
      by_cases c9 : t166.toList = t170.toList
      · rw [if_pos c9] at H
        have c9b0 : (t166.toList == t170.toList) = true := beq_iff_eq.mpr c9
        have c9b1 : (t166.toList != t170.toList) = false := bne_eq_false_iff_eq.mpr c9
        clear c9
        by_cases c10 : t167 = t171
        · rw [if_pos c10] at H
          have c10b0 : (t167 == t171) = true := beq_iff_eq.mpr c10
          have c10b1 : (t167 != t171) = false := bne_eq_false_iff_eq.mpr c10
          clear c10
          obtain rfl := Option.some.inj H
          go_enter Try.func7, Try.ntmps7
          go_wp2_with (first | ((with_reducible refine gate_callee (f := 25) rfl ?_); refine goesL_ (some 14) rfl rfl Try.func25 (by kernel_rfl) rfl #[.string a0, .int .i64 200] rfl (by (try simp only [List.map_toArray, List.map_cons, List.map_nil]); first | done | rfl | (simp only [List.length_drop, List.length_take]; rfl)) ?_; (with_reducible refine (shunterlaw01_Cut.calls a0 200 t163 _ A3.out).mono ?_); rintro e w' ⟨rfl, ⟨nd, rfl⟩⟩; refine ⟨_, rfl, ?_⟩) | ((with_reducible refine gate_callee (f := 29) rfl ?_); refine goesL_ (some 15) rfl rfl Try.func29 (by kernel_rfl) rfl #[] rfl (by (try simp only [List.map_toArray, List.map_cons, List.map_nil]); first | done | rfl | (simp only [List.length_drop, List.length_take]; rfl)) ?_; (with_reducible refine (shunterlaw05_awake.calls k  true _ A4.out).mono ?_); rintro e w11 ⟨rfl, hb⟩; refine ⟨_, rfl, ?_⟩; have n0_ := Aside0.mk (below_step (by repeat (first | (with_reducible first | exact HB.out | apply below_alloc | apply pw_below_drewN | apply below_drew1) | exact HB.out)) hb); clear HB; have HB := n0_; clear n0_; (try clear hb); (try clear hb2); (try clear hk); (try clear hi)) | ((with_reducible refine gate_callee (f := 31) rfl ?_); refine goesL_ (some 20) rfl rfl Try.func31 (by kernel_rfl) rfl #[.string t163, .int .i64 a1] rfl (by (try simp only [List.map_toArray, List.map_cons, List.map_nil]); first | done | rfl | (simp only [List.length_drop, List.length_take]; rfl)) ?_; (with_reducible refine (segment_Open.calls k t163 a1 t165 t166 t167 t168 _ A6.out).mono ?_); rintro e w12 ⟨rfl, hb⟩; refine ⟨_, rfl, ?_⟩; have n0_ := Aside0.mk (below_step (by repeat (first | (with_reducible first | exact HB.out | apply below_alloc | apply pw_below_drewN | apply below_drew1) | exact HB.out)) hb); clear HB; have HB := n0_; clear n0_; (try clear hb); (try clear hb2); (try clear hk); (try clear hi)) | ((with_reducible refine gate_callee (f := 33) rfl ?_); refine goesL_ (some 28) rfl rfl Try.func33 (by kernel_rfl) rfl #[.string t163, .int .i64 a1] rfl (by (try simp only [List.map_toArray, List.map_cons, List.map_nil]); first | done | rfl | (simp only [List.length_drop, List.length_take]; rfl)) ?_; (with_reducible refine (shunterref05_Open.calls k t163 a1 t169 t170 t171 t172 _ A7.out).mono ?_); rintro e w13 ⟨rfl, hb⟩; refine ⟨_, rfl, ?_⟩; have n0_ := Aside0.mk (below_step (by repeat (first | (with_reducible first | exact HB.out | apply below_alloc | apply pw_below_drewN | apply below_drew1) | exact HB.out)) hb); clear HB; have HB := n0_; clear n0_; (try clear hb); (try clear hb2); (try clear hk); (try clear hi)))
          go_ret
          exact ⟨by first | rfl | (simp [errW_none, errW_some] <;> rfl) | (simp [*, errW_none, errW_some] <;> rfl), by repeat (first | (with_reducible first | exact HB.out | apply below_alloc | apply pw_below_drewN | apply below_drew1) | exact HB.out)⟩
        · rw [if_neg c10] at H
          have c10b0 : (t167 == t171) = false := beq_eq_false_iff_ne.mpr c10
          have c10b1 : (t167 != t171) = true := bne_iff_ne.mpr c10
          exact absurd (H.trans (congrArg some hT.out)) (by simp)
      · rw [if_neg c9] at H
        have c9b0 : (t166.toList == t170.toList) = false := beq_eq_false_iff_ne.mpr c9
        have c9b1 : (t166.toList != t170.toList) = true := bne_iff_ne.mpr c9
        exact absurd (H.trans (congrArg some hT.out)) (by simp)
    · rw [if_neg c8] at H
      have c8b0 : (t165 == t169) = false := beq_eq_false_iff_ne.mpr c8
      have c8b1 : (t165 != t169) = true := bne_iff_ne.mpr c8
      exact absurd (H.trans (congrArg some hT.out)) (by simp)
  · replace c5 := Bool.eq_false_iff.mpr c5
    subst c5
    have H1 : (some false) = some r := by rw [if_neg (show ¬ (false = true) by decide)] at H; exact H
    clear H
    have H := H1
    clear H1
    exact absurd (H.trans (congrArg some hT.out)) (by simp)
/-- THE ONE PURE STATEMENT of shunterlaw05_SegmentOpens: yours. -/
def shunterlaw05_SegmentOpens.Pure : Prop := ∀ (a0 : ByteArray) (a1 : Int), a0.size ≤ 140737488351232 → (Lit.int .i64 a1).wf = true → ∃ k, shunterlaw05_SegmentOpens.f k a0 a1 = some true
theorem shunterlaw05_SegmentOpens.walk (P : shunterlaw05_SegmentOpens.Pure) (a0 : ByteArray) (a1 : Int) (w : World) (w0 : a0.size ≤ 140737488351232) (w1 : (Lit.int .i64 a1).wf = true) :
    Calls Try.prog 7 #[.string a0, .int .i64 a1] w fun e w' => e = .returned (.bool true) ∧ Below w.heap.size w w' := by
  obtain ⟨k, h⟩ := P a0 a1 w0 w1
  refine (shunterlaw05_SegmentOpens.calls k a0 a1 true w h ⟨rfl⟩).mono ?_
  rintro e w' ⟨rfl, hd⟩
  exact ⟨rfl, hd⟩

end Go.Proofs.Ythlllcmffgdcmaa.QSegmentOpens

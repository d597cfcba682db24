/- The walk of SegmentBack: the ways that tell true. -/
import Derived.Test.YthlllcmffgdcmaaQSegmentOpensx3
import Derived.Test.YthlllcmffgdcmaaQSegmentOpensx5
namespace Go.Proofs.Ythlllcmffgdcmaa.SegBack
open Go.RowKit Go.Proofs.Ythlllcmffgdcmaa.Crc Go.Proofs.Ythlllcmffgdcmaa.QSegmentOpens Go.Proofs.YthlllcmffgdcmaaW.PrintWords Go.Proofs.YthlllcmffgdcmaaW.PrintLast Go.Proofs.YthlllcmffgdcmaaW.PrintMore
attribute [local go_sem] max2_int min2_int max_two min_two max_three min_three max_four min_four
set_option linter.unusedVariables false
set_option linter.unusedSimpArgs false

/-! ### shunterlaw05_SegmentBack: function 6 -/
def shunterlaw05_SegmentBack.f (k : Nat) (a0 : Int) (a1 : ByteArray) (a2 : ByteArray) (a3 : ByteArray) (a4 : Int) : Option (Bool) := (shunterlaw01_Cut.f a1 300).bind fun t156 => ((shunterlaw01_Cut.f a2 20).bind fun t157 => ((shunterlaw01_Cut.f a3 20).bind fun t158 => ((shunterlaw05_awake.f k).bind fun t159 => (if t159 = true then ((segment_Frame.f k a0 t156).bind fun bt160 => (if t157.size + bt160.1.size ≤ 9223372036854775807 then (if (t157 ++ bt160.1).size + t158.size ≤ 9223372036854775807 then ((segment_Open.f k ((t157 ++ bt160.1) ++ t158) (t157.size : Int)).bind fun bt162 => (if (bt160.1.size : Int) = 0 then (none) else (if 0 ≤ (Int.tmod (Go.bits .and .i64 a4 65535) (bt160.1.size : Int)) then (if (Int.tmod (Go.bits .and .i64 a4 65535) (bt160.1.size : Int)) ≤ (bt160.1.size : Int) then ((segment_Open.f k (bt160.1.extract 0 ((Int.tmod (Go.bits .and .i64 a4 65535) (bt160.1.size : Int)) : Int).toNat) 0).bind fun bt166 => (if bt160.2 = 0 then ((shunterref05_Frame.f k a0 t156).bind fun t170 => (if bt160.1.toList = t170.toList then (if bt162.2.2.2 = 0 then (if bt162.1 = a0 then (if bt162.2.1.toList = t156.toList then (if bt162.2.2.1 = ((t157.size : Int) + (bt160.1.size : Int)) then (some (bt166.2.2.2 == 2)) else (some false)) else (some false)) else (some false)) else (some false)) else (some false))) else (some false))) else (none)) else (none)))) else (none)) else (none))) else (some false)))))
theorem shunterlaw05_SegmentBack.mono : ∀ a0 a1 a2 a3 a4 k, LeO (shunterlaw05_SegmentBack.f k a0 a1 a2 a3 a4) (shunterlaw05_SegmentBack.f (k + 1) a0 a1 a2 a3 a4) := by
  intro a0 a1 a2 a3 a4 k
  unfold shunterlaw05_SegmentBack.f
  repeat' first
      | (with_reducible exact segment_Frame.mono _ _ _)
      | (with_reducible exact segment_Open.mono _ _ _)
      | (with_reducible exact shunterlaw05_awake.mono _)
      | (with_reducible exact shunterref05_Frame.mono _ _ _)
      | (with_reducible exact LeO.refl _)
      | (with_reducible exact LeO.none _)
      | (with_reducible refine LeO.ite ?_ ?_)
      | (with_reducible refine LeO.bind ?_ (fun _ => ?_))
      | exact segment_Frame.mono _ _ _
      | exact segment_Open.mono _ _ _
      | exact shunterlaw05_awake.mono _
      | exact shunterref05_Frame.mono _ _ _
      | exact LeO.none _
      | refine LeO.ite ?_ ?_
      | refine LeO.bind ?_ (fun _ => ?_)
set_option maxHeartbeats 8000000 in
set_option maxRecDepth 100000 in
theorem shunterlaw05_SegmentBack.calls (k : Nat) (a0 : Int) (a1 : ByteArray) (a2 : ByteArray) (a3 : ByteArray) (a4 : Int) (r : Bool) (w : World) (h : shunterlaw05_SegmentBack.f k a0 a1 a2 a3 a4 = some r) (hT : Aside0 (r = true)) :
    Calls Try.prog 6 #[.int .u64 a0, .string a1, .string a2, .string a3, .int .i64 a4] w fun e w' => e = .returned (.bool r) ∧ Below w.heap.size w w' := by
  have HB := Aside0.mk (Below.refl w.heap.size w)
  have H : ((shunterlaw01_Cut.f a1 300).bind fun t156 => ((shunterlaw01_Cut.f a2 20).bind fun t157 => ((shunterlaw01_Cut.f a3 20).bind fun t158 => ((shunterlaw05_awake.f k).bind fun t159 => (if t159 = true then ((segment_Frame.f k a0 t156).bind fun bt160 => (if t157.size + bt160.1.size ≤ 9223372036854775807 then (if (t157 ++ bt160.1).size + t158.size ≤ 9223372036854775807 then ((segment_Open.f k ((t157 ++ bt160.1) ++ t158) (t157.size : Int)).bind fun bt162 => (if (bt160.1.size : Int) = 0 then (none) else (if 0 ≤ (Int.tmod (Go.bits .and .i64 a4 65535) (bt160.1.size : Int)) then (if (Int.tmod (Go.bits .and .i64 a4 65535) (bt160.1.size : Int)) ≤ (bt160.1.size : Int) then ((segment_Open.f k (bt160.1.extract 0 ((Int.tmod (Go.bits .and .i64 a4 65535) (bt160.1.size : Int)) : Int).toNat) 0).bind fun bt166 => (if bt160.2 = 0 then ((shunterref05_Frame.f k a0 t156).bind fun t170 => (if bt160.1.toList = t170.toList then (if bt162.2.2.2 = 0 then (if bt162.1 = a0 then (if bt162.2.1.toList = t156.toList then (if bt162.2.2.1 = ((t157.size : Int) + (bt160.1.size : Int)) then (some (bt166.2.2.2 == 2)) else (some false)) else (some false)) else (some false)) else (some false)) else (some false))) else (some false))) else (none)) else (none)))) else (none)) else (none))) else (some false)))))) = some r := h
  clear h
  replace H := Option.bind_eq_some_iff.mp H
  obtain ⟨t156, A60, H⟩ := H
  replace H : ((shunterlaw01_Cut.f a2 20).bind fun t157 => ((shunterlaw01_Cut.f a3 20).bind fun t158 => ((shunterlaw05_awake.f k).bind fun t159 => (if t159 = true then ((segment_Frame.f k a0 t156).bind fun bt160 => (if t157.size + bt160.1.size ≤ 9223372036854775807 then (if (t157 ++ bt160.1).size + t158.size ≤ 9223372036854775807 then ((segment_Open.f k ((t157 ++ bt160.1) ++ t158) (t157.size : Int)).bind fun bt162 => (if (bt160.1.size : Int) = 0 then (none) else (if 0 ≤ (Int.tmod (Go.bits .and .i64 a4 65535) (bt160.1.size : Int)) then (if (Int.tmod (Go.bits .and .i64 a4 65535) (bt160.1.size : Int)) ≤ (bt160.1.size : Int) then ((segment_Open.f k (bt160.1.extract 0 ((Int.tmod (Go.bits .and .i64 a4 65535) (bt160.1.size : Int)) : Int).toNat) 0).bind fun bt166 => (if bt160.2 = 0 then ((shunterref05_Frame.f k a0 t156).bind fun t170 => (if bt160.1.toList = t170.toList then (if bt162.2.2.2 = 0 then (if bt162.1 = a0 then (if bt162.2.1.toList = t156.toList then (if bt162.2.2.1 = ((t157.size : Int) + (bt160.1.size : Int)) then (some (bt166.2.2.2 == 2)) else (some false)) else (some false)) else (some false)) else (some false)) else (some false))) else (some false))) else (none)) else (none)))) else (none)) else (none))) else (some false))))) = some r := H
  have A6 := Aside0.mk A60
  clear A60
  replace H := Option.bind_eq_some_iff.mp H
  obtain ⟨t157, A70, H⟩ := H
  replace H : ((shunterlaw01_Cut.f a3 20).bind fun t158 => ((shunterlaw05_awake.f k).bind fun t159 => (if t159 = true then ((segment_Frame.f k a0 t156).bind fun bt160 => (if t157.size + bt160.1.size ≤ 9223372036854775807 then (if (t157 ++ bt160.1).size + t158.size ≤ 9223372036854775807 then ((segment_Open.f k ((t157 ++ bt160.1) ++ t158) (t157.size : Int)).bind fun bt162 => (if (bt160.1.size : Int) = 0 then (none) else (if 0 ≤ (Int.tmod (Go.bits .and .i64 a4 65535) (bt160.1.size : Int)) then (if (Int.tmod (Go.bits .and .i64 a4 65535) (bt160.1.size : Int)) ≤ (bt160.1.size : Int) then ((segment_Open.f k (bt160.1.extract 0 ((Int.tmod (Go.bits .and .i64 a4 65535) (bt160.1.size : Int)) : Int).toNat) 0).bind fun bt166 => (if bt160.2 = 0 then ((shunterref05_Frame.f k a0 t156).bind fun t170 => (if bt160.1.toList = t170.toList then (if bt162.2.2.2 = 0 then (if bt162.1 = a0 then (if bt162.2.1.toList = t156.toList then (if bt162.2.2.1 = ((t157.size : Int) + (bt160.1.size : Int)) then (some (bt166.2.2.2 == 2)) else (some false)) else (some false)) else (some false)) else (some false)) else (some false))) else (some false))) else (none)) else (none)))) else (none)) else (none))) else (some false)))) = some r := H
  have A7 := Aside0.mk A70
  clear A70
  replace H := Option.bind_eq_some_iff.mp H
  obtain ⟨t158, A80, H⟩ := H
  replace H : ((shunterlaw05_awake.f k).bind fun t159 => (if t159 = true then ((segment_Frame.f k a0 t156).bind fun bt160 => (if t157.size + bt160.1.size ≤ 9223372036854775807 then (if (t157 ++ bt160.1).size + t158.size ≤ 9223372036854775807 then ((segment_Open.f k ((t157 ++ bt160.1) ++ t158) (t157.size : Int)).bind fun bt162 => (if (bt160.1.size : Int) = 0 then (none) else (if 0 ≤ (Int.tmod (Go.bits .and .i64 a4 65535) (bt160.1.size : Int)) then (if (Int.tmod (Go.bits .and .i64 a4 65535) (bt160.1.size : Int)) ≤ (bt160.1.size : Int) then ((segment_Open.f k (bt160.1.extract 0 ((Int.tmod (Go.bits .and .i64 a4 65535) (bt160.1.size : Int)) : Int).toNat) 0).bind fun bt166 => (if bt160.2 = 0 then ((shunterref05_Frame.f k a0 t156).bind fun t170 => (if bt160.1.toList = t170.toList then (if bt162.2.2.2 = 0 then (if bt162.1 = a0 then (if bt162.2.1.toList = t156.toList then (if bt162.2.2.1 = ((t157.size : Int) + (bt160.1.size : Int)) then (some (bt166.2.2.2 == 2)) else (some false)) else (some false)) else (some false)) else (some false)) else (some false))) else (some false))) else (none)) else (none)))) else (none)) else (none))) else (some false))) = some r := H
  have A8 := Aside0.mk A80
  clear A80
  replace H := Option.bind_eq_some_iff.mp H
  obtain ⟨t159, A90, H⟩ := H
  replace H : (if t159 = true then ((segment_Frame.f k a0 t156).bind fun bt160 => (if t157.size + bt160.1.size ≤ 9223372036854775807 then (if (t157 ++ bt160.1).size + t158.size ≤ 9223372036854775807 then ((segment_Open.f k ((t157 ++ bt160.1) ++ t158) (t157.size : Int)).bind fun bt162 => (if (bt160.1.size : Int) = 0 then (none) else (if 0 ≤ (Int.tmod (Go.bits .and .i64 a4 65535) (bt160.1.size : Int)) then (if (Int.tmod (Go.bits .and .i64 a4 65535) (bt160.1.size : Int)) ≤ (bt160.1.size : Int) then ((segment_Open.f k (bt160.1.extract 0 ((Int.tmod (Go.bits .and .i64 a4 65535) (bt160.1.size : Int)) : Int).toNat) 0).bind fun bt166 => (if bt160.2 = 0 then ((shunterref05_Frame.f k a0 t156).bind fun t170 => (if bt160.1.toList = t170.toList then (if bt162.2.2.2 = 0 then (if bt162.1 = a0 then (if bt162.2.1.toList = t156.toList then (if bt162.2.2.1 = ((t157.size : Int) + (bt160.1.size : Int)) then (some (bt166.2.2.2 == 2)) else (some false)) else (some false)) else (some false)) else (some false)) else (some false))) else (some false))) else (none)) else (none)))) else (none)) else (none))) else (some false)) = some r := H
  have A9 := Aside0.mk A90
  clear A90
  by_cases c10 : t159 = true
  · subst c10
    have H1 : ((segment_Frame.f k a0 t156).bind fun bt160 => (if t157.size + bt160.1.size ≤ 9223372036854775807 then (if (t157 ++ bt160.1).size + t158.size ≤ 9223372036854775807 then ((segment_Open.f k ((t157 ++ bt160.1) ++ t158) (t157.size : Int)).bind fun bt162 => (if (bt160.1.size : Int) = 0 then (none) else (if 0 ≤ (Int.tmod (Go.bits .and .i64 a4 65535) (bt160.1.size : Int)) then (if (Int.tmod (Go.bits .and .i64 a4 65535) (bt160.1.size : Int)) ≤ (bt160.1.size : Int) then ((segment_Open.f k (bt160.1.extract 0 ((Int.tmod (Go.bits .and .i64 a4 65535) (bt160.1.size : Int)) : Int).toNat) 0).bind fun bt166 => (if bt160.2 = 0 then ((shunterref05_Frame.f k a0 t156).bind fun t170 => (if bt160.1.toList = t170.toList then (if bt162.2.2.2 = 0 then (if bt162.1 = a0 then (if bt162.2.1.toList = t156.toList then (if bt162.2.2.1 = ((t157.size : Int) + (bt160.1.size : Int)) then (some (bt166.2.2.2 == 2)) else (some false)) else (some false)) else (some false)) else (some false)) else (some false))) else (some false))) else (none)) else (none)))) else (none)) else (none))) = some r := by rw [if_pos rfl] at H; exact H
    clear H
    have H := H1
    clear H1
    replace H := Option.bind_eq_some_iff.mp H
    obtain ⟨⟨t160, t161⟩, A110, H⟩ := H
    replace H : (if t157.size + t160.size ≤ 9223372036854775807 then (if (t157 ++ t160).size + t158.size ≤ 9223372036854775807 then ((segment_Open.f k ((t157 ++ t160) ++ t158) (t157.size : Int)).bind fun bt162 => (if (t160.size : Int) = 0 then (none) else (if 0 ≤ (Int.tmod (Go.bits .and .i64 a4 65535) (t160.size : Int)) then (if (Int.tmod (Go.bits .and .i64 a4 65535) (t160.size : Int)) ≤ (t160.size : Int) then ((segment_Open.f k (t160.extract 0 ((Int.tmod (Go.bits .and .i64 a4 65535) (t160.size : Int)) : Int).toNat) 0).bind fun bt166 => (if t161 = 0 then ((shunterref05_Frame.f k a0 t156).bind fun t170 => (if t160.toList = t170.toList then (if bt162.2.2.2 = 0 then (if bt162.1 = a0 then (if bt162.2.1.toList = t156.toList then (if bt162.2.2.1 = ((t157.size : Int) + (t160.size : Int)) then (some (bt166.2.2.2 == 2)) else (some false)) else (some false)) else (some false)) else (some false)) else (some false))) else (some false))) else (none)) else (none)))) else (none)) else (none)) = some r := H
    have A11 := Aside0.mk A110
    clear A110
    by_cases c12 : t157.size + t160.size ≤ 9223372036854775807
    · rw [if_pos c12] at H
      have c12b0 := eq_true c12
      have c12b1 : decide (t157.size + t160.size ≤ 9223372036854775807) = true := decide_eq_true c12
      try have c12b2 : (9223372036854775807 < t157.size + t160.size) = False := eq_false (Nat.not_lt.2 c12)
      by_cases c13 : (t157 ++ t160).size + t158.size ≤ 9223372036854775807
      · rw [if_pos c13] at H
        have c13z : (9223372036854775807 < t157.size + t160.size + t158.size) = False := eq_false (by have z := c13; simp only [ByteArray.size_append] at z; omega)
        have c13b0 := eq_true c13
        have c13b1 : decide ((t157 ++ t160).size + t158.size ≤ 9223372036854775807) = true := decide_eq_true c13
        try have c13b2 : (9223372036854775807 < (t157 ++ t160).size + t158.size) = False := eq_false (Nat.not_lt.2 c13)
        replace H := Option.bind_eq_some_iff.mp H
        obtain ⟨⟨t162, t163, t164, t165⟩, A140, H⟩ := H
        replace H : (if (t160.size : Int) = 0 then (none) else (if 0 ≤ (Int.tmod (Go.bits .and .i64 a4 65535) (t160.size : Int)) then (if (Int.tmod (Go.bits .and .i64 a4 65535) (t160.size : Int)) ≤ (t160.size : Int) then ((segment_Open.f k (t160.extract 0 ((Int.tmod (Go.bits .and .i64 a4 65535) (t160.size : Int)) : Int).toNat) 0).bind fun bt166 => (if t161 = 0 then ((shunterref05_Frame.f k a0 t156).bind fun t170 => (if t160.toList = t170.toList then (if t165 = 0 then (if t162 = a0 then (if t163.toList = t156.toList then (if t164 = ((t157.size : Int) + (t160.size : Int)) then (some (bt166.2.2.2 == 2)) else (some false)) else (some false)) else (some false)) else (some false)) else (some false))) else (some false))) else (none)) else (none))) = some r := H
        have A14 := Aside0.mk A140
        clear A140
        by_cases c15 : (t160.size : Int) = 0
        · rw [if_pos c15] at H
          exact absurd H (by simp)
        · rw [if_neg c15] at H
          have c15b0 : ((t160.size : Int) == 0) = false := beq_eq_false_iff_ne.mpr c15
          have c15b1 : ((t160.size : Int) != 0) = true := bne_iff_ne.mpr c15
          obtain ⟨ji16, hji16⟩ : ∃ j_ : Int, (Int.tmod (Go.bits .and .i64 a4 65535) (t160.size : Int)) = j_ := ⟨_, rfl⟩
          replace H : (if 0 ≤ (ji16) then (if (ji16) ≤ (t160.size : Int) then ((segment_Open.f k (t160.extract 0 ((ji16) : Int).toNat) 0).bind fun bt166 => (if t161 = 0 then ((shunterref05_Frame.f k a0 t156).bind fun t170 => (if t160.toList = t170.toList then (if t165 = 0 then (if t162 = a0 then (if t163.toList = t156.toList then (if t164 = ((t157.size : Int) + (t160.size : Int)) then (some (bt166.2.2.2 == 2)) else (some false)) else (some false)) else (some false)) else (some false)) else (some false))) else (some false))) else (none)) else (none)) = some r := by first | (rw [hji16] at H; exact H) | (simp only [hji16] at H ⊢; exact H)
          (try rw [hji16] at A6)
          (try rw [hji16] at A7)
          (try rw [hji16] at A8)
          (try rw [hji16] at A9)
          (try rw [hji16] at A11)
          (try rw [hji16] at A14)
          by_cases c17 : 0 ≤ (ji16)
          · rw [if_pos c17] at H
            have c17b0 := eq_true c17
            have c17b1 : decide (0 ≤ (ji16)) = true := decide_eq_true c17
            clear c17
            by_cases c18 : (ji16) ≤ (t160.size : Int)
            · rw [if_pos c18] at H
              have c18b0 := eq_true c18
              have c18b1 : decide ((ji16) ≤ (t160.size : Int)) = true := decide_eq_true c18
              clear c18
              replace H := Option.bind_eq_some_iff.mp H
              obtain ⟨⟨t166, t167, t168, t169⟩, A190, H⟩ := H
              replace H : (if t161 = 0 then ((shunterref05_Frame.f k a0 t156).bind fun t170 => (if t160.toList = t170.toList then (if t165 = 0 then (if t162 = a0 then (if t163.toList = t156.toList then (if t164 = ((t157.size : Int) + (t160.size : Int)) then (some (t169 == 2)) else (some false)) else (some false)) else (some false)) else (some false)) else (some false))) else (some false)) = some r := H
              have A19 := Aside0.mk A190
              clear A190
              by_cases c20 : t161 = 0
              · rw [if_pos c20] at H
                have c20b0 : (t161 == 0) = true := beq_iff_eq.mpr c20
                have c20b1 : (t161 != 0) = false := bne_eq_false_iff_eq.mpr c20
                clear c20
                replace H := Option.bind_eq_some_iff.mp H
                obtain ⟨t170, A210, H⟩ := H
                replace H : (if t160.toList = t170.toList then (if t165 = 0 then (if t162 = a0 then (if t163.toList = t156.toList then (if t164 = ((t157.size : Int) + (t160.size : Int)) then (some (t169 == 2)) else (some false)) else (some false)) else (some false)) else (some false)) else (some false)) = some r := H
                have A21 := Aside0.mk A210
                clear A210
                by_cases c22 : t160.toList = t170.toList
                · rw [if_pos c22] at H
                  have c22b0 : (t160.toList == t170.toList) = true := beq_iff_eq.mpr c22
                  have c22b1 : (t160.toList != t170.toList) = false := bne_eq_false_iff_eq.mpr c22
                  clear c22
                  by_cases c23 : t165 = 0
                  · rw [if_pos c23] at H
                    have c23b0 : (t165 == 0) = true := beq_iff_eq.mpr c23
                    have c23b1 : (t165 != 0) = false := bne_eq_false_iff_eq.mpr c23
                    clear c23
                    by_cases c24 : t162 = a0
                    · rw [if_pos c24] at H
                      have c24b0 : (t162 == a0) = true := beq_iff_eq.mpr c24
                      have c24b1 : (t162 != a0) = false := bne_eq_false_iff_eq.mpr c24
                      clear c24
                      by_cases c25 : t163.toList = t156.toList
                      · rw [if_pos c25] at H
                        have c25b0 : (t163.toList == t156.toList) = true := beq_iff_eq.mpr c25
                        have c25b1 : (t163.toList != t156.toList) = false := bne_eq_false_iff_eq.mpr c25
                        clear c25
                        by_cases c26 : t164 = ((t157.size : Int) + (t160.size : Int))
                        · rw [if_pos c26] at H
                          have c26b0 : (t164 == ((t157.size : Int) + (t160.size : Int))) = true := beq_iff_eq.mpr c26
                          have c26b1 : (t164 != ((t157.size : Int) + (t160.size : Int))) = false := bne_eq_false_iff_eq.mpr c26
                          clear c26
                          obtain rfl := Option.some.inj H
                          go_enter Try.func6, Try.ntmps6
                          go_wp2_with (first | ((with_reducible refine gate_callee (f := 25) rfl ?_); refine goesL_ (some 22) rfl rfl Try.func25 (by kernel_rfl) rfl #[.string a1, .int .i64 300] rfl (by (try simp only [List.map_toArray, List.map_cons, List.map_nil]); first | done | rfl | (simp only [List.length_drop, List.length_take]; rfl)) ?_; (with_reducible refine (shunterlaw01_Cut.calls a1 300 t156 _ A6.out).mono ?_); rintro e w' ⟨rfl, ⟨nd, rfl⟩⟩; refine ⟨_, rfl, ?_⟩) | ((with_reducible refine gate_callee (f := 25) rfl ?_); refine goesL_ (some 24) rfl rfl Try.func25 (by kernel_rfl) rfl #[.string a2, .int .i64 20] rfl (by (try simp only [List.map_toArray, List.map_cons, List.map_nil]); first | done | rfl | (simp only [List.length_drop, List.length_take]; rfl)) ?_; (with_reducible refine (shunterlaw01_Cut.calls a2 20 t157 _ A7.out).mono ?_); rintro e w' ⟨rfl, ⟨nd, rfl⟩⟩; refine ⟨_, rfl, ?_⟩) | ((with_reducible refine gate_callee (f := 25) rfl ?_); refine goesL_ (some 26) rfl rfl Try.func25 (by kernel_rfl) rfl #[.string a3, .int .i64 20] rfl (by (try simp only [List.map_toArray, List.map_cons, List.map_nil]); first | done | rfl | (simp only [List.length_drop, List.length_take]; rfl)) ?_; (with_reducible refine (shunterlaw01_Cut.calls a3 20 t158 _ A8.out).mono ?_); rintro e w' ⟨rfl, ⟨nd, rfl⟩⟩; refine ⟨_, rfl, ?_⟩) | ((with_reducible refine gate_callee (f := 29) rfl ?_); refine goesL_ (some 27) rfl rfl Try.func29 (by kernel_rfl) rfl #[] rfl (by (try simp only [List.map_toArray, List.map_cons, List.map_nil]); first | done | rfl | (simp only [List.length_drop, List.length_take]; rfl)) ?_; (with_reducible refine (shunterlaw05_awake.calls k  true _ A9.out).mono ?_); rintro e w27 ⟨rfl, hb⟩; refine ⟨_, rfl, ?_⟩; have n0_ := Aside0.mk (below_step (by repeat (first | (with_reducible first | exact HB.out | apply below_alloc | apply pw_below_drewN | apply below_drew1) | exact HB.out)) hb); clear HB; have HB := n0_; clear n0_; (try clear hb); (try clear hb2); (try clear hk); (try clear hi)) | ((with_reducible refine gate_callee (f := 30) rfl ?_); refine goesL_ (some 32) rfl rfl Try.func30 (by kernel_rfl) rfl #[.int .u64 a0, .string t156] rfl (by (try simp only [List.map_toArray, List.map_cons, List.map_nil]); first | done | rfl | (simp only [List.length_drop, List.length_take]; rfl)) ?_; (with_reducible refine (segment_Frame.calls k a0 t156 t160 t161 _ A11.out).mono ?_); rintro e w28 ⟨rfl, hb⟩; refine ⟨_, rfl, ?_⟩; have n0_ := Aside0.mk (below_step (by repeat (first | (with_reducible first | exact HB.out | apply below_alloc | apply pw_below_drewN | apply below_drew1) | exact HB.out)) hb); clear HB; have HB := n0_; clear n0_; (try clear hb); (try clear hb2); (try clear hk); (try clear hi)) | ((with_reducible refine gate_callee (f := 31) rfl ?_); refine goesL_ (some 43) rfl rfl Try.func31 (by kernel_rfl) rfl #[.string ((t157 ++ t160) ++ t158), .int .i64 (t157.size : Int)] rfl (by (try simp only [List.map_toArray, List.map_cons, List.map_nil]); first | done | rfl | (simp only [List.length_drop, List.length_take]; rfl)) ?_; (with_reducible refine (segment_Open.calls k ((t157 ++ t160) ++ t158) (t157.size : Int) t162 t163 t164 t165 _ A14.out).mono ?_); rintro e w29 ⟨rfl, hb⟩; refine ⟨_, rfl, ?_⟩; have n0_ := Aside0.mk (below_step (by repeat (first | (with_reducible first | exact HB.out | apply below_alloc | apply pw_below_drewN | apply below_drew1) | exact HB.out)) hb); clear HB; have HB := n0_; clear n0_; (try clear hb); (try clear hb2); (try clear hk); (try clear hi)) | ((with_reducible refine gate_callee (f := 31) rfl ?_); refine goesL_ (some 56) rfl rfl Try.func31 (by kernel_rfl) rfl #[.string (t160.extract 0 ((ji16) : Int).toNat), .int .i64 0] rfl (by (try simp only [List.map_toArray, List.map_cons, List.map_nil]); first | done | (simp only [hji16]; rfl) | rfl | (simp only [List.length_drop, List.length_take]; rfl)) ?_; (with_reducible refine (segment_Open.calls k (t160.extract 0 ((ji16) : Int).toNat) 0 t166 t167 t168 t169 _ A19.out).mono ?_); rintro e w30 ⟨rfl, hb⟩; refine ⟨_, rfl, ?_⟩; have n0_ := Aside0.mk (below_step (by repeat (first | (with_reducible first | exact HB.out | apply below_alloc | apply pw_below_drewN | apply below_drew1) | exact HB.out)) hb); clear HB; have HB := n0_; clear n0_; (try clear hb); (try clear hb2); (try clear hk); (try clear hi)) | (go_at_call 32; (with_reducible refine (shunterref05_Frame.calls k a0 t156 t170 _ A21.out).mono ?_); rintro e w31 ⟨rfl, hb⟩; have n0_ := Aside0.mk (below_step (by repeat (first | (with_reducible first | exact HB.out | apply below_alloc | apply pw_below_drewN | apply below_drew1) | exact HB.out)) hb); clear HB; have HB := n0_; clear n0_; (try clear hb); (try clear hb2); (try clear hk); (try clear hi)))
                          go_ret
                          exact ⟨by first | rfl | (simp [errW_none, errW_some] <;> rfl) | (simp only [← hji16]; first | rfl | (simp [errW_none, errW_some] <;> rfl)) | (simp [*, errW_none, errW_some] <;> rfl), by repeat (first | (with_reducible first | exact HB.out | apply below_alloc | apply pw_below_drewN | apply below_drew1) | exact HB.out)⟩
                        · rw [if_neg c26] at H
                          have c26b0 : (t164 == ((t157.size : Int) + (t160.size : Int))) = false := beq_eq_false_iff_ne.mpr c26
                          have c26b1 : (t164 != ((t157.size : Int) + (t160.size : Int))) = true := bne_iff_ne.mpr c26
                          exact absurd (H.trans (congrArg some hT.out)) (by simp)
                      · rw [if_neg c25] at H
                        have c25b0 : (t163.toList == t156.toList) = false := beq_eq_false_iff_ne.mpr c25
                        have c25b1 : (t163.toList != t156.toList) = true := bne_iff_ne.mpr c25
                        exact absurd (H.trans (congrArg some hT.out)) (by simp)
                    · rw [if_neg c24] at H
                      have c24b0 : (t162 == a0) = false := beq_eq_false_iff_ne.mpr c24
                      have c24b1 : (t162 != a0) = true := bne_iff_ne.mpr c24
                      exact absurd (H.trans (congrArg some hT.out)) (by simp)
                  · rw [if_neg c23] at H
                    have c23b0 : (t165 == 0) = false := beq_eq_false_iff_ne.mpr c23
                    have c23b1 : (t165 != 0) = true := bne_iff_ne.mpr c23
                    exact absurd (H.trans (congrArg some hT.out)) (by simp)
                · rw [if_neg c22] at H
                  have c22b0 : (t160.toList == t170.toList) = false := beq_eq_false_iff_ne.mpr c22
                  have c22b1 : (t160.toList != t170.toList) = true := bne_iff_ne.mpr c22
                  exact absurd (H.trans (congrArg some hT.out)) (by simp)
              · rw [if_neg c20] at H
                have c20b0 : (t161 == 0) = false := beq_eq_false_iff_ne.mpr c20
                have c20b1 : (t161 != 0) = true := bne_iff_ne.mpr c20
                exact absurd (H.trans (congrArg some hT.out)) (by simp)
            · rw [if_neg c18] at H
              exact absurd H (by simp)
          · rw [if_neg c17] at H
            exact absurd H (by simp)
      · rw [if_neg c13] at H
        exact absurd H (by simp)
    · rw [if_neg c12] at H
      exact absurd H (by simp)
  · replace c10 := Bool.eq_false_iff.mpr c10
    subst c10
    have H1 : (some false) = some r := by rw [if_neg (show ¬ (false = true) by decide)] at H; exact H
    clear H
    have H := H1
    clear H1
    exact absurd (H.trans (congrArg some hT.out)) (by simp)
/-- THE ONE PURE STATEMENT of shunterlaw05_SegmentBack: yours. -/
def shunterlaw05_SegmentBack.Pure : Prop := ∀ (a0 : Int) (a1 : ByteArray) (a2 : ByteArray) (a3 : ByteArray) (a4 : Int), (Lit.int .u64 a0).wf = true → a1.size ≤ 140737488351232 → a2.size ≤ 140737488351232 → a3.size ≤ 140737488351232 → (Lit.int .i64 a4).wf = true → ∃ k, shunterlaw05_SegmentBack.f k a0 a1 a2 a3 a4 = some true
theorem shunterlaw05_SegmentBack.walk (P : shunterlaw05_SegmentBack.Pure) (a0 : Int) (a1 : ByteArray) (a2 : ByteArray) (a3 : ByteArray) (a4 : Int) (w : World) (w0 : (Lit.int .u64 a0).wf = true) (w1 : a1.size ≤ 140737488351232) (w2 : a2.size ≤ 140737488351232) (w3 : a3.size ≤ 140737488351232) (w4 : (Lit.int .i64 a4).wf = true) :
    Calls Try.prog 6 #[.int .u64 a0, .string a1, .string a2, .string a3, .int .i64 a4] w fun e w' => e = .returned (.bool true) ∧ Below w.heap.size w w' := by
  obtain ⟨k, h⟩ := P a0 a1 a2 a3 a4 w0 w1 w2 w3 w4
  refine (shunterlaw05_SegmentBack.calls k a0 a1 a2 a3 a4 true w h ⟨rfl⟩).mono ?_
  rintro e w' ⟨rfl, hd⟩
  exact ⟨rfl, hd⟩


end Go.Proofs.Ythlllcmffgdcmaa.SegBack

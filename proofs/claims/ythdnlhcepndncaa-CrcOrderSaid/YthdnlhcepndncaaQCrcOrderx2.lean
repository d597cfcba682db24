-- Walks by a program: this session's turn of the kit's print, over contracts of the session's own.
import Derived.Test.YthdnlhcepndncaaQCrcOrderx0
import Derived.Test.YthdnlhcepndncaaQCrcOrderx1
namespace Go.Proofs.Ythdnlhcepndncaa.QCrcOrder
open Go.RowKit Go.Proofs.Ythdnlhcepndncaa.Crc Go.Proofs.YthdnlhcepndncaaW.PrintWords Go.Proofs.YthdnlhcepndncaaW.PrintLast Go.Proofs.YthdnlhcepndncaaW.PrintMore
attribute [local go_sem] max2_int min2_int max_two min_two max_three min_three max_four min_four   -- for this text's walks alone
set_option linter.unusedVariables false
set_option linter.unusedSimpArgs false

/-! ### shunterlaw03_CrcOrder: function 12 -/
def shunterlaw03_CrcOrder.f (k : Nat) (a0 : ByteArray) (a1 : ByteArray) (a2 : ByteArray) : Option (Bool) := (shunterlaw03_awake.f k).bind fun t111 => (if t111 = true then ((shunterlaw01_Cut.f a0 40).bind fun t112 => ((shunterlaw01_Cut.f a1 40).bind fun t113 => ((shunterlaw01_Cut.f a2 40).bind fun t114 => ((crc_State_Add.f 0 t112).bind fun t115 => ((crc_State_Add.f t115 t113).bind fun t117 => ((crc_State_Add.f t117 t114).bind fun t118 => ((crc_State_Add.f t115 t114).bind fun t120 => ((crc_State_Add.f t120 t113).bind fun t121 => ((crc_State_Sum.f t118).bind fun t123 => (if t112.size + t113.size ≤ 9223372036854775807 then (if (t112 ++ t113).size + t114.size ≤ 9223372036854775807 then ((shunterref03_Sum.f k ((t112 ++ t113) ++ t114)).bind fun t124 => (if t123 = t124 then ((crc_State_Sum.f t121).bind fun t125 => (if t112.size + t114.size ≤ 9223372036854775807 then (if (t112 ++ t114).size + t113.size ≤ 9223372036854775807 then ((shunterref03_Sum.f k ((t112 ++ t114) ++ t113)).bind fun t126 => (if t125 = t126 then ((crc_State_Sum.f t115).bind fun t127 => ((crc_Of.f k (([t112] : List ByteArray))).bind fun t131 => (if t127 = t131 then ((crc_Of.f k (([t112, t113, t114] : List ByteArray))).bind fun t135 => ((crc_State_Sum.f t118).bind fun t136 => (some (t135 == t136)))) else (some false)))) else (some false))) else (none)) else (none))) else (some false))) else (none)) else (none))))))))))) else (some false))
theorem shunterlaw03_CrcOrder.mono : ∀ a0 a1 a2 k, LeO (shunterlaw03_CrcOrder.f k a0 a1 a2) (shunterlaw03_CrcOrder.f (k + 1) a0 a1 a2) := by
  intro a0 a1 a2 k
  unfold shunterlaw03_CrcOrder.f
  repeat' first
      | (with_reducible exact crc_Of.mono _ _)
      | (with_reducible exact shunterlaw03_awake.mono _)
      | (with_reducible exact shunterref03_Sum.mono _ _)
      | (with_reducible exact LeO.refl _)
      | (with_reducible exact LeO.none _)
      | (with_reducible refine LeO.ite ?_ ?_)
      | (with_reducible refine LeO.bind ?_ (fun _ => ?_))
      | exact crc_Of.mono _ _
      | exact shunterlaw03_awake.mono _
      | exact shunterref03_Sum.mono _ _
      | exact LeO.none _
      | refine LeO.ite ?_ ?_
      | refine LeO.bind ?_ (fun _ => ?_)
def shunterlaw03_CrcOrder.T7 : Bool × List (List Nat × List Nat) := (true, [([], []), ([0], [0]), ([], []), ([], []), ([2, 3], [2, 3]), ([], []), ([4, 5], [4, 5]), ([6, 1], [6]), ([1, 7], [1, 7]), ([8, 7], [8]), ([9], [9]), ([10, 9, 9], [9, 10]), ([9], [9]), ([9], [9]), ([12, 13, 9], [9, 12, 13]), ([9], [9]), ([14, 15, 9], [9, 14, 15]), ([16, 11, 9], [9, 16]), ([11, 17, 9], [9, 11, 17]), ([9, 18], [9, 18]), ([19, 17], [19]), ([20], [20]), ([21, 20, 20], [20, 21]), ([20], [20]), ([23, 20], [20, 23]), ([24, 22, 20], [20, 24]), ([22, 25, 20], [20, 22, 25]), ([20, 26], [20, 26]), ([27, 25], [27]), ([28], [28]), ([28], [28]), ([28], [28]), ([29, 30, 31, 28], [28, 29, 30, 31]), ([32, 28, 28], [28, 32]), ([28], [28]), ([34, 33, 28], [28, 34]), ([33, 35, 28], [28, 33, 35]), ([28, 36], [28, 36]), ([37, 35, 0, 1, 2, 3, 4, 5, 6, 7, 8, 9, 10, 11, 12, 13, 14, 15, 16, 17, 18, 19, 20, 21, 22, 23, 24, 25, 26, 27, 28, 29, 30, 31, 32, 33, 34, 35, 36, 37], [37])])
def shunterlaw03_CrcOrder.B7 : List Nat := [0, 1, 0, 0, 12, 0, 60, 127, 255, 511, 1023, 2047, 1023, 1023, 13311, 1023, 62463, 131071, 262143, 524287, 1048575, 2097151, 4194303, 2097151, 10485759, 33554431, 67108863, 134217727, 268435455, 536870911, 536870911, 536870911, 4294967295, 8589934591, 536870911, 34359738367, 68719476735, 137438953471, 274877906943]
theorem shunterlaw03_CrcOrder.tab7 : rtab .any (opsOf Try.f12 7) = shunterlaw03_CrcOrder.T7 := by kernel_rfl
theorem shunterlaw03_CrcOrder.bits7 : waitsOk shunterlaw03_CrcOrder.T7.2 shunterlaw03_CrcOrder.B7 = true := by kernel_rfl
set_option maxHeartbeats 8000000 in
set_option maxRecDepth 100000 in
theorem shunterlaw03_CrcOrder.calls (k : Nat) (a0 : ByteArray) (a1 : ByteArray) (a2 : ByteArray) (r : Bool) (w : World) (h : shunterlaw03_CrcOrder.f k a0 a1 a2 = some r) (hT : Aside0 (r = true)) :
    Calls Try.prog 12 #[.string a0, .string a1, .string a2] w fun e w' => e = .returned (.bool r) ∧ Below w.heap.size w w' := by
  have hu60 := Try.underlying60
  have HB := Aside0.mk (Below.refl w.heap.size w)
  have H : ((shunterlaw03_awake.f k).bind fun t111 => (if t111 = true then ((shunterlaw01_Cut.f a0 40).bind fun t112 => ((shunterlaw01_Cut.f a1 40).bind fun t113 => ((shunterlaw01_Cut.f a2 40).bind fun t114 => ((crc_State_Add.f 0 t112).bind fun t115 => ((crc_State_Add.f t115 t113).bind fun t117 => ((crc_State_Add.f t117 t114).bind fun t118 => ((crc_State_Add.f t115 t114).bind fun t120 => ((crc_State_Add.f t120 t113).bind fun t121 => ((crc_State_Sum.f t118).bind fun t123 => (if t112.size + t113.size ≤ 9223372036854775807 then (if (t112 ++ t113).size + t114.size ≤ 9223372036854775807 then ((shunterref03_Sum.f k ((t112 ++ t113) ++ t114)).bind fun t124 => (if t123 = t124 then ((crc_State_Sum.f t121).bind fun t125 => (if t112.size + t114.size ≤ 9223372036854775807 then (if (t112 ++ t114).size + t113.size ≤ 9223372036854775807 then ((shunterref03_Sum.f k ((t112 ++ t114) ++ t113)).bind fun t126 => (if t125 = t126 then ((crc_State_Sum.f t115).bind fun t127 => ((crc_Of.f k (([t112] : List ByteArray))).bind fun t131 => (if t127 = t131 then ((crc_Of.f k (([t112, t113, t114] : List ByteArray))).bind fun t135 => ((crc_State_Sum.f t118).bind fun t136 => (some (t135 == t136)))) else (some false)))) else (some false))) else (none)) else (none))) else (some false))) else (none)) else (none))))))))))) else (some false))) = some r := h
  clear h
  replace H := Option.bind_eq_some_iff.mp H
  obtain ⟨t111, A40, H⟩ := H
  replace H : (if t111 = true then ((shunterlaw01_Cut.f a0 40).bind fun t112 => ((shunterlaw01_Cut.f a1 40).bind fun t113 => ((shunterlaw01_Cut.f a2 40).bind fun t114 => ((crc_State_Add.f 0 t112).bind fun t115 => ((crc_State_Add.f t115 t113).bind fun t117 => ((crc_State_Add.f t117 t114).bind fun t118 => ((crc_State_Add.f t115 t114).bind fun t120 => ((crc_State_Add.f t120 t113).bind fun t121 => ((crc_State_Sum.f t118).bind fun t123 => (if t112.size + t113.size ≤ 9223372036854775807 then (if (t112 ++ t113).size + t114.size ≤ 9223372036854775807 then ((shunterref03_Sum.f k ((t112 ++ t113) ++ t114)).bind fun t124 => (if t123 = t124 then ((crc_State_Sum.f t121).bind fun t125 => (if t112.size + t114.size ≤ 9223372036854775807 then (if (t112 ++ t114).size + t113.size ≤ 9223372036854775807 then ((shunterref03_Sum.f k ((t112 ++ t114) ++ t113)).bind fun t126 => (if t125 = t126 then ((crc_State_Sum.f t115).bind fun t127 => ((crc_Of.f k (([t112] : List ByteArray))).bind fun t131 => (if t127 = t131 then ((crc_Of.f k (([t112, t113, t114] : List ByteArray))).bind fun t135 => ((crc_State_Sum.f t118).bind fun t136 => (some (t135 == t136)))) else (some false)))) else (some false))) else (none)) else (none))) else (some false))) else (none)) else (none))))))))))) else (some false)) = some r := H
  have A4 := Aside0.mk A40
  clear A40
  by_cases c5 : t111 = true
  · subst c5
    have H1 : ((shunterlaw01_Cut.f a0 40).bind fun t112 => ((shunterlaw01_Cut.f a1 40).bind fun t113 => ((shunterlaw01_Cut.f a2 40).bind fun t114 => ((crc_State_Add.f 0 t112).bind fun t115 => ((crc_State_Add.f t115 t113).bind fun t117 => ((crc_State_Add.f t117 t114).bind fun t118 => ((crc_State_Add.f t115 t114).bind fun t120 => ((crc_State_Add.f t120 t113).bind fun t121 => ((crc_State_Sum.f t118).bind fun t123 => (if t112.size + t113.size ≤ 9223372036854775807 then (if (t112 ++ t113).size + t114.size ≤ 9223372036854775807 then ((shunterref03_Sum.f k ((t112 ++ t113) ++ t114)).bind fun t124 => (if t123 = t124 then ((crc_State_Sum.f t121).bind fun t125 => (if t112.size + t114.size ≤ 9223372036854775807 then (if (t112 ++ t114).size + t113.size ≤ 9223372036854775807 then ((shunterref03_Sum.f k ((t112 ++ t114) ++ t113)).bind fun t126 => (if t125 = t126 then ((crc_State_Sum.f t115).bind fun t127 => ((crc_Of.f k (([t112] : List ByteArray))).bind fun t131 => (if t127 = t131 then ((crc_Of.f k (([t112, t113, t114] : List ByteArray))).bind fun t135 => ((crc_State_Sum.f t118).bind fun t136 => (some (t135 == t136)))) else (some false)))) else (some false))) else (none)) else (none))) else (some false))) else (none)) else (none))))))))))) = some r := by rw [if_pos rfl] at H; exact H
    clear H
    have H := H1
    clear H1
    replace H := Option.bind_eq_some_iff.mp H
    obtain ⟨t112, A60, H⟩ := H
    replace H : ((shunterlaw01_Cut.f a1 40).bind fun t113 => ((shunterlaw01_Cut.f a2 40).bind fun t114 => ((crc_State_Add.f 0 t112).bind fun t115 => ((crc_State_Add.f t115 t113).bind fun t117 => ((crc_State_Add.f t117 t114).bind fun t118 => ((crc_State_Add.f t115 t114).bind fun t120 => ((crc_State_Add.f t120 t113).bind fun t121 => ((crc_State_Sum.f t118).bind fun t123 => (if t112.size + t113.size ≤ 9223372036854775807 then (if (t112 ++ t113).size + t114.size ≤ 9223372036854775807 then ((shunterref03_Sum.f k ((t112 ++ t113) ++ t114)).bind fun t124 => (if t123 = t124 then ((crc_State_Sum.f t121).bind fun t125 => (if t112.size + t114.size ≤ 9223372036854775807 then (if (t112 ++ t114).size + t113.size ≤ 9223372036854775807 then ((shunterref03_Sum.f k ((t112 ++ t114) ++ t113)).bind fun t126 => (if t125 = t126 then ((crc_State_Sum.f t115).bind fun t127 => ((crc_Of.f k (([t112] : List ByteArray))).bind fun t131 => (if t127 = t131 then ((crc_Of.f k (([t112, t113, t114] : List ByteArray))).bind fun t135 => ((crc_State_Sum.f t118).bind fun t136 => (some (t135 == t136)))) else (some false)))) else (some false))) else (none)) else (none))) else (some false))) else (none)) else (none)))))))))) = some r := H
    have A6 := Aside0.mk A60
    clear A60
    replace H := Option.bind_eq_some_iff.mp H
    obtain ⟨t113, A70, H⟩ := H
    replace H : ((shunterlaw01_Cut.f a2 40).bind fun t114 => ((crc_State_Add.f 0 t112).bind fun t115 => ((crc_State_Add.f t115 t113).bind fun t117 => ((crc_State_Add.f t117 t114).bind fun t118 => ((crc_State_Add.f t115 t114).bind fun t120 => ((crc_State_Add.f t120 t113).bind fun t121 => ((crc_State_Sum.f t118).bind fun t123 => (if t112.size + t113.size ≤ 9223372036854775807 then (if (t112 ++ t113).size + t114.size ≤ 9223372036854775807 then ((shunterref03_Sum.f k ((t112 ++ t113) ++ t114)).bind fun t124 => (if t123 = t124 then ((crc_State_Sum.f t121).bind fun t125 => (if t112.size + t114.size ≤ 9223372036854775807 then (if (t112 ++ t114).size + t113.size ≤ 9223372036854775807 then ((shunterref03_Sum.f k ((t112 ++ t114) ++ t113)).bind fun t126 => (if t125 = t126 then ((crc_State_Sum.f t115).bind fun t127 => ((crc_Of.f k (([t112] : List ByteArray))).bind fun t131 => (if t127 = t131 then ((crc_Of.f k (([t112, t113, t114] : List ByteArray))).bind fun t135 => ((crc_State_Sum.f t118).bind fun t136 => (some (t135 == t136)))) else (some false)))) else (some false))) else (none)) else (none))) else (some false))) else (none)) else (none))))))))) = some r := H
    have A7 := Aside0.mk A70
    clear A70
    replace H := Option.bind_eq_some_iff.mp H
    obtain ⟨t114, A80, H⟩ := H
    replace H : ((crc_State_Add.f 0 t112).bind fun t115 => ((crc_State_Add.f t115 t113).bind fun t117 => ((crc_State_Add.f t117 t114).bind fun t118 => ((crc_State_Add.f t115 t114).bind fun t120 => ((crc_State_Add.f t120 t113).bind fun t121 => ((crc_State_Sum.f t118).bind fun t123 => (if t112.size + t113.size ≤ 9223372036854775807 then (if (t112 ++ t113).size + t114.size ≤ 9223372036854775807 then ((shunterref03_Sum.f k ((t112 ++ t113) ++ t114)).bind fun t124 => (if t123 = t124 then ((crc_State_Sum.f t121).bind fun t125 => (if t112.size + t114.size ≤ 9223372036854775807 then (if (t112 ++ t114).size + t113.size ≤ 9223372036854775807 then ((shunterref03_Sum.f k ((t112 ++ t114) ++ t113)).bind fun t126 => (if t125 = t126 then ((crc_State_Sum.f t115).bind fun t127 => ((crc_Of.f k (([t112] : List ByteArray))).bind fun t131 => (if t127 = t131 then ((crc_Of.f k (([t112, t113, t114] : List ByteArray))).bind fun t135 => ((crc_State_Sum.f t118).bind fun t136 => (some (t135 == t136)))) else (some false)))) else (some false))) else (none)) else (none))) else (some false))) else (none)) else (none)))))))) = some r := H
    have A8 := Aside0.mk A80
    clear A80
    replace H := Option.bind_eq_some_iff.mp H
    obtain ⟨t115, A90, H⟩ := H
    replace H : ((crc_State_Add.f t115 t113).bind fun t117 => ((crc_State_Add.f t117 t114).bind fun t118 => ((crc_State_Add.f t115 t114).bind fun t120 => ((crc_State_Add.f t120 t113).bind fun t121 => ((crc_State_Sum.f t118).bind fun t123 => (if t112.size + t113.size ≤ 9223372036854775807 then (if (t112 ++ t113).size + t114.size ≤ 9223372036854775807 then ((shunterref03_Sum.f k ((t112 ++ t113) ++ t114)).bind fun t124 => (if t123 = t124 then ((crc_State_Sum.f t121).bind fun t125 => (if t112.size + t114.size ≤ 9223372036854775807 then (if (t112 ++ t114).size + t113.size ≤ 9223372036854775807 then ((shunterref03_Sum.f k ((t112 ++ t114) ++ t113)).bind fun t126 => (if t125 = t126 then ((crc_State_Sum.f t115).bind fun t127 => ((crc_Of.f k (([t112] : List ByteArray))).bind fun t131 => (if t127 = t131 then ((crc_Of.f k (([t112, t113, t114] : List ByteArray))).bind fun t135 => ((crc_State_Sum.f t118).bind fun t136 => (some (t135 == t136)))) else (some false)))) else (some false))) else (none)) else (none))) else (some false))) else (none)) else (none))))))) = some r := H
    have A9 := Aside0.mk A90
    clear A90
    replace H := Option.bind_eq_some_iff.mp H
    obtain ⟨t117, A100, H⟩ := H
    replace H : ((crc_State_Add.f t117 t114).bind fun t118 => ((crc_State_Add.f t115 t114).bind fun t120 => ((crc_State_Add.f t120 t113).bind fun t121 => ((crc_State_Sum.f t118).bind fun t123 => (if t112.size + t113.size ≤ 9223372036854775807 then (if (t112 ++ t113).size + t114.size ≤ 9223372036854775807 then ((shunterref03_Sum.f k ((t112 ++ t113) ++ t114)).bind fun t124 => (if t123 = t124 then ((crc_State_Sum.f t121).bind fun t125 => (if t112.size + t114.size ≤ 9223372036854775807 then (if (t112 ++ t114).size + t113.size ≤ 9223372036854775807 then ((shunterref03_Sum.f k ((t112 ++ t114) ++ t113)).bind fun t126 => (if t125 = t126 then ((crc_State_Sum.f t115).bind fun t127 => ((crc_Of.f k (([t112] : List ByteArray))).bind fun t131 => (if t127 = t131 then ((crc_Of.f k (([t112, t113, t114] : List ByteArray))).bind fun t135 => ((crc_State_Sum.f t118).bind fun t136 => (some (t135 == t136)))) else (some false)))) else (some false))) else (none)) else (none))) else (some false))) else (none)) else (none)))))) = some r := H
    have A10 := Aside0.mk A100
    clear A100
    replace H := Option.bind_eq_some_iff.mp H
    obtain ⟨t118, A110, H⟩ := H
    replace H : ((crc_State_Add.f t115 t114).bind fun t120 => ((crc_State_Add.f t120 t113).bind fun t121 => ((crc_State_Sum.f t118).bind fun t123 => (if t112.size + t113.size ≤ 9223372036854775807 then (if (t112 ++ t113).size + t114.size ≤ 9223372036854775807 then ((shunterref03_Sum.f k ((t112 ++ t113) ++ t114)).bind fun t124 => (if t123 = t124 then ((crc_State_Sum.f t121).bind fun t125 => (if t112.size + t114.size ≤ 9223372036854775807 then (if (t112 ++ t114).size + t113.size ≤ 9223372036854775807 then ((shunterref03_Sum.f k ((t112 ++ t114) ++ t113)).bind fun t126 => (if t125 = t126 then ((crc_State_Sum.f t115).bind fun t127 => ((crc_Of.f k (([t112] : List ByteArray))).bind fun t131 => (if t127 = t131 then ((crc_Of.f k (([t112, t113, t114] : List ByteArray))).bind fun t135 => ((crc_State_Sum.f t118).bind fun t136 => (some (t135 == t136)))) else (some false)))) else (some false))) else (none)) else (none))) else (some false))) else (none)) else (none))))) = some r := H
    have A11 := Aside0.mk A110
    clear A110
    replace H := Option.bind_eq_some_iff.mp H
    obtain ⟨t120, A120, H⟩ := H
    replace H : ((crc_State_Add.f t120 t113).bind fun t121 => ((crc_State_Sum.f t118).bind fun t123 => (if t112.size + t113.size ≤ 9223372036854775807 then (if (t112 ++ t113).size + t114.size ≤ 9223372036854775807 then ((shunterref03_Sum.f k ((t112 ++ t113) ++ t114)).bind fun t124 => (if t123 = t124 then ((crc_State_Sum.f t121).bind fun t125 => (if t112.size + t114.size ≤ 9223372036854775807 then (if (t112 ++ t114).size + t113.size ≤ 9223372036854775807 then ((shunterref03_Sum.f k ((t112 ++ t114) ++ t113)).bind fun t126 => (if t125 = t126 then ((crc_State_Sum.f t115).bind fun t127 => ((crc_Of.f k (([t112] : List ByteArray))).bind fun t131 => (if t127 = t131 then ((crc_Of.f k (([t112, t113, t114] : List ByteArray))).bind fun t135 => ((crc_State_Sum.f t118).bind fun t136 => (some (t135 == t136)))) else (some false)))) else (some false))) else (none)) else (none))) else (some false))) else (none)) else (none)))) = some r := H
    have A12 := Aside0.mk A120
    clear A120
    replace H := Option.bind_eq_some_iff.mp H
    obtain ⟨t121, A130, H⟩ := H
    replace H : ((crc_State_Sum.f t118).bind fun t123 => (if t112.size + t113.size ≤ 9223372036854775807 then (if (t112 ++ t113).size + t114.size ≤ 9223372036854775807 then ((shunterref03_Sum.f k ((t112 ++ t113) ++ t114)).bind fun t124 => (if t123 = t124 then ((crc_State_Sum.f t121).bind fun t125 => (if t112.size + t114.size ≤ 9223372036854775807 then (if (t112 ++ t114).size + t113.size ≤ 9223372036854775807 then ((shunterref03_Sum.f k ((t112 ++ t114) ++ t113)).bind fun t126 => (if t125 = t126 then ((crc_State_Sum.f t115).bind fun t127 => ((crc_Of.f k (([t112] : List ByteArray))).bind fun t131 => (if t127 = t131 then ((crc_Of.f k (([t112, t113, t114] : List ByteArray))).bind fun t135 => ((crc_State_Sum.f t118).bind fun t136 => (some (t135 == t136)))) else (some false)))) else (some false))) else (none)) else (none))) else (some false))) else (none)) else (none))) = some r := H
    have A13 := Aside0.mk A130
    clear A130
    replace H := Option.bind_eq_some_iff.mp H
    obtain ⟨t123, A140, H⟩ := H
    replace H : (if t112.size + t113.size ≤ 9223372036854775807 then (if (t112 ++ t113).size + t114.size ≤ 9223372036854775807 then ((shunterref03_Sum.f k ((t112 ++ t113) ++ t114)).bind fun t124 => (if t123 = t124 then ((crc_State_Sum.f t121).bind fun t125 => (if t112.size + t114.size ≤ 9223372036854775807 then (if (t112 ++ t114).size + t113.size ≤ 9223372036854775807 then ((shunterref03_Sum.f k ((t112 ++ t114) ++ t113)).bind fun t126 => (if t125 = t126 then ((crc_State_Sum.f t115).bind fun t127 => ((crc_Of.f k (([t112] : List ByteArray))).bind fun t131 => (if t127 = t131 then ((crc_Of.f k (([t112, t113, t114] : List ByteArray))).bind fun t135 => ((crc_State_Sum.f t118).bind fun t136 => (some (t135 == t136)))) else (some false)))) else (some false))) else (none)) else (none))) else (some false))) else (none)) else (none)) = some r := H
    have A14 := Aside0.mk A140
    clear A140
    by_cases c15 : t112.size + t113.size ≤ 9223372036854775807
    · rw [if_pos c15] at H
      have c15b0 := eq_true c15
      have c15b1 : decide (t112.size + t113.size ≤ 9223372036854775807) = true := decide_eq_true c15
      try have c15b2 : (9223372036854775807 < t112.size + t113.size) = False := eq_false (Nat.not_lt.2 c15)
      by_cases c16 : (t112 ++ t113).size + t114.size ≤ 9223372036854775807
      · rw [if_pos c16] at H
        have c16z : (9223372036854775807 < t112.size + t113.size + t114.size) = False := eq_false (by have z := c16; simp only [ByteArray.size_append] at z; omega)
        have c16b0 := eq_true c16
        have c16b1 : decide ((t112 ++ t113).size + t114.size ≤ 9223372036854775807) = true := decide_eq_true c16
        try have c16b2 : (9223372036854775807 < (t112 ++ t113).size + t114.size) = False := eq_false (Nat.not_lt.2 c16)
        replace H := Option.bind_eq_some_iff.mp H
        obtain ⟨t124, A170, H⟩ := H
        replace H : (if t123 = t124 then ((crc_State_Sum.f t121).bind fun t125 => (if t112.size + t114.size ≤ 9223372036854775807 then (if (t112 ++ t114).size + t113.size ≤ 9223372036854775807 then ((shunterref03_Sum.f k ((t112 ++ t114) ++ t113)).bind fun t126 => (if t125 = t126 then ((crc_State_Sum.f t115).bind fun t127 => ((crc_Of.f k (([t112] : List ByteArray))).bind fun t131 => (if t127 = t131 then ((crc_Of.f k (([t112, t113, t114] : List ByteArray))).bind fun t135 => ((crc_State_Sum.f t118).bind fun t136 => (some (t135 == t136)))) else (some false)))) else (some false))) else (none)) else (none))) else (some false)) = some r := H
        have A17 := Aside0.mk A170
        clear A170
        by_cases c18 : t123 = t124
        · rw [if_pos c18] at H
          have c18b0 : (t123 == t124) = true := beq_iff_eq.mpr c18
          have c18b1 : (t123 != t124) = false := bne_eq_false_iff_eq.mpr c18
          clear c18
          replace H := Option.bind_eq_some_iff.mp H
          obtain ⟨t125, A190, H⟩ := H
          replace H : (if t112.size + t114.size ≤ 9223372036854775807 then (if (t112 ++ t114).size + t113.size ≤ 9223372036854775807 then ((shunterref03_Sum.f k ((t112 ++ t114) ++ t113)).bind fun t126 => (if t125 = t126 then ((crc_State_Sum.f t115).bind fun t127 => ((crc_Of.f k (([t112] : List ByteArray))).bind fun t131 => (if t127 = t131 then ((crc_Of.f k (([t112, t113, t114] : List ByteArray))).bind fun t135 => ((crc_State_Sum.f t118).bind fun t136 => (some (t135 == t136)))) else (some false)))) else (some false))) else (none)) else (none)) = some r := H
          have A19 := Aside0.mk A190
          clear A190
          by_cases c20 : t112.size + t114.size ≤ 9223372036854775807
          · rw [if_pos c20] at H
            have c20b0 := eq_true c20
            have c20b1 : decide (t112.size + t114.size ≤ 9223372036854775807) = true := decide_eq_true c20
            try have c20b2 : (9223372036854775807 < t112.size + t114.size) = False := eq_false (Nat.not_lt.2 c20)
            by_cases c21 : (t112 ++ t114).size + t113.size ≤ 9223372036854775807
            · rw [if_pos c21] at H
              have c21z : (9223372036854775807 < t112.size + t114.size + t113.size) = False := eq_false (by have z := c21; simp only [ByteArray.size_append] at z; omega)
              have c21b0 := eq_true c21
              have c21b1 : decide ((t112 ++ t114).size + t113.size ≤ 9223372036854775807) = true := decide_eq_true c21
              try have c21b2 : (9223372036854775807 < (t112 ++ t114).size + t113.size) = False := eq_false (Nat.not_lt.2 c21)
              replace H := Option.bind_eq_some_iff.mp H
              obtain ⟨t126, A220, H⟩ := H
              replace H : (if t125 = t126 then ((crc_State_Sum.f t115).bind fun t127 => ((crc_Of.f k (([t112] : List ByteArray))).bind fun t131 => (if t127 = t131 then ((crc_Of.f k (([t112, t113, t114] : List ByteArray))).bind fun t135 => ((crc_State_Sum.f t118).bind fun t136 => (some (t135 == t136)))) else (some false)))) else (some false)) = some r := H
              have A22 := Aside0.mk A220
              clear A220
              by_cases c23 : t125 = t126
              · rw [if_pos c23] at H
                have c23b0 : (t125 == t126) = true := beq_iff_eq.mpr c23
                have c23b1 : (t125 != t126) = false := bne_eq_false_iff_eq.mpr c23
                clear c23
                replace H := Option.bind_eq_some_iff.mp H
                obtain ⟨t127, A240, H⟩ := H
                replace H : ((crc_Of.f k (([t112] : List ByteArray))).bind fun t131 => (if t127 = t131 then ((crc_Of.f k (([t112, t113, t114] : List ByteArray))).bind fun t135 => ((crc_State_Sum.f t118).bind fun t136 => (some (t135 == t136)))) else (some false))) = some r := H
                have A24 := Aside0.mk A240
                clear A240
                obtain ⟨y128, hy128⟩ : ∃ y_ : List ByteArray, y_ = (([t112] : List ByteArray)) := ⟨_, rfl⟩
                replace H : ((crc_Of.f k y128).bind fun t131 => (if t127 = t131 then ((crc_Of.f k (([t112, t113, t114] : List ByteArray))).bind fun t135 => ((crc_State_Sum.f t118).bind fun t136 => (some (t135 == t136)))) else (some false))) = some r := by first | (rw [hy128]; with_reducible exact H) | (have H2_ := (Option.bind_some _ _).symm.trans H; rw [hy128]; with_reducible exact H2_) | (have H2_ := (Option.bind_some _ _).symm.trans H; with_reducible exact H2_) | with_reducible exact H | (rw [hy128]; exact H) | exact H
                have Ny128 := Aside0.mk hy128
                clear hy128
                replace H := Option.bind_eq_some_iff.mp H
                obtain ⟨t131, A250, H⟩ := H
                replace H : (if t127 = t131 then ((crc_Of.f k (([t112, t113, t114] : List ByteArray))).bind fun t135 => ((crc_State_Sum.f t118).bind fun t136 => (some (t135 == t136)))) else (some false)) = some r := H
                have A25 := Aside0.mk A250
                clear A250
                by_cases c26 : t127 = t131
                · rw [if_pos c26] at H
                  have c26b0 : (t127 == t131) = true := beq_iff_eq.mpr c26
                  have c26b1 : (t127 != t131) = false := bne_eq_false_iff_eq.mpr c26
                  clear c26
                  obtain ⟨y132, hy132⟩ : ∃ y_ : List ByteArray, y_ = (([t112, t113, t114] : List ByteArray)) := ⟨_, rfl⟩
                  replace H : ((crc_Of.f k y132).bind fun t135 => ((crc_State_Sum.f t118).bind fun t136 => (some (t135 == t136)))) = some r := by first | (rw [hy132]; with_reducible exact H) | (have H2_ := (Option.bind_some _ _).symm.trans H; rw [hy132]; with_reducible exact H2_) | (have H2_ := (Option.bind_some _ _).symm.trans H; with_reducible exact H2_) | with_reducible exact H | (rw [hy132]; exact H) | exact H
                  have Ny132 := Aside0.mk hy132
                  clear hy132
                  replace H := Option.bind_eq_some_iff.mp H
                  obtain ⟨t135, A270, H⟩ := H
                  replace H : ((crc_State_Sum.f t118).bind fun t136 => (some (t135 == t136))) = some r := H
                  have A27 := Aside0.mk A270
                  clear A270
                  replace H := Option.bind_eq_some_iff.mp H
                  obtain ⟨t136, A280, H⟩ := H
                  replace H : (some (t135 == t136)) = some r := H
                  have A28 := Aside0.mk A280
                  clear A280
                  obtain rfl := Option.some.inj H
                  go_enter Try.func12, Try.ntmps12
                  try go_wp2_with (first | ((with_reducible refine gate_callee (f := 34) rfl ?_); refine goesL_ (some 10) rfl rfl Try.func34 (by kernel_rfl) rfl #[] rfl (by (try simp only [List.map_toArray, List.map_cons, List.map_nil]); first | done | rfl | (simp only [List.length_drop, List.length_take]; rfl)) ?_; (with_reducible refine (shunterlaw03_awake.calls k  true _ A4.out).mono ?_); rintro e w29 ⟨rfl, hb⟩; refine ⟨_, rfl, ?_⟩; have n0_ := Aside0.mk (below_step (by repeat (first | (with_reducible first | exact HB.out | apply below_alloc | apply pw_below_drewN | apply below_drew1) | exact HB.out)) hb); clear HB; have HB := n0_; clear n0_; (try clear hb); (try clear hb2); (try clear hk); (try clear hi)) | ((with_reducible refine gate_callee (f := 24) rfl ?_); refine goesL_ (some 13) rfl rfl Try.func24 (by kernel_rfl) rfl #[.string a0, .int .i64 40] rfl (by (try simp only [List.map_toArray, List.map_cons, List.map_nil]); first | done | rfl | (simp only [List.length_drop, List.length_take]; rfl)) ?_; (with_reducible refine (shunterlaw01_Cut.calls a0 40 t112 _ A6.out).mono ?_); rintro e w' ⟨rfl, ⟨nd, rfl⟩⟩; refine ⟨_, rfl, ?_⟩; (try (rw [drewN_self w29]; generalize hq_ : World.drewN w29 _ = w29; have n0_ : Aside0 (Below w.heap.size w w29) := ⟨by rw [← hq_]; exact (by repeat (first | (with_reducible first | exact HB.out | apply below_alloc | apply pw_below_drewN | apply below_drew1) | exact HB.out))⟩; clear HB hq_; have HB := n0_; clear n0_))) | ((with_reducible refine gate_callee (f := 24) rfl ?_); refine goesL_ (some 15) rfl rfl Try.func24 (by kernel_rfl) rfl #[.string a1, .int .i64 40] rfl (by (try simp only [List.map_toArray, List.map_cons, List.map_nil]); first | done | rfl | (simp only [List.length_drop, List.length_take]; rfl)) ?_; (with_reducible refine (shunterlaw01_Cut.calls a1 40 t113 _ A7.out).mono ?_); rintro e w' ⟨rfl, ⟨nd, rfl⟩⟩; refine ⟨_, rfl, ?_⟩; (try (rw [drewN_self w29]; generalize hq_ : World.drewN w29 _ = w29; have n0_ : Aside0 (Below w.heap.size w w29) := ⟨by rw [← hq_]; exact (by repeat (first | (with_reducible first | exact HB.out | apply below_alloc | apply pw_below_drewN | apply below_drew1) | exact HB.out))⟩; clear HB hq_; have HB := n0_; clear n0_))) | ((with_reducible refine gate_callee (f := 24) rfl ?_); refine goesL_ (some 17) rfl rfl Try.func24 (by kernel_rfl) rfl #[.string a2, .int .i64 40] rfl (by (try simp only [List.map_toArray, List.map_cons, List.map_nil]); first | done | rfl | (simp only [List.length_drop, List.length_take]; rfl)) ?_; (with_reducible refine (shunterlaw01_Cut.calls a2 40 t114 _ A8.out).mono ?_); rintro e w' ⟨rfl, ⟨nd, rfl⟩⟩; refine ⟨_, rfl, ?_⟩; (try (rw [drewN_self w29]; generalize hq_ : World.drewN w29 _ = w29; have n0_ : Aside0 (Below w.heap.size w w29) := ⟨by rw [← hq_]; exact (by repeat (first | (with_reducible first | exact HB.out | apply below_alloc | apply pw_below_drewN | apply below_drew1) | exact HB.out))⟩; clear HB hq_; have HB := n0_; clear n0_))) | ((with_reducible refine gate_callee (f := 35) rfl ?_); refine goesL_ (some 20) rfl rfl Try.func35 (by kernel_rfl) rfl #[.agg #[.int .u32 0], .string t112] rfl (by (try simp only [List.map_toArray, List.map_cons, List.map_nil]); first | done | rfl | (simp only [List.length_drop, List.length_take]; rfl)) ?_; (with_reducible refine (crc_State_Add.calls 0 t112 t115 _ A9.out).mono ?_); rintro e w30 ⟨rfl, hb⟩; refine ⟨_, rfl, ?_⟩; have n0_ := Aside0.mk (below_step (by repeat (first | (with_reducible first | exact HB.out | apply below_alloc | apply pw_below_drewN | apply below_drew1) | exact HB.out)) hb); clear HB; have HB := n0_; clear n0_; (try clear hb); (try clear hb2); (try clear hk); (try clear hi)) | ((with_reducible refine gate_dst (N := 7) rfl ?_); (try (refine gate_guard (by rfl) ?_; dsimp only)); refine box_event ?hg (N := 7) ?hd (cs := #[.int .u32 0]) (t := 60) ?hr ?_; (case hd => rfl); (case hg => rfl); (case hr => first | (go_simp; done) | (go_simp; rfl)); intro gb116 hg w31 hbox hb; have n0_ := Aside0.mk (below_step (by repeat (first | (with_reducible first | exact HB.out | apply below_alloc | apply pw_below_drewN | apply below_drew1) | exact HB.out)) hb); have n1_ := Aside0.mk (hbox); have n2_ := Aside0.mk ((by rw [hg]; exact (below_size (by repeat (first | (with_reducible first | exact HB.out | apply below_alloc | apply pw_below_drewN | apply below_drew1) | exact HB.out))) : w.heap.size ≤ gb116)); have n3_ := Aside0.mk ((by rw [hg]; exact (below_size (by repeat (first | (with_reducible first | exact HB.out | apply below_alloc | apply pw_below_drewN | apply below_drew1) | exact HB.out))) : w.heap.size ≤ gb116)); clear HB; have HB := n0_; have BK116 := n1_; have GW116 := n2_; have GE116 := n3_; clear n0_ n1_ n2_ n3_; clear hb hbox hg; have hcz32_0 : w31.cell? ⟨gb116, 0, none⟩ = some (.int .u32 0) := (blk_cell BK116.out 0).trans rfl; have hfz32_0 := blk_frozen BK116.out 0) | ((with_reducible refine gate_callee (f := 35) rfl ?_); refine goesL_ (some 23) rfl rfl Try.func35 (by kernel_rfl) rfl #[.agg #[.int .u32 t115], .string t113] rfl (by (try simp only [List.map_toArray, List.map_cons, List.map_nil]); first | done | rfl | (simp only [List.length_drop, List.length_take]; rfl)) ?_; (with_reducible refine (crc_State_Add.calls t115 t113 t117 _ A10.out).mono ?_); rintro e w33 ⟨rfl, hb⟩; refine ⟨_, rfl, ?_⟩; have n0_ := Aside0.mk (blk_below (g := gb116) (o := .cells #[.int .u32 t115] 60 (0, 0)) (by (with_reducible repeat (first | refine blk_drewN ?_ _ | refine blk_drew ?_ | refine blk_alloc ?_ _)); refine blk_put (cs := #[.int .u32 0]) ?_ 0 _ rfl; (with_reducible repeat (first | refine blk_drewN ?_ _ | refine blk_drew ?_ | refine blk_alloc ?_ _)); exact BK116.out) hb); have n1_ := Aside0.mk (below_step (by repeat (first | (with_reducible first | exact HB.out | apply below_alloc | apply pw_below_drewN | apply below_drew1 | refine below_set ?_ GE116.out) | exact HB.out)) hb); clear BK116; clear HB; have BK116 := n0_; have HB := n1_; clear n0_ n1_; (try clear hb); (try clear hb2); (try clear hk); (try clear hi)) | ((with_reducible refine gate_callee (f := 35) rfl ?_); refine goesL_ (some 25) rfl rfl Try.func35 (by kernel_rfl) rfl #[.agg #[.int .u32 t117], .string t114] rfl (by (try simp only [List.map_toArray, List.map_cons, List.map_nil]); first | done | rfl | (simp only [List.length_drop, List.length_take]; rfl)) ?_; (with_reducible refine (crc_State_Add.calls t117 t114 t118 _ A11.out).mono ?_); rintro e w34 ⟨rfl, hb⟩; refine ⟨_, rfl, ?_⟩; have n0_ := Aside0.mk (blk_below (g := gb116) (o := .cells #[.int .u32 t115] 60 (0, 0)) (by (with_reducible repeat (first | refine blk_drewN ?_ _ | refine blk_drew ?_ | refine blk_alloc ?_ _)); exact BK116.out) hb); have n1_ := Aside0.mk (below_step (by repeat (first | (with_reducible first | exact HB.out | apply below_alloc | apply pw_below_drewN | apply below_drew1 | refine below_set ?_ GE116.out) | exact HB.out)) hb); clear BK116; clear HB; have BK116 := n0_; have HB := n1_; clear n0_ n1_; (try clear hb); (try clear hb2); (try clear hk); (try clear hi)) | ((with_reducible refine gate_dst (N := 8) rfl ?_); (try (refine gate_guard (by rfl) ?_; dsimp only)); refine box_event ?hg (N := 8) ?hd (cs := #[.int .u32 0]) (t := 60) ?hr ?_; (case hd => rfl); (case hg => rfl); (case hr => first | (go_simp; done) | (go_simp; rfl)); intro gb119 hg w35 hbox hb; have n0_ := Aside0.mk (blk_below (g := gb116) (o := .cells #[.int .u32 t115] 60 (0, 0)) (by (with_reducible repeat (first | refine blk_drewN ?_ _ | refine blk_drew ?_ | refine blk_alloc ?_ _)); exact BK116.out) hb); have n1_ := Aside0.mk (below_step (by repeat (first | (with_reducible first | exact HB.out | apply below_alloc | apply pw_below_drewN | apply below_drew1 | refine below_set ?_ GE116.out) | exact HB.out)) hb); have n2_ := Aside0.mk (hbox); have n3_ := Aside0.mk ((by rw [hg]; exact (below_size (by repeat (first | (with_reducible first | exact HB.out | apply below_alloc | apply pw_below_drewN | apply below_drew1 | refine below_set ?_ GE116.out) | exact HB.out))) : w.heap.size ≤ gb119)); have n4_ := Aside0.mk ((by rw [hg]; exact (below_size (by repeat (first | (with_reducible first | exact HB.out | apply below_alloc | apply pw_below_drewN | apply below_drew1 | refine below_set ?_ GE116.out) | exact HB.out))) : w.heap.size ≤ gb119)); have n5_ := Aside0.mk ((by rw [hg]; exact Nat.ne_of_lt (blk_lt (g := gb116) (o := .cells #[.int .u32 t115] 60 (0, 0)) (by (with_reducible repeat (first | refine blk_drewN ?_ _ | refine blk_drew ?_ | refine blk_alloc ?_ _)); exact BK116.out)) : gb116 ≠ gb119)); have n6_ := Aside0.mk ((by rw [hg]; exact Nat.ne_of_gt (blk_lt (g := gb116) (o := .cells #[.int .u32 t115] 60 (0, 0)) (by (with_reducible repeat (first | refine blk_drewN ?_ _ | refine blk_drew ?_ | refine blk_alloc ?_ _)); exact BK116.out)) : gb119 ≠ gb116)); clear BK116; clear HB; have BK116 := n0_; have HB := n1_; have BK119 := n2_; have GW119 := n3_; have GE119 := n4_; have NB116_119 := n5_; have NB119_116 := n6_; clear n0_ n1_ n2_ n3_ n4_ n5_ n6_; clear hb hbox hg; have hnb36 := NB119_116.out; have hnc36 := NB116_119.out; have hcz37_0 : w35.cell? ⟨gb119, 0, none⟩ = some (.int .u32 0) := (blk_cell BK119.out 0).trans rfl; have hfz37_0 := blk_frozen BK119.out 0; have hcz38_0 : w35.cell? ⟨gb116, 0, none⟩ = some (.int .u32 t115) := (blk_cell BK116.out 0).trans rfl; have hfz38_0 := blk_frozen BK116.out 0) | ((with_reducible refine gate_callee (f := 35) rfl ?_); refine goesL_ (some 28) rfl rfl Try.func35 (by kernel_rfl) rfl #[.agg #[.int .u32 t115], .string t114] rfl (by (try simp only [List.map_toArray, List.map_cons, List.map_nil]); first | done | rfl | (simp only [List.length_drop, List.length_take]; rfl)) ?_; (with_reducible refine (crc_State_Add.calls t115 t114 t120 _ A12.out).mono ?_); rintro e w39 ⟨rfl, hb⟩; refine ⟨_, rfl, ?_⟩; have n0_ := Aside0.mk (blk_below (g := gb116) (o := .cells #[.int .u32 t115] 60 (0, 0)) (by (with_reducible repeat (first | refine blk_drewN ?_ _ | refine blk_drew ?_ | refine blk_alloc ?_ _)); refine blk_far ?_ NB116_119.out _; (with_reducible repeat (first | refine blk_drewN ?_ _ | refine blk_drew ?_ | refine blk_alloc ?_ _)); exact BK116.out) hb); have n1_ := Aside0.mk (blk_below (g := gb119) (o := .cells #[.int .u32 t118] 60 (0, 0)) (by (with_reducible repeat (first | refine blk_drewN ?_ _ | refine blk_drew ?_ | refine blk_alloc ?_ _)); refine blk_put (cs := #[.int .u32 0]) ?_ 0 _ rfl; (with_reducible repeat (first | refine blk_drewN ?_ _ | refine blk_drew ?_ | refine blk_alloc ?_ _)); exact BK119.out) hb); have n2_ := Aside0.mk (below_step (by repeat (first | (with_reducible first | exact HB.out | apply below_alloc | apply pw_below_drewN | apply below_drew1 | refine below_set ?_ GE116.out | refine below_set ?_ GE119.out) | exact HB.out)) hb); clear BK116; clear BK119; clear HB; have BK116 := n0_; have BK119 := n1_; have HB := n2_; clear n0_ n1_ n2_; (try clear hb); (try clear hb2); (try clear hk); (try clear hi)) | ((with_reducible refine gate_callee (f := 35) rfl ?_); refine goesL_ (some 30) rfl rfl Try.func35 (by kernel_rfl) rfl #[.agg #[.int .u32 t120], .string t113] rfl (by (try simp only [List.map_toArray, List.map_cons, List.map_nil]); first | done | rfl | (simp only [List.length_drop, List.length_take]; rfl)) ?_; (with_reducible refine (crc_State_Add.calls t120 t113 t121 _ A13.out).mono ?_); rintro e w40 ⟨rfl, hb⟩; refine ⟨_, rfl, ?_⟩; have n0_ := Aside0.mk (blk_below (g := gb116) (o := .cells #[.int .u32 t115] 60 (0, 0)) (by (with_reducible repeat (first | refine blk_drewN ?_ _ | refine blk_drew ?_ | refine blk_alloc ?_ _)); exact BK116.out) hb); have n1_ := Aside0.mk (blk_below (g := gb119) (o := .cells #[.int .u32 t118] 60 (0, 0)) (by (with_reducible repeat (first | refine blk_drewN ?_ _ | refine blk_drew ?_ | refine blk_alloc ?_ _)); exact BK119.out) hb); have n2_ := Aside0.mk (below_step (by repeat (first | (with_reducible first | exact HB.out | apply below_alloc | apply pw_below_drewN | apply below_drew1 | refine below_set ?_ GE116.out | refine below_set ?_ GE119.out) | exact HB.out)) hb); clear BK116; clear BK119; clear HB; have BK116 := n0_; have BK119 := n1_; have HB := n2_; clear n0_ n1_ n2_; (try clear hb); (try clear hb2); (try clear hk); (try clear hi)) | ((with_reducible refine gate_dst (N := 9) rfl ?_); (try (refine gate_guard (by rfl) ?_; dsimp only)); refine box_event ?hg (N := 9) ?hd (cs := #[.int .u32 0]) (t := 60) ?hr ?_; (case hd => rfl); (case hg => rfl); (case hr => first | (go_simp; done) | (go_simp; rfl)); intro gb122 hg w41 hbox hb; have n0_ := Aside0.mk (blk_below (g := gb116) (o := .cells #[.int .u32 t115] 60 (0, 0)) (by (with_reducible repeat (first | refine blk_drewN ?_ _ | refine blk_drew ?_ | refine blk_alloc ?_ _)); exact BK116.out) hb); have n1_ := Aside0.mk (blk_below (g := gb119) (o := .cells #[.int .u32 t118] 60 (0, 0)) (by (with_reducible repeat (first | refine blk_drewN ?_ _ | refine blk_drew ?_ | refine blk_alloc ?_ _)); exact BK119.out) hb); have n2_ := Aside0.mk (below_step (by repeat (first | (with_reducible first | exact HB.out | apply below_alloc | apply pw_below_drewN | apply below_drew1 | refine below_set ?_ GE116.out | refine below_set ?_ GE119.out) | exact HB.out)) hb); have n3_ := Aside0.mk (hbox); have n4_ := Aside0.mk ((by rw [hg]; exact (below_size (by repeat (first | (with_reducible first | exact HB.out | apply below_alloc | apply pw_below_drewN | apply below_drew1 | refine below_set ?_ GE116.out | refine below_set ?_ GE119.out) | exact HB.out))) : w.heap.size ≤ gb122)); have n5_ := Aside0.mk ((by rw [hg]; exact (below_size (by repeat (first | (with_reducible first | exact HB.out | apply below_alloc | apply pw_below_drewN | apply below_drew1 | refine below_set ?_ GE116.out | refine below_set ?_ GE119.out) | exact HB.out))) : w.heap.size ≤ gb122)); have n6_ := Aside0.mk ((by rw [hg]; exact Nat.ne_of_lt (blk_lt (g := gb116) (o := .cells #[.int .u32 t115] 60 (0, 0)) (by (with_reducible repeat (first | refine blk_drewN ?_ _ | refine blk_drew ?_ | refine blk_alloc ?_ _)); exact BK116.out)) : gb116 ≠ gb122)); have n7_ := Aside0.mk ((by rw [hg]; exact Nat.ne_of_gt (blk_lt (g := gb116) (o := .cells #[.int .u32 t115] 60 (0, 0)) (by (with_reducible repeat (first | refine blk_drewN ?_ _ | refine blk_drew ?_ | refine blk_alloc ?_ _)); exact BK116.out)) : gb122 ≠ gb116)); have n8_ := Aside0.mk ((by rw [hg]; exact Nat.ne_of_lt (blk_lt (g := gb119) (o := .cells #[.int .u32 t118] 60 (0, 0)) (by (with_reducible repeat (first | refine blk_drewN ?_ _ | refine blk_drew ?_ | refine blk_alloc ?_ _)); exact BK119.out)) : gb119 ≠ gb122)); have n9_ := Aside0.mk ((by rw [hg]; exact Nat.ne_of_gt (blk_lt (g := gb119) (o := .cells #[.int .u32 t118] 60 (0, 0)) (by (with_reducible repeat (first | refine blk_drewN ?_ _ | refine blk_drew ?_ | refine blk_alloc ?_ _)); exact BK119.out)) : gb122 ≠ gb119)); clear BK116; clear BK119; clear HB; have BK116 := n0_; have BK119 := n1_; have HB := n2_; have BK122 := n3_; have GW122 := n4_; have GE122 := n5_; have NB116_122 := n6_; have NB122_116 := n7_; have NB119_122 := n8_; have NB122_119 := n9_; clear n0_ n1_ n2_ n3_ n4_ n5_ n6_ n7_ n8_ n9_; clear hb hbox hg; have hnb42 := NB122_116.out; have hnc42 := NB116_122.out; have hnb43 := NB122_119.out; have hnc43 := NB119_122.out; have hcz44_0 : w41.cell? ⟨gb122, 0, none⟩ = some (.int .u32 0) := (blk_cell BK122.out 0).trans rfl; have hfz44_0 := blk_frozen BK122.out 0))
                  have n0_ : Aside0 ((w41.setCell ⟨gb122, 0, none⟩ (.int .u32 t121)).heap[gb116]? = some (.cells #[.int .u32 t115] 60 (0, 0))) := ⟨by (with_reducible repeat (first | refine blk_drewN ?_ _ | refine blk_drew ?_ | refine blk_alloc ?_ _)); refine blk_far ?_ NB116_122.out _; (with_reducible repeat (first | refine blk_drewN ?_ _ | refine blk_drew ?_ | refine blk_alloc ?_ _)); exact BK116.out⟩
                  have n1_ : Aside0 ((w41.setCell ⟨gb122, 0, none⟩ (.int .u32 t121)).heap[gb119]? = some (.cells #[.int .u32 t118] 60 (0, 0))) := ⟨by (with_reducible repeat (first | refine blk_drewN ?_ _ | refine blk_drew ?_ | refine blk_alloc ?_ _)); refine blk_far ?_ NB119_122.out _; (with_reducible repeat (first | refine blk_drewN ?_ _ | refine blk_drew ?_ | refine blk_alloc ?_ _)); exact BK119.out⟩
                  have n2_ : Aside0 ((w41.setCell ⟨gb122, 0, none⟩ (.int .u32 t121)).heap[gb122]? = some (.cells #[.int .u32 t121] 60 (0, 0))) := ⟨by (with_reducible repeat (first | refine blk_drewN ?_ _ | refine blk_drew ?_ | refine blk_alloc ?_ _)); refine blk_put (cs := #[.int .u32 0]) ?_ 0 _ rfl; (with_reducible repeat (first | refine blk_drewN ?_ _ | refine blk_drew ?_ | refine blk_alloc ?_ _)); exact BK122.out⟩
                  have n3_ : Aside0 (Below w.heap.size w (w41.setCell ⟨gb122, 0, none⟩ (.int .u32 t121))) := ⟨by repeat (first | (with_reducible first | exact HB.out | apply below_alloc | apply pw_below_drewN | apply below_drew1 | refine below_set ?_ GE116.out | refine below_set ?_ GE119.out | refine below_set ?_ GE122.out) | exact HB.out)⟩
                  (try clear BK116)
                  (try clear BK119)
                  (try clear BK122)
                  (try clear HB)
                  generalize (w41.setCell ⟨gb122, 0, none⟩ (.int .u32 t121)) = w45 at n0_ n1_ n2_ n3_ ⊢
                  have BK116 := n0_
                  have BK119 := n1_
                  have BK122 := n2_
                  have HB := n3_
                  clear n0_ n1_ n2_ n3_
                  have n0_ := Aside0.mk (blk_drew BK116.out)
                  have n1_ := Aside0.mk (blk_drew BK119.out)
                  have n2_ := Aside0.mk (blk_drew BK122.out)
                  have n3_ := Aside0.mk (below_drew1 HB.out)
                  clear BK116
                  clear BK119
                  clear BK122
                  clear HB
                  have BK116 := n0_
                  have BK119 := n1_
                  have BK122 := n2_
                  have HB := n3_
                  clear n0_ n1_ n2_ n3_
                  refine start_ (n := 39) (S := fun w' => w'.cell? ⟨gb119, 0, none⟩ = some (.int .u32 t118) ∧ w'.cell? ⟨gb122, 0, none⟩ = some (.int .u32 t121) ∧ w'.cell? ⟨gb116, 0, none⟩ = some (.int .u32 t115)) (ds := []) #[false, false, false, false, false, false, false, false, false, false, false, false, false, false, false, false, false, false, false, false, false, false, false, false, false, false, false, false, false, false, false, false, false, false, false, false, false, false, false] (by kernel_rfl) rfl rfl ⟨(blk_cell BK119.out 0).trans rfl, (blk_cell BK122.out 0).trans rfl, (blk_cell BK116.out 0).trans rfl⟩ (fun hHeld => ?_); refine with_tabW shunterlaw03_CrcOrder.tab7 shunterlaw03_CrcOrder.bits7 (fun HT_ HW_ => ?_)
                  generalize w45.drew = w46 at BK116 BK119 BK122 HB hHeld ⊢
                  refine pure_ (i := 2) (N := some 33) (v := ?_) (a' := ?_) #[false, false, true, false, false, false, false, false, false, false, false, false, false, false, false, false, false, false, false, false, false, false, false, false, false, false, false, false, false, false, false, false, false, false, false, false, false, false, false] rfl rfl (any_of HT_.out (by kernel_rfl)) (fun _ _ _ h => h) (Or.inl ⟨by rfl, ?_⟩) ?_ ?_
                  rotate_left
                  · intro w'
                    go_simp
                    with_reducible rfl
                  rotate_left
                  · simp only [Act.put, List.setIfInBounds_toArray, List.set_cons_zero, List.set_cons_succ, i64_w, i32_w]
                    rfl
                  refine pure_ (i := 3) (N := some 34) (v := ?_) (a' := ?_) #[false, false, true, true, false, false, false, false, false, false, false, false, false, false, false, false, false, false, false, false, false, false, false, false, false, false, false, false, false, false, false, false, false, false, false, false, false, false, false] rfl rfl (any_of HT_.out (by kernel_rfl)) (fun _ _ _ h => h) (Or.inl ⟨by rfl, ?_⟩) ?_ ?_
                  rotate_left
                  · intro w'
                    go_simp
                    with_reducible rfl
                  rotate_left
                  · simp only [Act.put, List.setIfInBounds_toArray, List.set_cons_zero, List.set_cons_succ, i64_w, i32_w]
                    rfl
                  refine pure_ (i := 4) (N := some 35) (v := ?_) (a' := ?_) #[false, false, true, true, true, false, false, false, false, false, false, false, false, false, false, false, false, false, false, false, false, false, false, false, false, false, false, false, false, false, false, false, false, false, false, false, false, false, false] rfl rfl (any_of HT_.out (by kernel_rfl)) (fun _ _ _ h => h) (Or.inl ⟨by rfl, ?_⟩) ?_ ?_
                  rotate_left
                  · intro w'
                    go_simp
                    with_reducible rfl
                  rotate_left
                  · simp only [Act.put, List.setIfInBounds_toArray, List.set_cons_zero, List.set_cons_succ, i64_w, i32_w]
                    rfl
                  refine pure_ (i := 5) (N := some 36) (v := ?_) (a' := ?_) #[false, false, true, true, true, true, false, false, false, false, false, false, false, false, false, false, false, false, false, false, false, false, false, false, false, false, false, false, false, false, false, false, false, false, false, false, false, false, false] rfl rfl (any_of HT_.out (by kernel_rfl)) (fun _ _ _ h => h) (Or.inl ⟨by rfl, ?_⟩) ?_ ?_
                  rotate_left
                  · intro w'
                    go_simp
                    with_reducible rfl
                  rotate_left
                  · simp only [Act.put, List.setIfInBounds_toArray, List.set_cons_zero, List.set_cons_succ, i64_w, i32_w]
                    rfl
                  refine pure_ (i := 6) (N := some 37) (v := ?_) (a' := ?_) #[false, false, true, true, true, true, true, false, false, false, false, false, false, false, false, false, false, false, false, false, false, false, false, false, false, false, false, false, false, false, false, false, false, false, false, false, false, false, false] rfl rfl (any_of HT_.out (by kernel_rfl)) (fun _ _ _ h => h) (Or.inl ⟨by rfl, ?_⟩) ?_ ?_
                  rotate_left
                  · intro w'
                    go_simp
                    with_reducible rfl
                  rotate_left
                  · simp only [Act.put, List.setIfInBounds_toArray, List.set_cons_zero, List.set_cons_succ, i64_w, i32_w]
                    rfl
                  refine take_ (i := 0) (N := some 31) (v := ?_) (a' := ?_) #[true, false, true, true, true, true, true, false, false, false, false, false, false, false, false, false, false, false, false, false, false, false, false, false, false, false, false, false, false, false, false, false, false, false, false, false, false, false, false] rfl rfl (take_ofW HT_.out HW_.out (by kernel_rfl)) (fun _ _ _ h => h) (Or.inl ⟨by rfl, ?_⟩) hHeld ?_ ?_
                  rotate_left
                  · rintro w' ⟨s0, s1, s2⟩
                    go_simp
                    with_reducible rfl
                  rotate_left
                  · simp only [Act.put, List.setIfInBounds_toArray, List.set_cons_zero, List.set_cons_succ, i64_w, i32_w]
                    rfl
                  refine one_ (i := 1) (N := some 32) #[true, true, true, true, true, true, true, false, false, false, false, false, false, false, false, false, false, false, false, false, false, false, false, false, false, false, false, false, false, false, false, false, false, false, false, false, false, false, false] rfl rfl (one_of HT_.out (by kernel_rfl)) (by decide) (fun K hK => ?_)
                  refine goes_ Try.func38 (by kernel_rfl) rfl #[.agg #[.int .u32 t118]] (by rfl) rfl rfl (by (try simp only [List.map_toArray, List.map_cons, List.map_nil]); first | done | rfl | (simp only [List.length_drop, List.length_take]; rfl)) ?_
                  with_reducible refine (crc_State_Sum.calls t118 t123 _ A14.out).mono ?_
                  rintro e w47 ⟨rfl, hb⟩
                  refine ⟨_, rfl, ?_⟩
                  have n0_ := Aside0.mk (blk_below (g := gb116) (o := .cells #[.int .u32 t115] 60 (0, 0)) (by (with_reducible repeat (first | refine blk_drewN ?_ _ | refine blk_drew ?_ | refine blk_alloc ?_ _)); exact BK116.out) hb)
                  have n1_ := Aside0.mk (blk_below (g := gb119) (o := .cells #[.int .u32 t118] 60 (0, 0)) (by (with_reducible repeat (first | refine blk_drewN ?_ _ | refine blk_drew ?_ | refine blk_alloc ?_ _)); exact BK119.out) hb)
                  have n2_ := Aside0.mk (blk_below (g := gb122) (o := .cells #[.int .u32 t121] 60 (0, 0)) (by (with_reducible repeat (first | refine blk_drewN ?_ _ | refine blk_drew ?_ | refine blk_alloc ?_ _)); exact BK122.out) hb)
                  have n3_ := Aside0.mk (below_step (by repeat (first | (with_reducible first | exact HB.out | apply below_alloc | apply pw_below_drewN | apply below_drew1 | refine below_set ?_ GE116.out | refine below_set ?_ GE119.out | refine below_set ?_ GE122.out) | exact HB.out)) hb)
                  clear BK116
                  clear BK119
                  clear BK122
                  clear HB
                  have BK116 := n0_
                  have BK119 := n1_
                  have BK122 := n2_
                  have HB := n3_
                  clear n0_ n1_ n2_ n3_
                  (try clear hb)
                  (try clear hb2)
                  (try clear hk)
                  (try clear hi)
                  refine hK.out _ _ ⟨(blk_cell BK119.out 0).trans rfl, (blk_cell BK122.out 0).trans rfl, (blk_cell BK116.out 0).trans rfl⟩ (fun hHeld => ?_)
                  clear hK K
                  refine norm_ (a' := ?_) ?_ ?_
                  rotate_left
                  · show Act.put _ (some 32) _ = _
                    simp only [Act.put, List.setIfInBounds_toArray, List.set_cons_zero, List.set_cons_succ, i64_w, i32_w]
                    rfl
                  refine one_ (i := 7) (N := some 38) #[true, true, true, true, true, true, true, true, false, false, false, false, false, false, false, false, false, false, false, false, false, false, false, false, false, false, false, false, false, false, false, false, false, false, false, false, false, false, false] rfl rfl (one_of HT_.out (by kernel_rfl)) (by decide) (fun K hK => ?_)
                  refine goes_ Try.func37 (by kernel_rfl) rfl #[.string ((t112 ++ t113) ++ t114)] (by rfl) rfl rfl (by (try simp only [List.map_toArray, List.map_cons, List.map_nil]); first | done | rfl | (simp only [List.length_drop, List.length_take]; rfl)) ?_
                  with_reducible refine (shunterref03_Sum.calls k ((t112 ++ t113) ++ t114) t124 _ A17.out).mono ?_
                  rintro e w' ⟨rfl, ⟨nd, rfl⟩⟩
                  refine ⟨_, rfl, ?_⟩
                  refine hK.out _ _ ⟨(blk_cell BK119.out 0).trans rfl, (blk_cell BK122.out 0).trans rfl, (blk_cell BK116.out 0).trans rfl⟩ (fun hHeld => ?_)
                  clear hK K
                  refine norm_ (a' := ?_) ?_ ?_
                  rotate_left
                  · show Act.put _ (some 38) _ = _
                    simp only [Act.put, List.setIfInBounds_toArray, List.set_cons_zero, List.set_cons_succ, i64_w, i32_w]
                    rfl
                  refine pure_ (i := 8) (N := some 39) (v := ?_) (a' := ?_) #[true, true, true, true, true, true, true, true, true, false, false, false, false, false, false, false, false, false, false, false, false, false, false, false, false, false, false, false, false, false, false, false, false, false, false, false, false, false, false] rfl rfl (any_of HT_.out (by kernel_rfl)) (fun _ _ _ h => h) (Or.inl ⟨by rfl, ?_⟩) ?_ ?_
                  rotate_left
                  · intro w'
                    go_simp
                    with_reducible rfl
                  rotate_left
                  · simp only [Act.put, List.setIfInBounds_toArray, List.set_cons_zero, List.set_cons_succ, i64_w, i32_w]
                    rfl
                  refine pure_ (i := 9) (N := some 40) (v := ?_) (a' := ?_) #[true, true, true, true, true, true, true, true, true, true, false, false, false, false, false, false, false, false, false, false, false, false, false, false, false, false, false, false, false, false, false, false, false, false, false, false, false, false, false] rfl rfl (any_of HT_.out (by kernel_rfl)) (fun _ _ _ h => h) (Or.inl ⟨by rfl, ?_⟩) ?_ ?_
                  rotate_left
                  · intro w'
                    go_simp
                    with_reducible rfl
                  rotate_left
                  · simp only [Act.put, List.setIfInBounds_toArray, List.set_cons_zero, List.set_cons_succ, i64_w, i32_w]
                    rfl
                  refine pure_ (i := 12) (N := some 43) (v := ?_) (a' := ?_) #[true, true, true, true, true, true, true, true, true, true, false, false, true, false, false, false, false, false, false, false, false, false, false, false, false, false, false, false, false, false, false, false, false, false, false, false, false, false, false] rfl rfl (any_of HT_.out (by kernel_rfl)) (fun _ _ _ h => h) (Or.inl ⟨by rfl, ?_⟩) ?_ ?_
                  rotate_left
                  · intro w'
                    go_simp
                    with_reducible rfl
                  rotate_left
                  · simp only [Act.put, List.setIfInBounds_toArray, List.set_cons_zero, List.set_cons_succ, i64_w, i32_w]
                    rfl
                  refine pure_ (i := 13) (N := some 44) (v := ?_) (a' := ?_) #[true, true, true, true, true, true, true, true, true, true, false, false, true, true, false, false, false, false, false, false, false, false, false, false, false, false, false, false, false, false, false, false, false, false, false, false, false, false, false] rfl rfl (any_of HT_.out (by kernel_rfl)) (fun _ _ _ h => h) (Or.inl ⟨by rfl, ?_⟩) ?_ ?_
                  rotate_left
                  · intro w'
                    go_simp
                    with_reducible rfl
                  rotate_left
                  · simp only [Act.put, List.setIfInBounds_toArray, List.set_cons_zero, List.set_cons_succ, i64_w, i32_w]
                    rfl
                  refine pure_ (i := 14) (N := some 45) (v := ?_) (a' := ?_) #[true, true, true, true, true, true, true, true, true, true, false, false, true, true, true, false, false, false, false, false, false, false, false, false, false, false, false, false, false, false, false, false, false, false, false, false, false, false, false] rfl rfl (any_of HT_.out (by kernel_rfl)) (fun _ _ _ h => h) (Or.inl ⟨by rfl, ?_⟩) ?_ ?_
                  rotate_left
                  · intro w'
                    go_simp
                    with_reducible rfl
                  rotate_left
                  · simp only [Act.put, List.setIfInBounds_toArray, List.set_cons_zero, List.set_cons_succ, i64_w, i32_w]
                    rfl
                  refine pure_ (i := 15) (N := some 46) (v := ?_) (a' := ?_) #[true, true, true, true, true, true, true, true, true, true, false, false, true, true, true, true, false, false, false, false, false, false, false, false, false, false, false, false, false, false, false, false, false, false, false, false, false, false, false] rfl rfl (any_of HT_.out (by kernel_rfl)) (fun _ _ _ h => h) (Or.inl ⟨by rfl, ?_⟩) ?_ ?_
                  rotate_left
                  · intro w'
                    go_simp
                    with_reducible rfl
                  rotate_left
                  · simp only [Act.put, List.setIfInBounds_toArray, List.set_cons_zero, List.set_cons_succ, i64_w, i32_w]
                    rfl
                  refine pure_ (i := 16) (N := some 47) (v := ?_) (a' := ?_) #[true, true, true, true, true, true, true, true, true, true, false, false, true, true, true, true, true, false, false, false, false, false, false, false, false, false, false, false, false, false, false, false, false, false, false, false, false, false, false] rfl rfl (any_of HT_.out (by kernel_rfl)) (fun _ _ _ h => h) (Or.inl ⟨by rfl, ?_⟩) ?_ ?_
                  rotate_left
                  · intro w'
                    go_simp
                    with_reducible rfl
                  rotate_left
                  · simp only [Act.put, List.setIfInBounds_toArray, List.set_cons_zero, List.set_cons_succ, i64_w, i32_w]
                    rfl
                  refine take_ (i := 10) (N := some 41) (v := ?_) (a' := ?_) #[true, true, true, true, true, true, true, true, true, true, true, false, true, true, true, true, true, false, false, false, false, false, false, false, false, false, false, false, false, false, false, false, false, false, false, false, false, false, false] rfl rfl (take_ofW HT_.out HW_.out (by kernel_rfl)) (fun _ _ _ h => h) (Or.inl ⟨by rfl, ?_⟩) hHeld ?_ ?_
                  rotate_left
                  · rintro w' ⟨s0, s1, s2⟩
                    go_simp
                    with_reducible rfl
                  rotate_left
                  · simp only [Act.put, List.setIfInBounds_toArray, List.set_cons_zero, List.set_cons_succ, i64_w, i32_w]
                    rfl
                  refine one_ (i := 11) (N := some 42) #[true, true, true, true, true, true, true, true, true, true, true, true, true, true, true, true, true, false, false, false, false, false, false, false, false, false, false, false, false, false, false, false, false, false, false, false, false, false, false] rfl rfl (one_of HT_.out (by kernel_rfl)) (by decide) (fun K hK => ?_)
                  refine goes_ Try.func38 (by kernel_rfl) rfl #[.agg #[.int .u32 t121]] (by rfl) rfl rfl (by (try simp only [List.map_toArray, List.map_cons, List.map_nil]); first | done | rfl | (simp only [List.length_drop, List.length_take]; rfl)) ?_
                  with_reducible refine (crc_State_Sum.calls t121 t125 _ A19.out).mono ?_
                  rintro e w48 ⟨rfl, hb⟩
                  refine ⟨_, rfl, ?_⟩
                  have n0_ := Aside0.mk (blk_below (g := gb116) (o := .cells #[.int .u32 t115] 60 (0, 0)) (by (with_reducible repeat (first | refine blk_drewN ?_ _ | refine blk_drew ?_ | refine blk_alloc ?_ _)); exact BK116.out) hb)
                  have n1_ := Aside0.mk (blk_below (g := gb119) (o := .cells #[.int .u32 t118] 60 (0, 0)) (by (with_reducible repeat (first | refine blk_drewN ?_ _ | refine blk_drew ?_ | refine blk_alloc ?_ _)); exact BK119.out) hb)
                  have n2_ := Aside0.mk (blk_below (g := gb122) (o := .cells #[.int .u32 t121] 60 (0, 0)) (by (with_reducible repeat (first | refine blk_drewN ?_ _ | refine blk_drew ?_ | refine blk_alloc ?_ _)); exact BK122.out) hb)
                  have n3_ := Aside0.mk (below_step (by repeat (first | (with_reducible first | exact HB.out | apply below_alloc | apply pw_below_drewN | apply below_drew1 | refine below_set ?_ GE116.out | refine below_set ?_ GE119.out | refine below_set ?_ GE122.out) | exact HB.out)) hb)
                  clear BK116
                  clear BK119
                  clear BK122
                  clear HB
                  have BK116 := n0_
                  have BK119 := n1_
                  have BK122 := n2_
                  have HB := n3_
                  clear n0_ n1_ n2_ n3_
                  (try clear hb)
                  (try clear hb2)
                  (try clear hk)
                  (try clear hi)
                  refine hK.out _ _ ⟨(blk_cell BK119.out 0).trans rfl, (blk_cell BK122.out 0).trans rfl, (blk_cell BK116.out 0).trans rfl⟩ (fun hHeld => ?_)
                  clear hK K
                  refine norm_ (a' := ?_) ?_ ?_
                  rotate_left
                  · show Act.put _ (some 42) _ = _
                    simp only [Act.put, List.setIfInBounds_toArray, List.set_cons_zero, List.set_cons_succ, i64_w, i32_w]
                    rfl
                  refine one_ (i := 17) (N := some 48) #[true, true, true, true, true, true, true, true, true, true, true, true, true, true, true, true, true, true, false, false, false, false, false, false, false, false, false, false, false, false, false, false, false, false, false, false, false, false, false] rfl rfl (one_of HT_.out (by kernel_rfl)) (by decide) (fun K hK => ?_)
                  refine goes_ Try.func37 (by kernel_rfl) rfl #[.string ((t112 ++ t114) ++ t113)] (by rfl) rfl rfl (by (try simp only [List.map_toArray, List.map_cons, List.map_nil]); first | done | rfl | (simp only [List.length_drop, List.length_take]; rfl)) ?_
                  with_reducible refine (shunterref03_Sum.calls k ((t112 ++ t114) ++ t113) t126 _ A22.out).mono ?_
                  rintro e w' ⟨rfl, ⟨nd, rfl⟩⟩
                  refine ⟨_, rfl, ?_⟩
                  refine hK.out _ _ ⟨(blk_cell BK119.out 0).trans rfl, (blk_cell BK122.out 0).trans rfl, (blk_cell BK116.out 0).trans rfl⟩ (fun hHeld => ?_)
                  clear hK K
                  refine norm_ (a' := ?_) ?_ ?_
                  rotate_left
                  · show Act.put _ (some 48) _ = _
                    simp only [Act.put, List.setIfInBounds_toArray, List.set_cons_zero, List.set_cons_succ, i64_w, i32_w]
                    rfl
                  refine pure_ (i := 18) (N := some 49) (v := ?_) (a' := ?_) #[true, true, true, true, true, true, true, true, true, true, true, true, true, true, true, true, true, true, true, false, false, false, false, false, false, false, false, false, false, false, false, false, false, false, false, false, false, false, false] rfl rfl (any_of HT_.out (by kernel_rfl)) (fun _ _ _ h => h) (Or.inl ⟨by rfl, ?_⟩) ?_ ?_
                  rotate_left
                  · intro w'
                    go_simp
                    with_reducible rfl
                  rotate_left
                  · simp only [Act.put, List.setIfInBounds_toArray, List.set_cons_zero, List.set_cons_succ, i64_w, i32_w]
                    rfl
                  refine pure_ (i := 19) (N := some 50) (v := ?_) (a' := ?_) #[true, true, true, true, true, true, true, true, true, true, true, true, true, true, true, true, true, true, true, true, false, false, false, false, false, false, false, false, false, false, false, false, false, false, false, false, false, false, false] rfl rfl (any_of HT_.out (by kernel_rfl)) (fun _ _ _ h => h) (Or.inl ⟨by rfl, ?_⟩) ?_ ?_
                  rotate_left
                  · intro w'
                    go_simp
                    with_reducible rfl
                  rotate_left
                  · simp only [Act.put, List.setIfInBounds_toArray, List.set_cons_zero, List.set_cons_succ, i64_w, i32_w]
                    rfl
                  refine pure_ (i := 20) (N := some 51) (v := ?_) (a' := ?_) #[true, true, true, true, true, true, true, true, true, true, true, true, true, true, true, true, true, true, true, true, true, false, false, false, false, false, false, false, false, false, false, false, false, false, false, false, false, false, false] rfl rfl (any_of HT_.out (by kernel_rfl)) (fun _ _ _ h => h) (Or.inl ⟨by rfl, ?_⟩) ?_ ?_
                  rotate_left
                  · intro w'
                    go_simp
                    with_reducible rfl
                  rotate_left
                  · simp only [Act.put, List.setIfInBounds_toArray, List.set_cons_zero, List.set_cons_succ, i64_w, i32_w]
                    rfl
                  refine pure_ (i := 23) (N := some 54) (v := ?_) (a' := ?_) #[true, true, true, true, true, true, true, true, true, true, true, true, true, true, true, true, true, true, true, true, true, false, false, true, false, false, false, false, false, false, false, false, false, false, false, false, false, false, false] rfl rfl (any_of HT_.out (by kernel_rfl)) (fun _ _ _ h => h) (Or.inl ⟨by rfl, ?_⟩) ?_ ?_
                  rotate_left
                  · intro w'
                    go_simp
                    with_reducible rfl
                  rotate_left
                  · simp only [Act.put, List.setIfInBounds_toArray, List.set_cons_zero, List.set_cons_succ, i64_w, i32_w]
                    rfl
                  refine take_ (i := 21) (N := some 52) (v := ?_) (a' := ?_) #[true, true, true, true, true, true, true, true, true, true, true, true, true, true, true, true, true, true, true, true, true, true, false, true, false, false, false, false, false, false, false, false, false, false, false, false, false, false, false] rfl rfl (take_ofW HT_.out HW_.out (by kernel_rfl)) (fun _ _ _ h => h) (Or.inl ⟨by rfl, ?_⟩) hHeld ?_ ?_
                  rotate_left
                  · rintro w' ⟨s0, s1, s2⟩
                    go_simp
                    with_reducible rfl
                  rotate_left
                  · simp only [Act.put, List.setIfInBounds_toArray, List.set_cons_zero, List.set_cons_succ, i64_w, i32_w]
                    rfl
                  refine join_ (σ := Value) 14 #[true, true, true, true, true, true, true, true, true, true, true, true, true, true, true, true, true, true, true, true, true, true, true, true, true, false, false, false, false, false, false, false, false, false, false, false, false, false, false] (fun s_ => [(53, .int .u32 t127), (55, s_)]) (fun s_ w' => (w'.cell? ⟨gb119, 0, none⟩ = some (.int .u32 t118) ∧ w'.cell? ⟨gb122, 0, none⟩ = some (.int .u32 t121) ∧ w'.cell? ⟨gb116, 0, none⟩ = some (.int .u32 t115)) ∧ (Kd.R Kd.string 9 w' w.heap.size (fun _ => True) s_ y128) ∧ (w'.heap[gb116]? = some (.cells #[.int .u32 t115] 60 (0, 0))) ∧ (w'.heap[gb119]? = some (.cells #[.int .u32 t118] 60 (0, 0))) ∧ (w'.heap[gb122]? = some (.cells #[.int .u32 t121] 60 (0, 0))) ∧ (Below w.heap.size w w')) ?_ ?_
                  rotate_left
                  · intro hCont
                    refine two_ (i := 22) (j := 24) (Ni := some 53) (Nj := some 55) #[true, true, true, true, true, true, true, true, true, true, true, true, true, true, true, true, true, true, true, true, true, true, true, true, false, false, false, false, false, false, false, false, false, false, false, false, false, false, false] #[true, true, true, true, true, true, true, true, true, true, true, true, true, true, true, true, true, true, true, true, true, true, false, true, true, false, false, false, false, false, false, false, false, false, false, false, false, false, false] rfl rfl rfl rfl (two_of HT_.out (by kernel_rfl)) (by decide) (by decide) (fun K hK => ?_) (fun K hK => ?_)
                    · skip
                      refine goes_ Try.func38 (by kernel_rfl) rfl #[.agg #[.int .u32 t115]] (by rfl) rfl rfl (by (try simp only [List.map_toArray, List.map_cons, List.map_nil]); first | done | rfl | (simp only [List.length_drop, List.length_take]; rfl)) ?_
                      with_reducible refine (crc_State_Sum.calls t115 t127 _ A24.out).mono ?_
                      rintro e w49 ⟨rfl, hb⟩
                      refine ⟨_, rfl, ?_⟩
                      have n0_ := Aside0.mk (blk_below (g := gb116) (o := .cells #[.int .u32 t115] 60 (0, 0)) (by (with_reducible repeat (first | refine blk_drewN ?_ _ | refine blk_drew ?_ | refine blk_alloc ?_ _)); exact BK116.out) hb)
                      have n1_ := Aside0.mk (blk_below (g := gb119) (o := .cells #[.int .u32 t118] 60 (0, 0)) (by (with_reducible repeat (first | refine blk_drewN ?_ _ | refine blk_drew ?_ | refine blk_alloc ?_ _)); exact BK119.out) hb)
                      have n2_ := Aside0.mk (blk_below (g := gb122) (o := .cells #[.int .u32 t121] 60 (0, 0)) (by (with_reducible repeat (first | refine blk_drewN ?_ _ | refine blk_drew ?_ | refine blk_alloc ?_ _)); exact BK122.out) hb)
                      have n3_ := Aside0.mk (below_step (by repeat (first | (with_reducible first | exact HB.out | apply below_alloc | apply pw_below_drewN | apply below_drew1 | refine below_set ?_ GE116.out | refine below_set ?_ GE119.out | refine below_set ?_ GE122.out) | exact HB.out)) hb)
                      clear BK116
                      clear BK119
                      clear BK122
                      clear HB
                      have BK116 := n0_
                      have BK119 := n1_
                      have BK122 := n2_
                      have HB := n3_
                      clear n0_ n1_ n2_ n3_
                      (try clear hb)
                      (try clear hb2)
                      (try clear hk)
                      (try clear hi)
                      refine hK.out _ _ ⟨(blk_cell BK119.out 0).trans rfl, (blk_cell BK122.out 0).trans rfl, (blk_cell BK116.out 0).trans rfl⟩ (fun hHeld => ?_)
                      clear hK K
                      refine norm_ (a' := ?_) ?_ ?_
                      rotate_left
                      · show Act.put _ (some 53) _ = _
                        simp only [Act.put, List.setIfInBounds_toArray, List.set_cons_zero, List.set_cons_succ, i64_w, i32_w]
                        rfl
                      refine one_ (i := 24) (N := some 55) #[true, true, true, true, true, true, true, true, true, true, true, true, true, true, true, true, true, true, true, true, true, true, true, true, true, false, false, false, false, false, false, false, false, false, false, false, false, false, false] rfl rfl (one_of HT_.out (by kernel_rfl)) (by decide) (fun K hK => ?_)
                      refine Kd.R_lit_step Kd.string _ 9 ?hg (N := 55) ?hd (xs := ([t112] : List ByteArray)) (inner := [.string t112]) (ok := fun _ => True) (okp := fun _ => True) ?hr ?hp (fun _ hk => hk) trivial (Below.refl _ _) (Nat.le_refl _) (by simp) ?_; (case hd => rfl); (case hg => rfl); (case hr => first | (go_simp; done) | (go_simp; rfl)); (case hp => exact (Reps.one (show Kd.M Kd.string _ _ _ t112 [.string t112] from rfl) (Reps.none _ _)))
                      intro v129 w50 ho51 hb hg_ hnew_
                      clear hg_ hnew_
                      (first | rw [← Ny128.out] at ho51 | (simp only [Int.reduceToNat] at ho51; rw [← Ny128.out] at ho51))
                      have n0_ := Aside0.mk (Kd.R_lower ho51 (below_size (by repeat (first | (with_reducible first | exact HB.out | apply below_alloc | apply pw_below_drewN | apply below_drew1 | refine below_set ?_ GE116.out | refine below_set ?_ GE119.out | refine below_set ?_ GE122.out) | exact HB.out))))
                      have n1_ := Aside0.mk (blk_below (g := gb116) (o := .cells #[.int .u32 t115] 60 (0, 0)) (by (with_reducible repeat (first | refine blk_drewN ?_ _ | refine blk_drew ?_ | refine blk_alloc ?_ _)); exact BK116.out) hb)
                      have n2_ := Aside0.mk (blk_below (g := gb119) (o := .cells #[.int .u32 t118] 60 (0, 0)) (by (with_reducible repeat (first | refine blk_drewN ?_ _ | refine blk_drew ?_ | refine blk_alloc ?_ _)); exact BK119.out) hb)
                      have n3_ := Aside0.mk (blk_below (g := gb122) (o := .cells #[.int .u32 t121] 60 (0, 0)) (by (with_reducible repeat (first | refine blk_drewN ?_ _ | refine blk_drew ?_ | refine blk_alloc ?_ _)); exact BK122.out) hb)
                      have n4_ := Aside0.mk (below_step (by repeat (first | (with_reducible first | exact HB.out | apply below_alloc | apply pw_below_drewN | apply below_drew1 | refine below_set ?_ GE116.out | refine below_set ?_ GE119.out | refine below_set ?_ GE122.out) | exact HB.out)) hb)
                      clear BK116
                      clear BK119
                      clear BK122
                      clear HB
                      have HO130 := n0_
                      have BK116 := n1_
                      have BK119 := n2_
                      have BK122 := n3_
                      have HB := n4_
                      clear n0_ n1_ n2_ n3_ n4_
                      clear hb ho51
                      refine hK.out _ _ ⟨(blk_cell BK119.out 0).trans rfl, (blk_cell BK122.out 0).trans rfl, (blk_cell BK116.out 0).trans rfl⟩ (fun hHeld => ?_)
                      clear hK K
                      refine norm_ (a' := ?_) ?_ ?_
                      rotate_left
                      · show Act.put _ (some 55) _ = _
                        simp only [Act.put, List.setIfInBounds_toArray, List.set_cons_zero, List.set_cons_succ, i64_w, i32_w]
                        rfl
                      exact norm_ (by simp only [putAll, Act.put, List.setIfInBounds_toArray, List.set_cons_zero, List.set_cons_succ]) (hCont (v129) _ ⟨hHeld, (by (with_reducible repeat (first | apply Kd.R_alloc | apply Kd.R_drewN | apply Kd.R_drew)); exact HO130.out), (by (with_reducible repeat (first | refine blk_drewN ?_ _ | refine blk_drew ?_ | refine blk_alloc ?_ _)); exact BK116.out), (by (with_reducible repeat (first | refine blk_drewN ?_ _ | refine blk_drew ?_ | refine blk_alloc ?_ _)); exact BK119.out), (by (with_reducible repeat (first | refine blk_drewN ?_ _ | refine blk_drew ?_ | refine blk_alloc ?_ _)); exact BK122.out), (by repeat (first | (with_reducible first | exact HB.out | apply below_alloc | apply pw_below_drewN | apply below_drew1 | refine below_set ?_ GE116.out | refine below_set ?_ GE119.out | refine below_set ?_ GE122.out) | exact HB.out))⟩)
                    · skip
                      refine Kd.R_lit_step Kd.string _ 9 ?hg (N := 55) ?hd (xs := ([t112] : List ByteArray)) (inner := [.string t112]) (ok := fun _ => True) (okp := fun _ => True) ?hr ?hp (fun _ hk => hk) trivial (Below.refl _ _) (Nat.le_refl _) (by simp) ?_; (case hd => rfl); (case hg => rfl); (case hr => first | (go_simp; done) | (go_simp; rfl)); (case hp => exact (Reps.one (show Kd.M Kd.string _ _ _ t112 [.string t112] from rfl) (Reps.none _ _)))
                      intro v129 w49 ho50 hb hg_ hnew_
                      clear hg_ hnew_
                      (first | rw [← Ny128.out] at ho50 | (simp only [Int.reduceToNat] at ho50; rw [← Ny128.out] at ho50))
                      have n0_ := Aside0.mk (Kd.R_lower ho50 (below_size (by repeat (first | (with_reducible first | exact HB.out | apply below_alloc | apply pw_below_drewN | apply below_drew1 | refine below_set ?_ GE116.out | refine below_set ?_ GE119.out | refine below_set ?_ GE122.out) | exact HB.out))))
                      have n1_ := Aside0.mk (blk_below (g := gb116) (o := .cells #[.int .u32 t115] 60 (0, 0)) (by (with_reducible repeat (first | refine blk_drewN ?_ _ | refine blk_drew ?_ | refine blk_alloc ?_ _)); exact BK116.out) hb)
                      have n2_ := Aside0.mk (blk_below (g := gb119) (o := .cells #[.int .u32 t118] 60 (0, 0)) (by (with_reducible repeat (first | refine blk_drewN ?_ _ | refine blk_drew ?_ | refine blk_alloc ?_ _)); exact BK119.out) hb)
                      have n3_ := Aside0.mk (blk_below (g := gb122) (o := .cells #[.int .u32 t121] 60 (0, 0)) (by (with_reducible repeat (first | refine blk_drewN ?_ _ | refine blk_drew ?_ | refine blk_alloc ?_ _)); exact BK122.out) hb)
                      have n4_ := Aside0.mk (below_step (by repeat (first | (with_reducible first | exact HB.out | apply below_alloc | apply pw_below_drewN | apply below_drew1 | refine below_set ?_ GE116.out | refine below_set ?_ GE119.out | refine below_set ?_ GE122.out) | exact HB.out)) hb)
                      clear BK116
                      clear BK119
                      clear BK122
                      clear HB
                      have HO130 := n0_
                      have BK116 := n1_
                      have BK119 := n2_
                      have BK122 := n3_
                      have HB := n4_
                      clear n0_ n1_ n2_ n3_ n4_
                      clear hb ho50
                      refine hK.out _ _ ⟨(blk_cell BK119.out 0).trans rfl, (blk_cell BK122.out 0).trans rfl, (blk_cell BK116.out 0).trans rfl⟩ (fun hHeld => ?_)
                      clear hK K
                      refine norm_ (a' := ?_) ?_ ?_
                      rotate_left
                      · show Act.put _ (some 55) _ = _
                        simp only [Act.put, List.setIfInBounds_toArray, List.set_cons_zero, List.set_cons_succ, i64_w, i32_w]
                        rfl
                      refine one_ (i := 22) (N := some 53) #[true, true, true, true, true, true, true, true, true, true, true, true, true, true, true, true, true, true, true, true, true, true, true, true, true, false, false, false, false, false, false, false, false, false, false, false, false, false, false] rfl rfl (one_of HT_.out (by kernel_rfl)) (by decide) (fun K hK => ?_)
                      refine goes_ Try.func38 (by kernel_rfl) rfl #[.agg #[.int .u32 t115]] (by rfl) rfl rfl (by (try simp only [List.map_toArray, List.map_cons, List.map_nil]); first | done | rfl | (simp only [List.length_drop, List.length_take]; rfl)) ?_
                      with_reducible refine (crc_State_Sum.calls t115 t127 _ A24.out).mono ?_
                      rintro e w51 ⟨rfl, hb⟩
                      refine ⟨_, rfl, ?_⟩
                      have n0_ := Aside0.mk (Kd.R_below (by (with_reducible repeat (first | apply Kd.R_alloc | apply Kd.R_drewN | apply Kd.R_drew)); exact HO130.out) hb)
                      have n1_ := Aside0.mk (blk_below (g := gb116) (o := .cells #[.int .u32 t115] 60 (0, 0)) (by (with_reducible repeat (first | refine blk_drewN ?_ _ | refine blk_drew ?_ | refine blk_alloc ?_ _)); exact BK116.out) hb)
                      have n2_ := Aside0.mk (blk_below (g := gb119) (o := .cells #[.int .u32 t118] 60 (0, 0)) (by (with_reducible repeat (first | refine blk_drewN ?_ _ | refine blk_drew ?_ | refine blk_alloc ?_ _)); exact BK119.out) hb)
                      have n3_ := Aside0.mk (blk_below (g := gb122) (o := .cells #[.int .u32 t121] 60 (0, 0)) (by (with_reducible repeat (first | refine blk_drewN ?_ _ | refine blk_drew ?_ | refine blk_alloc ?_ _)); exact BK122.out) hb)
                      have n4_ := Aside0.mk (below_step (by repeat (first | (with_reducible first | exact HB.out | apply below_alloc | apply pw_below_drewN | apply below_drew1 | refine below_set ?_ GE116.out | refine below_set ?_ GE119.out | refine below_set ?_ GE122.out) | exact HB.out)) hb)
                      clear HO130
                      clear BK116
                      clear BK119
                      clear BK122
                      clear HB
                      have HO130 := n0_
                      have BK116 := n1_
                      have BK119 := n2_
                      have BK122 := n3_
                      have HB := n4_
                      clear n0_ n1_ n2_ n3_ n4_
                      (try clear hb)
                      (try clear hb2)
                      (try clear hk)
                      (try clear hi)
                      refine hK.out _ _ ⟨(blk_cell BK119.out 0).trans rfl, (blk_cell BK122.out 0).trans rfl, (blk_cell BK116.out 0).trans rfl⟩ (fun hHeld => ?_)
                      clear hK K
                      refine norm_ (a' := ?_) ?_ ?_
                      rotate_left
                      · show Act.put _ (some 53) _ = _
                        simp only [Act.put, List.setIfInBounds_toArray, List.set_cons_zero, List.set_cons_succ, i64_w, i32_w]
                        rfl
                      exact norm_ (by simp only [putAll, Act.put, List.setIfInBounds_toArray, List.set_cons_zero, List.set_cons_succ]) (hCont (v129) _ ⟨hHeld, (by (with_reducible repeat (first | apply Kd.R_alloc | apply Kd.R_drewN | apply Kd.R_drew)); exact HO130.out), (by (with_reducible repeat (first | refine blk_drewN ?_ _ | refine blk_drew ?_ | refine blk_alloc ?_ _)); exact BK116.out), (by (with_reducible repeat (first | refine blk_drewN ?_ _ | refine blk_drew ?_ | refine blk_alloc ?_ _)); exact BK119.out), (by (with_reducible repeat (first | refine blk_drewN ?_ _ | refine blk_drew ?_ | refine blk_alloc ?_ _)); exact BK122.out), (by repeat (first | (with_reducible first | exact HB.out | apply below_alloc | apply pw_below_drewN | apply below_drew1 | refine below_set ?_ GE116.out | refine below_set ?_ GE119.out | refine below_set ?_ GE122.out) | exact HB.out))⟩)
                  rintro v129 w52 ⟨hS_, h0_, h1_, h2_, h3_, h4_⟩
                  have n0_ : Aside0 (Kd.R Kd.string 9 w52 w.heap.size (fun _ => True) v129 y128) := ⟨h0_⟩
                  have n1_ : Aside0 (w52.heap[gb116]? = some (.cells #[.int .u32 t115] 60 (0, 0))) := ⟨h1_⟩
                  have n2_ : Aside0 (w52.heap[gb119]? = some (.cells #[.int .u32 t118] 60 (0, 0))) := ⟨h2_⟩
                  have n3_ : Aside0 (w52.heap[gb122]? = some (.cells #[.int .u32 t121] 60 (0, 0))) := ⟨h3_⟩
                  have n4_ : Aside0 (Below w.heap.size w w52) := ⟨h4_⟩
                  clear BK116
                  clear BK119
                  clear BK122
                  clear HB
                  clear h0_ h1_ h2_ h3_ h4_
                  have HO130 := n0_
                  have BK116 := n1_
                  have BK119 := n2_
                  have BK122 := n3_
                  have HB := n4_
                  clear n0_ n1_ n2_ n3_ n4_
                  have hHeld : w52.cell? ⟨gb119, 0, none⟩ = some (.int .u32 t118) ∧ w52.cell? ⟨gb122, 0, none⟩ = some (.int .u32 t121) ∧ w52.cell? ⟨gb116, 0, none⟩ = some (.int .u32 t115) := hS_
                  obtain ⟨Ao53, co53, eo53⟩ := Kd.R_slice HO130.out
                  (first | subst eo53 | (injection eo53 with f1_ f2_ f3_; have f4_ := f1_.symm; have f5_ := f3_.symm; clear f1_ f2_ f3_; subst f4_; subst f5_))
                  refine norm_ (a' := ?_) ?_ ?_
                  rotate_left
                  · simp only [putAll, Act.put, List.setIfInBounds_toArray, List.set_cons_zero, List.set_cons_succ]
                    rfl
                  refine one_ (i := 25) (N := some 56) #[true, true, true, true, true, true, true, true, true, true, true, true, true, true, true, true, true, true, true, true, true, true, true, true, true, true, false, false, false, false, false, false, false, false, false, false, false, false, false] rfl rfl (one_of HT_.out (by kernel_rfl)) (by decide) (fun K hK => ?_)
                  refine goes_ Try.func36 (by kernel_rfl) rfl #[.slice Ao53 y128.length co53] (by rfl) rfl rfl (by (try simp only [List.map_toArray, List.map_cons, List.map_nil]); first | done | rfl | (simp only [List.length_drop, List.length_take]; rfl)) ?_
                  with_reducible refine (crc_Of.calls k _ _ y128 t131 _ ?side1 ?side2 A25.out).mono ?_
                  (case side1 => repeat (first | exact (Kd.R_reads' HO130.out).2.2 | (with_reducible refine Kd.C_alloc ?_ _) | (with_reducible refine Kd.C_drewN ?_ _) | (with_reducible refine Kd.C_drew ?_)))
                  (case side2 => exact (Kd.R_reads' HO130.out).2.1)
                  rintro e w54 ⟨rfl, hb⟩
                  refine ⟨_, rfl, ?_⟩
                  have n0_ := Aside0.mk (Kd.R_below (by (with_reducible repeat (first | apply Kd.R_alloc | apply Kd.R_drewN | apply Kd.R_drew)); exact HO130.out) hb)
                  have n1_ := Aside0.mk (blk_below (g := gb116) (o := .cells #[.int .u32 t115] 60 (0, 0)) (by (with_reducible repeat (first | refine blk_drewN ?_ _ | refine blk_drew ?_ | refine blk_alloc ?_ _)); exact BK116.out) hb)
                  have n2_ := Aside0.mk (blk_below (g := gb119) (o := .cells #[.int .u32 t118] 60 (0, 0)) (by (with_reducible repeat (first | refine blk_drewN ?_ _ | refine blk_drew ?_ | refine blk_alloc ?_ _)); exact BK119.out) hb)
                  have n3_ := Aside0.mk (blk_below (g := gb122) (o := .cells #[.int .u32 t121] 60 (0, 0)) (by (with_reducible repeat (first | refine blk_drewN ?_ _ | refine blk_drew ?_ | refine blk_alloc ?_ _)); exact BK122.out) hb)
                  have n4_ := Aside0.mk (below_step (by repeat (first | (with_reducible first | exact HB.out | apply below_alloc | apply pw_below_drewN | apply below_drew1 | refine below_set ?_ GE116.out | refine below_set ?_ GE119.out | refine below_set ?_ GE122.out) | exact HB.out)) hb)
                  clear HO130
                  clear BK116
                  clear BK119
                  clear BK122
                  clear HB
                  have HO130 := n0_
                  have BK116 := n1_
                  have BK119 := n2_
                  have BK122 := n3_
                  have HB := n4_
                  clear n0_ n1_ n2_ n3_ n4_
                  (try clear hb)
                  (try clear hb2)
                  (try clear hk)
                  (try clear hi)
                  refine hK.out _ _ ⟨(blk_cell BK119.out 0).trans rfl, (blk_cell BK122.out 0).trans rfl, (blk_cell BK116.out 0).trans rfl⟩ (fun hHeld => ?_)
                  clear hK K
                  refine norm_ (a' := ?_) ?_ ?_
                  rotate_left
                  · show Act.put _ (some 56) _ = _
                    simp only [Act.put, List.setIfInBounds_toArray, List.set_cons_zero, List.set_cons_succ, i64_w, i32_w]
                    rfl
                  refine pure_ (i := 26) (N := some 57) (v := ?_) (a' := ?_) #[true, true, true, true, true, true, true, true, true, true, true, true, true, true, true, true, true, true, true, true, true, true, true, true, true, true, true, false, false, false, false, false, false, false, false, false, false, false, false] rfl rfl (any_of HT_.out (by kernel_rfl)) (fun _ _ _ h => h) (Or.inl ⟨by rfl, ?_⟩) ?_ ?_
                  rotate_left
                  · intro w'
                    go_simp
                    with_reducible rfl
                  rotate_left
                  · simp only [Act.put, List.setIfInBounds_toArray, List.set_cons_zero, List.set_cons_succ, i64_w, i32_w]
                    rfl
                  refine pure_ (i := 27) (N := some 58) (v := ?_) (a' := ?_) #[true, true, true, true, true, true, true, true, true, true, true, true, true, true, true, true, true, true, true, true, true, true, true, true, true, true, true, true, false, false, false, false, false, false, false, false, false, false, false] rfl rfl (any_of HT_.out (by kernel_rfl)) (fun _ _ _ h => h) (Or.inl ⟨by rfl, ?_⟩) ?_ ?_
                  rotate_left
                  · intro w'
                    go_simp
                    with_reducible rfl
                  rotate_left
                  · simp only [Act.put, List.setIfInBounds_toArray, List.set_cons_zero, List.set_cons_succ, i64_w, i32_w]
                    rfl
                  refine pure_ (i := 28) (N := some 59) (v := ?_) (a' := ?_) #[true, true, true, true, true, true, true, true, true, true, true, true, true, true, true, true, true, true, true, true, true, true, true, true, true, true, true, true, true, false, false, false, false, false, false, false, false, false, false] rfl rfl (any_of HT_.out (by kernel_rfl)) (fun _ _ _ h => h) (Or.inl ⟨by rfl, ?_⟩) ?_ ?_
                  rotate_left
                  · intro w'
                    go_simp
                    with_reducible rfl
                  rotate_left
                  · simp only [Act.put, List.setIfInBounds_toArray, List.set_cons_zero, List.set_cons_succ, i64_w, i32_w]
                    rfl
                  refine pure_ (i := 29) (N := some 60) (v := ?_) (a' := ?_) #[true, true, true, true, true, true, true, true, true, true, true, true, true, true, true, true, true, true, true, true, true, true, true, true, true, true, true, true, true, true, false, false, false, false, false, false, false, false, false] rfl rfl (any_of HT_.out (by kernel_rfl)) (fun _ _ _ h => h) (Or.inl ⟨by rfl, ?_⟩) ?_ ?_
                  rotate_left
                  · intro w'
                    go_simp
                    with_reducible rfl
                  rotate_left
                  · simp only [Act.put, List.setIfInBounds_toArray, List.set_cons_zero, List.set_cons_succ, i64_w, i32_w]
                    rfl
                  refine pure_ (i := 30) (N := some 61) (v := ?_) (a' := ?_) #[true, true, true, true, true, true, true, true, true, true, true, true, true, true, true, true, true, true, true, true, true, true, true, true, true, true, true, true, true, true, true, false, false, false, false, false, false, false, false] rfl rfl (any_of HT_.out (by kernel_rfl)) (fun _ _ _ h => h) (Or.inl ⟨by rfl, ?_⟩) ?_ ?_
                  rotate_left
                  · intro w'
                    go_simp
                    with_reducible rfl
                  rotate_left
                  · simp only [Act.put, List.setIfInBounds_toArray, List.set_cons_zero, List.set_cons_succ, i64_w, i32_w]
                    rfl
                  refine pure_ (i := 31) (N := some 62) (v := ?_) (a' := ?_) #[true, true, true, true, true, true, true, true, true, true, true, true, true, true, true, true, true, true, true, true, true, true, true, true, true, true, true, true, true, true, true, true, false, false, false, false, false, false, false] rfl rfl (any_of HT_.out (by kernel_rfl)) (fun _ _ _ h => h) (Or.inl ⟨by rfl, ?_⟩) ?_ ?_
                  rotate_left
                  · intro w'
                    go_simp
                    with_reducible rfl
                  rotate_left
                  · simp only [Act.put, List.setIfInBounds_toArray, List.set_cons_zero, List.set_cons_succ, i64_w, i32_w]
                    rfl
                  refine take_ (i := 34) (N := some 65) (v := ?_) (a' := ?_) #[true, true, true, true, true, true, true, true, true, true, true, true, true, true, true, true, true, true, true, true, true, true, true, true, true, true, true, true, true, true, true, true, false, false, true, false, false, false, false] rfl rfl (take_ofW HT_.out HW_.out (by kernel_rfl)) (fun _ _ _ h => h) (Or.inl ⟨by rfl, ?_⟩) hHeld ?_ ?_
                  rotate_left
                  · rintro w' ⟨s0, s1, s2⟩
                    go_simp
                    with_reducible rfl
                  rotate_left
                  · simp only [Act.put, List.setIfInBounds_toArray, List.set_cons_zero, List.set_cons_succ, i64_w, i32_w]
                    rfl
                  refine one_ (i := 32) (N := some 63) #[true, true, true, true, true, true, true, true, true, true, true, true, true, true, true, true, true, true, true, true, true, true, true, true, true, true, true, true, true, true, true, true, true, false, true, false, false, false, false] rfl rfl (one_of HT_.out (by kernel_rfl)) (by decide) (fun K hK => ?_)
                  refine Kd.R_lit_step Kd.string _ 9 ?hg (N := 63) ?hd (xs := ([t112, t113, t114] : List ByteArray)) (inner := [.string t112, .string t113, .string t114]) (ok := fun _ => True) (okp := fun _ => True) ?hr ?hp (fun _ hk => hk) trivial (Below.refl _ _) (Nat.le_refl _) (by simp) ?_; (case hd => rfl); (case hg => rfl); (case hr => first | (go_simp; done) | (go_simp; rfl)); (case hp => exact (Reps.one (show Kd.M Kd.string _ _ _ t112 [.string t112] from rfl) (Reps.one (show Kd.M Kd.string _ _ _ t113 [.string t113] from rfl) (Reps.one (show Kd.M Kd.string _ _ _ t114 [.string t114] from rfl) (Reps.none _ _)))))
                  intro v133 w55 ho56 hb hg_ hnew_
                  clear hg_ hnew_
                  (first | rw [← Ny132.out] at ho56 | (simp only [Int.reduceToNat] at ho56; rw [← Ny132.out] at ho56))
                  have n0_ := Aside0.mk (Kd.R_elder' (by (with_reducible repeat (first | apply Kd.R_alloc | apply Kd.R_drewN | apply Kd.R_drew)); exact HO130.out) (Kd.R_base ho56) hb)
                  have n1_ := Aside0.mk (Kd.R_lower (Kd.R_new' ho56 (Kd.R_lt (by (with_reducible repeat (first | apply Kd.R_alloc | apply Kd.R_drewN | apply Kd.R_drew)); exact HO130.out))) (below_size (by repeat (first | (with_reducible first | exact HB.out | apply below_alloc | apply pw_below_drewN | apply below_drew1 | refine below_set ?_ GE116.out | refine below_set ?_ GE119.out | refine below_set ?_ GE122.out) | exact HB.out))))
                  have n2_ := Aside0.mk (blk_below (g := gb116) (o := .cells #[.int .u32 t115] 60 (0, 0)) (by (with_reducible repeat (first | refine blk_drewN ?_ _ | refine blk_drew ?_ | refine blk_alloc ?_ _)); exact BK116.out) hb)
                  have n3_ := Aside0.mk (blk_below (g := gb119) (o := .cells #[.int .u32 t118] 60 (0, 0)) (by (with_reducible repeat (first | refine blk_drewN ?_ _ | refine blk_drew ?_ | refine blk_alloc ?_ _)); exact BK119.out) hb)
                  have n4_ := Aside0.mk (blk_below (g := gb122) (o := .cells #[.int .u32 t121] 60 (0, 0)) (by (with_reducible repeat (first | refine blk_drewN ?_ _ | refine blk_drew ?_ | refine blk_alloc ?_ _)); exact BK122.out) hb)
                  have n5_ := Aside0.mk (below_step (by repeat (first | (with_reducible first | exact HB.out | apply below_alloc | apply pw_below_drewN | apply below_drew1 | refine below_set ?_ GE116.out | refine below_set ?_ GE119.out | refine below_set ?_ GE122.out) | exact HB.out)) hb)
                  clear HO130
                  clear BK116
                  clear BK119
                  clear BK122
                  clear HB
                  have HO130 := n0_
                  have HO134 := n1_
                  have BK116 := n2_
                  have BK119 := n3_
                  have BK122 := n4_
                  have HB := n5_
                  clear n0_ n1_ n2_ n3_ n4_ n5_
                  clear hb ho56
                  obtain ⟨Ao57, co57, eo57⟩ := Kd.R_slice HO134.out
                  (first | subst eo57 | (injection eo57 with f1_ f2_ f3_; have f4_ := f1_.symm; have f5_ := f3_.symm; clear f1_ f2_ f3_; subst f4_; subst f5_))
                  refine hK.out _ _ ⟨(blk_cell BK119.out 0).trans rfl, (blk_cell BK122.out 0).trans rfl, (blk_cell BK116.out 0).trans rfl⟩ (fun hHeld => ?_)
                  clear hK K
                  refine norm_ (a' := ?_) ?_ ?_
                  rotate_left
                  · show Act.put _ (some 63) _ = _
                    simp only [Act.put, List.setIfInBounds_toArray, List.set_cons_zero, List.set_cons_succ, i64_w, i32_w]
                    rfl
                  refine one_ (i := 33) (N := some 64) #[true, true, true, true, true, true, true, true, true, true, true, true, true, true, true, true, true, true, true, true, true, true, true, true, true, true, true, true, true, true, true, true, true, true, true, false, false, false, false] rfl rfl (one_of HT_.out (by kernel_rfl)) (by decide) (fun K hK => ?_)
                  refine goes_ Try.func36 (by kernel_rfl) rfl #[.slice Ao57 y132.length co57] (by rfl) rfl rfl (by (try simp only [List.map_toArray, List.map_cons, List.map_nil]); first | done | rfl | (simp only [List.length_drop, List.length_take]; rfl)) ?_
                  with_reducible refine (crc_Of.calls k _ _ y132 t135 _ ?side1 ?side2 A27.out).mono ?_
                  (case side1 => repeat (first | exact (Kd.R_reads' HO134.out).2.2 | (with_reducible refine Kd.C_alloc ?_ _) | (with_reducible refine Kd.C_drewN ?_ _) | (with_reducible refine Kd.C_drew ?_)))
                  (case side2 => exact (Kd.R_reads' HO134.out).2.1)
                  rintro e w58 ⟨rfl, hb⟩
                  refine ⟨_, rfl, ?_⟩
                  have n0_ := Aside0.mk (Kd.R_below (by (with_reducible repeat (first | apply Kd.R_alloc | apply Kd.R_drewN | apply Kd.R_drew)); exact HO130.out) hb)
                  have n1_ := Aside0.mk (Kd.R_below (by (with_reducible repeat (first | apply Kd.R_alloc | apply Kd.R_drewN | apply Kd.R_drew)); exact HO134.out) hb)
                  have n2_ := Aside0.mk (blk_below (g := gb116) (o := .cells #[.int .u32 t115] 60 (0, 0)) (by (with_reducible repeat (first | refine blk_drewN ?_ _ | refine blk_drew ?_ | refine blk_alloc ?_ _)); exact BK116.out) hb)
                  have n3_ := Aside0.mk (blk_below (g := gb119) (o := .cells #[.int .u32 t118] 60 (0, 0)) (by (with_reducible repeat (first | refine blk_drewN ?_ _ | refine blk_drew ?_ | refine blk_alloc ?_ _)); exact BK119.out) hb)
                  have n4_ := Aside0.mk (blk_below (g := gb122) (o := .cells #[.int .u32 t121] 60 (0, 0)) (by (with_reducible repeat (first | refine blk_drewN ?_ _ | refine blk_drew ?_ | refine blk_alloc ?_ _)); exact BK122.out) hb)
                  have n5_ := Aside0.mk (below_step (by repeat (first | (with_reducible first | exact HB.out | apply below_alloc | apply pw_below_drewN | apply below_drew1 | refine below_set ?_ GE116.out | refine below_set ?_ GE119.out | refine below_set ?_ GE122.out) | exact HB.out)) hb)
                  clear HO130
                  clear HO134
                  clear BK116
                  clear BK119
                  clear BK122
                  clear HB
                  have HO130 := n0_
                  have HO134 := n1_
                  have BK116 := n2_
                  have BK119 := n3_
                  have BK122 := n4_
                  have HB := n5_
                  clear n0_ n1_ n2_ n3_ n4_ n5_
                  (try clear hb)
                  (try clear hb2)
                  (try clear hk)
                  (try clear hi)
                  refine hK.out _ _ ⟨(blk_cell BK119.out 0).trans rfl, (blk_cell BK122.out 0).trans rfl, (blk_cell BK116.out 0).trans rfl⟩ (fun hHeld => ?_)
                  clear hK K
                  refine norm_ (a' := ?_) ?_ ?_
                  rotate_left
                  · show Act.put _ (some 64) _ = _
                    simp only [Act.put, List.setIfInBounds_toArray, List.set_cons_zero, List.set_cons_succ, i64_w, i32_w]
                    rfl
                  refine one_ (i := 35) (N := some 66) #[true, true, true, true, true, true, true, true, true, true, true, true, true, true, true, true, true, true, true, true, true, true, true, true, true, true, true, true, true, true, true, true, true, true, true, true, false, false, false] rfl rfl (one_of HT_.out (by kernel_rfl)) (by decide) (fun K hK => ?_)
                  refine goes_ Try.func38 (by kernel_rfl) rfl #[.agg #[.int .u32 t118]] (by rfl) rfl rfl (by (try simp only [List.map_toArray, List.map_cons, List.map_nil]); first | done | rfl | (simp only [List.length_drop, List.length_take]; rfl)) ?_
                  with_reducible refine (crc_State_Sum.calls t118 t136 _ A28.out).mono ?_
                  rintro e w59 ⟨rfl, hb⟩
                  refine ⟨_, rfl, ?_⟩
                  have n0_ := Aside0.mk (Kd.R_below (by (with_reducible repeat (first | apply Kd.R_alloc | apply Kd.R_drewN | apply Kd.R_drew)); exact HO130.out) hb)
                  have n1_ := Aside0.mk (Kd.R_below (by (with_reducible repeat (first | apply Kd.R_alloc | apply Kd.R_drewN | apply Kd.R_drew)); exact HO134.out) hb)
                  have n2_ := Aside0.mk (blk_below (g := gb116) (o := .cells #[.int .u32 t115] 60 (0, 0)) (by (with_reducible repeat (first | refine blk_drewN ?_ _ | refine blk_drew ?_ | refine blk_alloc ?_ _)); exact BK116.out) hb)
                  have n3_ := Aside0.mk (blk_below (g := gb119) (o := .cells #[.int .u32 t118] 60 (0, 0)) (by (with_reducible repeat (first | refine blk_drewN ?_ _ | refine blk_drew ?_ | refine blk_alloc ?_ _)); exact BK119.out) hb)
                  have n4_ := Aside0.mk (blk_below (g := gb122) (o := .cells #[.int .u32 t121] 60 (0, 0)) (by (with_reducible repeat (first | refine blk_drewN ?_ _ | refine blk_drew ?_ | refine blk_alloc ?_ _)); exact BK122.out) hb)
                  have n5_ := Aside0.mk (below_step (by repeat (first | (with_reducible first | exact HB.out | apply below_alloc | apply pw_below_drewN | apply below_drew1 | refine below_set ?_ GE116.out | refine below_set ?_ GE119.out | refine below_set ?_ GE122.out) | exact HB.out)) hb)
                  clear HO130
                  clear HO134
                  clear BK116
                  clear BK119
                  clear BK122
                  clear HB
                  have HO130 := n0_
                  have HO134 := n1_
                  have BK116 := n2_
                  have BK119 := n3_
                  have BK122 := n4_
                  have HB := n5_
                  clear n0_ n1_ n2_ n3_ n4_ n5_
                  (try clear hb)
                  (try clear hb2)
                  (try clear hk)
                  (try clear hi)
                  refine hK.out _ _ ⟨(blk_cell BK119.out 0).trans rfl, (blk_cell BK122.out 0).trans rfl, (blk_cell BK116.out 0).trans rfl⟩ (fun hHeld => ?_)
                  clear hK K
                  refine norm_ (a' := ?_) ?_ ?_
                  rotate_left
                  · show Act.put _ (some 66) _ = _
                    simp only [Act.put, List.setIfInBounds_toArray, List.set_cons_zero, List.set_cons_succ, i64_w, i32_w]
                    rfl
                  refine pure_ (i := 36) (N := some 67) (v := ?_) (a' := ?_) #[true, true, true, true, true, true, true, true, true, true, true, true, true, true, true, true, true, true, true, true, true, true, true, true, true, true, true, true, true, true, true, true, true, true, true, true, true, false, false] rfl rfl (any_of HT_.out (by kernel_rfl)) (fun _ _ _ h => h) (Or.inl ⟨by rfl, ?_⟩) ?_ ?_
                  rotate_left
                  · intro w'
                    go_simp
                    with_reducible rfl
                  rotate_left
                  · simp only [Act.put, List.setIfInBounds_toArray, List.set_cons_zero, List.set_cons_succ, i64_w, i32_w]
                    rfl
                  refine pure_ (i := 37) (N := some 68) (v := ?_) (a' := ?_) #[true, true, true, true, true, true, true, true, true, true, true, true, true, true, true, true, true, true, true, true, true, true, true, true, true, true, true, true, true, true, true, true, true, true, true, true, true, true, false] rfl rfl (any_of HT_.out (by kernel_rfl)) (fun _ _ _ h => h) (Or.inl ⟨by rfl, ?_⟩) ?_ ?_
                  rotate_left
                  · intro w'
                    go_simp
                    with_reducible rfl
                  rotate_left
                  · simp only [Act.put, List.setIfInBounds_toArray, List.set_cons_zero, List.set_cons_succ, i64_w, i32_w]
                    rfl
                  refine pure_ (i := 38) (N := some 6) (v := ?_) (a' := ?_) #[true, true, true, true, true, true, true, true, true, true, true, true, true, true, true, true, true, true, true, true, true, true, true, true, true, true, true, true, true, true, true, true, true, true, true, true, true, true, true] rfl rfl (any_of HT_.out (by kernel_rfl)) (fun _ _ _ h => h) (Or.inl ⟨by rfl, ?_⟩) ?_ ?_
                  rotate_left
                  · intro w'
                    go_simp
                    with_reducible rfl
                  rotate_left
                  · simp only [Act.put, List.setIfInBounds_toArray, List.set_cons_zero, List.set_cons_succ, i64_w, i32_w]
                    rfl
                  refine done_ (done_of HT_.out (by kernel_rfl)) ?_
                  try go_wp2
                  go_ret
                  exact ⟨by first | rfl | (simp [errW_none, errW_some] <;> rfl) | (simp [*, errW_none, errW_some] <;> rfl), by repeat (first | (with_reducible first | exact HB.out | apply below_alloc | apply pw_below_drewN | apply below_drew1 | refine below_set ?_ GE116.out | refine below_set ?_ GE119.out | refine below_set ?_ GE122.out) | exact HB.out)⟩
                · rw [if_neg c26] at H
                  have c26b0 : (t127 == t131) = false := beq_eq_false_iff_ne.mpr c26
                  have c26b1 : (t127 != t131) = true := bne_iff_ne.mpr c26
                  exact absurd (H.trans (congrArg some hT.out)) (by simp)
              · rw [if_neg c23] at H
                have c23b0 : (t125 == t126) = false := beq_eq_false_iff_ne.mpr c23
                have c23b1 : (t125 != t126) = true := bne_iff_ne.mpr c23
                exact absurd (H.trans (congrArg some hT.out)) (by simp)
            · rw [if_neg c21] at H
              exact absurd H (by simp)
          · rw [if_neg c20] at H
            exact absurd H (by simp)
        · rw [if_neg c18] at H
          have c18b0 : (t123 == t124) = false := beq_eq_false_iff_ne.mpr c18
          have c18b1 : (t123 != t124) = true := bne_iff_ne.mpr c18
          exact absurd (H.trans (congrArg some hT.out)) (by simp)
      · rw [if_neg c16] at H
        exact absurd H (by simp)
    · rw [if_neg c15] at H
      exact absurd H (by simp)
  · replace c5 := Bool.eq_false_iff.mpr c5
    subst c5
    have H1 : (some false) = some r := by rw [if_neg (show ¬ (false = true) by decide)] at H; exact H
    clear H
    have H := H1
    clear H1
    exact absurd (H.trans (congrArg some hT.out)) (by simp)
/-- THE ONE PURE STATEMENT of shunterlaw03_CrcOrder: yours. -/
def shunterlaw03_CrcOrder.Pure : Prop := ∀ (a0 : ByteArray) (a1 : ByteArray) (a2 : ByteArray), a0.size ≤ 140737488351232 → a1.size ≤ 140737488351232 → a2.size ≤ 140737488351232 → ∃ k, shunterlaw03_CrcOrder.f k a0 a1 a2 = some true
theorem shunterlaw03_CrcOrder.walk (P : shunterlaw03_CrcOrder.Pure) (a0 : ByteArray) (a1 : ByteArray) (a2 : ByteArray) (w : World) (w0 : a0.size ≤ 140737488351232) (w1 : a1.size ≤ 140737488351232) (w2 : a2.size ≤ 140737488351232) :
    Calls Try.prog 12 #[.string a0, .string a1, .string a2] w fun e w' => e = .returned (.bool true) ∧ Below w.heap.size w w' := by
  obtain ⟨k, h⟩ := P a0 a1 a2 w0 w1 w2
  refine (shunterlaw03_CrcOrder.calls k a0 a1 a2 true w h ⟨rfl⟩).mono ?_
  rintro e w' ⟨rfl, hd⟩
  exact ⟨rfl, hd⟩

end Go.Proofs.Ythdnlhcepndncaa.QCrcOrder

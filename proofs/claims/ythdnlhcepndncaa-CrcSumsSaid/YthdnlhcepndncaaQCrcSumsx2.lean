-- Walks by a program: this session's turn of the kit's print, over contracts of the session's own.
import Derived.Test.YthdnlhcepndncaaQCrcSumsx0
import Derived.Test.YthdnlhcepndncaaQCrcSumsx1
namespace Go.Proofs.Ythdnlhcepndncaa.QCrcSums
open Go.RowKit Go.Proofs.Ythdnlhcepndncaa.Crc Go.Proofs.YthdnlhcepndncaaW.PrintWords Go.Proofs.YthdnlhcepndncaaW.PrintLast Go.Proofs.YthdnlhcepndncaaW.PrintMore
attribute [local go_sem] max2_int min2_int max_two min_two max_three min_three max_four min_four   -- for this text's walks alone
set_option linter.unusedVariables false
set_option linter.unusedSimpArgs false

/-! ### shunterlaw03_CrcSums: function 10 -/
def shunterlaw03_CrcSums.f (k : Nat) (a0 : ByteArray) (a1 : Int) (a2 : Int) : Option (Bool) := (shunterlaw01_Cut.f a0 200).bind fun t111 => ((shunterlaw03_awake.f k).bind fun t112 => (if t112 = true then (if 0 ≤ (mn (mx a1 0) (t111.size : Int)) then (if (mn (mx a1 0) (t111.size : Int)) ≤ (t111.size : Int) then ((crc_State_Add.f 0 (t111.extract 0 ((mn (mx a1 0) (t111.size : Int)) : Int).toNat)).bind fun t113 => (if (mn (mx a1 0) (t111.size : Int)) ≤ (mn (mx a2 (mn (mx a1 0) (t111.size : Int))) (t111.size : Int)) then (if (mn (mx a2 (mn (mx a1 0) (t111.size : Int))) (t111.size : Int)) ≤ (t111.size : Int) then ((crc_State_Add.f t113 (t111.extract ((mn (mx a1 0) (t111.size : Int)) : Int).toNat ((mn (mx a2 (mn (mx a1 0) (t111.size : Int))) (t111.size : Int)) : Int).toNat)).bind fun t115 => ((crc_Of.f k (([t111] : List ByteArray))).bind fun t120 => ((shunterref03_Sum.f k t111).bind fun t121 => (if t120 = t121 then (if 0 ≤ (mn (mx a2 (mn (mx a1 0) (t111.size : Int))) (t111.size : Int)) then ((crc_Of.f k (([t111.extract 0 ((mn (mx a1 0) (t111.size : Int)) : Int).toNat, t111.extract ((mn (mx a1 0) (t111.size : Int)) : Int).toNat ((mn (mx a2 (mn (mx a1 0) (t111.size : Int))) (t111.size : Int)) : Int).toNat, t111.extract ((mn (mx a2 (mn (mx a1 0) (t111.size : Int))) (t111.size : Int)) : Int).toNat t111.size] : List ByteArray))).bind fun t125 => ((shunterref03_Sum.f k t111).bind fun t126 => (if t125 = t126 then ((crc_State_Add.f t115 (t111.extract ((mn (mx a2 (mn (mx a1 0) (t111.size : Int))) (t111.size : Int)) : Int).toNat t111.size)).bind fun t127 => ((crc_State_Sum.f t127).bind fun t128 => ((shunterref03_Sum.f k t111).bind fun t129 => (if t128 = t129 then ((crc_State_Sum.f t113).bind fun t130 => ((shunterref03_Sum.f k (t111.extract 0 ((mn (mx a1 0) (t111.size : Int)) : Int).toNat)).bind fun t131 => (some (t130 == t131)))) else (some false))))) else (some false)))) else (none)) else (some false))))) else (none)) else (none))) else (none)) else (none)) else (some false)))
theorem shunterlaw03_CrcSums.mono : ∀ a0 a1 a2 k, LeO (shunterlaw03_CrcSums.f k a0 a1 a2) (shunterlaw03_CrcSums.f (k + 1) a0 a1 a2) := by
  intro a0 a1 a2 k
  unfold shunterlaw03_CrcSums.f
  repeat' first
      | (with_reducible exact crc_Of.mono _ _)
      | (with_reducible exact shunterlaw03_awake.mono _)
      | (with_reducible exact shunterref03_Sum.mono _ _)
      | (with_reducible exact LeO.refl _)
      | (with_reducible exact LeO.none _)
      | (with_reducible refine LeO.ite ?_ ?_)
      | (with_reducible refine LeO.bind ?_ (fun _ => ?_))
      | exact crc_Of.mono _ _
      | exact shunterlaw03_awake.mono _
      | exact shunterref03_Sum.mono _ _
      | exact LeO.none _
      | refine LeO.ite ?_ ?_
      | refine LeO.bind ?_ (fun _ => ?_)
def shunterlaw03_CrcSums.T7 : Bool × List (List Nat × List Nat) := (true, [([], []), ([], []), ([], []), ([], []), ([1, 2, 3], [1, 2, 3]), ([0, 4], [0, 4]), ([], []), ([6, 5, 5, 0, 1, 2, 3, 4, 5, 6], [5, 6])])
def shunterlaw03_CrcSums.B7 : List Nat := [0, 0, 0, 0, 14, 31, 0, 127]
theorem shunterlaw03_CrcSums.tab7 : rtab .any (opsOf Try.f10 7) = shunterlaw03_CrcSums.T7 := by kernel_rfl
theorem shunterlaw03_CrcSums.bits7 : waitsOk shunterlaw03_CrcSums.T7.2 shunterlaw03_CrcSums.B7 = true := by kernel_rfl
def shunterlaw03_CrcSums.T8 : Bool × List (List Nat × List Nat) := (true, [([], []), ([0], [0]), ([1], [1]), ([], []), ([3, 2], [3]), ([2, 4], [2, 4]), ([5, 4], [5]), ([6], [6]), ([6], [6]), ([7, 8, 6], [6, 7, 8]), ([6], [6]), ([6], [6]), ([6], [6]), ([10, 11, 12, 6], [6, 10, 11, 12]), ([6], [6]), ([6], [6]), ([14, 15, 6], [6, 14, 15]), ([9, 13, 16, 6], [6, 9, 13, 16]), ([17, 6, 6], [6, 17]), ([6], [6]), ([19, 18, 6], [6, 19]), ([18, 20, 6], [6, 18, 20]), ([6, 21], [6, 21]), ([22, 20], [22]), ([23], [23]), ([23], [23]), ([23], [23]), ([25, 26, 23], [23, 25, 26]), ([24, 27, 23, 23], [23, 24, 27]), ([28, 28, 23], [23, 28]), ([23], [23]), ([30, 29, 23], [23, 30]), ([29, 31, 23], [23, 29, 31]), ([23, 32], [23, 32]), ([33, 31], [33]), ([34], [34]), ([35, 34, 34], [34, 35]), ([34], [34]), ([34], [34]), ([37, 38, 34], [34, 37, 38]), ([39, 36, 34], [34, 39]), ([36, 40, 34], [34, 36, 40]), ([34, 41], [34, 41]), ([42, 40, 0, 1, 2, 3, 4, 5, 6, 7, 8, 9, 10, 11, 12, 13, 14, 15, 16, 17, 18, 19, 20, 21, 22, 23, 24, 25, 26, 27, 28, 29, 30, 31, 32, 33, 34, 35, 36, 37, 38, 39, 40, 41, 42], [42])])
def shunterlaw03_CrcSums.B8 : List Nat := [0, 1, 3, 0, 15, 31, 63, 127, 127, 511, 127, 127, 127, 7295, 127, 127, 49279, 131071, 262143, 127, 1048575, 2097151, 4194303, 8388607, 16777215, 16777215, 16777215, 117440511, 268435455, 536870911, 16777215, 2147483647, 4294967295, 8589934591, 17179869183, 34359738367, 68719476735, 34359738367, 34359738367, 446676598783, 1099511627775, 2199023255551, 4398046511103, 8796093022207]
theorem shunterlaw03_CrcSums.tab8 : rtab .any (opsOf Try.f10 8) = shunterlaw03_CrcSums.T8 := by kernel_rfl
theorem shunterlaw03_CrcSums.bits8 : waitsOk shunterlaw03_CrcSums.T8.2 shunterlaw03_CrcSums.B8 = true := by kernel_rfl
set_option maxHeartbeats 8000000 in
set_option maxRecDepth 100000 in
theorem shunterlaw03_CrcSums.calls (k : Nat) (a0 : ByteArray) (a1 : Int) (a2 : Int) (r : Bool) (w : World) (h : shunterlaw03_CrcSums.f k a0 a1 a2 = some r) (hT : Aside0 (r = true)) :
    Calls Try.prog 10 #[.string a0, .int .i64 a1, .int .i64 a2] w fun e w' => e = .returned (.bool r) ∧ Below w.heap.size w w' := by
  have hu60 := Try.underlying60
  have HB := Aside0.mk (Below.refl w.heap.size w)
  have H : ((shunterlaw01_Cut.f a0 200).bind fun t111 => ((shunterlaw03_awake.f k).bind fun t112 => (if t112 = true then (if 0 ≤ (mn (mx a1 0) (t111.size : Int)) then (if (mn (mx a1 0) (t111.size : Int)) ≤ (t111.size : Int) then ((crc_State_Add.f 0 (t111.extract 0 ((mn (mx a1 0) (t111.size : Int)) : Int).toNat)).bind fun t113 => (if (mn (mx a1 0) (t111.size : Int)) ≤ (mn (mx a2 (mn (mx a1 0) (t111.size : Int))) (t111.size : Int)) then (if (mn (mx a2 (mn (mx a1 0) (t111.size : Int))) (t111.size : Int)) ≤ (t111.size : Int) then ((crc_State_Add.f t113 (t111.extract ((mn (mx a1 0) (t111.size : Int)) : Int).toNat ((mn (mx a2 (mn (mx a1 0) (t111.size : Int))) (t111.size : Int)) : Int).toNat)).bind fun t115 => ((crc_Of.f k (([t111] : List ByteArray))).bind fun t120 => ((shunterref03_Sum.f k t111).bind fun t121 => (if t120 = t121 then (if 0 ≤ (mn (mx a2 (mn (mx a1 0) (t111.size : Int))) (t111.size : Int)) then ((crc_Of.f k (([t111.extract 0 ((mn (mx a1 0) (t111.size : Int)) : Int).toNat, t111.extract ((mn (mx a1 0) (t111.size : Int)) : Int).toNat ((mn (mx a2 (mn (mx a1 0) (t111.size : Int))) (t111.size : Int)) : Int).toNat, t111.extract ((mn (mx a2 (mn (mx a1 0) (t111.size : Int))) (t111.size : Int)) : Int).toNat t111.size] : List ByteArray))).bind fun t125 => ((shunterref03_Sum.f k t111).bind fun t126 => (if t125 = t126 then ((crc_State_Add.f t115 (t111.extract ((mn (mx a2 (mn (mx a1 0) (t111.size : Int))) (t111.size : Int)) : Int).toNat t111.size)).bind fun t127 => ((crc_State_Sum.f t127).bind fun t128 => ((shunterref03_Sum.f k t111).bind fun t129 => (if t128 = t129 then ((crc_State_Sum.f t113).bind fun t130 => ((shunterref03_Sum.f k (t111.extract 0 ((mn (mx a1 0) (t111.size : Int)) : Int).toNat)).bind fun t131 => (some (t130 == t131)))) else (some false))))) else (some false)))) else (none)) else (some false))))) else (none)) else (none))) else (none)) else (none)) else (some false)))) = some r := h
  clear h
  replace H := Option.bind_eq_some_iff.mp H
  obtain ⟨t111, A40, H⟩ := H
  replace H : ((shunterlaw03_awake.f k).bind fun t112 => (if t112 = true then (if 0 ≤ (mn (mx a1 0) (t111.size : Int)) then (if (mn (mx a1 0) (t111.size : Int)) ≤ (t111.size : Int) then ((crc_State_Add.f 0 (t111.extract 0 ((mn (mx a1 0) (t111.size : Int)) : Int).toNat)).bind fun t113 => (if (mn (mx a1 0) (t111.size : Int)) ≤ (mn (mx a2 (mn (mx a1 0) (t111.size : Int))) (t111.size : Int)) then (if (mn (mx a2 (mn (mx a1 0) (t111.size : Int))) (t111.size : Int)) ≤ (t111.size : Int) then ((crc_State_Add.f t113 (t111.extract ((mn (mx a1 0) (t111.size : Int)) : Int).toNat ((mn (mx a2 (mn (mx a1 0) (t111.size : Int))) (t111.size : Int)) : Int).toNat)).bind fun t115 => ((crc_Of.f k (([t111] : List ByteArray))).bind fun t120 => ((shunterref03_Sum.f k t111).bind fun t121 => (if t120 = t121 then (if 0 ≤ (mn (mx a2 (mn (mx a1 0) (t111.size : Int))) (t111.size : Int)) then ((crc_Of.f k (([t111.extract 0 ((mn (mx a1 0) (t111.size : Int)) : Int).toNat, t111.extract ((mn (mx a1 0) (t111.size : Int)) : Int).toNat ((mn (mx a2 (mn (mx a1 0) (t111.size : Int))) (t111.size : Int)) : Int).toNat, t111.extract ((mn (mx a2 (mn (mx a1 0) (t111.size : Int))) (t111.size : Int)) : Int).toNat t111.size] : List ByteArray))).bind fun t125 => ((shunterref03_Sum.f k t111).bind fun t126 => (if t125 = t126 then ((crc_State_Add.f t115 (t111.extract ((mn (mx a2 (mn (mx a1 0) (t111.size : Int))) (t111.size : Int)) : Int).toNat t111.size)).bind fun t127 => ((crc_State_Sum.f t127).bind fun t128 => ((shunterref03_Sum.f k t111).bind fun t129 => (if t128 = t129 then ((crc_State_Sum.f t113).bind fun t130 => ((shunterref03_Sum.f k (t111.extract 0 ((mn (mx a1 0) (t111.size : Int)) : Int).toNat)).bind fun t131 => (some (t130 == t131)))) else (some false))))) else (some false)))) else (none)) else (some false))))) else (none)) else (none))) else (none)) else (none)) else (some false))) = some r := H
  have A4 := Aside0.mk A40
  clear A40
  replace H := Option.bind_eq_some_iff.mp H
  obtain ⟨t112, A50, H⟩ := H
  replace H : (if t112 = true then (if 0 ≤ (mn (mx a1 0) (t111.size : Int)) then (if (mn (mx a1 0) (t111.size : Int)) ≤ (t111.size : Int) then ((crc_State_Add.f 0 (t111.extract 0 ((mn (mx a1 0) (t111.size : Int)) : Int).toNat)).bind fun t113 => (if (mn (mx a1 0) (t111.size : Int)) ≤ (mn (mx a2 (mn (mx a1 0) (t111.size : Int))) (t111.size : Int)) then (if (mn (mx a2 (mn (mx a1 0) (t111.size : Int))) (t111.size : Int)) ≤ (t111.size : Int) then ((crc_State_Add.f t113 (t111.extract ((mn (mx a1 0) (t111.size : Int)) : Int).toNat ((mn (mx a2 (mn (mx a1 0) (t111.size : Int))) (t111.size : Int)) : Int).toNat)).bind fun t115 => ((crc_Of.f k (([t111] : List ByteArray))).bind fun t120 => ((shunterref03_Sum.f k t111).bind fun t121 => (if t120 = t121 then (if 0 ≤ (mn (mx a2 (mn (mx a1 0) (t111.size : Int))) (t111.size : Int)) then ((crc_Of.f k (([t111.extract 0 ((mn (mx a1 0) (t111.size : Int)) : Int).toNat, t111.extract ((mn (mx a1 0) (t111.size : Int)) : Int).toNat ((mn (mx a2 (mn (mx a1 0) (t111.size : Int))) (t111.size : Int)) : Int).toNat, t111.extract ((mn (mx a2 (mn (mx a1 0) (t111.size : Int))) (t111.size : Int)) : Int).toNat t111.size] : List ByteArray))).bind fun t125 => ((shunterref03_Sum.f k t111).bind fun t126 => (if t125 = t126 then ((crc_State_Add.f t115 (t111.extract ((mn (mx a2 (mn (mx a1 0) (t111.size : Int))) (t111.size : Int)) : Int).toNat t111.size)).bind fun t127 => ((crc_State_Sum.f t127).bind fun t128 => ((shunterref03_Sum.f k t111).bind fun t129 => (if t128 = t129 then ((crc_State_Sum.f t113).bind fun t130 => ((shunterref03_Sum.f k (t111.extract 0 ((mn (mx a1 0) (t111.size : Int)) : Int).toNat)).bind fun t131 => (some (t130 == t131)))) else (some false))))) else (some false)))) else (none)) else (some false))))) else (none)) else (none))) else (none)) else (none)) else (some false)) = some r := H
  have A5 := Aside0.mk A50
  clear A50
  by_cases c6 : t112 = true
  · subst c6
    have H1 : (if 0 ≤ (mn (mx a1 0) (t111.size : Int)) then (if (mn (mx a1 0) (t111.size : Int)) ≤ (t111.size : Int) then ((crc_State_Add.f 0 (t111.extract 0 ((mn (mx a1 0) (t111.size : Int)) : Int).toNat)).bind fun t113 => (if (mn (mx a1 0) (t111.size : Int)) ≤ (mn (mx a2 (mn (mx a1 0) (t111.size : Int))) (t111.size : Int)) then (if (mn (mx a2 (mn (mx a1 0) (t111.size : Int))) (t111.size : Int)) ≤ (t111.size : Int) then ((crc_State_Add.f t113 (t111.extract ((mn (mx a1 0) (t111.size : Int)) : Int).toNat ((mn (mx a2 (mn (mx a1 0) (t111.size : Int))) (t111.size : Int)) : Int).toNat)).bind fun t115 => ((crc_Of.f k (([t111] : List ByteArray))).bind fun t120 => ((shunterref03_Sum.f k t111).bind fun t121 => (if t120 = t121 then (if 0 ≤ (mn (mx a2 (mn (mx a1 0) (t111.size : Int))) (t111.size : Int)) then ((crc_Of.f k (([t111.extract 0 ((mn (mx a1 0) (t111.size : Int)) : Int).toNat, t111.extract ((mn (mx a1 0) (t111.size : Int)) : Int).toNat ((mn (mx a2 (mn (mx a1 0) (t111.size : Int))) (t111.size : Int)) : Int).toNat, t111.extract ((mn (mx a2 (mn (mx a1 0) (t111.size : Int))) (t111.size : Int)) : Int).toNat t111.size] : List ByteArray))).bind fun t125 => ((shunterref03_Sum.f k t111).bind fun t126 => (if t125 = t126 then ((crc_State_Add.f t115 (t111.extract ((mn (mx a2 (mn (mx a1 0) (t111.size : Int))) (t111.size : Int)) : Int).toNat t111.size)).bind fun t127 => ((crc_State_Sum.f t127).bind fun t128 => ((shunterref03_Sum.f k t111).bind fun t129 => (if t128 = t129 then ((crc_State_Sum.f t113).bind fun t130 => ((shunterref03_Sum.f k (t111.extract 0 ((mn (mx a1 0) (t111.size : Int)) : Int).toNat)).bind fun t131 => (some (t130 == t131)))) else (some false))))) else (some false)))) else (none)) else (some false))))) else (none)) else (none))) else (none)) else (none)) = some r := by rw [if_pos rfl] at H; exact H
    clear H
    have H := H1
    clear H1
    obtain ⟨ji7, hji7⟩ : ∃ j_ : Int, (mx a1 0) = j_ := ⟨_, rfl⟩
    replace H : (if 0 ≤ (mn (ji7) (t111.size : Int)) then (if (mn (ji7) (t111.size : Int)) ≤ (t111.size : Int) then ((crc_State_Add.f 0 (t111.extract 0 ((mn (ji7) (t111.size : Int)) : Int).toNat)).bind fun t113 => (if (mn (ji7) (t111.size : Int)) ≤ (mn (mx a2 (mn (ji7) (t111.size : Int))) (t111.size : Int)) then (if (mn (mx a2 (mn (ji7) (t111.size : Int))) (t111.size : Int)) ≤ (t111.size : Int) then ((crc_State_Add.f t113 (t111.extract ((mn (ji7) (t111.size : Int)) : Int).toNat ((mn (mx a2 (mn (ji7) (t111.size : Int))) (t111.size : Int)) : Int).toNat)).bind fun t115 => ((crc_Of.f k (([t111] : List ByteArray))).bind fun t120 => ((shunterref03_Sum.f k t111).bind fun t121 => (if t120 = t121 then (if 0 ≤ (mn (mx a2 (mn (ji7) (t111.size : Int))) (t111.size : Int)) then ((crc_Of.f k (([t111.extract 0 ((mn (ji7) (t111.size : Int)) : Int).toNat, t111.extract ((mn (ji7) (t111.size : Int)) : Int).toNat ((mn (mx a2 (mn (ji7) (t111.size : Int))) (t111.size : Int)) : Int).toNat, t111.extract ((mn (mx a2 (mn (ji7) (t111.size : Int))) (t111.size : Int)) : Int).toNat t111.size] : List ByteArray))).bind fun t125 => ((shunterref03_Sum.f k t111).bind fun t126 => (if t125 = t126 then ((crc_State_Add.f t115 (t111.extract ((mn (mx a2 (mn (ji7) (t111.size : Int))) (t111.size : Int)) : Int).toNat t111.size)).bind fun t127 => ((crc_State_Sum.f t127).bind fun t128 => ((shunterref03_Sum.f k t111).bind fun t129 => (if t128 = t129 then ((crc_State_Sum.f t113).bind fun t130 => ((shunterref03_Sum.f k (t111.extract 0 ((mn (ji7) (t111.size : Int)) : Int).toNat)).bind fun t131 => (some (t130 == t131)))) else (some false))))) else (some false)))) else (none)) else (some false))))) else (none)) else (none))) else (none)) else (none)) = some r := by first | (rw [hji7] at H; exact H) | (simp only [hji7] at H ⊢; exact H)
    (try rw [hji7] at A4)
    (try rw [hji7] at A5)
    (try (have hji7l : 0 ≤ ji7 := by (rw [← hji7]; unfold mx; (repeat' split) <;> omega)))
    (try (have hji7m : 0 ≤ ji7 := by omega))
    have hji7_ : (if a1 < 0 then 0 else a1) = ji7 := hji7
    obtain ⟨ji8, hji8⟩ : ∃ j_ : Int, (mn (ji7) (t111.size : Int)) = j_ := ⟨_, rfl⟩
    replace H : (if 0 ≤ (ji8) then (if (ji8) ≤ (t111.size : Int) then ((crc_State_Add.f 0 (t111.extract 0 ((ji8) : Int).toNat)).bind fun t113 => (if (ji8) ≤ (mn (mx a2 (ji8)) (t111.size : Int)) then (if (mn (mx a2 (ji8)) (t111.size : Int)) ≤ (t111.size : Int) then ((crc_State_Add.f t113 (t111.extract ((ji8) : Int).toNat ((mn (mx a2 (ji8)) (t111.size : Int)) : Int).toNat)).bind fun t115 => ((crc_Of.f k (([t111] : List ByteArray))).bind fun t120 => ((shunterref03_Sum.f k t111).bind fun t121 => (if t120 = t121 then (if 0 ≤ (mn (mx a2 (ji8)) (t111.size : Int)) then ((crc_Of.f k (([t111.extract 0 ((ji8) : Int).toNat, t111.extract ((ji8) : Int).toNat ((mn (mx a2 (ji8)) (t111.size : Int)) : Int).toNat, t111.extract ((mn (mx a2 (ji8)) (t111.size : Int)) : Int).toNat t111.size] : List ByteArray))).bind fun t125 => ((shunterref03_Sum.f k t111).bind fun t126 => (if t125 = t126 then ((crc_State_Add.f t115 (t111.extract ((mn (mx a2 (ji8)) (t111.size : Int)) : Int).toNat t111.size)).bind fun t127 => ((crc_State_Sum.f t127).bind fun t128 => ((shunterref03_Sum.f k t111).bind fun t129 => (if t128 = t129 then ((crc_State_Sum.f t113).bind fun t130 => ((shunterref03_Sum.f k (t111.extract 0 ((ji8) : Int).toNat)).bind fun t131 => (some (t130 == t131)))) else (some false))))) else (some false)))) else (none)) else (some false))))) else (none)) else (none))) else (none)) else (none)) = some r := by first | (rw [hji8] at H; exact H) | (simp only [hji8] at H ⊢; exact H)
    (try rw [hji8] at A4)
    (try rw [hji8] at A5)
    have hji8_ : (if (t111.size : Int) < (ji7) then (t111.size : Int) else (ji7)) = ji8 := hji8
    obtain ⟨ji9, hji9⟩ : ∃ j_ : Int, (mx a2 (ji8)) = j_ := ⟨_, rfl⟩
    replace H : (if 0 ≤ (ji8) then (if (ji8) ≤ (t111.size : Int) then ((crc_State_Add.f 0 (t111.extract 0 ((ji8) : Int).toNat)).bind fun t113 => (if (ji8) ≤ (mn (ji9) (t111.size : Int)) then (if (mn (ji9) (t111.size : Int)) ≤ (t111.size : Int) then ((crc_State_Add.f t113 (t111.extract ((ji8) : Int).toNat ((mn (ji9) (t111.size : Int)) : Int).toNat)).bind fun t115 => ((crc_Of.f k (([t111] : List ByteArray))).bind fun t120 => ((shunterref03_Sum.f k t111).bind fun t121 => (if t120 = t121 then (if 0 ≤ (mn (ji9) (t111.size : Int)) then ((crc_Of.f k (([t111.extract 0 ((ji8) : Int).toNat, t111.extract ((ji8) : Int).toNat ((mn (ji9) (t111.size : Int)) : Int).toNat, t111.extract ((mn (ji9) (t111.size : Int)) : Int).toNat t111.size] : List ByteArray))).bind fun t125 => ((shunterref03_Sum.f k t111).bind fun t126 => (if t125 = t126 then ((crc_State_Add.f t115 (t111.extract ((mn (ji9) (t111.size : Int)) : Int).toNat t111.size)).bind fun t127 => ((crc_State_Sum.f t127).bind fun t128 => ((shunterref03_Sum.f k t111).bind fun t129 => (if t128 = t129 then ((crc_State_Sum.f t113).bind fun t130 => ((shunterref03_Sum.f k (t111.extract 0 ((ji8) : Int).toNat)).bind fun t131 => (some (t130 == t131)))) else (some false))))) else (some false)))) else (none)) else (some false))))) else (none)) else (none))) else (none)) else (none)) = some r := by first | (rw [hji9] at H; exact H) | (simp only [hji9] at H ⊢; exact H)
    (try rw [hji9] at A4)
    (try rw [hji9] at A5)
    have hji9_ : (if a2 < (ji8) then (ji8) else a2) = ji9 := hji9
    obtain ⟨ji10, hji10⟩ : ∃ j_ : Int, (mn (ji9) (t111.size : Int)) = j_ := ⟨_, rfl⟩
    replace H : (if 0 ≤ (ji8) then (if (ji8) ≤ (t111.size : Int) then ((crc_State_Add.f 0 (t111.extract 0 ((ji8) : Int).toNat)).bind fun t113 => (if (ji8) ≤ (ji10) then (if (ji10) ≤ (t111.size : Int) then ((crc_State_Add.f t113 (t111.extract ((ji8) : Int).toNat ((ji10) : Int).toNat)).bind fun t115 => ((crc_Of.f k (([t111] : List ByteArray))).bind fun t120 => ((shunterref03_Sum.f k t111).bind fun t121 => (if t120 = t121 then (if 0 ≤ (ji10) then ((crc_Of.f k (([t111.extract 0 ((ji8) : Int).toNat, t111.extract ((ji8) : Int).toNat ((ji10) : Int).toNat, t111.extract ((ji10) : Int).toNat t111.size] : List ByteArray))).bind fun t125 => ((shunterref03_Sum.f k t111).bind fun t126 => (if t125 = t126 then ((crc_State_Add.f t115 (t111.extract ((ji10) : Int).toNat t111.size)).bind fun t127 => ((crc_State_Sum.f t127).bind fun t128 => ((shunterref03_Sum.f k t111).bind fun t129 => (if t128 = t129 then ((crc_State_Sum.f t113).bind fun t130 => ((shunterref03_Sum.f k (t111.extract 0 ((ji8) : Int).toNat)).bind fun t131 => (some (t130 == t131)))) else (some false))))) else (some false)))) else (none)) else (some false))))) else (none)) else (none))) else (none)) else (none)) = some r := by first | (rw [hji10] at H; exact H) | (simp only [hji10] at H ⊢; exact H)
    (try rw [hji10] at A4)
    (try rw [hji10] at A5)
    have hji10_ : (if (t111.size : Int) < (ji9) then (t111.size : Int) else (ji9)) = ji10 := hji10
    by_cases c11 : 0 ≤ (ji8)
    · rw [if_pos c11] at H
      have c11b0 := eq_true c11
      have c11b1 : decide (0 ≤ (ji8)) = true := decide_eq_true c11
      clear c11
      by_cases c12 : (ji8) ≤ (t111.size : Int)
      · rw [if_pos c12] at H
        have c12b0 := eq_true c12
        have c12b1 : decide ((ji8) ≤ (t111.size : Int)) = true := decide_eq_true c12
        clear c12
        replace H := Option.bind_eq_some_iff.mp H
        obtain ⟨t113, A130, H⟩ := H
        replace H : (if (ji8) ≤ (ji10) then (if (ji10) ≤ (t111.size : Int) then ((crc_State_Add.f t113 (t111.extract ((ji8) : Int).toNat ((ji10) : Int).toNat)).bind fun t115 => ((crc_Of.f k (([t111] : List ByteArray))).bind fun t120 => ((shunterref03_Sum.f k t111).bind fun t121 => (if t120 = t121 then (if 0 ≤ (ji10) then ((crc_Of.f k (([t111.extract 0 ((ji8) : Int).toNat, t111.extract ((ji8) : Int).toNat ((ji10) : Int).toNat, t111.extract ((ji10) : Int).toNat t111.size] : List ByteArray))).bind fun t125 => ((shunterref03_Sum.f k t111).bind fun t126 => (if t125 = t126 then ((crc_State_Add.f t115 (t111.extract ((ji10) : Int).toNat t111.size)).bind fun t127 => ((crc_State_Sum.f t127).bind fun t128 => ((shunterref03_Sum.f k t111).bind fun t129 => (if t128 = t129 then ((crc_State_Sum.f t113).bind fun t130 => ((shunterref03_Sum.f k (t111.extract 0 ((ji8) : Int).toNat)).bind fun t131 => (some (t130 == t131)))) else (some false))))) else (some false)))) else (none)) else (some false))))) else (none)) else (none)) = some r := H
        have A13 := Aside0.mk A130
        clear A130
        have c14b0 := eq_true (of_decide_eq_true (by first | (with_reducible assumption) | assumption) : 0 ≤ (ji8))
        by_cases c15 : (ji8) ≤ (ji10)
        · rw [if_pos c15] at H
          have c15b0 := eq_true c15
          have c15b1 : decide ((ji8) ≤ (ji10)) = true := decide_eq_true c15
          clear c15
          by_cases c16 : (ji10) ≤ (t111.size : Int)
          · rw [if_pos c16] at H
            have c16b0 := eq_true c16
            have c16b1 : decide ((ji10) ≤ (t111.size : Int)) = true := decide_eq_true c16
            clear c16
            replace H := Option.bind_eq_some_iff.mp H
            obtain ⟨t115, A170, H⟩ := H
            replace H : ((crc_Of.f k (([t111] : List ByteArray))).bind fun t120 => ((shunterref03_Sum.f k t111).bind fun t121 => (if t120 = t121 then (if 0 ≤ (ji10) then ((crc_Of.f k (([t111.extract 0 ((ji8) : Int).toNat, t111.extract ((ji8) : Int).toNat ((ji10) : Int).toNat, t111.extract ((ji10) : Int).toNat t111.size] : List ByteArray))).bind fun t125 => ((shunterref03_Sum.f k t111).bind fun t126 => (if t125 = t126 then ((crc_State_Add.f t115 (t111.extract ((ji10) : Int).toNat t111.size)).bind fun t127 => ((crc_State_Sum.f t127).bind fun t128 => ((shunterref03_Sum.f k t111).bind fun t129 => (if t128 = t129 then ((crc_State_Sum.f t113).bind fun t130 => ((shunterref03_Sum.f k (t111.extract 0 ((ji8) : Int).toNat)).bind fun t131 => (some (t130 == t131)))) else (some false))))) else (some false)))) else (none)) else (some false)))) = some r := H
            have A17 := Aside0.mk A170
            clear A170
            obtain ⟨y117, hy117⟩ : ∃ y_ : List ByteArray, y_ = (([t111] : List ByteArray)) := ⟨_, rfl⟩
            replace H : ((crc_Of.f k y117).bind fun t120 => ((shunterref03_Sum.f k t111).bind fun t121 => (if t120 = t121 then (if 0 ≤ (ji10) then ((crc_Of.f k (([t111.extract 0 ((ji8) : Int).toNat, t111.extract ((ji8) : Int).toNat ((ji10) : Int).toNat, t111.extract ((ji10) : Int).toNat t111.size] : List ByteArray))).bind fun t125 => ((shunterref03_Sum.f k t111).bind fun t126 => (if t125 = t126 then ((crc_State_Add.f t115 (t111.extract ((ji10) : Int).toNat t111.size)).bind fun t127 => ((crc_State_Sum.f t127).bind fun t128 => ((shunterref03_Sum.f k t111).bind fun t129 => (if t128 = t129 then ((crc_State_Sum.f t113).bind fun t130 => ((shunterref03_Sum.f k (t111.extract 0 ((ji8) : Int).toNat)).bind fun t131 => (some (t130 == t131)))) else (some false))))) else (some false)))) else (none)) else (some false)))) = some r := by first | (rw [hy117]; with_reducible exact H) | (have H2_ := (Option.bind_some _ _).symm.trans H; rw [hy117]; with_reducible exact H2_) | (have H2_ := (Option.bind_some _ _).symm.trans H; with_reducible exact H2_) | with_reducible exact H | (rw [hy117]; exact H) | exact H
            have Ny117 := Aside0.mk hy117
            clear hy117
            replace H := Option.bind_eq_some_iff.mp H
            obtain ⟨t120, A180, H⟩ := H
            replace H : ((shunterref03_Sum.f k t111).bind fun t121 => (if t120 = t121 then (if 0 ≤ (ji10) then ((crc_Of.f k (([t111.extract 0 ((ji8) : Int).toNat, t111.extract ((ji8) : Int).toNat ((ji10) : Int).toNat, t111.extract ((ji10) : Int).toNat t111.size] : List ByteArray))).bind fun t125 => ((shunterref03_Sum.f k t111).bind fun t126 => (if t125 = t126 then ((crc_State_Add.f t115 (t111.extract ((ji10) : Int).toNat t111.size)).bind fun t127 => ((crc_State_Sum.f t127).bind fun t128 => ((shunterref03_Sum.f k t111).bind fun t129 => (if t128 = t129 then ((crc_State_Sum.f t113).bind fun t130 => ((shunterref03_Sum.f k (t111.extract 0 ((ji8) : Int).toNat)).bind fun t131 => (some (t130 == t131)))) else (some false))))) else (some false)))) else (none)) else (some false))) = some r := H
            have A18 := Aside0.mk A180
            clear A180
            replace H := Option.bind_eq_some_iff.mp H
            obtain ⟨t121, A190, H⟩ := H
            replace H : (if t120 = t121 then (if 0 ≤ (ji10) then ((crc_Of.f k (([t111.extract 0 ((ji8) : Int).toNat, t111.extract ((ji8) : Int).toNat ((ji10) : Int).toNat, t111.extract ((ji10) : Int).toNat t111.size] : List ByteArray))).bind fun t125 => ((shunterref03_Sum.f k t111).bind fun t126 => (if t125 = t126 then ((crc_State_Add.f t115 (t111.extract ((ji10) : Int).toNat t111.size)).bind fun t127 => ((crc_State_Sum.f t127).bind fun t128 => ((shunterref03_Sum.f k t111).bind fun t129 => (if t128 = t129 then ((crc_State_Sum.f t113).bind fun t130 => ((shunterref03_Sum.f k (t111.extract 0 ((ji8) : Int).toNat)).bind fun t131 => (some (t130 == t131)))) else (some false))))) else (some false)))) else (none)) else (some false)) = some r := H
            have A19 := Aside0.mk A190
            clear A190
            by_cases c20 : t120 = t121
            · rw [if_pos c20] at H
              have c20b0 : (t120 == t121) = true := beq_iff_eq.mpr c20
              have c20b1 : (t120 != t121) = false := bne_eq_false_iff_eq.mpr c20
              clear c20
              have c21b0 := eq_true (of_decide_eq_true (by first | (with_reducible assumption) | assumption) : 0 ≤ (ji8))
              have c22b0 := eq_true (of_decide_eq_true (by first | (with_reducible assumption) | assumption) : (ji8) ≤ (t111.size : Int))
              have c23b0 := eq_true (of_decide_eq_true (by first | (with_reducible assumption) | assumption) : 0 ≤ (ji8))
              have c24b0 := eq_true (of_decide_eq_true (by first | (with_reducible assumption) | assumption) : (ji8) ≤ (ji10))
              have c25b0 := eq_true (of_decide_eq_true (by first | (with_reducible assumption) | assumption) : (ji10) ≤ (t111.size : Int))
              by_cases c26 : 0 ≤ (ji10)
              · rw [if_pos c26] at H
                have c26b0 := eq_true c26
                have c26b1 : decide (0 ≤ (ji10)) = true := decide_eq_true c26
                clear c26
                have c27b0 := eq_true (of_decide_eq_true (by first | (with_reducible assumption) | assumption) : (ji10) ≤ (t111.size : Int))
                obtain ⟨y122, hy122⟩ : ∃ y_ : List ByteArray, y_ = (([t111.extract 0 ((ji8) : Int).toNat, t111.extract ((ji8) : Int).toNat ((ji10) : Int).toNat, t111.extract ((ji10) : Int).toNat t111.size] : List ByteArray)) := ⟨_, rfl⟩
                replace H : ((crc_Of.f k y122).bind fun t125 => ((shunterref03_Sum.f k t111).bind fun t126 => (if t125 = t126 then ((crc_State_Add.f t115 (t111.extract ((ji10) : Int).toNat t111.size)).bind fun t127 => ((crc_State_Sum.f t127).bind fun t128 => ((shunterref03_Sum.f k t111).bind fun t129 => (if t128 = t129 then ((crc_State_Sum.f t113).bind fun t130 => ((shunterref03_Sum.f k (t111.extract 0 ((ji8) : Int).toNat)).bind fun t131 => (some (t130 == t131)))) else (some false))))) else (some false)))) = some r := by first | (rw [hy122]; with_reducible exact H) | (have H2_ := (Option.bind_some _ _).symm.trans H; rw [hy122]; with_reducible exact H2_) | (have H2_ := (Option.bind_some _ _).symm.trans H; with_reducible exact H2_) | with_reducible exact H | (rw [hy122]; exact H) | exact H
                have Ny122 := Aside0.mk hy122
                clear hy122
                replace H := Option.bind_eq_some_iff.mp H
                obtain ⟨t125, A280, H⟩ := H
                replace H : ((shunterref03_Sum.f k t111).bind fun t126 => (if t125 = t126 then ((crc_State_Add.f t115 (t111.extract ((ji10) : Int).toNat t111.size)).bind fun t127 => ((crc_State_Sum.f t127).bind fun t128 => ((shunterref03_Sum.f k t111).bind fun t129 => (if t128 = t129 then ((crc_State_Sum.f t113).bind fun t130 => ((shunterref03_Sum.f k (t111.extract 0 ((ji8) : Int).toNat)).bind fun t131 => (some (t130 == t131)))) else (some false))))) else (some false))) = some r := H
                have A28 := Aside0.mk A280
                clear A280
                replace H := Option.bind_eq_some_iff.mp H
                obtain ⟨t126, A290, H⟩ := H
                replace H : (if t125 = t126 then ((crc_State_Add.f t115 (t111.extract ((ji10) : Int).toNat t111.size)).bind fun t127 => ((crc_State_Sum.f t127).bind fun t128 => ((shunterref03_Sum.f k t111).bind fun t129 => (if t128 = t129 then ((crc_State_Sum.f t113).bind fun t130 => ((shunterref03_Sum.f k (t111.extract 0 ((ji8) : Int).toNat)).bind fun t131 => (some (t130 == t131)))) else (some false))))) else (some false)) = some r := H
                have A29 := Aside0.mk A290
                clear A290
                by_cases c30 : t125 = t126
                · rw [if_pos c30] at H
                  have c30b0 : (t125 == t126) = true := beq_iff_eq.mpr c30
                  have c30b1 : (t125 != t126) = false := bne_eq_false_iff_eq.mpr c30
                  clear c30
                  have c31b0 := eq_true (of_decide_eq_true (by first | (with_reducible assumption) | assumption) : 0 ≤ (ji10))
                  have c32b0 := eq_true (of_decide_eq_true (by first | (with_reducible assumption) | assumption) : (ji10) ≤ (t111.size : Int))
                  replace H := Option.bind_eq_some_iff.mp H
                  obtain ⟨t127, A330, H⟩ := H
                  replace H : ((crc_State_Sum.f t127).bind fun t128 => ((shunterref03_Sum.f k t111).bind fun t129 => (if t128 = t129 then ((crc_State_Sum.f t113).bind fun t130 => ((shunterref03_Sum.f k (t111.extract 0 ((ji8) : Int).toNat)).bind fun t131 => (some (t130 == t131)))) else (some false)))) = some r := H
                  have A33 := Aside0.mk A330
                  clear A330
                  replace H := Option.bind_eq_some_iff.mp H
                  obtain ⟨t128, A340, H⟩ := H
                  replace H : ((shunterref03_Sum.f k t111).bind fun t129 => (if t128 = t129 then ((crc_State_Sum.f t113).bind fun t130 => ((shunterref03_Sum.f k (t111.extract 0 ((ji8) : Int).toNat)).bind fun t131 => (some (t130 == t131)))) else (some false))) = some r := H
                  have A34 := Aside0.mk A340
                  clear A340
                  replace H := Option.bind_eq_some_iff.mp H
                  obtain ⟨t129, A350, H⟩ := H
                  replace H : (if t128 = t129 then ((crc_State_Sum.f t113).bind fun t130 => ((shunterref03_Sum.f k (t111.extract 0 ((ji8) : Int).toNat)).bind fun t131 => (some (t130 == t131)))) else (some false)) = some r := H
                  have A35 := Aside0.mk A350
                  clear A350
                  by_cases c36 : t128 = t129
                  · rw [if_pos c36] at H
                    have c36b0 : (t128 == t129) = true := beq_iff_eq.mpr c36
                    have c36b1 : (t128 != t129) = false := bne_eq_false_iff_eq.mpr c36
                    clear c36
                    replace H := Option.bind_eq_some_iff.mp H
                    obtain ⟨t130, A370, H⟩ := H
                    replace H : ((shunterref03_Sum.f k (t111.extract 0 ((ji8) : Int).toNat)).bind fun t131 => (some (t130 == t131))) = some r := H
                    have A37 := Aside0.mk A370
                    clear A370
                    have c38b0 := eq_true (of_decide_eq_true (by first | (with_reducible assumption) | assumption) : 0 ≤ (ji8))
                    have c39b0 := eq_true (of_decide_eq_true (by first | (with_reducible assumption) | assumption) : (ji8) ≤ (t111.size : Int))
                    replace H := Option.bind_eq_some_iff.mp H
                    obtain ⟨t131, A400, H⟩ := H
                    replace H : (some (t130 == t131)) = some r := H
                    have A40 := Aside0.mk A400
                    clear A400
                    obtain rfl := Option.some.inj H
                    go_enter Try.func10, Try.ntmps10
                    try go_wp2_with (first | ((with_reducible refine gate_callee (f := 24) rfl ?_); refine goesL_ (some 10) rfl rfl Try.func24 (by kernel_rfl) rfl #[.string a0, .int .i64 200] rfl (by (try simp only [List.map_toArray, List.map_cons, List.map_nil]); first | done | rfl | (simp only [List.length_drop, List.length_take]; rfl)) ?_; (with_reducible refine (shunterlaw01_Cut.calls a0 200 t111 _ A4.out).mono ?_); rintro e w' ⟨rfl, ⟨nd, rfl⟩⟩; refine ⟨_, rfl, ?_⟩) | ((with_reducible refine gate_callee (f := 34) rfl ?_); refine goesL_ (some 11) rfl rfl Try.func34 (by kernel_rfl) rfl #[] rfl (by (try simp only [List.map_toArray, List.map_cons, List.map_nil]); first | done | rfl | (simp only [List.length_drop, List.length_take]; rfl)) ?_; (with_reducible refine (shunterlaw03_awake.calls k  true _ A5.out).mono ?_); rintro e w41 ⟨rfl, hb⟩; refine ⟨_, rfl, ?_⟩; have n0_ := Aside0.mk (below_step (by repeat (first | (with_reducible first | exact HB.out | apply below_alloc | apply pw_below_drewN | apply below_drew1) | exact HB.out)) hb); clear HB; have HB := n0_; clear n0_; (try clear hb); (try clear hb2); (try clear hk); (try clear hi)) | ((with_reducible refine gate_callee (f := 35) rfl ?_); refine goesL_ (some 28) rfl rfl Try.func35 (by kernel_rfl) rfl #[.agg #[.int .u32 0], .string (t111.extract 0 ((ji8) : Int).toNat)] rfl (by (try simp only [List.map_toArray, List.map_cons, List.map_nil]); first | done | (simp only [hji8]; rfl) | rfl | (simp only [List.length_drop, List.length_take]; rfl)) ?_; (with_reducible refine (crc_State_Add.calls 0 (t111.extract 0 ((ji8) : Int).toNat) t113 _ A13.out).mono ?_); rintro e w42 ⟨rfl, hb⟩; refine ⟨_, rfl, ?_⟩; have n0_ := Aside0.mk (below_step (by repeat (first | (with_reducible first | exact HB.out | apply below_alloc | apply pw_below_drewN | apply below_drew1) | exact HB.out)) hb); clear HB; have HB := n0_; clear n0_; (try clear hb); (try clear hb2); (try clear hk); (try clear hi)) | ((with_reducible refine gate_dst (N := 7) rfl ?_); (try (refine gate_guard (by rfl) ?_; dsimp only)); refine box_event ?hg (N := 7) ?hd (cs := #[.int .u32 0]) (t := 60) ?hr ?_; (case hd => rfl); (case hg => rfl); (case hr => first | (go_simp; done) | (go_simp; rfl)); intro gb114 hg w43 hbox hb; have n0_ := Aside0.mk (below_step (by repeat (first | (with_reducible first | exact HB.out | apply below_alloc | apply pw_below_drewN | apply below_drew1) | exact HB.out)) hb); have n1_ := Aside0.mk (hbox); have n2_ := Aside0.mk ((by rw [hg]; exact (below_size (by repeat (first | (with_reducible first | exact HB.out | apply below_alloc | apply pw_below_drewN | apply below_drew1) | exact HB.out))) : w.heap.size ≤ gb114)); have n3_ := Aside0.mk ((by rw [hg]; exact (below_size (by repeat (first | (with_reducible first | exact HB.out | apply below_alloc | apply pw_below_drewN | apply below_drew1) | exact HB.out))) : w.heap.size ≤ gb114)); clear HB; have HB := n0_; have BK114 := n1_; have GW114 := n2_; have GE114 := n3_; clear n0_ n1_ n2_ n3_; clear hb hbox hg; have hcz44_0 : w43.cell? ⟨gb114, 0, none⟩ = some (.int .u32 0) := (blk_cell BK114.out 0).trans rfl; have hfz44_0 := blk_frozen BK114.out 0))
                    have n0_ : Aside0 ((w43.setCell ⟨gb114, 0, none⟩ (.int .u32 t113)).heap[gb114]? = some (.cells #[.int .u32 t113] 60 (0, 0))) := ⟨by (with_reducible repeat (first | refine blk_drewN ?_ _ | refine blk_drew ?_ | refine blk_alloc ?_ _)); refine blk_put (cs := #[.int .u32 0]) ?_ 0 _ rfl; (with_reducible repeat (first | refine blk_drewN ?_ _ | refine blk_drew ?_ | refine blk_alloc ?_ _)); exact BK114.out⟩
                    have n1_ : Aside0 (Below w.heap.size w (w43.setCell ⟨gb114, 0, none⟩ (.int .u32 t113))) := ⟨by repeat (first | (with_reducible first | exact HB.out | apply below_alloc | apply pw_below_drewN | apply below_drew1 | refine below_set ?_ GE114.out) | exact HB.out)⟩
                    (try clear BK114)
                    (try clear HB)
                    generalize (w43.setCell ⟨gb114, 0, none⟩ (.int .u32 t113)) = w45 at n0_ n1_ ⊢
                    have BK114 := n0_
                    have HB := n1_
                    clear n0_ n1_
                    have n0_ := Aside0.mk (blk_drew BK114.out)
                    have n1_ := Aside0.mk (below_drew1 HB.out)
                    clear BK114
                    clear HB
                    have BK114 := n0_
                    have HB := n1_
                    clear n0_ n1_
                    refine start_ (n := 8) (S := fun w' => w'.cell? ⟨gb114, 0, none⟩ = some (.int .u32 t113)) (ds := []) #[false, false, false, false, false, false, false, false] (by kernel_rfl) rfl rfl ((blk_cell BK114.out 0).trans rfl) (fun hHeld => ?_); refine with_tabW shunterlaw03_CrcSums.tab7 shunterlaw03_CrcSums.bits7 (fun HT_ HW_ => ?_)
                    generalize w45.drew = w46 at BK114 HB hHeld ⊢
                    refine pure_ (i := 1) (N := some 30) (v := ?_) (a' := ?_) #[false, true, false, false, false, false, false, false] rfl rfl (any_of HT_.out (by kernel_rfl)) (fun _ _ _ h => h) (Or.inl ⟨by rfl, ?_⟩) ?_ ?_
                    rotate_left
                    · intro w'
                      go_simp
                      with_reducible rfl
                    rotate_left
                    · simp only [Act.put, List.setIfInBounds_toArray, List.set_cons_zero, List.set_cons_succ, i64_w, i32_w]
                      rfl
                    refine pure_ (i := 2) (N := some 31) (v := ?_) (a' := ?_) #[false, true, true, false, false, false, false, false] rfl rfl (any_of HT_.out (by kernel_rfl)) (fun _ _ _ h => h) (Or.inl ⟨by rfl, ?_⟩) ?_ ?_
                    rotate_left
                    · intro w'
                      go_simp
                      with_reducible rfl
                    rotate_left
                    · simp only [Act.put, List.setIfInBounds_toArray, List.set_cons_zero, List.set_cons_succ, i64_w, i32_w]
                      rfl
                    refine pure_ (i := 3) (N := some 32) (v := ?_) (a' := ?_) #[false, true, true, true, false, false, false, false] rfl rfl (any_of HT_.out (by kernel_rfl)) (fun _ _ _ h => h) (Or.inl ⟨by rfl, ?_⟩) ?_ ?_
                    rotate_left
                    · intro w'
                      go_simp
                      with_reducible rfl
                    rotate_left
                    · simp only [Act.put, List.setIfInBounds_toArray, List.set_cons_zero, List.set_cons_succ, i64_w, i32_w]
                      rfl
                    refine pure_ (i := 4) (N := some 33) (v := ?_) (a' := ?_) #[false, true, true, true, true, false, false, false] rfl rfl (any_of HT_.out (by kernel_rfl)) (fun _ _ _ h => h) (Or.inl ⟨by rfl, ?_⟩) ?_ ?_
                    rotate_left
                    · intro w'
                      go_simp
                      with_reducible rfl
                    rotate_left
                    · simp only [Act.put, List.setIfInBounds_toArray, List.set_cons_zero, List.set_cons_succ, i64_w, i32_w]
                      rfl
                    refine take_ (i := 0) (N := some 29) (v := ?_) (a' := ?_) #[true, true, true, true, true, false, false, false] rfl rfl (take_ofW HT_.out HW_.out (by kernel_rfl)) (fun _ _ _ h => h) (Or.inl ⟨by rfl, ?_⟩) hHeld ?_ ?_
                    rotate_left
                    · intro w' s0
                      go_simp
                      with_reducible rfl
                    rotate_left
                    · simp only [Act.put, List.setIfInBounds_toArray, List.set_cons_zero, List.set_cons_succ, i64_w, i32_w]
                      rfl
                    refine join_ (σ := Nat) 1 #[true, true, true, true, true, true, true, false] (fun s_ => [(34, .agg #[.int .u32 t115]), (8, .pointer (some ⟨s_, 0, none⟩))]) (fun s_ w' => (w'.cell? ⟨gb114, 0, none⟩ = some (.int .u32 t113)) ∧ (w'.heap[gb114]? = some (.cells #[.int .u32 t113] 60 (0, 0))) ∧ (w'.heap[s_]? = some (.cells #[.int .u32 0] 60 (0, 0))) ∧ (w.heap.size ≤ s_) ∧ (w.heap.size ≤ s_) ∧ (gb114 ≠ s_) ∧ (s_ ≠ gb114) ∧ (Below w.heap.size w w')) ?_ ?_
                    rotate_left
                    · intro hCont
                      refine two_ (i := 5) (j := 6) (Ni := some 34) (Nj := some 8) #[true, true, true, true, true, true, false, false] #[true, true, true, true, true, false, true, false] rfl rfl rfl rfl (two_of HT_.out (by kernel_rfl)) (by decide) (by decide) (fun K hK => ?_) (fun K hK => ?_)
                      · skip
                        refine goes_ Try.func35 (by kernel_rfl) rfl #[.agg #[.int .u32 t113], .string (t111.extract ((ji8) : Int).toNat ((ji10) : Int).toNat)] (by rfl) rfl rfl (by (try simp only [List.map_toArray, List.map_cons, List.map_nil]); first | done | (simp only [hji10, hji8]; rfl) | rfl | (simp only [List.length_drop, List.length_take]; rfl)) ?_
                        with_reducible refine (crc_State_Add.calls t113 (t111.extract ((ji8) : Int).toNat ((ji10) : Int).toNat) t115 _ A17.out).mono ?_
                        rintro e w47 ⟨rfl, hb⟩
                        refine ⟨_, rfl, ?_⟩
                        have n0_ := Aside0.mk (blk_below (g := gb114) (o := .cells #[.int .u32 t113] 60 (0, 0)) (by (with_reducible repeat (first | refine blk_drewN ?_ _ | refine blk_drew ?_ | refine blk_alloc ?_ _)); exact BK114.out) hb)
                        have n1_ := Aside0.mk (below_step (by repeat (first | (with_reducible first | exact HB.out | apply below_alloc | apply pw_below_drewN | apply below_drew1 | refine below_set ?_ GE114.out) | exact HB.out)) hb)
                        clear BK114
                        clear HB
                        have BK114 := n0_
                        have HB := n1_
                        clear n0_ n1_
                        (try clear hb)
                        (try clear hb2)
                        (try clear hk)
                        (try clear hi)
                        refine hK.out _ _ ((blk_cell BK114.out 0).trans rfl) (fun hHeld => ?_)
                        clear hK K
                        refine norm_ (a' := ?_) ?_ ?_
                        rotate_left
                        · show Act.put _ (some 34) _ = _
                          simp only [Act.put, List.setIfInBounds_toArray, List.set_cons_zero, List.set_cons_succ, i64_w, i32_w]
                          rfl
                        refine one_ (i := 6) (N := some 8) #[true, true, true, true, true, true, true, false] rfl rfl (one_of HT_.out (by kernel_rfl)) (by decide) (fun K hK => ?_)
                        refine box_step ?hg (N := 8) ?hd (cs := #[.int .u32 0]) (t := 60) ?hr ?_; (case hd => rfl); (case hg => rfl); (case hr => first | (go_simp; done) | (go_simp; rfl))
                        intro gb116 hg w48 hbox hb
                        have n0_ := Aside0.mk (blk_below (g := gb114) (o := .cells #[.int .u32 t113] 60 (0, 0)) (by (with_reducible repeat (first | refine blk_drewN ?_ _ | refine blk_drew ?_ | refine blk_alloc ?_ _)); exact BK114.out) hb)
                        have n1_ := Aside0.mk (below_step (by repeat (first | (with_reducible first | exact HB.out | apply below_alloc | apply pw_below_drewN | apply below_drew1 | refine below_set ?_ GE114.out) | exact HB.out)) hb)
                        have n2_ := Aside0.mk (hbox)
                        have n3_ := Aside0.mk ((by rw [hg]; exact (below_size (by repeat (first | (with_reducible first | exact HB.out | apply below_alloc | apply pw_below_drewN | apply below_drew1 | refine below_set ?_ GE114.out) | exact HB.out))) : w.heap.size ≤ gb116))
                        have n4_ := Aside0.mk ((by rw [hg]; exact (below_size (by repeat (first | (with_reducible first | exact HB.out | apply below_alloc | apply pw_below_drewN | apply below_drew1 | refine below_set ?_ GE114.out) | exact HB.out))) : w.heap.size ≤ gb116))
                        have n5_ := Aside0.mk ((by rw [hg]; exact Nat.ne_of_lt (blk_lt (g := gb114) (o := .cells #[.int .u32 t113] 60 (0, 0)) (by (with_reducible repeat (first | refine blk_drewN ?_ _ | refine blk_drew ?_ | refine blk_alloc ?_ _)); exact BK114.out)) : gb114 ≠ gb116))
                        have n6_ := Aside0.mk ((by rw [hg]; exact Nat.ne_of_gt (blk_lt (g := gb114) (o := .cells #[.int .u32 t113] 60 (0, 0)) (by (with_reducible repeat (first | refine blk_drewN ?_ _ | refine blk_drew ?_ | refine blk_alloc ?_ _)); exact BK114.out)) : gb116 ≠ gb114))
                        clear BK114
                        clear HB
                        have BK114 := n0_
                        have HB := n1_
                        have BK116 := n2_
                        have GW116 := n3_
                        have GE116 := n4_
                        have NB114_116 := n5_
                        have NB116_114 := n6_
                        clear n0_ n1_ n2_ n3_ n4_ n5_ n6_
                        clear hb hbox hg
                        refine hK.out _ _ ((blk_cell BK114.out 0).trans rfl) (fun hHeld => ?_)
                        clear hK K
                        refine norm_ (a' := ?_) ?_ ?_
                        rotate_left
                        · show Act.put _ (some 8) _ = _
                          simp only [Act.put, List.setIfInBounds_toArray, List.set_cons_zero, List.set_cons_succ, i64_w, i32_w]
                          rfl
                        exact norm_ (by simp only [putAll, Act.put, List.setIfInBounds_toArray, List.set_cons_zero, List.set_cons_succ]) (hCont (gb116) _ ⟨hHeld, (by (with_reducible repeat (first | refine blk_drewN ?_ _ | refine blk_drew ?_ | refine blk_alloc ?_ _)); exact BK114.out), (by (with_reducible repeat (first | refine blk_drewN ?_ _ | refine blk_drew ?_ | refine blk_alloc ?_ _)); exact BK116.out), GW116.out, GE116.out, NB114_116.out, NB116_114.out, (by repeat (first | (with_reducible first | exact HB.out | apply below_alloc | apply pw_below_drewN | apply below_drew1 | refine below_set ?_ GE114.out | refine below_set ?_ GE116.out) | exact HB.out))⟩)
                      · skip
                        refine box_step ?hg (N := 8) ?hd (cs := #[.int .u32 0]) (t := 60) ?hr ?_; (case hd => rfl); (case hg => rfl); (case hr => first | (go_simp; done) | (go_simp; rfl))
                        intro gb116 hg w47 hbox hb
                        have n0_ := Aside0.mk (blk_below (g := gb114) (o := .cells #[.int .u32 t113] 60 (0, 0)) (by (with_reducible repeat (first | refine blk_drewN ?_ _ | refine blk_drew ?_ | refine blk_alloc ?_ _)); exact BK114.out) hb)
                        have n1_ := Aside0.mk (below_step (by repeat (first | (with_reducible first | exact HB.out | apply below_alloc | apply pw_below_drewN | apply below_drew1 | refine below_set ?_ GE114.out) | exact HB.out)) hb)
                        have n2_ := Aside0.mk (hbox)
                        have n3_ := Aside0.mk ((by rw [hg]; exact (below_size (by repeat (first | (with_reducible first | exact HB.out | apply below_alloc | apply pw_below_drewN | apply below_drew1 | refine below_set ?_ GE114.out) | exact HB.out))) : w.heap.size ≤ gb116))
                        have n4_ := Aside0.mk ((by rw [hg]; exact (below_size (by repeat (first | (with_reducible first | exact HB.out | apply below_alloc | apply pw_below_drewN | apply below_drew1 | refine below_set ?_ GE114.out) | exact HB.out))) : w.heap.size ≤ gb116))
                        have n5_ := Aside0.mk ((by rw [hg]; exact Nat.ne_of_lt (blk_lt (g := gb114) (o := .cells #[.int .u32 t113] 60 (0, 0)) (by (with_reducible repeat (first | refine blk_drewN ?_ _ | refine blk_drew ?_ | refine blk_alloc ?_ _)); exact BK114.out)) : gb114 ≠ gb116))
                        have n6_ := Aside0.mk ((by rw [hg]; exact Nat.ne_of_gt (blk_lt (g := gb114) (o := .cells #[.int .u32 t113] 60 (0, 0)) (by (with_reducible repeat (first | refine blk_drewN ?_ _ | refine blk_drew ?_ | refine blk_alloc ?_ _)); exact BK114.out)) : gb116 ≠ gb114))
                        clear BK114
                        clear HB
                        have BK114 := n0_
                        have HB := n1_
                        have BK116 := n2_
                        have GW116 := n3_
                        have GE116 := n4_
                        have NB114_116 := n5_
                        have NB116_114 := n6_
                        clear n0_ n1_ n2_ n3_ n4_ n5_ n6_
                        clear hb hbox hg
                        refine hK.out _ _ ((blk_cell BK114.out 0).trans rfl) (fun hHeld => ?_)
                        clear hK K
                        refine norm_ (a' := ?_) ?_ ?_
                        rotate_left
                        · show Act.put _ (some 8) _ = _
                          simp only [Act.put, List.setIfInBounds_toArray, List.set_cons_zero, List.set_cons_succ, i64_w, i32_w]
                          rfl
                        refine one_ (i := 5) (N := some 34) #[true, true, true, true, true, true, true, false] rfl rfl (one_of HT_.out (by kernel_rfl)) (by decide) (fun K hK => ?_)
                        refine goes_ Try.func35 (by kernel_rfl) rfl #[.agg #[.int .u32 t113], .string (t111.extract ((ji8) : Int).toNat ((ji10) : Int).toNat)] (by rfl) rfl rfl (by (try simp only [List.map_toArray, List.map_cons, List.map_nil]); first | done | (simp only [hji10, hji8]; rfl) | rfl | (simp only [List.length_drop, List.length_take]; rfl)) ?_
                        with_reducible refine (crc_State_Add.calls t113 (t111.extract ((ji8) : Int).toNat ((ji10) : Int).toNat) t115 _ A17.out).mono ?_
                        rintro e w48 ⟨rfl, hb⟩
                        refine ⟨_, rfl, ?_⟩
                        have n0_ := Aside0.mk (blk_below (g := gb114) (o := .cells #[.int .u32 t113] 60 (0, 0)) (by (with_reducible repeat (first | refine blk_drewN ?_ _ | refine blk_drew ?_ | refine blk_alloc ?_ _)); exact BK114.out) hb)
                        have n1_ := Aside0.mk (blk_below (g := gb116) (o := .cells #[.int .u32 0] 60 (0, 0)) (by (with_reducible repeat (first | refine blk_drewN ?_ _ | refine blk_drew ?_ | refine blk_alloc ?_ _)); exact BK116.out) hb)
                        have n2_ := Aside0.mk (below_step (by repeat (first | (with_reducible first | exact HB.out | apply below_alloc | apply pw_below_drewN | apply below_drew1 | refine below_set ?_ GE114.out | refine below_set ?_ GE116.out) | exact HB.out)) hb)
                        clear BK114
                        clear BK116
                        clear HB
                        have BK114 := n0_
                        have BK116 := n1_
                        have HB := n2_
                        clear n0_ n1_ n2_
                        (try clear hb)
                        (try clear hb2)
                        (try clear hk)
                        (try clear hi)
                        refine hK.out _ _ ((blk_cell BK114.out 0).trans rfl) (fun hHeld => ?_)
                        clear hK K
                        refine norm_ (a' := ?_) ?_ ?_
                        rotate_left
                        · show Act.put _ (some 34) _ = _
                          simp only [Act.put, List.setIfInBounds_toArray, List.set_cons_zero, List.set_cons_succ, i64_w, i32_w]
                          rfl
                        exact norm_ (by simp only [putAll, Act.put, List.setIfInBounds_toArray, List.set_cons_zero, List.set_cons_succ]) (hCont (gb116) _ ⟨hHeld, (by (with_reducible repeat (first | refine blk_drewN ?_ _ | refine blk_drew ?_ | refine blk_alloc ?_ _)); exact BK114.out), (by (with_reducible repeat (first | refine blk_drewN ?_ _ | refine blk_drew ?_ | refine blk_alloc ?_ _)); exact BK116.out), GW116.out, GE116.out, NB114_116.out, NB116_114.out, (by repeat (first | (with_reducible first | exact HB.out | apply below_alloc | apply pw_below_drewN | apply below_drew1 | refine below_set ?_ GE114.out | refine below_set ?_ GE116.out) | exact HB.out))⟩)
                    rintro gb116 w49 ⟨hS_, h0_, h1_, h2_, h3_, h4_, h5_, h6_⟩
                    have n0_ : Aside0 (w49.heap[gb114]? = some (.cells #[.int .u32 t113] 60 (0, 0))) := ⟨h0_⟩
                    have n1_ : Aside0 (w49.heap[gb116]? = some (.cells #[.int .u32 0] 60 (0, 0))) := ⟨h1_⟩
                    have n2_ : Aside0 (w.heap.size ≤ gb116) := ⟨h2_⟩
                    have n3_ : Aside0 (w.heap.size ≤ gb116) := ⟨h3_⟩
                    have n4_ : Aside0 (gb114 ≠ gb116) := ⟨h4_⟩
                    have n5_ : Aside0 (gb116 ≠ gb114) := ⟨h5_⟩
                    have n6_ : Aside0 (Below w.heap.size w w49) := ⟨h6_⟩
                    clear BK114
                    clear HB
                    clear h0_ h1_ h2_ h3_ h4_ h5_ h6_
                    have BK114 := n0_
                    have BK116 := n1_
                    have GW116 := n2_
                    have GE116 := n3_
                    have NB114_116 := n4_
                    have NB116_114 := n5_
                    have HB := n6_
                    clear n0_ n1_ n2_ n3_ n4_ n5_ n6_
                    have hHeld : w49.cell? ⟨gb114, 0, none⟩ = some (.int .u32 t113) := hS_
                    refine norm_ (a' := ?_) ?_ ?_
                    rotate_left
                    · simp only [putAll, Act.put, List.setIfInBounds_toArray, List.set_cons_zero, List.set_cons_succ]
                      rfl
                    refine one_ (i := 7) (N := none) #[true, true, true, true, true, true, true, true] rfl rfl (one_of HT_.out (by kernel_rfl)) (by decide) (fun K hK => ?_)
                    have hs50 : w49.cell? ⟨gb116, 0, none⟩ = some (.int .u32 0) := (blk_cell BK116.out 0).trans rfl
                    have hfs50 := blk_frozen BK116.out 0
                    have hns50_0 := NB114_116.out
                    have hms50_0 := NB116_114.out
                    refine skip_ (w1 := ?_) (by rfl) rfl ?_ ?_
                    rotate_left
                    · go_simp
                      rfl
                    refine hK.out _ _ (((cell_far (p := ⟨gb116, _, none⟩) NB114_116.out _).trans (hHeld))) (fun hHeld => ?_)
                    clear hK K
                    refine done_ (done_of HT_.out (by kernel_rfl)) ?_
                    try go_wp2
                    have n0_ : Aside0 ((w49.setCell ⟨gb116, 0, none⟩ (.int .u32 t115)).heap[gb114]? = some (.cells #[.int .u32 t113] 60 (0, 0))) := ⟨by (with_reducible repeat (first | refine blk_drewN ?_ _ | refine blk_drew ?_ | refine blk_alloc ?_ _)); refine blk_far ?_ NB114_116.out _; (with_reducible repeat (first | refine blk_drewN ?_ _ | refine blk_drew ?_ | refine blk_alloc ?_ _)); exact BK114.out⟩
                    have n1_ : Aside0 ((w49.setCell ⟨gb116, 0, none⟩ (.int .u32 t115)).heap[gb116]? = some (.cells #[.int .u32 t115] 60 (0, 0))) := ⟨by (with_reducible repeat (first | refine blk_drewN ?_ _ | refine blk_drew ?_ | refine blk_alloc ?_ _)); refine blk_put (cs := #[.int .u32 0]) ?_ 0 _ rfl; (with_reducible repeat (first | refine blk_drewN ?_ _ | refine blk_drew ?_ | refine blk_alloc ?_ _)); exact BK116.out⟩
                    have n2_ : Aside0 (Below w.heap.size w (w49.setCell ⟨gb116, 0, none⟩ (.int .u32 t115))) := ⟨by repeat (first | (with_reducible first | exact HB.out | apply below_alloc | apply pw_below_drewN | apply below_drew1 | refine below_set ?_ GE114.out | refine below_set ?_ GE116.out) | exact HB.out)⟩
                    (try clear BK114)
                    (try clear BK116)
                    (try clear HB)
                    generalize (w49.setCell ⟨gb116, 0, none⟩ (.int .u32 t115)) = w51 at n0_ n1_ n2_ ⊢
                    have BK114 := n0_
                    have BK116 := n1_
                    have HB := n2_
                    clear n0_ n1_ n2_
                    have n0_ := Aside0.mk (blk_drew BK114.out)
                    have n1_ := Aside0.mk (blk_drew BK116.out)
                    have n2_ := Aside0.mk (below_drew1 HB.out)
                    clear BK114
                    clear BK116
                    clear HB
                    have BK114 := n0_
                    have BK116 := n1_
                    have HB := n2_
                    clear n0_ n1_ n2_
                    refine start_ (n := 44) (S := fun w' => w'.cell? ⟨gb116, 0, none⟩ = some (.int .u32 t115) ∧ w'.cell? ⟨gb114, 0, none⟩ = some (.int .u32 t113)) (ds := []) #[false, false, false, false, false, false, false, false, false, false, false, false, false, false, false, false, false, false, false, false, false, false, false, false, false, false, false, false, false, false, false, false, false, false, false, false, false, false, false, false, false, false, false, false] (by kernel_rfl) rfl rfl ⟨(blk_cell BK116.out 0).trans rfl, (blk_cell BK114.out 0).trans rfl⟩ (fun hHeld => ?_); refine with_tabW shunterlaw03_CrcSums.tab8 shunterlaw03_CrcSums.bits8 (fun HT_ HW_ => ?_)
                    generalize w51.drew = w52 at BK114 BK116 HB hHeld ⊢
                    refine pure_ (i := 0) (N := some 35) (v := ?_) (a' := ?_) #[true, false, false, false, false, false, false, false, false, false, false, false, false, false, false, false, false, false, false, false, false, false, false, false, false, false, false, false, false, false, false, false, false, false, false, false, false, false, false, false, false, false, false, false] rfl rfl (any_of HT_.out (by kernel_rfl)) (fun _ _ _ h => h) (Or.inl ⟨by rfl, ?_⟩) ?_ ?_
                    rotate_left
                    · intro w'
                      go_simp
                      with_reducible rfl
                    rotate_left
                    · simp only [Act.put, List.setIfInBounds_toArray, List.set_cons_zero, List.set_cons_succ, i64_w, i32_w]
                      rfl
                    refine pure_ (i := 3) (N := some 38) (v := ?_) (a' := ?_) #[true, false, false, true, false, false, false, false, false, false, false, false, false, false, false, false, false, false, false, false, false, false, false, false, false, false, false, false, false, false, false, false, false, false, false, false, false, false, false, false, false, false, false, false] rfl rfl (any_of HT_.out (by kernel_rfl)) (fun _ _ _ h => h) (Or.inl ⟨by rfl, ?_⟩) ?_ ?_
                    rotate_left
                    · intro w'
                      go_simp
                      with_reducible rfl
                    rotate_left
                    · simp only [Act.put, List.setIfInBounds_toArray, List.set_cons_zero, List.set_cons_succ, i64_w, i32_w]
                      rfl
                    refine one_ (i := 1) (N := some 36) #[true, true, false, true, false, false, false, false, false, false, false, false, false, false, false, false, false, false, false, false, false, false, false, false, false, false, false, false, false, false, false, false, false, false, false, false, false, false, false, false, false, false, false, false] rfl rfl (one_of HT_.out (by kernel_rfl)) (by decide) (fun K hK => ?_)
                    refine Kd.R_lit_step Kd.string _ 9 ?hg (N := 36) ?hd (xs := ([t111] : List ByteArray)) (inner := [.string t111]) (ok := fun _ => True) (okp := fun _ => True) ?hr ?hp (fun _ hk => hk) trivial (Below.refl _ _) (Nat.le_refl _) (by simp) ?_; (case hd => rfl); (case hg => rfl); (case hr => first | (go_simp; done) | (go_simp; rfl)); (case hp => exact (Reps.one (show Kd.M Kd.string _ _ _ t111 [.string t111] from rfl) (Reps.none _ _)))
                    intro v118 w53 ho54 hb hg_ hnew_
                    clear hg_ hnew_
                    (first | rw [← Ny117.out] at ho54 | (simp only [Int.reduceToNat] at ho54; rw [← Ny117.out] at ho54))
                    have n0_ := Aside0.mk (Kd.R_lower ho54 (below_size (by repeat (first | (with_reducible first | exact HB.out | apply below_alloc | apply pw_below_drewN | apply below_drew1 | refine below_set ?_ GE114.out | refine below_set ?_ GE116.out) | exact HB.out))))
                    have n1_ := Aside0.mk (blk_below (g := gb114) (o := .cells #[.int .u32 t113] 60 (0, 0)) (by (with_reducible repeat (first | refine blk_drewN ?_ _ | refine blk_drew ?_ | refine blk_alloc ?_ _)); exact BK114.out) hb)
                    have n2_ := Aside0.mk (blk_below (g := gb116) (o := .cells #[.int .u32 t115] 60 (0, 0)) (by (with_reducible repeat (first | refine blk_drewN ?_ _ | refine blk_drew ?_ | refine blk_alloc ?_ _)); exact BK116.out) hb)
                    have n3_ := Aside0.mk (below_step (by repeat (first | (with_reducible first | exact HB.out | apply below_alloc | apply pw_below_drewN | apply below_drew1 | refine below_set ?_ GE114.out | refine below_set ?_ GE116.out) | exact HB.out)) hb)
                    clear BK114
                    clear BK116
                    clear HB
                    have HO119 := n0_
                    have BK114 := n1_
                    have BK116 := n2_
                    have HB := n3_
                    clear n0_ n1_ n2_ n3_
                    clear hb ho54
                    obtain ⟨Ao55, co55, eo55⟩ := Kd.R_slice HO119.out
                    (first | subst eo55 | (injection eo55 with f1_ f2_ f3_; have f4_ := f1_.symm; have f5_ := f3_.symm; clear f1_ f2_ f3_; subst f4_; subst f5_))
                    refine hK.out _ _ ⟨(blk_cell BK116.out 0).trans rfl, (blk_cell BK114.out 0).trans rfl⟩ (fun hHeld => ?_)
                    clear hK K
                    refine norm_ (a' := ?_) ?_ ?_
                    rotate_left
                    · show Act.put _ (some 36) _ = _
                      simp only [Act.put, List.setIfInBounds_toArray, List.set_cons_zero, List.set_cons_succ, i64_w, i32_w]
                      rfl
                    refine one_ (i := 2) (N := some 37) #[true, true, true, true, false, false, false, false, false, false, false, false, false, false, false, false, false, false, false, false, false, false, false, false, false, false, false, false, false, false, false, false, false, false, false, false, false, false, false, false, false, false, false, false] rfl rfl (one_of HT_.out (by kernel_rfl)) (by decide) (fun K hK => ?_)
                    refine goes_ Try.func36 (by kernel_rfl) rfl #[.slice Ao55 y117.length co55] (by rfl) rfl rfl (by (try simp only [List.map_toArray, List.map_cons, List.map_nil]); first | done | rfl | (simp only [List.length_drop, List.length_take]; rfl)) ?_
                    with_reducible refine (crc_Of.calls k _ _ y117 t120 _ ?side1 ?side2 A18.out).mono ?_
                    (case side1 => repeat (first | exact (Kd.R_reads' HO119.out).2.2 | (with_reducible refine Kd.C_alloc ?_ _) | (with_reducible refine Kd.C_drewN ?_ _) | (with_reducible refine Kd.C_drew ?_)))
                    (case side2 => exact (Kd.R_reads' HO119.out).2.1)
                    rintro e w56 ⟨rfl, hb⟩
                    refine ⟨_, rfl, ?_⟩
                    have n0_ := Aside0.mk (Kd.R_below (by (with_reducible repeat (first | apply Kd.R_alloc | apply Kd.R_drewN | apply Kd.R_drew)); exact HO119.out) hb)
                    have n1_ := Aside0.mk (blk_below (g := gb114) (o := .cells #[.int .u32 t113] 60 (0, 0)) (by (with_reducible repeat (first | refine blk_drewN ?_ _ | refine blk_drew ?_ | refine blk_alloc ?_ _)); exact BK114.out) hb)
                    have n2_ := Aside0.mk (blk_below (g := gb116) (o := .cells #[.int .u32 t115] 60 (0, 0)) (by (with_reducible repeat (first | refine blk_drewN ?_ _ | refine blk_drew ?_ | refine blk_alloc ?_ _)); exact BK116.out) hb)
                    have n3_ := Aside0.mk (below_step (by repeat (first | (with_reducible first | exact HB.out | apply below_alloc | apply pw_below_drewN | apply below_drew1 | refine below_set ?_ GE114.out | refine below_set ?_ GE116.out) | exact HB.out)) hb)
                    clear HO119
                    clear BK114
                    clear BK116
                    clear HB
                    have HO119 := n0_
                    have BK114 := n1_
                    have BK116 := n2_
                    have HB := n3_
                    clear n0_ n1_ n2_ n3_
                    (try clear hb)
                    (try clear hb2)
                    (try clear hk)
                    (try clear hi)
                    refine hK.out _ _ ⟨(blk_cell BK116.out 0).trans rfl, (blk_cell BK114.out 0).trans rfl⟩ (fun hHeld => ?_)
                    clear hK K
                    refine norm_ (a' := ?_) ?_ ?_
                    rotate_left
                    · show Act.put _ (some 37) _ = _
                      simp only [Act.put, List.setIfInBounds_toArray, List.set_cons_zero, List.set_cons_succ, i64_w, i32_w]
                      rfl
                    refine one_ (i := 4) (N := some 39) #[true, true, true, true, true, false, false, false, false, false, false, false, false, false, false, false, false, false, false, false, false, false, false, false, false, false, false, false, false, false, false, false, false, false, false, false, false, false, false, false, false, false, false, false] rfl rfl (one_of HT_.out (by kernel_rfl)) (by decide) (fun K hK => ?_)
                    refine goes_ Try.func37 (by kernel_rfl) rfl #[.string t111] (by rfl) rfl rfl (by (try simp only [List.map_toArray, List.map_cons, List.map_nil]); first | done | rfl | (simp only [List.length_drop, List.length_take]; rfl)) ?_
                    with_reducible refine (shunterref03_Sum.calls k t111 t121 _ A19.out).mono ?_
                    rintro e w' ⟨rfl, ⟨nd, rfl⟩⟩
                    refine ⟨_, rfl, ?_⟩
                    refine hK.out _ _ ⟨(blk_cell BK116.out 0).trans rfl, (blk_cell BK114.out 0).trans rfl⟩ (fun hHeld => ?_)
                    clear hK K
                    refine norm_ (a' := ?_) ?_ ?_
                    rotate_left
                    · show Act.put _ (some 39) _ = _
                      simp only [Act.put, List.setIfInBounds_toArray, List.set_cons_zero, List.set_cons_succ, i64_w, i32_w]
                      rfl
                    refine pure_ (i := 5) (N := some 40) (v := ?_) (a' := ?_) #[true, true, true, true, true, true, false, false, false, false, false, false, false, false, false, false, false, false, false, false, false, false, false, false, false, false, false, false, false, false, false, false, false, false, false, false, false, false, false, false, false, false, false, false] rfl rfl (any_of HT_.out (by kernel_rfl)) (fun _ _ _ h => h) (Or.inl ⟨by rfl, ?_⟩) ?_ ?_
                    rotate_left
                    · intro w'
                      go_simp
                      with_reducible rfl
                    rotate_left
                    · simp only [Act.put, List.setIfInBounds_toArray, List.set_cons_zero, List.set_cons_succ, i64_w, i32_w]
                      rfl
                    refine pure_ (i := 6) (N := some 41) (v := ?_) (a' := ?_) #[true, true, true, true, true, true, true, false, false, false, false, false, false, false, false, false, false, false, false, false, false, false, false, false, false, false, false, false, false, false, false, false, false, false, false, false, false, false, false, false, false, false, false, false] rfl rfl (any_of HT_.out (by kernel_rfl)) (fun _ _ _ h => h) (Or.inl ⟨by rfl, ?_⟩) ?_ ?_
                    rotate_left
                    · intro w'
                      go_simp
                      with_reducible rfl
                    rotate_left
                    · simp only [Act.put, List.setIfInBounds_toArray, List.set_cons_zero, List.set_cons_succ, i64_w, i32_w]
                      rfl
                    refine pure_ (i := 7) (N := some 42) (v := ?_) (a' := ?_) #[true, true, true, true, true, true, true, true, false, false, false, false, false, false, false, false, false, false, false, false, false, false, false, false, false, false, false, false, false, false, false, false, false, false, false, false, false, false, false, false, false, false, false, false] rfl rfl (any_of HT_.out (by kernel_rfl)) (fun _ _ _ h => h) (Or.inl ⟨by rfl, ?_⟩) ?_ ?_
                    rotate_left
                    · intro w'
                      go_simp
                      with_reducible rfl
                    rotate_left
                    · simp only [Act.put, List.setIfInBounds_toArray, List.set_cons_zero, List.set_cons_succ, i64_w, i32_w]
                      rfl
                    refine pure_ (i := 8) (N := some 43) (v := ?_) (a' := ?_) #[true, true, true, true, true, true, true, true, true, false, false, false, false, false, false, false, false, false, false, false, false, false, false, false, false, false, false, false, false, false, false, false, false, false, false, false, false, false, false, false, false, false, false, false] rfl rfl (any_of HT_.out (by kernel_rfl)) (fun _ _ _ h => h) (Or.inl ⟨by rfl, ?_⟩) ?_ ?_
                    rotate_left
                    · intro w'
                      go_simp
                      with_reducible rfl
                    rotate_left
                    · simp only [Act.put, List.setIfInBounds_toArray, List.set_cons_zero, List.set_cons_succ, i64_w, i32_w]
                      rfl
                    refine pure_ (i := 9) (N := some 44) (v := ?_) (a' := ?_) #[true, true, true, true, true, true, true, true, true, true, false, false, false, false, false, false, false, false, false, false, false, false, false, false, false, false, false, false, false, false, false, false, false, false, false, false, false, false, false, false, false, false, false, false] rfl rfl (any_of HT_.out (by kernel_rfl)) (fun _ _ _ h => h) (Or.inl ⟨by rfl, ?_⟩) ?_ ?_
                    rotate_left
                    · intro w'
                      go_simp
                      with_reducible rfl
                    rotate_left
                    · simp only [Act.put, List.setIfInBounds_toArray, List.set_cons_zero, List.set_cons_succ, i64_w, i32_w]
                      rfl
                    refine pure_ (i := 10) (N := some 45) (v := ?_) (a' := ?_) #[true, true, true, true, true, true, true, true, true, true, true, false, false, false, false, false, false, false, false, false, false, false, false, false, false, false, false, false, false, false, false, false, false, false, false, false, false, false, false, false, false, false, false, false] rfl rfl (any_of HT_.out (by kernel_rfl)) (fun _ _ _ h => h) (Or.inl ⟨by rfl, ?_⟩) ?_ ?_
                    rotate_left
                    · intro w'
                      go_simp
                      with_reducible rfl
                    rotate_left
                    · simp only [Act.put, List.setIfInBounds_toArray, List.set_cons_zero, List.set_cons_succ, i64_w, i32_w]
                      rfl
                    refine pure_ (i := 11) (N := some 46) (v := ?_) (a' := ?_) #[true, true, true, true, true, true, true, true, true, true, true, true, false, false, false, false, false, false, false, false, false, false, false, false, false, false, false, false, false, false, false, false, false, false, false, false, false, false, false, false, false, false, false, false] rfl rfl (any_of HT_.out (by kernel_rfl)) (fun _ _ _ h => h) (Or.inl ⟨by rfl, ?_⟩) ?_ ?_
                    rotate_left
                    · intro w'
                      go_simp
                      with_reducible rfl
                    rotate_left
                    · simp only [Act.put, List.setIfInBounds_toArray, List.set_cons_zero, List.set_cons_succ, i64_w, i32_w]
                      rfl
                    refine pure_ (i := 12) (N := some 47) (v := ?_) (a' := ?_) #[true, true, true, true, true, true, true, true, true, true, true, true, true, false, false, false, false, false, false, false, false, false, false, false, false, false, false, false, false, false, false, false, false, false, false, false, false, false, false, false, false, false, false, false] rfl rfl (any_of HT_.out (by kernel_rfl)) (fun _ _ _ h => h) (Or.inl ⟨by rfl, ?_⟩) ?_ ?_
                    rotate_left
                    · intro w'
                      go_simp
                      with_reducible rfl
                    rotate_left
                    · simp only [Act.put, List.setIfInBounds_toArray, List.set_cons_zero, List.set_cons_succ, i64_w, i32_w]
                      rfl
                    refine pure_ (i := 13) (N := some 48) (v := ?_) (a' := ?_) #[true, true, true, true, true, true, true, true, true, true, true, true, true, true, false, false, false, false, false, false, false, false, false, false, false, false, false, false, false, false, false, false, false, false, false, false, false, false, false, false, false, false, false, false] rfl rfl (any_of HT_.out (by kernel_rfl)) (fun _ _ _ h => h) (Or.inl ⟨by rfl, ?_⟩) ?_ ?_
                    rotate_left
                    · intro w'
                      go_simp
                      with_reducible rfl
                    rotate_left
                    · simp only [Act.put, List.setIfInBounds_toArray, List.set_cons_zero, List.set_cons_succ, i64_w, i32_w]
                      rfl
                    refine pure_ (i := 14) (N := some 49) (v := ?_) (a' := ?_) #[true, true, true, true, true, true, true, true, true, true, true, true, true, true, true, false, false, false, false, false, false, false, false, false, false, false, false, false, false, false, false, false, false, false, false, false, false, false, false, false, false, false, false, false] rfl rfl (any_of HT_.out (by kernel_rfl)) (fun _ _ _ h => h) (Or.inl ⟨by rfl, ?_⟩) ?_ ?_
                    rotate_left
                    · intro w'
                      go_simp
                      with_reducible rfl
                    rotate_left
                    · simp only [Act.put, List.setIfInBounds_toArray, List.set_cons_zero, List.set_cons_succ, i64_w, i32_w]
                      rfl
                    refine pure_ (i := 15) (N := some 50) (v := ?_) (a' := ?_) #[true, true, true, true, true, true, true, true, true, true, true, true, true, true, true, true, false, false, false, false, false, false, false, false, false, false, false, false, false, false, false, false, false, false, false, false, false, false, false, false, false, false, false, false] rfl rfl (any_of HT_.out (by kernel_rfl)) (fun _ _ _ h => h) (Or.inl ⟨by rfl, ?_⟩) ?_ ?_
                    rotate_left
                    · intro w'
                      go_simp
                      with_reducible rfl
                    rotate_left
                    · simp only [Act.put, List.setIfInBounds_toArray, List.set_cons_zero, List.set_cons_succ, i64_w, i32_w]
                      rfl
                    refine pure_ (i := 16) (N := some 51) (v := ?_) (a' := ?_) #[true, true, true, true, true, true, true, true, true, true, true, true, true, true, true, true, true, false, false, false, false, false, false, false, false, false, false, false, false, false, false, false, false, false, false, false, false, false, false, false, false, false, false, false] rfl rfl (any_of HT_.out (by kernel_rfl)) (fun _ _ _ h => h) (Or.inl ⟨by rfl, ?_⟩) ?_ ?_
                    rotate_left
                    · intro w'
                      go_simp
                      with_reducible rfl
                    rotate_left
                    · simp only [Act.put, List.setIfInBounds_toArray, List.set_cons_zero, List.set_cons_succ, i64_w, i32_w]
                      rfl
                    refine pure_ (i := 19) (N := some 54) (v := ?_) (a' := ?_) #[true, true, true, true, true, true, true, true, true, true, true, true, true, true, true, true, true, false, false, true, false, false, false, false, false, false, false, false, false, false, false, false, false, false, false, false, false, false, false, false, false, false, false, false] rfl rfl (any_of HT_.out (by kernel_rfl)) (fun _ _ _ h => h) (Or.inl ⟨by rfl, ?_⟩) ?_ ?_
                    rotate_left
                    · intro w'
                      go_simp
                      with_reducible rfl
                    rotate_left
                    · simp only [Act.put, List.setIfInBounds_toArray, List.set_cons_zero, List.set_cons_succ, i64_w, i32_w]
                      rfl
                    refine one_ (i := 17) (N := some 52) #[true, true, true, true, true, true, true, true, true, true, true, true, true, true, true, true, true, true, false, true, false, false, false, false, false, false, false, false, false, false, false, false, false, false, false, false, false, false, false, false, false, false, false, false] rfl rfl (one_of HT_.out (by kernel_rfl)) (by decide) (fun K hK => ?_)
                    refine Kd.R_lit_step Kd.string _ 9 ?hg (N := 52) ?hd (xs := ([t111.extract 0 ((ji8) : Int).toNat, t111.extract ((ji8) : Int).toNat ((ji10) : Int).toNat, t111.extract ((ji10) : Int).toNat t111.size] : List ByteArray)) (inner := [.string (t111.extract 0 ((ji8) : Int).toNat), .string (t111.extract ((ji8) : Int).toNat ((ji10) : Int).toNat), .string (t111.extract ((ji10) : Int).toNat t111.size)]) (ok := fun _ => True) (okp := fun _ => True) ?hr ?hp (fun _ hk => hk) trivial (Below.refl _ _) (Nat.le_refl _) (by simp) ?_; (case hd => rfl); (case hg => rfl); (case hr => first | (go_simp; done) | (go_simp; rfl)); (case hp => exact (Reps.one (show Kd.M Kd.string _ _ _ (t111.extract 0 ((ji8) : Int).toNat) [.string (t111.extract 0 ((ji8) : Int).toNat)] from rfl) (Reps.one (show Kd.M Kd.string _ _ _ (t111.extract ((ji8) : Int).toNat ((ji10) : Int).toNat) [.string (t111.extract ((ji8) : Int).toNat ((ji10) : Int).toNat)] from rfl) (Reps.one (show Kd.M Kd.string _ _ _ (t111.extract ((ji10) : Int).toNat t111.size) [.string (t111.extract ((ji10) : Int).toNat t111.size)] from rfl) (Reps.none _ _)))))
                    intro v123 w57 ho58 hb hg_ hnew_
                    clear hg_ hnew_
                    (first | rw [← Ny122.out] at ho58 | (simp only [Int.reduceToNat] at ho58; rw [← Ny122.out] at ho58))
                    have n0_ := Aside0.mk (Kd.R_elder' (by (with_reducible repeat (first | apply Kd.R_alloc | apply Kd.R_drewN | apply Kd.R_drew)); exact HO119.out) (Kd.R_base ho58) hb)
                    have n1_ := Aside0.mk (Kd.R_lower (Kd.R_new' ho58 (Kd.R_lt (by (with_reducible repeat (first | apply Kd.R_alloc | apply Kd.R_drewN | apply Kd.R_drew)); exact HO119.out))) (below_size (by repeat (first | (with_reducible first | exact HB.out | apply below_alloc | apply pw_below_drewN | apply below_drew1 | refine below_set ?_ GE114.out | refine below_set ?_ GE116.out) | exact HB.out))))
                    have n2_ := Aside0.mk (blk_below (g := gb114) (o := .cells #[.int .u32 t113] 60 (0, 0)) (by (with_reducible repeat (first | refine blk_drewN ?_ _ | refine blk_drew ?_ | refine blk_alloc ?_ _)); exact BK114.out) hb)
                    have n3_ := Aside0.mk (blk_below (g := gb116) (o := .cells #[.int .u32 t115] 60 (0, 0)) (by (with_reducible repeat (first | refine blk_drewN ?_ _ | refine blk_drew ?_ | refine blk_alloc ?_ _)); exact BK116.out) hb)
                    have n4_ := Aside0.mk (below_step (by repeat (first | (with_reducible first | exact HB.out | apply below_alloc | apply pw_below_drewN | apply below_drew1 | refine below_set ?_ GE114.out | refine below_set ?_ GE116.out) | exact HB.out)) hb)
                    clear HO119
                    clear BK114
                    clear BK116
                    clear HB
                    have HO119 := n0_
                    have HO124 := n1_
                    have BK114 := n2_
                    have BK116 := n3_
                    have HB := n4_
                    clear n0_ n1_ n2_ n3_ n4_
                    clear hb ho58
                    obtain ⟨Ao59, co59, eo59⟩ := Kd.R_slice HO124.out
                    (first | subst eo59 | (injection eo59 with f1_ f2_ f3_; have f4_ := f1_.symm; have f5_ := f3_.symm; clear f1_ f2_ f3_; subst f4_; subst f5_))
                    refine hK.out _ _ ⟨(blk_cell BK116.out 0).trans rfl, (blk_cell BK114.out 0).trans rfl⟩ (fun hHeld => ?_)
                    clear hK K
                    refine norm_ (a' := ?_) ?_ ?_
                    rotate_left
                    · show Act.put _ (some 52) _ = _
                      simp only [Act.put, List.setIfInBounds_toArray, List.set_cons_zero, List.set_cons_succ, i64_w, i32_w]
                      rfl
                    refine one_ (i := 18) (N := some 53) #[true, true, true, true, true, true, true, true, true, true, true, true, true, true, true, true, true, true, true, true, false, false, false, false, false, false, false, false, false, false, false, false, false, false, false, false, false, false, false, false, false, false, false, false] rfl rfl (one_of HT_.out (by kernel_rfl)) (by decide) (fun K hK => ?_)
                    refine goes_ Try.func36 (by kernel_rfl) rfl #[.slice Ao59 y122.length co59] (by rfl) rfl rfl (by (try simp only [List.map_toArray, List.map_cons, List.map_nil]); first | done | rfl | (simp only [List.length_drop, List.length_take]; rfl)) ?_
                    with_reducible refine (crc_Of.calls k _ _ y122 t125 _ ?side1 ?side2 A28.out).mono ?_
                    (case side1 => repeat (first | exact (Kd.R_reads' HO124.out).2.2 | (with_reducible refine Kd.C_alloc ?_ _) | (with_reducible refine Kd.C_drewN ?_ _) | (with_reducible refine Kd.C_drew ?_)))
                    (case side2 => exact (Kd.R_reads' HO124.out).2.1)
                    rintro e w60 ⟨rfl, hb⟩
                    refine ⟨_, rfl, ?_⟩
                    have n0_ := Aside0.mk (Kd.R_below (by (with_reducible repeat (first | apply Kd.R_alloc | apply Kd.R_drewN | apply Kd.R_drew)); exact HO119.out) hb)
                    have n1_ := Aside0.mk (Kd.R_below (by (with_reducible repeat (first | apply Kd.R_alloc | apply Kd.R_drewN | apply Kd.R_drew)); exact HO124.out) hb)
                    have n2_ := Aside0.mk (blk_below (g := gb114) (o := .cells #[.int .u32 t113] 60 (0, 0)) (by (with_reducible repeat (first | refine blk_drewN ?_ _ | refine blk_drew ?_ | refine blk_alloc ?_ _)); exact BK114.out) hb)
                    have n3_ := Aside0.mk (blk_below (g := gb116) (o := .cells #[.int .u32 t115] 60 (0, 0)) (by (with_reducible repeat (first | refine blk_drewN ?_ _ | refine blk_drew ?_ | refine blk_alloc ?_ _)); exact BK116.out) hb)
                    have n4_ := Aside0.mk (below_step (by repeat (first | (with_reducible first | exact HB.out | apply below_alloc | apply pw_below_drewN | apply below_drew1 | refine below_set ?_ GE114.out | refine below_set ?_ GE116.out) | exact HB.out)) hb)
                    clear HO119
                    clear HO124
                    clear BK114
                    clear BK116
                    clear HB
                    have HO119 := n0_
                    have HO124 := n1_
                    have BK114 := n2_
                    have BK116 := n3_
                    have HB := n4_
                    clear n0_ n1_ n2_ n3_ n4_
                    (try clear hb)
                    (try clear hb2)
                    (try clear hk)
                    (try clear hi)
                    refine hK.out _ _ ⟨(blk_cell BK116.out 0).trans rfl, (blk_cell BK114.out 0).trans rfl⟩ (fun hHeld => ?_)
                    clear hK K
                    refine norm_ (a' := ?_) ?_ ?_
                    rotate_left
                    · show Act.put _ (some 53) _ = _
                      simp only [Act.put, List.setIfInBounds_toArray, List.set_cons_zero, List.set_cons_succ, i64_w, i32_w]
                      rfl
                    refine one_ (i := 20) (N := some 55) #[true, true, true, true, true, true, true, true, true, true, true, true, true, true, true, true, true, true, true, true, true, false, false, false, false, false, false, false, false, false, false, false, false, false, false, false, false, false, false, false, false, false, false, false] rfl rfl (one_of HT_.out (by kernel_rfl)) (by decide) (fun K hK => ?_)
                    refine goes_ Try.func37 (by kernel_rfl) rfl #[.string t111] (by rfl) rfl rfl (by (try simp only [List.map_toArray, List.map_cons, List.map_nil]); first | done | rfl | (simp only [List.length_drop, List.length_take]; rfl)) ?_
                    with_reducible refine (shunterref03_Sum.calls k t111 t126 _ A29.out).mono ?_
                    rintro e w' ⟨rfl, ⟨nd, rfl⟩⟩
                    refine ⟨_, rfl, ?_⟩
                    refine hK.out _ _ ⟨(blk_cell BK116.out 0).trans rfl, (blk_cell BK114.out 0).trans rfl⟩ (fun hHeld => ?_)
                    clear hK K
                    refine norm_ (a' := ?_) ?_ ?_
                    rotate_left
                    · show Act.put _ (some 55) _ = _
                      simp only [Act.put, List.setIfInBounds_toArray, List.set_cons_zero, List.set_cons_succ, i64_w, i32_w]
                      rfl
                    refine pure_ (i := 21) (N := some 56) (v := ?_) (a' := ?_) #[true, true, true, true, true, true, true, true, true, true, true, true, true, true, true, true, true, true, true, true, true, true, false, false, false, false, false, false, false, false, false, false, false, false, false, false, false, false, false, false, false, false, false, false] rfl rfl (any_of HT_.out (by kernel_rfl)) (fun _ _ _ h => h) (Or.inl ⟨by rfl, ?_⟩) ?_ ?_
                    rotate_left
                    · intro w'
                      go_simp
                      with_reducible rfl
                    rotate_left
                    · simp only [Act.put, List.setIfInBounds_toArray, List.set_cons_zero, List.set_cons_succ, i64_w, i32_w]
                      rfl
                    refine pure_ (i := 22) (N := some 57) (v := ?_) (a' := ?_) #[true, true, true, true, true, true, true, true, true, true, true, true, true, true, true, true, true, true, true, true, true, true, true, false, false, false, false, false, false, false, false, false, false, false, false, false, false, false, false, false, false, false, false, false] rfl rfl (any_of HT_.out (by kernel_rfl)) (fun _ _ _ h => h) (Or.inl ⟨by rfl, ?_⟩) ?_ ?_
                    rotate_left
                    · intro w'
                      go_simp
                      with_reducible rfl
                    rotate_left
                    · simp only [Act.put, List.setIfInBounds_toArray, List.set_cons_zero, List.set_cons_succ, i64_w, i32_w]
                      rfl
                    refine pure_ (i := 23) (N := some 58) (v := ?_) (a' := ?_) #[true, true, true, true, true, true, true, true, true, true, true, true, true, true, true, true, true, true, true, true, true, true, true, true, false, false, false, false, false, false, false, false, false, false, false, false, false, false, false, false, false, false, false, false] rfl rfl (any_of HT_.out (by kernel_rfl)) (fun _ _ _ h => h) (Or.inl ⟨by rfl, ?_⟩) ?_ ?_
                    rotate_left
                    · intro w'
                      go_simp
                      with_reducible rfl
                    rotate_left
                    · simp only [Act.put, List.setIfInBounds_toArray, List.set_cons_zero, List.set_cons_succ, i64_w, i32_w]
                      rfl
                    refine pure_ (i := 25) (N := some 60) (v := ?_) (a' := ?_) #[true, true, true, true, true, true, true, true, true, true, true, true, true, true, true, true, true, true, true, true, true, true, true, true, false, true, false, false, false, false, false, false, false, false, false, false, false, false, false, false, false, false, false, false] rfl rfl (any_of HT_.out (by kernel_rfl)) (fun _ _ _ h => h) (Or.inl ⟨by rfl, ?_⟩) ?_ ?_
                    rotate_left
                    · intro w'
                      go_simp
                      with_reducible rfl
                    rotate_left
                    · simp only [Act.put, List.setIfInBounds_toArray, List.set_cons_zero, List.set_cons_succ, i64_w, i32_w]
                      rfl
                    refine pure_ (i := 26) (N := some 61) (v := ?_) (a' := ?_) #[true, true, true, true, true, true, true, true, true, true, true, true, true, true, true, true, true, true, true, true, true, true, true, true, false, true, true, false, false, false, false, false, false, false, false, false, false, false, false, false, false, false, false, false] rfl rfl (any_of HT_.out (by kernel_rfl)) (fun _ _ _ h => h) (Or.inl ⟨by rfl, ?_⟩) ?_ ?_
                    rotate_left
                    · intro w'
                      go_simp
                      with_reducible rfl
                    rotate_left
                    · simp only [Act.put, List.setIfInBounds_toArray, List.set_cons_zero, List.set_cons_succ, i64_w, i32_w]
                      rfl
                    refine pure_ (i := 27) (N := some 62) (v := ?_) (a' := ?_) #[true, true, true, true, true, true, true, true, true, true, true, true, true, true, true, true, true, true, true, true, true, true, true, true, false, true, true, true, false, false, false, false, false, false, false, false, false, false, false, false, false, false, false, false] rfl rfl (any_of HT_.out (by kernel_rfl)) (fun _ _ _ h => h) (Or.inl ⟨by rfl, ?_⟩) ?_ ?_
                    rotate_left
                    · intro w'
                      go_simp
                      with_reducible rfl
                    rotate_left
                    · simp only [Act.put, List.setIfInBounds_toArray, List.set_cons_zero, List.set_cons_succ, i64_w, i32_w]
                      rfl
                    refine pure_ (i := 30) (N := some 65) (v := ?_) (a' := ?_) #[true, true, true, true, true, true, true, true, true, true, true, true, true, true, true, true, true, true, true, true, true, true, true, true, false, true, true, true, false, false, true, false, false, false, false, false, false, false, false, false, false, false, false, false] rfl rfl (any_of HT_.out (by kernel_rfl)) (fun _ _ _ h => h) (Or.inl ⟨by rfl, ?_⟩) ?_ ?_
                    rotate_left
                    · intro w'
                      go_simp
                      with_reducible rfl
                    rotate_left
                    · simp only [Act.put, List.setIfInBounds_toArray, List.set_cons_zero, List.set_cons_succ, i64_w, i32_w]
                      rfl
                    refine take_ (i := 24) (N := some 59) (v := ?_) (a' := ?_) #[true, true, true, true, true, true, true, true, true, true, true, true, true, true, true, true, true, true, true, true, true, true, true, true, true, true, true, true, false, false, true, false, false, false, false, false, false, false, false, false, false, false, false, false] rfl rfl (take_ofW HT_.out HW_.out (by kernel_rfl)) (fun _ _ _ h => h) (Or.inl ⟨by rfl, ?_⟩) hHeld ?_ ?_
                    rotate_left
                    · rintro w' ⟨s0, s1⟩
                      go_simp
                      with_reducible rfl
                    rotate_left
                    · simp only [Act.put, List.setIfInBounds_toArray, List.set_cons_zero, List.set_cons_succ, i64_w, i32_w]
                      rfl
                    refine one_ (i := 28) (N := some 63) #[true, true, true, true, true, true, true, true, true, true, true, true, true, true, true, true, true, true, true, true, true, true, true, true, true, true, true, true, true, false, true, false, false, false, false, false, false, false, false, false, false, false, false, false] rfl rfl (one_of HT_.out (by kernel_rfl)) (by decide) (fun K hK => ?_)
                    refine goes_ Try.func35 (by kernel_rfl) rfl #[.agg #[.int .u32 t115], .string (t111.extract ((ji10) : Int).toNat t111.size)] (by rfl) rfl rfl (by (try simp only [List.map_toArray, List.map_cons, List.map_nil]); first | done | (simp only [hji10]; rfl) | rfl | (simp only [List.length_drop, List.length_take]; rfl)) ?_
                    with_reducible refine (crc_State_Add.calls t115 (t111.extract ((ji10) : Int).toNat t111.size) t127 _ A33.out).mono ?_
                    rintro e w61 ⟨rfl, hb⟩
                    refine ⟨_, rfl, ?_⟩
                    have n0_ := Aside0.mk (Kd.R_below (by (with_reducible repeat (first | apply Kd.R_alloc | apply Kd.R_drewN | apply Kd.R_drew)); exact HO119.out) hb)
                    have n1_ := Aside0.mk (Kd.R_below (by (with_reducible repeat (first | apply Kd.R_alloc | apply Kd.R_drewN | apply Kd.R_drew)); exact HO124.out) hb)
                    have n2_ := Aside0.mk (blk_below (g := gb114) (o := .cells #[.int .u32 t113] 60 (0, 0)) (by (with_reducible repeat (first | refine blk_drewN ?_ _ | refine blk_drew ?_ | refine blk_alloc ?_ _)); exact BK114.out) hb)
                    have n3_ := Aside0.mk (blk_below (g := gb116) (o := .cells #[.int .u32 t115] 60 (0, 0)) (by (with_reducible repeat (first | refine blk_drewN ?_ _ | refine blk_drew ?_ | refine blk_alloc ?_ _)); exact BK116.out) hb)
                    have n4_ := Aside0.mk (below_step (by repeat (first | (with_reducible first | exact HB.out | apply below_alloc | apply pw_below_drewN | apply below_drew1 | refine below_set ?_ GE114.out | refine below_set ?_ GE116.out) | exact HB.out)) hb)
                    clear HO119
                    clear HO124
                    clear BK114
                    clear BK116
                    clear HB
                    have HO119 := n0_
                    have HO124 := n1_
                    have BK114 := n2_
                    have BK116 := n3_
                    have HB := n4_
                    clear n0_ n1_ n2_ n3_ n4_
                    (try clear hb)
                    (try clear hb2)
                    (try clear hk)
                    (try clear hi)
                    refine hK.out _ _ ⟨(blk_cell BK116.out 0).trans rfl, (blk_cell BK114.out 0).trans rfl⟩ (fun hHeld => ?_)
                    clear hK K
                    refine norm_ (a' := ?_) ?_ ?_
                    rotate_left
                    · show Act.put _ (some 63) _ = _
                      simp only [Act.put, List.setIfInBounds_toArray, List.set_cons_zero, List.set_cons_succ, i64_w, i32_w]
                      rfl
                    refine one_ (i := 29) (N := some 64) #[true, true, true, true, true, true, true, true, true, true, true, true, true, true, true, true, true, true, true, true, true, true, true, true, true, true, true, true, true, true, true, false, false, false, false, false, false, false, false, false, false, false, false, false] rfl rfl (one_of HT_.out (by kernel_rfl)) (by decide) (fun K hK => ?_)
                    refine goes_ Try.func38 (by kernel_rfl) rfl #[.agg #[.int .u32 t127]] (by rfl) rfl rfl (by (try simp only [List.map_toArray, List.map_cons, List.map_nil]); first | done | rfl | (simp only [List.length_drop, List.length_take]; rfl)) ?_
                    with_reducible refine (crc_State_Sum.calls t127 t128 _ A34.out).mono ?_
                    rintro e w62 ⟨rfl, hb⟩
                    refine ⟨_, rfl, ?_⟩
                    have n0_ := Aside0.mk (Kd.R_below (by (with_reducible repeat (first | apply Kd.R_alloc | apply Kd.R_drewN | apply Kd.R_drew)); exact HO119.out) hb)
                    have n1_ := Aside0.mk (Kd.R_below (by (with_reducible repeat (first | apply Kd.R_alloc | apply Kd.R_drewN | apply Kd.R_drew)); exact HO124.out) hb)
                    have n2_ := Aside0.mk (blk_below (g := gb114) (o := .cells #[.int .u32 t113] 60 (0, 0)) (by (with_reducible repeat (first | refine blk_drewN ?_ _ | refine blk_drew ?_ | refine blk_alloc ?_ _)); exact BK114.out) hb)
                    have n3_ := Aside0.mk (blk_below (g := gb116) (o := .cells #[.int .u32 t115] 60 (0, 0)) (by (with_reducible repeat (first | refine blk_drewN ?_ _ | refine blk_drew ?_ | refine blk_alloc ?_ _)); exact BK116.out) hb)
                    have n4_ := Aside0.mk (below_step (by repeat (first | (with_reducible first | exact HB.out | apply below_alloc | apply pw_below_drewN | apply below_drew1 | refine below_set ?_ GE114.out | refine below_set ?_ GE116.out) | exact HB.out)) hb)
                    clear HO119
                    clear HO124
                    clear BK114
                    clear BK116
                    clear HB
                    have HO119 := n0_
                    have HO124 := n1_
                    have BK114 := n2_
                    have BK116 := n3_
                    have HB := n4_
                    clear n0_ n1_ n2_ n3_ n4_
                    (try clear hb)
                    (try clear hb2)
                    (try clear hk)
                    (try clear hi)
                    refine hK.out _ _ ⟨(blk_cell BK116.out 0).trans rfl, (blk_cell BK114.out 0).trans rfl⟩ (fun hHeld => ?_)
                    clear hK K
                    refine norm_ (a' := ?_) ?_ ?_
                    rotate_left
                    · show Act.put _ (some 64) _ = _
                      simp only [Act.put, List.setIfInBounds_toArray, List.set_cons_zero, List.set_cons_succ, i64_w, i32_w]
                      rfl
                    refine one_ (i := 31) (N := some 66) #[true, true, true, true, true, true, true, true, true, true, true, true, true, true, true, true, true, true, true, true, true, true, true, true, true, true, true, true, true, true, true, true, false, false, false, false, false, false, false, false, false, false, false, false] rfl rfl (one_of HT_.out (by kernel_rfl)) (by decide) (fun K hK => ?_)
                    refine goes_ Try.func37 (by kernel_rfl) rfl #[.string t111] (by rfl) rfl rfl (by (try simp only [List.map_toArray, List.map_cons, List.map_nil]); first | done | rfl | (simp only [List.length_drop, List.length_take]; rfl)) ?_
                    with_reducible refine (shunterref03_Sum.calls k t111 t129 _ A35.out).mono ?_
                    rintro e w' ⟨rfl, ⟨nd, rfl⟩⟩
                    refine ⟨_, rfl, ?_⟩
                    refine hK.out _ _ ⟨(blk_cell BK116.out 0).trans rfl, (blk_cell BK114.out 0).trans rfl⟩ (fun hHeld => ?_)
                    clear hK K
                    refine norm_ (a' := ?_) ?_ ?_
                    rotate_left
                    · show Act.put _ (some 66) _ = _
                      simp only [Act.put, List.setIfInBounds_toArray, List.set_cons_zero, List.set_cons_succ, i64_w, i32_w]
                      rfl
                    refine pure_ (i := 32) (N := some 67) (v := ?_) (a' := ?_) #[true, true, true, true, true, true, true, true, true, true, true, true, true, true, true, true, true, true, true, true, true, true, true, true, true, true, true, true, true, true, true, true, true, false, false, false, false, false, false, false, false, false, false, false] rfl rfl (any_of HT_.out (by kernel_rfl)) (fun _ _ _ h => h) (Or.inl ⟨by rfl, ?_⟩) ?_ ?_
                    rotate_left
                    · intro w'
                      go_simp
                      with_reducible rfl
                    rotate_left
                    · simp only [Act.put, List.setIfInBounds_toArray, List.set_cons_zero, List.set_cons_succ, i64_w, i32_w]
                      rfl
                    refine pure_ (i := 33) (N := some 68) (v := ?_) (a' := ?_) #[true, true, true, true, true, true, true, true, true, true, true, true, true, true, true, true, true, true, true, true, true, true, true, true, true, true, true, true, true, true, true, true, true, true, false, false, false, false, false, false, false, false, false, false] rfl rfl (any_of HT_.out (by kernel_rfl)) (fun _ _ _ h => h) (Or.inl ⟨by rfl, ?_⟩) ?_ ?_
                    rotate_left
                    · intro w'
                      go_simp
                      with_reducible rfl
                    rotate_left
                    · simp only [Act.put, List.setIfInBounds_toArray, List.set_cons_zero, List.set_cons_succ, i64_w, i32_w]
                      rfl
                    refine pure_ (i := 34) (N := some 69) (v := ?_) (a' := ?_) #[true, true, true, true, true, true, true, true, true, true, true, true, true, true, true, true, true, true, true, true, true, true, true, true, true, true, true, true, true, true, true, true, true, true, true, false, false, false, false, false, false, false, false, false] rfl rfl (any_of HT_.out (by kernel_rfl)) (fun _ _ _ h => h) (Or.inl ⟨by rfl, ?_⟩) ?_ ?_
                    rotate_left
                    · intro w'
                      go_simp
                      with_reducible rfl
                    rotate_left
                    · simp only [Act.put, List.setIfInBounds_toArray, List.set_cons_zero, List.set_cons_succ, i64_w, i32_w]
                      rfl
                    refine pure_ (i := 37) (N := some 72) (v := ?_) (a' := ?_) #[true, true, true, true, true, true, true, true, true, true, true, true, true, true, true, true, true, true, true, true, true, true, true, true, true, true, true, true, true, true, true, true, true, true, true, false, false, true, false, false, false, false, false, false] rfl rfl (any_of HT_.out (by kernel_rfl)) (fun _ _ _ h => h) (Or.inl ⟨by rfl, ?_⟩) ?_ ?_
                    rotate_left
                    · intro w'
                      go_simp
                      with_reducible rfl
                    rotate_left
                    · simp only [Act.put, List.setIfInBounds_toArray, List.set_cons_zero, List.set_cons_succ, i64_w, i32_w]
                      rfl
                    refine pure_ (i := 38) (N := some 73) (v := ?_) (a' := ?_) #[true, true, true, true, true, true, true, true, true, true, true, true, true, true, true, true, true, true, true, true, true, true, true, true, true, true, true, true, true, true, true, true, true, true, true, false, false, true, true, false, false, false, false, false] rfl rfl (any_of HT_.out (by kernel_rfl)) (fun _ _ _ h => h) (Or.inl ⟨by rfl, ?_⟩) ?_ ?_
                    rotate_left
                    · intro w'
                      go_simp
                      with_reducible rfl
                    rotate_left
                    · simp only [Act.put, List.setIfInBounds_toArray, List.set_cons_zero, List.set_cons_succ, i64_w, i32_w]
                      rfl
                    refine pure_ (i := 39) (N := some 74) (v := ?_) (a' := ?_) #[true, true, true, true, true, true, true, true, true, true, true, true, true, true, true, true, true, true, true, true, true, true, true, true, true, true, true, true, true, true, true, true, true, true, true, false, false, true, true, true, false, false, false, false] rfl rfl (any_of HT_.out (by kernel_rfl)) (fun _ _ _ h => h) (Or.inl ⟨by rfl, ?_⟩) ?_ ?_
                    rotate_left
                    · intro w'
                      go_simp
                      with_reducible rfl
                    rotate_left
                    · simp only [Act.put, List.setIfInBounds_toArray, List.set_cons_zero, List.set_cons_succ, i64_w, i32_w]
                      rfl
                    refine take_ (i := 35) (N := some 70) (v := ?_) (a' := ?_) #[true, true, true, true, true, true, true, true, true, true, true, true, true, true, true, true, true, true, true, true, true, true, true, true, true, true, true, true, true, true, true, true, true, true, true, true, false, true, true, true, false, false, false, false] rfl rfl (take_ofW HT_.out HW_.out (by kernel_rfl)) (fun _ _ _ h => h) (Or.inl ⟨by rfl, ?_⟩) hHeld ?_ ?_
                    rotate_left
                    · rintro w' ⟨s0, s1⟩
                      go_simp
                      with_reducible rfl
                    rotate_left
                    · simp only [Act.put, List.setIfInBounds_toArray, List.set_cons_zero, List.set_cons_succ, i64_w, i32_w]
                      rfl
                    refine one_ (i := 36) (N := some 71) #[true, true, true, true, true, true, true, true, true, true, true, true, true, true, true, true, true, true, true, true, true, true, true, true, true, true, true, true, true, true, true, true, true, true, true, true, true, true, true, true, false, false, false, false] rfl rfl (one_of HT_.out (by kernel_rfl)) (by decide) (fun K hK => ?_)
                    refine goes_ Try.func38 (by kernel_rfl) rfl #[.agg #[.int .u32 t113]] (by rfl) rfl rfl (by (try simp only [List.map_toArray, List.map_cons, List.map_nil]); first | done | rfl | (simp only [List.length_drop, List.length_take]; rfl)) ?_
                    with_reducible refine (crc_State_Sum.calls t113 t130 _ A37.out).mono ?_
                    rintro e w63 ⟨rfl, hb⟩
                    refine ⟨_, rfl, ?_⟩
                    have n0_ := Aside0.mk (Kd.R_below (by (with_reducible repeat (first | apply Kd.R_alloc | apply Kd.R_drewN | apply Kd.R_drew)); exact HO119.out) hb)
                    have n1_ := Aside0.mk (Kd.R_below (by (with_reducible repeat (first | apply Kd.R_alloc | apply Kd.R_drewN | apply Kd.R_drew)); exact HO124.out) hb)
                    have n2_ := Aside0.mk (blk_below (g := gb114) (o := .cells #[.int .u32 t113] 60 (0, 0)) (by (with_reducible repeat (first | refine blk_drewN ?_ _ | refine blk_drew ?_ | refine blk_alloc ?_ _)); exact BK114.out) hb)
                    have n3_ := Aside0.mk (blk_below (g := gb116) (o := .cells #[.int .u32 t115] 60 (0, 0)) (by (with_reducible repeat (first | refine blk_drewN ?_ _ | refine blk_drew ?_ | refine blk_alloc ?_ _)); exact BK116.out) hb)
                    have n4_ := Aside0.mk (below_step (by repeat (first | (with_reducible first | exact HB.out | apply below_alloc | apply pw_below_drewN | apply below_drew1 | refine below_set ?_ GE114.out | refine below_set ?_ GE116.out) | exact HB.out)) hb)
                    clear HO119
                    clear HO124
                    clear BK114
                    clear BK116
                    clear HB
                    have HO119 := n0_
                    have HO124 := n1_
                    have BK114 := n2_
                    have BK116 := n3_
                    have HB := n4_
                    clear n0_ n1_ n2_ n3_ n4_
                    (try clear hb)
                    (try clear hb2)
                    (try clear hk)
                    (try clear hi)
                    refine hK.out _ _ ⟨(blk_cell BK116.out 0).trans rfl, (blk_cell BK114.out 0).trans rfl⟩ (fun hHeld => ?_)
                    clear hK K
                    refine norm_ (a' := ?_) ?_ ?_
                    rotate_left
                    · show Act.put _ (some 71) _ = _
                      simp only [Act.put, List.setIfInBounds_toArray, List.set_cons_zero, List.set_cons_succ, i64_w, i32_w]
                      rfl
                    refine one_ (i := 40) (N := some 75) #[true, true, true, true, true, true, true, true, true, true, true, true, true, true, true, true, true, true, true, true, true, true, true, true, true, true, true, true, true, true, true, true, true, true, true, true, true, true, true, true, true, false, false, false] rfl rfl (one_of HT_.out (by kernel_rfl)) (by decide) (fun K hK => ?_)
                    refine goes_ Try.func37 (by kernel_rfl) rfl #[.string (t111.extract 0 ((ji8) : Int).toNat)] (by rfl) rfl rfl (by (try simp only [List.map_toArray, List.map_cons, List.map_nil]); first | done | (simp only [hji8]; rfl) | rfl | (simp only [List.length_drop, List.length_take]; rfl)) ?_
                    with_reducible refine (shunterref03_Sum.calls k (t111.extract 0 ((ji8) : Int).toNat) t131 _ A40.out).mono ?_
                    rintro e w' ⟨rfl, ⟨nd, rfl⟩⟩
                    refine ⟨_, rfl, ?_⟩
                    refine hK.out _ _ ⟨(blk_cell BK116.out 0).trans rfl, (blk_cell BK114.out 0).trans rfl⟩ (fun hHeld => ?_)
                    clear hK K
                    refine norm_ (a' := ?_) ?_ ?_
                    rotate_left
                    · show Act.put _ (some 75) _ = _
                      simp only [Act.put, List.setIfInBounds_toArray, List.set_cons_zero, List.set_cons_succ, i64_w, i32_w]
                      rfl
                    refine pure_ (i := 41) (N := some 76) (v := ?_) (a' := ?_) #[true, true, true, true, true, true, true, true, true, true, true, true, true, true, true, true, true, true, true, true, true, true, true, true, true, true, true, true, true, true, true, true, true, true, true, true, true, true, true, true, true, true, false, false] rfl rfl (any_of HT_.out (by kernel_rfl)) (fun _ _ _ h => h) (Or.inl ⟨by rfl, ?_⟩) ?_ ?_
                    rotate_left
                    · intro w'
                      go_simp
                      with_reducible rfl
                    rotate_left
                    · simp only [Act.put, List.setIfInBounds_toArray, List.set_cons_zero, List.set_cons_succ, i64_w, i32_w]
                      rfl
                    refine pure_ (i := 42) (N := some 77) (v := ?_) (a' := ?_) #[true, true, true, true, true, true, true, true, true, true, true, true, true, true, true, true, true, true, true, true, true, true, true, true, true, true, true, true, true, true, true, true, true, true, true, true, true, true, true, true, true, true, true, false] rfl rfl (any_of HT_.out (by kernel_rfl)) (fun _ _ _ h => h) (Or.inl ⟨by rfl, ?_⟩) ?_ ?_
                    rotate_left
                    · intro w'
                      go_simp
                      with_reducible rfl
                    rotate_left
                    · simp only [Act.put, List.setIfInBounds_toArray, List.set_cons_zero, List.set_cons_succ, i64_w, i32_w]
                      rfl
                    refine pure_ (i := 43) (N := some 6) (v := ?_) (a' := ?_) #[true, true, true, true, true, true, true, true, true, true, true, true, true, true, true, true, true, true, true, true, true, true, true, true, true, true, true, true, true, true, true, true, true, true, true, true, true, true, true, true, true, true, true, true] rfl rfl (any_of HT_.out (by kernel_rfl)) (fun _ _ _ h => h) (Or.inl ⟨by rfl, ?_⟩) ?_ ?_
                    rotate_left
                    · intro w'
                      go_simp
                      with_reducible rfl
                    rotate_left
                    · simp only [Act.put, List.setIfInBounds_toArray, List.set_cons_zero, List.set_cons_succ, i64_w, i32_w]
                      rfl
                    refine done_ (done_of HT_.out (by kernel_rfl)) ?_
                    try go_wp2
                    go_ret
                    exact ⟨by first | rfl | (simp [errW_none, errW_some] <;> rfl) | (simp only [← hji7, ← hji8, ← hji9, ← hji10]; first | rfl | (simp [errW_none, errW_some] <;> rfl)) | (simp [*, errW_none, errW_some] <;> rfl), by repeat (first | (with_reducible first | exact HB.out | apply below_alloc | apply pw_below_drewN | apply below_drew1 | refine below_set ?_ GE114.out | refine below_set ?_ GE116.out) | exact HB.out)⟩
                  · rw [if_neg c36] at H
                    have c36b0 : (t128 == t129) = false := beq_eq_false_iff_ne.mpr c36
                    have c36b1 : (t128 != t129) = true := bne_iff_ne.mpr c36
                    exact absurd (H.trans (congrArg some hT.out)) (by simp)
                · rw [if_neg c30] at H
                  have c30b0 : (t125 == t126) = false := beq_eq_false_iff_ne.mpr c30
                  have c30b1 : (t125 != t126) = true := bne_iff_ne.mpr c30
                  exact absurd (H.trans (congrArg some hT.out)) (by simp)
              · rw [if_neg c26] at H
                exact absurd H (by simp)
            · rw [if_neg c20] at H
              have c20b0 : (t120 == t121) = false := beq_eq_false_iff_ne.mpr c20
              have c20b1 : (t120 != t121) = true := bne_iff_ne.mpr c20
              exact absurd (H.trans (congrArg some hT.out)) (by simp)
          · rw [if_neg c16] at H
            exact absurd H (by simp)
        · rw [if_neg c15] at H
          exact absurd H (by simp)
      · rw [if_neg c12] at H
        exact absurd H (by simp)
    · rw [if_neg c11] at H
      exact absurd H (by simp)
  · replace c6 := Bool.eq_false_iff.mpr c6
    subst c6
    have H1 : (some false) = some r := by rw [if_neg (show ¬ (false = true) by decide)] at H; exact H
    clear H
    have H := H1
    clear H1
    exact absurd (H.trans (congrArg some hT.out)) (by simp)
/-- THE ONE PURE STATEMENT of shunterlaw03_CrcSums: yours. -/
def shunterlaw03_CrcSums.Pure : Prop := ∀ (a0 : ByteArray) (a1 : Int) (a2 : Int), a0.size ≤ 140737488351232 → (Lit.int .i64 a1).wf = true → (Lit.int .i64 a2).wf = true → ∃ k, shunterlaw03_CrcSums.f k a0 a1 a2 = some true
theorem shunterlaw03_CrcSums.walk (P : shunterlaw03_CrcSums.Pure) (a0 : ByteArray) (a1 : Int) (a2 : Int) (w : World) (w0 : a0.size ≤ 140737488351232) (w1 : (Lit.int .i64 a1).wf = true) (w2 : (Lit.int .i64 a2).wf = true) :
    Calls Try.prog 10 #[.string a0, .int .i64 a1, .int .i64 a2] w fun e w' => e = .returned (.bool true) ∧ Below w.heap.size w w' := by
  obtain ⟨k, h⟩ := P a0 a1 a2 w0 w1 w2
  refine (shunterlaw03_CrcSums.calls k a0 a1 a2 true w h ⟨rfl⟩).mono ?_
  rintro e w' ⟨rfl, hd⟩
  exact ⟨rfl, hd⟩

end Go.Proofs.Ythdnlhcepndncaa.QCrcSums

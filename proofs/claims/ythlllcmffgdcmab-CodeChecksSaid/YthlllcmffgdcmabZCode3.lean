/- What ref.good answers: what the program's ins answers. -/
import Derived.Test.YthlllcmffgdcmabZCode2b
section
namespace Go.Proofs.Ythlllcmffgdcmab.Code
open Go.RowKit Go.Proofs.YthlllcmffgdcmabW.PrintWords Go.Proofs.YthlllcmffgdcmabW.PrintLast Go.Proofs.YthlllcmffgdcmabW.PrintMore
open Go.Proofs.Ythlllcmffgdcmab.PCodeChecks (S128 k128 S134 k134)
set_option linter.unusedVariables false
set_option linter.unusedSimpArgs false
theorem w64_in (n : Int) (h : -9223372036854775808 ≤ n ∧ n ≤ 9223372036854775807) : wrap64 n = n := by unfold wrap64; omega
theorem bad_lim {nf nc : Int} {locks ncs ncode f lo hi : Int} (h : limF nf nc locks ncs ncode f = (lo, hi, true)) (n : Int) : badF nf nc locks ncs ncode f n = !inB n lo hi := by
  unfold badF inB
  rw [h]
  by_cases h1 : n ≥ lo
  · rw [if_pos h1]
    by_cases h2 : n < hi
    · simp [h2, h1] <;> omega
    · simp [h2, h1] <;> omega
  · rw [if_neg h1]
    simp; omega
theorem bad_any (nf nc : Int) (locks ncs ncode n : Int) : badF nf nc locks ncs ncode 2 n = false := rfl
theorem bad_0 (nf nc : Int) (locks ncs ncode n : Int) : badF nf nc locks ncs ncode 0 n = !(n == 0) := by
  rw [bad_lim (rfl : limF nf nc locks ncs ncode 0 = (0, 1, true))]
  unfold inB
  by_cases h : n = 0
  · subst h; rfl
  · have : (n == 0) = false := beq_eq_false_iff_ne.2 h
    rw [this]
    by_cases h1 : n ≥ 0
    · rw [if_pos h1]; simp; omega
    · rw [if_neg h1]
theorem bad_1 (nf nc : Int) (locks ncs ncode n : Int) : badF nf nc locks ncs ncode 1 n = !inB n 0 8 := bad_lim rfl n
theorem bad_3 (nf nc : Int) (locks ncs ncode n : Int) : badF nf nc locks ncs ncode 3 n = !inB n 0 ncode := bad_lim rfl n
theorem bad_4 (nf nc : Int) (locks ncs ncode n : Int) : badF nf nc locks ncs ncode 4 n = !inB n 0 nf := bad_lim rfl n
theorem bad_5 (nf nc : Int) (locks ncs ncode n : Int) : badF nf nc locks ncs ncode 5 n = !inB n 0 nc := bad_lim rfl n
theorem bad_6 (nf nc : Int) (locks ncs ncode n : Int) : badF nf nc locks ncs ncode 6 n = !inB n 0 locks := bad_lim rfl n
theorem bad_7 (nf nc : Int) (locks ncs ncode n : Int) : badF nf nc locks ncs ncode 7 n = !inB n 0 ncs := bad_lim rfl n
theorem bad_8 (nf nc : Int) (locks ncs ncode n : Int) : badF nf nc locks ncs ncode 8 n = !inB n 1 (wrap64 (ncs + 1)) := bad_lim rfl n
theorem bad_9 (nf nc : Int) (locks ncs ncode n : Int) : badF nf nc locks ncs ncode 9 n = !inB n 1 1099511627776 := bad_lim rfl n
theorem bad_10 (nf nc : Int) (locks ncs ncode n : Int) : badF nf nc locks ncs ncode 10 n = !inB n 0 1048576 := bad_lim rfl n
theorem ins_at (nf nc : Int) (locks ncs ncode a b c : Int) (o : Nat) (h : o < 23) : insF nf nc locks ncs ncode (o : Int) a b c = if badF nf nc locks ncs ncode (fld o 0) a = true ∨ badF nf nc locks ncs ncode (fld o 1) b = true ∨ badF nf nc locks ncs ncode (fld o 2) c = true then 4 else if (o : Int) = 16 ∧ wrap64 (ncs - a) < b then 4 else 0 := by
  unfold insF
  rw [if_pos (by omega), Int.toNat_natCast]
theorem eq_0 (nf nc ncs nfl : Nat) (locks a b c : Int) : (if (a == 0) && (b == 0) && (c == 0) then (0 : Int) else 4) = insF nf nc locks ncs nfl 0 a b c := by
  rw [show (0 : Int) = ((0 : Nat) : Int) from rfl, ins_at _ _ _ _ _ _ _ _ 0 (by decide), show fld 0 0 = 0 from rfl, show fld 0 1 = 0 from rfl, show fld 0 2 = 0 from rfl, if_neg (show ¬ (((0 : Nat) : Int) = 16 ∧ wrap64 ((ncs : Int) - a) < b) from fun h => absurd h.1 (by decide))]
  simp only [bad_0]
  generalize ((a == 0)) = b1
  generalize ((b == 0)) = b2
  generalize ((c == 0)) = b3
  revert b1 b2 b3; decide
theorem eq_1 (nf nc ncs nfl : Nat) (locks a b c : Int) : (if inB a 0 8 && (c == 0) then (0 : Int) else 4) = insF nf nc locks ncs nfl 1 a b c := by
  rw [show (1 : Int) = ((1 : Nat) : Int) from rfl, ins_at _ _ _ _ _ _ _ _ 1 (by decide), show fld 1 0 = 1 from rfl, show fld 1 1 = 2 from rfl, show fld 1 2 = 0 from rfl, if_neg (show ¬ (((1 : Nat) : Int) = 16 ∧ wrap64 ((ncs : Int) - a) < b) from fun h => absurd h.1 (by decide))]
  simp only [bad_0, bad_1, bad_any]
  generalize (inB a 0 8) = b1
  generalize ((c == 0)) = b2
  revert b1 b2; decide
theorem eq_2 (nf nc ncs nfl : Nat) (locks a b c : Int) : (if inB a 0 8 && inB b 0 8 && (c == 0) then (0 : Int) else 4) = insF nf nc locks ncs nfl 2 a b c := by
  rw [show (2 : Int) = ((2 : Nat) : Int) from rfl, ins_at _ _ _ _ _ _ _ _ 2 (by decide), show fld 2 0 = 1 from rfl, show fld 2 1 = 1 from rfl, show fld 2 2 = 0 from rfl, if_neg (show ¬ (((2 : Nat) : Int) = 16 ∧ wrap64 ((ncs : Int) - a) < b) from fun h => absurd h.1 (by decide))]
  simp only [bad_0, bad_1]
  generalize (inB a 0 8) = b1
  generalize (inB b 0 8) = b2
  generalize ((c == 0)) = b3
  revert b1 b2 b3; decide
theorem eq_3 (nf nc ncs nfl : Nat) (locks a b c : Int) : (if inB a 0 8 && inB b 0 8 && inB c 0 8 then (0 : Int) else 4) = insF nf nc locks ncs nfl 3 a b c := by
  rw [show (3 : Int) = ((3 : Nat) : Int) from rfl, ins_at _ _ _ _ _ _ _ _ 3 (by decide), show fld 3 0 = 1 from rfl, show fld 3 1 = 1 from rfl, show fld 3 2 = 1 from rfl, if_neg (show ¬ (((3 : Nat) : Int) = 16 ∧ wrap64 ((ncs : Int) - a) < b) from fun h => absurd h.1 (by decide))]
  simp only [bad_1]
  generalize (inB a 0 8) = b1
  generalize (inB b 0 8) = b2
  generalize (inB c 0 8) = b3
  revert b1 b2 b3; decide
theorem eq_4 (nf nc ncs nfl : Nat) (locks a b c : Int) : (if inB a 0 8 && inB b 0 8 && inB c 0 8 then (0 : Int) else 4) = insF nf nc locks ncs nfl 4 a b c := by
  rw [show (4 : Int) = ((4 : Nat) : Int) from rfl, ins_at _ _ _ _ _ _ _ _ 4 (by decide), show fld 4 0 = 1 from rfl, show fld 4 1 = 1 from rfl, show fld 4 2 = 1 from rfl, if_neg (show ¬ (((4 : Nat) : Int) = 16 ∧ wrap64 ((ncs : Int) - a) < b) from fun h => absurd h.1 (by decide))]
  simp only [bad_1]
  generalize (inB a 0 8) = b1
  generalize (inB b 0 8) = b2
  generalize (inB c 0 8) = b3
  revert b1 b2 b3; decide
theorem eq_5 (nf nc ncs nfl : Nat) (locks a b c : Int) : (if inB a 0 8 && inB b 0 8 && inB c 0 8 then (0 : Int) else 4) = insF nf nc locks ncs nfl 5 a b c := by
  rw [show (5 : Int) = ((5 : Nat) : Int) from rfl, ins_at _ _ _ _ _ _ _ _ 5 (by decide), show fld 5 0 = 1 from rfl, show fld 5 1 = 1 from rfl, show fld 5 2 = 1 from rfl, if_neg (show ¬ (((5 : Nat) : Int) = 16 ∧ wrap64 ((ncs : Int) - a) < b) from fun h => absurd h.1 (by decide))]
  simp only [bad_1]
  generalize (inB a 0 8) = b1
  generalize (inB b 0 8) = b2
  generalize (inB c 0 8) = b3
  revert b1 b2 b3; decide
theorem eq_6 (nf nc ncs nfl : Nat) (locks a b c : Int) : (if inB a 0 8 && inB b 0 8 && inB c 0 8 then (0 : Int) else 4) = insF nf nc locks ncs nfl 6 a b c := by
  rw [show (6 : Int) = ((6 : Nat) : Int) from rfl, ins_at _ _ _ _ _ _ _ _ 6 (by decide), show fld 6 0 = 1 from rfl, show fld 6 1 = 1 from rfl, show fld 6 2 = 1 from rfl, if_neg (show ¬ (((6 : Nat) : Int) = 16 ∧ wrap64 ((ncs : Int) - a) < b) from fun h => absurd h.1 (by decide))]
  simp only [bad_1]
  generalize (inB a 0 8) = b1
  generalize (inB b 0 8) = b2
  generalize (inB c 0 8) = b3
  revert b1 b2 b3; decide
theorem eq_7 (nf nc ncs nfl : Nat) (locks a b c : Int) : (if inB a 0 (nfl : Int) && (b == 0) && (c == 0) then (0 : Int) else 4) = insF nf nc locks ncs nfl 7 a b c := by
  rw [show (7 : Int) = ((7 : Nat) : Int) from rfl, ins_at _ _ _ _ _ _ _ _ 7 (by decide), show fld 7 0 = 3 from rfl, show fld 7 1 = 0 from rfl, show fld 7 2 = 0 from rfl, if_neg (show ¬ (((7 : Nat) : Int) = 16 ∧ wrap64 ((ncs : Int) - a) < b) from fun h => absurd h.1 (by decide))]
  simp only [bad_0, bad_3]
  generalize (inB a 0 (nfl : Int)) = b1
  generalize ((b == 0)) = b2
  generalize ((c == 0)) = b3
  revert b1 b2 b3; decide
theorem eq_8 (nf nc ncs nfl : Nat) (locks a b c : Int) : (if inB a 0 8 && inB b 0 (nfl : Int) && (c == 0) then (0 : Int) else 4) = insF nf nc locks ncs nfl 8 a b c := by
  rw [show (8 : Int) = ((8 : Nat) : Int) from rfl, ins_at _ _ _ _ _ _ _ _ 8 (by decide), show fld 8 0 = 1 from rfl, show fld 8 1 = 3 from rfl, show fld 8 2 = 0 from rfl, if_neg (show ¬ (((8 : Nat) : Int) = 16 ∧ wrap64 ((ncs : Int) - a) < b) from fun h => absurd h.1 (by decide))]
  simp only [bad_0, bad_1, bad_3]
  generalize (inB a 0 8) = b1
  generalize (inB b 0 (nfl : Int)) = b2
  generalize ((c == 0)) = b3
  revert b1 b2 b3; decide
theorem eq_9 (nf nc ncs nfl : Nat) (locks a b c : Int) : (if inB a 0 (nf : Int) && inB b 0 8 && inB c 0 8 then (0 : Int) else 4) = insF nf nc locks ncs nfl 9 a b c := by
  rw [show (9 : Int) = ((9 : Nat) : Int) from rfl, ins_at _ _ _ _ _ _ _ _ 9 (by decide), show fld 9 0 = 4 from rfl, show fld 9 1 = 1 from rfl, show fld 9 2 = 1 from rfl, if_neg (show ¬ (((9 : Nat) : Int) = 16 ∧ wrap64 ((ncs : Int) - a) < b) from fun h => absurd h.1 (by decide))]
  simp only [bad_1, bad_4]
  generalize (inB a 0 (nf : Int)) = b1
  generalize (inB b 0 8) = b2
  generalize (inB c 0 8) = b3
  revert b1 b2 b3; decide
theorem eq_10 (nf nc ncs nfl : Nat) (locks a b c : Int) : (if inB a 0 8 && (b == 0) && (c == 0) then (0 : Int) else 4) = insF nf nc locks ncs nfl 10 a b c := by
  rw [show (10 : Int) = ((10 : Nat) : Int) from rfl, ins_at _ _ _ _ _ _ _ _ 10 (by decide), show fld 10 0 = 1 from rfl, show fld 10 1 = 0 from rfl, show fld 10 2 = 0 from rfl, if_neg (show ¬ (((10 : Nat) : Int) = 16 ∧ wrap64 ((ncs : Int) - a) < b) from fun h => absurd h.1 (by decide))]
  simp only [bad_0, bad_1]
  generalize (inB a 0 8) = b1
  generalize ((b == 0)) = b2
  generalize ((c == 0)) = b3
  revert b1 b2 b3; decide
theorem eq_11 (nf nc ncs nfl : Nat) (locks a b c : Int) : (if inB a 0 (nf : Int) && inB b 0 8 && inB c 0 8 then (0 : Int) else 4) = insF nf nc locks ncs nfl 11 a b c := by
  rw [show (11 : Int) = ((11 : Nat) : Int) from rfl, ins_at _ _ _ _ _ _ _ _ 11 (by decide), show fld 11 0 = 4 from rfl, show fld 11 1 = 1 from rfl, show fld 11 2 = 1 from rfl, if_neg (show ¬ (((11 : Nat) : Int) = 16 ∧ wrap64 ((ncs : Int) - a) < b) from fun h => absurd h.1 (by decide))]
  simp only [bad_1, bad_4]
  generalize (inB a 0 (nf : Int)) = b1
  generalize (inB b 0 8) = b2
  generalize (inB c 0 8) = b3
  revert b1 b2 b3; decide
theorem eq_12 (nf nc ncs nfl : Nat) (locks a b c : Int) : (if (a == 0) && (b == 0) && (c == 0) then (0 : Int) else 4) = insF nf nc locks ncs nfl 12 a b c := by
  rw [show (12 : Int) = ((12 : Nat) : Int) from rfl, ins_at _ _ _ _ _ _ _ _ 12 (by decide), show fld 12 0 = 0 from rfl, show fld 12 1 = 0 from rfl, show fld 12 2 = 0 from rfl, if_neg (show ¬ (((12 : Nat) : Int) = 16 ∧ wrap64 ((ncs : Int) - a) < b) from fun h => absurd h.1 (by decide))]
  simp only [bad_0]
  generalize ((a == 0)) = b1
  generalize ((b == 0)) = b2
  generalize ((c == 0)) = b3
  revert b1 b2 b3; decide
theorem eq_13 (nf nc ncs nfl : Nat) (locks a b c : Int) : (if inB a 0 (nc : Int) && inB b 0 8 && (c == 0) then (0 : Int) else 4) = insF nf nc locks ncs nfl 13 a b c := by
  rw [show (13 : Int) = ((13 : Nat) : Int) from rfl, ins_at _ _ _ _ _ _ _ _ 13 (by decide), show fld 13 0 = 5 from rfl, show fld 13 1 = 1 from rfl, show fld 13 2 = 0 from rfl, if_neg (show ¬ (((13 : Nat) : Int) = 16 ∧ wrap64 ((ncs : Int) - a) < b) from fun h => absurd h.1 (by decide))]
  simp only [bad_0, bad_1, bad_5]
  generalize (inB a 0 (nc : Int)) = b1
  generalize (inB b 0 8) = b2
  generalize ((c == 0)) = b3
  revert b1 b2 b3; decide
theorem eq_14 (nf nc ncs nfl : Nat) (locks a b c : Int) : (if inB a 0 (nc : Int) && inB b 0 8 && inB c 0 8 then (0 : Int) else 4) = insF nf nc locks ncs nfl 14 a b c := by
  rw [show (14 : Int) = ((14 : Nat) : Int) from rfl, ins_at _ _ _ _ _ _ _ _ 14 (by decide), show fld 14 0 = 5 from rfl, show fld 14 1 = 1 from rfl, show fld 14 2 = 1 from rfl, if_neg (show ¬ (((14 : Nat) : Int) = 16 ∧ wrap64 ((ncs : Int) - a) < b) from fun h => absurd h.1 (by decide))]
  simp only [bad_1, bad_5]
  generalize (inB a 0 (nc : Int)) = b1
  generalize (inB b 0 8) = b2
  generalize (inB c 0 8) = b3
  revert b1 b2 b3; decide
theorem eq_15 (nf nc ncs nfl : Nat) (locks a b c : Int) : (if inB a 0 (nc : Int) && (b == 0) && (c == 0) then (0 : Int) else 4) = insF nf nc locks ncs nfl 15 a b c := by
  rw [show (15 : Int) = ((15 : Nat) : Int) from rfl, ins_at _ _ _ _ _ _ _ _ 15 (by decide), show fld 15 0 = 5 from rfl, show fld 15 1 = 0 from rfl, show fld 15 2 = 0 from rfl, if_neg (show ¬ (((15 : Nat) : Int) = 16 ∧ wrap64 ((ncs : Int) - a) < b) from fun h => absurd h.1 (by decide))]
  simp only [bad_0, bad_5]
  generalize (inB a 0 (nc : Int)) = b1
  generalize ((b == 0)) = b2
  generalize ((c == 0)) = b3
  revert b1 b2 b3; decide
theorem eq_17 (nf nc ncs nfl : Nat) (locks a b c : Int) : (if inB a 0 8 && (b == 0) && (c == 0) then (0 : Int) else 4) = insF nf nc locks ncs nfl 17 a b c := by
  rw [show (17 : Int) = ((17 : Nat) : Int) from rfl, ins_at _ _ _ _ _ _ _ _ 17 (by decide), show fld 17 0 = 1 from rfl, show fld 17 1 = 0 from rfl, show fld 17 2 = 0 from rfl, if_neg (show ¬ (((17 : Nat) : Int) = 16 ∧ wrap64 ((ncs : Int) - a) < b) from fun h => absurd h.1 (by decide))]
  simp only [bad_0, bad_1]
  generalize (inB a 0 8) = b1
  generalize ((b == 0)) = b2
  generalize ((c == 0)) = b3
  revert b1 b2 b3; decide
theorem eq_18 (nf nc ncs nfl : Nat) (locks a b c : Int) : (if inB a 0 locks && (b == 0) && (c == 0) then (0 : Int) else 4) = insF nf nc locks ncs nfl 18 a b c := by
  rw [show (18 : Int) = ((18 : Nat) : Int) from rfl, ins_at _ _ _ _ _ _ _ _ 18 (by decide), show fld 18 0 = 6 from rfl, show fld 18 1 = 0 from rfl, show fld 18 2 = 0 from rfl, if_neg (show ¬ (((18 : Nat) : Int) = 16 ∧ wrap64 ((ncs : Int) - a) < b) from fun h => absurd h.1 (by decide))]
  simp only [bad_0, bad_6]
  generalize (inB a 0 locks) = b1
  generalize ((b == 0)) = b2
  generalize ((c == 0)) = b3
  revert b1 b2 b3; decide
theorem eq_19 (nf nc ncs nfl : Nat) (locks a b c : Int) : (if inB a 0 locks && (b == 0) && (c == 0) then (0 : Int) else 4) = insF nf nc locks ncs nfl 19 a b c := by
  rw [show (19 : Int) = ((19 : Nat) : Int) from rfl, ins_at _ _ _ _ _ _ _ _ 19 (by decide), show fld 19 0 = 6 from rfl, show fld 19 1 = 0 from rfl, show fld 19 2 = 0 from rfl, if_neg (show ¬ (((19 : Nat) : Int) = 16 ∧ wrap64 ((ncs : Int) - a) < b) from fun h => absurd h.1 (by decide))]
  simp only [bad_0, bad_6]
  generalize (inB a 0 locks) = b1
  generalize ((b == 0)) = b2
  generalize ((c == 0)) = b3
  revert b1 b2 b3; decide
theorem eq_20 (nf nc ncs nfl : Nat) (locks a b c : Int) : (if inB a 0 8 && (b == 0) && (c == 0) then (0 : Int) else 4) = insF nf nc locks ncs nfl 20 a b c := by
  rw [show (20 : Int) = ((20 : Nat) : Int) from rfl, ins_at _ _ _ _ _ _ _ _ 20 (by decide), show fld 20 0 = 1 from rfl, show fld 20 1 = 0 from rfl, show fld 20 2 = 0 from rfl, if_neg (show ¬ (((20 : Nat) : Int) = 16 ∧ wrap64 ((ncs : Int) - a) < b) from fun h => absurd h.1 (by decide))]
  simp only [bad_0, bad_1]
  generalize (inB a 0 8) = b1
  generalize ((b == 0)) = b2
  generalize ((c == 0)) = b3
  revert b1 b2 b3; decide
theorem eq_21 (nf nc ncs nfl : Nat) (locks a b c : Int) : (if inB a 0 8 && inB b 1 1099511627776 && (c == 0) then (0 : Int) else 4) = insF nf nc locks ncs nfl 21 a b c := by
  rw [show (21 : Int) = ((21 : Nat) : Int) from rfl, ins_at _ _ _ _ _ _ _ _ 21 (by decide), show fld 21 0 = 1 from rfl, show fld 21 1 = 9 from rfl, show fld 21 2 = 0 from rfl, if_neg (show ¬ (((21 : Nat) : Int) = 16 ∧ wrap64 ((ncs : Int) - a) < b) from fun h => absurd h.1 (by decide))]
  simp only [bad_0, bad_1, bad_9]
  generalize (inB a 0 8) = b1
  generalize (inB b 1 1099511627776) = b2
  generalize ((c == 0)) = b3
  revert b1 b2 b3; decide
theorem eq_22 (nf nc ncs nfl : Nat) (locks a b c : Int) : (if inB a 0 1048576 && (b == 0) && (c == 0) then (0 : Int) else 4) = insF nf nc locks ncs nfl 22 a b c := by
  rw [show (22 : Int) = ((22 : Nat) : Int) from rfl, ins_at _ _ _ _ _ _ _ _ 22 (by decide), show fld 22 0 = 10 from rfl, show fld 22 1 = 0 from rfl, show fld 22 2 = 0 from rfl, if_neg (show ¬ (((22 : Nat) : Int) = 16 ∧ wrap64 ((ncs : Int) - a) < b) from fun h => absurd h.1 (by decide))]
  simp only [bad_0, bad_10]
  generalize (inB a 0 1048576) = b1
  generalize ((b == 0)) = b2
  generalize ((c == 0)) = b3
  revert b1 b2 b3; decide
theorem eq_16 (nf nc ncs nfl : Nat) (hn : ncs ≤ 32) (locks a b c : Int) : (if inB a 0 (ncs : Int) && inB b 1 (wrap64 (wrap64 ((ncs : Int) - a) + 1)) && inB c 0 8 then (0 : Int) else 4) = insF nf nc locks ncs nfl 16 a b c := by
  rw [show (16 : Int) = ((16 : Nat) : Int) from rfl, ins_at _ _ _ _ _ _ _ _ 16 (by decide), show fld 16 0 = 7 from rfl, show fld 16 1 = 8 from rfl, show fld 16 2 = 1 from rfl, bad_7, bad_8, bad_1]
  generalize inB c 0 8 = b3
  rw [w64_in _ (show (-9223372036854775808 : Int) ≤ (ncs : Int) + 1 ∧ (ncs : Int) + 1 ≤ 9223372036854775807 by omega)]
  cases hA : inB a 0 (ncs : Int) with
  | false => rfl
  | true =>
    have hA' : 0 ≤ a ∧ a < ncs := by
      unfold inB at hA
      by_cases h1 : a ≥ 0
      · rw [if_pos h1] at hA; exact ⟨h1, of_decide_eq_true hA⟩
      · rw [if_neg h1] at hA; exact absurd hA (by decide)
    rw [w64_in _ (show (-9223372036854775808 : Int) ≤ (ncs : Int) - a ∧ (ncs : Int) - a ≤ 9223372036854775807 by omega), w64_in _ (show (-9223372036854775808 : Int) ≤ (ncs : Int) - a + 1 ∧ (ncs : Int) - a + 1 ≤ 9223372036854775807 by omega)]
    unfold inB
    by_cases h1 : b ≥ 1
    · rw [if_pos h1, if_pos h1]
      by_cases h2 : b < (ncs : Int) - a + 1
      · rw [decide_eq_true h2, decide_eq_true (show b < (ncs : Int) + 1 by omega), if_neg (show ¬ (((16 : Nat) : Int) = 16 ∧ (ncs : Int) - a < b) by omega)]
        cases b3 <;> rfl
      · rw [decide_eq_false h2, if_pos (show (((16 : Nat) : Int) = 16 ∧ (ncs : Int) - a < b) by omega)]
        simp
    · rw [if_neg h1, if_neg h1]
      simp
def shunterref10_good.f (l0_0 : List (List S128)) (l0_1 : List Int) (a0_2 : Int) (l0_3 : List S134) (l1 : List S128) (a2_0 a2_1 a2_2 a2_3 : Int) : Option Int := if l0_3.length ≤ 32 then some (insF l0_0.length l0_1.length a0_2 l0_3.length l1.length a2_0 a2_1 a2_2 a2_3) else none
theorem shunterref10_good.calls (A0_0 : Option Addr) (c0_0 : Nat) (l0_0 : List (List (S128))) (A0_1 : Option Addr) (c0_1 : Nat) (l0_1 : List Int) (a0_2 : Int) (A0_3 : Option Addr) (c0_3 : Nat) (l0_3 : List (S134)) (A1 : Option Addr) (c1 : Nat) (l1 : List (S128)) (a2_0 : Int) (a2_1 : Int) (a2_2 : Int) (a2_3 : Int) (r : Int) (w : World) (hr0_0 : Kd.C (Kd.slice 128 k128) w A0_0 l0_0.length l0_0) (hc0_0 : l0_0.length ≤ c0_0) (hr0_1 : Kd.C (Kd.int .i64) w A0_1 l0_1.length l0_1) (hc0_1 : l0_1.length ≤ c0_1) (hr0_3 : Kd.C k134 w A0_3 l0_3.length l0_3) (hc0_3 : l0_3.length ≤ c0_3) (hr1 : Kd.C k128 w A1 l1.length l1) (hc1 : l1.length ≤ c1) (h : shunterref10_good.f l0_0 l0_1 a0_2 l0_3 l1 a2_0 a2_1 a2_2 a2_3 = some r) :
    Calls Try.prog 75 #[.agg #[.slice A0_0 l0_0.length c0_0, .slice A0_1 l0_1.length c0_1, .int .i64 a0_2, .slice A0_3 l0_3.length c0_3], .slice A1 l1.length c1, .agg #[.int .i64 a2_0, .int .i64 a2_1, .int .i64 a2_2, .int .i64 a2_3]] w fun e w' => e = .returned (.int .i64 r) ∧ Below w.heap.size w w' := by
  unfold shunterref10_good.f at h
  by_cases hn : l0_3.length ≤ 32
  case neg => rw [if_neg hn] at h; exact absurd h (by simp)
  rw [if_pos hn] at h
  obtain rfl := Option.some.inj h
  clear h hr0_0 hc0_0 hr0_1 hc0_1 hr0_3 hc0_3 hr1 hc1
  generalize l0_0.length = nf at *
  generalize l0_1.length = nc at *
  generalize l0_3.length = ncs at *
  generalize l1.length = nfl at *
  by_cases ho : a2_0 < 0 ∨ 23 ≤ a2_0
  · rw [show insF (nf : Int) nc a0_2 ncs nfl a2_0 a2_1 a2_2 a2_3 = 9 from by unfold insF; rw [if_neg (by omega)]]
    exact good_else nf nc ncs nfl A0_0 A0_1 A1 A0_3 c0_0 c0_1 c1 c0_3 a0_2 a2_0 a2_1 a2_2 a2_3 ho w
  have hs : a2_0 = 0 ∨ a2_0 = 1 ∨ a2_0 = 2 ∨ a2_0 = 3 ∨ a2_0 = 4 ∨ a2_0 = 5 ∨ a2_0 = 6 ∨ a2_0 = 7 ∨ a2_0 = 8 ∨ a2_0 = 9 ∨ a2_0 = 10 ∨ a2_0 = 11 ∨ a2_0 = 12 ∨ a2_0 = 13 ∨ a2_0 = 14 ∨ a2_0 = 15 ∨ a2_0 = 16 ∨ a2_0 = 17 ∨ a2_0 = 18 ∨ a2_0 = 19 ∨ a2_0 = 20 ∨ a2_0 = 21 ∨ a2_0 = 22 := by omega
  clear ho
  rcases hs with rfl | rfl | rfl | rfl | rfl | rfl | rfl | rfl | rfl | rfl | rfl | rfl | rfl | rfl | rfl | rfl | rfl | rfl | rfl | rfl | rfl | rfl | rfl
  · rw [← eq_0 nf nc ncs nfl a0_2 a2_1 a2_2 a2_3]
    exact good_0 nf nc ncs nfl A0_0 A0_1 A1 A0_3 c0_0 c0_1 c1 c0_3 a0_2 a2_1 a2_2 a2_3 _ _ _ rfl rfl rfl  w
  · rw [← eq_1 nf nc ncs nfl a0_2 a2_1 a2_2 a2_3]
    exact good_1 nf nc ncs nfl A0_0 A0_1 A1 A0_3 c0_0 c0_1 c1 c0_3 a0_2 a2_1 a2_2 a2_3 _ _ rfl rfl  w
  · rw [← eq_2 nf nc ncs nfl a0_2 a2_1 a2_2 a2_3]
    exact good_2 nf nc ncs nfl A0_0 A0_1 A1 A0_3 c0_0 c0_1 c1 c0_3 a0_2 a2_1 a2_2 a2_3 _ _ _ rfl rfl rfl  w
  · rw [← eq_3 nf nc ncs nfl a0_2 a2_1 a2_2 a2_3]
    exact good_3 nf nc ncs nfl A0_0 A0_1 A1 A0_3 c0_0 c0_1 c1 c0_3 a0_2 a2_1 a2_2 a2_3 _ _ _ rfl rfl rfl  w
  · rw [← eq_4 nf nc ncs nfl a0_2 a2_1 a2_2 a2_3]
    exact good_4 nf nc ncs nfl A0_0 A0_1 A1 A0_3 c0_0 c0_1 c1 c0_3 a0_2 a2_1 a2_2 a2_3 _ _ _ rfl rfl rfl  w
  · rw [← eq_5 nf nc ncs nfl a0_2 a2_1 a2_2 a2_3]
    exact good_5 nf nc ncs nfl A0_0 A0_1 A1 A0_3 c0_0 c0_1 c1 c0_3 a0_2 a2_1 a2_2 a2_3 _ _ _ rfl rfl rfl  w
  · rw [← eq_6 nf nc ncs nfl a0_2 a2_1 a2_2 a2_3]
    exact good_6 nf nc ncs nfl A0_0 A0_1 A1 A0_3 c0_0 c0_1 c1 c0_3 a0_2 a2_1 a2_2 a2_3 _ _ _ rfl rfl rfl  w
  · rw [← eq_7 nf nc ncs nfl a0_2 a2_1 a2_2 a2_3]
    exact good_7 nf nc ncs nfl A0_0 A0_1 A1 A0_3 c0_0 c0_1 c1 c0_3 a0_2 a2_1 a2_2 a2_3 _ _ _ rfl rfl rfl  w
  · rw [← eq_8 nf nc ncs nfl a0_2 a2_1 a2_2 a2_3]
    exact good_8 nf nc ncs nfl A0_0 A0_1 A1 A0_3 c0_0 c0_1 c1 c0_3 a0_2 a2_1 a2_2 a2_3 _ _ _ rfl rfl rfl  w
  · rw [← eq_9 nf nc ncs nfl a0_2 a2_1 a2_2 a2_3]
    exact good_9 nf nc ncs nfl A0_0 A0_1 A1 A0_3 c0_0 c0_1 c1 c0_3 a0_2 a2_1 a2_2 a2_3 _ _ _ rfl rfl rfl  w
  · rw [← eq_10 nf nc ncs nfl a0_2 a2_1 a2_2 a2_3]
    exact good_10 nf nc ncs nfl A0_0 A0_1 A1 A0_3 c0_0 c0_1 c1 c0_3 a0_2 a2_1 a2_2 a2_3 _ _ _ rfl rfl rfl  w
  · rw [← eq_11 nf nc ncs nfl a0_2 a2_1 a2_2 a2_3]
    exact good_11 nf nc ncs nfl A0_0 A0_1 A1 A0_3 c0_0 c0_1 c1 c0_3 a0_2 a2_1 a2_2 a2_3 _ _ _ rfl rfl rfl  w
  · rw [← eq_12 nf nc ncs nfl a0_2 a2_1 a2_2 a2_3]
    exact good_12 nf nc ncs nfl A0_0 A0_1 A1 A0_3 c0_0 c0_1 c1 c0_3 a0_2 a2_1 a2_2 a2_3 _ _ _ rfl rfl rfl  w
  · rw [← eq_13 nf nc ncs nfl a0_2 a2_1 a2_2 a2_3]
    exact good_13 nf nc ncs nfl A0_0 A0_1 A1 A0_3 c0_0 c0_1 c1 c0_3 a0_2 a2_1 a2_2 a2_3 _ _ _ rfl rfl rfl  w
  · rw [← eq_14 nf nc ncs nfl a0_2 a2_1 a2_2 a2_3]
    exact good_14 nf nc ncs nfl A0_0 A0_1 A1 A0_3 c0_0 c0_1 c1 c0_3 a0_2 a2_1 a2_2 a2_3 _ _ _ rfl rfl rfl  w
  · rw [← eq_15 nf nc ncs nfl a0_2 a2_1 a2_2 a2_3]
    exact good_15 nf nc ncs nfl A0_0 A0_1 A1 A0_3 c0_0 c0_1 c1 c0_3 a0_2 a2_1 a2_2 a2_3 _ _ _ rfl rfl rfl  w
  · rw [← eq_16 nf nc ncs nfl hn a0_2 a2_1 a2_2 a2_3]
    exact good_16 nf nc ncs nfl A0_0 A0_1 A1 A0_3 c0_0 c0_1 c1 c0_3 a0_2 a2_1 a2_2 a2_3 _ _ _ rfl rfl rfl  w
  · rw [← eq_17 nf nc ncs nfl a0_2 a2_1 a2_2 a2_3]
    exact good_17 nf nc ncs nfl A0_0 A0_1 A1 A0_3 c0_0 c0_1 c1 c0_3 a0_2 a2_1 a2_2 a2_3 _ _ _ rfl rfl rfl  w
  · rw [← eq_18 nf nc ncs nfl a0_2 a2_1 a2_2 a2_3]
    exact good_18 nf nc ncs nfl A0_0 A0_1 A1 A0_3 c0_0 c0_1 c1 c0_3 a0_2 a2_1 a2_2 a2_3 _ _ _ rfl rfl rfl  w
  · rw [← eq_19 nf nc ncs nfl a0_2 a2_1 a2_2 a2_3]
    exact good_19 nf nc ncs nfl A0_0 A0_1 A1 A0_3 c0_0 c0_1 c1 c0_3 a0_2 a2_1 a2_2 a2_3 _ _ _ rfl rfl rfl  w
  · rw [← eq_20 nf nc ncs nfl a0_2 a2_1 a2_2 a2_3]
    exact good_20 nf nc ncs nfl A0_0 A0_1 A1 A0_3 c0_0 c0_1 c1 c0_3 a0_2 a2_1 a2_2 a2_3 _ _ _ rfl rfl rfl  w
  · rw [← eq_21 nf nc ncs nfl a0_2 a2_1 a2_2 a2_3]
    exact good_21 nf nc ncs nfl A0_0 A0_1 A1 A0_3 c0_0 c0_1 c1 c0_3 a0_2 a2_1 a2_2 a2_3 _ _ _ rfl rfl rfl  w
  · rw [← eq_22 nf nc ncs nfl a0_2 a2_1 a2_2 a2_3]
    exact good_22 nf nc ncs nfl A0_0 A0_1 A1 A0_3 c0_0 c0_1 c1 c0_3 a0_2 a2_1 a2_2 a2_3 _ _ _ rfl rfl rfl  w
end Go.Proofs.Ythlllcmffgdcmab.Code
end

/- Words on the exclusive or that the code of signed numbers uses. No function of the program in sight. -/
import Derived.Test.YthdnlhcepndncaaWMore
import Derived.Laws.BitsAllLaws
namespace Go.Proofs.Ythdnlhcepndncaa.ZigWords
open Go.RowKit Go.Proofs.YthdnlhcepndncaaW.PrintWords Go.Proofs.YthdnlhcepndncaaW.PrintLast

theorem ofInt_toNat (x : Int) (h0 : 0 ≤ x) (h1 : x < 18446744073709551616) : (BitVec.ofInt 64 x).toNat = x.toNat := by
  rw [BitVec.toNat_ofInt]
  congr 1
  exact Int.emod_eq_of_lt h0 (by simpa using h1)

theorem ones64 (x : Int) (hx : x = 18446744073709551615 ∨ x = -1) : BitVec.ofInt 64 x = BitVec.allOnes 64 := by
  rcases hx with rfl | rfl <;> decide

theorem xor_ones_nat (x y : Int) (h0 : 0 ≤ x) (h1 : x < 18446744073709551616) (hy : y = 18446744073709551615 ∨ y = -1) :
    (((BitVec.ofInt 64 x ^^^ BitVec.ofInt 64 y).toNat : Nat) : Int) = 18446744073709551615 - x := by
  rw [ones64 y hy, BitVec.xor_allOnes, BitVec.toNat_not, ofInt_toNat x h0 h1]
  have : (2 : Nat) ^ 64 = 18446744073709551616 := by decide
  rw [this]; omega

theorem xor_zero_nat (x : Int) (h0 : 0 ≤ x) (h1 : x < 18446744073709551616) : (((BitVec.ofInt 64 x ^^^ BitVec.ofInt 64 0).toNat : Nat) : Int) = x := by
  have : BitVec.ofInt 64 0 = 0#64 := by decide
  rw [this, BitVec.xor_zero, ofInt_toNat x h0 h1]; omega

theorem xor_u64_ones (x : Int) (h0 : 0 ≤ x) (h1 : x < 18446744073709551616) : Go.bits .xor .u64 x 18446744073709551615 = 18446744073709551615 - x := by
  show IntKind.u64.wrap _ = _
  rw [show ((BitVec.ofInt IntKind.u64.bits x ^^^ BitVec.ofInt IntKind.u64.bits 18446744073709551615).toNat : Int) = 18446744073709551615 - x from xor_ones_nat x _ h0 h1 (.inl rfl), IntKind.wrap_u64]
  omega

theorem xor_u64_zero (x : Int) (h0 : 0 ≤ x) (h1 : x < 18446744073709551616) : Go.bits .xor .u64 x 0 = x := by
  show IntKind.u64.wrap _ = _
  rw [show ((BitVec.ofInt IntKind.u64.bits x ^^^ BitVec.ofInt IntKind.u64.bits 0).toNat : Int) = x from xor_zero_nat x h0 h1, IntKind.wrap_u64]
  omega

theorem xor_i64_ones (x : Int) (h0 : 0 ≤ x) (h1 : x < 9223372036854775808) : Go.bits .xor .i64 x (-1) = -x - 1 := by
  show IntKind.i64.wrap _ = _
  rw [show ((BitVec.ofInt IntKind.i64.bits x ^^^ BitVec.ofInt IntKind.i64.bits (-1)).toNat : Int) = 18446744073709551615 - x from xor_ones_nat x _ h0 (by omega) (.inr rfl), IntKind.wrap_i64]
  omega

theorem xor_i64_zero (x : Int) (h0 : 0 ≤ x) (h1 : x < 9223372036854775808) : Go.bits .xor .i64 x 0 = x := by
  show IntKind.i64.wrap _ = _
  rw [show ((BitVec.ofInt IntKind.i64.bits x ^^^ BitVec.ofInt IntKind.i64.bits 0).toNat : Int) = x from xor_zero_nat x h0 (by omega), IntKind.wrap_i64]
  omega

theorem and_one (x : Int) (h0 : 0 ≤ x) (h1 : x < 18446744073709551616) : Go.bits .and .u64 x 1 = x % 2 := by
  rw [u64_and x 1 h0 h1 (by omega) (by omega), show (1 : Int).toNat = 1 from rfl, Nat.and_one_is_mod]
  omega

/-- The number without a sign that a number with one is told by. -/
def zigI (n : Int) : Int := if 0 ≤ n then 2 * n else -2 * n - 1
/-- And back. -/
def zagI (m : Int) : Int := if m % 2 = 0 then m / 2 else -(m / 2) - 1

theorem zag_zig (n : Int) : zagI (zigI n) = n := by unfold zagI zigI; split <;> split <;> omega
theorem zig_zag (m : Int) (h : 0 ≤ m) : zigI (zagI m) = m := by unfold zagI zigI; split <;> split <;> omega

theorem zig_eq (n : Int) (h0 : -9223372036854775808 ≤ n) (h1 : n ≤ 9223372036854775807) :
    Go.bits .xor .u64 (IntKind.u64.wrap (wrap64 (n * 2))) (IntKind.u64.wrap (n / 9223372036854775808)) = zigI n := by
  rw [IntKind.wrap_u64, IntKind.wrap_u64]
  have hx : wrap64 (n * 2) % 18446744073709551616 = (n * 2) % 18446744073709551616 := by unfold wrap64; omega
  rw [hx]
  unfold zigI
  by_cases h : 0 ≤ n
  · rw [if_pos h, show n / 9223372036854775808 % 18446744073709551616 = 0 from by omega, xor_u64_zero _ (by omega) (by omega)]; omega
  · rw [if_neg h, show n / 9223372036854775808 % 18446744073709551616 = 18446744073709551615 from by omega, xor_u64_ones _ (by omega) (by omega)]; omega

theorem zag_eq (m : Int) (h0 : 0 ≤ m) (h1 : m < 18446744073709551616) :
    Go.bits .xor .i64 (wrap64 (m / 2)) (wrap64 (-(wrap64 (Go.bits .and .u64 m 1)))) = zagI m := by
  rw [and_one m h0 h1, show wrap64 (m / 2) = m / 2 from by unfold wrap64; omega]
  unfold zagI
  by_cases h : m % 2 = 0
  · rw [if_pos h, h, show wrap64 (-(wrap64 0)) = 0 from by unfold wrap64; omega, xor_i64_zero _ (by omega) (by omega)]
  · rw [if_neg h, show m % 2 = 1 from by omega, show wrap64 (-(wrap64 1)) = -1 from by unfold wrap64; omega, xor_i64_ones _ (by omega) (by omega)]

theorem refzig_eq (n : Int) (h0 : -9223372036854775808 ≤ n) (h1 : n ≤ 9223372036854775807) :
    (if n ≥ 0 then some (IntKind.u64.wrap (2 * (IntKind.u64.wrap n))) else some (IntKind.u64.wrap ((IntKind.u64.wrap (2 * (IntKind.u64.wrap (wrap64 (-(wrap64 (n + 1))))))) + 1))) = some (zigI n) := by
  simp only [IntKind.wrap_u64]
  unfold zigI
  by_cases h : 0 ≤ n
  · rw [if_pos h, if_pos h]; congr 1; omega
  · rw [if_neg h, if_neg h]; congr 1; unfold wrap64; omega

theorem zig_range (n : Int) (h0 : -9223372036854775808 ≤ n) (h1 : n ≤ 9223372036854775807) : 0 ≤ zigI n ∧ zigI n < 18446744073709551616 := by unfold zigI; split <;> omega
theorem zag_range (m : Int) (h0 : 0 ≤ m) (h1 : m < 18446744073709551616) : -9223372036854775808 ≤ zagI m ∧ zagI m ≤ 9223372036854775807 := by unfold zagI; split <;> omega

end Go.Proofs.Ythdnlhcepndncaa.ZigWords

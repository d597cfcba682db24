/- The code's sum in the making adds what the plain sum says. -/
import Derived.Test.YthlllcmffgdcmaaCrcA
import Derived.Test.YthlllcmffgdcmaaCrcPlain
import Derived.Test.YthlllcmffgdcmaaLebWords
namespace Go.Proofs.Ythlllcmffgdcmaa.CrcLink
open Go.RowKit Go.Proofs.YthlllcmffgdcmaaW.PrintWords Go.Proofs.YthlllcmffgdcmaaW.PrintLast Go.Proofs.Ythlllcmffgdcmaa.Crc Go.Proofs.Ythlllcmffgdcmaa.CrcPlain Go.Proofs.Ythlllcmffgdcmaa.LebWords

theorem and_one32 (x : Nat) (h : x < 4294967296) : Go.bits .and .u32 (x : Int) 1 = ((x % 2 : Nat) : Int) := by
  rw [u32_and (x : Int) 1 (by omega) (by omega) (by omega) (by omega), Int.toNat_natCast, show (1 : Int).toNat = 1 from rfl, Nat.and_one_is_mod]

theorem xor_u32 (a b : Nat) (ha : a < 4294967296) (hb : b < 4294967296) : Go.bits .xor .u32 (a : Int) (b : Int) = ((a ^^^ b : Nat) : Int) := u32_xor_nat a b ha hb

theorem stepI_eq (z : Nat) (h : z < 4294967296) : stepI (z : Int) = ((stepN z : Nat) : Int) := by
  unfold stepI stepN
  rw [and_one32 z h]
  by_cases hz : z % 2 = 1
  · rw [if_pos (by omega), if_pos hz, show (z : Int) / 2 = ((z / 2 : Nat) : Int) from by omega, show (3988292384 : Int) = ((poly : Nat) : Int) from rfl, xor_u32 _ _ (by omega) (by decide)]
  · rw [if_neg (by omega), if_neg hz]; omega

theorem stepsI_eq (n z : Nat) (h : z < 4294967296) : stepsI n (z : Int) = ((stepsN n z : Nat) : Int) := by
  induction n with
  | zero => rfl
  | succ n ih => rw [stepsI, ih, stepI_eq _ (stepsN_lt n z h), stepsN]

theorem tabI_eq (i : Nat) (h : i < 256) : tabI i = ((s8 i : Nat) : Int) := by
  unfold tabI
  rw [stepsI_eq 8 i (by omega), s8_eq]

theorem stepB_eq (y b : Nat) (hy : y < 4294967296) (hb : b < 256) : stepB (y : Int) (b : Int) = ((s8 (y ^^^ b) : Nat) : Int) := by
  unfold stepB
  have hx : Go.bits .xor .u8 ((y : Int) % 256) (b : Int) = (((y % 256) ^^^ b : Nat) : Int) := by
    rw [show (y : Int) % 256 = ((y % 256 : Nat) : Int) from by omega, u8_xor_nat _ _ (by omega) hb]
  have hlt : (y % 256) ^^^ b < 256 := Nat.xor_lt_two_pow (n := 8) (Nat.mod_lt _ (by decide)) hb
  rw [hx, Int.toNat_natCast, tabI_eq _ hlt, show (y : Int) / 256 = ((y / 256 : Nat) : Int) from by omega, xor_u32 _ _ (by omega) (s8_lt _ (by omega)), s8_eq, s8_eq, byte_table y b hb]

theorem addTo_eq (s : ByteArray) (y : Nat) (hy : y < 4294967296) : ∀ n, n ≤ s.size → addTo s (y : Int) n = ((crcN y ((bl s).take n) : Nat) : Int) := by
  intro n
  induction n with
  | zero => intro _; rw [List.take_zero, crcN_nil]; rfl
  | succ n ih =>
    intro hn
    have hlt : n < (bl s).length := by rw [bl_length]; omega
    obtain ⟨b, hb, h256, hd⟩ := bl_drop s n (by omega)
    have hg : (bl s)[n] = b := by
      rw [List.drop_eq_getElem_cons hlt] at hd
      exact (List.cons.inj hd).1
    rw [addTo, ih (by omega), hb, stepB_eq _ _ (crcN_lt _ y hy (fun c hc => bl_lt s c (List.mem_of_mem_take hc))) h256, List.take_succ_eq_append_getElem hlt, crcN_append, crcN_cons, crcN_nil, hg]

theorem not_u32 (x : Nat) (h : x < 4294967296) : Go.bits .xor .u32 IntKind.u32.max (x : Int) = ((4294967295 - x : Nat) : Int) := by
  have e : Go.bits .xor .u32 IntKind.u32.max (x : Int) = IntKind.u32.wrap ((BitVec.ofInt 32 IntKind.u32.max ^^^ BitVec.ofInt 32 (x : Int)).toNat : Int) := rfl
  have e1 : BitVec.ofInt 32 IntKind.u32.max = BitVec.allOnes 32 := by decide
  have e2 : BitVec.ofInt 32 (x : Int) = BitVec.ofNat 32 x := by simp
  rw [e, e1, e2, BitVec.allOnes_xor, BitVec.toNat_not, BitVec.toNat_ofNat, IntKind.wrap_u32]
  have : (2 : Nat) ^ 32 = 4294967296 := by decide
  rw [this, Nat.mod_eq_of_lt h]
  omega

theorem add_f (x : Nat) (hx : x < 4294967296) (s : ByteArray) (hs : s.size ≤ 140737488351232) : crc_State_Add.f (x : Int) s = some ((addN x (bl s) : Nat) : Int) := by
  unfold crc_State_Add.f
  have hlt : crcN (4294967295 - x) (bl s) < 4294967296 := crcN_lt _ _ (by omega) (bl_lt s)
  rw [if_pos hs, not_u32 x hx, addTo_eq s _ (by omega) s.size (by omega), List.take_of_length_le (by rw [bl_length]; omega), not_u32 _ hlt]
  rfl

end Go.Proofs.Ythlllcmffgdcmaa.CrcLink

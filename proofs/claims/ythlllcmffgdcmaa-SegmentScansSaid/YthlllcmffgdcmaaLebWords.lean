/- Words on strings as lists of numbers, and on the bits that the code of layer 1 uses. No function of the program in sight. -/
import Derived.Test.YthlllcmffgdcmaaWMore
import Derived.Test.YthlllcmffgdcmaaLebPlain
import Derived.Laws.BitsAllLaws
namespace Go.Proofs.Ythlllcmffgdcmaa.LebWords
open Go.RowKit Go.Proofs.YthlllcmffgdcmaaW.PrintWords Go.Proofs.YthlllcmffgdcmaaW.PrintLast Go.Proofs.Ythlllcmffgdcmaa.LebPlain

/-- A string's bytes as numbers. -/
def bl (s : ByteArray) : List Nat := s.data.toList.map UInt8.toNat

theorem bl_length (s : ByteArray) : (bl s).length = s.size := by
  rw [bl, List.length_map, Array.length_toList]; rfl

theorem bl_lt (s : ByteArray) : ∀ b ∈ bl s, b < 256 := by
  intro b hb
  obtain ⟨u, _, rfl⟩ := List.mem_map.1 hb
  exact UInt8.toNat_lt u

theorem bl_get (s : ByteArray) (i : Nat) (h : i < s.size) : (bl s)[i]? = some (bt s (i : Int)).toNat := by
  have hb := bt_at s (i : Int) (by simpa using h)
  rw [← hb]
  simp only [bl, List.getElem?_map, Int.toNat_natCast]
  have : s.data.toList[i]? = some s.data[i] := by
    rw [Array.getElem?_toList]; exact Array.getElem?_eq_getElem h
  rw [this]; rfl

/-- The byte at a place, and what stands behind it. -/
theorem bl_drop (s : ByteArray) (i : Nat) (h : i < s.size) : ∃ b : Nat, bt s (i : Int) = b ∧ b < 256 ∧ (bl s).drop i = b :: (bl s).drop (i + 1) := by
  refine ⟨(bt s (i : Int)).toNat, ?_, ?_, ?_⟩
  · have := bt_range s (i : Int); omega
  · have := bt_range s (i : Int); omega
  · have hl : i < (bl s).length := by rw [bl_length]; exact h
    rw [List.drop_eq_getElem_cons hl]
    have := bl_get s i h
    rw [List.getElem?_eq_getElem hl] at this
    rw [Option.some.inj this]

theorem bl_inj {s t : ByteArray} (h : bl s = bl t) : s = t := by
  have h1 : s.data.toList = t.data.toList := by
    have hi : ∀ (a b : List UInt8), a.map UInt8.toNat = b.map UInt8.toNat → a = b := by
      intro a
      induction a with
      | nil => intro b hb; cases b with | nil => rfl | cons _ _ => simp at hb
      | cons x a ih =>
        intro b hb
        cases b with
        | nil => simp at hb
        | cons y b =>
          simp only [List.map_cons, List.cons.injEq] at hb
          rw [UInt8.toNat.inj hb.1, ih b hb.2]
    exact hi _ _ h
  cases s with | mk a => cases t with | mk b => simp only at h1; rw [ByteArray.mk.injEq]; exact Array.toList_inj.1 h1

theorem bl_append (s t : ByteArray) : bl (s ++ t) = bl s ++ bl t := by
  simp only [bl, ByteArray.data_append, Array.toList_append, List.map_append]

theorem bl_extract (s : ByteArray) (i j : Nat) : bl (s.extract i j) = ((bl s).drop i).take (j - i) := by
  simp only [bl, ByteArray.data_extract, Array.toList_extract, List.extract_eq_take_drop, List.map_take, List.map_drop]

theorem bl_nums (l : List Nat) (h : ∀ b ∈ l, b < 256) : bl (strOfNums (l.map Int.ofNat)) = l := by
  simp only [bl, strOfNums, List.map_map]
  conv => rhs; rw [← List.map_id l]
  refine List.map_congr_left fun b hb => ?_
  have := h b hb
  simp only [Function.comp, Int.ofNat_eq_natCast, Int.toNat_natCast, id, UInt8.toNat_ofNat']
  omega

theorem toList_eq {s t : ByteArray} : s.toList = t.toList ↔ s = t := by
  constructor
  · intro h
    have e : ∀ u : ByteArray, u.toList = u.data.toList := fun u => ByteArray.toList_eq u
    rw [e, e] at h
    cases s with | mk a => cases t with | mk b => rw [ByteArray.mk.injEq]; exact Array.toList_inj.1 h
  · rintro rfl; rfl

theorem and127 (b : Nat) (h : b < 256) : IntKind.u64.wrap (Go.bits .and .u8 (b : Int) 127) = ((b % 128 : Nat) : Int) := by
  have := bits_mask .u8 8 (by decide) wraps_u8 7 (by decide) (b : Int) (by omega) (by omega)
  rw [show (2 : Int) ^ 7 = 128 from by decide, show (128 : Int) - 1 = 127 from by decide] at this
  rw [this, IntKind.wrap_u64]
  omega

theorem or128 (b : Nat) (h : b < 256) : Go.bits .or .u8 (b : Int) 128 = ((b % 128 + 128 : Nat) : Int) := by
  rw [u8_or (b : Int) 128 (by omega) (by omega) (by omega) (by omega)]
  have : ∀ b, b < 256 → b ||| 128 = b % 128 + 128 := by decide +kernel
  rw [Int.toNat_natCast, show (128 : Int).toNat = 128 from rfl, this b h]

theorem pow7 (i : Nat) : (2 : Nat) ^ (7 * i) = 128 ^ i := by rw [Nat.pow_mul]

theorem or_shl (i acc b : Nat) (hi : i ≤ 9) (hacc : acc < 128 ^ i) (hb : b < 256) (h9 : i = 9 → b % 128 ≤ 1) :
    Go.bits .or .u64 (acc : Int) (shl .u64 (IntKind.u64.wrap (Go.bits .and .u8 (b : Int) 127)) ((7 * i : Nat) : Int)) = ((acc + b % 128 * 128 ^ i : Nat) : Int) := by
  have hp9 : (128 : Nat) ^ 9 = 9223372036854775808 := by decide
  have hbound : b % 128 * 128 ^ i < 18446744073709551616 := by
    rcases Nat.lt_or_ge i 9 with h | h
    · have h1 : b % 128 * 128 ^ i < 128 * 128 ^ i := Nat.mul_lt_mul_of_pos_right (by omega) (Nat.pow_pos (by omega))
      have h2 : 128 * 128 ^ i = 128 ^ (i + 1) := by rw [Nat.pow_succ, Nat.mul_comm]
      have h3 := pow_le_of (i + 1) (by omega)
      omega
    · obtain rfl : i = 9 := by omega
      have := h9 rfl
      rw [hp9]; omega
  have hacc64 : acc < 18446744073709551616 := by
    have := pow_le_of i hi
    omega
  have hs : shl .u64 (IntKind.u64.wrap (Go.bits .and .u8 (b : Int) 127)) ((7 * i : Nat) : Int) = ((b % 128 * 128 ^ i : Nat) : Int) := by
    rw [and127 b hb]
    unfold shl
    rw [Int.toNat_natCast, show min (7 * i) IntKind.u64.bits = 7 * i from Nat.min_eq_left (by simp [IntKind.bits]; omega), IntKind.wrap_u64]
    have : ((b % 128 : Nat) : Int) * 2 ^ (7 * i) = ((b % 128 * 128 ^ i : Nat) : Int) := by
      rw [← pow7, Int.natCast_mul, Int.natCast_pow]; rfl
    rw [this]
    omega
  rw [hs, u64_or _ _ (by omega) (by omega) (by omega) (by omega), Int.toNat_natCast, Int.toNat_natCast, Nat.or_comm,
    nat_join (7 * i) (b % 128 * 128 ^ i) acc (by rw [pow7]; exact Nat.mul_mod_left _ _) (by rw [pow7]; exact hacc), Nat.add_comm]

/-- What the reader tells of a list: at a place p. -/
def res (p : Nat) (r : Nat × Nat × Nat) : Int × Int × Int := if r.2.2 = 0 then ((r.1 : Int), ((p + r.2.1 : Nat) : Int), 0) else (0, 0, (r.2.2 : Int))

/-- The value of the bytes, from the last to the first. -/
def valL : List Nat → Nat
  | [] => 0
  | b :: l => if 128 ≤ b then b % 128 + 128 * valL l else b

theorem getL_val (l : List Nat) : ∀ (i acc v c : Nat), getL i acc l = (v, c, 0) → v = acc + valL l * 128 ^ i := by
  induction l with
  | nil => intro i acc v c h; simp only [getL] at h; split at h <;> simp at h
  | cons b l ih =>
    intro i acc v c h
    simp only [getL] at h
    split at h
    · simp at h
    split at h
    · rename_i h1 h2
      rw [ih _ _ _ _ h, valL, if_pos h2, Nat.pow_succ, Nat.add_mul, Nat.add_assoc]
      congr 2
      rw [← Nat.mul_assoc, Nat.mul_comm (valL l * 128 ^ i) 128, ← Nat.mul_assoc]
    split at h
    · simp at h
    · rename_i h1 h2 h3
      simp only [Prod.mk.injEq, and_true] at h
      rw [valL, if_neg h2]; exact h.1.symm

/-- The whole answer of the reader at a place. -/
def getA (s : ByteArray) (at_ : Int) : Int × Int × Int :=
  if at_ < 0 ∨ (s.size : Int) < at_ then (0, 0, 4) else res at_.toNat (getL 0 0 ((bl s).drop at_.toNat))

/-- A number's bytes, as a string. -/
def putS (n : Nat) : ByteArray := strOfNums ((putN n).map Int.ofNat)

theorem bl_putS (n : Nat) : bl (putS n) = putN n := bl_nums _ (putN_lt n)
theorem putS_size (n : Nat) : (putS n).size = (putN n).length := by rw [← bl_length, bl_putS]

end Go.Proofs.Ythlllcmffgdcmaa.LebWords

/- Texts of this claim, joined: LebPlain, LebWords, RecPlain, CrcPlain, SegPlain, BurstPlain, SpoiltPlain. -/
import Derived.Test.YthlllcmffgdcmaaWMore
import Derived.Laws.BitsAllLaws
namespace Go.Proofs.Ythlllcmffgdcmaa.LebPlain

/-- A number's bytes. -/
def putN (n : Nat) : List Nat := if n < 128 then [n] else (n % 128 + 128) :: putN (n / 128)
termination_by n
decreasing_by omega

theorem putN_small {n : Nat} (h : n < 128) : putN n = [n] := by rw [putN, if_pos h]
theorem putN_big {n : Nat} (h : ¬ n < 128) : putN n = (n % 128 + 128) :: putN (n / 128) := by rw [putN, if_neg h]

theorem putN_pos (n : Nat) : 0 < (putN n).length := by
  by_cases h : n < 128
  · rw [putN_small h]; simp
  · rw [putN_big h]; simp

theorem putN_lt (n : Nat) : ∀ b ∈ putN n, b < 256 := by
  induction n using putN.induct with
  | case1 n h => intro b hb; rw [putN_small h] at hb; simp at hb; omega
  | case2 n h ih =>
    intro b hb
    rw [putN_big h] at hb
    rcases List.mem_cons.1 hb with rfl | hb
    · omega
    · exact ih b hb

/-- The value, the number of bytes, the error's number: at byte i, of what was read so far acc. -/
def getL (i acc : Nat) : List Nat → Nat × Nat × Nat
  | [] => if 10 ≤ i then (0, 0, 1) else (0, 0, 2)
  | b :: l => if 10 ≤ i then (0, 0, 1) else if 128 ≤ b then getL (i + 1) (acc + b % 128 * 128 ^ i) l
      else if (b = 0 ∧ 0 < i) ∨ (i = 9 ∧ 1 < b) then (0, 0, 1) else (acc + b * 128 ^ i, i + 1, 0)

theorem getL_full {i : Nat} (h : 10 ≤ i) (acc : Nat) (l : List Nat) : getL i acc l = (0, 0, 1) := by
  cases l <;> simp [getL, h]

theorem pow_le_of (i : Nat) (h : i ≤ 9) : 128 ^ i ≤ 128 ^ 9 := Nat.pow_le_pow_right (by omega) h

theorem getL_put (n : Nat) : ∀ (i acc : Nat) (rest : List Nat), i ≤ 9 → n * 128 ^ i < 18446744073709551616 → (0 < i → 0 < n) →
    getL i acc (putN n ++ rest) = (acc + n * 128 ^ i, i + (putN n).length, 0) := by
  induction n using putN.induct with
  | case1 n h =>
    intro i acc rest hi hn h0
    rw [putN_small h]
    simp only [List.cons_append, List.nil_append, getL, List.length_singleton]
    rw [if_neg (by omega), if_neg (by omega), if_neg ?_]
    rintro (⟨rfl, hp⟩ | ⟨rfl, h1⟩)
    · have := h0 hp; omega
    · have : (128 : Nat) ^ 9 = 9223372036854775808 := by decide
      rw [this] at hn; omega
  | case2 n h ih =>
    intro i acc rest hi hn h0
    rw [putN_big h]
    have hi9 : i < 9 := by
      rcases Nat.lt_or_ge i 9 with h9 | h9
      · exact h9
      · obtain rfl : i = 9 := by omega
        have : (128 : Nat) ^ 9 = 9223372036854775808 := by decide
        rw [this] at hn; omega
    simp only [List.cons_append, getL, List.length_cons]
    rw [if_neg (by omega), if_pos (by omega)]
    have hp : 128 ^ (i + 1) = 128 * 128 ^ i := by rw [Nat.pow_succ, Nat.mul_comm]
    have hsplit : n = n % 128 + 128 * (n / 128) := (Nat.mod_add_div n 128).symm
    have hle : n / 128 * 128 ^ (i + 1) + n % 128 * 128 ^ i = n * 128 ^ i := by
      conv => rhs; rw [hsplit]
      rw [hp, Nat.add_mul]
      rw [Nat.add_comm]
      congr 1
      rw [← Nat.mul_assoc, Nat.mul_comm (n / 128) 128]
    rw [ih (i + 1) _ rest (by omega) (by omega) (by omega)]
    have hm : (n % 128 + 128) % 128 = n % 128 := by omega
    rw [hm]
    simp only [Prod.mk.injEq, and_true]
    constructor
    · rw [Nat.add_assoc, Nat.add_comm (n % 128 * 128 ^ i), hle]
    · omega

theorem getL_back (l : List Nat) : ∀ (i acc v c : Nat), (∀ b ∈ l, b < 256) → getL i acc l = (v, c, 0) →
    ∃ m, v = acc + m * 128 ^ i ∧ (0 < i → 0 < m) ∧ m * 128 ^ i < 18446744073709551616 ∧ putN m = l.take (c - i) ∧ i < c ∧ c - i ≤ l.length ∧ c ≤ 10 := by
  induction l with
  | nil => intro i acc v c _ h; simp only [getL] at h; split at h <;> simp at h
  | cons b l ih =>
    intro i acc v c hb h
    have hb0 : b < 256 := hb b (by simp)
    simp only [getL] at h
    split at h
    · simp at h
    rename_i hi
    split at h
    · rename_i h128
      obtain ⟨m, h1, h2, h3, h4, h5, h6, h7⟩ := ih (i + 1) _ v c (fun x hx => hb x (by simp [hx])) h
      have hm := h2 (by omega)
      have hp : 128 ^ (i + 1) = 128 * 128 ^ i := by rw [Nat.pow_succ, Nat.mul_comm]
      have he : (b % 128 + 128 * m) * 128 ^ i = b % 128 * 128 ^ i + m * 128 ^ (i + 1) := by
        rw [hp, Nat.add_mul, ← Nat.mul_assoc, Nat.mul_comm 128 m]
      refine ⟨b % 128 + 128 * m, ?_, fun _ => by omega, ?_, ?_, by omega, ?_, h7⟩
      · rw [h1, he]; omega
      · have hi8 : i + 1 ≤ 9 := by omega
        have hpw : (128 : Nat) ^ (i + 1) ≤ 128 ^ 9 := pow_le_of _ hi8
        have hp9 : (128 : Nat) ^ 9 = 9223372036854775808 := by decide
        -- b % 128 * 128^i < 128^(i+1), and m*128^(i+1) is a multiple of 128^(i+1) below 2^64
        have hlt : b % 128 * 128 ^ i < 128 ^ (i + 1) := by
          rw [hp]; exact Nat.mul_lt_mul_of_pos_right (by omega) (Nat.pow_pos (by omega))
        rw [he]
        have hdvd : (128 : Nat) ^ (i + 1) ∣ 18446744073709551616 := by
          have : (18446744073709551616 : Nat) = 128 ^ (i + 1) * (128 ^ (8 - i) * 2) := by
            rw [← Nat.mul_assoc, ← Nat.pow_add, show i + 1 + (8 - i) = 9 from by omega]
          rw [this]; exact Nat.dvd_mul_right _ _
        obtain ⟨q, hq⟩ := hdvd
        rw [hq] at h3 ⊢
        have hmq : m < q := by
          rw [Nat.mul_comm] at h3
          exact Nat.lt_of_mul_lt_mul_left h3
        calc b % 128 * 128 ^ i + m * 128 ^ (i + 1) < 128 ^ (i + 1) + m * 128 ^ (i + 1) := by omega
          _ = (m + 1) * 128 ^ (i + 1) := by rw [Nat.add_mul]; omega
          _ ≤ q * 128 ^ (i + 1) := Nat.mul_le_mul_right _ hmq
          _ = 128 ^ (i + 1) * q := Nat.mul_comm _ _
      · rw [putN_big (by omega), show (b % 128 + 128 * m) / 128 = m from by omega, h4, show (b % 128 + 128 * m) % 128 + 128 = b from by omega,
          show c - i = (c - (i + 1)) + 1 from by omega, List.take_succ_cons]
      · simp only [List.length_cons]; omega
    · rename_i h128
      split at h
      · simp at h
      rename_i hno
      simp only [Prod.mk.injEq, and_true] at h
      obtain ⟨rfl, rfl⟩ := h
      refine ⟨b, rfl, fun hp => ?_, ?_, ?_, by omega, by simp, by omega⟩
      · rcases Nat.eq_zero_or_pos b with rfl | hb
        · exact absurd (.inl ⟨rfl, hp⟩) hno
        · exact hb
      · have hp9 : (128 : Nat) ^ 9 = 9223372036854775808 := by decide
        rcases Nat.lt_or_ge i 9 with h9 | h9
        · have : b * 128 ^ i < 128 * 128 ^ i := Nat.mul_lt_mul_of_pos_right (by omega) (Nat.pow_pos (by omega))
          have h2 : 128 * 128 ^ i = 128 ^ (i + 1) := by rw [Nat.pow_succ, Nat.mul_comm]
          have h3 := pow_le_of (i + 1) (by omega)
          omega
        · obtain rfl : i = 9 := by omega
          have : b ≤ 1 := by
            rcases Nat.lt_or_ge 1 b with h1 | h1
            · exact absurd (.inr ⟨rfl, h1⟩) hno
            · exact h1
          rw [hp9]; omega
      · rw [putN_small (by omega), show i + 1 - i = 1 from by omega]; rfl

theorem getL_back0 (l : List Nat) (v c : Nat) (hb : ∀ b ∈ l, b < 256) (h : getL 0 0 l = (v, c, 0)) :
    v < 18446744073709551616 ∧ putN v = l.take c ∧ 0 < c ∧ c ≤ l.length ∧ c ≤ 10 := by
  obtain ⟨m, h1, _, h3, h4, h5, h6, h7⟩ := getL_back l 0 0 v c hb h
  simp at h1 h3 h4 h6
  subst h1
  exact ⟨h3, h4, h5, h6, h7⟩

theorem getL_put0 (n : Nat) (rest : List Nat) (h : n < 18446744073709551616) : getL 0 0 (putN n ++ rest) = (n, (putN n).length, 0) := by
  have := getL_put n 0 0 rest (by omega) (by simpa using h) (by omega)
  simpa using this

/-- An error says nothing else. -/
theorem getL_err (l : List Nat) : ∀ (i acc : Nat), (getL i acc l).2.2 ≠ 0 → (getL i acc l).1 = 0 ∧ (getL i acc l).2.1 = 0 := by
  induction l with
  | nil => intro i acc h; simp only [getL]; split <;> simp
  | cons b l ih =>
    intro i acc h
    simp only [getL] at h ⊢
    split
    · simp
    split
    · rename_i h1 h2; rw [if_neg h1, if_pos h2] at h; exact ih _ _ h
    split
    · simp
    · rename_i h1 h2 h3; rw [if_neg h1, if_neg h2, if_neg h3] at h; simp at h

/-- The bytes of a number, and how many: at most ten. -/
theorem putN_len (n : Nat) (h : n < 18446744073709551616) : (putN n).length ≤ 10 := by
  have h1 := getL_put0 n [] h
  have h2 := getL_back0 _ _ _ (by simpa using putN_lt n) h1
  exact h2.2.2.2.2

end Go.Proofs.Ythlllcmffgdcmaa.LebPlain

namespace Go.Proofs.Ythlllcmffgdcmaa.LebWords
open Go.RowKit Go.Proofs.YthlllcmffgdcmaaW.PrintWords Go.Proofs.YthlllcmffgdcmaaW.PrintLast Go.Proofs.Ythlllcmffgdcmaa.LebPlain

/-- A string's bytes as numbers. -/
def bl (s : ByteArray) : List Nat := s.data.toList.map UInt8.toNat

theorem bl_length (s : ByteArray) : (bl s).length = s.size := by
  rw [bl, List.length_map, Array.length_toList]; rfl

theorem bl_lt (s : ByteArray) : ∀ b ∈ bl s, b < 256 := by
  intro b hb
  obtain ⟨u, _, rfl⟩ := List.mem_map.1 hb
  exact UInt8.toNat_lt u

theorem bl_get (s : ByteArray) (i : Nat) (h : i < s.size) : (bl s)[i]? = some (bt s (i : Int)).toNat := by
  have hb := bt_at s (i : Int) (by simpa using h)
  rw [← hb]
  simp only [bl, List.getElem?_map, Int.toNat_natCast]
  have : s.data.toList[i]? = some s.data[i] := by
    rw [Array.getElem?_toList]; exact Array.getElem?_eq_getElem h
  rw [this]; rfl

/-- The byte at a place, and what stands behind it. -/
theorem bl_drop (s : ByteArray) (i : Nat) (h : i < s.size) : ∃ b : Nat, bt s (i : Int) = b ∧ b < 256 ∧ (bl s).drop i = b :: (bl s).drop (i + 1) := by
  refine ⟨(bt s (i : Int)).toNat, ?_, ?_, ?_⟩
  · have := bt_range s (i : Int); omega
  · have := bt_range s (i : Int); omega
  · have hl : i < (bl s).length := by rw [bl_length]; exact h
    rw [List.drop_eq_getElem_cons hl]
    have := bl_get s i h
    rw [List.getElem?_eq_getElem hl] at this
    rw [Option.some.inj this]

theorem bl_inj {s t : ByteArray} (h : bl s = bl t) : s = t := by
  have h1 : s.data.toList = t.data.toList := by
    have hi : ∀ (a b : List UInt8), a.map UInt8.toNat = b.map UInt8.toNat → a = b := by
      intro a
      induction a with
      | nil => intro b hb; cases b with | nil => rfl | cons _ _ => simp at hb
      | cons x a ih =>
        intro b hb
        cases b with
        | nil => simp at hb
        | cons y b =>
          simp only [List.map_cons, List.cons.injEq] at hb
          rw [UInt8.toNat.inj hb.1, ih b hb.2]
    exact hi _ _ h
  cases s with | mk a => cases t with | mk b => simp only at h1; rw [ByteArray.mk.injEq]; exact Array.toList_inj.1 h1

theorem bl_append (s t : ByteArray) : bl (s ++ t) = bl s ++ bl t := by
  simp only [bl, ByteArray.data_append, Array.toList_append, List.map_append]

theorem bl_extract (s : ByteArray) (i j : Nat) : bl (s.extract i j) = ((bl s).drop i).take (j - i) := by
  simp only [bl, ByteArray.data_extract, Array.toList_extract, List.extract_eq_take_drop, List.map_take, List.map_drop]

theorem bl_nums (l : List Nat) (h : ∀ b ∈ l, b < 256) : bl (strOfNums (l.map Int.ofNat)) = l := by
  simp only [bl, strOfNums, List.map_map]
  conv => rhs; rw [← List.map_id l]
  refine List.map_congr_left fun b hb => ?_
  have := h b hb
  simp only [Function.comp, Int.ofNat_eq_natCast, Int.toNat_natCast, id, UInt8.toNat_ofNat']
  omega

theorem toList_eq {s t : ByteArray} : s.toList = t.toList ↔ s = t := by
  constructor
  · intro h
    have e : ∀ u : ByteArray, u.toList = u.data.toList := fun u => ByteArray.toList_eq u
    rw [e, e] at h
    cases s with | mk a => cases t with | mk b => rw [ByteArray.mk.injEq]; exact Array.toList_inj.1 h
  · rintro rfl; rfl

theorem and127 (b : Nat) (h : b < 256) : IntKind.u64.wrap (Go.bits .and .u8 (b : Int) 127) = ((b % 128 : Nat) : Int) := by
  have := bits_mask .u8 8 (by decide) wraps_u8 7 (by decide) (b : Int) (by omega) (by omega)
  rw [show (2 : Int) ^ 7 = 128 from by decide, show (128 : Int) - 1 = 127 from by decide] at this
  rw [this, IntKind.wrap_u64]
  omega

theorem or128 (b : Nat) (h : b < 256) : Go.bits .or .u8 (b : Int) 128 = ((b % 128 + 128 : Nat) : Int) := by
  rw [u8_or (b : Int) 128 (by omega) (by omega) (by omega) (by omega)]
  have : ∀ b, b < 256 → b ||| 128 = b % 128 + 128 := by decide +kernel
  rw [Int.toNat_natCast, show (128 : Int).toNat = 128 from rfl, this b h]

theorem pow7 (i : Nat) : (2 : Nat) ^ (7 * i) = 128 ^ i := by rw [Nat.pow_mul]

theorem or_shl (i acc b : Nat) (hi : i ≤ 9) (hacc : acc < 128 ^ i) (hb : b < 256) (h9 : i = 9 → b % 128 ≤ 1) :
    Go.bits .or .u64 (acc : Int) (shl .u64 (IntKind.u64.wrap (Go.bits .and .u8 (b : Int) 127)) ((7 * i : Nat) : Int)) = ((acc + b % 128 * 128 ^ i : Nat) : Int) := by
  have hp9 : (128 : Nat) ^ 9 = 9223372036854775808 := by decide
  have hbound : b % 128 * 128 ^ i < 18446744073709551616 := by
    rcases Nat.lt_or_ge i 9 with h | h
    · have h1 : b % 128 * 128 ^ i < 128 * 128 ^ i := Nat.mul_lt_mul_of_pos_right (by omega) (Nat.pow_pos (by omega))
      have h2 : 128 * 128 ^ i = 128 ^ (i + 1) := by rw [Nat.pow_succ, Nat.mul_comm]
      have h3 := pow_le_of (i + 1) (by omega)
      omega
    · obtain rfl : i = 9 := by omega
      have := h9 rfl
      rw [hp9]; omega
  have hacc64 : acc < 18446744073709551616 := by
    have := pow_le_of i hi
    omega
  have hs : shl .u64 (IntKind.u64.wrap (Go.bits .and .u8 (b : Int) 127)) ((7 * i : Nat) : Int) = ((b % 128 * 128 ^ i : Nat) : Int) := by
    rw [and127 b hb]
    unfold shl
    rw [Int.toNat_natCast, show min (7 * i) IntKind.u64.bits = 7 * i from Nat.min_eq_left (by simp [IntKind.bits]; omega), IntKind.wrap_u64]
    have : ((b % 128 : Nat) : Int) * 2 ^ (7 * i) = ((b % 128 * 128 ^ i : Nat) : Int) := by
      rw [← pow7, Int.natCast_mul, Int.natCast_pow]; rfl
    rw [this]
    omega
  rw [hs, u64_or _ _ (by omega) (by omega) (by omega) (by omega), Int.toNat_natCast, Int.toNat_natCast, Nat.or_comm,
    nat_join (7 * i) (b % 128 * 128 ^ i) acc (by rw [pow7]; exact Nat.mul_mod_left _ _) (by rw [pow7]; exact hacc), Nat.add_comm]

/-- What the reader tells of a list: at a place p. -/
def res (p : Nat) (r : Nat × Nat × Nat) : Int × Int × Int := if r.2.2 = 0 then ((r.1 : Int), ((p + r.2.1 : Nat) : Int), 0) else (0, 0, (r.2.2 : Int))

/-- The value of the bytes, from the last to the first. -/
def valL : List Nat → Nat
  | [] => 0
  | b :: l => if 128 ≤ b then b % 128 + 128 * valL l else b

theorem getL_val (l : List Nat) : ∀ (i acc v c : Nat), getL i acc l = (v, c, 0) → v = acc + valL l * 128 ^ i := by
  induction l with
  | nil => intro i acc v c h; simp only [getL] at h; split at h <;> simp at h
  | cons b l ih =>
    intro i acc v c h
    simp only [getL] at h
    split at h
    · simp at h
    split at h
    · rename_i h1 h2
      rw [ih _ _ _ _ h, valL, if_pos h2, Nat.pow_succ, Nat.add_mul, Nat.add_assoc]
      congr 2
      rw [← Nat.mul_assoc, Nat.mul_comm (valL l * 128 ^ i) 128, ← Nat.mul_assoc]
    split at h
    · simp at h
    · rename_i h1 h2 h3
      simp only [Prod.mk.injEq, and_true] at h
      rw [valL, if_neg h2]; exact h.1.symm

/-- The whole answer of the reader at a place. -/
def getA (s : ByteArray) (at_ : Int) : Int × Int × Int :=
  if at_ < 0 ∨ (s.size : Int) < at_ then (0, 0, 4) else res at_.toNat (getL 0 0 ((bl s).drop at_.toNat))

/-- A number's bytes, as a string. -/
def putS (n : Nat) : ByteArray := strOfNums ((putN n).map Int.ofNat)

theorem bl_putS (n : Nat) : bl (putS n) = putN n := bl_nums _ (putN_lt n)
theorem putS_size (n : Nat) : (putS n).size = (putN n).length := by rw [← bl_length, bl_putS]

end Go.Proofs.Ythlllcmffgdcmaa.LebWords

namespace Go.Proofs.Ythlllcmffgdcmaa.RecPlain
open Go.Proofs.Ythlllcmffgdcmaa.LebPlain

/-- The bytes of some numbers. -/
def rowB (ns : List Nat) : List Nat := ns.flatMap putN

theorem rowB_nil : rowB [] = [] := rfl
theorem rowB_cons (n : Nat) (ns : List Nat) : rowB (n :: ns) = putN n ++ rowB ns := rfl
theorem rowB_append (a b : List Nat) : rowB (a ++ b) = rowB a ++ rowB b := by simp [rowB]
theorem rowB_one (n : Nat) : rowB [n] = putN n := by simp [rowB]

theorem rowB_lt (ns : List Nat) : ∀ b ∈ rowB ns, b < 256 := by
  intro b hb
  obtain ⟨n, _, h⟩ := List.mem_flatMap.1 hb
  exact putN_lt n b h

theorem rowB_len (ns : List Nat) (hn : ∀ n ∈ ns, n < 18446744073709551616) : (rowB ns).length ≤ 10 * ns.length := by
  induction ns with
  | nil => simp [rowB]
  | cons n ns ih =>
    have h1 := putN_len n (hn n (by simp))
    have h2 := ih fun x hx => hn x (by simp [hx])
    rw [rowB_cons, List.length_append, List.length_cons]; omega

theorem len_rowB (ns : List Nat) : ns.length ≤ (rowB ns).length := by
  induction ns with
  | nil => simp [rowB]
  | cons n ns ih => have := putN_pos n; rw [rowB_cons, List.length_append, List.length_cons]; omega

/-- The numbers of a list of bytes, one behind the other, as far as they can be read; where it ends. -/
def allN : Nat → List Nat → List Nat × Nat
  | 0, _ => ([], 0)
  | f + 1, l =>
    if l = [] then ([], 0) else
    if (getL 0 0 l).2.2 = 0 then ((getL 0 0 l).1 :: (allN f (l.drop (getL 0 0 l).2.1)).1, (getL 0 0 l).2.1 + (allN f (l.drop (getL 0 0 l).2.1)).2) else ([], 0)

theorem allN_nil (f : Nat) : allN f [] = ([], 0) := by cases f <;> simp [allN]

theorem allN_bad (f : Nat) (l : List Nat) (h : (getL 0 0 l).2.2 ≠ 0) : allN f l = ([], 0) := by
  cases f with
  | zero => rfl
  | succ f => by_cases hl : l = [] <;> simp [allN, hl, h]

theorem allN_back : ∀ (f : Nat) (l : List Nat), (∀ b ∈ l, b < 256) → rowB (allN f l).1 = l.take (allN f l).2 ∧ (allN f l).2 ≤ l.length ∧ ∀ n ∈ (allN f l).1, n < 18446744073709551616 := by
  intro f
  induction f with
  | zero => intro l _; simp [allN, rowB]
  | succ f ih =>
    intro l hl
    rw [allN]
    split
    · simp [rowB]
    split
    · rename_i h0 h1
      have hg : getL 0 0 l = ((getL 0 0 l).1, (getL 0 0 l).2.1, 0) := by
        conv => lhs; rw [← Prod.eta (getL 0 0 l), ← Prod.eta (getL 0 0 l).2, h1]
      obtain ⟨a1, a2, a3, a4, a5⟩ := getL_back0 l _ _ hl hg
      obtain ⟨b1, b2, b3⟩ := ih (l.drop (getL 0 0 l).2.1) (fun b hb => hl b (List.mem_of_mem_drop hb))
      refine ⟨?_, ?_, ?_⟩
      · simp only [rowB_cons]
        rw [a2, b1, List.take_add]
      · simp only [List.length_drop] at b2
        simp only
        omega
      · intro n hn
        rcases List.mem_cons.1 hn with rfl | hn
        · exact a1
        · exact b3 n hn
    · simp [rowB]

theorem allN_bytes : ∀ (ns : List Nat) (f : Nat) (rest : List Nat), (∀ n ∈ ns, n < 18446744073709551616) → ns.length < f → (rest = [] ∨ (getL 0 0 rest).2.2 ≠ 0) →
    allN f (rowB ns ++ rest) = (ns, (rowB ns).length) := by
  intro ns
  induction ns with
  | nil =>
    intro f rest _ _ hr
    rw [rowB_nil, List.nil_append]
    rcases hr with rfl | hr
    · rw [allN_nil]; rfl
    · rw [allN_bad f rest hr]; rfl
  | cons n ns ih =>
    intro f rest hn hf hr
    obtain ⟨f, rfl⟩ : ∃ m, f = m + 1 := ⟨f - 1, by omega⟩
    have hg := getL_put0 n (rowB ns ++ rest) (hn n (by simp))
    have hp := putN_pos n
    rw [rowB_cons, List.append_assoc, allN, if_neg (by intro h; have := congrArg List.length h; rw [List.length_append, List.length_nil] at this; omega), hg]
    simp only
    rw [if_pos trivial, List.drop_left, ih f rest (fun x hx => hn x (by simp [hx])) (by simp only [List.length_cons] at hf; omega) hr, List.length_append]

/-- A number that is cut off can't be read. -/
theorem getL_cut (n : Nat) : ∀ (i acc j : Nat), i ≤ 9 → n * 128 ^ i < 18446744073709551616 → j < (putN n).length → getL i acc ((putN n).take j) = (0, 0, 2) := by
  induction n using putN.induct with
  | case1 n h =>
    intro i acc j hi _ hj
    rw [putN_small h] at hj ⊢
    simp only [List.length_singleton] at hj
    obtain rfl : j = 0 := by omega
    simp only [List.take_zero, getL]
    rw [if_neg (by omega)]
  | case2 n h ih =>
    intro i acc j hi hn hj
    rw [putN_big h] at hj ⊢
    cases j with
    | zero => simp only [List.take_zero, getL]; rw [if_neg (by omega)]
    | succ j =>
      have hi9 : i < 9 := by
        rcases Nat.lt_or_ge i 9 with h9 | h9
        · exact h9
        · obtain rfl : i = 9 := by omega
          have : (128 : Nat) ^ 9 = 9223372036854775808 := by decide
          rw [this] at hn; omega
      simp only [List.length_cons] at hj
      have hp : 128 ^ (i + 1) = 128 * 128 ^ i := by rw [Nat.pow_succ, Nat.mul_comm]
      have hle : n / 128 * 128 ^ (i + 1) ≤ n * 128 ^ i := by
        rw [hp, ← Nat.mul_assoc]; exact Nat.mul_le_mul_right _ (Nat.div_mul_le_self n 128)
      rw [List.take_succ_cons, getL, if_neg (by omega), if_pos (by omega), ih (i + 1) _ j (by omega) (by omega) (by omega)]

theorem getL_cut0 (n : Nat) (h : n < 18446744073709551616) (j : Nat) (hj : j < (putN n).length) : getL 0 0 ((putN n).take j) = (0, 0, 2) :=
  getL_cut n 0 0 j (by omega) (by simpa using h) hj

end Go.Proofs.Ythlllcmffgdcmaa.RecPlain

namespace Go.Proofs.Ythlllcmffgdcmaa.CrcPlain

/-- The polynomial, its lowest power first. -/
def poly : Nat := 3988292384
/-- A bit's step. -/
def stepN (z : Nat) : Nat := if z % 2 = 1 then (z / 2) ^^^ poly else z / 2
/-- So many steps. -/
def stepsN : Nat → Nat → Nat
  | 0, z => z
  | n + 1, z => stepN (stepsN n z)

theorem xor_odd (u v : Nat) : (u ^^^ v) % 2 = (u % 2 + v % 2) % 2 := by
  rcases Nat.mod_two_eq_zero_or_one u with hu | hu <;> rcases Nat.mod_two_eq_zero_or_one v with hv | hv
  all_goals
    have h := @Nat.xor_mod_two_eq_one u v
    rcases Nat.mod_two_eq_zero_or_one (u ^^^ v) with hx | hx <;> simp_all

theorem xor_half (u v : Nat) : (u ^^^ v) / 2 = u / 2 ^^^ v / 2 := Nat.xor_div_two

theorem stepN_xor (u v : Nat) : stepN (u ^^^ v) = stepN u ^^^ stepN v := by
  unfold stepN
  rw [xor_odd, xor_half]
  rcases Nat.mod_two_eq_zero_or_one u with hu | hu <;> rcases Nat.mod_two_eq_zero_or_one v with hv | hv
  · simp [hu, hv]
  · simp [hu, hv, Nat.xor_assoc]
  · simp only [hu, hv, if_true, Nat.zero_ne_one, if_false, Nat.add_zero, Nat.one_mod]
    rw [Nat.xor_assoc, Nat.xor_assoc, Nat.xor_comm poly]
  · simp only [hu, hv, if_true]
    rw [if_neg (by decide), Nat.xor_assoc (u / 2) poly, ← Nat.xor_assoc poly (v / 2) poly, Nat.xor_comm poly (v / 2), Nat.xor_assoc (v / 2) poly poly, Nat.xor_self, Nat.xor_zero]

theorem stepsN_xor (n u v : Nat) : stepsN n (u ^^^ v) = stepsN n u ^^^ stepsN n v := by
  induction n with
  | zero => rfl
  | succ n ih => rw [stepsN, ih, stepN_xor]; rfl

theorem stepN_zero : stepN 0 = 0 := by decide
theorem stepsN_zero (n : Nat) : stepsN n 0 = 0 := by
  induction n with
  | zero => rfl
  | succ n ih => rw [stepsN, ih, stepN_zero]

theorem stepsN_shift (n : Nat) : ∀ h, stepsN n (h * 2 ^ n) = h := by
  induction n with
  | zero => intro h; simp [stepsN]
  | succ n ih =>
    intro h
    have e : h * 2 ^ (n + 1) = (h * 2) * 2 ^ n := by rw [Nat.pow_succ, Nat.mul_assoc, Nat.mul_comm (2 ^ n) 2]
    rw [stepsN, e, ih (h * 2)]
    unfold stepN
    rw [if_neg (by omega)]; omega

theorem split_xor (n z : Nat) : z = (z / 2 ^ n * 2 ^ n) ^^^ (z % 2 ^ n) := by
  apply Nat.eq_of_testBit_eq
  intro i
  rw [Nat.testBit_xor, Nat.testBit_mul_two_pow, Nat.testBit_div_two_pow, Nat.testBit_mod_two_pow]
  by_cases h : n ≤ i
  · rw [show i - n + n = i from by omega]
    simp [h, Nat.not_lt.2 h]
  · simp [h, Nat.lt_of_not_le h]

/-- Eight steps: what is above the low byte goes down, the low byte adds what the table says. -/
theorem steps8 (z : Nat) : stepsN 8 z = (z / 256) ^^^ stepsN 8 (z % 256) := by
  conv => lhs; rw [split_xor 8 z]
  rw [stepsN_xor, stepsN_shift]

theorem stepN_lt (z : Nat) (h : z < 4294967296) : stepN z < 4294967296 := by
  unfold stepN
  split
  · have : poly < 2 ^ 32 := by decide
    exact Nat.xor_lt_two_pow (n := 32) (by omega) this
  · omega
theorem stepsN_lt (n z : Nat) (h : z < 4294967296) : stepsN n z < 4294967296 := by
  induction n with
  | zero => exact h
  | succ n ih => exact stepN_lt _ ih

theorem xor_low (y b : Nat) (hb : b < 256) : (y ^^^ b) / 256 = y / 256 ∧ (y ^^^ b) % 256 = (y % 256) ^^^ b := by
  have h1 : (y ^^^ b) / 2 ^ 8 = y / 2 ^ 8 ^^^ b / 2 ^ 8 := by
    apply Nat.eq_of_testBit_eq
    intro i
    rw [Nat.testBit_div_two_pow, Nat.testBit_xor, Nat.testBit_xor, Nat.testBit_div_two_pow, Nat.testBit_div_two_pow]
  have h2 : (y ^^^ b) % 2 ^ 8 = y % 2 ^ 8 ^^^ b % 2 ^ 8 := by
    apply Nat.eq_of_testBit_eq
    intro i
    rw [Nat.testBit_mod_two_pow, Nat.testBit_xor, Nat.testBit_xor, Nat.testBit_mod_two_pow, Nat.testBit_mod_two_pow]
    by_cases h : i < 8 <;> simp [h]
  have e : (2 : Nat) ^ 8 = 256 := by decide
  rw [e] at h1 h2
  rw [h1, h2, Nat.div_eq_of_lt hb, Nat.mod_eq_of_lt hb, Nat.xor_zero]
  exact ⟨rfl, rfl⟩

/-- A byte more, with the table. -/
theorem byte_table (y b : Nat) (hb : b < 256) : (y / 256) ^^^ stepsN 8 ((y % 256) ^^^ b) = stepsN 8 (y ^^^ b) := by
  obtain ⟨h1, h2⟩ := xor_low y b hb
  rw [steps8 (y ^^^ b), h1, h2]

/-- A byte more, bit by bit: x is what is there, b what is left of the byte. -/
def bitsN : Nat → Nat → Nat → Nat
  | 0, x, _ => x
  | n + 1, x, b => bitsN n (if (x + b) % 2 = 1 then (x / 2) ^^^ poly else x / 2) (b / 2)

theorem bitsN_eq (n : Nat) : ∀ x b, bitsN n x b ^^^ (b / 2 ^ n) = stepsN n (x ^^^ b) := by
  induction n with
  | zero => intro x b; simp [bitsN, stepsN]
  | succ n ih =>
    intro x b
    rw [bitsN]
    have hs : ∀ z, stepsN (n + 1) z = stepsN n (stepN z) := by
      intro z
      clear ih
      induction n with
      | zero => rfl
      | succ n ih => rw [stepsN, ih]; rfl
    have e : b / 2 ^ (n + 1) = b / 2 / 2 ^ n := by rw [Nat.pow_succ, Nat.mul_comm, Nat.div_div_eq_div_mul]
    rw [e, ih, hs]
    congr 1
    unfold stepN
    rw [xor_odd, xor_half, Nat.add_mod x b 2]
    split
    · rw [Nat.xor_assoc, Nat.xor_assoc, Nat.xor_comm poly]
    · rfl

theorem bits8 (x b : Nat) (hb : b < 256) : bitsN 8 x b = stepsN 8 (x ^^^ b) := by
  have := bitsN_eq 8 x b
  rw [show b / 2 ^ 8 = 0 from Nat.div_eq_of_lt hb, Nat.xor_zero] at this
  exact this

/-- A byte's eight steps, under one name that stays shut. -/
@[irreducible] def s8 (z : Nat) : Nat := stepsN 8 z
theorem s8_eq (z : Nat) : s8 z = stepsN 8 z := by unfold s8; rfl
theorem s8_lt (z : Nat) (h : z < 4294967296) : s8 z < 4294967296 := by rw [s8_eq]; exact stepsN_lt 8 z h

/-- The sum in the making, behind some bytes. -/
def crcN (x : Nat) : List Nat → Nat
  | [] => x
  | b :: l => crcN (s8 (x ^^^ b)) l

theorem crcN_nil (x : Nat) : crcN x [] = x := rfl
theorem crcN_cons (x b : Nat) (l : List Nat) : crcN x (b :: l) = crcN (s8 (x ^^^ b)) l := rfl
theorem crcN_append (l m : List Nat) : ∀ x, crcN x (l ++ m) = crcN (crcN x l) m := by
  induction l with
  | nil => intro x; rw [List.nil_append, crcN_nil]
  | cons b l ih =>
    intro x
    rw [List.cons_append, crcN_cons, crcN_cons]
    exact ih _

theorem xor_lt32 (x b : Nat) (hx : x < 4294967296) (hb : b < 4294967296) : x ^^^ b < 4294967296 := Nat.xor_lt_two_pow (n := 32) hx hb

theorem crcN_lt (l : List Nat) : ∀ x, x < 4294967296 → (∀ b ∈ l, b < 256) → crcN x l < 4294967296 := by
  induction l with
  | nil => intro x h _; exact h
  | cons b l ih =>
    intro x h hl
    have hb : b < 256 := hl b (by simp)
    rw [crcN_cons]
    exact ih _ (s8_lt _ (xor_lt32 x b h (by omega))) (fun c hc => hl c (by simp [hc]))

/-- The sum of a text. -/
def sumN (l : List Nat) : Nat := 4294967295 - crcN 4294967295 l

theorem sumN_nil : sumN [] = 0 := by unfold sumN; rw [crcN_nil]
theorem sumN_lt (l : List Nat) : sumN l < 4294967296 := by unfold sumN; omega

/-- A text more behind a sum. -/
def addN (x : Nat) (l : List Nat) : Nat := 4294967295 - crcN (4294967295 - x) l

theorem addN_lt (x : Nat) (l : List Nat) : addN x l < 4294967296 := by unfold addN; omega
theorem addN_zero (l : List Nat) : addN 0 l = sumN l := rfl
theorem addN_sum (l m : List Nat) (hl : ∀ b ∈ l, b < 256) : addN (sumN l) m = sumN (l ++ m) := by
  unfold addN sumN
  have := crcN_lt l 4294967295 (by omega) hl
  rw [crcN_append, show 4294967295 - (4294967295 - crcN 4294967295 l) = crcN 4294967295 l from by omega]

end Go.Proofs.Ythlllcmffgdcmaa.CrcPlain

namespace Go.Proofs.Ythlllcmffgdcmaa.SegPlain
open Go.Proofs.Ythlllcmffgdcmaa.LebPlain Go.Proofs.Ythlllcmffgdcmaa.RecPlain Go.Proofs.Ythlllcmffgdcmaa.CrcPlain

/-- A sum's bytes, the lowest first. -/
def four (n : Nat) : List Nat := [n % 256, n / 256 % 256, n / 65536 % 256, n / 16777216 % 256]
theorem four_len (n : Nat) : (four n).length = 4 := rfl
theorem four_lt (n : Nat) : ∀ b ∈ four n, b < 256 := by
  intro b hb
  simp only [four, List.mem_cons, List.not_mem_nil, or_false] at hb
  rcases hb with rfl | rfl | rfl | rfl <;> omega
theorem four_inj (m n : Nat) (hm : m < 4294967296) (hn : n < 4294967296) (h : four m = four n) : m = n := by
  simp only [four, List.cons.injEq, and_true] at h
  omega

/-- What stands ahead of a body. -/
def headOf (seq n : Nat) : List Nat := 83 :: 103 :: (putN seq ++ putN n)
/-- A segment's bytes. -/
def frameL (seq : Nat) (body : List Nat) : List Nat := headOf seq body.length ++ body ++ four (sumN (headOf seq body.length ++ body))

theorem headOf_len (seq n : Nat) : (headOf seq n).length = 2 + (putN seq).length + (putN n).length := by
  simp only [headOf, List.length_cons, List.length_append]; omega
theorem frameL_len (seq : Nat) (body : List Nat) : (frameL seq body).length = (headOf seq body.length).length + body.length + 4 := by
  simp only [frameL, List.length_append, four_len]
theorem headOf_lt (seq n : Nat) : ∀ b ∈ headOf seq n, b < 256 := by
  intro b hb
  simp only [headOf, List.mem_cons, List.mem_append] at hb
  rcases hb with rfl | rfl | hb | hb
  · omega
  · omega
  · exact putN_lt _ b hb
  · exact putN_lt _ b hb
theorem frameL_lt (seq : Nat) (body : List Nat) (hb : ∀ b ∈ body, b < 256) : ∀ b ∈ frameL seq body, b < 256 := by
  intro b h
  simp only [frameL, List.mem_append] at h
  rcases h with (h | h) | h
  · exact headOf_lt _ _ b h
  · exact hb b h
  · exact four_lt _ b h

/-- The head: the number, how long the body is, where it begins, the error's number. -/
def headL (l : List Nat) : Nat × Nat × Nat × Nat :=
  if l.length = 0 then (0, 0, 0, 2) else if l[0]? ≠ some 83 then (0, 0, 0, 1) else if l.length = 1 then (0, 0, 0, 2) else if l[1]? ≠ some 103 then (0, 0, 0, 1) else
  if (getL 0 0 (l.drop 2)).2.2 ≠ 0 then (0, 0, 0, (getL 0 0 (l.drop 2)).2.2) else
  if (getL 0 0 (l.drop (2 + (getL 0 0 (l.drop 2)).2.1))).2.2 ≠ 0 then (0, 0, 0, (getL 0 0 (l.drop (2 + (getL 0 0 (l.drop 2)).2.1))).2.2) else
  if 4096 < (getL 0 0 (l.drop (2 + (getL 0 0 (l.drop 2)).2.1))).1 then (0, 0, 0, 3) else
  ((getL 0 0 (l.drop 2)).1, (getL 0 0 (l.drop (2 + (getL 0 0 (l.drop 2)).2.1))).1, 2 + (getL 0 0 (l.drop 2)).2.1 + (getL 0 0 (l.drop (2 + (getL 0 0 (l.drop 2)).2.1))).2.1, 0)

/-- The segment: its number, its body, how many bytes it has, the error's number. -/
def openL (l : List Nat) : Nat × List Nat × Nat × Nat :=
  if (headL l).2.2.2 ≠ 0 then (0, [], 0, (headL l).2.2.2) else
  if l.length < (headL l).2.2.1 + (headL l).2.1 + 4 then (0, [], 0, 2) else
  if (l.drop ((headL l).2.2.1 + (headL l).2.1)).take 4 ≠ four (sumN (l.take ((headL l).2.2.1 + (headL l).2.1))) then (0, [], 0, 7) else
  ((headL l).1, (l.drop (headL l).2.2.1).take (headL l).2.1, (headL l).2.2.1 + (headL l).2.1 + 4, 0)

theorem get_ok (l : List Nat) (hl : ∀ b ∈ l, b < 256) (h : (getL 0 0 l).2.2 = 0) :
    (getL 0 0 l).1 < 18446744073709551616 ∧ putN (getL 0 0 l).1 = l.take (getL 0 0 l).2.1 ∧ (getL 0 0 l).2.1 ≤ l.length ∧ (getL 0 0 l).2.1 ≤ 10 ∧ 0 < (getL 0 0 l).2.1 := by
  have hg : getL 0 0 l = ((getL 0 0 l).1, (getL 0 0 l).2.1, 0) := by
    conv => lhs; rw [← Prod.eta (getL 0 0 l), ← Prod.eta (getL 0 0 l).2, h]
  obtain ⟨a1, a2, a3, a4, a5⟩ := getL_back0 l _ _ hl hg
  exact ⟨a1, a2, a4, a5, a3⟩

theorem headL_ok (l : List Nat) (hl : ∀ b ∈ l, b < 256) (h : (headL l).2.2.2 = 0) :
    (headL l).1 < 18446744073709551616 ∧ (headL l).2.1 ≤ 4096 ∧ (headL l).2.2.1 ≤ l.length ∧ (headL l).2.2.1 ≤ 22 ∧ l.take (headL l).2.2.1 = headOf (headL l).1 (headL l).2.1 := by
  unfold headL at h ⊢
  by_cases c0 : l.length = 0
  · rw [if_pos c0] at h; exact absurd h (by decide)
  rw [if_neg c0] at h ⊢
  by_cases c1 : l[0]? ≠ some 83
  · rw [if_pos c1] at h; exact absurd h (by decide)
  rw [if_neg c1] at h ⊢
  by_cases c2 : l.length = 1
  · rw [if_pos c2] at h; exact absurd h (by decide)
  rw [if_neg c2] at h ⊢
  by_cases c3 : l[1]? ≠ some 103
  · rw [if_pos c3] at h; exact absurd h (by decide)
  rw [if_neg c3] at h ⊢
  by_cases c4 : (getL 0 0 (l.drop 2)).2.2 ≠ 0
  · rw [if_pos c4] at h; exact absurd h c4
  rw [if_neg c4] at h ⊢
  by_cases c5 : (getL 0 0 (l.drop (2 + (getL 0 0 (l.drop 2)).2.1))).2.2 ≠ 0
  · rw [if_pos c5] at h; exact absurd h c5
  rw [if_neg c5] at h ⊢
  by_cases c6 : 4096 < (getL 0 0 (l.drop (2 + (getL 0 0 (l.drop 2)).2.1))).1
  · rw [if_pos c6] at h; exact absurd h (by decide)
  rw [if_neg c6]
  obtain ⟨a1, a2, a3, a4, _⟩ := get_ok (l.drop 2) (fun b hb => hl b (List.mem_of_mem_drop hb)) (by simpa using c4)
  obtain ⟨b1, b2, b3, b4, _⟩ := get_ok (l.drop (2 + (getL 0 0 (l.drop 2)).2.1)) (fun b hb => hl b (List.mem_of_mem_drop hb)) (by simpa using c5)
  rw [List.length_drop] at a3 b3
  refine ⟨a1, Nat.le_of_not_lt c6, ?_, ?_, ?_⟩
  · show 2 + (getL 0 0 (l.drop 2)).2.1 + (getL 0 0 (l.drop (2 + (getL 0 0 (l.drop 2)).2.1))).2.1 ≤ l.length
    omega
  · show 2 + (getL 0 0 (l.drop 2)).2.1 + (getL 0 0 (l.drop (2 + (getL 0 0 (l.drop 2)).2.1))).2.1 ≤ 22
    omega
  · show l.take (2 + (getL 0 0 (l.drop 2)).2.1 + (getL 0 0 (l.drop (2 + (getL 0 0 (l.drop 2)).2.1))).2.1) = headOf _ _
    unfold headOf
    rw [a2, b2, List.take_add, List.take_add, List.append_assoc]
    have ht : l.take 2 = [83, 103] := by
      match l, c0, c1, c2, c3 with
      | a :: b :: l, _, c1, _, c3 =>
        simp only [List.getElem?_cons_zero, List.getElem?_cons_succ, ne_eq, Option.some.injEq, Classical.not_not] at c1 c3
        subst c1 c3; rfl
    rw [ht]; rfl

theorem headL_frame (seq n : Nat) (hs : seq < 18446744073709551616) (hn : n ≤ 4096) (rest : List Nat) : headL (headOf seq n ++ rest) = (seq, n, (headOf seq n).length, 0) := by
  have e2 : (headOf seq n ++ rest).drop 2 = putN seq ++ (putN n ++ rest) := by simp [headOf]
  have g1 := getL_put0 seq (putN n ++ rest) hs
  have e3 : (headOf seq n ++ rest).drop (2 + (putN seq).length) = putN n ++ rest := by
    rw [← List.drop_drop, e2, List.drop_left]
  have g2 := getL_put0 n rest (by omega)
  unfold headL
  rw [e2, g1]
  simp only
  rw [e3, g2]
  simp only
  rw [if_neg (by simp [headOf]), if_neg (by simp [headOf]), if_neg (by simp only [headOf, List.cons_append, List.length_cons]; omega), if_neg (by simp [headOf]), if_neg (by simp), if_neg (by simp), if_neg (by omega), headOf_len]

theorem openL_frame (seq : Nat) (body rest : List Nat) (hs : seq < 18446744073709551616) (hn : body.length ≤ 4096) :
    openL (frameL seq body ++ rest) = (seq, body, (frameL seq body).length, 0) := by
  have e : frameL seq body ++ rest = headOf seq body.length ++ (body ++ (four (sumN (headOf seq body.length ++ body)) ++ rest)) := by
    simp [frameL]
  have hh := headL_frame seq body.length hs hn (body ++ (four (sumN (headOf seq body.length ++ body)) ++ rest))
  have hl := frameL_len seq body
  unfold openL
  rw [e, hh]
  simp only
  rw [if_neg (by simp), if_neg (by simp only [List.length_append, four_len]; omega)]
  have d1 : (headOf seq body.length ++ (body ++ (four (sumN (headOf seq body.length ++ body)) ++ rest))).drop ((headOf seq body.length).length + body.length) = four (sumN (headOf seq body.length ++ body)) ++ rest := by
    rw [← List.drop_drop, List.drop_left, List.drop_left]
  have t1 : (headOf seq body.length ++ (body ++ (four (sumN (headOf seq body.length ++ body)) ++ rest))).take ((headOf seq body.length).length + body.length) = headOf seq body.length ++ body := by
    rw [← List.append_assoc, ← List.length_append, List.take_left]
  rw [d1, t1, if_neg (by rw [List.take_append_of_le_length (by rw [four_len]; omega), List.take_of_length_le (by rw [four_len]; omega)]; simp), List.drop_left, List.take_left, hl]

theorem openL_ok (l : List Nat) (hl : ∀ b ∈ l, b < 256) (h : (openL l).2.2.2 = 0) :
    (openL l).1 < 18446744073709551616 ∧ (openL l).2.1.length ≤ 4096 ∧ (openL l).2.2.1 ≤ l.length ∧ 4 ≤ (openL l).2.2.1 ∧ l.take (openL l).2.2.1 = frameL (openL l).1 (openL l).2.1 := by
  unfold openL at h ⊢
  by_cases c0 : (headL l).2.2.2 ≠ 0
  · rw [if_pos c0] at h; exact absurd h c0
  rw [if_neg c0] at h ⊢
  by_cases c1 : l.length < (headL l).2.2.1 + (headL l).2.1 + 4
  · rw [if_pos c1] at h; exact absurd h (by decide)
  rw [if_neg c1] at h ⊢
  by_cases c2 : (l.drop ((headL l).2.2.1 + (headL l).2.1)).take 4 ≠ four (sumN (l.take ((headL l).2.2.1 + (headL l).2.1)))
  · rw [if_pos c2] at h; exact absurd h (by decide)
  rw [if_neg c2]
  obtain ⟨a1, a2, a3, a4, a5⟩ := headL_ok l hl (by simpa using c0)
  have hlen : ((l.drop (headL l).2.2.1).take (headL l).2.1).length = (headL l).2.1 := by rw [List.length_take, List.length_drop]; omega
  have ht : l.take ((headL l).2.2.1 + (headL l).2.1) = headOf (headL l).1 (headL l).2.1 ++ (l.drop (headL l).2.2.1).take (headL l).2.1 := by rw [List.take_add, a5]
  refine ⟨a1, ?_, ?_, ?_, ?_⟩
  · show ((l.drop (headL l).2.2.1).take (headL l).2.1).length ≤ 4096
    omega
  · show (headL l).2.2.1 + (headL l).2.1 + 4 ≤ l.length
    omega
  · show 4 ≤ (headL l).2.2.1 + (headL l).2.1 + 4
    omega
  · show l.take ((headL l).2.2.1 + (headL l).2.1 + 4) = frameL (headL l).1 ((l.drop (headL l).2.2.1).take (headL l).2.1)
    unfold frameL
    rw [hlen, List.take_add, Classical.not_not.1 c2, ← ht]

/-- The sum of what is opened: what stands behind it decides. -/
theorem openL_bad (l : List Nat) (h : (openL l).2.2.2 ≠ 0) : (openL l).1 = 0 ∧ (openL l).2.1 = [] ∧ (openL l).2.2.1 = 0 := by
  unfold openL at h ⊢
  repeat' split
  all_goals first | exact ⟨rfl, rfl, rfl⟩ | (rename_i c0 c1 c2; rw [if_neg c0, if_neg c1, if_neg c2] at h; exact absurd rfl h)

theorem getL_nil : getL 0 0 [] = (0, 0, 2) := by rw [getL, if_neg (by omega)]

/-- A head that is cut off ends too soon. -/
theorem headL_cut (seq n : Nat) (hs : seq < 18446744073709551616) (hn : n ≤ 4096) (j : Nat) (hj : j < (headOf seq n).length) : (headL ((headOf seq n).take j)).2.2.2 = 2 := by
  rw [headOf_len] at hj
  match j with
  | 0 => simp [headL]
  | 1 => simp [headL, headOf]
  | j + 2 =>
    have e : (headOf seq n).take (j + 2) = 83 :: 103 :: (putN seq ++ putN n).take j := by simp [headOf]
    have e2 : (83 :: 103 :: (putN seq ++ putN n).take j).drop 2 = (putN seq ++ putN n).take j := rfl
    unfold headL
    rw [e, e2, if_neg (by simp), if_neg (by simp), if_neg (by simp only [List.length_cons]; omega), if_neg (by simp)]
    by_cases c : j < (putN seq).length
    · have : (putN seq ++ putN n).take j = (putN seq).take j := by rw [List.take_append, show j - (putN seq).length = 0 from by omega]; simp
      rw [this, getL_cut0 seq hs j c]
      rw [if_pos (by simp)]
    · have : (putN seq ++ putN n).take j = putN seq ++ (putN n).take (j - (putN seq).length) := by rw [List.take_append, List.take_of_length_le (by omega)]
      have e3 : (83 :: 103 :: (putN seq ++ (putN n).take (j - (putN seq).length))).drop (2 + (putN seq).length) = (putN n).take (j - (putN seq).length) := by
        rw [← List.drop_drop]; show (putN seq ++ _).drop _ = _; rw [List.drop_left]
      rw [this, getL_put0 seq _ hs]
      simp only
      rw [if_neg (by simp), e3, getL_cut0 n (by omega) (j - (putN seq).length) (by omega)]
      rw [if_pos (by simp)]

/-- A segment that is cut anywhere ends too soon. -/
theorem openL_cut (seq : Nat) (body : List Nat) (hs : seq < 18446744073709551616) (hn : body.length ≤ 4096) (j : Nat) (hj : j < (frameL seq body).length) : (openL ((frameL seq body).take j)).2.2.2 = 2 := by
  rw [frameL_len] at hj
  have e : frameL seq body = headOf seq body.length ++ (body ++ four (sumN (headOf seq body.length ++ body))) := by simp [frameL]
  by_cases c : j < (headOf seq body.length).length
  · have ht : (frameL seq body).take j = (headOf seq body.length).take j := by
      rw [e, List.take_append, show j - (headOf seq body.length).length = 0 from by omega]; simp
    have h2 := headL_cut seq body.length hs hn j c
    unfold openL
    rw [ht, if_pos (by rw [h2]; decide), h2]
  · have ht : (frameL seq body).take j = headOf seq body.length ++ (body ++ four (sumN (headOf seq body.length ++ body))).take (j - (headOf seq body.length).length) := by
      rw [e, List.take_append, List.take_of_length_le (by omega)]
    have hh := headL_frame seq body.length hs hn ((body ++ four (sumN (headOf seq body.length ++ body))).take (j - (headOf seq body.length).length))
    unfold openL
    rw [ht, hh]
    simp only
    rw [if_neg (by simp), if_pos (by simp only [List.length_append, List.length_take, four_len]; omega)]

end Go.Proofs.Ythlllcmffgdcmaa.SegPlain

namespace Go.Proofs.Ythlllcmffgdcmaa.CrcPlain

theorem stepsN_add (m n z : Nat) : stepsN (m + n) z = stepsN m (stepsN n z) := by
  induction m with
  | zero => rw [Nat.zero_add]; rfl
  | succ m ih => rw [Nat.succ_add, stepsN, ih]; rfl

/-- Bytes as one number, the lowest first. -/
def word : List Nat → Nat
  | [] => 0
  | b :: l => b + 256 * word l

theorem word_cons_xor (b W : Nat) (hb : b < 256) : b + 256 * W = (W * 2 ^ 8) ^^^ b := by
  have h := split_xor 8 (b + 256 * W)
  have e : (2 : Nat) ^ 8 = 256 := by decide
  rw [e] at h ⊢
  rw [show (b + 256 * W) / 256 = W by omega, show (b + 256 * W) % 256 = b by omega] at h
  exact h

theorem crcN_word (l : List Nat) : ∀ x, (∀ b ∈ l, b < 256) → crcN x l = stepsN (8 * l.length) (x ^^^ word l) := by
  induction l with
  | nil => intro x _; rw [crcN_nil]; simp [word, stepsN]
  | cons b l ih =>
    intro x hl
    have hb : b < 256 := hl b (by simp)
    rw [crcN_cons, ih _ (fun c hc => hl c (by simp [hc])), word, word_cons_xor b _ hb, List.length_cons, show 8 * (l.length + 1) = 8 * l.length + 8 by omega, stepsN_add]
    congr 1
    have e : x ^^^ (word l * 2 ^ 8 ^^^ b) = (word l * 2 ^ 8) ^^^ (x ^^^ b) := by rw [← Nat.xor_assoc, Nat.xor_comm x, Nat.xor_assoc]
    rw [e, stepsN_xor, stepsN_shift, s8_eq, Nat.xor_comm]

theorem stepN_ne (z : Nat) (h : z < 4294967296) (h0 : z ≠ 0) : stepN z ≠ 0 := by
  unfold stepN
  split
  · intro he
    have h1 : z / 2 = poly := by
      have := congrArg (· ^^^ poly) he
      simpa [Nat.xor_assoc] using this
    have : poly = 3988292384 := rfl
    omega
  · omega
theorem stepsN_ne (n z : Nat) (h : z < 4294967296) (h0 : z ≠ 0) : stepsN n z ≠ 0 := by
  induction n with
  | zero => exact h0
  | succ n ih => exact stepN_ne _ (stepsN_lt n z h) ih

theorem word_lt (l : List Nat) (hl : ∀ b ∈ l, b < 256) : word l < 2 ^ (8 * l.length) := by
  induction l with
  | nil => simp [word]
  | cons b l ih =>
    have hb : b < 256 := hl b (by simp)
    have := ih (fun c hc => hl c (by simp [hc]))
    rw [word, List.length_cons, show 8 * (l.length + 1) = 8 * l.length + 8 by omega, Nat.pow_add, show (2 : Nat) ^ 8 = 256 by decide]
    omega

theorem word_inj : ∀ (l m : List Nat), l.length = m.length → (∀ b ∈ l, b < 256) → (∀ b ∈ m, b < 256) → word l = word m → l = m
  | [], [], _, _, _, _ => rfl
  | [], _ :: _, h, _, _, _ => by simp at h
  | _ :: _, [], h, _, _, _ => by simp at h
  | b :: l, c :: m, h, hl, hm, e => by
    have hb : b < 256 := hl b (by simp)
    have hc : c < 256 := hm c (by simp)
    simp only [word] at e
    have e1 : b = c := by omega
    have e2 : word l = word m := by omega
    rw [e1, word_inj l m (by simpa using h) (fun c hc => hl c (by simp [hc])) (fun c hc => hm c (by simp [hc])) e2]

/-- A burst of up to 32 bits gives another sum, if it is another text. -/
theorem crc_burst (x : Nat) (l m : List Nat) (hn : l.length = m.length) (hl : ∀ b ∈ l, b < 256) (hm : ∀ b ∈ m, b < 256) (v p : Nat) (hv : v < 4294967296) (hw : word m = word l ^^^ (v * 2 ^ p)) : (crcN x m = crcN x l) ↔ m = l := by
  constructor
  · intro h
    by_cases hv0 : v = 0
    · subst hv0
      rw [Nat.zero_mul, Nat.xor_zero] at hw
      exact word_inj m l hn.symm hm hl hw
    · exfalso
      have h1 : word l ^^^ word m = v * 2 ^ p := by rw [hw, ← Nat.xor_assoc, Nat.xor_self, Nat.zero_xor]
      have hlt : v * 2 ^ p < 2 ^ (8 * l.length) := by
        rw [← h1]
        exact Nat.xor_lt_two_pow (word_lt l hl) (by rw [hn]; exact word_lt m hm)
      have hp : p ≤ 8 * l.length := by
        rcases Nat.lt_or_ge (8 * l.length) p with hc | hc
        · have : 2 ^ (8 * l.length) ≤ 2 ^ p := Nat.pow_le_pow_right (by decide) (by omega)
          have h2 : 1 * 2 ^ p ≤ v * 2 ^ p := Nat.mul_le_mul_right _ (by omega)
          omega
        · exact hc
      have h2 : crcN x l ^^^ crcN x m = stepsN (8 * l.length - p) v := by
        rw [crcN_word l x hl, crcN_word m x hm, ← hn, ← stepsN_xor, show (x ^^^ word l) ^^^ (x ^^^ word m) = word l ^^^ word m by
          rw [Nat.xor_comm x (word l), Nat.xor_assoc, ← Nat.xor_assoc x x, Nat.xor_self, Nat.zero_xor], h1]
        conv => lhs; rw [show 8 * l.length = (8 * l.length - p) + p by omega]
        rw [stepsN_add, stepsN_shift]
      rw [h, Nat.xor_self] at h2
      exact stepsN_ne _ v hv hv0 h2.symm
  · intro h; rw [h]

/-- One bit of a text turned. -/
def flip (l : List Nat) (k : Nat) : List Nat := l.set (k / 8) (l.getD (k / 8) 0 ^^^ 2 ^ (k % 8))

theorem flip_length (l : List Nat) (k : Nat) : (flip l k).length = l.length := by simp [flip]

theorem pow_lt256 (k : Nat) : 2 ^ (k % 8) < 256 := by
  have : (2 : Nat) ^ (k % 8) < 2 ^ 8 := Nat.pow_lt_pow_right (by decide) (Nat.mod_lt _ (by decide))
  simpa using this

theorem xor_lt256 (a b : Nat) (ha : a < 256) (hb : b < 256) : a ^^^ b < 256 := Nat.xor_lt_two_pow (n := 8) ha hb

theorem flip_lt (l : List Nat) (k : Nat) (hl : ∀ b ∈ l, b < 256) : ∀ b ∈ flip l k, b < 256 := by
  intro b hb
  rcases List.mem_or_eq_of_mem_set hb with h | h
  · exact hl b h
  · rw [h]
    refine xor_lt256 _ _ ?_ (pow_lt256 k)
    rw [List.getD_eq_getElem?_getD]
    rcases hq : l[k / 8]? with _ | q
    · simp
    · simpa using hl q (List.mem_of_getElem? hq)

theorem word_flip : ∀ (l : List Nat) (k : Nat), (∀ b ∈ l, b < 256) → k < 8 * l.length → word (flip l k) = word l ^^^ 2 ^ k
  | [], k, _, h => by simp at h
  | b :: l, k, hl, h => by
    have hb : b < 256 := hl b (by simp)
    by_cases h8 : k < 8
    · have e0 : k / 8 = 0 := by omega
      have e1 : k % 8 = k := by omega
      have hk : (2 : Nat) ^ k < 256 := by have := pow_lt256 k; rwa [e1] at this
      unfold flip
      rw [e0, e1, List.set_cons_zero, List.getD_cons_zero, word, word, word_cons_xor b _ hb, word_cons_xor _ _ (xor_lt256 b _ hb hk), Nat.xor_assoc]
    · have e0 : k / 8 = (k - 8) / 8 + 1 := by omega
      have e1 : k % 8 = (k - 8) % 8 := by omega
      have ih := word_flip l (k - 8) (fun c hc => hl c (by simp [hc])) (by simp at h; omega)
      unfold flip at ih ⊢
      rw [e0, e1, List.set_cons_succ, List.getD_cons_succ, word, ih, word, word_cons_xor b _ hb, word_cons_xor b _ hb]
      have e2 : (2 : Nat) ^ k = 2 ^ (k - 8) * 2 ^ 8 := by rw [← Nat.pow_add, show k - 8 + 8 = k by omega]
      have e3 : (word l ^^^ 2 ^ (k - 8)) * 2 ^ 8 = (word l * 2 ^ 8) ^^^ (2 ^ (k - 8) * 2 ^ 8) := by
        rw [← Nat.shiftLeft_eq, ← Nat.shiftLeft_eq, ← Nat.shiftLeft_eq, Nat.shiftLeft_xor_distrib]
      rw [e2, e3, Nat.xor_assoc, Nat.xor_assoc, Nat.xor_comm b]

/-- What is spoilt behind so many bits of the burst. -/
def spoil (l : List Nat) (v bit : Nat) : Nat → List Nat
  | 0 => l
  | i + 1 => if v / 2 ^ i % 2 = 1 then flip (spoil l v bit i) (bit + i) else spoil l v bit i

theorem spoil_length (l : List Nat) (v bit i : Nat) : (spoil l v bit i).length = l.length := by
  induction i with
  | zero => rfl
  | succ i ih => rw [spoil]; split <;> simp [flip_length, ih]
theorem spoil_lt (l : List Nat) (v bit i : Nat) (hl : ∀ b ∈ l, b < 256) : ∀ b ∈ spoil l v bit i, b < 256 := by
  induction i with
  | zero => exact hl
  | succ i ih =>
    rw [spoil]; split
    · exact flip_lt _ _ ih
    · exact ih

theorem mod_succ (v i : Nat) : v % 2 ^ (i + 1) = if v / 2 ^ i % 2 = 1 then (v % 2 ^ i) ^^^ 2 ^ i else v % 2 ^ i := by
  apply Nat.eq_of_testBit_eq
  intro j
  have hb : v / 2 ^ i % 2 = 1 ↔ v.testBit i = true := by
    rw [Nat.testBit_eq_decide_div_mod_eq]; simp
  by_cases hv : v.testBit i = true
  · rw [if_pos (hb.2 hv), Nat.testBit_xor, Nat.testBit_mod_two_pow, Nat.testBit_mod_two_pow, Nat.testBit_two_pow]
    by_cases hj : j = i
    · subst hj; simp [hv]
    · by_cases h1 : j < i
      · simp [h1, show j < i + 1 by omega, show ¬ i = j by omega]
      · simp [h1, show ¬ j < i + 1 by omega, show ¬ i = j by omega]
  · rw [if_neg (fun h => hv (hb.1 h)), Nat.testBit_mod_two_pow, Nat.testBit_mod_two_pow]
    by_cases hj : j = i
    · subst hj; simp [hv]
    · by_cases h1 : j < i
      · simp [h1, show j < i + 1 by omega]
      · simp [h1, show ¬ j < i + 1 by omega]

theorem word_spoil (l : List Nat) (v bit i : Nat) (hl : ∀ b ∈ l, b < 256) (hi : bit + i ≤ 8 * l.length) : word (spoil l v bit i) = word l ^^^ (v % 2 ^ i * 2 ^ bit) := by
  induction i with
  | zero => simp [spoil, Nat.mod_one]
  | succ i ih =>
    have ih := ih (by omega)
    rw [spoil, mod_succ]
    split
    · rw [word_flip _ _ (spoil_lt l v bit i hl) (by rw [spoil_length]; omega), ih, Nat.xor_assoc]
      congr 1
      rw [← Nat.shiftLeft_eq, ← Nat.shiftLeft_eq, Nat.shiftLeft_xor_distrib, Nat.shiftLeft_eq (2 ^ i), ← Nat.pow_add, Nat.add_comm i bit]
    · exact ih

theorem spoil_sum (x : Nat) (l : List Nat) (hl : ∀ b ∈ l, b < 256) (v bit i : Nat) (hi : i ≤ 32) (hb : bit + i ≤ 8 * l.length) : (crcN x (spoil l v bit i) = crcN x l) ↔ spoil l v bit i = l := by
  have h1 : v % 2 ^ i < 2 ^ i := Nat.mod_lt _ (Nat.two_pow_pos i)
  have h2 : 2 ^ i ≤ 2 ^ 32 := Nat.pow_le_pow_right (by decide) hi
  have h3 : (2 : Nat) ^ 32 = 4294967296 := by decide
  exact crc_burst x l _ (spoil_length l v bit i).symm hl (spoil_lt l v bit i hl) (v % 2 ^ i) bit (by omega) (word_spoil l v bit i hl hb)

end Go.Proofs.Ythlllcmffgdcmaa.CrcPlain

namespace Go.Proofs.Ythlllcmffgdcmaa.SegPlain
open Go.Proofs.Ythlllcmffgdcmaa.LebPlain Go.Proofs.Ythlllcmffgdcmaa.RecPlain Go.Proofs.Ythlllcmffgdcmaa.CrcPlain

theorem flip_app (A B C : List Nat) (k : Nat) (hk : k < 8 * B.length) : CrcPlain.flip (A ++ B ++ C) (8 * A.length + k) = A ++ CrcPlain.flip B k ++ C := by
  have e1 : (8 * A.length + k) / 8 = A.length + k / 8 := by omega
  have e2 : (8 * A.length + k) % 8 = k % 8 := by omega
  have e3 : k / 8 < B.length := by omega
  unfold CrcPlain.flip
  rw [e1, e2, List.append_assoc, List.set_append_right _ _ (by omega), Nat.add_sub_cancel_left, List.set_append_left _ _ e3, List.append_assoc]
  congr 3
  rw [List.getD_eq_getElem?_getD, List.getD_eq_getElem?_getD, List.getElem?_append_right (by omega), Nat.add_sub_cancel_left, List.getElem?_append_left e3]

theorem spoil_app (A B C : List Nat) (v bit : Nat) : ∀ i, bit + i ≤ 8 * B.length → spoil (A ++ B ++ C) v (8 * A.length + bit) i = A ++ spoil B v bit i ++ C
  | 0, _ => rfl
  | i + 1, h => by
    have ih := spoil_app A B C v bit i (by omega)
    rw [spoil, spoil, ih]
    split
    · rw [Nat.add_assoc, flip_app _ _ _ _ (by rw [spoil_length]; omega)]
    · rfl

theorem openL_sum (seq n : Nat) (B F : List Nat) (hs : seq < 18446744073709551616) (hn : n ≤ 4096) (hB : B.length = n) (hF : F.length = 4) :
    (openL (headOf seq n ++ B ++ F)).2.2.2 = if F = four (sumN (headOf seq n ++ B)) then 0 else 7 := by
  have hh := headL_frame seq n hs hn (B ++ F)
  rw [← List.append_assoc] at hh
  unfold openL
  rw [hh]
  simp only
  rw [if_neg (by simp), if_neg (by simp only [List.length_append]; omega)]
  have d1 : (headOf seq n ++ B ++ F).drop ((headOf seq n).length + n) = F := by
    rw [← hB, ← List.length_append, List.drop_left]
  have t1 : (headOf seq n ++ B ++ F).take ((headOf seq n).length + n) = headOf seq n ++ B := by
    rw [← hB, ← List.length_append, List.take_left]
  rw [d1, t1, List.take_of_length_le (by omega)]
  by_cases h : F = four (sumN (headOf seq n ++ B))
  · rw [if_neg (by simp [h]), if_pos h]
  · rw [if_pos h, if_neg h]

/-- A segment of which up to 32 bits of the body, beside each other, are turned. -/
theorem spoilt_open (seq : Nat) (B : List Nat) (hs : seq < 18446744073709551616) (hn : B.length ≤ 4096) (hB : ∀ b ∈ B, b < 256) (v bit i : Nat) (hi : i ≤ 32) (hb : bit + i ≤ 8 * B.length) :
    (openL (spoil (frameL seq B) v (8 * (headOf seq B.length).length + bit) i)).2.2.2 = if spoil (frameL seq B) v (8 * (headOf seq B.length).length + bit) i = frameL seq B then 0 else 7 := by
  unfold frameL
  rw [spoil_app _ _ _ _ _ _ hb, openL_sum seq B.length _ _ hs hn (spoil_length _ _ _ _) (four_len _)]
  have hH := headOf_lt seq B.length
  have key := spoil_sum (crcN 4294967295 (headOf seq B.length)) B hB v bit i hi hb
  rw [← crcN_append, ← crcN_append] at key
  have l1 : ∀ b ∈ headOf seq B.length ++ spoil B v bit i, b < 256 := by
    intro b h; rcases List.mem_append.1 h with h | h
    · exact hH b h
    · exact spoil_lt _ _ _ _ hB b h
  have l2 : ∀ b ∈ headOf seq B.length ++ B, b < 256 := by
    intro b h; rcases List.mem_append.1 h with h | h
    · exact hH b h
    · exact hB b h
  have c1 := crcN_lt _ 4294967295 (by decide) l1
  have c2 := crcN_lt _ 4294967295 (by decide) l2
  by_cases h : spoil B v bit i = B
  · rw [h, if_pos rfl, if_pos rfl]
  · rw [if_neg, if_neg]
    · intro he
      exact h (List.append_cancel_left (List.append_cancel_right he))
    · intro he
      have := four_inj _ _ (sumN_lt _) (sumN_lt _) he
      unfold sumN at this
      exact h (key.1 (by omega))

end Go.Proofs.Ythlllcmffgdcmaa.SegPlain

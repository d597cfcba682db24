/- Texts of this claim, joined: CrcLink, LebQSegmentOpens, CrcSumQSegmentOpens, SegLinkQSegmentOpens, RefGetQSegmentOpens, PureSegmentOpens, Spoilt0, Scan0. -/
import Derived.Test.YthlllcmffgdcmaaCrcA
import Derived.Test.YthlllcmffgdcmaaM1
import Derived.Test.YthlllcmffgdcmaaQSegmentOpensx7
import Derived.Deep.RegionHeld3
import Derived.Deep.DeepCutAuto
import Derived.Deep.CutBlock
import Derived.StillTailTactics
namespace Go.Proofs.Ythlllcmffgdcmaa.CrcLink
open Go.RowKit Go.Proofs.YthlllcmffgdcmaaW.PrintWords Go.Proofs.YthlllcmffgdcmaaW.PrintLast Go.Proofs.Ythlllcmffgdcmaa.Crc Go.Proofs.Ythlllcmffgdcmaa.CrcPlain Go.Proofs.Ythlllcmffgdcmaa.LebWords

theorem and_one32 (x : Nat) (h : x < 4294967296) : Go.bits .and .u32 (x : Int) 1 = ((x % 2 : Nat) : Int) := by
  rw [u32_and (x : Int) 1 (by omega) (by omega) (by omega) (by omega), Int.toNat_natCast, show (1 : Int).toNat = 1 from rfl, Nat.and_one_is_mod]

theorem xor_u32 (a b : Nat) (ha : a < 4294967296) (hb : b < 4294967296) : Go.bits .xor .u32 (a : Int) (b : Int) = ((a ^^^ b : Nat) : Int) := u32_xor_nat a b ha hb

theorem stepI_eq (z : Nat) (h : z < 4294967296) : stepI (z : Int) = ((stepN z : Nat) : Int) := by
  unfold stepI stepN
  rw [and_one32 z h]
  by_cases hz : z % 2 = 1
  · rw [if_pos (by omega), if_pos hz, show (z : Int) / 2 = ((z / 2 : Nat) : Int) from by omega, show (3988292384 : Int) = ((poly : Nat) : Int) from rfl, xor_u32 _ _ (by omega) (by decide)]
  · rw [if_neg (by omega), if_neg hz]; omega

theorem stepsI_eq (n z : Nat) (h : z < 4294967296) : stepsI n (z : Int) = ((stepsN n z : Nat) : Int) := by
  induction n with
  | zero => rfl
  | succ n ih => rw [stepsI, ih, stepI_eq _ (stepsN_lt n z h), stepsN]

theorem tabI_eq (i : Nat) (h : i < 256) : tabI i = ((s8 i : Nat) : Int) := by
  unfold tabI
  rw [stepsI_eq 8 i (by omega), s8_eq]

theorem stepB_eq (y b : Nat) (hy : y < 4294967296) (hb : b < 256) : stepB (y : Int) (b : Int) = ((s8 (y ^^^ b) : Nat) : Int) := by
  unfold stepB
  have hx : Go.bits .xor .u8 ((y : Int) % 256) (b : Int) = (((y % 256) ^^^ b : Nat) : Int) := by
    rw [show (y : Int) % 256 = ((y % 256 : Nat) : Int) from by omega, u8_xor_nat _ _ (by omega) hb]
  have hlt : (y % 256) ^^^ b < 256 := Nat.xor_lt_two_pow (n := 8) (Nat.mod_lt _ (by decide)) hb
  rw [hx, Int.toNat_natCast, tabI_eq _ hlt, show (y : Int) / 256 = ((y / 256 : Nat) : Int) from by omega, xor_u32 _ _ (by omega) (s8_lt _ (by omega)), s8_eq, s8_eq, byte_table y b hb]

theorem addTo_eq (s : ByteArray) (y : Nat) (hy : y < 4294967296) : ∀ n, n ≤ s.size → addTo s (y : Int) n = ((crcN y ((bl s).take n) : Nat) : Int) := by
  intro n
  induction n with
  | zero => intro _; rw [List.take_zero, crcN_nil]; rfl
  | succ n ih =>
    intro hn
    have hlt : n < (bl s).length := by rw [bl_length]; omega
    obtain ⟨b, hb, h256, hd⟩ := bl_drop s n (by omega)
    have hg : (bl s)[n] = b := by
      rw [List.drop_eq_getElem_cons hlt] at hd
      exact (List.cons.inj hd).1
    rw [addTo, ih (by omega), hb, stepB_eq _ _ (crcN_lt _ y hy (fun c hc => bl_lt s c (List.mem_of_mem_take hc))) h256, List.take_succ_eq_append_getElem hlt, crcN_append, crcN_cons, crcN_nil, hg]

theorem not_u32 (x : Nat) (h : x < 4294967296) : Go.bits .xor .u32 IntKind.u32.max (x : Int) = ((4294967295 - x : Nat) : Int) := by
  have e : Go.bits .xor .u32 IntKind.u32.max (x : Int) = IntKind.u32.wrap ((BitVec.ofInt 32 IntKind.u32.max ^^^ BitVec.ofInt 32 (x : Int)).toNat : Int) := rfl
  have e1 : BitVec.ofInt 32 IntKind.u32.max = BitVec.allOnes 32 := by decide
  have e2 : BitVec.ofInt 32 (x : Int) = BitVec.ofNat 32 x := by simp
  rw [e, e1, e2, BitVec.allOnes_xor, BitVec.toNat_not, BitVec.toNat_ofNat, IntKind.wrap_u32]
  have : (2 : Nat) ^ 32 = 4294967296 := by decide
  rw [this, Nat.mod_eq_of_lt h]
  omega

theorem add_f (x : Nat) (hx : x < 4294967296) (s : ByteArray) (hs : s.size ≤ 140737488351232) : crc_State_Add.f (x : Int) s = some ((addN x (bl s) : Nat) : Int) := by
  unfold crc_State_Add.f
  have hlt : crcN (4294967295 - x) (bl s) < 4294967296 := crcN_lt _ _ (by omega) (bl_lt s)
  rw [if_pos hs, not_u32 x hx, addTo_eq s _ (by omega) s.size (by omega), List.take_of_length_le (by rw [bl_length]; omega), not_u32 _ hlt]
  rfl

end Go.Proofs.Ythlllcmffgdcmaa.CrcLink

namespace Go.Proofs.Ythlllcmffgdcmaa.LebQSegmentOpens
open Go.RowKit Go.Proofs.Ythlllcmffgdcmaa.QSegmentOpens Go.Proofs.YthlllcmffgdcmaaW.PrintWords Go.Proofs.YthlllcmffgdcmaaW.PrintLast Go.Proofs.Ythlllcmffgdcmaa.LebPlain Go.Proofs.Ythlllcmffgdcmaa.LebWords

theorem get_l0 (s : ByteArray) (p : Nat) (hs : s.size ≤ 140737488351232) (hp : p ≤ s.size) : ∀ (d k i : Nat) (a : Int) (acc : Nat), i + d = 10 → d < k →
    (i ≤ 9 → a = (acc : Int) ∧ acc < 128 ^ i) → leb_Get.l0 k s (p : Int) a (i : Int) = some (res p (getL i acc ((bl s).drop (p + i)))) := by
  intro d
  induction d with
  | zero =>
    intro k i a acc hi hk _
    obtain ⟨k, rfl⟩ : ∃ m, k = m + 1 := ⟨k - 1, by omega⟩
    simp only [leb_Get.l0]
    rw [if_neg (by omega), getL_full (by omega)]; rfl
  | succ d ih =>
    intro k i a acc hi hk ha
    obtain ⟨k, rfl⟩ : ∃ m, k = m + 1 := ⟨k - 1, by omega⟩
    obtain ⟨rfl, hacc⟩ := ha (by omega)
    have w1 : wrap64 ((p : Int) + (i : Int)) = ((p + i : Nat) : Int) := by unfold wrap64; omega
    have w2 : wrap64 (7 * (i : Int)) = ((7 * i : Nat) : Int) := by unfold wrap64; omega
    have w3 : wrap64 ((i : Int) + 1) = ((i + 1 : Nat) : Int) := by unfold wrap64; omega
    have w4 : wrap64 (((p + i : Nat) : Int) + 1) = ((p + (i + 1) : Nat) : Int) := by unfold wrap64; omega
    simp only [leb_Get.l0, w1, w2, w3, w4]
    clear w1 w2 w3 w4
    have e0 : (i : Int) < 10 := by omega
    rw [if_pos e0]
    clear e0
    by_cases hend : p + i < s.size
    · have e1 : ¬ (((p + i : Nat) : Int) ≥ (s.size : Int)) := by omega
      have e2 : 0 ≤ ((p + i : Nat) : Int) := by omega
      have e3 : ((p + i : Nat) : Int) < (s.size : Int) := by omega
      have e4 : 0 ≤ ((7 * i : Nat) : Int) := by omega
      rw [if_neg e1, if_pos e2, if_pos e3, if_pos e4]
      obtain ⟨b, hb, hb256, hdrop⟩ := bl_drop s (p + i) hend
      rw [hb, hdrop]
      clear e1 e2 e3 e4
      by_cases h128 : 128 ≤ b
      · rw [if_pos (show (b : Int) ≥ 128 by omega), getL, if_neg (show ¬ 10 ≤ i by omega), if_pos h128]
        have := ih k (i + 1) (Go.bits .or .u64 (acc : Int) (shl .u64 (IntKind.u64.wrap (Go.bits .and .u8 (b : Int) 127)) ((7 * i : Nat) : Int))) (acc + b % 128 * 128 ^ i) (by omega) (by omega) ?_
        · rw [this]; rfl
        · intro h9
          refine ⟨or_shl i acc b (by omega) hacc hb256 (by omega), ?_⟩
          have h1 : b % 128 * 128 ^ i ≤ 127 * 128 ^ i := Nat.mul_le_mul_right _ (by omega)
          rw [Nat.pow_succ]; omega
      · rw [if_neg (show ¬ ((b : Int) ≥ 128) by omega), getL, if_neg (show ¬ 10 ≤ i by omega), if_neg h128]
        by_cases hbad : (b = 0 ∧ 0 < i) ∨ (i = 9 ∧ 1 < b)
        · rw [if_pos hbad]
          by_cases hb0 : b = 0
          · rw [if_pos (show (b : Int) = 0 by omega), if_pos (show (i : Int) > 0 by omega)]; rfl
          · rw [if_neg (show ¬ ((b : Int) = 0) by omega), if_pos (show (i : Int) = 9 by omega), if_pos (show (b : Int) > 1 by omega)]; rfl
        · have h9 : i = 9 → b % 128 ≤ 1 := by omega
          rw [if_neg hbad, or_shl i acc b (by omega) hacc hb256 h9, Nat.mod_eq_of_lt (show b < 128 by omega)]
          simp only [res, if_true]
          by_cases hb0 : b = 0
          · rw [if_pos (show (b : Int) = 0 by omega), if_neg (show ¬ ((i : Int) > 0) by omega), if_neg (show ¬ ((i : Int) = 9) by omega)]
          · rw [if_neg (show ¬ ((b : Int) = 0) by omega)]
            by_cases hi9 : i = 9
            · rw [if_pos (show (i : Int) = 9 by omega), if_neg (show ¬ ((b : Int) > 1) by omega)]
            · rw [if_neg (show ¬ ((i : Int) = 9) by omega)]
    · rw [if_pos (show ((p + i : Nat) : Int) ≥ (s.size : Int) by omega), List.drop_eq_nil_of_le (by rw [bl_length]; omega), getL, if_neg (show ¬ 10 ≤ i by omega)]; rfl

theorem get_f (s : ByteArray) (at_ : Int) (hs : s.size ≤ 140737488351232) (k : Nat) (hk : 12 ≤ k) : leb_Get.f k s at_ = some (getA s at_) := by
  obtain ⟨k, rfl⟩ : ∃ m, k = m + 1 := ⟨k - 1, by omega⟩
  unfold leb_Get.f getA
  by_cases h0 : at_ < 0
  · rw [if_pos h0, if_pos (Or.inl h0)]; simp only [leb_Get.j0, if_true]
  · rw [if_neg h0]
    by_cases h1 : (s.size : Int) < at_
    · rw [if_pos (Or.inr h1)]; simp only [leb_Get.j0]; rw [if_pos (by simpa using h1)]
    · rw [if_neg (by omega)]; simp only [leb_Get.j0]; rw [if_neg (by simpa using h1)]
      have := get_l0 s at_.toNat hs (by omega) 10 k 0 0 0 (by omega) (by omega) (fun _ => ⟨rfl, by omega⟩)
      rw [show ((at_.toNat : Nat) : Int) = at_ from by omega] at this
      rw [show ((0 : Nat) : Int) = 0 from rfl] at this
      rw [this]; rfl

theorem put_l0 (n : Nat) : ∀ (k : Nat) (xs : List Int), (putN n).length < k → xs.length + (putN n).length ≤ 100 →
    leb_Put.l0 k (n : Int) xs = some (strOfNums (xs ++ (putN n).map Int.ofNat)) := by
  induction n using putN.induct with
  | case1 n h =>
    intro k xs hk hx
    obtain ⟨k, rfl⟩ : ∃ m, k = m + 1 := ⟨k - 1, by omega⟩
    rw [putN_small h] at hx ⊢
    simp only [List.length_singleton] at hx
    simp only [leb_Put.l0]
    rw [if_neg (by omega), if_pos (by omega), show (n : Int) % 256 = (n : Int) from by omega]; rfl
  | case2 n h ih =>
    intro k xs hk hx
    obtain ⟨k, rfl⟩ : ∃ m, k = m + 1 := ⟨k - 1, by omega⟩
    rw [putN_big h] at hx hk ⊢
    simp only [List.length_cons] at hx hk
    simp only [leb_Put.l0]
    rw [if_pos (by omega), if_pos (by omega), show (n : Int) / 128 = ((n / 128 : Nat) : Int) from by omega,
      show (n : Int) % 256 = ((n % 256 : Nat) : Int) from by omega, or128 _ (by omega), ih k _ (by omega) (by simp only [List.length_append, List.length_singleton]; omega)]
    rw [show n % 256 % 128 = n % 128 from by omega]
    simp

theorem put_f (n : Nat) (h : n < 18446744073709551616) (k : Nat) (hk : 12 ≤ k) : leb_Put.f k (n : Int) = some (putS n) := by
  have := putN_len n h
  unfold leb_Put.f putS
  rw [put_l0 n k [] (by omega) (by simp; omega)]; rfl

end Go.Proofs.Ythlllcmffgdcmaa.LebQSegmentOpens

namespace Go.Proofs.Ythlllcmffgdcmaa.CrcSumQSegmentOpens
open Go.RowKit Go.Proofs.Ythlllcmffgdcmaa.QSegmentOpens Go.Proofs.YthlllcmffgdcmaaW.PrintWords Go.Proofs.YthlllcmffgdcmaaW.PrintLast Go.Proofs.Ythlllcmffgdcmaa.Crc Go.Proofs.Ythlllcmffgdcmaa.CrcPlain Go.Proofs.Ythlllcmffgdcmaa.CrcLink Go.Proofs.Ythlllcmffgdcmaa.LebWords

/-- The bytes of some texts. -/
def allB (l : List ByteArray) : List Nat := l.flatMap bl

theorem allB_lt (l : List ByteArray) : ∀ b ∈ allB l, b < 256 := by
  intro b hb
  obtain ⟨s, _, h⟩ := List.mem_flatMap.1 hb
  exact bl_lt s b h

theorem allB_snoc (l : List ByteArray) (s : ByteArray) : allB (l ++ [s]) = allB l ++ bl s := by simp [allB]
theorem allB_nil : allB [] = [] := rfl

theorem of_l0 (l : List ByteArray) (hl : l.length ≤ 1000000) (hs : ∀ s ∈ l, s.size ≤ 140737488351232) : ∀ (d i k : Nat), i + d = l.length → d < k →
    crc_Of.l0 k l (l.length : Int) (i : Int) ((sumN (allB (l.take i)) : Nat) : Int) = some ((sumN (allB l) : Nat) : Int) := by
  intro d
  induction d with
  | zero =>
    intro i k hi hk
    obtain ⟨k, rfl⟩ : ∃ m, k = m + 1 := ⟨k - 1, by omega⟩
    obtain rfl : i = l.length := by omega
    rw [crc_Of.l0, if_neg (by omega), List.take_length]
    rfl
  | succ d ih =>
    intro i k hi hk
    obtain ⟨k, rfl⟩ : ∃ m, k = m + 1 := ⟨k - 1, by omega⟩
    have hlt : i < l.length := by omega
    have hr : rdOf ByteArray.empty l (i : Int) = l[i] := by simp [rdOf, List.getD, hlt]
    have hn := ih (i + 1) k (by omega) (by omega)
    have hsz := hs l[i] (List.getElem_mem hlt)
    rw [List.take_succ_eq_append_getElem hlt, allB_snoc, ← addN_sum _ _ (allB_lt _)] at hn
    rw [crc_Of.l0, if_pos (by omega), if_pos (by omega), if_pos (by omega), hr, add_f _ (sumN_lt _) _ hsz, Option.bind_some, show wrap64 ((i : Int) + 1) = ((i + 1 : Nat) : Int) from by unfold wrap64; omega]
    exact hn

theorem of_f (l : List ByteArray) (hl : l.length ≤ 1000000) (hs : ∀ s ∈ l, s.size ≤ 140737488351232) (k : Nat) (hk : l.length < k) : crc_Of.f k l = some ((sumN (allB l) : Nat) : Int) := by
  have := of_l0 l hl hs l.length 0 k (by omega) hk
  rw [List.take_zero, allB_nil, sumN_nil] at this
  exact this

theorem ref_l1 (s : ByteArray) (i : Nat) (R : Option Int) : ∀ (d j k x b : Nat), j + d = 8 → x < 4294967296 → b < 256 →
    (∀ k', k ≤ k' → shunterref03_Sum.l0 k' s ((bitsN d x b : Nat) : Int) (wrap64 ((i : Int) + 1)) = R) → shunterref03_Sum.l1 (k + d + 1) s (x : Int) (i : Int) (b : Int) (j : Int) = R := by
  intro d
  induction d with
  | zero =>
    intro j k x b hj _ _ h
    rw [shunterref03_Sum.l1, if_neg (by omega)]
    exact h k (by omega)
  | succ d ih =>
    intro j k x b hj hx hb h
    rw [show k + (d + 1) + 1 = (k + d + 1) + 1 from by omega, shunterref03_Sum.l1, if_pos (by omega), show wrap64 ((j : Int) + 1) = ((j + 1 : Nat) : Int) from by unfold wrap64; omega]
    have e1 : (Int.tdiv (x : Int) 2) % 4294967296 = ((x / 2 : Nat) : Int) := by rw [Int.tdiv_eq_ediv_of_nonneg (by omega)]; omega
    have e2 : (Int.tdiv (b : Int) 2) % 4294967296 = ((b / 2 : Nat) : Int) := by rw [Int.tdiv_eq_ediv_of_nonneg (by omega)]; omega
    have e3 : (((x : Int) + (b : Int)) % 4294967296) % 2 = (((x + b) % 2 : Nat) : Int) := by omega
    rw [e1, e2, e3]
    by_cases ht : (x + b) % 2 = 1
    · rw [if_pos (by omega), show (3988292384 : Int) = ((poly : Nat) : Int) from rfl, xor_u32 _ _ (by omega) (by decide)]
      refine ih (j + 1) k _ (b / 2) (by omega) (Nat.xor_lt_two_pow (n := 32) (by omega) (by decide)) (by omega) ?_
      intro k' hk'
      have := h k' hk'
      rw [bitsN, if_pos ht] at this
      exact this
    · rw [if_neg (by omega)]
      refine ih (j + 1) k _ (b / 2) (by omega) (by omega) (by omega) ?_
      intro k' hk'
      have := h k' hk'
      rw [bitsN, if_neg ht] at this
      exact this

theorem ref_l0 (s : ByteArray) (hs : s.size ≤ 1000000) : ∀ (d i k x : Nat), i + d = s.size → 10 * d + 1 ≤ k → x < 4294967296 →
    shunterref03_Sum.l0 k s (x : Int) (i : Int) = some ((4294967295 - crcN x ((bl s).drop i) : Nat) : Int) := by
  intro d
  induction d with
  | zero =>
    intro i k x hi hk hx
    obtain ⟨k, rfl⟩ : ∃ m, k = m + 1 := ⟨k - 1, by omega⟩
    rw [shunterref03_Sum.l0, if_neg (by omega), List.drop_eq_nil_of_le (by rw [bl_length]; omega), crcN_nil]
    congr 1
    omega
  | succ d ih =>
    intro i k x hi hk hx
    obtain ⟨b, hb, h256, hd⟩ := bl_drop s i (by omega)
    obtain ⟨k, rfl⟩ : ∃ m, k = (m + 8 + 1) + 1 := ⟨k - 10, by omega⟩
    rw [shunterref03_Sum.l0, if_pos (by omega), if_pos (by omega), hb, show (b : Int) % 4294967296 = (b : Int) from by omega, hd, crcN_cons, s8_eq, ← bits8 x b h256]
    refine ref_l1 s i _ 8 0 k x b (by omega) hx h256 (fun k' hk' => ?_)
    rw [show wrap64 ((i : Int) + 1) = ((i + 1 : Nat) : Int) from by unfold wrap64; omega]
    exact ih (i + 1) k' _ (by omega) (by omega) (by rw [bits8 x b h256]; exact stepsN_lt 8 _ (xor_lt32 x b hx (by omega)))

theorem ref_sum (s : ByteArray) (hs : s.size ≤ 1000000) (k : Nat) (hk : 10 * s.size + 1 ≤ k) : shunterref03_Sum.f k s = some ((sumN (bl s) : Nat) : Int) := by
  have := ref_l0 s hs s.size 0 k 4294967295 (by omega) hk (by omega)
  exact this

end Go.Proofs.Ythlllcmffgdcmaa.CrcSumQSegmentOpens

namespace Go.Proofs.Ythlllcmffgdcmaa.SegLinkQSegmentOpens
open Go.RowKit Go.Proofs.Ythlllcmffgdcmaa.QSegmentOpens Go.Proofs.YthlllcmffgdcmaaW.PrintWords Go.Proofs.YthlllcmffgdcmaaW.PrintLast Go.Proofs.Ythlllcmffgdcmaa.LebPlain Go.Proofs.Ythlllcmffgdcmaa.LebWords Go.Proofs.Ythlllcmffgdcmaa.RecPlain Go.Proofs.Ythlllcmffgdcmaa.CrcPlain Go.Proofs.Ythlllcmffgdcmaa.CrcLink Go.Proofs.Ythlllcmffgdcmaa.SegPlain Go.Proofs.Ythlllcmffgdcmaa.LebQSegmentOpens Go.Proofs.Ythlllcmffgdcmaa.CrcSumQSegmentOpens

theorem wz (x : Int) (h0 : -10000000 ≤ x) (h1 : x ≤ 10000000) : wrap64 x = x := by unfold wrap64; omega

theorem magic_size : (⟨#[83, 103]⟩ : ByteArray).size = 2 := rfl
theorem magic_bl : bl (⟨#[83, 103]⟩ : ByteArray) = [83, 103] := rfl
theorem magic_bt0 : bt (⟨#[83, 103]⟩ : ByteArray) 0 = 83 := rfl
theorem magic_bt1 : bt (⟨#[83, 103]⟩ : ByteArray) 1 = 103 := rfl

/-- A list of bytes, as a string. -/
def strB (l : List Nat) : ByteArray := strOfNums (l.map Int.ofNat)
theorem bl_strB (l : List Nat) (h : ∀ b ∈ l, b < 256) : bl (strB l) = l := bl_nums l h
theorem strB_bl (s : ByteArray) : strB (bl s) = s := bl_inj (bl_strB _ (bl_lt s))

theorem four_f (n : Nat) (_ : n < 4294967296) : segment_four.f (n : Int) = some (strB (four n)) := by
  unfold segment_four.f strB four
  simp only [List.map_cons, List.map_nil, Int.ofNat_eq_natCast, Int.natCast_emod, Int.natCast_ediv]
  rfl

theorem four_size (n : Nat) : (strB (four n)).size = 4 := by
  rw [← bl_length, bl_strB _ (four_lt n)]; rfl

/-- The head of a segment, as a string. -/
theorem head_bl (seq n : Nat) : bl (((⟨#[83, 103]⟩ : ByteArray) ++ putS seq) ++ putS n) = headOf seq n := by
  rw [bl_append, bl_append, magic_bl, bl_putS, bl_putS]; rfl

theorem frame_big (seq : Int) (body : ByteArray) (h : 4096 < body.size) (k : Nat) : segment_Frame.f k seq body = some ((⟨#[]⟩ : ByteArray), 3) := by
  unfold segment_Frame.f
  rw [if_pos (by omega)]

theorem frame_f (seq : Nat) (hs : seq < 18446744073709551616) (body : ByteArray) (h : body.size ≤ 4096) (k : Nat) (hk : 20 ≤ k) :
    ∃ t, segment_Frame.f k (seq : Int) body = some (t, 0) ∧ bl t = frameL seq (bl body) := by
  have p1 := putN_len seq hs
  have p2 := putN_len body.size (by omega)
  have z1 : ((⟨#[83, 103]⟩ : ByteArray) ++ putS seq).size = 2 + (putN seq).length := by rw [ByteArray.size_append, magic_size, putS_size]
  have z2 : (((⟨#[83, 103]⟩ : ByteArray) ++ putS seq) ++ putS body.size).size = 2 + (putN seq).length + (putN body.size).length := by rw [ByteArray.size_append, z1, putS_size]
  have z3 : ((((⟨#[83, 103]⟩ : ByteArray) ++ putS seq) ++ putS body.size) ++ body).size = 2 + (putN seq).length + (putN body.size).length + body.size := by rw [ByteArray.size_append, z2]
  have hb : bl ((((⟨#[83, 103]⟩ : ByteArray) ++ putS seq) ++ putS body.size) ++ body) = headOf seq (bl body).length ++ bl body := by rw [bl_append, head_bl, bl_length]
  have ho := of_f [((⟨#[83, 103]⟩ : ByteArray) ++ putS seq) ++ putS body.size, body] (by simp) (by intro s hs; simp only [List.mem_cons, List.not_mem_nil, or_false] at hs; rcases hs with rfl | rfl <;> omega) k (by simp only [List.length_cons, List.length_nil]; omega)
  have ha : allB [((⟨#[83, 103]⟩ : ByteArray) ++ putS seq) ++ putS body.size, body] = headOf seq (bl body).length ++ bl body := by
    rw [show allB [((⟨#[83, 103]⟩ : ByteArray) ++ putS seq) ++ putS body.size, body] = bl (((⟨#[83, 103]⟩ : ByteArray) ++ putS seq) ++ putS body.size) ++ bl body from by simp only [allB, List.flatMap_cons, List.flatMap_nil, List.append_nil], head_bl, bl_length]
  rw [ha] at ho
  refine ⟨(((((⟨#[83, 103]⟩ : ByteArray) ++ putS seq) ++ putS body.size) ++ body) ++ strB (four (sumN (headOf seq (bl body).length ++ bl body)))), ?_, ?_⟩
  · unfold segment_Frame.f
    rw [if_neg (by omega), put_f seq hs k (by omega), Option.bind_some, if_pos (by rw [putS_size]; omega), put_f body.size (by omega) k (by omega), Option.bind_some, if_pos (by rw [z1, putS_size]; omega), if_pos (by rw [z2]; omega),
      ho, Option.bind_some, four_f _ (sumN_lt _), Option.bind_some, if_pos (by rw [z3, four_size]; omega)]
  · rw [bl_append, hb, bl_strB _ (four_lt _)]; rfl

/-- What the head tells at a place. -/
def headR (p : Nat) (h : Nat × Nat × Nat × Nat) : Int × Int × Int × Int :=
  if h.2.2.2 = 0 then ((h.1 : Int), (h.2.1 : Int), ((p + h.2.2.1 : Nat) : Int), 0) else (0, 0, 0, (h.2.2.2 : Int))

theorem byte_at (s : ByteArray) (i : Nat) (h : i < s.size) (c : Nat) : (bt s (i : Int) = (c : Int)) ↔ (bl s)[i]? = some c := by
  rw [bl_get s i h]
  have := bt_range s (i : Int)
  constructor
  · intro e; rw [e, Int.toNat_natCast]
  · intro e
    have := Option.some.inj e
    omega

theorem getA_at (s : ByteArray) (p : Nat) (h : p ≤ s.size) : getA s (p : Int) = res p (getL 0 0 ((bl s).drop p)) := by
  unfold getA; rw [if_neg (by omega), Int.toNat_natCast]
theorem res_ok (p : Nat) (r : Nat × Nat × Nat) (h : r.2.2 = 0) : res p r = ((r.1 : Int), ((p + r.2.1 : Nat) : Int), 0) := by unfold res; rw [if_pos h]
theorem res_bad (p : Nat) (r : Nat × Nat × Nat) (h : r.2.2 ≠ 0) : res p r = (0, 0, (r.2.2 : Int)) := by unfold res; rw [if_neg h]

theorem head_f (s : ByteArray) (p : Nat) (hs : s.size ≤ 1000000) (hp : p ≤ s.size) (k : Nat) (hk : 20 ≤ k) :
    segment_head.f k s (p : Int) = some (headR p (headL ((bl s).drop p))) := by
  obtain ⟨k, rfl⟩ : ∃ m, k = m + 1 + 1 + 1 := ⟨k - 3, by omega⟩
  have hlen : ((bl s).drop p).length = s.size - p := by rw [List.length_drop, bl_length]
  have w0 : wrap64 ((p : Int) + 0) = ((p : Nat) : Int) := by unfold wrap64; omega
  have w1 : wrap64 ((p : Int) + 1) = ((p + 1 : Nat) : Int) := by unfold wrap64; omega
  have w2 : wrap64 ((p : Int) + 2) = ((p + 2 : Nat) : Int) := by unfold wrap64; omega
  have v1 : wrap64 (0 + 1) = 1 := by unfold wrap64; omega
  have v2 : wrap64 (1 + 1) = 2 := by unfold wrap64; omega
  unfold segment_head.f headL
  rw [segment_head.l0, if_pos (by decide), w0]
  by_cases c0 : s.size - p = 0
  · rw [if_pos (show ((p : Nat) : Int) ≥ (s.size : Int) by omega), if_pos (show ((bl s).drop p).length = 0 by omega)]; rfl
  rw [if_neg (show ¬ (((p : Nat) : Int) ≥ (s.size : Int)) by omega), if_pos (show (0 : Int) ≤ ((p : Nat) : Int) by omega), if_pos (show ((p : Nat) : Int) < (s.size : Int) by omega), if_pos (by decide), magic_bt0, if_neg (show ¬ (((bl s).drop p).length = 0) by omega)]
  have b0 := byte_at s p (by omega) 83
  have g0 : ((bl s).drop p)[0]? = (bl s)[p]? := by rw [List.getElem?_drop]; rfl
  by_cases c1 : (bl s)[p]? = some 83
  case neg =>
    rw [if_neg (show ¬ (bt s ((p : Nat) : Int) = 83) from fun e => c1 (b0.1 e)), if_pos (show ((bl s).drop p)[0]? ≠ some 83 by rw [g0]; exact c1)]; rfl
  rw [if_pos (show bt s ((p : Nat) : Int) = 83 from b0.2 c1), if_neg (show ¬ (((bl s).drop p)[0]? ≠ some 83) by rw [g0]; exact fun h => h c1), v1, segment_head.l0, if_pos (by decide), w1]
  by_cases c2 : s.size - p = 1
  · rw [if_pos (show ((p + 1 : Nat) : Int) ≥ (s.size : Int) by omega), if_pos (show ((bl s).drop p).length = 1 by omega)]; rfl
  rw [if_neg (show ¬ (((p + 1 : Nat) : Int) ≥ (s.size : Int)) by omega), if_pos (show (0 : Int) ≤ ((p + 1 : Nat) : Int) by omega), if_pos (show ((p + 1 : Nat) : Int) < (s.size : Int) by omega), if_pos (by decide), magic_bt1, if_neg (show ¬ (((bl s).drop p).length = 1) by omega)]
  have b1 := byte_at s (p + 1) (by omega) 103
  have g1 : ((bl s).drop p)[1]? = (bl s)[p + 1]? := by rw [List.getElem?_drop]
  by_cases c3 : (bl s)[p + 1]? = some 103
  case neg =>
    rw [if_neg (show ¬ (bt s ((p + 1 : Nat) : Int) = 103) from fun e => c3 (b1.1 e)), if_pos (show ((bl s).drop p)[1]? ≠ some 103 by rw [g1]; exact c3)]; rfl
  rw [if_pos (show bt s ((p + 1 : Nat) : Int) = 103 from b1.2 c3), if_neg (show ¬ (((bl s).drop p)[1]? ≠ some 103) by rw [g1]; exact fun h => h c3), v2, segment_head.l0, if_neg (by decide), w2,
    get_f s _ (by omega) k (by omega), getA_at s (p + 2) (by omega), List.drop_drop, Option.bind_some]
  by_cases c4 : (getL 0 0 ((bl s).drop (p + 2))).2.2 ≠ 0
  · rw [res_bad _ _ c4, if_neg (show ¬ ((((getL 0 0 ((bl s).drop (p + 2))).2.2 : Nat) : Int) = 0) by omega), if_pos c4]
    unfold headR
    rw [if_neg c4]
  have h4 : (getL 0 0 ((bl s).drop (p + 2))).2.2 = 0 := Classical.not_not.1 c4
  obtain ⟨_, _, a3, _, _⟩ := get_ok ((bl s).drop (p + 2)) (fun b hb => bl_lt s b (List.mem_of_mem_drop hb)) h4
  rw [List.length_drop, bl_length] at a3
  rw [res_ok _ _ h4, if_pos rfl, if_neg c4, get_f s _ (by omega) k (by omega), getA_at s (p + 2 + (getL 0 0 ((bl s).drop (p + 2))).2.1) (by omega), List.drop_drop, Option.bind_some, show p + (2 + (getL 0 0 ((bl s).drop (p + 2))).2.1) = p + 2 + (getL 0 0 ((bl s).drop (p + 2))).2.1 from by omega]
  generalize getL 0 0 ((bl s).drop (p + 2)) = r at h4 a3 ⊢
  by_cases c5 : (getL 0 0 ((bl s).drop (p + 2 + r.2.1))).2.2 ≠ 0
  · rw [res_bad _ _ c5, if_neg (show ¬ ((((getL 0 0 ((bl s).drop (p + 2 + r.2.1))).2.2 : Nat) : Int) = 0) by omega), if_pos c5]
    unfold headR
    rw [if_neg c5]
  have h5 : (getL 0 0 ((bl s).drop (p + 2 + r.2.1))).2.2 = 0 := Classical.not_not.1 c5
  rw [res_ok _ _ h5, if_pos rfl, if_neg c5]
  generalize getL 0 0 ((bl s).drop (p + 2 + r.2.1)) = q at h5 ⊢
  by_cases c6 : 4096 < q.1
  · rw [if_pos (show ((q.1 : Nat) : Int) > 4096 by omega), if_pos c6]; rfl
  · rw [if_neg (show ¬ (((q.1 : Nat) : Int) > 4096) by omega), if_neg c6]
    have w3 : wrap64 ((q.1 : Nat) : Int) = ((q.1 : Nat) : Int) := by unfold wrap64; omega
    rw [w3]
    unfold headR
    rw [if_pos rfl]
    simp only
    congr 4
    omega

/-- What is told of a segment at a place. -/
def openA (p : Nat) (r : Nat × List Nat × Nat × Nat) : Int × ByteArray × Int × Int :=
  if r.2.2.2 = 0 then ((r.1 : Int), strB r.2.1, ((p + r.2.2.1 : Nat) : Int), 0) else (0, (⟨#[]⟩ : ByteArray), 0, (r.2.2.2 : Int))
def openR (s : ByteArray) (at_ : Int) : Int × ByteArray × Int × Int :=
  if at_ < 0 ∨ (s.size : Int) < at_ then (0, (⟨#[]⟩ : ByteArray), 0, 4) else openA at_.toNat (openL ((bl s).drop at_.toNat))

theorem extract_strB (s : ByteArray) (i j : Nat) : s.extract i j = strB (((bl s).drop i).take (j - i)) := by
  rw [← bl_extract, strB_bl]

theorem open_j0 (s : ByteArray) (p : Nat) (hs : s.size ≤ 1000000) (hp : p ≤ s.size) (k : Nat) (hk : 30 ≤ k) :
    segment_Open.j0 k s (p : Int) false = some (openA p (openL ((bl s).drop p))) := by
  obtain ⟨k, rfl⟩ : ∃ m, k = m + 1 := ⟨k - 1, by omega⟩
  have hlen : ((bl s).drop p).length = s.size - p := by rw [List.length_drop, bl_length]
  have hok := headL_ok ((bl s).drop p) (fun b hb => bl_lt s b (List.mem_of_mem_drop hb))
  rw [segment_Open.j0, if_neg (by decide), head_f s p hs hp k (by omega), Option.bind_some]
  unfold openL
  generalize hh : headL ((bl s).drop p) = h at hok ⊢
  clear hh
  by_cases c0 : h.2.2.2 ≠ 0
  · rw [show headR p h = (0, 0, 0, (h.2.2.2 : Int)) from by unfold headR; rw [if_neg c0], if_neg (show ¬ (((h.2.2.2 : Nat) : Int) = 0) by omega), if_pos c0]
    unfold openA
    rw [if_neg c0]
  have h0 : h.2.2.2 = 0 := Classical.not_not.1 c0
  obtain ⟨a1, a2, a3, a4, a5⟩ := hok h0
  rw [hlen] at a3
  rw [show headR p h = ((h.1 : Int), (h.2.1 : Int), ((p + h.2.2.1 : Nat) : Int), 0) from by unfold headR; rw [if_pos h0], if_pos rfl, if_neg c0]
  have z1 : (p : Int) + (h.2.2.1 : Int) + (h.2.1 : Int) + 4 ≤ 2000000 := by omega
  have w1 := Aside0.mk (show wrap64 ((wrap64 ((s.size : Int) - ((p + h.2.2.1 : Nat) : Int))) - 4) = (s.size : Int) - ((p + h.2.2.1 : Nat) : Int) - 4 by
    rw [wz ((s.size : Int) - ((p + h.2.2.1 : Nat) : Int)) (by omega) (by omega), wz _ (by omega) (by omega)])
  have w2 := Aside0.mk (show wrap64 (((p + h.2.2.1 : Nat) : Int) + (h.2.1 : Int)) = ((p + h.2.2.1 + h.2.1 : Nat) : Int) by rw [wz _ (by omega) (by omega)]; omega)
  have w3 := Aside0.mk (show wrap64 (((p + h.2.2.1 + h.2.1 : Nat) : Int) + 4) = ((p + h.2.2.1 + h.2.1 + 4 : Nat) : Int) by rw [wz _ (by omega) (by omega)]; omega)
  simp only [w1.out, w2.out, w3.out]
  clear w1 w2 w3
  by_cases c1 : ((bl s).drop p).length < h.2.2.1 + h.2.1 + 4
  · rw [if_pos (show (h.2.1 : Int) > (s.size : Int) - ((p + h.2.2.1 : Nat) : Int) - 4 by omega), if_pos c1]; rfl
  have e1 : bl (s.extract p (p + h.2.2.1 + h.2.1)) = ((bl s).drop p).take (h.2.2.1 + h.2.1) := by rw [bl_extract]; congr 1; omega
  have e2 : s.extract (p + h.2.2.1 + h.2.1) (p + h.2.2.1 + h.2.1 + 4) = strB ((((bl s).drop p).drop (h.2.2.1 + h.2.1)).take 4) := by
    rw [extract_strB, List.drop_drop, show p + h.2.2.1 + h.2.1 + 4 - (p + h.2.2.1 + h.2.1) = 4 from by omega, Nat.add_assoc p]
  have e3 : s.extract (p + h.2.2.1) (p + h.2.2.1 + h.2.1) = strB ((((bl s).drop p).drop h.2.2.1).take h.2.1) := by
    rw [extract_strB, List.drop_drop, show p + h.2.2.1 + h.2.1 - (p + h.2.2.1) = h.2.1 from by omega]
  have ho := of_f [s.extract p (p + h.2.2.1 + h.2.1)] (by simp) (by intro t ht; simp only [List.mem_singleton] at ht; subst ht; rw [ByteArray.size_extract]; omega) k (by simp only [List.length_cons, List.length_nil]; omega)
  rw [show allB [s.extract p (p + h.2.2.1 + h.2.1)] = bl (s.extract p (p + h.2.2.1 + h.2.1)) from by simp only [allB, List.flatMap_cons, List.flatMap_nil, List.append_nil], e1] at ho
  rw [if_neg (show ¬ ((h.2.1 : Int) > (s.size : Int) - ((p + h.2.2.1 : Nat) : Int) - 4) by omega), if_neg c1, if_pos (by omega), if_pos (by omega), if_pos (by omega), if_pos (by omega), if_pos (by omega), if_pos (by omega)]
  simp only [Int.toNat_natCast]
  rw [ho, Option.bind_some, four_f _ (sumN_lt _), Option.bind_some, e2]
  have hdl : ∀ b ∈ (((bl s).drop p).drop (h.2.2.1 + h.2.1)).take 4, b < 256 := fun b hb => bl_lt s b (List.mem_of_mem_drop (List.mem_of_mem_drop (List.mem_of_mem_take hb)))
  by_cases c2 : (((bl s).drop p).drop (h.2.2.1 + h.2.1)).take 4 ≠ four (sumN (((bl s).drop p).take (h.2.2.1 + h.2.1)))
  · rw [if_neg, if_pos c2]
    · rfl
    · intro e
      apply c2
      rw [toList_eq] at e
      have := congrArg bl e
      rwa [bl_strB _ hdl, bl_strB _ (four_lt _)] at this
  · rw [if_neg c2, if_pos (by rw [Classical.not_not.1 c2]), if_pos (by omega), if_pos (by omega), e3]
    unfold openA
    rw [if_pos rfl]
    simp only
    congr 4
    omega

theorem open_f (s : ByteArray) (at_ : Int) (hs : s.size ≤ 1000000) (k : Nat) (hk : 30 ≤ k) : segment_Open.f k s at_ = some (openR s at_) := by
  unfold segment_Open.f openR
  by_cases h0 : at_ < 0
  · obtain ⟨k, rfl⟩ : ∃ m, k = m + 1 := ⟨k - 1, by omega⟩
    rw [if_pos h0, if_pos (Or.inl h0), segment_Open.j0, if_pos rfl]
  · rw [if_neg h0]
    by_cases h1 : (s.size : Int) < at_
    · obtain ⟨k, rfl⟩ : ∃ m, k = m + 1 := ⟨k - 1, by omega⟩
      rw [if_pos (Or.inr h1), segment_Open.j0, if_pos (by simpa using h1)]
    · obtain ⟨p, rfl⟩ : ∃ p : Nat, at_ = (p : Int) := ⟨at_.toNat, by omega⟩
      rw [if_neg (by omega), show decide ((p : Int) > (s.size : Int)) = false from decide_eq_false (by omega), Int.toNat_natCast]
      exact open_j0 s p hs (by omega) k hk

end Go.Proofs.Ythlllcmffgdcmaa.SegLinkQSegmentOpens

namespace Go.Proofs.Ythlllcmffgdcmaa.RefGetQSegmentOpens
open Go.RowKit Go.Proofs.Ythlllcmffgdcmaa.QSegmentOpens Go.Proofs.YthlllcmffgdcmaaW.PrintWords Go.Proofs.YthlllcmffgdcmaaW.PrintLast Go.Proofs.Ythlllcmffgdcmaa.LebPlain Go.Proofs.Ythlllcmffgdcmaa.LebWords

/-- The bytes from a place on are worth no more than those from an earlier one. -/
theorem val_le (s : ByteArray) (p : Nat) : ∀ j, (∀ t, t < j → ∃ b, bt s ((p + t : Nat) : Int) = (b : Nat) ∧ 128 ≤ b ∧ p + t < s.size) → valL ((bl s).drop (p + j)) ≤ valL ((bl s).drop p) := by
  intro j
  induction j with
  | zero => intro _; exact Nat.le_refl _
  | succ j ih =>
    intro h
    obtain ⟨b, hb, h128, hlt⟩ := h j (by omega)
    obtain ⟨b', hb', _, hd⟩ := bl_drop s (p + j) hlt
    have : b' = b := by omega
    subst this
    have h1 := ih fun t ht => h t (by omega)
    rw [hd, valL, if_pos h128] at h1
    rw [show p + (j + 1) = p + j + 1 from by omega]
    omega

theorem hor_l1 (s : ByteArray) (p K : Nat) (hs : s.size ≤ 140737488351232) (hp : p ≤ s.size) (hv : valL ((bl s).drop p) < 18446744073709551616) : ∀ (j k : Nat),
    (∀ t, t < j → ∃ b, bt s ((p + t : Nat) : Int) = (b : Nat) ∧ 128 ≤ b ∧ p + t < s.size) → j < k → 
    shunterref01_Get.l1 k s (p : Int) (K : Int) (valL ((bl s).drop (p + j)) : Int) ((p : Int) + j - 1) = some ((valL ((bl s).drop p) : Int), wrap64 ((K : Int) + 1), 0) := by
  intro j
  induction j with
  | zero =>
    intro k _ hk
    obtain ⟨k, rfl⟩ : ∃ m, k = m + 1 := ⟨k - 1, by omega⟩
    simp only [shunterref01_Get.l1]
    rw [if_neg (show ¬ ((p : Int) + ((0 : Nat) : Int) - 1 ≥ (p : Int)) by omega)]; rfl
  | succ j ih =>
    intro k h hk
    obtain ⟨k, rfl⟩ : ∃ m, k = m + 1 := ⟨k - 1, by omega⟩
    obtain ⟨b, hb, h128, hlt⟩ := h j (by omega)
    obtain ⟨b', hb', h256, hd⟩ := bl_drop s (p + j) hlt
    have : b' = b := by omega
    subst this
    have hle := val_le s p j fun t ht => h t (by omega)
    have hx : (p : Int) + ((j + 1 : Nat) : Int) - 1 = ((p + j : Nat) : Int) := by omega
    have hw : wrap64 (((p + j : Nat) : Int) - 1) = (p : Int) + (j : Int) - 1 := by unfold wrap64; omega
    rw [hd, valL, if_pos h128] at hle
    have hval : IntKind.u64.wrap ((IntKind.u64.wrap (128 * (valL ((bl s).drop (p + (j + 1))) : Int))) + (IntKind.u64.wrap (Int.tmod (b' : Int) 128))) = (valL ((bl s).drop (p + j)) : Int) := by
      rw [hd, valL, if_pos h128, Int.tmod_eq_emod_of_nonneg (by omega)]
      simp only [IntKind.wrap_u64]
      rw [show p + (j + 1) = p + j + 1 from by omega]
      omega
    rw [hx]
    simp only [shunterref01_Get.l1]
    rw [if_pos (show ((p + j : Nat) : Int) ≥ (p : Int) by omega), if_pos (show 0 ≤ ((p + j : Nat) : Int) by omega), if_pos (show ((p + j : Nat) : Int) < (s.size : Int) by omega),
      hb, hval, hw]
    exact ih k (fun t ht => h t (by omega)) (by omega)

theorem ref_l0 (s : ByteArray) (p : Nat) (hs : s.size ≤ 140737488351232) (hp : p ≤ s.size) : ∀ (d k j acc : Nat), j + d = 10 → d + 20 ≤ k → p + j ≤ s.size →
    (∀ t, t < j → ∃ b, bt s ((p + t : Nat) : Int) = (b : Nat) ∧ 128 ≤ b ∧ p + t < s.size) → getL 0 0 ((bl s).drop p) = getL j acc ((bl s).drop (p + j)) →
    shunterref01_Get.l0 k s (p : Int) ((p + j : Nat) : Int) = some (res p (getL 0 0 ((bl s).drop p))) := by
  intro d
  induction d with
  | zero =>
    intro k j acc hj hk hpj _ hg
    obtain ⟨k, rfl⟩ : ∃ m, k = m + 1 + 1 := ⟨k - 2, by omega⟩
    obtain rfl : j = 10 := by omega
    have w1 : wrap64 ((p : Int) + 10) = ((p + 10 : Nat) : Int) := by unfold wrap64; omega
    rw [hg, getL_full (by omega)]
    simp only [shunterref01_Get.l0, w1]
    rw [if_neg (show ¬ (((p + 10 : Nat) : Int) < ((p + 10 : Nat) : Int)) by omega), ite_self]
    simp only [shunterref01_Get.j2, w1]
    rw [if_pos trivial]; rfl
  | succ d ih =>
    intro k j acc hj hk hpj hall hg
    obtain ⟨k, rfl⟩ : ∃ m, k = m + 1 + 1 + 1 := ⟨k - 3, by omega⟩
    have w1 : wrap64 ((p : Int) + 10) = ((p + 10 : Nat) : Int) := by unfold wrap64; omega
    have w2 : wrap64 (((p + j : Nat) : Int) + 1) = ((p + (j + 1) : Nat) : Int) := by unfold wrap64; omega
    have w3 : wrap64 ((p : Int) + 9) = ((p + 9 : Nat) : Int) := by unfold wrap64; omega
    have n10 : ¬ (((p + j : Nat) : Int) = ((p + 10 : Nat) : Int)) := by omega
    by_cases hend : p + j < s.size
    · obtain ⟨b, hb, h256, hd⟩ := bl_drop s (p + j) hend
      have e1 : ((p + j : Nat) : Int) < (s.size : Int) := by omega
      have e2 : ((p + j : Nat) : Int) < ((p + 10 : Nat) : Int) := by omega
      have e3 : 0 ≤ ((p + j : Nat) : Int) := by omega
      have nsz : ¬ (((p + j : Nat) : Int) = (s.size : Int)) := by omega
      rw [hd, getL, if_neg (show ¬ 10 ≤ j by omega)] at hg
      rw [shunterref01_Get.l0, w1, w2, if_pos e1, if_pos e2, if_pos e3, hb]
      by_cases h128 : 128 ≤ b
      · rw [if_pos h128] at hg
        rw [if_pos (show (b : Int) > 127 by omega)]
        refine ih (k + 1 + 1) (j + 1) _ (by omega) (by omega) (by omega) (fun t ht => ?_) hg
        rcases Nat.lt_or_ge t j with h | h
        · exact hall t h
        · obtain rfl : t = j := by omega
          exact ⟨b, hb, h128, hend⟩
      · rw [if_neg h128] at hg
        rw [if_neg (show ¬ ((b : Int) > 127) by omega), shunterref01_Get.j2, w1, w3, if_neg n10, if_neg nsz, if_pos e3, if_pos e1, hb]
        by_cases hbad : (b = 0 ∧ 0 < j) ∨ (j = 9 ∧ 1 < b)
        · rw [if_pos hbad] at hg
          rw [hg]
          by_cases hb0 : b = 0
          · rw [if_pos (show (b : Int) = 0 by omega), if_pos (show ((p + j : Nat) : Int) > (p : Int) by omega), shunterref01_Get.j3, if_pos rfl]; rfl
          · rw [if_neg (show ¬ ((b : Int) = 0) by omega), if_pos (show ((p + j : Nat) : Int) = ((p + 9 : Nat) : Int) by omega), shunterref01_Get.j3,
              if_pos (show decide ((b : Int) > 1) = true from decide_eq_true (by omega))]; rfl
        · rw [if_neg hbad] at hg
          have hv := getL_val _ _ _ _ _ hg
          simp only [Nat.zero_add, Nat.pow_zero, Nat.mul_one] at hv
          have hb0 := getL_back0 _ _ _ (fun x hx => bl_lt s x (List.mem_of_mem_drop hx)) hg
          rw [hg, hv]
          rw [hv] at hb0
          have hgoal : ∀ q, shunterref01_Get.j3 (k + 1) s (p : Int) ((p + j : Nat) : Int) false = q →
              q = some (res p (valL ((bl s).drop p), j + 1, 0)) := by
            intro q hq
            rw [← hq, shunterref01_Get.j3, if_neg (show ¬ (false = true) by decide)]
            obtain ⟨k, rfl⟩ : ∃ m, k = m + 1 := ⟨k - 1, by omega⟩
            have w4 : wrap64 (((p + j : Nat) : Int) - 1) = (p : Int) + (j : Int) - 1 := by unfold wrap64; omega
            have hlast : IntKind.u64.wrap ((IntKind.u64.wrap (128 * 0)) + (IntKind.u64.wrap (Int.tmod (b : Int) 128))) = (valL ((bl s).drop (p + j)) : Int) := by
              rw [hd, valL, if_neg h128, Int.tmod_eq_emod_of_nonneg (by omega)]
              simp only [IntKind.wrap_u64]
              omega
            rw [shunterref01_Get.l1, if_pos (show ((p + j : Nat) : Int) ≥ (p : Int) by omega), if_pos e3, if_pos e1, hb, hlast, w4,
              hor_l1 s p (p + j) hs hp hb0.1 j k hall (by omega), w2]
            simp [res]
          by_cases hz : b = 0
          · rw [if_pos (show (b : Int) = 0 by omega), if_neg (show ¬ (((p + j : Nat) : Int) > (p : Int)) by omega), if_neg (show ¬ (((p + j : Nat) : Int) = ((p + 9 : Nat) : Int)) by omega)]
            exact hgoal _ rfl
          · rw [if_neg (show ¬ ((b : Int) = 0) by omega)]
            by_cases h9 : j = 9
            · rw [if_pos (show ((p + j : Nat) : Int) = ((p + 9 : Nat) : Int) by omega), show decide ((b : Int) > 1) = false from decide_eq_false (by omega)]
              exact hgoal _ rfl
            · rw [if_neg (show ¬ (((p + j : Nat) : Int) = ((p + 9 : Nat) : Int)) by omega)]
              exact hgoal _ rfl
    · have hsz : ((p + j : Nat) : Int) = (s.size : Int) := by omega
      rw [List.drop_eq_nil_of_le (i := p + j) (by rw [bl_length]; omega), getL, if_neg (show ¬ 10 ≤ j by omega)] at hg
      rw [hg, shunterref01_Get.l0, if_neg (show ¬ (((p + j : Nat) : Int) < (s.size : Int)) by omega), shunterref01_Get.j2, w1, if_neg n10, if_pos hsz]; rfl

theorem ref_f (s : ByteArray) (at_ : Int) (hs : s.size ≤ 140737488351232) (k : Nat) (hk : 40 ≤ k) : shunterref01_Get.f k s at_ = some (getA s at_) := by
  obtain ⟨k, rfl⟩ : ∃ m, k = m + 1 := ⟨k - 1, by omega⟩
  unfold shunterref01_Get.f getA
  by_cases h0 : at_ < 0
  · rw [if_pos h0, if_pos (Or.inl h0)]; simp only [shunterref01_Get.j0, if_true]
  · rw [if_neg h0]
    by_cases h1 : (s.size : Int) < at_
    · rw [if_pos (Or.inr h1)]; simp only [shunterref01_Get.j0]; rw [if_pos (by simpa using h1)]
    · rw [if_neg (by omega)]; simp only [shunterref01_Get.j0]; rw [if_neg (by simpa using h1)]
      have := ref_l0 s at_.toNat hs (by omega) 10 k 0 0 (by omega) (by omega) (by omega) (fun t ht => by omega) rfl
      rw [show ((at_.toNat : Nat) : Int) = at_ from by omega] at this
      rw [show ((at_.toNat + 0 : Nat) : Int) = at_ from by omega] at this
      exact this

end Go.Proofs.Ythlllcmffgdcmaa.RefGetQSegmentOpens

namespace Go.Proofs.Ythlllcmffgdcmaa.Pure
open Go.RowKit Go.Proofs.Ythlllcmffgdcmaa.QSegmentOpens Go.Proofs.YthlllcmffgdcmaaW.PrintWords Go.Proofs.YthlllcmffgdcmaaW.PrintLast Go.Proofs.Ythlllcmffgdcmaa.LebPlain Go.Proofs.Ythlllcmffgdcmaa.LebWords Go.Proofs.Ythlllcmffgdcmaa.RecPlain Go.Proofs.Ythlllcmffgdcmaa.CrcPlain Go.Proofs.Ythlllcmffgdcmaa.CrcLink Go.Proofs.Ythlllcmffgdcmaa.SegPlain Go.Proofs.Ythlllcmffgdcmaa.LebQSegmentOpens Go.Proofs.Ythlllcmffgdcmaa.CrcSumQSegmentOpens Go.Proofs.Ythlllcmffgdcmaa.SegLinkQSegmentOpens Go.Proofs.Ythlllcmffgdcmaa.RefGetQSegmentOpens

theorem refPutO_f (n : Nat) : ∀ k, n < 18446744073709551616 → (putN n).length < k → shunterref01_Put.f k (n : Int) = some (putS n) := by
  induction n using putN.induct with
  | case1 n h =>
    intro k _ hk
    obtain ⟨k, rfl⟩ : ∃ m, k = m + 1 := ⟨k - 1, by omega⟩
    rw [shunterref01_Put.f, if_pos (show (n : Int) < 128 by omega), show (n : Int) % 256 = (n : Int) from by omega]
    unfold putS; rw [putN_small h]; rfl
  | case2 n h ih =>
    intro k hn hk
    obtain ⟨k, rfl⟩ : ∃ m, k = m + 1 := ⟨k - 1, by omega⟩
    rw [putN_big h] at hk
    simp only [List.length_cons] at hk
    have e1 : IntKind.u64.wrap (Int.tdiv (n : Int) 128) = ((n / 128 : Nat) : Int) := by
      rw [Int.tdiv_eq_ediv_of_nonneg (by omega), IntKind.wrap_u64]; omega
    have e2 : (((Int.tmod (n : Int) 128) % 256) + 128) % 256 = ((n % 128 + 128 : Nat) : Int) := by
      rw [Int.tmod_eq_emod_of_nonneg (by omega)]; omega
    rw [shunterref01_Put.f, if_neg (show ¬ (n : Int) < 128 by omega), e1, e2, ih k (by omega) (by omega)]
    have hl := putN_len (n / 128) (by omega)
    have hs : (strOfNums [((n % 128 + 128 : Nat) : Int)]).size = 1 := by rw [strOfNums_size]; rfl
    simp only [Option.bind_some]
    rw [if_pos (by rw [hs, putS_size]; omega)]
    congr 1
    apply bl_inj
    have h1 := bl_nums [n % 128 + 128] (fun b hb => by simp only [List.mem_singleton] at hb; omega)
    simp only [List.map_cons, List.map_nil, Int.ofNat_eq_natCast] at h1
    rw [bl_append, bl_putS, bl_putS, putN_big h, h1]; rfl

/-- The lowest bytes of a number. -/
def low : Nat → Nat → List Nat
  | 0, _ => []
  | d + 1, n => n % 256 :: low d (n / 256)
theorem low4 (n : Nat) : low 4 n = four n := by
  simp only [low, four, Nat.div_div_eq_div_mul]

theorem refframe_l0 (d : Nat) : ∀ (j k n : Nat) (s : ByteArray), j + d = 4 → n < 4294967296 → d < k → s.size + d ≤ 10000000 →
    ∃ t, shunterref05_Frame.l0 k s (n : Int) (j : Int) = some t ∧ bl t = bl s ++ low d n := by
  induction d with
  | zero =>
    intro j k n s hj hn hk _
    obtain ⟨k, rfl⟩ : ∃ m, k = m + 1 := ⟨k - 1, by omega⟩
    rw [shunterref05_Frame.l0, if_neg (by omega)]
    exact ⟨s, rfl, by simp [low]⟩
  | succ d ih =>
    intro j k n s hj hn hk hz
    obtain ⟨k, rfl⟩ : ∃ m, k = m + 1 := ⟨k - 1, by omega⟩
    have e1 : (Int.tmod (n : Int) 256) % 256 = ((n % 256 : Nat) : Int) := by rw [Int.tmod_eq_emod_of_nonneg (by omega)]; omega
    have e2 : (Int.tdiv (n : Int) 256) % 4294967296 = ((n / 256 : Nat) : Int) := by rw [Int.tdiv_eq_ediv_of_nonneg (by omega)]; omega
    have e3 : wrap64 ((j : Int) + 1) = ((j + 1 : Nat) : Int) := by unfold wrap64; omega
    have hb := bl_nums [n % 256] (fun b hb => by simp only [List.mem_singleton] at hb; omega)
    simp only [List.map_cons, List.map_nil, Int.ofNat_eq_natCast] at hb
    have hs : (strOfNums [((n % 256 : Nat) : Int)]).size = 1 := by rw [strOfNums_size]; rfl
    have hs2 : (s ++ strOfNums [((n % 256 : Nat) : Int)]).size = s.size + 1 := by rw [ByteArray.size_append, hs]
    have hc : s.size + (strOfNums [((n % 256 : Nat) : Int)]).size ≤ 9223372036854775807 := by rw [hs]; clear e3; omega
    rw [shunterref05_Frame.l0, if_pos (show (j : Int) < 4 by clear e3; omega), e1, Option.bind_some, if_pos hc, e2, e3]
    clear e3
    obtain ⟨t, h1, h2⟩ := ih (j + 1) k (n / 256) (s ++ strOfNums [((n % 256 : Nat) : Int)]) (by omega) (by omega) (by omega) (by omega)
    exact ⟨t, h1, by rw [h2, bl_append, hb, low, List.append_assoc]; rfl⟩

theorem refframe_f (seq : Nat) (hs : seq < 18446744073709551616) (body : ByteArray) (h : body.size ≤ 5000) (k : Nat) (hk : 60000 ≤ k) :
    ∃ t, shunterref05_Frame.f k (seq : Int) body = some t ∧ bl t = frameL seq (bl body) := by
  have p1 := putN_len seq hs
  have p2 := putN_len body.size (by omega)
  have z1 : ((⟨#[83, 103]⟩ : ByteArray) ++ putS seq).size = 2 + (putN seq).length := by rw [ByteArray.size_append, magic_size, putS_size]
  have z2 : (((⟨#[83, 103]⟩ : ByteArray) ++ putS seq) ++ putS body.size).size = 2 + (putN seq).length + (putN body.size).length := by rw [ByteArray.size_append, z1, putS_size]
  have z3 : ((((⟨#[83, 103]⟩ : ByteArray) ++ putS seq) ++ putS body.size) ++ body).size = 2 + (putN seq).length + (putN body.size).length + body.size := by rw [ByteArray.size_append, z2]
  have hb : bl ((((⟨#[83, 103]⟩ : ByteArray) ++ putS seq) ++ putS body.size) ++ body) = headOf seq (bl body).length ++ bl body := by rw [bl_append, head_bl, bl_length]
  have hr := ref_sum ((((⟨#[83, 103]⟩ : ByteArray) ++ putS seq) ++ putS body.size) ++ body) (by omega) k (by omega)
  rw [hb] at hr
  obtain ⟨t, h1, h2⟩ := refframe_l0 4 0 k (sumN (headOf seq (bl body).length ++ bl body)) ((((⟨#[83, 103]⟩ : ByteArray) ++ putS seq) ++ putS body.size) ++ body) (by omega) (sumN_lt _) (by omega) (by omega)
  refine ⟨t, ?_, by rw [h2, hb, low4]; rfl⟩
  unfold shunterref05_Frame.f
  rw [refPutO_f seq k hs (by omega), Option.bind_some, if_pos (by rw [putS_size]; omega), refPutO_f body.size k (by omega) (by omega), Option.bind_some, if_pos (by rw [z1, putS_size]; omega), if_pos (by rw [z2]; omega), hr, Option.bind_some]
  exact h1

theorem byte_ext (s : ByteArray) (i : Nat) (h : i < s.size) : bl (s.extract i (i + 1)) = [((bl s)[i]?).getD 0] := by
  have hl : i < (bl s).length := by rw [bl_length]; exact h
  rw [bl_extract, List.drop_eq_getElem_cons hl, show i + 1 - i = 1 from by omega, List.getElem?_eq_getElem hl]; rfl

theorem refopen_l0 (s : ByteArray) (p : Nat) (hs : s.size ≤ 200) (hp : p ≤ s.size) (k : Nat) (hk : 60010 ≤ k) :
    shunterref05_Open.l0 k s (p : Int) 0 = some (openA p (openL ((bl s).drop p))) := by
  obtain ⟨k, rfl⟩ : ∃ m, k = m + 1 + 1 + 1 := ⟨k - 3, by omega⟩
  have hlen : ((bl s).drop p).length = s.size - p := by rw [List.length_drop, bl_length]
  have w0 := Aside0.mk (show wrap64 ((p : Int) + 0) = ((p : Nat) : Int) by rw [wz _ (by omega) (by omega)]; omega)
  have w1 := Aside0.mk (show wrap64 ((p : Int) + 1) = ((p + 1 : Nat) : Int) by rw [wz _ (by omega) (by omega)]; omega)
  have w2 := Aside0.mk (show wrap64 ((p : Int) + 2) = ((p + 2 : Nat) : Int) by rw [wz _ (by omega) (by omega)]; omega)
  have w3 := Aside0.mk (show wrap64 (((p + 1 : Nat) : Int) + 1) = ((p + 2 : Nat) : Int) by rw [wz _ (by omega) (by omega)]; omega)
  have v1 := Aside0.mk (show wrap64 (0 + 1) = 1 by rw [wz _ (by omega) (by omega)]; omega)
  have v2 := Aside0.mk (show wrap64 (1 + 1) = 2 by rw [wz _ (by omega) (by omega)]; omega)
  have m0 : (⟨#[83, 103]⟩ : ByteArray).extract (0 : Int).toNat (1 : Int).toNat = strB [83] := by apply bl_inj; rw [bl_extract, magic_bl, bl_strB _ (by decide)]; rfl
  have m1 : (⟨#[83, 103]⟩ : ByteArray).extract (1 : Int).toNat (2 : Int).toNat = strB [103] := by apply bl_inj; rw [bl_extract, magic_bl, bl_strB _ (by decide)]; rfl
  unfold openL
  generalize hh : headL ((bl s).drop p) = h
  have hok := headL_ok ((bl s).drop p) (fun b hb => bl_lt s b (List.mem_of_mem_drop hb))
  rw [hh] at hok
  unfold headL at hh
  rw [shunterref05_Open.l0, if_pos (by decide), w0.out]
  by_cases c0 : s.size - p = 0
  · rw [if_pos (show ((p : Nat) : Int) = (s.size : Int) by omega)]
    rw [if_pos (show ((bl s).drop p).length = 0 by omega)] at hh
    subst hh; rfl
  rw [if_neg (show ¬ (((bl s).drop p).length = 0) by omega)] at hh
  rw [if_neg (show ¬ (((p : Nat) : Int) = (s.size : Int)) by omega), w1.out, if_pos (by omega), if_pos (by omega), if_pos (by omega), v1.out, if_pos (by decide), if_pos (by decide), if_pos (by decide), m0, Int.toNat_natCast, Int.toNat_natCast]
  have g0 : ((bl s).drop p)[0]? = (bl s)[p]? := by rw [List.getElem?_drop]; rfl
  have hpl : p < (bl s).length := by rw [bl_length]; omega
  have q0 : ((s.extract p (p + 1)).toList = (strB [83]).toList) ↔ (bl s)[p]? = some 83 := by
    rw [toList_eq]
    constructor
    · intro e
      have := congrArg bl e
      rw [byte_ext s p (by omega), bl_strB _ (by decide), List.getElem?_eq_getElem hpl] at this
      rw [List.getElem?_eq_getElem hpl]; simpa using this
    · intro e; apply bl_inj; rw [byte_ext s p (by omega), bl_strB _ (by decide), e]; rfl
  by_cases c1 : (bl s)[p]? = some 83
  case neg =>
    rw [if_neg (fun e => c1 (q0.1 e))]
    rw [if_pos (show ((bl s).drop p)[0]? ≠ some 83 by rw [g0]; exact c1)] at hh
    subst hh; rfl
  rw [if_neg (show ¬ (((bl s).drop p)[0]? ≠ some 83) by rw [g0]; exact fun h => h c1)] at hh
  rw [if_pos (q0.2 c1), shunterref05_Open.l0, if_pos (by decide), w1.out]
  by_cases c2 : s.size - p = 1
  · rw [if_pos (show ((p + 1 : Nat) : Int) = (s.size : Int) by omega)]
    rw [if_pos (show ((bl s).drop p).length = 1 by omega)] at hh
    subst hh; rfl
  rw [if_neg (show ¬ (((bl s).drop p).length = 1) by omega)] at hh
  rw [if_neg (show ¬ (((p + 1 : Nat) : Int) = (s.size : Int)) by omega), w3.out, if_pos (by omega), if_pos (by omega), if_pos (by omega), v2.out, if_pos (by decide), if_pos (by decide), if_pos (by decide), m1, Int.toNat_natCast, Int.toNat_natCast]
  have g1 : ((bl s).drop p)[1]? = (bl s)[p + 1]? := by rw [List.getElem?_drop]
  have hpl1 : p + 1 < (bl s).length := by rw [bl_length]; omega
  have q1 : ((s.extract (p + 1) (p + 2)).toList = (strB [103]).toList) ↔ (bl s)[p + 1]? = some 103 := by
    rw [toList_eq]
    constructor
    · intro e
      have := congrArg bl e
      rw [byte_ext s (p + 1) (by omega), bl_strB _ (by decide), List.getElem?_eq_getElem hpl1] at this
      rw [List.getElem?_eq_getElem hpl1]; simpa using this
    · intro e; apply bl_inj; rw [byte_ext s (p + 1) (by omega), bl_strB _ (by decide), e]; rfl
  by_cases c3 : (bl s)[p + 1]? = some 103
  case neg =>
    rw [if_neg (fun e => c3 (q1.1 e))]
    rw [if_pos (show ((bl s).drop p)[1]? ≠ some 103 by rw [g1]; exact c3)] at hh
    subst hh; rfl
  rw [if_neg (show ¬ (((bl s).drop p)[1]? ≠ some 103) by rw [g1]; exact fun h => h c3), List.drop_drop, List.drop_drop] at hh
  rw [if_pos (q1.2 c3), shunterref05_Open.l0, if_neg (by decide), w2.out, ref_f s _ (by omega) k (by omega), getA_at s (p + 2) (by omega), Option.bind_some]
  clear w0 w1 w2 w3 v1 v2 m0 m1 q0 q1 g0 g1 c1 c3 hpl hpl1
  by_cases c4 : (getL 0 0 ((bl s).drop (p + 2))).2.2 ≠ 0
  · rw [res_bad _ _ c4, if_neg (show ¬ ((((getL 0 0 ((bl s).drop (p + 2))).2.2 : Nat) : Int) = 0) by omega)]
    rw [if_pos c4] at hh
    subst hh
    rw [if_pos c4]
    unfold openA
    rw [if_neg c4]
  have h4 : (getL 0 0 ((bl s).drop (p + 2))).2.2 = 0 := Classical.not_not.1 c4
  obtain ⟨_, _, a3, _, _⟩ := get_ok ((bl s).drop (p + 2)) (fun b hb => bl_lt s b (List.mem_of_mem_drop hb)) h4
  rw [List.length_drop, bl_length] at a3
  rw [if_neg c4] at hh
  rw [show p + (2 + (getL 0 0 ((bl s).drop (p + 2))).2.1) = p + 2 + (getL 0 0 ((bl s).drop (p + 2))).2.1 from by omega] at hh
  rw [res_ok _ _ h4, if_pos rfl, ref_f s _ (by omega) k (by omega), getA_at s (p + 2 + (getL 0 0 ((bl s).drop (p + 2))).2.1) (by omega), Option.bind_some]
  generalize getL 0 0 ((bl s).drop (p + 2)) = r at h4 a3 hh ⊢
  by_cases c5 : (getL 0 0 ((bl s).drop (p + 2 + r.2.1))).2.2 ≠ 0
  · rw [res_bad _ _ c5, if_neg (show ¬ ((((getL 0 0 ((bl s).drop (p + 2 + r.2.1))).2.2 : Nat) : Int) = 0) by omega)]
    rw [if_pos c5] at hh
    subst hh
    rw [if_pos c5]
    unfold openA
    rw [if_neg c5]
  have h5 : (getL 0 0 ((bl s).drop (p + 2 + r.2.1))).2.2 = 0 := Classical.not_not.1 c5
  rw [if_neg c5] at hh
  rw [res_ok _ _ h5, if_pos rfl]
  generalize getL 0 0 ((bl s).drop (p + 2 + r.2.1)) = q at h5 hh ⊢
  by_cases c6 : 4096 < q.1
  · rw [if_pos (show ((q.1 : Nat) : Int) > 4096 by omega)]
    rw [if_pos c6] at hh
    subst hh; rfl
  rw [if_neg c6] at hh
  rw [if_neg (show ¬ (((q.1 : Nat) : Int) > 4096) by omega)]
  have hq2 := congrArg (fun x => x.2.2.2) hh
  have hqa := congrArg (fun x => x.1) hh
  have hqb := congrArg (fun x => x.2.1) hh
  have hqc := congrArg (fun x => x.2.2.1) hh
  simp only at hq2 hqa hqb hqc
  clear hh
  obtain ⟨b1, b2, b3, b4, b5⟩ := hok hq2.symm
  rw [hlen] at b3
  rw [if_neg (show ¬ (h.2.2.2 ≠ 0) by omega)]
  have hcast : ((p + 2 + r.2.1 + q.2.1 : Nat) : Int) = ((p + h.2.2.1 : Nat) : Int) := by omega
  have u1 := Aside0.mk (show wrap64 (((p + h.2.2.1 : Nat) : Int) + (wrap64 ((h.2.1 : Nat) : Int))) = ((p + h.2.2.1 + h.2.1 : Nat) : Int) by rw [wz ((h.2.1 : Nat) : Int) (by omega) (by omega), wz _ (by omega) (by omega)]; omega)
  have u2 := Aside0.mk (show wrap64 (((p + h.2.2.1 + h.2.1 : Nat) : Int) + 4) = ((p + h.2.2.1 + h.2.1 + 4 : Nat) : Int) by rw [wz _ (by omega) (by omega)]; omega)
  simp only [hcast]
  rw [hqb, hqa]
  simp only [u1.out, u2.out]
  clear u1 u2 hcast
  by_cases c7 : ((bl s).drop p).length < h.2.2.1 + h.2.1 + 4
  · rw [if_pos (show (s.size : Int) < ((p + h.2.2.1 + h.2.1 + 4 : Nat) : Int) by omega), if_pos c7]; rfl
  rw [if_neg (show ¬ ((s.size : Int) < ((p + h.2.2.1 + h.2.1 + 4 : Nat) : Int)) by omega), if_neg c7, if_pos (by omega), if_pos (by omega), if_pos (by omega)]
  simp only [Int.toNat_natCast]
  have e3 : s.extract (p + h.2.2.1) (p + h.2.2.1 + h.2.1) = strB ((((bl s).drop p).drop h.2.2.1).take h.2.1) := by
    rw [extract_strB, List.drop_drop, show p + h.2.2.1 + h.2.1 - (p + h.2.2.1) = h.2.1 from by omega]
  have eb : bl (s.extract (p + h.2.2.1) (p + h.2.2.1 + h.2.1)) = (((bl s).drop p).drop h.2.2.1).take h.2.1 := by
    rw [bl_extract, List.drop_drop, show p + h.2.2.1 + h.2.1 - (p + h.2.2.1) = h.2.1 from by omega]
  have hbl : ((((bl s).drop p).drop h.2.2.1).take h.2.1).length = h.2.1 := by rw [List.length_take, List.length_drop, hlen]; omega
  obtain ⟨t, ht, hbt⟩ := refframe_f h.1 b1 (s.extract (p + h.2.2.1) (p + h.2.2.1 + h.2.1)) (by rw [ByteArray.size_extract]; omega) k (by omega)
  rw [eb] at hbt
  rw [ht, Option.bind_some, if_pos (by omega), if_pos (by omega), if_pos (by omega)]
  have hT : ((bl s).drop p).take (h.2.2.1 + h.2.1) = headOf h.1 h.2.1 ++ (((bl s).drop p).drop h.2.2.1).take h.2.1 := by rw [List.take_add, b5]
  have hfr : frameL h.1 ((((bl s).drop p).drop h.2.2.1).take h.2.1) = ((bl s).drop p).take (h.2.2.1 + h.2.1) ++ four (sumN (((bl s).drop p).take (h.2.2.1 + h.2.1))) := by
    unfold frameL; rw [hbl, hT]
  have hx : bl (s.extract p (p + h.2.2.1 + h.2.1 + 4)) = ((bl s).drop p).take (h.2.2.1 + h.2.1) ++ (((bl s).drop p).drop (h.2.2.1 + h.2.1)).take 4 := by
    rw [bl_extract, ← List.take_add]; congr 1; omega
  by_cases c8 : (((bl s).drop p).drop (h.2.2.1 + h.2.1)).take 4 ≠ four (sumN (((bl s).drop p).take (h.2.2.1 + h.2.1)))
  · rw [if_neg, if_pos c8]
    · rfl
    · intro e
      rw [toList_eq] at e
      have := congrArg bl e
      rw [hbt, hx, hfr] at this
      exact c8 (List.append_cancel_left this).symm
  · rw [if_neg c8, if_pos]
    · rw [e3]
      unfold openA
      rw [if_pos rfl]
      simp only
      congr 4
      omega
    · rw [toList_eq]
      apply bl_inj
      rw [hbt, hx, hfr, Classical.not_not.1 c8]

theorem refopen_f (s : ByteArray) (at_ : Int) (hs : s.size ≤ 200) (k : Nat) (hk : 60020 ≤ k) : shunterref05_Open.f k s at_ = some (openR s at_) := by
  obtain ⟨k, rfl⟩ : ∃ m, k = m + 1 := ⟨k - 1, by omega⟩
  unfold shunterref05_Open.f openR
  by_cases h0 : at_ < 0
  · rw [if_pos h0, if_pos (Or.inl h0), shunterref05_Open.j0, if_pos rfl]
  · rw [if_neg h0]
    by_cases h1 : (s.size : Int) < at_
    · rw [if_pos (Or.inr h1), shunterref05_Open.j0, if_pos (by simpa using h1)]
    · obtain ⟨p, rfl⟩ : ∃ p : Nat, at_ = (p : Int) := ⟨at_.toNat, by omega⟩
      rw [if_neg (by omega), show decide ((p : Int) > (s.size : Int)) = false from decide_eq_false (by omega), Int.toNat_natCast, shunterref05_Open.j0, if_neg (by decide)]
      exact refopen_l0 s p hs (by omega) k (by omega)

theorem awake5 (k : Nat) (hk : 30 ≤ k) : shunterlaw05_awake.f k = some true := by
  obtain ⟨t, ht, hb⟩ := frame_f 0 (by omega) (⟨#[]⟩ : ByteArray) (by decide) k (by omega)
  rw [show ((0 : Nat) : Int) = 0 from rfl] at ht
  have hb0 : bl (⟨#[]⟩ : ByteArray) = [] := rfl
  rw [hb0] at hb
  have hh : headOf 0 ([] : List Nat).length = [83, 103, 0, 0] := by
    show 83 :: 103 :: (putN 0 ++ putN 0) = _
    rw [putN_small (by omega)]; rfl
  have hsz : t.size = 8 := by rw [← bl_length, hb, frameL_len, hh]; rfl
  have hx : t.extract 0 4 = strB [83, 103, 0, 0] := by
    apply bl_inj
    rw [bl_extract, hb, bl_strB _ (by decide)]
    unfold frameL
    rw [hh]; rfl
  have ho := open_f (⟨#[83, 104]⟩ : ByteArray) 0 (by decide) k hk
  have hr : openR (⟨#[83, 104]⟩ : ByteArray) 0 = (0, (⟨#[]⟩ : ByteArray), 0, 1) := by
    unfold openR
    rw [if_neg (by decide)]
    have : (openL ((bl (⟨#[83, 104]⟩ : ByteArray)).drop (0 : Int).toNat)) = (0, [], 0, 1) := by
      show openL [83, 104] = _
      unfold openL headL
      simp
    rw [this]; rfl
  unfold shunterlaw05_awake.f
  rw [ht, Option.bind_some, ho, hr, Option.bind_some, if_pos rfl]
  dsimp only
  rw [if_pos (show (t.size : Int) = 8 by omega), if_pos (by decide), if_pos (show (4 : Int) ≤ (t.size : Int) by omega), hx, if_pos]
  · rfl
  · rw [ByteArray.toList_eq]; rfl

theorem SegmentOpens : shunterlaw05_SegmentOpens.Pure := by
  intro s at_ hs _
  refine ⟨100000, ?_⟩
  obtain ⟨t, ht, hn, _⟩ : ∃ t, shunterlaw01_Cut.f s ((200 : Nat) : Int) = some t ∧ t.size ≤ 200 ∧ t.size ≤ s.size := by
    unfold shunterlaw01_Cut.f
    by_cases h : (s.size : Int) > ((200 : Nat) : Int)
    · rw [if_pos h, if_pos (by omega), if_pos (by omega)]
      refine ⟨_, rfl, ?_, ?_⟩ <;> simp only [ByteArray.size_extract, Int.toNat_natCast] <;> omega
    · rw [if_neg h]; exact ⟨s, rfl, by omega, by omega⟩
  unfold shunterlaw05_SegmentOpens.f
  rw [show (200 : Int) = ((200 : Nat) : Int) from rfl, ht, Option.bind_some, awake5 100000 (by omega), Option.bind_some, if_pos rfl, open_f t at_ (by omega) 100000 (by omega), Option.bind_some, refopen_f t at_ hn 100000 (by omega), Option.bind_some,
    if_pos rfl, if_pos rfl, if_pos rfl]
  simp

end Go.Proofs.Ythlllcmffgdcmaa.Pure

namespace Go.Proofs.Ythlllcmffgdcmaa.Spoilt
open Go.RowKit Go.Proofs.Ythlllcmffgdcmaa.QSegmentOpens Go.Proofs.YthlllcmffgdcmaaW.PrintWords Go.Proofs.YthlllcmffgdcmaaW.PrintLast Go.Proofs.YthlllcmffgdcmaaW.PrintMore Go.Proofs.Ythlllcmffgdcmaa.LebPlain Go.Proofs.Ythlllcmffgdcmaa.LebWords Go.Proofs.Ythlllcmffgdcmaa.RecPlain Go.Proofs.Ythlllcmffgdcmaa.CrcPlain Go.Proofs.Ythlllcmffgdcmaa.SegPlain Go.Proofs.Ythlllcmffgdcmaa.SegLinkQSegmentOpens Go.Proofs.Ythlllcmffgdcmaa.Pure
set_option linter.unusedVariables false
set_option linter.unusedSimpArgs false

/-- The first n bytes. -/
def cutS (s : ByteArray) (n : Nat) : ByteArray := if (n : Int) < (s.size : Int) then s.extract 0 n else s
theorem cutS_size (s : ByteArray) (n : Nat) : (cutS s n).size ≤ n := by
  unfold cutS; split
  · rw [ByteArray.size_extract]; omega
  · omega
theorem cut_calls (s : ByteArray) (n : Nat) (N : Int) (hN : N = (n : Int)) (w : World) : Calls Try.prog 25 #[.string s, .int .i64 N] w fun e w' => e = .returned (.string (cutS s n)) ∧ w = w' := by
  subst hN
  by_cases h : (n : Int) < (s.size : Int)
  · have e : cutS s n = s.extract 0 n := if_pos h
    have h1 : decide ((n : Int) < (s.size : Int)) = true := decide_eq_true h
    rw [e]
    clear e
    go_enter Try.func25, Try.ntmps25
    go_wp2
    go_ret
    exact ⟨rfl, rfl⟩
  · have e : cutS s n = s := if_neg h
    have h1 : decide ((n : Int) < (s.size : Int)) = false := decide_eq_false h
    rw [e]
    clear e
    go_enter Try.func25, Try.ntmps25
    go_wp2
    go_ret
    exact ⟨rfl, rfl⟩

/-- Bytes in memory, to be read and written. -/
def BytesAt (w : World) (z : Nat) (l : List Nat) : Prop := ∀ j, j < l.length → w.cell? ⟨z, j, none⟩ = some (.int .u8 ((l.getD j 0 : Nat) : Int)) ∧ w.frozen? ⟨z, j, none⟩ = false
theorem bytes_at_new (w : World) (s : ByteArray) : BytesAt (Lib.bytesWorld w 5 s) w.heap.size (bl s) := by
  intro j hj
  have hj' : j < s.size := by rwa [bl_length] at hj
  constructor
  · rw [Lib.bytesWorld_cell w 5 s j hj']
    congr 2
    simp only [bl, List.getD_eq_getElem?_getD, List.getElem?_map]
    rcases s.data.toList[j]? with _ | q <;> simp
  · simp only [World.frozen?, Lib.bytesWorld_at_new, Lib.bytesCells, Array.size_append, Array.size_map]
    have : s.data.size = s.size := rfl
    simp only [this, Bool.and_eq_false_iff, decide_eq_false_iff_not]
    omega
theorem BytesAt.set_ {w : World} {z : Nat} {l : List Nat} (h : BytesAt w z l) (k v : Nat) (hk : k < l.length) : BytesAt (w.setCell ⟨z, k, none⟩ (.int .u8 (v : Int))) z (l.set k v) := by
  intro j hj
  rw [List.length_set] at hj
  constructor
  · by_cases he : j = k
    · subst he
      rw [World.cell?_setCell_same _ _ _ (h j hj).1]
      simp [List.getD_eq_getElem?_getD, hj]
    · rw [World.cell?_setCell_other _ _ _ _ (by intro hh; injection hh with _ hh; exact he hh.symm), (h j hj).1]
      simp [List.getD_eq_getElem?_getD, List.getElem?_set_ne (Ne.symm he)]
  · rw [World.frozen?_setCell]; exact (h j hj).2
theorem BytesAt.below {w w' : World} {z : Nat} {l : List Nat} (h : BytesAt w z l) (hb : Below w.heap.size w w') : BytesAt w' z l := fun j hj => by
  have hlt := World.block_lt_of_cell? w _ (h j hj).1
  exact ⟨(hb.cell hlt).trans (h j hj).1, (hb.frozen hlt).trans (h j hj).2⟩
theorem BytesAt.reads {w : World} {z : Nat} {l : List Nat} (h : BytesAt w z l) (hm : l.length ≤ 9223372036854775807) : ReadsInt w .u8 (some ⟨z, 0, none⟩) l.length (l.map Int.ofNat) := by
  refine ⟨by simp, hm, fun _ => ⟨_, rfl, fun j hj => ?_⟩⟩
  rw [add_plain, (h j hj).1]
  congr 2
  simp only [List.getD_eq_getElem?_getD, List.getElem?_map]
  rcases l[j]? with _ | q <;> simp

theorem spoiled {w : World} {z v b i q r : Nat} {l : List Nat} (h : BytesAt w z (spoil l v b i)) (hk : b + i < 8 * (spoil l v b i).length) (hq : q = (b + i) / 8) (hr : r = (b + i) % 8) (hbit : v / 2 ^ i % 2 = 1) (hl : ∀ x ∈ spoil l v b i, x < 256) :
    BytesAt (w.setCell ⟨z, q, none⟩ (.int .u8 (Go.bits .xor .u8 (((spoil l v b i)[q]?.getD 0 : Nat) : Int) (2 ^ r % 256)))).drew z (spoil l v b (i + 1)) := by
  have hp : 2 ^ r < 256 := by rw [hr]; exact pow_lt256 _
  have hx : (spoil l v b i)[q]?.getD 0 < 256 := by
    rcases hh : (spoil l v b i)[q]? with _ | c
    · simp
    · exact hl c (List.mem_of_getElem? hh)
  have e1 : ((2 : Int) ^ r % 256) = ((2 ^ r : Nat) : Int) := by
    rw [show ((2 : Int) ^ r) = ((2 ^ r : Nat) : Int) by rw [Int.natCast_pow]; rfl]
    exact Int.emod_eq_of_lt (Int.natCast_nonneg _) (Int.ofNat_lt.2 hp)
  have h2 := h.set_ q ((spoil l v b i)[q]?.getD 0 ^^^ 2 ^ r) (by omega)
  rw [e1, u8_xor_nat _ _ hx hp]
  have e2 : spoil l v b (i + 1) = (spoil l v b i).set q ((spoil l v b i)[q]?.getD 0 ^^^ 2 ^ r) := by
    rw [spoil, if_pos hbit, CrcPlain.flip, ← hq, ← hr, List.getD_eq_getElem?_getD]
  rw [e2]
  exact h2

theorem conv_of {w : World} {z n c : Nat} {xs : List Int} {G : ByteArray} (h : ReadsInt w .u8 (some ⟨z, 0, none⟩) n xs) (hG : G = strOfNums xs) : (convert 59 9 (.slice (some ⟨z, 0, none⟩) n c)).run Try.prog w = .ok (.string G) w := by
  rw [hG]
  exact string_of_reads Try.underlying59 Try.underlying5 Try.underlying9 h

theorem toList_inj {s t : ByteArray} (h : s.toList = t.toList) : s = t := by
  rw [ByteArray.toList_eq, ByteArray.toList_eq] at h
  apply ByteArray.ext
  exact Array.ext' h
theorem empty_iff (t : ByteArray) : t.toList.isEmpty = true ↔ t.size = 0 := by
  rw [ByteArray.toList_eq, List.isEmpty_iff, ← List.length_eq_zero_iff, Array.length_toList]
  exact Iff.rfl


theorem awake_calls (w : World) : Calls Try.prog 29 #[] w fun e w' => e = .returned (.bool true) ∧ Below w.heap.size w w' :=
  shunterlaw05_awake.calls 30 true w (awake5 30 (by decide))

theorem frame_calls (seq : Nat) (hs : seq < 18446744073709551616) (body F : ByteArray) (h : body.size ≤ 4096) (hF : F = strB (frameL seq (bl body))) (w : World) :
    Calls Try.prog 30 #[.int .u64 (seq : Int), .string body] w fun e w' => e = .returned (.tuple #[.string F, .int .i64 0]) ∧ Below w.heap.size w w' := by
  obtain ⟨t, ht, hb⟩ := frame_f seq hs body h 20 (by decide)
  have e : t = F := bl_inj (by rw [hb, hF, bl_strB _ (frameL_lt _ _ (bl_lt _))])
  subst e
  exact segment_Frame.calls 20 _ _ _ _ w ht

theorem open_calls (s : ByteArray) (hs : s.size ≤ 1000000) (er : Int) (he : er = ((openL (bl s)).2.2.2 : Int)) (w : World) :
    Calls Try.prog 31 #[.string s, .int .i64 0] w fun e w' => ∃ r1 r2 r3, e = .returned (.tuple #[.int .u64 r1, .string r2, .int .i64 r3, .int .i64 er]) ∧ Below w.heap.size w w' := by
  have hf := open_f s 0 hs 30 (by decide)
  have h4 : (openR s 0).2.2.2 = er := by
    unfold openR
    rw [if_neg (by omega), show (0 : Int).toNat = 0 from rfl, List.drop_zero, he]
    unfold openA
    split
    · rename_i h; rw [h]; rfl
    · rfl
  rcases h : openR s 0 with ⟨r1, r2, r3, r4⟩
  rw [h] at hf h4
  simp only at h4
  subst h4
  exact (segment_Open.calls 30 _ _ _ _ _ _ w hf).mono fun e w' ⟨h1, h2⟩ => ⟨r1, r2, r3, h1, h2⟩
end Go.Proofs.Ythlllcmffgdcmaa.Spoilt

namespace Go.Proofs.Ythlllcmffgdcmaa.Scan
open Go.RowKit Go.Proofs.Ythlllcmffgdcmaa.QSegmentOpens Go.Proofs.YthlllcmffgdcmaaW.PrintWords Go.Proofs.YthlllcmffgdcmaaW.PrintLast Go.Proofs.YthlllcmffgdcmaaW.PrintMore Go.Proofs.Ythlllcmffgdcmaa.LebPlain Go.Proofs.Ythlllcmffgdcmaa.LebWords Go.Proofs.Ythlllcmffgdcmaa.RecPlain Go.Proofs.Ythlllcmffgdcmaa.CrcPlain Go.Proofs.Ythlllcmffgdcmaa.SegPlain Go.Proofs.Ythlllcmffgdcmaa.SegLinkQSegmentOpens Go.Proofs.Ythlllcmffgdcmaa.Pure Go.Proofs.Ythlllcmffgdcmaa Go.Proofs.Ythlllcmffgdcmaa.Spoilt
set_option linter.unusedVariables false
set_option linter.unusedSimpArgs false

theorem open_at (s : ByteArray) (hs : s.size ≤ 1000000) (p : Nat) (w : World) :
    Calls Try.prog 31 #[.string s, .int .i64 (p : Int)] w fun e w' => e = .returned (.tuple #[.int .u64 (openR s (p : Int)).1, .string (openR s (p : Int)).2.1, .int .i64 (openR s (p : Int)).2.2.1, .int .i64 (openR s (p : Int)).2.2.2]) ∧ Below w.heap.size w w' := by
  have hf := open_f s (p : Int) hs 30 (by decide)
  exact segment_Open.calls 30 _ _ _ _ _ _ w hf

/-- How a scan ends: what stands next isn't a segment with the next number, or it isn't taken. -/
def Ends (s : ByteArray) (q p K : Nat) (caps : Array Value) (I J : World → Prop) : Prop :=
  (((openR s (p : Int)).2.2.2 ≠ 0 ∨ (openR s (p : Int)).1 ≠ (q : Int)) ∧ ∀ W, I W → J W) ∨
  (((openR s (p : Int)).2.2.2 = 0 ∧ (openR s (p : Int)).1 = (q : Int)) ∧ ∀ W, I W → Calls Try.prog K (#[.string (openR s (p : Int)).2.1, .int .i64 (openR s (p : Int)).2.2.1] ++ caps) W fun e W' => e = .returned (.bool false) ∧ J W')

set_option maxHeartbeats 4000000 in
set_option maxRecDepth 100000 in
theorem scan_calls (s : ByteArray) (hs : s.size ≤ 1000000) (seq n : Nat) (hseq : seq < 18446744073709551616) (E : Nat → Nat) (B : Nat → ByteArray) (hE0 : E 0 = 0)
    (hO : ∀ i, i < n → openR s (E i : Int) = ((((seq + i) % 18446744073709551616 : Nat) : Int), B i, (E (i + 1) : Int), 0)) (hE : ∀ i, i < n → E i < E (i + 1) ∧ E (i + 1) ≤ s.size)
    (K : Nat) (caps : Array Value) (hK : ∀ args W, (callFunc K args).run Try.prog W = .ok (.enter K args) W) (I : Nat → World → Prop) (J : World → Prop)
    (hI : ∀ i W W', I i W → Below W.heap.size W W' → I i W')
    (hsee : ∀ i, i < n → ∀ W, I i W → Calls Try.prog K (#[.string (B i), .int .i64 (E (i + 1) : Int)] ++ caps) W fun e W' => e = .returned (.bool true) ∧ I (i + 1) W')
    (hend : Ends s ((seq + n) % 18446744073709551616) (E n) K caps (I n) J) (w : World) (h0 : I 0 w) :
    Calls Try.prog 35 #[.string s, .int .u64 (seq : Int), .func (.func K) #[] caps] w fun e w' => e = .returned (.int .i64 (E n : Int)) ∧ J w' := by
  go_enter Try.func35, Try.ntmps35
  go_wp2
  go_loopw [7, 1] (fun x y wr => ∃ i : Nat, i ≤ n ∧ x = .int .i64 (E i : Int) ∧ y = .int .u64 (((seq + i) % 18446744073709551616 : Nat) : Int) ∧ I i wr) (fun x _ _ => s.size - (intOf x).toNat)
  case atStart =>
    refine ⟨0, Nat.zero_le _, by rw [hE0]; rfl, ?_, h0⟩
    rw [Nat.add_zero, Nat.mod_eq_of_lt hseq]
  case round =>
    obtain ⟨i, hi, rfl, rfl, hw⟩ := hrel
    have HW := Aside0.mk hw
    clear hw
    by_cases hin : i < n
    · have HS := Aside0.mk (hsee i hin)
      have HO := Aside0.mk (hO i hin)
      have HE := Aside0.mk (hE i hin)
      obtain ⟨p, hp⟩ : ∃ p, p = E i := ⟨_, rfl⟩
      have ey : (((seq : Int) + (i : Int)) % 18446744073709551616 + 1) % 18446744073709551616 = ((seq : Int) + ((i : Int) + 1)) % 18446744073709551616 := by omega
      go_wp2_with (first
        | (go_at_call 31; refine (open_at s hs _ wr).mono ?_; rw [HO.out]; rintro e w1 ⟨rfl, hb⟩; have B1 := Aside0.mk (hI i wr w1 HW.out hb); clear hb)
        | (refine (HS.out w1 B1.out).mono ?_; rintro e w2 ⟨rfl, hJ⟩; have H2 := Aside0.mk hJ; clear hJ))
      exact ⟨⟨i + 1, hin, rfl, by (simp; rw [IntKind.wrap_u64]; omega), H2.out⟩, by have := HE.out; simp [intOf]; omega⟩
    · obtain rfl : i = n := by omega
      have HD := Aside0.mk hend
      rcases hend with ⟨h1, h2⟩ | ⟨⟨h1, h1'⟩, h2⟩
      · obtain ⟨⟨m, b, p, er⟩, ho⟩ : ∃ r, openR s (E i : Int) = r := ⟨_, rfl⟩
        rw [ho] at h1
        simp only at h1
        have HO := Aside0.mk ho
        have H2 := Aside0.mk h2
        clear h2 ho
        by_cases he : er = 0
        · subst he
          have hm : m ≠ (((seq + i) % 18446744073709551616 : Nat) : Int) := by
            rcases h1 with h | h
            · exact absurd rfl h
            · exact h
          have hm1 : (m != ((seq : Int) + (i : Int)) % 18446744073709551616) = true := by
            rw [bne_iff_ne]; intro hh; apply hm; rw [hh]; simp
          clear h1 hm
          go_wp2_with (go_at_call 31; refine (open_at s hs _ wr).mono ?_; rw [HO.out]; rintro e w1 ⟨rfl, hb⟩; have B1 := Aside0.mk (hI i wr w1 HW.out hb); clear hb)

          go_ret
          exact ⟨rfl, H2.out _ B1.out⟩
        · have hm1 : (er != 0) = true := bne_iff_ne.2 he
          clear h1 he
          go_wp2_with (go_at_call 31; refine (open_at s hs _ wr).mono ?_; rw [HO.out]; rintro e w1 ⟨rfl, hb⟩; have B1 := Aside0.mk (hI i wr w1 HW.out hb); clear hb)
          go_ret
          exact ⟨rfl, H2.out _ B1.out⟩
      · obtain ⟨⟨m, b, p, er⟩, ho⟩ : ∃ r, openR s (E i : Int) = r := ⟨_, rfl⟩
        rw [ho] at h1 h1' h2
        simp only at h1 h1' h2
        subst h1 h1'
        have HO := Aside0.mk ho
        have H2 := Aside0.mk h2
        clear h2 ho
        go_wp2_with (first
          | (go_at_call 31; refine (open_at s hs _ wr).mono ?_; rw [HO.out]; rintro e w1 ⟨rfl, hb⟩; have B1 := Aside0.mk (hI i wr w1 HW.out hb); clear hb)
          | (refine (H2.out w1 B1.out).mono ?_; rintro e w2 ⟨rfl, hJ⟩; have H3 := Aside0.mk hJ; clear hJ))
        go_ret
        exact ⟨rfl, H3.out⟩
end Go.Proofs.Ythlllcmffgdcmaa.Scan

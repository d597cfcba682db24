/- The printed leb.Get and leb.Put (of the law QSegmentOpens) answer as the plain reader and writer of layer 1. -/
import Derived.Test.YthlllcmffgdcmaaQSegmentOpensx7
import Derived.Test.YthlllcmffgdcmaaLebWords
namespace Go.Proofs.Ythlllcmffgdcmaa.LebQSegmentOpens
open Go.RowKit Go.Proofs.Ythlllcmffgdcmaa.QSegmentOpens Go.Proofs.YthlllcmffgdcmaaW.PrintWords Go.Proofs.YthlllcmffgdcmaaW.PrintLast Go.Proofs.Ythlllcmffgdcmaa.LebPlain Go.Proofs.Ythlllcmffgdcmaa.LebWords

theorem get_l0 (s : ByteArray) (p : Nat) (hs : s.size ≤ 140737488351232) (hp : p ≤ s.size) : ∀ (d k i : Nat) (a : Int) (acc : Nat), i + d = 10 → d < k →
    (i ≤ 9 → a = (acc : Int) ∧ acc < 128 ^ i) → leb_Get.l0 k s (p : Int) a (i : Int) = some (res p (getL i acc ((bl s).drop (p + i)))) := by
  intro d
  induction d with
  | zero =>
    intro k i a acc hi hk _
    obtain ⟨k, rfl⟩ : ∃ m, k = m + 1 := ⟨k - 1, by omega⟩
    simp only [leb_Get.l0]
    rw [if_neg (by omega), getL_full (by omega)]; rfl
  | succ d ih =>
    intro k i a acc hi hk ha
    obtain ⟨k, rfl⟩ : ∃ m, k = m + 1 := ⟨k - 1, by omega⟩
    obtain ⟨rfl, hacc⟩ := ha (by omega)
    have w1 : wrap64 ((p : Int) + (i : Int)) = ((p + i : Nat) : Int) := by unfold wrap64; omega
    have w2 : wrap64 (7 * (i : Int)) = ((7 * i : Nat) : Int) := by unfold wrap64; omega
    have w3 : wrap64 ((i : Int) + 1) = ((i + 1 : Nat) : Int) := by unfold wrap64; omega
    have w4 : wrap64 (((p + i : Nat) : Int) + 1) = ((p + (i + 1) : Nat) : Int) := by unfold wrap64; omega
    simp only [leb_Get.l0, w1, w2, w3, w4]
    clear w1 w2 w3 w4
    have e0 : (i : Int) < 10 := by omega
    rw [if_pos e0]
    clear e0
    by_cases hend : p + i < s.size
    · have e1 : ¬ (((p + i : Nat) : Int) ≥ (s.size : Int)) := by omega
      have e2 : 0 ≤ ((p + i : Nat) : Int) := by omega
      have e3 : ((p + i : Nat) : Int) < (s.size : Int) := by omega
      have e4 : 0 ≤ ((7 * i : Nat) : Int) := by omega
      rw [if_neg e1, if_pos e2, if_pos e3, if_pos e4]
      obtain ⟨b, hb, hb256, hdrop⟩ := bl_drop s (p + i) hend
      rw [hb, hdrop]
      clear e1 e2 e3 e4
      by_cases h128 : 128 ≤ b
      · rw [if_pos (show (b : Int) ≥ 128 by omega), getL, if_neg (show ¬ 10 ≤ i by omega), if_pos h128]
        have := ih k (i + 1) (Go.bits .or .u64 (acc : Int) (shl .u64 (IntKind.u64.wrap (Go.bits .and .u8 (b : Int) 127)) ((7 * i : Nat) : Int))) (acc + b % 128 * 128 ^ i) (by omega) (by omega) ?_
        · rw [this]; rfl
        · intro h9
          refine ⟨or_shl i acc b (by omega) hacc hb256 (by omega), ?_⟩
          have h1 : b % 128 * 128 ^ i ≤ 127 * 128 ^ i := Nat.mul_le_mul_right _ (by omega)
          rw [Nat.pow_succ]; omega
      · rw [if_neg (show ¬ ((b : Int) ≥ 128) by omega), getL, if_neg (show ¬ 10 ≤ i by omega), if_neg h128]
        by_cases hbad : (b = 0 ∧ 0 < i) ∨ (i = 9 ∧ 1 < b)
        · rw [if_pos hbad]
          by_cases hb0 : b = 0
          · rw [if_pos (show (b : Int) = 0 by omega), if_pos (show (i : Int) > 0 by omega)]; rfl
          · rw [if_neg (show ¬ ((b : Int) = 0) by omega), if_pos (show (i : Int) = 9 by omega), if_pos (show (b : Int) > 1 by omega)]; rfl
        · have h9 : i = 9 → b % 128 ≤ 1 := by omega
          rw [if_neg hbad, or_shl i acc b (by omega) hacc hb256 h9, Nat.mod_eq_of_lt (show b < 128 by omega)]
          simp only [res, if_true]
          by_cases hb0 : b = 0
          · rw [if_pos (show (b : Int) = 0 by omega), if_neg (show ¬ ((i : Int) > 0) by omega), if_neg (show ¬ ((i : Int) = 9) by omega)]
          · rw [if_neg (show ¬ ((b : Int) = 0) by omega)]
            by_cases hi9 : i = 9
            · rw [if_pos (show (i : Int) = 9 by omega), if_neg (show ¬ ((b : Int) > 1) by omega)]
            · rw [if_neg (show ¬ ((i : Int) = 9) by omega)]
    · rw [if_pos (show ((p + i : Nat) : Int) ≥ (s.size : Int) by omega), List.drop_eq_nil_of_le (by rw [bl_length]; omega), getL, if_neg (show ¬ 10 ≤ i by omega)]; rfl

theorem get_f (s : ByteArray) (at_ : Int) (hs : s.size ≤ 140737488351232) (k : Nat) (hk : 12 ≤ k) : leb_Get.f k s at_ = some (getA s at_) := by
  obtain ⟨k, rfl⟩ : ∃ m, k = m + 1 := ⟨k - 1, by omega⟩
  unfold leb_Get.f getA
  by_cases h0 : at_ < 0
  · rw [if_pos h0, if_pos (Or.inl h0)]; simp only [leb_Get.j0, if_true]
  · rw [if_neg h0]
    by_cases h1 : (s.size : Int) < at_
    · rw [if_pos (Or.inr h1)]; simp only [leb_Get.j0]; rw [if_pos (by simpa using h1)]
    · rw [if_neg (by omega)]; simp only [leb_Get.j0]; rw [if_neg (by simpa using h1)]
      have := get_l0 s at_.toNat hs (by omega) 10 k 0 0 0 (by omega) (by omega) (fun _ => ⟨rfl, by omega⟩)
      rw [show ((at_.toNat : Nat) : Int) = at_ from by omega] at this
      rw [show ((0 : Nat) : Int) = 0 from rfl] at this
      rw [this]; rfl

theorem put_l0 (n : Nat) : ∀ (k : Nat) (xs : List Int), (putN n).length < k → xs.length + (putN n).length ≤ 100 →
    leb_Put.l0 k (n : Int) xs = some (strOfNums (xs ++ (putN n).map Int.ofNat)) := by
  induction n using putN.induct with
  | case1 n h =>
    intro k xs hk hx
    obtain ⟨k, rfl⟩ : ∃ m, k = m + 1 := ⟨k - 1, by omega⟩
    rw [putN_small h] at hx ⊢
    simp only [List.length_singleton] at hx
    simp only [leb_Put.l0]
    rw [if_neg (by omega), if_pos (by omega), show (n : Int) % 256 = (n : Int) from by omega]; rfl
  | case2 n h ih =>
    intro k xs hk hx
    obtain ⟨k, rfl⟩ : ∃ m, k = m + 1 := ⟨k - 1, by omega⟩
    rw [putN_big h] at hx hk ⊢
    simp only [List.length_cons] at hx hk
    simp only [leb_Put.l0]
    rw [if_pos (by omega), if_pos (by omega), show (n : Int) / 128 = ((n / 128 : Nat) : Int) from by omega,
      show (n : Int) % 256 = ((n % 256 : Nat) : Int) from by omega, or128 _ (by omega), ih k _ (by omega) (by simp only [List.length_append, List.length_singleton]; omega)]
    rw [show n % 256 % 128 = n % 128 from by omega]
    simp

theorem put_f (n : Nat) (h : n < 18446744073709551616) (k : Nat) (hk : 12 ≤ k) : leb_Put.f k (n : Int) = some (putS n) := by
  have := putN_len n h
  unfold leb_Put.f putS
  rw [put_l0 n k [] (by omega) (by simp; omega)]; rfl

end Go.Proofs.Ythlllcmffgdcmaa.LebQSegmentOpens

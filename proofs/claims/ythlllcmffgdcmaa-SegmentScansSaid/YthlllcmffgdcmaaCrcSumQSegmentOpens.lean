/- The printed crc.Of and the document's sum (of the law QSegmentOpens) answer as the plain sum. -/
import Derived.Test.YthlllcmffgdcmaaQSegmentOpensx7
import Derived.Test.YthlllcmffgdcmaaCrcLink
namespace Go.Proofs.Ythlllcmffgdcmaa.CrcSumQSegmentOpens
open Go.RowKit Go.Proofs.Ythlllcmffgdcmaa.QSegmentOpens Go.Proofs.YthlllcmffgdcmaaW.PrintWords Go.Proofs.YthlllcmffgdcmaaW.PrintLast Go.Proofs.Ythlllcmffgdcmaa.Crc Go.Proofs.Ythlllcmffgdcmaa.CrcPlain Go.Proofs.Ythlllcmffgdcmaa.CrcLink Go.Proofs.Ythlllcmffgdcmaa.LebWords

/-- The bytes of some texts. -/
def allB (l : List ByteArray) : List Nat := l.flatMap bl

theorem allB_lt (l : List ByteArray) : ∀ b ∈ allB l, b < 256 := by
  intro b hb
  obtain ⟨s, _, h⟩ := List.mem_flatMap.1 hb
  exact bl_lt s b h

theorem allB_snoc (l : List ByteArray) (s : ByteArray) : allB (l ++ [s]) = allB l ++ bl s := by simp [allB]
theorem allB_nil : allB [] = [] := rfl

theorem of_l0 (l : List ByteArray) (hl : l.length ≤ 1000000) (hs : ∀ s ∈ l, s.size ≤ 140737488351232) : ∀ (d i k : Nat), i + d = l.length → d < k →
    crc_Of.l0 k l (l.length : Int) (i : Int) ((sumN (allB (l.take i)) : Nat) : Int) = some ((sumN (allB l) : Nat) : Int) := by
  intro d
  induction d with
  | zero =>
    intro i k hi hk
    obtain ⟨k, rfl⟩ : ∃ m, k = m + 1 := ⟨k - 1, by omega⟩
    obtain rfl : i = l.length := by omega
    rw [crc_Of.l0, if_neg (by omega), List.take_length]
    rfl
  | succ d ih =>
    intro i k hi hk
    obtain ⟨k, rfl⟩ : ∃ m, k = m + 1 := ⟨k - 1, by omega⟩
    have hlt : i < l.length := by omega
    have hr : rdOf ByteArray.empty l (i : Int) = l[i] := by simp [rdOf, List.getD, hlt]
    have hn := ih (i + 1) k (by omega) (by omega)
    have hsz := hs l[i] (List.getElem_mem hlt)
    rw [List.take_succ_eq_append_getElem hlt, allB_snoc, ← addN_sum _ _ (allB_lt _)] at hn
    rw [crc_Of.l0, if_pos (by omega), if_pos (by omega), if_pos (by omega), hr, add_f _ (sumN_lt _) _ hsz, Option.bind_some, show wrap64 ((i : Int) + 1) = ((i + 1 : Nat) : Int) from by unfold wrap64; omega]
    exact hn

theorem of_f (l : List ByteArray) (hl : l.length ≤ 1000000) (hs : ∀ s ∈ l, s.size ≤ 140737488351232) (k : Nat) (hk : l.length < k) : crc_Of.f k l = some ((sumN (allB l) : Nat) : Int) := by
  have := of_l0 l hl hs l.length 0 k (by omega) hk
  rw [List.take_zero, allB_nil, sumN_nil] at this
  exact this

theorem ref_l1 (s : ByteArray) (i : Nat) (R : Option Int) : ∀ (d j k x b : Nat), j + d = 8 → x < 4294967296 → b < 256 →
    (∀ k', k ≤ k' → shunterref03_Sum.l0 k' s ((bitsN d x b : Nat) : Int) (wrap64 ((i : Int) + 1)) = R) → shunterref03_Sum.l1 (k + d + 1) s (x : Int) (i : Int) (b : Int) (j : Int) = R := by
  intro d
  induction d with
  | zero =>
    intro j k x b hj _ _ h
    rw [shunterref03_Sum.l1, if_neg (by omega)]
    exact h k (by omega)
  | succ d ih =>
    intro j k x b hj hx hb h
    rw [show k + (d + 1) + 1 = (k + d + 1) + 1 from by omega, shunterref03_Sum.l1, if_pos (by omega), show wrap64 ((j : Int) + 1) = ((j + 1 : Nat) : Int) from by unfold wrap64; omega]
    have e1 : (Int.tdiv (x : Int) 2) % 4294967296 = ((x / 2 : Nat) : Int) := by rw [Int.tdiv_eq_ediv_of_nonneg (by omega)]; omega
    have e2 : (Int.tdiv (b : Int) 2) % 4294967296 = ((b / 2 : Nat) : Int) := by rw [Int.tdiv_eq_ediv_of_nonneg (by omega)]; omega
    have e3 : (((x : Int) + (b : Int)) % 4294967296) % 2 = (((x + b) % 2 : Nat) : Int) := by omega
    rw [e1, e2, e3]
    by_cases ht : (x + b) % 2 = 1
    · rw [if_pos (by omega), show (3988292384 : Int) = ((poly : Nat) : Int) from rfl, xor_u32 _ _ (by omega) (by decide)]
      refine ih (j + 1) k _ (b / 2) (by omega) (Nat.xor_lt_two_pow (n := 32) (by omega) (by decide)) (by omega) ?_
      intro k' hk'
      have := h k' hk'
      rw [bitsN, if_pos ht] at this
      exact this
    · rw [if_neg (by omega)]
      refine ih (j + 1) k _ (b / 2) (by omega) (by omega) (by omega) ?_
      intro k' hk'
      have := h k' hk'
      rw [bitsN, if_neg ht] at this
      exact this

theorem ref_l0 (s : ByteArray) (hs : s.size ≤ 1000000) : ∀ (d i k x : Nat), i + d = s.size → 10 * d + 1 ≤ k → x < 4294967296 →
    shunterref03_Sum.l0 k s (x : Int) (i : Int) = some ((4294967295 - crcN x ((bl s).drop i) : Nat) : Int) := by
  intro d
  induction d with
  | zero =>
    intro i k x hi hk hx
    obtain ⟨k, rfl⟩ : ∃ m, k = m + 1 := ⟨k - 1, by omega⟩
    rw [shunterref03_Sum.l0, if_neg (by omega), List.drop_eq_nil_of_le (by rw [bl_length]; omega), crcN_nil]
    congr 1
    omega
  | succ d ih =>
    intro i k x hi hk hx
    obtain ⟨b, hb, h256, hd⟩ := bl_drop s i (by omega)
    obtain ⟨k, rfl⟩ : ∃ m, k = (m + 8 + 1) + 1 := ⟨k - 10, by omega⟩
    rw [shunterref03_Sum.l0, if_pos (by omega), if_pos (by omega), hb, show (b : Int) % 4294967296 = (b : Int) from by omega, hd, crcN_cons, s8_eq, ← bits8 x b h256]
    refine ref_l1 s i _ 8 0 k x b (by omega) hx h256 (fun k' hk' => ?_)
    rw [show wrap64 ((i : Int) + 1) = ((i + 1 : Nat) : Int) from by unfold wrap64; omega]
    exact ih (i + 1) k' _ (by omega) (by omega) (by rw [bits8 x b h256]; exact stepsN_lt 8 _ (xor_lt32 x b hx (by omega)))

theorem ref_sum (s : ByteArray) (hs : s.size ≤ 1000000) (k : Nat) (hk : 10 * s.size + 1 ≤ k) : shunterref03_Sum.f k s = some ((sumN (bl s) : Nat) : Int) := by
  have := ref_l0 s hs s.size 0 k 4294967295 (by omega) hk (by omega)
  exact this

end Go.Proofs.Ythlllcmffgdcmaa.CrcSumQSegmentOpens

/- A row of segments, cut anywhere: what stands where. No walk in sight. -/
import Derived.Test.YthlllcmffgdcmaaSpoilt0
namespace Go.Proofs.Ythlllcmffgdcmaa.Torn
open Go.RowKit Go.Proofs.Ythlllcmffgdcmaa.QSegmentOpens Go.Proofs.YthlllcmffgdcmaaW.PrintWords Go.Proofs.YthlllcmffgdcmaaW.PrintLast Go.Proofs.Ythlllcmffgdcmaa.LebPlain Go.Proofs.Ythlllcmffgdcmaa.LebWords Go.Proofs.Ythlllcmffgdcmaa.RecPlain Go.Proofs.Ythlllcmffgdcmaa.CrcPlain Go.Proofs.Ythlllcmffgdcmaa.SegPlain Go.Proofs.Ythlllcmffgdcmaa.SegLinkQSegmentOpens Go.Proofs.Ythlllcmffgdcmaa.Pure Go.Proofs.Ythlllcmffgdcmaa.Spoilt
set_option linter.unusedVariables false

/-- The i-th body. -/
def bodyAt (xs : List ByteArray) (i : Nat) : ByteArray := cutS (xs.getD i ⟨#[]⟩) 60
/-- The i-th segment. -/
def segAt (xs : List ByteArray) (i : Nat) : ByteArray := strB (frameL i (bl (bodyAt xs i)))
/-- The first segments. -/
def rowTo (xs : List ByteArray) : Nat → ByteArray
  | 0 => ⟨#[]⟩
  | i + 1 => rowTo xs i ++ segAt xs i
/-- Where the i-th segment begins. -/
def endAt (xs : List ByteArray) (i : Nat) : Nat := (rowTo xs i).size
/-- The bytes of the segments from the i-th on, so many. -/
def tailL (xs : List ByteArray) : Nat → Nat → List Nat
  | _, 0 => []
  | i, d + 1 => frameL i (bl (bodyAt xs i)) ++ tailL xs (i + 1) d

theorem bodyAt_size (xs : List ByteArray) (i : Nat) : (bodyAt xs i).size ≤ 60 := cutS_size _ 60
theorem bl_segAt (xs : List ByteArray) (i : Nat) : bl (segAt xs i) = frameL i (bl (bodyAt xs i)) := bl_strB _ (frameL_lt _ _ (bl_lt _))
theorem segAt_size (xs : List ByteArray) (i : Nat) (h : i < 18446744073709551616) : 4 < (segAt xs i).size ∧ (segAt xs i).size ≤ 100 := by
  have h1 := bodyAt_size xs i
  have h2 := frameL_len i (bl (bodyAt xs i))
  have h3 := headOf_len i (bl (bodyAt xs i)).length
  have h4 := putN_len i h
  have h5 := putN_len (bl (bodyAt xs i)).length (by rw [bl_length]; omega)
  have h6 := bl_length (bodyAt xs i)
  rw [← bl_length, bl_segAt]
  omega
theorem endAt_succ (xs : List ByteArray) (i : Nat) : endAt xs (i + 1) = endAt xs i + (segAt xs i).size := by
  unfold endAt; rw [rowTo, ByteArray.size_append]
theorem endAt_zero (xs : List ByteArray) : endAt xs 0 = 0 := rfl
theorem endAt_le (xs : List ByteArray) : ∀ i, i ≤ 8 → endAt xs i ≤ 100 * i
  | 0, _ => by rw [endAt_zero]; omega
  | i + 1, h => by
    have h1 := endAt_le xs i (by omega)
    have h2 := (segAt_size xs i (by omega)).2
    rw [endAt_succ]; omega
theorem rowTo_split (xs : List ByteArray) : ∀ (d i : Nat), bl (rowTo xs (i + d)) = bl (rowTo xs i) ++ tailL xs i d
  | 0, i => by simp [tailL]
  | d + 1, i => by
    rw [show i + (d + 1) = (i + 1) + d by omega, rowTo_split xs d (i + 1), tailL, rowTo, bl_append, bl_segAt, List.append_assoc]

/-- What stands at the i-th segment's place in the row that is cut. -/
theorem cut_drop (xs : List ByteArray) (k c i : Nat) (hi : i ≤ k) (h : endAt xs i ≤ c) :
    (bl ((rowTo xs k).extract 0 c)).drop (endAt xs i) = (tailL xs i (k - i)).take (c - endAt xs i) := by
  have h1 := rowTo_split xs (k - i) i
  rw [show i + (k - i) = k by omega] at h1
  have h2 : (bl (rowTo xs i)).length = endAt xs i := bl_length _
  rw [bl_extract, h1, Nat.sub_zero, List.drop_zero, List.drop_take, ← h2, List.drop_left]

theorem cut_whole (xs : List ByteArray) (k c i : Nat) (hi : i < k) (hk : k ≤ 8) (h : endAt xs (i + 1) ≤ c) (hc : c ≤ endAt xs k) :
    openR ((rowTo xs k).extract 0 c) (endAt xs i : Int) = ((((0 + i) % 18446744073709551616 : Nat) : Int), bodyAt xs i, (endAt xs (i + 1) : Int), 0) := by
  have hs := segAt_size xs i (by omega)
  have he := endAt_succ xs i
  have hz : ((rowTo xs k).extract 0 c).size = c := by
    rw [ByteArray.size_extract]; unfold endAt at hc; omega
  have hb := bodyAt_size xs i
  unfold openR
  rw [if_neg (by rw [hz]; omega), Int.toNat_natCast, cut_drop xs k c i (by omega) (by omega), show k - i = (k - i - 1) + 1 by omega, tailL]
  have hl : (frameL i (bl (bodyAt xs i))).length = (segAt xs i).size := by rw [← bl_segAt, bl_length]
  rw [List.take_append, List.take_of_length_le (by omega), openL_frame i (bl (bodyAt xs i)) _ (by omega) (by rw [bl_length]; omega)]
  unfold openA
  rw [if_pos rfl]
  simp only [strB_bl, hl, he, Nat.zero_add]
  rw [Nat.mod_eq_of_lt (by omega)]

theorem openL_nil : (openL []).2.2.2 = 2 := by
  unfold openL headL; simp

theorem cut_end (xs : List ByteArray) (k c i : Nat) (hi : i ≤ k) (hk : k ≤ 8) (h : endAt xs i ≤ c) (hc : c ≤ endAt xs k) (hn : i = k ∨ c < endAt xs (i + 1)) :
    (openR ((rowTo xs k).extract 0 c) (endAt xs i : Int)).2.2.2 ≠ 0 := by
  have hs := segAt_size xs i (by omega)
  have he := endAt_succ xs i
  have hz : ((rowTo xs k).extract 0 c).size = c := by
    rw [ByteArray.size_extract]; unfold endAt at hc; omega
  have hb := bodyAt_size xs i
  have key : (openL ((tailL xs i (k - i)).take (c - endAt xs i))).2.2.2 = 2 := by
    rcases Nat.lt_or_ge i k with h1 | h1
    · have h2 : c < endAt xs (i + 1) := by rcases hn with h | h <;> omega
      have hl : (frameL i (bl (bodyAt xs i))).length = (segAt xs i).size := by rw [← bl_segAt, bl_length]
      rw [show k - i = (k - i - 1) + 1 by omega, tailL, List.take_append, show c - endAt xs i - (frameL i (bl (bodyAt xs i))).length = 0 by omega, List.take_zero, List.append_nil]
      exact openL_cut i _ (by omega) (by rw [bl_length]; omega) _ (by omega)
    · rw [show k - i = 0 by omega, tailL, List.take_nil]
      exact openL_nil
  unfold openR
  rw [if_neg (by rw [hz]; omega), Int.toNat_natCast, cut_drop xs k c i hi h]
  unfold openA
  rw [if_neg (by rw [key]; decide), key]
  decide

theorem endAt_mono (xs : List ByteArray) {i j : Nat} (h : i ≤ j) : endAt xs i ≤ endAt xs j := by
  induction h with
  | refl => exact Nat.le_refl _
  | step _ ih => rw [endAt_succ]; omega
end Go.Proofs.Ythlllcmffgdcmaa.Torn

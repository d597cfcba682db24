/- Plain facts on a segment of which a burst of the body's bits is spoilt: it is opened just if nothing is another, and else the sum is told. No program in sight. -/
import Derived.Test.YthlllcmffgdcmaaSegPlain
import Derived.Test.YthlllcmffgdcmaaBurstPlain
namespace Go.Proofs.Ythlllcmffgdcmaa.SegPlain
open Go.Proofs.Ythlllcmffgdcmaa.LebPlain Go.Proofs.Ythlllcmffgdcmaa.RecPlain Go.Proofs.Ythlllcmffgdcmaa.CrcPlain

theorem flip_app (A B C : List Nat) (k : Nat) (hk : k < 8 * B.length) : CrcPlain.flip (A ++ B ++ C) (8 * A.length + k) = A ++ CrcPlain.flip B k ++ C := by
  have e1 : (8 * A.length + k) / 8 = A.length + k / 8 := by omega
  have e2 : (8 * A.length + k) % 8 = k % 8 := by omega
  have e3 : k / 8 < B.length := by omega
  unfold CrcPlain.flip
  rw [e1, e2, List.append_assoc, List.set_append_right _ _ (by omega), Nat.add_sub_cancel_left, List.set_append_left _ _ e3, List.append_assoc]
  congr 3
  rw [List.getD_eq_getElem?_getD, List.getD_eq_getElem?_getD, List.getElem?_append_right (by omega), Nat.add_sub_cancel_left, List.getElem?_append_left e3]

theorem spoil_app (A B C : List Nat) (v bit : Nat) : ∀ i, bit + i ≤ 8 * B.length → spoil (A ++ B ++ C) v (8 * A.length + bit) i = A ++ spoil B v bit i ++ C
  | 0, _ => rfl
  | i + 1, h => by
    have ih := spoil_app A B C v bit i (by omega)
    rw [spoil, spoil, ih]
    split
    · rw [Nat.add_assoc, flip_app _ _ _ _ (by rw [spoil_length]; omega)]
    · rfl

theorem openL_sum (seq n : Nat) (B F : List Nat) (hs : seq < 18446744073709551616) (hn : n ≤ 4096) (hB : B.length = n) (hF : F.length = 4) :
    (openL (headOf seq n ++ B ++ F)).2.2.2 = if F = four (sumN (headOf seq n ++ B)) then 0 else 7 := by
  have hh := headL_frame seq n hs hn (B ++ F)
  rw [← List.append_assoc] at hh
  unfold openL
  rw [hh]
  simp only
  rw [if_neg (by simp), if_neg (by simp only [List.length_append]; omega)]
  have d1 : (headOf seq n ++ B ++ F).drop ((headOf seq n).length + n) = F := by
    rw [← hB, ← List.length_append, List.drop_left]
  have t1 : (headOf seq n ++ B ++ F).take ((headOf seq n).length + n) = headOf seq n ++ B := by
    rw [← hB, ← List.length_append, List.take_left]
  rw [d1, t1, List.take_of_length_le (by omega)]
  by_cases h : F = four (sumN (headOf seq n ++ B))
  · rw [if_neg (by simp [h]), if_pos h]
  · rw [if_pos h, if_neg h]

/-- A segment of which up to 32 bits of the body, beside each other, are turned. -/
theorem spoilt_open (seq : Nat) (B : List Nat) (hs : seq < 18446744073709551616) (hn : B.length ≤ 4096) (hB : ∀ b ∈ B, b < 256) (v bit i : Nat) (hi : i ≤ 32) (hb : bit + i ≤ 8 * B.length) :
    (openL (spoil (frameL seq B) v (8 * (headOf seq B.length).length + bit) i)).2.2.2 = if spoil (frameL seq B) v (8 * (headOf seq B.length).length + bit) i = frameL seq B then 0 else 7 := by
  unfold frameL
  rw [spoil_app _ _ _ _ _ _ hb, openL_sum seq B.length _ _ hs hn (spoil_length _ _ _ _) (four_len _)]
  have hH := headOf_lt seq B.length
  have key := spoil_sum (crcN 4294967295 (headOf seq B.length)) B hB v bit i hi hb
  rw [← crcN_append, ← crcN_append] at key
  have l1 : ∀ b ∈ headOf seq B.length ++ spoil B v bit i, b < 256 := by
    intro b h; rcases List.mem_append.1 h with h | h
    · exact hH b h
    · exact spoil_lt _ _ _ _ hB b h
  have l2 : ∀ b ∈ headOf seq B.length ++ B, b < 256 := by
    intro b h; rcases List.mem_append.1 h with h | h
    · exact hH b h
    · exact hB b h
  have c1 := crcN_lt _ 4294967295 (by decide) l1
  have c2 := crcN_lt _ 4294967295 (by decide) l2
  by_cases h : spoil B v bit i = B
  · rw [h, if_pos rfl, if_pos rfl]
  · rw [if_neg, if_neg]
    · intro he
      exact h (List.append_cancel_left (List.append_cancel_right he))
    · intro he
      have := four_inj _ _ (sumN_lt _) (sumN_lt _) he
      unfold sumN at this
      exact h (key.1 (by omega))

end Go.Proofs.Ythlllcmffgdcmaa.SegPlain

/- The printed crc.Of and the document's sum (of the law CrcBurst) answer as the plain sum. -/
import Derived.Test.YthdnlhcepndncaaQCrcBurstx1
import Derived.Test.YthdnlhcepndncaaCrcLink
namespace Go.Proofs.Ythdnlhcepndncaa.CrcSumCrcBurst
open Go.RowKit Go.Proofs.Ythdnlhcepndncaa.QCrcBurst Go.Proofs.YthdnlhcepndncaaW.PrintWords Go.Proofs.YthdnlhcepndncaaW.PrintLast Go.Proofs.Ythdnlhcepndncaa.Crc Go.Proofs.Ythdnlhcepndncaa.CrcPlain Go.Proofs.Ythdnlhcepndncaa.CrcLink Go.Proofs.Ythdnlhcepndncaa.LebWords

/-- The bytes of some texts. -/
def allB (l : List ByteArray) : List Nat := l.flatMap bl

theorem allB_lt (l : List ByteArray) : ∀ b ∈ allB l, b < 256 := by
  intro b hb
  obtain ⟨s, _, h⟩ := List.mem_flatMap.1 hb
  exact bl_lt s b h

theorem allB_snoc (l : List ByteArray) (s : ByteArray) : allB (l ++ [s]) = allB l ++ bl s := by simp [allB]
theorem allB_nil : allB [] = [] := rfl

theorem of_l0 (l : List ByteArray) (hl : l.length ≤ 1000000) (hs : ∀ s ∈ l, s.size ≤ 140737488351232) : ∀ (d i k : Nat), i + d = l.length → d < k →
    crc_Of.l0 k l (l.length : Int) (i : Int) ((sumN (allB (l.take i)) : Nat) : Int) = some ((sumN (allB l) : Nat) : Int) := by
  intro d
  induction d with
  | zero =>
    intro i k hi hk
    obtain ⟨k, rfl⟩ : ∃ m, k = m + 1 := ⟨k - 1, by omega⟩
    obtain rfl : i = l.length := by omega
    rw [crc_Of.l0, if_neg (by omega), List.take_length]
    rfl
  | succ d ih =>
    intro i k hi hk
    obtain ⟨k, rfl⟩ : ∃ m, k = m + 1 := ⟨k - 1, by omega⟩
    have hlt : i < l.length := by omega
    have hr : rdOf ByteArray.empty l (i : Int) = l[i] := by simp [rdOf, List.getD, hlt]
    have hn := ih (i + 1) k (by omega) (by omega)
    have hsz := hs l[i] (List.getElem_mem hlt)
    rw [List.take_succ_eq_append_getElem hlt, allB_snoc, ← addN_sum _ _ (allB_lt _)] at hn
    rw [crc_Of.l0, if_pos (by omega), if_pos (by omega), if_pos (by omega), hr, add_f _ (sumN_lt _) _ hsz, Option.bind_some, show wrap64 ((i : Int) + 1) = ((i + 1 : Nat) : Int) from by unfold wrap64; omega]
    exact hn

theorem of_f (l : List ByteArray) (hl : l.length ≤ 1000000) (hs : ∀ s ∈ l, s.size ≤ 140737488351232) (k : Nat) (hk : l.length < k) : crc_Of.f k l = some ((sumN (allB l) : Nat) : Int) := by
  have := of_l0 l hl hs l.length 0 k (by omega) hk
  rw [List.take_zero, allB_nil, sumN_nil] at this
  exact this

theorem awake3 (k : Nat) (hk : 5 ≤ k) : shunterlaw03_awake.f k = some true := by
  have h1 := of_f [(⟨#[49, 50, 51, 52, 53, 54, 55, 56, 57]⟩ : ByteArray)] (by simp) (by intro s hs; simp only [List.mem_singleton] at hs; subst hs; decide) k (by simp only [List.length_singleton]; omega)
  have h2 := of_f [] (by simp) (by simp) k (by simp only [List.length_nil]; omega)
  have e1 : sumN (allB [(⟨#[49, 50, 51, 52, 53, 54, 55, 56, 57]⟩ : ByteArray)]) = 3421780262 := by
    show sumN [49, 50, 51, 52, 53, 54, 55, 56, 57] = 3421780262
    unfold sumN
    simp only [crcN_cons, crcN_nil, s8_eq]
    decide +kernel
  have e2 : sumN (allB []) = 0 := sumN_nil
  unfold shunterlaw03_awake.f
  rw [h1, Option.bind_some, e1, if_pos (by decide), h2, Option.bind_some, e2]
  rfl

end Go.Proofs.Ythdnlhcepndncaa.CrcSumCrcBurst

/- Of any three texts of at most 40 bytes the sums of their orders are those of the joined texts. For every three strings (of at most 2^47 - 4096 bytes, the form's reach). -/
import Derived.Test.YthdnlhcepndncaaQCrcOrderx2
import Derived.Test.YthdnlhcepndncaaCrcSumCrcOrder
namespace Go.Proofs.Ythdnlhcepndncaa.Pure
open Go.RowKit Go.Proofs.Ythdnlhcepndncaa.QCrcOrder Go.Proofs.YthdnlhcepndncaaW.PrintWords Go.Proofs.YthdnlhcepndncaaW.PrintLast Go.Proofs.Ythdnlhcepndncaa.Crc Go.Proofs.Ythdnlhcepndncaa.CrcPlain Go.Proofs.Ythdnlhcepndncaa.CrcLink Go.Proofs.Ythdnlhcepndncaa.LebWords Go.Proofs.Ythdnlhcepndncaa.CrcSumCrcOrder

theorem cutO_f (s : ByteArray) (n : Nat) : ∃ t, shunterlaw01_Cut.f s (n : Int) = some t ∧ t.size ≤ n ∧ t.size ≤ s.size := by
  unfold shunterlaw01_Cut.f
  by_cases h : (s.size : Int) > (n : Int)
  · rw [if_pos h, if_pos (by omega), if_pos (by omega)]
    refine ⟨_, rfl, ?_, ?_⟩ <;> simp only [ByteArray.size_extract, Int.toNat_natCast] <;> omega
  · rw [if_neg h]; exact ⟨s, rfl, by omega, by omega⟩

theorem sumO_f (x : Int) : crc_State_Sum.f x = some x := rfl

theorem CrcOrder : shunterlaw03_CrcOrder.Pure := by
  intro a0 a1 a2 w0 w1 w2
  refine ⟨2000, ?_⟩
  obtain ⟨a, ha, ha40, _⟩ := cutO_f a0 40
  obtain ⟨b, hb, hb40, _⟩ := cutO_f a1 40
  obtain ⟨c, hc, hc40, _⟩ := cutO_f a2 40
  have f1 : crc_State_Add.f 0 a = some ((sumN (bl a) : Nat) : Int) := add_f 0 (by omega) a (by omega)
  have f2 : ∀ l s, (∀ x ∈ l, x < 256) → s.size ≤ 40 → crc_State_Add.f ((sumN l : Nat) : Int) s = some ((sumN (l ++ bl s) : Nat) : Int) := by
    intro l s hl hs
    rw [add_f _ (sumN_lt l) s (by omega), addN_sum l (bl s) hl]
  have l1 : ∀ x ∈ bl a, x < 256 := bl_lt a
  have l2 : ∀ x ∈ bl a ++ bl b, x < 256 := by rw [← bl_append]; exact bl_lt _
  have l3 : ∀ x ∈ bl a ++ bl c, x < 256 := by rw [← bl_append]; exact bl_lt _
  have s1 : (a ++ b).size = a.size + b.size := ByteArray.size_append
  have s2 : (a ++ c).size = a.size + c.size := ByteArray.size_append
  have s3 : ((a ++ b) ++ c).size = a.size + b.size + c.size := by rw [ByteArray.size_append, s1]
  have s4 : ((a ++ c) ++ b).size = a.size + c.size + b.size := by rw [ByteArray.size_append, s2]
  have r1 := ref_sum ((a ++ b) ++ c) (by omega) 2000 (by omega)
  have r2 := ref_sum ((a ++ c) ++ b) (by omega) 2000 (by omega)
  rw [bl_append, bl_append] at r1 r2
  have o1 := of_f [a] (by simp) (by intro s hs; simp only [List.mem_singleton] at hs; subst hs; omega) 2000 (by simp)
  have o2 := of_f [a, b, c] (by simp) (by intro s hs; simp only [List.mem_cons, List.not_mem_nil, or_false] at hs; rcases hs with rfl | rfl | rfl <;> omega) 2000 (by simp)
  have e1 : allB [a] = bl a := by simp [allB]
  have e2 : allB [a, b, c] = bl a ++ bl b ++ bl c := by simp [allB]
  rw [e1] at o1
  rw [e2] at o2
  unfold shunterlaw03_CrcOrder.f
  rw [awake3 2000 (by omega), Option.bind_some, if_pos rfl, show (40 : Int) = ((40 : Nat) : Int) from rfl, ha, Option.bind_some, hb, Option.bind_some, hc, Option.bind_some,
    f1, Option.bind_some, f2 _ b l1 hb40, Option.bind_some, f2 _ c l2 hc40, Option.bind_some, f2 _ c l1 hc40, Option.bind_some, f2 _ b l3 hb40, Option.bind_some, sumO_f, Option.bind_some,
    if_pos (by omega), if_pos (by omega), r1, Option.bind_some, if_pos rfl, sumO_f, Option.bind_some, if_pos (by omega), if_pos (by omega), r2, Option.bind_some, if_pos rfl, sumO_f, Option.bind_some, o1, Option.bind_some, if_pos rfl,
    o2, Option.bind_some, Option.bind_some]
  simp

end Go.Proofs.Ythdnlhcepndncaa.Pure

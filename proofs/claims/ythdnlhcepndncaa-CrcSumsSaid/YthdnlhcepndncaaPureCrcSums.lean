/- The sum of any text of at most 200 bytes is the one that the polynomial gives, however the text is parted. For every string (of at most 2^47 - 4096 bytes, the form's reach) and every two places. -/
import Derived.Test.YthdnlhcepndncaaQCrcSumsx2
import Derived.Test.YthdnlhcepndncaaCrcSumCrcSums
namespace Go.Proofs.Ythdnlhcepndncaa.Pure
open Go.RowKit Go.Proofs.Ythdnlhcepndncaa.QCrcSums Go.Proofs.YthdnlhcepndncaaW.PrintWords Go.Proofs.YthdnlhcepndncaaW.PrintLast Go.Proofs.Ythdnlhcepndncaa.Crc Go.Proofs.Ythdnlhcepndncaa.CrcPlain Go.Proofs.Ythdnlhcepndncaa.CrcLink Go.Proofs.Ythdnlhcepndncaa.LebWords Go.Proofs.Ythdnlhcepndncaa.CrcSumCrcSums

theorem cutS_f (s : ByteArray) (n : Nat) : ∃ t, shunterlaw01_Cut.f s (n : Int) = some t ∧ t.size ≤ n ∧ t.size ≤ s.size := by
  unfold shunterlaw01_Cut.f
  by_cases h : (s.size : Int) > (n : Int)
  · rw [if_pos h, if_pos (by omega), if_pos (by omega)]
    refine ⟨_, rfl, ?_, ?_⟩ <;> simp only [ByteArray.size_extract, Int.toNat_natCast] <;> omega
  · rw [if_neg h]; exact ⟨s, rfl, by omega, by omega⟩

theorem sumS_f (x : Int) : crc_State_Sum.f x = some x := rfl

theorem CrcSums : shunterlaw03_CrcSums.Pure := by
  intro a0 a1 a2 w0 w1 w2
  refine ⟨3000, ?_⟩
  obtain ⟨t, ht, ht200, _⟩ := cutS_f a0 200
  obtain ⟨i, hi, hit⟩ : ∃ i : Nat, mn (mx a1 0) (t.size : Int) = (i : Int) ∧ i ≤ t.size := by
    refine ⟨(mn (mx a1 0) (t.size : Int)).toNat, ?_, ?_⟩ <;> (unfold mn mx; repeat' split) <;> omega
  obtain ⟨k, hk, hik, hkt⟩ : ∃ k : Nat, mn (mx a2 (i : Int)) (t.size : Int) = (k : Int) ∧ i ≤ k ∧ k ≤ t.size := by
    refine ⟨(mn (mx a2 (i : Int)) (t.size : Int)).toNat, ?_, ?_, ?_⟩ <;> (unfold mn mx; repeat' split) <;> omega
  have g1 : bl (t.extract 0 i) = (bl t).take i := by rw [bl_extract]; simp
  have g2 : bl (t.extract i k) = ((bl t).drop i).take (k - i) := bl_extract t i k
  have g3 : bl (t.extract k t.size) = (bl t).drop k := by rw [bl_extract, List.take_of_length_le (by rw [List.length_drop, bl_length]; omega)]
  have j1 : (bl t).take i ++ ((bl t).drop i).take (k - i) = (bl t).take k := by
    rw [← List.take_add, show i + (k - i) = k from by omega]
  have lt : ∀ x ∈ bl t, x < 256 := bl_lt t
  have z1 : (t.extract 0 i).size ≤ 200 := by rw [ByteArray.size_extract]; omega
  have z2 : (t.extract i k).size ≤ 200 := by rw [ByteArray.size_extract]; omega
  have z3 : (t.extract k t.size).size ≤ 200 := by rw [ByteArray.size_extract]; omega
  have f1 : crc_State_Add.f 0 (t.extract 0 i) = some ((sumN ((bl t).take i) : Nat) : Int) := by rw [← g1]; exact add_f 0 (by omega) _ (by omega)
  have f2 : crc_State_Add.f ((sumN ((bl t).take i) : Nat) : Int) (t.extract i k) = some ((sumN ((bl t).take k) : Nat) : Int) := by
    rw [add_f _ (sumN_lt _) _ (by omega), addN_sum _ _ (fun x hx => lt x (List.mem_of_mem_take hx)), g2, j1]
  have f3 : crc_State_Add.f ((sumN ((bl t).take k) : Nat) : Int) (t.extract k t.size) = some ((sumN (bl t) : Nat) : Int) := by
    rw [add_f _ (sumN_lt _) _ (by omega), addN_sum _ _ (fun x hx => lt x (List.mem_of_mem_take hx)), g3, List.take_append_drop]
  have r1 := ref_sum t (by omega) 3000 (by omega)
  have r2 := ref_sum (t.extract 0 i) (by omega) 3000 (by omega)
  rw [g1] at r2
  have o1 := of_f [t] (by simp) (by intro s hs; simp only [List.mem_singleton] at hs; subst hs; omega) 3000 (by simp)
  have o2 := of_f [t.extract 0 i, t.extract i k, t.extract k t.size] (by simp) (by intro s hs; simp only [List.mem_cons, List.not_mem_nil, or_false] at hs; rcases hs with rfl | rfl | rfl <;> omega) 3000 (by simp)
  have e1 : allB [t] = bl t := by simp [allB]
  have e2 : allB [t.extract 0 i, t.extract i k, t.extract k t.size] = bl t := by
    simp only [allB, List.flatMap_cons, List.flatMap_nil, List.append_nil, g1, g2, g3]
    rw [← List.append_assoc, j1, List.take_append_drop]
  rw [e1] at o1
  rw [e2] at o2
  unfold shunterlaw03_CrcSums.f
  rw [show (200 : Int) = ((200 : Nat) : Int) from rfl, ht, Option.bind_some, awake3 3000 (by omega), Option.bind_some, if_pos rfl, hi, hk]
  simp only [Int.toNat_natCast]
  rw [if_pos (by omega), if_pos (by omega), f1, Option.bind_some, if_pos (by omega), if_pos (by omega), f2, Option.bind_some, o1, Option.bind_some, r1, Option.bind_some, if_pos rfl, if_pos (by omega), o2, Option.bind_some, Option.bind_some, if_pos rfl,
    f3, Option.bind_some, sumS_f, Option.bind_some, Option.bind_some, if_pos rfl, sumS_f, Option.bind_some, r2, Option.bind_some]
  simp

end Go.Proofs.Ythdnlhcepndncaa.Pure

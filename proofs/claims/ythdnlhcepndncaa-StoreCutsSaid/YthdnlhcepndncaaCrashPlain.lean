/- What stands in a store behind a crash, as texts. -/
import Derived.Test.YthdnlhcepndncaaCopy
namespace Go.Proofs.Ythdnlhcepndncaa.Copy
open Go.RowKit Go.Proofs.YthdnlhcepndncaaW.PrintWords

theorem strOf_bytes (s : ByteArray) : strOfNums (bytesOf s) = s := by
  apply ByteArray.ext
  apply Array.ext'
  rw [strOfNums_data, bytesOf, List.map_map]
  conv => rhs; rw [← List.map_id s.data.toList]
  apply List.map_congr_left
  intro b _
  simp
theorem strOf_append (xs ys : List Int) : strOfNums (xs ++ ys) = strOfNums xs ++ strOfNums ys := by
  apply ByteArray.ext
  apply Array.ext'
  simp [strOfNums, ByteArray.data_append]
theorem add_front (a r : ByteArray) : (a ++ r).extract 0 a.size = a := by
  apply ByteArray.ext
  rw [ByteArray.data_extract, ByteArray.data_append]
  apply Array.ext'
  rw [Array.toList_extract, Array.toList_append, List.extract_eq_take_drop, Nat.sub_zero, List.drop_zero]
  exact List.take_left' (data_length a)
theorem add_back (a r : ByteArray) : (a ++ r).extract a.size (a ++ r).size = r := by
  apply ByteArray.ext
  rw [ByteArray.data_extract, ByteArray.data_append]
  apply Array.ext'
  rw [Array.toList_extract, Array.toList_append, List.extract_eq_take_drop, List.drop_left' (data_length a)]
  exact List.take_of_length_le (by rw [data_length, ByteArray.size_append]; omega)

theorem rd_over (t : List Int) (y : ByteArray) (i : Nat) (h : i < t.length) : rd (over t 0 y) (i : Int) = if i < y.size then bt y (i : Int) else rd t (i : Int) := by
  unfold rd over
  simp only [List.take_zero, List.nil_append, Nat.sub_zero, Nat.zero_add, Int.toNat_natCast]
  rw [List.getD_eq_getElem?_getD, List.getD_eq_getElem?_getD]
  have hl : ((bytesOf y).take t.length).length = min y.size t.length := by rw [List.length_take, bytesOf_length, Nat.min_comm]
  by_cases hy : i < y.size
  · rw [if_pos hy, List.getElem?_append_left (by rw [hl]; omega), List.getElem?_take_of_lt (by omega), ← rd_bytesOf, rd, Int.toNat_natCast, List.getD_eq_getElem?_getD]
  · rw [if_neg hy, List.getElem?_append_right (by rw [hl]; omega), hl, List.getElem?_drop]
    congr 2
    omega

theorem over_shift (a t : List Int) (y : ByteArray) : over (a ++ t) a.length y = a ++ over t 0 y := by
  unfold over
  have e1 : (a ++ t).length - a.length = t.length := by rw [List.length_append]; omega
  rw [e1, List.take_left, List.take_zero, List.nil_append, Nat.zero_add, Nat.sub_zero, List.append_assoc, List.drop_length_add_append]

theorem crash_text (a t y : ByteArray) (k : Nat) (hk : k ≤ t.size) (L : List Int) (hL : L = over ((bytesOf a ++ bytesOf t).take (a.size + k)) a.size y) :
    L.length = a.size + k ∧ ∃ R : ByteArray, strOfNums L = a ++ R ∧ R.size = k ∧ ∀ i : Nat, i < k → bt R (i : Int) = if i < y.size then bt y (i : Int) else bt t (i : Int) := by
  have e1 : (bytesOf a ++ bytesOf t).take (a.size + k) = bytesOf a ++ (bytesOf t).take k := by
    rw [← bytesOf_length a, List.take_length_add_append]
  have hl : ((bytesOf t).take k).length = k := by rw [List.length_take, bytesOf_length]; omega
  have e2 : L = bytesOf a ++ over ((bytesOf t).take k) 0 y := by
    rw [hL, e1, ← over_shift, bytesOf_length]
  have e3 : L.length = a.size + k := by rw [e2, List.length_append, bytesOf_length, over_length _ _ _ (by omega), hl]
  refine ⟨e3, strOfNums (over ((bytesOf t).take k) 0 y), by rw [e2, strOf_append, strOf_bytes], by rw [strOfNums_size, over_length _ _ _ (by omega), hl], fun i hi => ?_⟩
  have hr : ∀ q ∈ over ((bytesOf t).take k) 0 y, 0 ≤ q ∧ q < 256 := by
    intro q hq
    have hb : ∀ (s : ByteArray), ∀ z ∈ bytesOf s, 0 ≤ z ∧ z < 256 := by
      intro s z hz
      unfold bytesOf at hz
      obtain ⟨c, _, rfl⟩ := List.mem_map.1 hz
      have := c.toNat_lt
      omega
    unfold over at hq
    rcases List.mem_append.1 hq with hq | hq
    · rcases List.mem_append.1 hq with hq | hq
      · simp at hq
      · exact hb y q (List.mem_of_mem_take hq)
    · exact hb t q (List.mem_of_mem_take (List.mem_of_mem_drop hq))
  have h1 : bt (strOfNums (over ((bytesOf t).take k) 0 y)) (i : Int) = rd (over ((bytesOf t).take k) 0 y) (i : Int) := by
    rw [← rd_bytesOf]
    congr 1
    generalize over ((bytesOf t).take k) 0 y = zs at hr ⊢
    unfold bytesOf
    rw [strOfNums_data, List.map_map]
    conv => rhs; rw [← List.map_id zs]
    apply List.map_congr_left
    intro q hq
    obtain ⟨h0, h256⟩ := hr q hq
    simp [UInt8.toNat_ofNat']
    omega
  rw [h1, rd_over _ _ _ (by omega)]
  split
  · rfl
  · rw [← rd_bytesOf]
    unfold rd
    rw [List.getD_eq_getElem?_getD, List.getD_eq_getElem?_getD, Int.toNat_natCast, List.getElem?_take_of_lt hi]
end Go.Proofs.Ythdnlhcepndncaa.Copy

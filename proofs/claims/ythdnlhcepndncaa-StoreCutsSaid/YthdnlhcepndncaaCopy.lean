/- copy(row[o:], text) into a row of the call's own: the bytes behind o are the text's, as far as both reach. -/
import Derived.Laws.CopyRow
import Derived.Laws.Tables
import Derived.Lib.SlBuf
import Derived.Test.YthdnlhcepndncaaWMore
namespace Go.Proofs.Ythdnlhcepndncaa.Copy
open Go.RowKit Go.Proofs.YthdnlhcepndncaaW.PrintWords Go.Proofs.YthdnlhcepndncaaW.PrintLast Go.Proofs.YthdnlhcepndncaaW.PrintMore
set_option linter.unusedVariables false
set_option linter.unusedSimpArgs false

/-- A row with a text laid over it from o on, as far as both reach. -/
def over (xs : List Int) (o : Nat) (s : ByteArray) : List Int := xs.take o ++ (bytesOf s).take (xs.length - o) ++ xs.drop (o + min s.size (xs.length - o))

theorem over_length (xs : List Int) (o : Nat) (s : ByteArray) (h : o ≤ xs.length) : (over xs o s).length = xs.length := by
  simp only [over, List.length_append, List.length_take, List.length_drop, bytesOf_length]
  omega
theorem over_none (xs : List Int) (o : Nat) (s : ByteArray) (h : min s.size (xs.length - o) = 0) : over xs o s = xs := by
  have e : (bytesOf s).take (xs.length - o) = [] := by
    apply List.eq_nil_of_length_eq_zero
    rw [List.length_take, bytesOf_length, Nat.min_comm]; exact h
  rw [over, h, e, List.append_nil, Nat.add_zero, List.take_append_drop]

theorem extract_cells (s : ByteArray) (n : Nat) : ((s.extract 0 n).data.map fun b => Value.int .u8 (b.toNat : Int)).toList = nums .u8 ((bytesOf s).take n) := by
  simp only [nums, bytesOf, Array.toList_map, List.map_map, List.map_take]
  rw [show (s.extract 0 n).data.toList = s.data.toList.take n by simp [ByteArray.data_extract]]
  rw [List.map_take]; rfl

theorem run_copy_text {P : Program} (w : World) (dT sT ty e : TypeId) (hu : P.underlying dT = some (.slice e)) (hs : (P.info? e).map (·.size) = some 1) (B : Nat) (A : Option Addr) (c : Nat) (xs : List Int)
    (ho : w.ownsRow B e 1 (.slice A xs.length c) xs.length (nums .u8 xs)) (o : Nat) (hle : o ≤ xs.length) (s : ByteArray) :
    ∃ w', (Builtin.copy_ #[dT, sT] ty #[.slice (if c = o then A else A.map (·.add o)) (xs.length - o) (c - o), .string s]).run P w = .ok (goInt ((min s.size (xs.length - o) : Nat) : Int)) w' ∧
      w'.ownsRow B e 1 (.slice A xs.length c) (over xs o s).length (nums .u8 (over xs o s)) ∧ w.grownBy w' (Value.slice A xs.length c).ownBlock := by
  obtain ⟨i, hq, hi⟩ := Option.map_eq_some_iff.1 hs
  rcases Nat.eq_zero_or_pos (min s.size (xs.length - o)) with h0 | hp
  · refine ⟨w, ?_, ?_, World.grownBy.refl w _⟩
    · have h0' : Nat.min s.size (xs.length - o) = 0 := h0
      have hz : ((s.extract 0 0).data.map fun b => Value.int .u8 (b.toNat : Int)).toList = [] := by rw [extract_cells]; rfl
      cases hA : (if c = o then A else A.map (·.add o)) <;> simp [Builtin.copy_, run_underlying hu, Builtin.lenOf, Builtin.firstCells, sizeOf, typeInfo, hq, h0', storeCells]
    · rw [over_none xs o s h0]; exact ho
  · rcases ho.2 with ⟨_, hx0⟩ | ⟨g, cap, cur, hv, hb, hh, hnc, hcm, hcs, htake⟩
    · omega
    · injection hv with hA _ hc
      subst hA; subst hc
      have hne : ¬ c = o := by omega
      rw [if_neg hne, Option.map_some, add_plain]
      have hmin : Nat.min s.size (xs.length - o) = min s.size (xs.length - o) := rfl
      have hkl : (nums .u8 ((bytesOf s).take (min s.size (xs.length - o)))).length = min s.size (xs.length - o) := by
        rw [nums_length, List.length_take, bytesOf_length]; omega
      have hst := run_storeCells_at P g o e (nums .u8 ((bytesOf s).take (min s.size (xs.length - o)))) 0 cur w hh (by rw [hkl]; omega) (by
        intro v hv
        simp only [nums, List.mem_map] at hv
        obtain ⟨q, _, rfl⟩ := hv
        rfl)
      simp only [Nat.add_zero, hkl] at hst
      refine ⟨w.setRow g (cur.toList.take o ++ nums .u8 ((bytesOf s).take (min s.size (xs.length - o))) ++ cur.toList.drop (o + min s.size (xs.length - o))).toArray, ?_, ?_, ?_⟩
      · have hx := extract_cells s (min s.size (xs.length - o))
        simp only [Builtin.copy_, Sem.run_bind, run_underlying hu, Builtin.lenOf, Builtin.firstCells, sizeOf, typeInfo, hq, hi, hmin, List.getElem?_toArray, List.getElem?_cons_zero, List.getElem?_cons_succ, Sem.run_pure, Result.andThen_ok, hx, hst]
        simp [hx, hst, hi, hq, typeInfo, Result.andThen]
      · rw [over_length xs o s hle]
        have hbl : (bytesOf s).take (xs.length - o) = (bytesOf s).take (min s.size (xs.length - o)) := by
          rcases Nat.le_total s.size (xs.length - o) with h | h
          · rw [Nat.min_eq_left h, List.take_of_length_le (by rw [bytesOf_length]; exact h), List.take_of_length_le (by rw [bytesOf_length]; exact Nat.le_refl _)]
          · rw [Nat.min_eq_right h]
        refine ⟨by rw [nums_length, over_length xs o s hle, Nat.mul_one], .inr ⟨g, c, _, rfl, hb, setRow_heap w g cur _ e (0, 0) hh, hnc, hcm, ?_, ?_⟩⟩
        · simp only [List.size_toArray, List.length_append, List.length_take, List.length_drop, hkl, Array.length_toList]
          omega
        · rw [Nat.mul_one, over, hbl, nums_append, nums_append, List.toList_toArray]
          have ht : nums .u8 xs = cur.toList.take xs.length := by rw [← htake, Nat.mul_one]
          have t1 : nums .u8 (xs.take o) = cur.toList.take o := by
            rw [show nums .u8 (xs.take o) = (nums .u8 xs).take o by simp [nums, List.map_take], ht, List.take_take, Nat.min_eq_left hle]
          have t2 : nums .u8 (xs.drop (o + min s.size (xs.length - o))) = (cur.toList.drop (o + min s.size (xs.length - o))).take (xs.length - (o + min s.size (xs.length - o))) := by
            rw [show nums .u8 (xs.drop (o + min s.size (xs.length - o))) = (nums .u8 xs).drop (o + min s.size (xs.length - o)) by simp [nums, List.map_drop], ht, List.drop_take]
          have hcl : cur.toList.length = c := by rw [Array.length_toList]; omega
          rw [t1, t2, List.take_append, List.take_of_length_le (by simp only [List.length_append, List.length_take, hkl]; omega)]
          congr 2
          simp only [List.length_append, List.length_take, hkl]
          omega
      · refine ⟨rfl, rfl, rfl, by rw [setRow_size]; exact Nat.le_refl _, fun k _ hk => setRow_other _ _ _ _ (fun he => hk (by rw [he]; rfl))⟩
end Go.Proofs.Ythdnlhcepndncaa.Copy

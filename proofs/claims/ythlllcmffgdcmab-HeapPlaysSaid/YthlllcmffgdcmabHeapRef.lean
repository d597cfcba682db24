/- The reference's heap, a list in order: its Push, Cancel and Wake, and the comparison, as plain functions over items. -/
import Derived.Test.YthlllcmffgdcmabQHeapPlaysx3
import Derived.Test.YthlllcmffgdcmabHeap14
namespace Go.Proofs.Ythlllcmffgdcmab.Heap
open Go.RowKit Go.Proofs.YthlllcmffgdcmabW.PrintWords Go.Proofs.YthlllcmffgdcmabW.PrintLast Go.Proofs.YthlllcmffgdcmabW.PrintMore Go.Proofs.Ythlllcmffgdcmab.HeapPlain Go.Proofs.Ythlllcmffgdcmab.PHeapPlays
set_option linter.unusedVariables false
set_option linter.unusedSimpArgs false

def s7 (x : It) : S107 := ⟨x.t, x.s, x.d⟩
def s8 (x : It) : S88 := ⟨x.t, x.s, x.d⟩
theorem rd7 (x : List It) (i : Nat) (h : i < x.length) : rd_T107 (x.map s7) (i : Int) = s7 (g x i) := by
  unfold rd_T107 g
  rw [Int.toNat_natCast, List.getD_eq_getElem?_getD, List.getD_eq_getElem?_getD, List.getElem?_map, List.getElem?_eq_getElem h]
  rfl
theorem rd8 (x : List It) (i : Nat) (h : i < x.length) : rd_T88 (x.map s8) (i : Int) = s8 (g x i) := by
  unfold rd_T88 g
  rw [Int.toNat_natCast, List.getD_eq_getElem?_getD, List.getD_eq_getElem?_getD, List.getElem?_map, List.getElem?_eq_getElem h]
  rfl
theorem drop_g (x : List It) (i : Nat) (h : i < x.length) : x.drop i = g x i :: x.drop (i + 1) := by
  rw [List.drop_eq_getElem_cons h]
  unfold g
  rw [List.getD_eq_getElem?_getD, List.getElem?_eq_getElem h]
  rfl
theorem wrap_n (i : Nat) (h : i ≤ 1000) : wrap64 ((i : Int) + 1) = ((i + 1 : Nat) : Int) := by unfold wrap64; omega

theorem push_l0_t (x : List It) (hx : x.length ≤ 1000) (at_ sq a b c : Int) (Q : List S107) : ∀ (k i : Nat) (out : List It), x.length - i < k → i ≤ x.length → out.length + (x.length - i) ≤ 2000 →
    shunterref09_Push.l0 k at_ (out.map s7) true (x.map s7) (x.length : Int) (i : Int) Q sq a b c = some ((out ++ x.drop i).map s7, IntKind.u64.wrap (sq + 1)) := by
  intro k
  induction k with
  | zero => intro i out h; omega
  | succ k ih =>
    intro i out hk hi ho
    rw [shunterref09_Push.l0]
    by_cases hlt : i < x.length
    · rw [if_pos (by omega), if_pos (by omega), if_pos (by rw [List.length_map]; omega), if_pos rfl, if_pos (by rw [List.length_map]; omega), rd7 x i hlt, wrap_n i (by omega)]
      have := ih (i + 1) (out ++ [g x i]) (by omega) (by omega) (by rw [List.length_append]; simp; omega)
      rw [List.map_append] at this
      refine Eq.trans this ?_
      rw [drop_g x i hlt, List.append_assoc]
      rfl
    · rw [if_neg (by omega), if_pos rfl, List.drop_eq_nil_of_le (by omega), List.append_nil]
theorem push_l0_f (x : List It) (hx : x.length ≤ 1000) (t sq d : Int) (Q : List S107) : ∀ (k i : Nat) (out : List It), x.length - i < k → i ≤ x.length → out.length + (x.length - i) ≤ 1900 →
    shunterref09_Push.l0 k t (out.map s7) false (x.map s7) (x.length : Int) (i : Int) Q sq t sq d = some ((out ++ ins (x.drop i) ⟨t, sq, d⟩).map s7, IntKind.u64.wrap (sq + 1)) := by
  intro k
  induction k with
  | zero => intro i out h; omega
  | succ k ih =>
    intro i out hk hi ho
    rw [shunterref09_Push.l0]
    by_cases hlt : i < x.length
    · rw [if_pos (by omega), if_pos (by omega), if_pos (by rw [List.length_map]; omega), if_neg (by simp), rd7 x i hlt, wrap_n i (by omega), drop_g x i hlt]
      by_cases ht : t < (g x i).t
      · rw [if_pos (show (s7 (g x i)).f0 > t from ht), if_pos (by rw [List.length_map]; omega), Option.bind_some, if_pos (by simp; omega)]
        have := push_l0_t x hx t sq t sq d Q k (i + 1) (out ++ [⟨t, sq, d⟩, g x i]) (by omega) (by omega) (by rw [List.length_append]; simp; omega)
        rw [ins, if_pos ht]
        rw [List.map_append] at this
        have e : List.map s7 out ++ [(⟨t, sq, d⟩ : S107)] ++ [⟨(s7 (g x i)).f0, (s7 (g x i)).f1, (s7 (g x i)).f2⟩] = List.map s7 out ++ List.map s7 [⟨t, sq, d⟩, g x i] := by rw [List.append_assoc]; rfl
        rw [e]
        refine this.trans ?_
        rw [List.append_assoc]
        rfl
      · rw [if_neg (show ¬ (s7 (g x i)).f0 > t from ht), if_pos (by rw [List.length_map]; omega)]
        have := ih (i + 1) (out ++ [g x i]) (by omega) (by omega) (by rw [List.length_append]; simp; omega)
        rw [ins, if_neg ht]
        rw [List.map_append] at this
        refine Eq.trans this ?_
        rw [List.append_assoc]
        rfl
    · rw [if_neg (by omega), if_neg (by simp), if_pos (by rw [List.length_map]; omega), List.drop_eq_nil_of_le (by omega), ins, List.map_append]
      rfl
theorem push_f (x : List It) (hx : x.length ≤ 1000) (t sq d : Int) (h0 : 0 ≤ sq) (h1 : sq ≤ 1000000) : shunterref09_Push.f (x.length + 1) (x.map s7) sq t d = some ((ins x ⟨t, sq, d⟩).map s7, sq + 1) := by
  have := push_l0_f x hx t sq d (x.map s7) (x.length + 1) 0 [] (by omega) (by omega) (by simp; omega)
  unfold shunterref09_Push.f
  rw [List.length_map]
  refine Eq.trans this ?_
  rw [List.drop_zero, List.nil_append, show IntKind.u64.wrap (sq + 1) = sq + 1 by rw [IntKind.wrap_u64]; omega]

theorem cancel_l0 (x : List It) (hx : x.length ≤ 1000) (s sq : Int) (Q : List S107) : ∀ (k i : Nat) (out : List It), x.length - i < k → i ≤ x.length → out.length + (x.length - i) ≤ 2000 →
    shunterref09_Cancel.l0 k s (out.map s7) (x.map s7) (x.length : Int) (i : Int) Q sq = some ((out ++ del (x.drop i) s).map s7, sq, decide (((out ++ del (x.drop i) s).length : Int) < (Q.length : Int))) := by
  intro k
  induction k with
  | zero => intro i out h; omega
  | succ k ih =>
    intro i out hk hi ho
    rw [shunterref09_Cancel.l0]
    by_cases hlt : i < x.length
    · rw [if_pos (by omega), if_pos (by omega), if_pos (by rw [List.length_map]; omega), rd7 x i hlt, wrap_n i (by omega), drop_g x i hlt]
      by_cases ht : (g x i).s = s
      · rw [if_pos (show (s7 (g x i)).f1 = s from ht)]
        have e : del (g x i :: x.drop (i + 1)) s = del (x.drop (i + 1)) s := by
          unfold del
          rw [List.filter_cons, if_neg (by simp [ht])]
        rw [e]
        exact ih (i + 1) out (by omega) (by omega) (by omega)
      · rw [if_neg (show ¬ (s7 (g x i)).f1 = s from ht), if_pos (by rw [List.length_map]; omega)]
        have e : del (g x i :: x.drop (i + 1)) s = g x i :: del (x.drop (i + 1)) s := by
          unfold del
          rw [List.filter_cons, if_pos (by simp [ht])]
        have := ih (i + 1) (out ++ [g x i]) (by omega) (by omega) (by rw [List.length_append]; simp; omega)
        rw [e]
        rw [List.map_append] at this
        refine Eq.trans this ?_
        rw [List.append_assoc]
        rfl
    · rw [if_neg (by omega), List.drop_eq_nil_of_le (by omega)]
      have e : del [] s = [] := rfl
      rw [e, List.append_nil, List.length_map]
theorem cancel_f (x : List It) (hx : x.length ≤ 1000) (s sq : Int) : shunterref09_Cancel.f (x.length + 1) (x.map s7) sq s = some ((del x s).map s7, sq, decide ((del x s).length < x.length)) := by
  have := cancel_l0 x hx s sq (x.map s7) (x.length + 1) 0 [] (by omega) (by omega) (by simp; omega)
  unfold shunterref09_Cancel.f
  rw [List.length_map]
  refine Eq.trans this ?_
  rw [List.drop_zero, List.nil_append, List.length_map]
  congr 3
  rw [Bool.eq_iff_iff]
  simp

theorem wk_nw (x : List It) (now : Int) : wk x now = x.take (wk x now).length ∧ nw x now = x.drop (wk x now).length := by
  have e : wk x now ++ nw x now = x := List.takeWhile_append_dropWhile
  constructor
  · conv => rhs; rw [← e]
    rw [List.take_left']
    rw [e]
  · conv => rhs; rw [← e]
    rw [List.drop_left']
    rw [e]
theorem wk_at : ∀ (x : List It) (now : Int) (i : Nat), (i < (wk x now).length → (g x i).t ≤ now) ∧ (i = (wk x now).length → i < x.length → ¬ (g x i).t ≤ now) := by
  intro x now
  induction x with
  | nil => intro i; exact ⟨fun h => by simp [wk] at h, fun _ h => by simp at h⟩
  | cons a x ih =>
    intro i
    by_cases h : a.t ≤ now
    · have e : wk (a :: x) now = a :: wk x now := by unfold wk; rw [List.takeWhile_cons, if_pos (by simpa using h)]
      rw [e]
      cases i with
      | zero => exact ⟨fun _ => h, fun h0 => by simp at h0⟩
      | succ i =>
        have := ih i
        rw [List.length_cons, show g (a :: x) (i + 1) = g x i by simp [g], List.length_cons]
        exact ⟨fun h => this.1 (by omega), fun h h2 => this.2 (by omega) (by omega)⟩
    · have e : wk (a :: x) now = [] := by unfold wk; rw [List.takeWhile_cons, if_neg (by simpa using h)]
      rw [e]
      exact ⟨fun h => by simp at h, fun h0 _ => by
        have e0 : i = 0 := by simpa using h0
        subst e0
        exact h⟩
theorem wk_len (x : List It) (now : Int) : (wk x now).length ≤ x.length := by
  have e : wk x now ++ nw x now = x := List.takeWhile_append_dropWhile
  have := congrArg List.length e
  rw [List.length_append] at this
  omega
theorem wake_l0 (x : List It) (hx : x.length ≤ 1000) (now sq : Int) : ∀ (k i : Nat), (wk x now).length - i < k → i ≤ (wk x now).length →
    shunterref09_Wake.l0 k now (i : Int) (x.map s7) sq = some ((nw x now).map s7, sq, (wk x now).map s7) := by
  have hw := wk_len x now
  obtain ⟨e1, e2⟩ := wk_nw x now
  intro k
  induction k with
  | zero => intro i h; omega
  | succ k ih =>
    intro i hk hi
    rw [shunterref09_Wake.l0]
    by_cases hlt : i < (wk x now).length
    · rw [if_pos (by rw [List.length_map]; omega), if_pos (by omega), rd7 x i (by omega), if_pos (show (s7 (g x i)).f0 ≤ now from (wk_at x now i).1 hlt), wrap_n i (by omega)]
      exact ih (i + 1) (by omega) (by omega)
    · obtain rfl : i = (wk x now).length := by omega
      have hd : List.drop (((wk x now).length : Nat) : Int).toNat (List.map s7 x) = (nw x now).map s7 := by rw [Int.toNat_natCast, ← List.map_drop, ← e2]
      have htk : List.take (((wk x now).length : Nat) : Int).toNat (List.map s7 x) = (wk x now).map s7 := by rw [Int.toNat_natCast, ← List.map_take, ← e1]
      have hnl : (nw x now).length ≤ 1000 := by rw [e2, List.length_drop]; omega
      by_cases hl : (wk x now).length < x.length
      · rw [if_pos (by rw [List.length_map]; omega), if_pos (by omega), rd7 x _ hl, if_neg (show ¬ (s7 (g x _)).f0 ≤ now from (wk_at x now _).2 rfl hl), Option.bind_some, if_pos (by rw [List.length_map]; omega), hd, htk, Option.bind_some, if_pos (by simp; omega)]
        rfl
      · rw [if_neg (by rw [List.length_map]; omega), Option.bind_some, if_pos (by omega), if_pos (by rw [List.length_map]; omega), hd, htk, Option.bind_some, if_pos (by simp; omega)]
        rfl
theorem wake_f (x : List It) (hx : x.length ≤ 1000) (now sq : Int) : shunterref09_Wake.f (x.length + 1) (x.map s7) sq now = some ((nw x now).map s7, sq, (wk x now).map s7) :=
  wake_l0 x hx now sq (x.length + 1) 0 (by have := wk_len x now; omega) (by omega)

theorem same_l0 (x : List It) (hx : x.length ≤ 1000) : ∀ (k i : Nat), x.length - i < k → i ≤ x.length → shunterlaw09_same.l0 k (x.map s8) (x.map s7) (x.length : Int) (i : Int) = some true := by
  intro k
  induction k with
  | zero => intro i h; omega
  | succ k ih =>
    intro i hk hi
    rw [shunterlaw09_same.l0]
    by_cases hlt : i < x.length
    · rw [if_pos (by omega), if_pos (by omega), if_pos (by rw [List.length_map]; omega), if_pos (by rw [List.length_map]; omega), rd7 x i hlt, rd8 x i hlt, if_neg (by simp [s7, s8]), wrap_n i (by omega)]
      exact ih (i + 1) (by omega) (by omega)
    · rw [if_neg (by omega)]
theorem same_f (x : List It) (hx : x.length ≤ 1000) : shunterlaw09_same.f (x.length + 1) (x.map s8) (x.map s7) = some true := by
  unfold shunterlaw09_same.f
  rw [if_pos (by simp), List.length_map]
  exact same_l0 x hx _ 0 (by omega) (by omega)
end Go.Proofs.Ythlllcmffgdcmab.Heap

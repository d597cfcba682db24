/- Plain facts on numbers in a row: what is written is read, as far as it is whole; what was read has just those bytes. No program in sight. -/
import Derived.Test.YthlllcmffgdcmaaLebPlain
namespace Go.Proofs.Ythlllcmffgdcmaa.RecPlain
open Go.Proofs.Ythlllcmffgdcmaa.LebPlain

/-- The bytes of some numbers. -/
def rowB (ns : List Nat) : List Nat := ns.flatMap putN

theorem rowB_nil : rowB [] = [] := rfl
theorem rowB_cons (n : Nat) (ns : List Nat) : rowB (n :: ns) = putN n ++ rowB ns := rfl
theorem rowB_append (a b : List Nat) : rowB (a ++ b) = rowB a ++ rowB b := by simp [rowB]
theorem rowB_one (n : Nat) : rowB [n] = putN n := by simp [rowB]

theorem rowB_lt (ns : List Nat) : ∀ b ∈ rowB ns, b < 256 := by
  intro b hb
  obtain ⟨n, _, h⟩ := List.mem_flatMap.1 hb
  exact putN_lt n b h

theorem rowB_len (ns : List Nat) (hn : ∀ n ∈ ns, n < 18446744073709551616) : (rowB ns).length ≤ 10 * ns.length := by
  induction ns with
  | nil => simp [rowB]
  | cons n ns ih =>
    have h1 := putN_len n (hn n (by simp))
    have h2 := ih fun x hx => hn x (by simp [hx])
    rw [rowB_cons, List.length_append, List.length_cons]; omega

theorem len_rowB (ns : List Nat) : ns.length ≤ (rowB ns).length := by
  induction ns with
  | nil => simp [rowB]
  | cons n ns ih => have := putN_pos n; rw [rowB_cons, List.length_append, List.length_cons]; omega

/-- The numbers of a list of bytes, one behind the other, as far as they can be read; where it ends. -/
def allN : Nat → List Nat → List Nat × Nat
  | 0, _ => ([], 0)
  | f + 1, l =>
    if l = [] then ([], 0) else
    if (getL 0 0 l).2.2 = 0 then ((getL 0 0 l).1 :: (allN f (l.drop (getL 0 0 l).2.1)).1, (getL 0 0 l).2.1 + (allN f (l.drop (getL 0 0 l).2.1)).2) else ([], 0)

theorem allN_nil (f : Nat) : allN f [] = ([], 0) := by cases f <;> simp [allN]

theorem allN_bad (f : Nat) (l : List Nat) (h : (getL 0 0 l).2.2 ≠ 0) : allN f l = ([], 0) := by
  cases f with
  | zero => rfl
  | succ f => by_cases hl : l = [] <;> simp [allN, hl, h]

theorem allN_back : ∀ (f : Nat) (l : List Nat), (∀ b ∈ l, b < 256) → rowB (allN f l).1 = l.take (allN f l).2 ∧ (allN f l).2 ≤ l.length ∧ ∀ n ∈ (allN f l).1, n < 18446744073709551616 := by
  intro f
  induction f with
  | zero => intro l _; simp [allN, rowB]
  | succ f ih =>
    intro l hl
    rw [allN]
    split
    · simp [rowB]
    split
    · rename_i h0 h1
      have hg : getL 0 0 l = ((getL 0 0 l).1, (getL 0 0 l).2.1, 0) := by
        conv => lhs; rw [← Prod.eta (getL 0 0 l), ← Prod.eta (getL 0 0 l).2, h1]
      obtain ⟨a1, a2, a3, a4, a5⟩ := getL_back0 l _ _ hl hg
      obtain ⟨b1, b2, b3⟩ := ih (l.drop (getL 0 0 l).2.1) (fun b hb => hl b (List.mem_of_mem_drop hb))
      refine ⟨?_, ?_, ?_⟩
      · simp only [rowB_cons]
        rw [a2, b1, List.take_add]
      · simp only [List.length_drop] at b2
        simp only
        omega
      · intro n hn
        rcases List.mem_cons.1 hn with rfl | hn
        · exact a1
        · exact b3 n hn
    · simp [rowB]

theorem allN_bytes : ∀ (ns : List Nat) (f : Nat) (rest : List Nat), (∀ n ∈ ns, n < 18446744073709551616) → ns.length < f → (rest = [] ∨ (getL 0 0 rest).2.2 ≠ 0) →
    allN f (rowB ns ++ rest) = (ns, (rowB ns).length) := by
  intro ns
  induction ns with
  | nil =>
    intro f rest _ _ hr
    rw [rowB_nil, List.nil_append]
    rcases hr with rfl | hr
    · rw [allN_nil]; rfl
    · rw [allN_bad f rest hr]; rfl
  | cons n ns ih =>
    intro f rest hn hf hr
    obtain ⟨f, rfl⟩ : ∃ m, f = m + 1 := ⟨f - 1, by omega⟩
    have hg := getL_put0 n (rowB ns ++ rest) (hn n (by simp))
    have hp := putN_pos n
    rw [rowB_cons, List.append_assoc, allN, if_neg (by intro h; have := congrArg List.length h; rw [List.length_append, List.length_nil] at this; omega), hg]
    simp only
    rw [if_pos trivial, List.drop_left, ih f rest (fun x hx => hn x (by simp [hx])) (by simp only [List.length_cons] at hf; omega) hr, List.length_append]

/-- A number that is cut off can't be read. -/
theorem getL_cut (n : Nat) : ∀ (i acc j : Nat), i ≤ 9 → n * 128 ^ i < 18446744073709551616 → j < (putN n).length → getL i acc ((putN n).take j) = (0, 0, 2) := by
  induction n using putN.induct with
  | case1 n h =>
    intro i acc j hi _ hj
    rw [putN_small h] at hj ⊢
    simp only [List.length_singleton] at hj
    obtain rfl : j = 0 := by omega
    simp only [List.take_zero, getL]
    rw [if_neg (by omega)]
  | case2 n h ih =>
    intro i acc j hi hn hj
    rw [putN_big h] at hj ⊢
    cases j with
    | zero => simp only [List.take_zero, getL]; rw [if_neg (by omega)]
    | succ j =>
      have hi9 : i < 9 := by
        rcases Nat.lt_or_ge i 9 with h9 | h9
        · exact h9
        · obtain rfl : i = 9 := by omega
          have : (128 : Nat) ^ 9 = 9223372036854775808 := by decide
          rw [this] at hn; omega
      simp only [List.length_cons] at hj
      have hp : 128 ^ (i + 1) = 128 * 128 ^ i := by rw [Nat.pow_succ, Nat.mul_comm]
      have hle : n / 128 * 128 ^ (i + 1) ≤ n * 128 ^ i := by
        rw [hp, ← Nat.mul_assoc]; exact Nat.mul_le_mul_right _ (Nat.div_mul_le_self n 128)
      rw [List.take_succ_cons, getL, if_neg (by omega), if_pos (by omega), ih (i + 1) _ j (by omega) (by omega) (by omega)]

theorem getL_cut0 (n : Nat) (h : n < 18446744073709551616) (j : Nat) (hj : j < (putN n).length) : getL 0 0 ((putN n).take j) = (0, 0, 2) :=
  getL_cut n 0 0 j (by omega) (by simpa using h) hj

end Go.Proofs.Ythlllcmffgdcmaa.RecPlain

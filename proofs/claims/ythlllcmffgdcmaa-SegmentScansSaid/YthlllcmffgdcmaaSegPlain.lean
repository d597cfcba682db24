/- Plain facts on segments: what is framed is opened; what is opened has just the bytes of what was framed; one that is cut anywhere ends too soon. No program in sight. -/
import Derived.Test.YthlllcmffgdcmaaRecPlain
import Derived.Test.YthlllcmffgdcmaaCrcPlain
namespace Go.Proofs.Ythlllcmffgdcmaa.SegPlain
open Go.Proofs.Ythlllcmffgdcmaa.LebPlain Go.Proofs.Ythlllcmffgdcmaa.RecPlain Go.Proofs.Ythlllcmffgdcmaa.CrcPlain

/-- A sum's bytes, the lowest first. -/
def four (n : Nat) : List Nat := [n % 256, n / 256 % 256, n / 65536 % 256, n / 16777216 % 256]
theorem four_len (n : Nat) : (four n).length = 4 := rfl
theorem four_lt (n : Nat) : ∀ b ∈ four n, b < 256 := by
  intro b hb
  simp only [four, List.mem_cons, List.not_mem_nil, or_false] at hb
  rcases hb with rfl | rfl | rfl | rfl <;> omega
theorem four_inj (m n : Nat) (hm : m < 4294967296) (hn : n < 4294967296) (h : four m = four n) : m = n := by
  simp only [four, List.cons.injEq, and_true] at h
  omega

/-- What stands ahead of a body. -/
def headOf (seq n : Nat) : List Nat := 83 :: 103 :: (putN seq ++ putN n)
/-- A segment's bytes. -/
def frameL (seq : Nat) (body : List Nat) : List Nat := headOf seq body.length ++ body ++ four (sumN (headOf seq body.length ++ body))

theorem headOf_len (seq n : Nat) : (headOf seq n).length = 2 + (putN seq).length + (putN n).length := by
  simp only [headOf, List.length_cons, List.length_append]; omega
theorem frameL_len (seq : Nat) (body : List Nat) : (frameL seq body).length = (headOf seq body.length).length + body.length + 4 := by
  simp only [frameL, List.length_append, four_len]
theorem headOf_lt (seq n : Nat) : ∀ b ∈ headOf seq n, b < 256 := by
  intro b hb
  simp only [headOf, List.mem_cons, List.mem_append] at hb
  rcases hb with rfl | rfl | hb | hb
  · omega
  · omega
  · exact putN_lt _ b hb
  · exact putN_lt _ b hb
theorem frameL_lt (seq : Nat) (body : List Nat) (hb : ∀ b ∈ body, b < 256) : ∀ b ∈ frameL seq body, b < 256 := by
  intro b h
  simp only [frameL, List.mem_append] at h
  rcases h with (h | h) | h
  · exact headOf_lt _ _ b h
  · exact hb b h
  · exact four_lt _ b h

/-- The head: the number, how long the body is, where it begins, the error's number. -/
def headL (l : List Nat) : Nat × Nat × Nat × Nat :=
  if l.length = 0 then (0, 0, 0, 2) else if l[0]? ≠ some 83 then (0, 0, 0, 1) else if l.length = 1 then (0, 0, 0, 2) else if l[1]? ≠ some 103 then (0, 0, 0, 1) else
  if (getL 0 0 (l.drop 2)).2.2 ≠ 0 then (0, 0, 0, (getL 0 0 (l.drop 2)).2.2) else
  if (getL 0 0 (l.drop (2 + (getL 0 0 (l.drop 2)).2.1))).2.2 ≠ 0 then (0, 0, 0, (getL 0 0 (l.drop (2 + (getL 0 0 (l.drop 2)).2.1))).2.2) else
  if 4096 < (getL 0 0 (l.drop (2 + (getL 0 0 (l.drop 2)).2.1))).1 then (0, 0, 0, 3) else
  ((getL 0 0 (l.drop 2)).1, (getL 0 0 (l.drop (2 + (getL 0 0 (l.drop 2)).2.1))).1, 2 + (getL 0 0 (l.drop 2)).2.1 + (getL 0 0 (l.drop (2 + (getL 0 0 (l.drop 2)).2.1))).2.1, 0)

/-- The segment: its number, its body, how many bytes it has, the error's number. -/
def openL (l : List Nat) : Nat × List Nat × Nat × Nat :=
  if (headL l).2.2.2 ≠ 0 then (0, [], 0, (headL l).2.2.2) else
  if l.length < (headL l).2.2.1 + (headL l).2.1 + 4 then (0, [], 0, 2) else
  if (l.drop ((headL l).2.2.1 + (headL l).2.1)).take 4 ≠ four (sumN (l.take ((headL l).2.2.1 + (headL l).2.1))) then (0, [], 0, 7) else
  ((headL l).1, (l.drop (headL l).2.2.1).take (headL l).2.1, (headL l).2.2.1 + (headL l).2.1 + 4, 0)

theorem get_ok (l : List Nat) (hl : ∀ b ∈ l, b < 256) (h : (getL 0 0 l).2.2 = 0) :
    (getL 0 0 l).1 < 18446744073709551616 ∧ putN (getL 0 0 l).1 = l.take (getL 0 0 l).2.1 ∧ (getL 0 0 l).2.1 ≤ l.length ∧ (getL 0 0 l).2.1 ≤ 10 ∧ 0 < (getL 0 0 l).2.1 := by
  have hg : getL 0 0 l = ((getL 0 0 l).1, (getL 0 0 l).2.1, 0) := by
    conv => lhs; rw [← Prod.eta (getL 0 0 l), ← Prod.eta (getL 0 0 l).2, h]
  obtain ⟨a1, a2, a3, a4, a5⟩ := getL_back0 l _ _ hl hg
  exact ⟨a1, a2, a4, a5, a3⟩

theorem headL_ok (l : List Nat) (hl : ∀ b ∈ l, b < 256) (h : (headL l).2.2.2 = 0) :
    (headL l).1 < 18446744073709551616 ∧ (headL l).2.1 ≤ 4096 ∧ (headL l).2.2.1 ≤ l.length ∧ (headL l).2.2.1 ≤ 22 ∧ l.take (headL l).2.2.1 = headOf (headL l).1 (headL l).2.1 := by
  unfold headL at h ⊢
  by_cases c0 : l.length = 0
  · rw [if_pos c0] at h; exact absurd h (by decide)
  rw [if_neg c0] at h ⊢
  by_cases c1 : l[0]? ≠ some 83
  · rw [if_pos c1] at h; exact absurd h (by decide)
  rw [if_neg c1] at h ⊢
  by_cases c2 : l.length = 1
  · rw [if_pos c2] at h; exact absurd h (by decide)
  rw [if_neg c2] at h ⊢
  by_cases c3 : l[1]? ≠ some 103
  · rw [if_pos c3] at h; exact absurd h (by decide)
  rw [if_neg c3] at h ⊢
  by_cases c4 : (getL 0 0 (l.drop 2)).2.2 ≠ 0
  · rw [if_pos c4] at h; exact absurd h c4
  rw [if_neg c4] at h ⊢
  by_cases c5 : (getL 0 0 (l.drop (2 + (getL 0 0 (l.drop 2)).2.1))).2.2 ≠ 0
  · rw [if_pos c5] at h; exact absurd h c5
  rw [if_neg c5] at h ⊢
  by_cases c6 : 4096 < (getL 0 0 (l.drop (2 + (getL 0 0 (l.drop 2)).2.1))).1
  · rw [if_pos c6] at h; exact absurd h (by decide)
  rw [if_neg c6]
  obtain ⟨a1, a2, a3, a4, _⟩ := get_ok (l.drop 2) (fun b hb => hl b (List.mem_of_mem_drop hb)) (by simpa using c4)
  obtain ⟨b1, b2, b3, b4, _⟩ := get_ok (l.drop (2 + (getL 0 0 (l.drop 2)).2.1)) (fun b hb => hl b (List.mem_of_mem_drop hb)) (by simpa using c5)
  rw [List.length_drop] at a3 b3
  refine ⟨a1, Nat.le_of_not_lt c6, ?_, ?_, ?_⟩
  · show 2 + (getL 0 0 (l.drop 2)).2.1 + (getL 0 0 (l.drop (2 + (getL 0 0 (l.drop 2)).2.1))).2.1 ≤ l.length
    omega
  · show 2 + (getL 0 0 (l.drop 2)).2.1 + (getL 0 0 (l.drop (2 + (getL 0 0 (l.drop 2)).2.1))).2.1 ≤ 22
    omega
  · show l.take (2 + (getL 0 0 (l.drop 2)).2.1 + (getL 0 0 (l.drop (2 + (getL 0 0 (l.drop 2)).2.1))).2.1) = headOf _ _
    unfold headOf
    rw [a2, b2, List.take_add, List.take_add, List.append_assoc]
    have ht : l.take 2 = [83, 103] := by
      match l, c0, c1, c2, c3 with
      | a :: b :: l, _, c1, _, c3 =>
        simp only [List.getElem?_cons_zero, List.getElem?_cons_succ, ne_eq, Option.some.injEq, Classical.not_not] at c1 c3
        subst c1 c3; rfl
    rw [ht]; rfl

theorem headL_frame (seq n : Nat) (hs : seq < 18446744073709551616) (hn : n ≤ 4096) (rest : List Nat) : headL (headOf seq n ++ rest) = (seq, n, (headOf seq n).length, 0) := by
  have e2 : (headOf seq n ++ rest).drop 2 = putN seq ++ (putN n ++ rest) := by simp [headOf]
  have g1 := getL_put0 seq (putN n ++ rest) hs
  have e3 : (headOf seq n ++ rest).drop (2 + (putN seq).length) = putN n ++ rest := by
    rw [← List.drop_drop, e2, List.drop_left]
  have g2 := getL_put0 n rest (by omega)
  unfold headL
  rw [e2, g1]
  simp only
  rw [e3, g2]
  simp only
  rw [if_neg (by simp [headOf]), if_neg (by simp [headOf]), if_neg (by simp only [headOf, List.cons_append, List.length_cons]; omega), if_neg (by simp [headOf]), if_neg (by simp), if_neg (by simp), if_neg (by omega), headOf_len]

theorem openL_frame (seq : Nat) (body rest : List Nat) (hs : seq < 18446744073709551616) (hn : body.length ≤ 4096) :
    openL (frameL seq body ++ rest) = (seq, body, (frameL seq body).length, 0) := by
  have e : frameL seq body ++ rest = headOf seq body.length ++ (body ++ (four (sumN (headOf seq body.length ++ body)) ++ rest)) := by
    simp [frameL]
  have hh := headL_frame seq body.length hs hn (body ++ (four (sumN (headOf seq body.length ++ body)) ++ rest))
  have hl := frameL_len seq body
  unfold openL
  rw [e, hh]
  simp only
  rw [if_neg (by simp), if_neg (by simp only [List.length_append, four_len]; omega)]
  have d1 : (headOf seq body.length ++ (body ++ (four (sumN (headOf seq body.length ++ body)) ++ rest))).drop ((headOf seq body.length).length + body.length) = four (sumN (headOf seq body.length ++ body)) ++ rest := by
    rw [← List.drop_drop, List.drop_left, List.drop_left]
  have t1 : (headOf seq body.length ++ (body ++ (four (sumN (headOf seq body.length ++ body)) ++ rest))).take ((headOf seq body.length).length + body.length) = headOf seq body.length ++ body := by
    rw [← List.append_assoc, ← List.length_append, List.take_left]
  rw [d1, t1, if_neg (by rw [List.take_append_of_le_length (by rw [four_len]; omega), List.take_of_length_le (by rw [four_len]; omega)]; simp), List.drop_left, List.take_left, hl]

theorem openL_ok (l : List Nat) (hl : ∀ b ∈ l, b < 256) (h : (openL l).2.2.2 = 0) :
    (openL l).1 < 18446744073709551616 ∧ (openL l).2.1.length ≤ 4096 ∧ (openL l).2.2.1 ≤ l.length ∧ 4 ≤ (openL l).2.2.1 ∧ l.take (openL l).2.2.1 = frameL (openL l).1 (openL l).2.1 := by
  unfold openL at h ⊢
  by_cases c0 : (headL l).2.2.2 ≠ 0
  · rw [if_pos c0] at h; exact absurd h c0
  rw [if_neg c0] at h ⊢
  by_cases c1 : l.length < (headL l).2.2.1 + (headL l).2.1 + 4
  · rw [if_pos c1] at h; exact absurd h (by decide)
  rw [if_neg c1] at h ⊢
  by_cases c2 : (l.drop ((headL l).2.2.1 + (headL l).2.1)).take 4 ≠ four (sumN (l.take ((headL l).2.2.1 + (headL l).2.1)))
  · rw [if_pos c2] at h; exact absurd h (by decide)
  rw [if_neg c2]
  obtain ⟨a1, a2, a3, a4, a5⟩ := headL_ok l hl (by simpa using c0)
  have hlen : ((l.drop (headL l).2.2.1).take (headL l).2.1).length = (headL l).2.1 := by rw [List.length_take, List.length_drop]; omega
  have ht : l.take ((headL l).2.2.1 + (headL l).2.1) = headOf (headL l).1 (headL l).2.1 ++ (l.drop (headL l).2.2.1).take (headL l).2.1 := by rw [List.take_add, a5]
  refine ⟨a1, ?_, ?_, ?_, ?_⟩
  · show ((l.drop (headL l).2.2.1).take (headL l).2.1).length ≤ 4096
    omega
  · show (headL l).2.2.1 + (headL l).2.1 + 4 ≤ l.length
    omega
  · show 4 ≤ (headL l).2.2.1 + (headL l).2.1 + 4
    omega
  · show l.take ((headL l).2.2.1 + (headL l).2.1 + 4) = frameL (headL l).1 ((l.drop (headL l).2.2.1).take (headL l).2.1)
    unfold frameL
    rw [hlen, List.take_add, Classical.not_not.1 c2, ← ht]

/-- The sum of what is opened: what stands behind it decides. -/
theorem openL_bad (l : List Nat) (h : (openL l).2.2.2 ≠ 0) : (openL l).1 = 0 ∧ (openL l).2.1 = [] ∧ (openL l).2.2.1 = 0 := by
  unfold openL at h ⊢
  repeat' split
  all_goals first | exact ⟨rfl, rfl, rfl⟩ | (rename_i c0 c1 c2; rw [if_neg c0, if_neg c1, if_neg c2] at h; exact absurd rfl h)

theorem getL_nil : getL 0 0 [] = (0, 0, 2) := by rw [getL, if_neg (by omega)]

/-- A head that is cut off ends too soon. -/
theorem headL_cut (seq n : Nat) (hs : seq < 18446744073709551616) (hn : n ≤ 4096) (j : Nat) (hj : j < (headOf seq n).length) : (headL ((headOf seq n).take j)).2.2.2 = 2 := by
  rw [headOf_len] at hj
  match j with
  | 0 => simp [headL]
  | 1 => simp [headL, headOf]
  | j + 2 =>
    have e : (headOf seq n).take (j + 2) = 83 :: 103 :: (putN seq ++ putN n).take j := by simp [headOf]
    have e2 : (83 :: 103 :: (putN seq ++ putN n).take j).drop 2 = (putN seq ++ putN n).take j := rfl
    unfold headL
    rw [e, e2, if_neg (by simp), if_neg (by simp), if_neg (by simp only [List.length_cons]; omega), if_neg (by simp)]
    by_cases c : j < (putN seq).length
    · have : (putN seq ++ putN n).take j = (putN seq).take j := by rw [List.take_append, show j - (putN seq).length = 0 from by omega]; simp
      rw [this, getL_cut0 seq hs j c]
      rw [if_pos (by simp)]
    · have : (putN seq ++ putN n).take j = putN seq ++ (putN n).take (j - (putN seq).length) := by rw [List.take_append, List.take_of_length_le (by omega)]
      have e3 : (83 :: 103 :: (putN seq ++ (putN n).take (j - (putN seq).length))).drop (2 + (putN seq).length) = (putN n).take (j - (putN seq).length) := by
        rw [← List.drop_drop]; show (putN seq ++ _).drop _ = _; rw [List.drop_left]
      rw [this, getL_put0 seq _ hs]
      simp only
      rw [if_neg (by simp), e3, getL_cut0 n (by omega) (j - (putN seq).length) (by omega)]
      rw [if_pos (by simp)]

/-- A segment that is cut anywhere ends too soon. -/
theorem openL_cut (seq : Nat) (body : List Nat) (hs : seq < 18446744073709551616) (hn : body.length ≤ 4096) (j : Nat) (hj : j < (frameL seq body).length) : (openL ((frameL seq body).take j)).2.2.2 = 2 := by
  rw [frameL_len] at hj
  have e : frameL seq body = headOf seq body.length ++ (body ++ four (sumN (headOf seq body.length ++ body))) := by simp [frameL]
  by_cases c : j < (headOf seq body.length).length
  · have ht : (frameL seq body).take j = (headOf seq body.length).take j := by
      rw [e, List.take_append, show j - (headOf seq body.length).length = 0 from by omega]; simp
    have h2 := headL_cut seq body.length hs hn j c
    unfold openL
    rw [ht, if_pos (by rw [h2]; decide), h2]
  · have ht : (frameL seq body).take j = headOf seq body.length ++ (body ++ four (sumN (headOf seq body.length ++ body))).take (j - (headOf seq body.length).length) := by
      rw [e, List.take_append, List.take_of_length_le (by omega)]
    have hh := headL_frame seq body.length hs hn ((body ++ four (sumN (headOf seq body.length ++ body))).take (j - (headOf seq body.length).length))
    unfold openL
    rw [ht, hh]
    simp only
    rw [if_neg (by simp), if_pos (by simp only [List.length_append, List.length_take, four_len]; omega)]

end Go.Proofs.Ythlllcmffgdcmaa.SegPlain

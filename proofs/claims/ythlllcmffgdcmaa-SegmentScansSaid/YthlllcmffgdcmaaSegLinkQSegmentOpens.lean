/- The printed functions of layer 5 (in the namespace QSegmentOpens) answer as the plain segments. -/
import Derived.Test.YthlllcmffgdcmaaQSegmentOpensx7
import Derived.Test.YthlllcmffgdcmaaLebQSegmentOpens
import Derived.Test.YthlllcmffgdcmaaCrcSumQSegmentOpens
import Derived.Test.YthlllcmffgdcmaaSegPlain
namespace Go.Proofs.Ythlllcmffgdcmaa.SegLinkQSegmentOpens
open Go.RowKit Go.Proofs.Ythlllcmffgdcmaa.QSegmentOpens Go.Proofs.YthlllcmffgdcmaaW.PrintWords Go.Proofs.YthlllcmffgdcmaaW.PrintLast Go.Proofs.Ythlllcmffgdcmaa.LebPlain Go.Proofs.Ythlllcmffgdcmaa.LebWords Go.Proofs.Ythlllcmffgdcmaa.RecPlain Go.Proofs.Ythlllcmffgdcmaa.CrcPlain Go.Proofs.Ythlllcmffgdcmaa.CrcLink Go.Proofs.Ythlllcmffgdcmaa.SegPlain Go.Proofs.Ythlllcmffgdcmaa.LebQSegmentOpens Go.Proofs.Ythlllcmffgdcmaa.CrcSumQSegmentOpens

theorem wz (x : Int) (h0 : -10000000 ≤ x) (h1 : x ≤ 10000000) : wrap64 x = x := by unfold wrap64; omega

theorem magic_size : (⟨#[83, 103]⟩ : ByteArray).size = 2 := rfl
theorem magic_bl : bl (⟨#[83, 103]⟩ : ByteArray) = [83, 103] := rfl
theorem magic_bt0 : bt (⟨#[83, 103]⟩ : ByteArray) 0 = 83 := rfl
theorem magic_bt1 : bt (⟨#[83, 103]⟩ : ByteArray) 1 = 103 := rfl

/-- A list of bytes, as a string. -/
def strB (l : List Nat) : ByteArray := strOfNums (l.map Int.ofNat)
theorem bl_strB (l : List Nat) (h : ∀ b ∈ l, b < 256) : bl (strB l) = l := bl_nums l h
theorem strB_bl (s : ByteArray) : strB (bl s) = s := bl_inj (bl_strB _ (bl_lt s))

theorem four_f (n : Nat) (_ : n < 4294967296) : segment_four.f (n : Int) = some (strB (four n)) := by
  unfold segment_four.f strB four
  simp only [List.map_cons, List.map_nil, Int.ofNat_eq_natCast, Int.natCast_emod, Int.natCast_ediv]
  rfl

theorem four_size (n : Nat) : (strB (four n)).size = 4 := by
  rw [← bl_length, bl_strB _ (four_lt n)]; rfl

/-- The head of a segment, as a string. -/
theorem head_bl (seq n : Nat) : bl (((⟨#[83, 103]⟩ : ByteArray) ++ putS seq) ++ putS n) = headOf seq n := by
  rw [bl_append, bl_append, magic_bl, bl_putS, bl_putS]; rfl

theorem frame_big (seq : Int) (body : ByteArray) (h : 4096 < body.size) (k : Nat) : segment_Frame.f k seq body = some ((⟨#[]⟩ : ByteArray), 3) := by
  unfold segment_Frame.f
  rw [if_pos (by omega)]

theorem frame_f (seq : Nat) (hs : seq < 18446744073709551616) (body : ByteArray) (h : body.size ≤ 4096) (k : Nat) (hk : 20 ≤ k) :
    ∃ t, segment_Frame.f k (seq : Int) body = some (t, 0) ∧ bl t = frameL seq (bl body) := by
  have p1 := putN_len seq hs
  have p2 := putN_len body.size (by omega)
  have z1 : ((⟨#[83, 103]⟩ : ByteArray) ++ putS seq).size = 2 + (putN seq).length := by rw [ByteArray.size_append, magic_size, putS_size]
  have z2 : (((⟨#[83, 103]⟩ : ByteArray) ++ putS seq) ++ putS body.size).size = 2 + (putN seq).length + (putN body.size).length := by rw [ByteArray.size_append, z1, putS_size]
  have z3 : ((((⟨#[83, 103]⟩ : ByteArray) ++ putS seq) ++ putS body.size) ++ body).size = 2 + (putN seq).length + (putN body.size).length + body.size := by rw [ByteArray.size_append, z2]
  have hb : bl ((((⟨#[83, 103]⟩ : ByteArray) ++ putS seq) ++ putS body.size) ++ body) = headOf seq (bl body).length ++ bl body := by rw [bl_append, head_bl, bl_length]
  have ho := of_f [((⟨#[83, 103]⟩ : ByteArray) ++ putS seq) ++ putS body.size, body] (by simp) (by intro s hs; simp only [List.mem_cons, List.not_mem_nil, or_false] at hs; rcases hs with rfl | rfl <;> omega) k (by simp only [List.length_cons, List.length_nil]; omega)
  have ha : allB [((⟨#[83, 103]⟩ : ByteArray) ++ putS seq) ++ putS body.size, body] = headOf seq (bl body).length ++ bl body := by
    rw [show allB [((⟨#[83, 103]⟩ : ByteArray) ++ putS seq) ++ putS body.size, body] = bl (((⟨#[83, 103]⟩ : ByteArray) ++ putS seq) ++ putS body.size) ++ bl body from by simp only [allB, List.flatMap_cons, List.flatMap_nil, List.append_nil], head_bl, bl_length]
  rw [ha] at ho
  refine ⟨(((((⟨#[83, 103]⟩ : ByteArray) ++ putS seq) ++ putS body.size) ++ body) ++ strB (four (sumN (headOf seq (bl body).length ++ bl body)))), ?_, ?_⟩
  · unfold segment_Frame.f
    rw [if_neg (by omega), put_f seq hs k (by omega), Option.bind_some, if_pos (by rw [putS_size]; omega), put_f body.size (by omega) k (by omega), Option.bind_some, if_pos (by rw [z1, putS_size]; omega), if_pos (by rw [z2]; omega),
      ho, Option.bind_some, four_f _ (sumN_lt _), Option.bind_some, if_pos (by rw [z3, four_size]; omega)]
  · rw [bl_append, hb, bl_strB _ (four_lt _)]; rfl

/-- What the head tells at a place. -/
def headR (p : Nat) (h : Nat × Nat × Nat × Nat) : Int × Int × Int × Int :=
  if h.2.2.2 = 0 then ((h.1 : Int), (h.2.1 : Int), ((p + h.2.2.1 : Nat) : Int), 0) else (0, 0, 0, (h.2.2.2 : Int))

theorem byte_at (s : ByteArray) (i : Nat) (h : i < s.size) (c : Nat) : (bt s (i : Int) = (c : Int)) ↔ (bl s)[i]? = some c := by
  rw [bl_get s i h]
  have := bt_range s (i : Int)
  constructor
  · intro e; rw [e, Int.toNat_natCast]
  · intro e
    have := Option.some.inj e
    omega

theorem getA_at (s : ByteArray) (p : Nat) (h : p ≤ s.size) : getA s (p : Int) = res p (getL 0 0 ((bl s).drop p)) := by
  unfold getA; rw [if_neg (by omega), Int.toNat_natCast]
theorem res_ok (p : Nat) (r : Nat × Nat × Nat) (h : r.2.2 = 0) : res p r = ((r.1 : Int), ((p + r.2.1 : Nat) : Int), 0) := by unfold res; rw [if_pos h]
theorem res_bad (p : Nat) (r : Nat × Nat × Nat) (h : r.2.2 ≠ 0) : res p r = (0, 0, (r.2.2 : Int)) := by unfold res; rw [if_neg h]

theorem head_f (s : ByteArray) (p : Nat) (hs : s.size ≤ 1000000) (hp : p ≤ s.size) (k : Nat) (hk : 20 ≤ k) :
    segment_head.f k s (p : Int) = some (headR p (headL ((bl s).drop p))) := by
  obtain ⟨k, rfl⟩ : ∃ m, k = m + 1 + 1 + 1 := ⟨k - 3, by omega⟩
  have hlen : ((bl s).drop p).length = s.size - p := by rw [List.length_drop, bl_length]
  have w0 : wrap64 ((p : Int) + 0) = ((p : Nat) : Int) := by unfold wrap64; omega
  have w1 : wrap64 ((p : Int) + 1) = ((p + 1 : Nat) : Int) := by unfold wrap64; omega
  have w2 : wrap64 ((p : Int) + 2) = ((p + 2 : Nat) : Int) := by unfold wrap64; omega
  have v1 : wrap64 (0 + 1) = 1 := by unfold wrap64; omega
  have v2 : wrap64 (1 + 1) = 2 := by unfold wrap64; omega
  unfold segment_head.f headL
  rw [segment_head.l0, if_pos (by decide), w0]
  by_cases c0 : s.size - p = 0
  · rw [if_pos (show ((p : Nat) : Int) ≥ (s.size : Int) by omega), if_pos (show ((bl s).drop p).length = 0 by omega)]; rfl
  rw [if_neg (show ¬ (((p : Nat) : Int) ≥ (s.size : Int)) by omega), if_pos (show (0 : Int) ≤ ((p : Nat) : Int) by omega), if_pos (show ((p : Nat) : Int) < (s.size : Int) by omega), if_pos (by decide), magic_bt0, if_neg (show ¬ (((bl s).drop p).length = 0) by omega)]
  have b0 := byte_at s p (by omega) 83
  have g0 : ((bl s).drop p)[0]? = (bl s)[p]? := by rw [List.getElem?_drop]; rfl
  by_cases c1 : (bl s)[p]? = some 83
  case neg =>
    rw [if_neg (show ¬ (bt s ((p : Nat) : Int) = 83) from fun e => c1 (b0.1 e)), if_pos (show ((bl s).drop p)[0]? ≠ some 83 by rw [g0]; exact c1)]; rfl
  rw [if_pos (show bt s ((p : Nat) : Int) = 83 from b0.2 c1), if_neg (show ¬ (((bl s).drop p)[0]? ≠ some 83) by rw [g0]; exact fun h => h c1), v1, segment_head.l0, if_pos (by decide), w1]
  by_cases c2 : s.size - p = 1
  · rw [if_pos (show ((p + 1 : Nat) : Int) ≥ (s.size : Int) by omega), if_pos (show ((bl s).drop p).length = 1 by omega)]; rfl
  rw [if_neg (show ¬ (((p + 1 : Nat) : Int) ≥ (s.size : Int)) by omega), if_pos (show (0 : Int) ≤ ((p + 1 : Nat) : Int) by omega), if_pos (show ((p + 1 : Nat) : Int) < (s.size : Int) by omega), if_pos (by decide), magic_bt1, if_neg (show ¬ (((bl s).drop p).length = 1) by omega)]
  have b1 := byte_at s (p + 1) (by omega) 103
  have g1 : ((bl s).drop p)[1]? = (bl s)[p + 1]? := by rw [List.getElem?_drop]
  by_cases c3 : (bl s)[p + 1]? = some 103
  case neg =>
    rw [if_neg (show ¬ (bt s ((p + 1 : Nat) : Int) = 103) from fun e => c3 (b1.1 e)), if_pos (show ((bl s).drop p)[1]? ≠ some 103 by rw [g1]; exact c3)]; rfl
  rw [if_pos (show bt s ((p + 1 : Nat) : Int) = 103 from b1.2 c3), if_neg (show ¬ (((bl s).drop p)[1]? ≠ some 103) by rw [g1]; exact fun h => h c3), v2, segment_head.l0, if_neg (by decide), w2,
    get_f s _ (by omega) k (by omega), getA_at s (p + 2) (by omega), List.drop_drop, Option.bind_some]
  by_cases c4 : (getL 0 0 ((bl s).drop (p + 2))).2.2 ≠ 0
  · rw [res_bad _ _ c4, if_neg (show ¬ ((((getL 0 0 ((bl s).drop (p + 2))).2.2 : Nat) : Int) = 0) by omega), if_pos c4]
    unfold headR
    rw [if_neg c4]
  have h4 : (getL 0 0 ((bl s).drop (p + 2))).2.2 = 0 := Classical.not_not.1 c4
  obtain ⟨_, _, a3, _, _⟩ := get_ok ((bl s).drop (p + 2)) (fun b hb => bl_lt s b (List.mem_of_mem_drop hb)) h4
  rw [List.length_drop, bl_length] at a3
  rw [res_ok _ _ h4, if_pos rfl, if_neg c4, get_f s _ (by omega) k (by omega), getA_at s (p + 2 + (getL 0 0 ((bl s).drop (p + 2))).2.1) (by omega), List.drop_drop, Option.bind_some, show p + (2 + (getL 0 0 ((bl s).drop (p + 2))).2.1) = p + 2 + (getL 0 0 ((bl s).drop (p + 2))).2.1 from by omega]
  generalize getL 0 0 ((bl s).drop (p + 2)) = r at h4 a3 ⊢
  by_cases c5 : (getL 0 0 ((bl s).drop (p + 2 + r.2.1))).2.2 ≠ 0
  · rw [res_bad _ _ c5, if_neg (show ¬ ((((getL 0 0 ((bl s).drop (p + 2 + r.2.1))).2.2 : Nat) : Int) = 0) by omega), if_pos c5]
    unfold headR
    rw [if_neg c5]
  have h5 : (getL 0 0 ((bl s).drop (p + 2 + r.2.1))).2.2 = 0 := Classical.not_not.1 c5
  rw [res_ok _ _ h5, if_pos rfl, if_neg c5]
  generalize getL 0 0 ((bl s).drop (p + 2 + r.2.1)) = q at h5 ⊢
  by_cases c6 : 4096 < q.1
  · rw [if_pos (show ((q.1 : Nat) : Int) > 4096 by omega), if_pos c6]; rfl
  · rw [if_neg (show ¬ (((q.1 : Nat) : Int) > 4096) by omega), if_neg c6]
    have w3 : wrap64 ((q.1 : Nat) : Int) = ((q.1 : Nat) : Int) := by unfold wrap64; omega
    rw [w3]
    unfold headR
    rw [if_pos rfl]
    simp only
    congr 4
    omega

/-- What is told of a segment at a place. -/
def openA (p : Nat) (r : Nat × List Nat × Nat × Nat) : Int × ByteArray × Int × Int :=
  if r.2.2.2 = 0 then ((r.1 : Int), strB r.2.1, ((p + r.2.2.1 : Nat) : Int), 0) else (0, (⟨#[]⟩ : ByteArray), 0, (r.2.2.2 : Int))
def openR (s : ByteArray) (at_ : Int) : Int × ByteArray × Int × Int :=
  if at_ < 0 ∨ (s.size : Int) < at_ then (0, (⟨#[]⟩ : ByteArray), 0, 4) else openA at_.toNat (openL ((bl s).drop at_.toNat))

theorem extract_strB (s : ByteArray) (i j : Nat) : s.extract i j = strB (((bl s).drop i).take (j - i)) := by
  rw [← bl_extract, strB_bl]

theorem open_j0 (s : ByteArray) (p : Nat) (hs : s.size ≤ 1000000) (hp : p ≤ s.size) (k : Nat) (hk : 30 ≤ k) :
    segment_Open.j0 k s (p : Int) false = some (openA p (openL ((bl s).drop p))) := by
  obtain ⟨k, rfl⟩ : ∃ m, k = m + 1 := ⟨k - 1, by omega⟩
  have hlen : ((bl s).drop p).length = s.size - p := by rw [List.length_drop, bl_length]
  have hok := headL_ok ((bl s).drop p) (fun b hb => bl_lt s b (List.mem_of_mem_drop hb))
  rw [segment_Open.j0, if_neg (by decide), head_f s p hs hp k (by omega), Option.bind_some]
  unfold openL
  generalize hh : headL ((bl s).drop p) = h at hok ⊢
  clear hh
  by_cases c0 : h.2.2.2 ≠ 0
  · rw [show headR p h = (0, 0, 0, (h.2.2.2 : Int)) from by unfold headR; rw [if_neg c0], if_neg (show ¬ (((h.2.2.2 : Nat) : Int) = 0) by omega), if_pos c0]
    unfold openA
    rw [if_neg c0]
  have h0 : h.2.2.2 = 0 := Classical.not_not.1 c0
  obtain ⟨a1, a2, a3, a4, a5⟩ := hok h0
  rw [hlen] at a3
  rw [show headR p h = ((h.1 : Int), (h.2.1 : Int), ((p + h.2.2.1 : Nat) : Int), 0) from by unfold headR; rw [if_pos h0], if_pos rfl, if_neg c0]
  have z1 : (p : Int) + (h.2.2.1 : Int) + (h.2.1 : Int) + 4 ≤ 2000000 := by omega
  have w1 := Aside0.mk (show wrap64 ((wrap64 ((s.size : Int) - ((p + h.2.2.1 : Nat) : Int))) - 4) = (s.size : Int) - ((p + h.2.2.1 : Nat) : Int) - 4 by
    rw [wz ((s.size : Int) - ((p + h.2.2.1 : Nat) : Int)) (by omega) (by omega), wz _ (by omega) (by omega)])
  have w2 := Aside0.mk (show wrap64 (((p + h.2.2.1 : Nat) : Int) + (h.2.1 : Int)) = ((p + h.2.2.1 + h.2.1 : Nat) : Int) by rw [wz _ (by omega) (by omega)]; omega)
  have w3 := Aside0.mk (show wrap64 (((p + h.2.2.1 + h.2.1 : Nat) : Int) + 4) = ((p + h.2.2.1 + h.2.1 + 4 : Nat) : Int) by rw [wz _ (by omega) (by omega)]; omega)
  simp only [w1.out, w2.out, w3.out]
  clear w1 w2 w3
  by_cases c1 : ((bl s).drop p).length < h.2.2.1 + h.2.1 + 4
  · rw [if_pos (show (h.2.1 : Int) > (s.size : Int) - ((p + h.2.2.1 : Nat) : Int) - 4 by omega), if_pos c1]; rfl
  have e1 : bl (s.extract p (p + h.2.2.1 + h.2.1)) = ((bl s).drop p).take (h.2.2.1 + h.2.1) := by rw [bl_extract]; congr 1; omega
  have e2 : s.extract (p + h.2.2.1 + h.2.1) (p + h.2.2.1 + h.2.1 + 4) = strB ((((bl s).drop p).drop (h.2.2.1 + h.2.1)).take 4) := by
    rw [extract_strB, List.drop_drop, show p + h.2.2.1 + h.2.1 + 4 - (p + h.2.2.1 + h.2.1) = 4 from by omega, Nat.add_assoc p]
  have e3 : s.extract (p + h.2.2.1) (p + h.2.2.1 + h.2.1) = strB ((((bl s).drop p).drop h.2.2.1).take h.2.1) := by
    rw [extract_strB, List.drop_drop, show p + h.2.2.1 + h.2.1 - (p + h.2.2.1) = h.2.1 from by omega]
  have ho := of_f [s.extract p (p + h.2.2.1 + h.2.1)] (by simp) (by intro t ht; simp only [List.mem_singleton] at ht; subst ht; rw [ByteArray.size_extract]; omega) k (by simp only [List.length_cons, List.length_nil]; omega)
  rw [show allB [s.extract p (p + h.2.2.1 + h.2.1)] = bl (s.extract p (p + h.2.2.1 + h.2.1)) from by simp only [allB, List.flatMap_cons, List.flatMap_nil, List.append_nil], e1] at ho
  rw [if_neg (show ¬ ((h.2.1 : Int) > (s.size : Int) - ((p + h.2.2.1 : Nat) : Int) - 4) by omega), if_neg c1, if_pos (by omega), if_pos (by omega), if_pos (by omega), if_pos (by omega), if_pos (by omega), if_pos (by omega)]
  simp only [Int.toNat_natCast]
  rw [ho, Option.bind_some, four_f _ (sumN_lt _), Option.bind_some, e2]
  have hdl : ∀ b ∈ (((bl s).drop p).drop (h.2.2.1 + h.2.1)).take 4, b < 256 := fun b hb => bl_lt s b (List.mem_of_mem_drop (List.mem_of_mem_drop (List.mem_of_mem_take hb)))
  by_cases c2 : (((bl s).drop p).drop (h.2.2.1 + h.2.1)).take 4 ≠ four (sumN (((bl s).drop p).take (h.2.2.1 + h.2.1)))
  · rw [if_neg, if_pos c2]
    · rfl
    · intro e
      apply c2
      rw [toList_eq] at e
      have := congrArg bl e
      rwa [bl_strB _ hdl, bl_strB _ (four_lt _)] at this
  · rw [if_neg c2, if_pos (by rw [Classical.not_not.1 c2]), if_pos (by omega), if_pos (by omega), e3]
    unfold openA
    rw [if_pos rfl]
    simp only
    congr 4
    omega

theorem open_f (s : ByteArray) (at_ : Int) (hs : s.size ≤ 1000000) (k : Nat) (hk : 30 ≤ k) : segment_Open.f k s at_ = some (openR s at_) := by
  unfold segment_Open.f openR
  by_cases h0 : at_ < 0
  · obtain ⟨k, rfl⟩ : ∃ m, k = m + 1 := ⟨k - 1, by omega⟩
    rw [if_pos h0, if_pos (Or.inl h0), segment_Open.j0, if_pos rfl]
  · rw [if_neg h0]
    by_cases h1 : (s.size : Int) < at_
    · obtain ⟨k, rfl⟩ : ∃ m, k = m + 1 := ⟨k - 1, by omega⟩
      rw [if_pos (Or.inr h1), segment_Open.j0, if_pos (by simpa using h1)]
    · obtain ⟨p, rfl⟩ : ∃ p : Nat, at_ = (p : Int) := ⟨at_.toNat, by omega⟩
      rw [if_neg (by omega), show decide ((p : Int) > (s.size : Int)) = false from decide_eq_false (by omega), Int.toNat_natCast]
      exact open_j0 s p hs (by omega) k hk

end Go.Proofs.Ythlllcmffgdcmaa.SegLinkQSegmentOpens

/- Any bytes of at most 200, from any byte on, are opened as the segment that they are, or refused, as the document says. For every string (of at most 2^47 - 4096 bytes, the form's reach) and every place. -/
import Derived.Test.YthlllcmffgdcmaaSegLinkQSegmentOpens
import Derived.Test.YthlllcmffgdcmaaRefGetQSegmentOpens
namespace Go.Proofs.Ythlllcmffgdcmaa.Pure
open Go.RowKit Go.Proofs.Ythlllcmffgdcmaa.QSegmentOpens Go.Proofs.YthlllcmffgdcmaaW.PrintWords Go.Proofs.YthlllcmffgdcmaaW.PrintLast Go.Proofs.Ythlllcmffgdcmaa.LebPlain Go.Proofs.Ythlllcmffgdcmaa.LebWords Go.Proofs.Ythlllcmffgdcmaa.RecPlain Go.Proofs.Ythlllcmffgdcmaa.CrcPlain Go.Proofs.Ythlllcmffgdcmaa.CrcLink Go.Proofs.Ythlllcmffgdcmaa.SegPlain Go.Proofs.Ythlllcmffgdcmaa.LebQSegmentOpens Go.Proofs.Ythlllcmffgdcmaa.CrcSumQSegmentOpens Go.Proofs.Ythlllcmffgdcmaa.SegLinkQSegmentOpens Go.Proofs.Ythlllcmffgdcmaa.RefGetQSegmentOpens

theorem refPutO_f (n : Nat) : ∀ k, n < 18446744073709551616 → (putN n).length < k → shunterref01_Put.f k (n : Int) = some (putS n) := by
  induction n using putN.induct with
  | case1 n h =>
    intro k _ hk
    obtain ⟨k, rfl⟩ : ∃ m, k = m + 1 := ⟨k - 1, by omega⟩
    rw [shunterref01_Put.f, if_pos (show (n : Int) < 128 by omega), show (n : Int) % 256 = (n : Int) from by omega]
    unfold putS; rw [putN_small h]; rfl
  | case2 n h ih =>
    intro k hn hk
    obtain ⟨k, rfl⟩ : ∃ m, k = m + 1 := ⟨k - 1, by omega⟩
    rw [putN_big h] at hk
    simp only [List.length_cons] at hk
    have e1 : IntKind.u64.wrap (Int.tdiv (n : Int) 128) = ((n / 128 : Nat) : Int) := by
      rw [Int.tdiv_eq_ediv_of_nonneg (by omega), IntKind.wrap_u64]; omega
    have e2 : (((Int.tmod (n : Int) 128) % 256) + 128) % 256 = ((n % 128 + 128 : Nat) : Int) := by
      rw [Int.tmod_eq_emod_of_nonneg (by omega)]; omega
    rw [shunterref01_Put.f, if_neg (show ¬ (n : Int) < 128 by omega), e1, e2, ih k (by omega) (by omega)]
    have hl := putN_len (n / 128) (by omega)
    have hs : (strOfNums [((n % 128 + 128 : Nat) : Int)]).size = 1 := by rw [strOfNums_size]; rfl
    simp only [Option.bind_some]
    rw [if_pos (by rw [hs, putS_size]; omega)]
    congr 1
    apply bl_inj
    have h1 := bl_nums [n % 128 + 128] (fun b hb => by simp only [List.mem_singleton] at hb; omega)
    simp only [List.map_cons, List.map_nil, Int.ofNat_eq_natCast] at h1
    rw [bl_append, bl_putS, bl_putS, putN_big h, h1]; rfl

/-- The lowest bytes of a number. -/
def low : Nat → Nat → List Nat
  | 0, _ => []
  | d + 1, n => n % 256 :: low d (n / 256)
theorem low4 (n : Nat) : low 4 n = four n := by
  simp only [low, four, Nat.div_div_eq_div_mul]

theorem refframe_l0 (d : Nat) : ∀ (j k n : Nat) (s : ByteArray), j + d = 4 → n < 4294967296 → d < k → s.size + d ≤ 10000000 →
    ∃ t, shunterref05_Frame.l0 k s (n : Int) (j : Int) = some t ∧ bl t = bl s ++ low d n := by
  induction d with
  | zero =>
    intro j k n s hj hn hk _
    obtain ⟨k, rfl⟩ : ∃ m, k = m + 1 := ⟨k - 1, by omega⟩
    rw [shunterref05_Frame.l0, if_neg (by omega)]
    exact ⟨s, rfl, by simp [low]⟩
  | succ d ih =>
    intro j k n s hj hn hk hz
    obtain ⟨k, rfl⟩ : ∃ m, k = m + 1 := ⟨k - 1, by omega⟩
    have e1 : (Int.tmod (n : Int) 256) % 256 = ((n % 256 : Nat) : Int) := by rw [Int.tmod_eq_emod_of_nonneg (by omega)]; omega
    have e2 : (Int.tdiv (n : Int) 256) % 4294967296 = ((n / 256 : Nat) : Int) := by rw [Int.tdiv_eq_ediv_of_nonneg (by omega)]; omega
    have e3 : wrap64 ((j : Int) + 1) = ((j + 1 : Nat) : Int) := by unfold wrap64; omega
    have hb := bl_nums [n % 256] (fun b hb => by simp only [List.mem_singleton] at hb; omega)
    simp only [List.map_cons, List.map_nil, Int.ofNat_eq_natCast] at hb
    have hs : (strOfNums [((n % 256 : Nat) : Int)]).size = 1 := by rw [strOfNums_size]; rfl
    have hs2 : (s ++ strOfNums [((n % 256 : Nat) : Int)]).size = s.size + 1 := by rw [ByteArray.size_append, hs]
    have hc : s.size + (strOfNums [((n % 256 : Nat) : Int)]).size ≤ 9223372036854775807 := by rw [hs]; clear e3; omega
    rw [shunterref05_Frame.l0, if_pos (show (j : Int) < 4 by clear e3; omega), e1, Option.bind_some, if_pos hc, e2, e3]
    clear e3
    obtain ⟨t, h1, h2⟩ := ih (j + 1) k (n / 256) (s ++ strOfNums [((n % 256 : Nat) : Int)]) (by omega) (by omega) (by omega) (by omega)
    exact ⟨t, h1, by rw [h2, bl_append, hb, low, List.append_assoc]; rfl⟩

theorem refframe_f (seq : Nat) (hs : seq < 18446744073709551616) (body : ByteArray) (h : body.size ≤ 5000) (k : Nat) (hk : 60000 ≤ k) :
    ∃ t, shunterref05_Frame.f k (seq : Int) body = some t ∧ bl t = frameL seq (bl body) := by
  have p1 := putN_len seq hs
  have p2 := putN_len body.size (by omega)
  have z1 : ((⟨#[83, 103]⟩ : ByteArray) ++ putS seq).size = 2 + (putN seq).length := by rw [ByteArray.size_append, magic_size, putS_size]
  have z2 : (((⟨#[83, 103]⟩ : ByteArray) ++ putS seq) ++ putS body.size).size = 2 + (putN seq).length + (putN body.size).length := by rw [ByteArray.size_append, z1, putS_size]
  have z3 : ((((⟨#[83, 103]⟩ : ByteArray) ++ putS seq) ++ putS body.size) ++ body).size = 2 + (putN seq).length + (putN body.size).length + body.size := by rw [ByteArray.size_append, z2]
  have hb : bl ((((⟨#[83, 103]⟩ : ByteArray) ++ putS seq) ++ putS body.size) ++ body) = headOf seq (bl body).length ++ bl body := by rw [bl_append, head_bl, bl_length]
  have hr := ref_sum ((((⟨#[83, 103]⟩ : ByteArray) ++ putS seq) ++ putS body.size) ++ body) (by omega) k (by omega)
  rw [hb] at hr
  obtain ⟨t, h1, h2⟩ := refframe_l0 4 0 k (sumN (headOf seq (bl body).length ++ bl body)) ((((⟨#[83, 103]⟩ : ByteArray) ++ putS seq) ++ putS body.size) ++ body) (by omega) (sumN_lt _) (by omega) (by omega)
  refine ⟨t, ?_, by rw [h2, hb, low4]; rfl⟩
  unfold shunterref05_Frame.f
  rw [refPutO_f seq k hs (by omega), Option.bind_some, if_pos (by rw [putS_size]; omega), refPutO_f body.size k (by omega) (by omega), Option.bind_some, if_pos (by rw [z1, putS_size]; omega), if_pos (by rw [z2]; omega), hr, Option.bind_some]
  exact h1

theorem byte_ext (s : ByteArray) (i : Nat) (h : i < s.size) : bl (s.extract i (i + 1)) = [((bl s)[i]?).getD 0] := by
  have hl : i < (bl s).length := by rw [bl_length]; exact h
  rw [bl_extract, List.drop_eq_getElem_cons hl, show i + 1 - i = 1 from by omega, List.getElem?_eq_getElem hl]; rfl

theorem refopen_l0 (s : ByteArray) (p : Nat) (hs : s.size ≤ 200) (hp : p ≤ s.size) (k : Nat) (hk : 60010 ≤ k) :
    shunterref05_Open.l0 k s (p : Int) 0 = some (openA p (openL ((bl s).drop p))) := by
  obtain ⟨k, rfl⟩ : ∃ m, k = m + 1 + 1 + 1 := ⟨k - 3, by omega⟩
  have hlen : ((bl s).drop p).length = s.size - p := by rw [List.length_drop, bl_length]
  have w0 := Aside0.mk (show wrap64 ((p : Int) + 0) = ((p : Nat) : Int) by rw [wz _ (by omega) (by omega)]; omega)
  have w1 := Aside0.mk (show wrap64 ((p : Int) + 1) = ((p + 1 : Nat) : Int) by rw [wz _ (by omega) (by omega)]; omega)
  have w2 := Aside0.mk (show wrap64 ((p : Int) + 2) = ((p + 2 : Nat) : Int) by rw [wz _ (by omega) (by omega)]; omega)
  have w3 := Aside0.mk (show wrap64 (((p + 1 : Nat) : Int) + 1) = ((p + 2 : Nat) : Int) by rw [wz _ (by omega) (by omega)]; omega)
  have v1 := Aside0.mk (show wrap64 (0 + 1) = 1 by rw [wz _ (by omega) (by omega)]; omega)
  have v2 := Aside0.mk (show wrap64 (1 + 1) = 2 by rw [wz _ (by omega) (by omega)]; omega)
  have m0 : (⟨#[83, 103]⟩ : ByteArray).extract (0 : Int).toNat (1 : Int).toNat = strB [83] := by apply bl_inj; rw [bl_extract, magic_bl, bl_strB _ (by decide)]; rfl
  have m1 : (⟨#[83, 103]⟩ : ByteArray).extract (1 : Int).toNat (2 : Int).toNat = strB [103] := by apply bl_inj; rw [bl_extract, magic_bl, bl_strB _ (by decide)]; rfl
  unfold openL
  generalize hh : headL ((bl s).drop p) = h
  have hok := headL_ok ((bl s).drop p) (fun b hb => bl_lt s b (List.mem_of_mem_drop hb))
  rw [hh] at hok
  unfold headL at hh
  rw [shunterref05_Open.l0, if_pos (by decide), w0.out]
  by_cases c0 : s.size - p = 0
  · rw [if_pos (show ((p : Nat) : Int) = (s.size : Int) by omega)]
    rw [if_pos (show ((bl s).drop p).length = 0 by omega)] at hh
    subst hh; rfl
  rw [if_neg (show ¬ (((bl s).drop p).length = 0) by omega)] at hh
  rw [if_neg (show ¬ (((p : Nat) : Int) = (s.size : Int)) by omega), w1.out, if_pos (by omega), if_pos (by omega), if_pos (by omega), v1.out, if_pos (by decide), if_pos (by decide), if_pos (by decide), m0, Int.toNat_natCast, Int.toNat_natCast]
  have g0 : ((bl s).drop p)[0]? = (bl s)[p]? := by rw [List.getElem?_drop]; rfl
  have hpl : p < (bl s).length := by rw [bl_length]; omega
  have q0 : ((s.extract p (p + 1)).toList = (strB [83]).toList) ↔ (bl s)[p]? = some 83 := by
    rw [toList_eq]
    constructor
    · intro e
      have := congrArg bl e
      rw [byte_ext s p (by omega), bl_strB _ (by decide), List.getElem?_eq_getElem hpl] at this
      rw [List.getElem?_eq_getElem hpl]; simpa using this
    · intro e; apply bl_inj; rw [byte_ext s p (by omega), bl_strB _ (by decide), e]; rfl
  by_cases c1 : (bl s)[p]? = some 83
  case neg =>
    rw [if_neg (fun e => c1 (q0.1 e))]
    rw [if_pos (show ((bl s).drop p)[0]? ≠ some 83 by rw [g0]; exact c1)] at hh
    subst hh; rfl
  rw [if_neg (show ¬ (((bl s).drop p)[0]? ≠ some 83) by rw [g0]; exact fun h => h c1)] at hh
  rw [if_pos (q0.2 c1), shunterref05_Open.l0, if_pos (by decide), w1.out]
  by_cases c2 : s.size - p = 1
  · rw [if_pos (show ((p + 1 : Nat) : Int) = (s.size : Int) by omega)]
    rw [if_pos (show ((bl s).drop p).length = 1 by omega)] at hh
    subst hh; rfl
  rw [if_neg (show ¬ (((bl s).drop p).length = 1) by omega)] at hh
  rw [if_neg (show ¬ (((p + 1 : Nat) : Int) = (s.size : Int)) by omega), w3.out, if_pos (by omega), if_pos (by omega), if_pos (by omega), v2.out, if_pos (by decide), if_pos (by decide), if_pos (by decide), m1, Int.toNat_natCast, Int.toNat_natCast]
  have g1 : ((bl s).drop p)[1]? = (bl s)[p + 1]? := by rw [List.getElem?_drop]
  have hpl1 : p + 1 < (bl s).length := by rw [bl_length]; omega
  have q1 : ((s.extract (p + 1) (p + 2)).toList = (strB [103]).toList) ↔ (bl s)[p + 1]? = some 103 := by
    rw [toList_eq]
    constructor
    · intro e
      have := congrArg bl e
      rw [byte_ext s (p + 1) (by omega), bl_strB _ (by decide), List.getElem?_eq_getElem hpl1] at this
      rw [List.getElem?_eq_getElem hpl1]; simpa using this
    · intro e; apply bl_inj; rw [byte_ext s (p + 1) (by omega), bl_strB _ (by decide), e]; rfl
  by_cases c3 : (bl s)[p + 1]? = some 103
  case neg =>
    rw [if_neg (fun e => c3 (q1.1 e))]
    rw [if_pos (show ((bl s).drop p)[1]? ≠ some 103 by rw [g1]; exact c3)] at hh
    subst hh; rfl
  rw [if_neg (show ¬ (((bl s).drop p)[1]? ≠ some 103) by rw [g1]; exact fun h => h c3), List.drop_drop, List.drop_drop] at hh
  rw [if_pos (q1.2 c3), shunterref05_Open.l0, if_neg (by decide), w2.out, ref_f s _ (by omega) k (by omega), getA_at s (p + 2) (by omega), Option.bind_some]
  clear w0 w1 w2 w3 v1 v2 m0 m1 q0 q1 g0 g1 c1 c3 hpl hpl1
  by_cases c4 : (getL 0 0 ((bl s).drop (p + 2))).2.2 ≠ 0
  · rw [res_bad _ _ c4, if_neg (show ¬ ((((getL 0 0 ((bl s).drop (p + 2))).2.2 : Nat) : Int) = 0) by omega)]
    rw [if_pos c4] at hh
    subst hh
    rw [if_pos c4]
    unfold openA
    rw [if_neg c4]
  have h4 : (getL 0 0 ((bl s).drop (p + 2))).2.2 = 0 := Classical.not_not.1 c4
  obtain ⟨_, _, a3, _, _⟩ := get_ok ((bl s).drop (p + 2)) (fun b hb => bl_lt s b (List.mem_of_mem_drop hb)) h4
  rw [List.length_drop, bl_length] at a3
  rw [if_neg c4] at hh
  rw [show p + (2 + (getL 0 0 ((bl s).drop (p + 2))).2.1) = p + 2 + (getL 0 0 ((bl s).drop (p + 2))).2.1 from by omega] at hh
  rw [res_ok _ _ h4, if_pos rfl, ref_f s _ (by omega) k (by omega), getA_at s (p + 2 + (getL 0 0 ((bl s).drop (p + 2))).2.1) (by omega), Option.bind_some]
  generalize getL 0 0 ((bl s).drop (p + 2)) = r at h4 a3 hh ⊢
  by_cases c5 : (getL 0 0 ((bl s).drop (p + 2 + r.2.1))).2.2 ≠ 0
  · rw [res_bad _ _ c5, if_neg (show ¬ ((((getL 0 0 ((bl s).drop (p + 2 + r.2.1))).2.2 : Nat) : Int) = 0) by omega)]
    rw [if_pos c5] at hh
    subst hh
    rw [if_pos c5]
    unfold openA
    rw [if_neg c5]
  have h5 : (getL 0 0 ((bl s).drop (p + 2 + r.2.1))).2.2 = 0 := Classical.not_not.1 c5
  rw [if_neg c5] at hh
  rw [res_ok _ _ h5, if_pos rfl]
  generalize getL 0 0 ((bl s).drop (p + 2 + r.2.1)) = q at h5 hh ⊢
  by_cases c6 : 4096 < q.1
  · rw [if_pos (show ((q.1 : Nat) : Int) > 4096 by omega)]
    rw [if_pos c6] at hh
    subst hh; rfl
  rw [if_neg c6] at hh
  rw [if_neg (show ¬ (((q.1 : Nat) : Int) > 4096) by omega)]
  have hq2 := congrArg (fun x => x.2.2.2) hh
  have hqa := congrArg (fun x => x.1) hh
  have hqb := congrArg (fun x => x.2.1) hh
  have hqc := congrArg (fun x => x.2.2.1) hh
  simp only at hq2 hqa hqb hqc
  clear hh
  obtain ⟨b1, b2, b3, b4, b5⟩ := hok hq2.symm
  rw [hlen] at b3
  rw [if_neg (show ¬ (h.2.2.2 ≠ 0) by omega)]
  have hcast : ((p + 2 + r.2.1 + q.2.1 : Nat) : Int) = ((p + h.2.2.1 : Nat) : Int) := by omega
  have u1 := Aside0.mk (show wrap64 (((p + h.2.2.1 : Nat) : Int) + (wrap64 ((h.2.1 : Nat) : Int))) = ((p + h.2.2.1 + h.2.1 : Nat) : Int) by rw [wz ((h.2.1 : Nat) : Int) (by omega) (by omega), wz _ (by omega) (by omega)]; omega)
  have u2 := Aside0.mk (show wrap64 (((p + h.2.2.1 + h.2.1 : Nat) : Int) + 4) = ((p + h.2.2.1 + h.2.1 + 4 : Nat) : Int) by rw [wz _ (by omega) (by omega)]; omega)
  simp only [hcast]
  rw [hqb, hqa]
  simp only [u1.out, u2.out]
  clear u1 u2 hcast
  by_cases c7 : ((bl s).drop p).length < h.2.2.1 + h.2.1 + 4
  · rw [if_pos (show (s.size : Int) < ((p + h.2.2.1 + h.2.1 + 4 : Nat) : Int) by omega), if_pos c7]; rfl
  rw [if_neg (show ¬ ((s.size : Int) < ((p + h.2.2.1 + h.2.1 + 4 : Nat) : Int)) by omega), if_neg c7, if_pos (by omega), if_pos (by omega), if_pos (by omega)]
  simp only [Int.toNat_natCast]
  have e3 : s.extract (p + h.2.2.1) (p + h.2.2.1 + h.2.1) = strB ((((bl s).drop p).drop h.2.2.1).take h.2.1) := by
    rw [extract_strB, List.drop_drop, show p + h.2.2.1 + h.2.1 - (p + h.2.2.1) = h.2.1 from by omega]
  have eb : bl (s.extract (p + h.2.2.1) (p + h.2.2.1 + h.2.1)) = (((bl s).drop p).drop h.2.2.1).take h.2.1 := by
    rw [bl_extract, List.drop_drop, show p + h.2.2.1 + h.2.1 - (p + h.2.2.1) = h.2.1 from by omega]
  have hbl : ((((bl s).drop p).drop h.2.2.1).take h.2.1).length = h.2.1 := by rw [List.length_take, List.length_drop, hlen]; omega
  obtain ⟨t, ht, hbt⟩ := refframe_f h.1 b1 (s.extract (p + h.2.2.1) (p + h.2.2.1 + h.2.1)) (by rw [ByteArray.size_extract]; omega) k (by omega)
  rw [eb] at hbt
  rw [ht, Option.bind_some, if_pos (by omega), if_pos (by omega), if_pos (by omega)]
  have hT : ((bl s).drop p).take (h.2.2.1 + h.2.1) = headOf h.1 h.2.1 ++ (((bl s).drop p).drop h.2.2.1).take h.2.1 := by rw [List.take_add, b5]
  have hfr : frameL h.1 ((((bl s).drop p).drop h.2.2.1).take h.2.1) = ((bl s).drop p).take (h.2.2.1 + h.2.1) ++ four (sumN (((bl s).drop p).take (h.2.2.1 + h.2.1))) := by
    unfold frameL; rw [hbl, hT]
  have hx : bl (s.extract p (p + h.2.2.1 + h.2.1 + 4)) = ((bl s).drop p).take (h.2.2.1 + h.2.1) ++ (((bl s).drop p).drop (h.2.2.1 + h.2.1)).take 4 := by
    rw [bl_extract, ← List.take_add]; congr 1; omega
  by_cases c8 : (((bl s).drop p).drop (h.2.2.1 + h.2.1)).take 4 ≠ four (sumN (((bl s).drop p).take (h.2.2.1 + h.2.1)))
  · rw [if_neg, if_pos c8]
    · rfl
    · intro e
      rw [toList_eq] at e
      have := congrArg bl e
      rw [hbt, hx, hfr] at this
      exact c8 (List.append_cancel_left this).symm
  · rw [if_neg c8, if_pos]
    · rw [e3]
      unfold openA
      rw [if_pos rfl]
      simp only
      congr 4
      omega
    · rw [toList_eq]
      apply bl_inj
      rw [hbt, hx, hfr, Classical.not_not.1 c8]

theorem refopen_f (s : ByteArray) (at_ : Int) (hs : s.size ≤ 200) (k : Nat) (hk : 60020 ≤ k) : shunterref05_Open.f k s at_ = some (openR s at_) := by
  obtain ⟨k, rfl⟩ : ∃ m, k = m + 1 := ⟨k - 1, by omega⟩
  unfold shunterref05_Open.f openR
  by_cases h0 : at_ < 0
  · rw [if_pos h0, if_pos (Or.inl h0), shunterref05_Open.j0, if_pos rfl]
  · rw [if_neg h0]
    by_cases h1 : (s.size : Int) < at_
    · rw [if_pos (Or.inr h1), shunterref05_Open.j0, if_pos (by simpa using h1)]
    · obtain ⟨p, rfl⟩ : ∃ p : Nat, at_ = (p : Int) := ⟨at_.toNat, by omega⟩
      rw [if_neg (by omega), show decide ((p : Int) > (s.size : Int)) = false from decide_eq_false (by omega), Int.toNat_natCast, shunterref05_Open.j0, if_neg (by decide)]
      exact refopen_l0 s p hs (by omega) k (by omega)

theorem awake5 (k : Nat) (hk : 30 ≤ k) : shunterlaw05_awake.f k = some true := by
  obtain ⟨t, ht, hb⟩ := frame_f 0 (by omega) (⟨#[]⟩ : ByteArray) (by decide) k (by omega)
  rw [show ((0 : Nat) : Int) = 0 from rfl] at ht
  have hb0 : bl (⟨#[]⟩ : ByteArray) = [] := rfl
  rw [hb0] at hb
  have hh : headOf 0 ([] : List Nat).length = [83, 103, 0, 0] := by
    show 83 :: 103 :: (putN 0 ++ putN 0) = _
    rw [putN_small (by omega)]; rfl
  have hsz : t.size = 8 := by rw [← bl_length, hb, frameL_len, hh]; rfl
  have hx : t.extract 0 4 = strB [83, 103, 0, 0] := by
    apply bl_inj
    rw [bl_extract, hb, bl_strB _ (by decide)]
    unfold frameL
    rw [hh]; rfl
  have ho := open_f (⟨#[83, 104]⟩ : ByteArray) 0 (by decide) k hk
  have hr : openR (⟨#[83, 104]⟩ : ByteArray) 0 = (0, (⟨#[]⟩ : ByteArray), 0, 1) := by
    unfold openR
    rw [if_neg (by decide)]
    have : (openL ((bl (⟨#[83, 104]⟩ : ByteArray)).drop (0 : Int).toNat)) = (0, [], 0, 1) := by
      show openL [83, 104] = _
      unfold openL headL
      simp
    rw [this]; rfl
  unfold shunterlaw05_awake.f
  rw [ht, Option.bind_some, ho, hr, Option.bind_some, if_pos rfl]
  dsimp only
  rw [if_pos (show (t.size : Int) = 8 by omega), if_pos (by decide), if_pos (show (4 : Int) ≤ (t.size : Int) by omega), hx, if_pos]
  · rfl
  · rw [ByteArray.toList_eq]; rfl

theorem SegmentOpens : shunterlaw05_SegmentOpens.Pure := by
  intro s at_ hs _
  refine ⟨100000, ?_⟩
  obtain ⟨t, ht, hn, _⟩ : ∃ t, shunterlaw01_Cut.f s ((200 : Nat) : Int) = some t ∧ t.size ≤ 200 ∧ t.size ≤ s.size := by
    unfold shunterlaw01_Cut.f
    by_cases h : (s.size : Int) > ((200 : Nat) : Int)
    · rw [if_pos h, if_pos (by omega), if_pos (by omega)]
      refine ⟨_, rfl, ?_, ?_⟩ <;> simp only [ByteArray.size_extract, Int.toNat_natCast] <;> omega
    · rw [if_neg h]; exact ⟨s, rfl, by omega, by omega⟩
  unfold shunterlaw05_SegmentOpens.f
  rw [show (200 : Int) = ((200 : Nat) : Int) from rfl, ht, Option.bind_some, awake5 100000 (by omega), Option.bind_some, if_pos rfl, open_f t at_ (by omega) 100000 (by omega), Option.bind_some, refopen_f t at_ hn 100000 (by omega), Option.bind_some,
    if_pos rfl, if_pos rfl, if_pos rfl]
  simp

end Go.Proofs.Ythlllcmffgdcmaa.Pure

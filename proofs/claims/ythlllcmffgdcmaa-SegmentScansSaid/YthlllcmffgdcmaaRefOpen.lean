/- The document's opening of a segment, for texts of at most 5000 bytes. -/
import Derived.Test.YthlllcmffgdcmaaPureSegmentOpens
namespace Go.Proofs.Ythlllcmffgdcmaa.RefOpen
open Go.RowKit Go.Proofs.Ythlllcmffgdcmaa.QSegmentOpens Go.Proofs.YthlllcmffgdcmaaW.PrintWords Go.Proofs.YthlllcmffgdcmaaW.PrintLast Go.Proofs.Ythlllcmffgdcmaa.LebPlain Go.Proofs.Ythlllcmffgdcmaa.LebWords Go.Proofs.Ythlllcmffgdcmaa.RecPlain Go.Proofs.Ythlllcmffgdcmaa.CrcPlain Go.Proofs.Ythlllcmffgdcmaa.CrcLink Go.Proofs.Ythlllcmffgdcmaa.SegPlain Go.Proofs.Ythlllcmffgdcmaa.LebQSegmentOpens Go.Proofs.Ythlllcmffgdcmaa.CrcSumQSegmentOpens Go.Proofs.Ythlllcmffgdcmaa.SegLinkQSegmentOpens Go.Proofs.Ythlllcmffgdcmaa.RefGetQSegmentOpens Go.Proofs Go.Proofs.Ythlllcmffgdcmaa.Pure

theorem byte_ext5 (s : ByteArray) (i : Nat) (h : i < s.size) : bl (s.extract i (i + 1)) = [((bl s)[i]?).getD 0] := by
  have hl : i < (bl s).length := by rw [bl_length]; exact h
  rw [bl_extract, List.drop_eq_getElem_cons hl, show i + 1 - i = 1 from by omega, List.getElem?_eq_getElem hl]; rfl

theorem refopen5_l0 (s : ByteArray) (p : Nat) (hs : s.size ≤ 5000) (hp : p ≤ s.size) (k : Nat) (hk : 60010 ≤ k) :
    shunterref05_Open.l0 k s (p : Int) 0 = some (openA p (openL ((bl s).drop p))) := by
  obtain ⟨k, rfl⟩ : ∃ m, k = m + 1 + 1 + 1 := ⟨k - 3, by omega⟩
  have hlen : ((bl s).drop p).length = s.size - p := by rw [List.length_drop, bl_length]
  have w0 := Aside0.mk (show wrap64 ((p : Int) + 0) = ((p : Nat) : Int) by rw [wz _ (by omega) (by omega)]; omega)
  have w1 := Aside0.mk (show wrap64 ((p : Int) + 1) = ((p + 1 : Nat) : Int) by rw [wz _ (by omega) (by omega)]; omega)
  have w2 := Aside0.mk (show wrap64 ((p : Int) + 2) = ((p + 2 : Nat) : Int) by rw [wz _ (by omega) (by omega)]; omega)
  have w3 := Aside0.mk (show wrap64 (((p + 1 : Nat) : Int) + 1) = ((p + 2 : Nat) : Int) by rw [wz _ (by omega) (by omega)]; omega)
  have v1 := Aside0.mk (show wrap64 (0 + 1) = 1 by rw [wz _ (by omega) (by omega)]; omega)
  have v2 := Aside0.mk (show wrap64 (1 + 1) = 2 by rw [wz _ (by omega) (by omega)]; omega)
  have m0 : (⟨#[83, 103]⟩ : ByteArray).extract (0 : Int).toNat (1 : Int).toNat = strB [83] := by apply bl_inj; rw [bl_extract, magic_bl, bl_strB _ (by decide)]; rfl
  have m1 : (⟨#[83, 103]⟩ : ByteArray).extract (1 : Int).toNat (2 : Int).toNat = strB [103] := by apply bl_inj; rw [bl_extract, magic_bl, bl_strB _ (by decide)]; rfl
  unfold openL
  generalize hh : headL ((bl s).drop p) = h
  have hok := headL_ok ((bl s).drop p) (fun b hb => bl_lt s b (List.mem_of_mem_drop hb))
  rw [hh] at hok
  unfold headL at hh
  rw [shunterref05_Open.l0, if_pos (by decide), w0.out]
  by_cases c0 : s.size - p = 0
  · rw [if_pos (show ((p : Nat) : Int) = (s.size : Int) by omega)]
    rw [if_pos (show ((bl s).drop p).length = 0 by omega)] at hh
    subst hh; rfl
  rw [if_neg (show ¬ (((bl s).drop p).length = 0) by omega)] at hh
  rw [if_neg (show ¬ (((p : Nat) : Int) = (s.size : Int)) by omega), w1.out, if_pos (by omega), if_pos (by omega), if_pos (by omega), v1.out, if_pos (by decide), if_pos (by decide), if_pos (by decide), m0, Int.toNat_natCast, Int.toNat_natCast]
  have g0 : ((bl s).drop p)[0]? = (bl s)[p]? := by rw [List.getElem?_drop]; rfl
  have hpl : p < (bl s).length := by rw [bl_length]; omega
  have q0 : ((s.extract p (p + 1)).toList = (strB [83]).toList) ↔ (bl s)[p]? = some 83 := by
    rw [toList_eq]
    constructor
    · intro e
      have := congrArg bl e
      rw [byte_ext5 s p (by omega), bl_strB _ (by decide), List.getElem?_eq_getElem hpl] at this
      rw [List.getElem?_eq_getElem hpl]; simpa using this
    · intro e; apply bl_inj; rw [byte_ext5 s p (by omega), bl_strB _ (by decide), e]; rfl
  by_cases c1 : (bl s)[p]? = some 83
  case neg =>
    rw [if_neg (fun e => c1 (q0.1 e))]
    rw [if_pos (show ((bl s).drop p)[0]? ≠ some 83 by rw [g0]; exact c1)] at hh
    subst hh; rfl
  rw [if_neg (show ¬ (((bl s).drop p)[0]? ≠ some 83) by rw [g0]; exact fun h => h c1)] at hh
  rw [if_pos (q0.2 c1), shunterref05_Open.l0, if_pos (by decide), w1.out]
  by_cases c2 : s.size - p = 1
  · rw [if_pos (show ((p + 1 : Nat) : Int) = (s.size : Int) by omega)]
    rw [if_pos (show ((bl s).drop p).length = 1 by omega)] at hh
    subst hh; rfl
  rw [if_neg (show ¬ (((bl s).drop p).length = 1) by omega)] at hh
  rw [if_neg (show ¬ (((p + 1 : Nat) : Int) = (s.size : Int)) by omega), w3.out, if_pos (by omega), if_pos (by omega), if_pos (by omega), v2.out, if_pos (by decide), if_pos (by decide), if_pos (by decide), m1, Int.toNat_natCast, Int.toNat_natCast]
  have g1 : ((bl s).drop p)[1]? = (bl s)[p + 1]? := by rw [List.getElem?_drop]
  have hpl1 : p + 1 < (bl s).length := by rw [bl_length]; omega
  have q1 : ((s.extract (p + 1) (p + 2)).toList = (strB [103]).toList) ↔ (bl s)[p + 1]? = some 103 := by
    rw [toList_eq]
    constructor
    · intro e
      have := congrArg bl e
      rw [byte_ext5 s (p + 1) (by omega), bl_strB _ (by decide), List.getElem?_eq_getElem hpl1] at this
      rw [List.getElem?_eq_getElem hpl1]; simpa using this
    · intro e; apply bl_inj; rw [byte_ext5 s (p + 1) (by omega), bl_strB _ (by decide), e]; rfl
  by_cases c3 : (bl s)[p + 1]? = some 103
  case neg =>
    rw [if_neg (fun e => c3 (q1.1 e))]
    rw [if_pos (show ((bl s).drop p)[1]? ≠ some 103 by rw [g1]; exact c3)] at hh
    subst hh; rfl
  rw [if_neg (show ¬ (((bl s).drop p)[1]? ≠ some 103) by rw [g1]; exact fun h => h c3), List.drop_drop, List.drop_drop] at hh
  rw [if_pos (q1.2 c3), shunterref05_Open.l0, if_neg (by decide), w2.out, ref_f s _ (by omega) k (by omega), getA_at s (p + 2) (by omega), Option.bind_some]
  clear w0 w1 w2 w3 v1 v2 m0 m1 q0 q1 g0 g1 c1 c3 hpl hpl1
  by_cases c4 : (getL 0 0 ((bl s).drop (p + 2))).2.2 ≠ 0
  · rw [res_bad _ _ c4, if_neg (show ¬ ((((getL 0 0 ((bl s).drop (p + 2))).2.2 : Nat) : Int) = 0) by omega)]
    rw [if_pos c4] at hh
    subst hh
    rw [if_pos c4]
    unfold openA
    rw [if_neg c4]
  have h4 : (getL 0 0 ((bl s).drop (p + 2))).2.2 = 0 := Classical.not_not.1 c4
  obtain ⟨_, _, a3, _, _⟩ := get_ok ((bl s).drop (p + 2)) (fun b hb => bl_lt s b (List.mem_of_mem_drop hb)) h4
  rw [List.length_drop, bl_length] at a3
  rw [if_neg c4] at hh
  rw [show p + (2 + (getL 0 0 ((bl s).drop (p + 2))).2.1) = p + 2 + (getL 0 0 ((bl s).drop (p + 2))).2.1 from by omega] at hh
  rw [res_ok _ _ h4, if_pos rfl, ref_f s _ (by omega) k (by omega), getA_at s (p + 2 + (getL 0 0 ((bl s).drop (p + 2))).2.1) (by omega), Option.bind_some]
  generalize getL 0 0 ((bl s).drop (p + 2)) = r at h4 a3 hh ⊢
  by_cases c5 : (getL 0 0 ((bl s).drop (p + 2 + r.2.1))).2.2 ≠ 0
  · rw [res_bad _ _ c5, if_neg (show ¬ ((((getL 0 0 ((bl s).drop (p + 2 + r.2.1))).2.2 : Nat) : Int) = 0) by omega)]
    rw [if_pos c5] at hh
    subst hh
    rw [if_pos c5]
    unfold openA
    rw [if_neg c5]
  have h5 : (getL 0 0 ((bl s).drop (p + 2 + r.2.1))).2.2 = 0 := Classical.not_not.1 c5
  rw [if_neg c5] at hh
  rw [res_ok _ _ h5, if_pos rfl]
  generalize getL 0 0 ((bl s).drop (p + 2 + r.2.1)) = q at h5 hh ⊢
  by_cases c6 : 4096 < q.1
  · rw [if_pos (show ((q.1 : Nat) : Int) > 4096 by omega)]
    rw [if_pos c6] at hh
    subst hh; rfl
  rw [if_neg c6] at hh
  rw [if_neg (show ¬ (((q.1 : Nat) : Int) > 4096) by omega)]
  have hq2 := congrArg (fun x => x.2.2.2) hh
  have hqa := congrArg (fun x => x.1) hh
  have hqb := congrArg (fun x => x.2.1) hh
  have hqc := congrArg (fun x => x.2.2.1) hh
  simp only at hq2 hqa hqb hqc
  clear hh
  obtain ⟨b1, b2, b3, b4, b5⟩ := hok hq2.symm
  rw [hlen] at b3
  rw [if_neg (show ¬ (h.2.2.2 ≠ 0) by omega)]
  have hcast : ((p + 2 + r.2.1 + q.2.1 : Nat) : Int) = ((p + h.2.2.1 : Nat) : Int) := by omega
  have u1 := Aside0.mk (show wrap64 (((p + h.2.2.1 : Nat) : Int) + (wrap64 ((h.2.1 : Nat) : Int))) = ((p + h.2.2.1 + h.2.1 : Nat) : Int) by rw [wz ((h.2.1 : Nat) : Int) (by omega) (by omega), wz _ (by omega) (by omega)]; omega)
  have u2 := Aside0.mk (show wrap64 (((p + h.2.2.1 + h.2.1 : Nat) : Int) + 4) = ((p + h.2.2.1 + h.2.1 + 4 : Nat) : Int) by rw [wz _ (by omega) (by omega)]; omega)
  simp only [hcast]
  rw [hqb, hqa]
  simp only [u1.out, u2.out]
  clear u1 u2 hcast
  by_cases c7 : ((bl s).drop p).length < h.2.2.1 + h.2.1 + 4
  · rw [if_pos (show (s.size : Int) < ((p + h.2.2.1 + h.2.1 + 4 : Nat) : Int) by omega), if_pos c7]; rfl
  rw [if_neg (show ¬ ((s.size : Int) < ((p + h.2.2.1 + h.2.1 + 4 : Nat) : Int)) by omega), if_neg c7, if_pos (by omega), if_pos (by omega), if_pos (by omega)]
  simp only [Int.toNat_natCast]
  have e3 : s.extract (p + h.2.2.1) (p + h.2.2.1 + h.2.1) = strB ((((bl s).drop p).drop h.2.2.1).take h.2.1) := by
    rw [extract_strB, List.drop_drop, show p + h.2.2.1 + h.2.1 - (p + h.2.2.1) = h.2.1 from by omega]
  have eb : bl (s.extract (p + h.2.2.1) (p + h.2.2.1 + h.2.1)) = (((bl s).drop p).drop h.2.2.1).take h.2.1 := by
    rw [bl_extract, List.drop_drop, show p + h.2.2.1 + h.2.1 - (p + h.2.2.1) = h.2.1 from by omega]
  have hbl : ((((bl s).drop p).drop h.2.2.1).take h.2.1).length = h.2.1 := by rw [List.length_take, List.length_drop, hlen]; omega
  obtain ⟨t, ht, hbt⟩ := refframe_f h.1 b1 (s.extract (p + h.2.2.1) (p + h.2.2.1 + h.2.1)) (by rw [ByteArray.size_extract]; omega) k (by omega)
  rw [eb] at hbt
  rw [ht, Option.bind_some, if_pos (by omega), if_pos (by omega), if_pos (by omega)]
  have hT : ((bl s).drop p).take (h.2.2.1 + h.2.1) = headOf h.1 h.2.1 ++ (((bl s).drop p).drop h.2.2.1).take h.2.1 := by rw [List.take_add, b5]
  have hfr : frameL h.1 ((((bl s).drop p).drop h.2.2.1).take h.2.1) = ((bl s).drop p).take (h.2.2.1 + h.2.1) ++ four (sumN (((bl s).drop p).take (h.2.2.1 + h.2.1))) := by
    unfold frameL; rw [hbl, hT]
  have hx : bl (s.extract p (p + h.2.2.1 + h.2.1 + 4)) = ((bl s).drop p).take (h.2.2.1 + h.2.1) ++ (((bl s).drop p).drop (h.2.2.1 + h.2.1)).take 4 := by
    rw [bl_extract, ← List.take_add]; congr 1; omega
  by_cases c8 : (((bl s).drop p).drop (h.2.2.1 + h.2.1)).take 4 ≠ four (sumN (((bl s).drop p).take (h.2.2.1 + h.2.1)))
  · rw [if_neg, if_pos c8]
    · rfl
    · intro e
      rw [toList_eq] at e
      have := congrArg bl e
      rw [hbt, hx, hfr] at this
      exact c8 (List.append_cancel_left this).symm
  · rw [if_neg c8, if_pos]
    · rw [e3]
      unfold openA
      rw [if_pos rfl]
      simp only
      congr 4
      omega
    · rw [toList_eq]
      apply bl_inj
      rw [hbt, hx, hfr, Classical.not_not.1 c8]

theorem refopen5_f (s : ByteArray) (at_ : Int) (hs : s.size ≤ 5000) (k : Nat) (hk : 60020 ≤ k) : shunterref05_Open.f k s at_ = some (openR s at_) := by
  obtain ⟨k, rfl⟩ : ∃ m, k = m + 1 := ⟨k - 1, by omega⟩
  unfold shunterref05_Open.f openR
  by_cases h0 : at_ < 0
  · rw [if_pos h0, if_pos (Or.inl h0), shunterref05_Open.j0, if_pos rfl]
  · rw [if_neg h0]
    by_cases h1 : (s.size : Int) < at_
    · rw [if_pos (Or.inr h1), shunterref05_Open.j0, if_pos (by simpa using h1)]
    · obtain ⟨p, rfl⟩ : ∃ p : Nat, at_ = (p : Int) := ⟨at_.toNat, by omega⟩
      rw [if_neg (by omega), show decide ((p : Int) > (s.size : Int)) = false from decide_eq_false (by omega), Int.toNat_natCast, shunterref05_Open.j0, if_neg (by decide)]
      exact refopen5_l0 s p hs (by omega) k (by omega)


end Go.Proofs.Ythlllcmffgdcmaa.RefOpen

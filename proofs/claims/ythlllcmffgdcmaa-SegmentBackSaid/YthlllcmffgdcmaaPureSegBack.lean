/- A segment, between any bytes, is opened as what was framed, and is the document's; one that is cut anywhere isn't opened. For every number, every three strings (of at most 2^47 - 4096 bytes, the form's reach) and every cut. -/
import Derived.Test.YthlllcmffgdcmaaSegBack0
import Derived.Test.YthlllcmffgdcmaaPureSegmentOpens
namespace Go.Proofs.Ythlllcmffgdcmaa.PureSegBack
open Go.RowKit Go.Proofs.Ythlllcmffgdcmaa.QSegmentOpens Go.Proofs.Ythlllcmffgdcmaa.SegBack Go.Proofs.YthlllcmffgdcmaaW.PrintWords Go.Proofs.YthlllcmffgdcmaaW.PrintLast Go.Proofs.Ythlllcmffgdcmaa.LebPlain Go.Proofs.Ythlllcmffgdcmaa.LebWords Go.Proofs.Ythlllcmffgdcmaa.RecPlain Go.Proofs.Ythlllcmffgdcmaa.CrcPlain Go.Proofs.Ythlllcmffgdcmaa.CrcLink Go.Proofs.Ythlllcmffgdcmaa.SegPlain Go.Proofs.Ythlllcmffgdcmaa.LebQSegmentOpens Go.Proofs.Ythlllcmffgdcmaa.CrcSumQSegmentOpens Go.Proofs.Ythlllcmffgdcmaa.SegLinkQSegmentOpens Go.Proofs.Ythlllcmffgdcmaa.RefGetQSegmentOpens Go.Proofs.Ythlllcmffgdcmaa.Pure

theorem cut_f (s : ByteArray) (n : Nat) : ∃ t, shunterlaw01_Cut.f s (n : Int) = some t ∧ t.size ≤ n ∧ t.size ≤ s.size := by
  unfold shunterlaw01_Cut.f
  by_cases h : (s.size : Int) > (n : Int)
  · rw [if_pos h, if_pos (by omega), if_pos (by omega)]
    refine ⟨_, rfl, ?_, ?_⟩ <;> simp only [ByteArray.size_extract, Int.toNat_natCast] <;> omega
  · rw [if_neg h]; exact ⟨s, rfl, by omega, by omega⟩

theorem and_65535 (x : Int) : 0 ≤ Go.bits .and .i64 x 65535 ∧ Go.bits .and .i64 x 65535 ≤ 65535 := by
  have h : (BitVec.ofInt 64 x &&& BitVec.ofInt 64 65535).toNat ≤ 65535 := by
    rw [BitVec.toNat_and]; exact Nat.and_le_right
  have e : Go.bits .and .i64 x 65535 = IntKind.i64.wrap ((BitVec.ofInt 64 x &&& BitVec.ofInt 64 65535).toNat : Int) := rfl
  rw [e, IntKind.wrap_i64]
  omega

theorem SegmentBack : shunterlaw05_SegmentBack.Pure := by
  intro a0 a1 a2 a3 a4 w0 w1 w2 w3 w4
  refine ⟨100000, ?_⟩
  have b0 : 0 ≤ a0 ∧ a0 ≤ 18446744073709551615 := by simpa [Lit.wf, IntKind.min, IntKind.max, IntKind.signed, IntKind.bits] using w0
  obtain ⟨seq, rfl⟩ := Int.eq_ofNat_of_zero_le b0.1
  have hseq : seq < 18446744073709551616 := by omega
  clear b0 w0
  obtain ⟨body, hb, hb300, _⟩ := cut_f a1 300
  obtain ⟨front, hf, hf20, _⟩ := cut_f a2 20
  obtain ⟨more, hm, hm20, _⟩ := cut_f a3 20
  clear w1 w2 w3
  obtain ⟨t, ht, hbt⟩ := frame_f seq hseq body (by omega) 100000 (by omega)
  obtain ⟨t', ht', hbt'⟩ := refframe_f seq hseq body (by omega) 100000 (by omega)
  have htt : t = t' := bl_inj (hbt.trans hbt'.symm)
  subst htt
  have hn : (bl body).length ≤ 4096 := by rw [bl_length]; omega
  have hlen := frameL_len seq (bl body)
  have hhl := headOf_len seq (bl body).length
  have p1 := putN_len seq hseq
  have p2 := putN_len (bl body).length (by omega)
  have hbl : (bl body).length = body.size := bl_length body
  have hts : t.size = (frameL seq (bl body)).length := by rw [← bl_length, hbt]
  have z1 : (front ++ t).size = front.size + t.size := ByteArray.size_append
  have z2 : ((front ++ t) ++ more).size = front.size + t.size + more.size := by rw [ByteArray.size_append, z1]
  have ho1 := open_f ((front ++ t) ++ more) (front.size : Int) (by omega) 100000 (by omega)
  have hr1 : openR ((front ++ t) ++ more) (front.size : Int) = ((seq : Int), body, ((front.size + (frameL seq (bl body)).length : Nat) : Int), 0) := by
    unfold openR
    rw [if_neg (by omega), Int.toNat_natCast, bl_append, bl_append, hbt, List.append_assoc, List.drop_left' (bl_length front), openL_frame seq (bl body) (bl more) hseq hn]
    unfold openA
    rw [if_pos rfl]
    simp only [strB_bl]
  rw [hr1] at ho1
  obtain ⟨q0, q1⟩ := and_65535 a4
  unfold shunterlaw05_SegmentBack.f
  rw [show (300 : Int) = ((300 : Nat) : Int) from rfl, show (20 : Int) = ((20 : Nat) : Int) from rfl, hb, Option.bind_some, hf, Option.bind_some, hm, Option.bind_some, awake5 100000 (by omega), Option.bind_some, if_pos rfl, ht, Option.bind_some]
  dsimp only
  generalize Go.bits .and .i64 a4 65535 = x at q0 q1 ⊢
  obtain ⟨x, rfl⟩ := Int.eq_ofNat_of_zero_le q0
  have hc : Int.tmod (x : Int) (t.size : Int) = ((x % t.size : Nat) : Int) := by
    rw [Int.tmod_eq_emod_of_nonneg (by omega), Int.natCast_emod]
  have hpos : 0 < t.size := by omega
  have hlt : x % t.size < t.size := Nat.mod_lt _ hpos
  rw [hc]
  generalize x % t.size = c at hlt ⊢
  have hce : bl (t.extract 0 c) = (frameL seq (bl body)).take c := by rw [bl_extract, hbt]; simp
  have ho2 := open_f (t.extract 0 c) 0 (by rw [ByteArray.size_extract]; omega) 100000 (by omega)
  have hr2 : (openR (t.extract 0 c) 0).2.2.2 = 2 := by
    unfold openR
    rw [if_neg (by omega), hce, show (0 : Int).toNat = 0 from rfl, List.drop_zero]
    have := openL_cut seq (bl body) hseq hn c (by omega)
    unfold openA
    rw [if_neg (by rw [this]; decide), this]
    rfl
  rw [if_pos (by omega), if_pos (by omega), ho1, Option.bind_some, if_neg (by omega), if_pos (by omega), if_pos (by omega), Int.toNat_natCast, ho2, Option.bind_some, if_pos rfl, ht', Option.bind_some, if_pos rfl, if_pos rfl, if_pos rfl, if_pos rfl]
  dsimp only
  rw [hr2, if_pos (by omega)]
  rfl

end Go.Proofs.Ythlllcmffgdcmaa.PureSegBack

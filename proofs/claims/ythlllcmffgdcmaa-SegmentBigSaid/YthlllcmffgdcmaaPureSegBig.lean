/- A body of more than 4096 bytes is refused, any other one (of zeros) is framed and opened again. For every number. -/
import Derived.Test.YthlllcmffgdcmaaSegBig0
import Derived.Test.YthlllcmffgdcmaaPureSegmentOpens
namespace Go.Proofs.Ythlllcmffgdcmaa.PureSegBig
open Go.RowKit Go.Proofs.Ythlllcmffgdcmaa.QSegmentOpens Go.Proofs.Ythlllcmffgdcmaa.SegBig Go.Proofs.YthlllcmffgdcmaaW.PrintWords Go.Proofs.YthlllcmffgdcmaaW.PrintLast Go.Proofs.Ythlllcmffgdcmaa.LebPlain Go.Proofs.Ythlllcmffgdcmaa.LebWords Go.Proofs.Ythlllcmffgdcmaa.RecPlain Go.Proofs.Ythlllcmffgdcmaa.CrcPlain Go.Proofs.Ythlllcmffgdcmaa.CrcLink Go.Proofs.Ythlllcmffgdcmaa.SegPlain Go.Proofs.Ythlllcmffgdcmaa.LebQSegmentOpens Go.Proofs.Ythlllcmffgdcmaa.CrcSumQSegmentOpens Go.Proofs.Ythlllcmffgdcmaa.SegLinkQSegmentOpens Go.Proofs.Ythlllcmffgdcmaa.Pure

theorem and_65535 (x : Int) : 0 ≤ Go.bits .and .i64 x 65535 ∧ Go.bits .and .i64 x 65535 ≤ 65535 := by
  have h : (BitVec.ofInt 64 x &&& BitVec.ofInt 64 65535).toNat ≤ 65535 := by
    rw [BitVec.toNat_and]; exact Nat.and_le_right
  have e : Go.bits .and .i64 x 65535 = IntKind.i64.wrap ((BitVec.ofInt 64 x &&& BitVec.ofInt 64 65535).toNat : Int) := rfl
  rw [e, IntKind.wrap_i64]
  omega

theorem SegmentBig : shunterlaw05_SegmentBig.Pure := by
  intro a0 _
  refine ⟨100000, ?_⟩
  obtain ⟨q0, q1⟩ := and_65535 a0
  unfold shunterlaw05_SegmentBig.f
  rw [awake5 100000 (by omega), Option.bind_some, if_pos rfl]
  generalize Go.bits .and .i64 a0 65535 = x at q0 q1 ⊢
  obtain ⟨x, rfl⟩ := Int.eq_ofNat_of_zero_le q0
  have hc : Int.tmod (x : Int) 5001 = ((x % 5001 : Nat) : Int) := by
    rw [Int.tmod_eq_emod_of_nonneg (by omega)]; omega
  have hlt : x % 5001 < 5001 := Nat.mod_lt _ (by decide)
  rw [hc]
  generalize x % 5001 = n at hlt ⊢
  rw [if_pos (by omega), Int.toNat_natCast, if_pos (by omega), Option.bind_some]
  have hsz : (strOfNums (List.replicate n 0)).size = n := by rw [strOfNums_size, List.length_replicate]
  generalize strOfNums (List.replicate n 0) = body at hsz ⊢
  by_cases hbig : 4096 < n
  · have hf := frame_big 7 body (by omega) 100000
    rw [hf, Option.bind_some, if_pos (by omega), if_pos rfl]
    dsimp only
    rw [ByteArray.toList_eq]; rfl
  · obtain ⟨t, ht, hbt⟩ := frame_f 7 (by omega) body (by omega) 100000 (by omega)
    rw [show ((7 : Nat) : Int) = 7 from rfl] at ht
    have hn : (bl body).length ≤ 4096 := by rw [bl_length]; omega
    have hlen := frameL_len 7 (bl body)
    have hhl := headOf_len 7 (bl body).length
    have p1 := putN_len 7 (by omega)
    have p2 := putN_len (bl body).length (by omega)
    have hbl : (bl body).length = body.size := bl_length body
    have hts : t.size = (frameL 7 (bl body)).length := by rw [← bl_length, hbt]
    have ho := open_f t 0 (by omega) 100000 (by omega)
    have hr : openR t 0 = (7, body, (((frameL 7 (bl body)).length : Nat) : Int), 0) := by
      unfold openR
      have := openL_frame 7 (bl body) [] (by omega) hn
      rw [List.append_nil] at this
      rw [if_neg (by omega), show (0 : Int).toNat = 0 from rfl, List.drop_zero, hbt, this]
      unfold openA
      rw [if_pos rfl]
      simp only [strB_bl, Nat.zero_add]
      rfl
    rw [hr] at ho
    rw [ht, Option.bind_some, if_neg (by omega), ho, Option.bind_some, if_pos rfl, if_pos rfl]
    simp

end Go.Proofs.Ythlllcmffgdcmaa.PureSegBig

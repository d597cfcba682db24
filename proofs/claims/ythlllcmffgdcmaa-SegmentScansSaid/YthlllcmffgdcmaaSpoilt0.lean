/- The walk of SegmentSpoilt. -/
import Derived.Test.YthlllcmffgdcmaaPureSegmentOpens
import Derived.Test.YthlllcmffgdcmaaSpoiltPlain
import Derived.Deep.RegionHeld3
import Derived.Deep.DeepCutAuto
import Derived.Deep.CutBlock
import Derived.StillTailTactics
namespace Go.Proofs.Ythlllcmffgdcmaa.Spoilt
open Go.RowKit Go.Proofs.Ythlllcmffgdcmaa.QSegmentOpens Go.Proofs.YthlllcmffgdcmaaW.PrintWords Go.Proofs.YthlllcmffgdcmaaW.PrintLast Go.Proofs.YthlllcmffgdcmaaW.PrintMore Go.Proofs.Ythlllcmffgdcmaa.LebPlain Go.Proofs.Ythlllcmffgdcmaa.LebWords Go.Proofs.Ythlllcmffgdcmaa.RecPlain Go.Proofs.Ythlllcmffgdcmaa.CrcPlain Go.Proofs.Ythlllcmffgdcmaa.SegPlain Go.Proofs.Ythlllcmffgdcmaa.SegLinkQSegmentOpens Go.Proofs.Ythlllcmffgdcmaa.Pure
set_option linter.unusedVariables false
set_option linter.unusedSimpArgs false

/-- The first n bytes. -/
def cutS (s : ByteArray) (n : Nat) : ByteArray := if (n : Int) < (s.size : Int) then s.extract 0 n else s
theorem cutS_size (s : ByteArray) (n : Nat) : (cutS s n).size ≤ n := by
  unfold cutS; split
  · rw [ByteArray.size_extract]; omega
  · omega
theorem cut_calls (s : ByteArray) (n : Nat) (N : Int) (hN : N = (n : Int)) (w : World) : Calls Try.prog 25 #[.string s, .int .i64 N] w fun e w' => e = .returned (.string (cutS s n)) ∧ w = w' := by
  subst hN
  by_cases h : (n : Int) < (s.size : Int)
  · have e : cutS s n = s.extract 0 n := if_pos h
    have h1 : decide ((n : Int) < (s.size : Int)) = true := decide_eq_true h
    rw [e]
    clear e
    go_enter Try.func25, Try.ntmps25
    go_wp2
    go_ret
    exact ⟨rfl, rfl⟩
  · have e : cutS s n = s := if_neg h
    have h1 : decide ((n : Int) < (s.size : Int)) = false := decide_eq_false h
    rw [e]
    clear e
    go_enter Try.func25, Try.ntmps25
    go_wp2
    go_ret
    exact ⟨rfl, rfl⟩

/-- Bytes in memory, to be read and written. -/
def BytesAt (w : World) (z : Nat) (l : List Nat) : Prop := ∀ j, j < l.length → w.cell? ⟨z, j, none⟩ = some (.int .u8 ((l.getD j 0 : Nat) : Int)) ∧ w.frozen? ⟨z, j, none⟩ = false
theorem bytes_at_new (w : World) (s : ByteArray) : BytesAt (Lib.bytesWorld w 5 s) w.heap.size (bl s) := by
  intro j hj
  have hj' : j < s.size := by rwa [bl_length] at hj
  constructor
  · rw [Lib.bytesWorld_cell w 5 s j hj']
    congr 2
    simp only [bl, List.getD_eq_getElem?_getD, List.getElem?_map]
    rcases s.data.toList[j]? with _ | q <;> simp
  · simp only [World.frozen?, Lib.bytesWorld_at_new, Lib.bytesCells, Array.size_append, Array.size_map]
    have : s.data.size = s.size := rfl
    simp only [this, Bool.and_eq_false_iff, decide_eq_false_iff_not]
    omega
theorem BytesAt.set_ {w : World} {z : Nat} {l : List Nat} (h : BytesAt w z l) (k v : Nat) (hk : k < l.length) : BytesAt (w.setCell ⟨z, k, none⟩ (.int .u8 (v : Int))) z (l.set k v) := by
  intro j hj
  rw [List.length_set] at hj
  constructor
  · by_cases he : j = k
    · subst he
      rw [World.cell?_setCell_same _ _ _ (h j hj).1]
      simp [List.getD_eq_getElem?_getD, hj]
    · rw [World.cell?_setCell_other _ _ _ _ (by intro hh; injection hh with _ hh; exact he hh.symm), (h j hj).1]
      simp [List.getD_eq_getElem?_getD, List.getElem?_set_ne (Ne.symm he)]
  · rw [World.frozen?_setCell]; exact (h j hj).2
theorem BytesAt.below {w w' : World} {z : Nat} {l : List Nat} (h : BytesAt w z l) (hb : Below w.heap.size w w') : BytesAt w' z l := fun j hj => by
  have hlt := World.block_lt_of_cell? w _ (h j hj).1
  exact ⟨(hb.cell hlt).trans (h j hj).1, (hb.frozen hlt).trans (h j hj).2⟩
theorem BytesAt.reads {w : World} {z : Nat} {l : List Nat} (h : BytesAt w z l) (hm : l.length ≤ 9223372036854775807) : ReadsInt w .u8 (some ⟨z, 0, none⟩) l.length (l.map Int.ofNat) := by
  refine ⟨by simp, hm, fun _ => ⟨_, rfl, fun j hj => ?_⟩⟩
  rw [add_plain, (h j hj).1]
  congr 2
  simp only [List.getD_eq_getElem?_getD, List.getElem?_map]
  rcases l[j]? with _ | q <;> simp

theorem spoiled {w : World} {z v b i q r : Nat} {l : List Nat} (h : BytesAt w z (spoil l v b i)) (hk : b + i < 8 * (spoil l v b i).length) (hq : q = (b + i) / 8) (hr : r = (b + i) % 8) (hbit : v / 2 ^ i % 2 = 1) (hl : ∀ x ∈ spoil l v b i, x < 256) :
    BytesAt (w.setCell ⟨z, q, none⟩ (.int .u8 (Go.bits .xor .u8 (((spoil l v b i)[q]?.getD 0 : Nat) : Int) (2 ^ r % 256)))).drew z (spoil l v b (i + 1)) := by
  have hp : 2 ^ r < 256 := by rw [hr]; exact pow_lt256 _
  have hx : (spoil l v b i)[q]?.getD 0 < 256 := by
    rcases hh : (spoil l v b i)[q]? with _ | c
    · simp
    · exact hl c (List.mem_of_getElem? hh)
  have e1 : ((2 : Int) ^ r % 256) = ((2 ^ r : Nat) : Int) := by
    rw [show ((2 : Int) ^ r) = ((2 ^ r : Nat) : Int) by rw [Int.natCast_pow]; rfl]
    exact Int.emod_eq_of_lt (Int.natCast_nonneg _) (Int.ofNat_lt.2 hp)
  have h2 := h.set_ q ((spoil l v b i)[q]?.getD 0 ^^^ 2 ^ r) (by omega)
  rw [e1, u8_xor_nat _ _ hx hp]
  have e2 : spoil l v b (i + 1) = (spoil l v b i).set q ((spoil l v b i)[q]?.getD 0 ^^^ 2 ^ r) := by
    rw [spoil, if_pos hbit, CrcPlain.flip, ← hq, ← hr, List.getD_eq_getElem?_getD]
  rw [e2]
  exact h2

theorem conv_of {w : World} {z n c : Nat} {xs : List Int} {G : ByteArray} (h : ReadsInt w .u8 (some ⟨z, 0, none⟩) n xs) (hG : G = strOfNums xs) : (convert 59 9 (.slice (some ⟨z, 0, none⟩) n c)).run Try.prog w = .ok (.string G) w := by
  rw [hG]
  exact string_of_reads Try.underlying59 Try.underlying5 Try.underlying9 h

theorem toList_inj {s t : ByteArray} (h : s.toList = t.toList) : s = t := by
  rw [ByteArray.toList_eq, ByteArray.toList_eq] at h
  apply ByteArray.ext
  exact Array.ext' h
theorem empty_iff (t : ByteArray) : t.toList.isEmpty = true ↔ t.size = 0 := by
  rw [ByteArray.toList_eq, List.isEmpty_iff, ← List.length_eq_zero_iff, Array.length_toList]
  exact Iff.rfl


theorem awake_calls (w : World) : Calls Try.prog 29 #[] w fun e w' => e = .returned (.bool true) ∧ Below w.heap.size w w' :=
  shunterlaw05_awake.calls 30 true w (awake5 30 (by decide))

theorem frame_calls (seq : Nat) (hs : seq < 18446744073709551616) (body F : ByteArray) (h : body.size ≤ 4096) (hF : F = strB (frameL seq (bl body))) (w : World) :
    Calls Try.prog 30 #[.int .u64 (seq : Int), .string body] w fun e w' => e = .returned (.tuple #[.string F, .int .i64 0]) ∧ Below w.heap.size w w' := by
  obtain ⟨t, ht, hb⟩ := frame_f seq hs body h 20 (by decide)
  have e : t = F := bl_inj (by rw [hb, hF, bl_strB _ (frameL_lt _ _ (bl_lt _))])
  subst e
  exact segment_Frame.calls 20 _ _ _ _ w ht

theorem open_calls (s : ByteArray) (hs : s.size ≤ 1000000) (er : Int) (he : er = ((openL (bl s)).2.2.2 : Int)) (w : World) :
    Calls Try.prog 31 #[.string s, .int .i64 0] w fun e w' => ∃ r1 r2 r3, e = .returned (.tuple #[.int .u64 r1, .string r2, .int .i64 r3, .int .i64 er]) ∧ Below w.heap.size w w' := by
  have hf := open_f s 0 hs 30 (by decide)
  have h4 : (openR s 0).2.2.2 = er := by
    unfold openR
    rw [if_neg (by omega), show (0 : Int).toNat = 0 from rfl, List.drop_zero, he]
    unfold openA
    split
    · rename_i h; rw [h]; rfl
    · rfl
  rcases h : openR s 0 with ⟨r1, r2, r3, r4⟩
  rw [h] at hf h4
  simp only at h4
  subst h4
  exact (segment_Open.calls 30 _ _ _ _ _ _ w hf).mono fun e w' ⟨h1, h2⟩ => ⟨r1, r2, r3, h1, h2⟩
end Go.Proofs.Ythlllcmffgdcmaa.Spoilt

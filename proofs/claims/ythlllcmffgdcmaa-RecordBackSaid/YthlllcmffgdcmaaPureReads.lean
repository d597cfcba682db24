/- Any bytes of at most 80 are read as decisions, as far as they can be, as the document says; what is read has just these bytes; from any byte on the next one is read, or the document's error told. For every string (of at most 2^47 - 4096 bytes, the form's reach) and every place. -/
import Derived.Test.YthlllcmffgdcmaaReads1
import Derived.Test.YthlllcmffgdcmaaRecRecordReads
import Derived.Test.YthlllcmffgdcmaaRefGetRecordReads
namespace Go.Proofs.Ythlllcmffgdcmaa.PureReads
open Go.RowKit Go.Proofs.Ythlllcmffgdcmaa.PRecordReads Go.Proofs.Ythlllcmffgdcmaa.Reads Go.Proofs.YthlllcmffgdcmaaW.PrintWords Go.Proofs.YthlllcmffgdcmaaW.PrintLast Go.Proofs.Ythlllcmffgdcmaa.LebPlain Go.Proofs.Ythlllcmffgdcmaa.LebWords Go.Proofs.Ythlllcmffgdcmaa.LebRecordReads Go.Proofs.Ythlllcmffgdcmaa.RecPlain Go.Proofs.Ythlllcmffgdcmaa.RecRecordReads Go.Proofs.Ythlllcmffgdcmaa.RefGetRecordReads

/-- A number, as the document's decision. -/
def recQ (n : Nat) : S36 := ⟨((n % 4 + 1 : Nat) : Int), ((n / 4 : Nat) : Int)⟩

theorem kind_eq (v : Nat) : wrap64 ((wrap64 (Int.tmod (v : Int) 4)) + 1) = ((v % 4 + 1 : Nat) : Int) := by
  rw [Int.tmod_eq_emod_of_nonneg (by omega)]
  have : (v : Int) % 4 = ((v % 4 : Nat) : Int) := by omega
  rw [this]
  have h : v % 4 < 4 := by omega
  generalize v % 4 = x at h
  unfold wrap64; omega

theorem num_eq (v : Nat) (h : v < 18446744073709551616) : IntKind.u64.wrap (Int.tdiv (v : Int) 4) = ((v / 4 : Nat) : Int) := by
  rw [Int.tdiv_eq_ediv_of_nonneg (by omega), IntKind.wrap_u64]; omega

theorem refall_l0 (s : ByteArray) (hs : s.size ≤ 1000000) : ∀ (f k p : Nat) (acc : List S36), p ≤ s.size → s.size - p < f → f + 60 ≤ k → acc.length + f ≤ 2000000 →
    shunterref02_All.l0 k s acc (p : Int) = some (acc ++ (allN f ((bl s).drop p)).1.map recQ, ((p + (allN f ((bl s).drop p)).2 : Nat) : Int)) := by
  intro f
  induction f with
  | zero => intro k p acc hp hf; omega
  | succ f ih =>
    intro k p acc hp hf hk ha
    obtain ⟨k, rfl⟩ : ∃ m, k = m + 1 := ⟨k - 1, by omega⟩
    rw [shunterref02_All.l0]
    by_cases hlt : p < s.size
    · rw [if_pos (show (p : Int) < (s.size : Int) by omega), ref_f s _ (by omega) k (by omega), getA_at s p hp, Option.bind_some]
      by_cases h : (getL 0 0 ((bl s).drop p)).2.2 = 0
      · obtain ⟨a1, a2, a3⟩ := getL_facts s p hp h
        rw [res_ok _ _ h, if_pos rfl, if_pos (by omega)]
        simp only
        rw [kind_eq, num_eq _ a1, ih k _ _ a3 (by omega) (by omega) (by simp only [List.length_append, List.length_singleton]; omega)]
        rw [allN, if_neg (by intro e; have := congrArg List.length e; rw [List.length_drop, bl_length, List.length_nil] at this; omega), if_pos h, List.drop_drop]
        simp only [List.map_cons, List.append_assoc, List.cons_append, List.nil_append]
        congr 2
        rw [Nat.add_assoc]
      · rw [res_bad _ _ h, if_neg (show ¬ (((getL 0 0 ((bl s).drop p)).2.2 : Int) = 0) by omega), allN_bad _ _ h]
        simp
    · rw [if_neg (by omega), List.drop_eq_nil_of_le (by rw [bl_length]; omega), allN_nil]
      simp

theorem refall_f (s : ByteArray) (hs : s.size ≤ 1000000) (k : Nat) (hk : s.size + 61 ≤ k) :
    shunterref02_All.f k s = some ((allN (s.size + 1) (bl s)).1.map recQ, ((allN (s.size + 1) (bl s)).2 : Int)) := by
  have := refall_l0 s hs (s.size + 1) k 0 [] (by omega) (by omega) (by omega) (by simp only [List.length_nil]; omega)
  unfold shunterref02_All.f
  rw [show ((0 : Nat) : Int) = 0 from rfl] at this
  rw [this]; simp

theorem rd_recQ (ns : List Nat) (i : Nat) (h : i < ns.length) : rd_T36 (ns.map recQ) (i : Int) = recQ ns[i] := by
  simp [rd_T36, List.getD, h]

theorem are_l0 (ns : List Nat) (hl : ns.length ≤ 1000000) : ∀ (d i k : Nat), i + d = ns.length → d < k →
    shunterlaw02_Are.l0 k (ns.map recP) (ns.map recQ) (ns.length : Int) (i : Int) = some 0 := by
  intro d
  induction d with
  | zero =>
    intro i k hi hk
    obtain ⟨k, rfl⟩ : ∃ m, k = m + 1 := ⟨k - 1, by omega⟩
    rw [shunterlaw02_Are.l0, if_neg (by omega)]
  | succ d ih =>
    intro i k hi hk
    obtain ⟨k, rfl⟩ : ∃ m, k = m + 1 := ⟨k - 1, by omega⟩
    have hlt : i < ns.length := by omega
    rw [shunterlaw02_Are.l0, if_pos (show (i : Int) < (ns.length : Int) by omega), if_pos (show (0 : Int) ≤ (i : Int) by omega), if_pos (show (i : Int) < ((ns.map recP).length : Int) by rw [List.length_map]; omega),
      if_pos (show (i : Int) < ((ns.map recQ).length : Int) by rw [List.length_map]; omega), rd_recP ns i hlt, rd_recQ ns i hlt, if_neg (by simp [recP, recQ]),
      show wrap64 ((i : Int) + 1) = ((i + 1 : Nat) : Int) from by unfold wrap64; omega]
    exact ih (i + 1) k (by omega) (by omega)

theorem are_f (ns : List Nat) (hl : ns.length ≤ 1000000) (k : Nat) (hk : ns.length < k) : shunterlaw02_Are.f k (ns.map recP) (ns.map recQ) = some 0 := by
  have := are_l0 ns hl ns.length 0 k (by omega) (by omega)
  unfold shunterlaw02_Are.f
  rw [List.length_map, List.length_map, if_pos rfl]
  exact this

theorem check_f (n : Nat) (h : n < 18446744073709551616) (k : Nat) (hk : 1 ≤ k) : record_Record_Check.f k (recP n).f0 (recP n).f1 = some 0 := by
  obtain ⟨k, rfl⟩ : ∃ m, k = m + 1 := ⟨k - 1, by omega⟩
  show record_Record_Check.f (k + 1) ((n % 4 + 1 : Nat) : Int) ((n / 4 : Nat) : Int) = some 0
  unfold record_Record_Check.f
  rw [if_neg (by omega), record_Record_Check.j0, show decide (((n % 4 + 1 : Nat) : Int) > 4) = false from decide_eq_false (by omega), if_neg (by decide), if_neg (by omega)]

theorem cut_f (s : ByteArray) (n : Nat) : ∃ t, shunterlaw01_Cut.f s (n : Int) = some t ∧ t.size ≤ n ∧ t.size ≤ s.size := by
  unfold shunterlaw01_Cut.f
  by_cases h : (s.size : Int) > (n : Int)
  · rw [if_pos h, if_pos (by omega), if_pos (by omega)]
    refine ⟨_, rfl, ?_, ?_⟩ <;> simp only [ByteArray.size_extract, Int.toNat_natCast] <;> omega
  · rw [if_neg h]; exact ⟨s, rfl, by omega, by omega⟩

theorem tail_any (t : ByteArray) (at_ : Int) (ht : t.size ≤ 80) (k : Nat) (hk : 100 ≤ k) : shunterlaw02_RecordReads.j0 k t at_ false = some true := by
  obtain ⟨k, rfl⟩ : ∃ m, k = m + 1 := ⟨k - 1, by omega⟩
  rw [shunterlaw02_RecordReads.j0, if_neg (by decide)]
  by_cases hr : at_ < 0 ∨ (t.size : Int) < at_
  · have hA : getA t at_ = (0, 0, 4) := by unfold getA; rw [if_pos hr]
    unfold record_Parse.f
    rw [get_f t at_ (by omega) k (by omega), ref_f t at_ (by omega) k (by omega), hA, Option.bind_some, if_neg (by decide), Option.bind_some, Option.bind_some, if_neg (by decide), if_pos rfl]
    rfl
  · obtain ⟨p, rfl⟩ : ∃ p : Nat, at_ = (p : Int) := ⟨at_.toNat, by omega⟩
    have hp : p ≤ t.size := by omega
    rw [ref_f t _ (by omega) k (by omega), getA_at t p hp]
    by_cases h : (getL 0 0 ((bl t).drop p)).2.2 = 0
    · have hv := (getL_facts t p hp h).1
      rw [parse_ok t p (by omega) hp k (by omega) h, res_ok _ _ h, Option.bind_some, Option.bind_some, if_pos rfl, if_pos rfl, if_pos rfl]
      simp only
      rw [num_eq _ hv, kind_eq]
      rw [if_pos (by simp [recP]), if_pos (by simp [recP]), check_f _ hv k (by omega), Option.bind_some]
      rfl
    · rw [parse_bad t p (by omega) hp k (by omega) h, res_bad _ _ h, Option.bind_some, Option.bind_some, if_neg (show ¬ (((getL 0 0 ((bl t).drop p)).2.2 : Int) = 0) by omega), if_pos rfl]
      rfl

theorem RecordReads : shunterlaw02_RecordReads.Pure := by
  intro s at_ hs _
  refine ⟨400, ?_⟩
  obtain ⟨t, ht, hn, hle⟩ := cut_f s 80
  have hb := allN_back (t.size + 1) (bl t) (bl_lt t)
  have hl : (allN (t.size + 1) (bl t)).1.length ≤ 80 := by
    have := len_rowB (allN (t.size + 1) (bl t)).1
    rw [hb.1, List.length_take, bl_length] at this
    omega
  obtain ⟨r, hr, hbr⟩ := bytes_f (allN (t.size + 1) (bl t)).1 hb.2.2 (by omega) 400 (by omega)
  have he : (allN (t.size + 1) (bl t)).2 ≤ t.size := by have := hb.2.1; rw [bl_length] at this; exact this
  unfold shunterlaw02_RecordReads.f
  rw [show (80 : Int) = ((80 : Nat) : Int) from rfl, ht, Option.bind_some, awake_any 400 (by omega), Option.bind_some, if_pos rfl,
    all_f t (by omega) 400 (by omega), Option.bind_some, refall_f t (by omega) 400 (by omega), Option.bind_some]
  simp only
  rw [are_f _ (by omega) 400 (by omega), Option.bind_some, if_pos rfl, if_pos trivial, hr, Option.bind_some, if_pos (by omega), if_pos (by omega)]
  have heq : (r.toList != (t.extract 0 (((allN (t.size + 1) (bl t)).2 : Nat) : Int).toNat).toList) = false := by
    rw [bne_eq_false_iff_eq, toList_eq]
    apply bl_inj
    rw [hbr, hb.1, bl_extract, Int.toNat_natCast]; simp
  rw [heq]
  exact tail_any t at_ hn 400 (by omega)

end Go.Proofs.Ythlllcmffgdcmaa.PureReads

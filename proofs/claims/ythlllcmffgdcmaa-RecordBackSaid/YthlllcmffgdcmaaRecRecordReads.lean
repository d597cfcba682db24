/- The printed functions of layer 2 (of the law RecordReads) answer as the plain reader and writer of numbers in a row. -/
import Derived.Test.YthlllcmffgdcmaaLebRecordReads
import Derived.Test.YthlllcmffgdcmaaRecPlain
namespace Go.Proofs.Ythlllcmffgdcmaa.RecRecordReads
open Go.RowKit Go.Proofs.Ythlllcmffgdcmaa.PRecordReads Go.Proofs.YthlllcmffgdcmaaW.PrintWords Go.Proofs.YthlllcmffgdcmaaW.PrintLast Go.Proofs.Ythlllcmffgdcmaa.LebPlain Go.Proofs.Ythlllcmffgdcmaa.LebWords Go.Proofs.Ythlllcmffgdcmaa.LebRecordReads Go.Proofs.Ythlllcmffgdcmaa.RecPlain

/-- A number, as the decision that it says. -/
def recP (n : Nat) : S31 := ⟨((n % 4 + 1 : Nat) : Int), ((n / 4 : Nat) : Int)⟩

theorem and3 (v : Nat) (h : v < 18446744073709551616) : Go.bits .and .u64 (v : Int) 3 = ((v % 4 : Nat) : Int) := by
  rw [u64_and (v : Int) 3 (by omega) (by omega) (by omega) (by omega), Int.toNat_natCast, show (3 : Int).toNat = 2 ^ 2 - 1 from rfl, Nat.and_two_pow_sub_one_eq_mod]

theorem join4 (n : Nat) (h : n < 18446744073709551616) :
    Go.bits .or .u64 (IntKind.u64.wrap (((n / 4 : Nat) : Int) * 4)) (IntKind.u64.wrap (wrap64 (((n % 4 + 1 : Nat) : Int) - 1))) = (n : Int) := by
  have e1 : IntKind.u64.wrap (((n / 4 : Nat) : Int) * 4) = ((n / 4 * 4 : Nat) : Int) := by rw [IntKind.wrap_u64]; omega
  have e2 : IntKind.u64.wrap (wrap64 (((n % 4 + 1 : Nat) : Int) - 1)) = ((n % 4 : Nat) : Int) := by rw [IntKind.wrap_u64]; unfold wrap64; omega
  rw [e1, e2, u64_or _ _ (by omega) (by omega) (by omega) (by omega), Int.toNat_natCast, Int.toNat_natCast,
    nat_join 2 (n / 4 * 4) (n % 4) (by omega) (by omega)]
  omega

theorem getA_at (s : ByteArray) (p : Nat) (h : p ≤ s.size) : getA s (p : Int) = res p (getL 0 0 ((bl s).drop p)) := by
  unfold getA; rw [if_neg (by omega), Int.toNat_natCast]

theorem res_ok (p : Nat) (r : Nat × Nat × Nat) (h : r.2.2 = 0) : res p r = ((r.1 : Int), ((p + r.2.1 : Nat) : Int), 0) := by unfold res; rw [if_pos h]
theorem res_bad (p : Nat) (r : Nat × Nat × Nat) (h : r.2.2 ≠ 0) : res p r = (0, 0, (r.2.2 : Int)) := by unfold res; rw [if_neg h]

/-- What is read at a place where it can be read. -/
theorem getL_facts (s : ByteArray) (p : Nat) (hp : p ≤ s.size) (h : (getL 0 0 ((bl s).drop p)).2.2 = 0) :
    (getL 0 0 ((bl s).drop p)).1 < 18446744073709551616 ∧ 0 < (getL 0 0 ((bl s).drop p)).2.1 ∧ p + (getL 0 0 ((bl s).drop p)).2.1 ≤ s.size := by
  have hg : getL 0 0 ((bl s).drop p) = ((getL 0 0 ((bl s).drop p)).1, (getL 0 0 ((bl s).drop p)).2.1, 0) := by
    conv => lhs; rw [← Prod.eta (getL 0 0 ((bl s).drop p)), ← Prod.eta (getL 0 0 ((bl s).drop p)).2, h]
  obtain ⟨a1, a2, a3, a4, a5⟩ := getL_back0 _ _ _ (fun x hx => bl_lt s x (List.mem_of_mem_drop hx)) hg
  rw [List.length_drop, bl_length] at a4
  exact ⟨a1, a3, by omega⟩

theorem parse_ok (s : ByteArray) (p : Nat) (hs : s.size ≤ 140737488351232) (hp : p ≤ s.size) (k : Nat) (hk : 12 ≤ k) (h : (getL 0 0 ((bl s).drop p)).2.2 = 0) :
    record_Parse.f k s (p : Int) = some ((recP (getL 0 0 ((bl s).drop p)).1).f0, (recP (getL 0 0 ((bl s).drop p)).1).f1, ((p + (getL 0 0 ((bl s).drop p)).2.1 : Nat) : Int), 0) := by
  have hv := (getL_facts s p hp h).1
  unfold record_Parse.f
  rw [get_f s _ hs k hk, getA_at s p hp, res_ok _ _ h, Option.bind_some, if_pos rfl]
  simp only [recP]
  rw [and3 _ hv]
  congr 2
  unfold wrap64; omega

theorem parse_bad (s : ByteArray) (p : Nat) (hs : s.size ≤ 140737488351232) (hp : p ≤ s.size) (k : Nat) (hk : 12 ≤ k) (h : (getL 0 0 ((bl s).drop p)).2.2 ≠ 0) :
    record_Parse.f k s (p : Int) = some (0, 0, 0, ((getL 0 0 ((bl s).drop p)).2.2 : Int)) := by
  unfold record_Parse.f
  rw [get_f s _ hs k hk, getA_at s p hp, res_bad _ _ h, Option.bind_some, if_neg (show ¬ (((getL 0 0 ((bl s).drop p)).2.2 : Int) = 0) by omega)]

theorem all_l0 (s : ByteArray) (hs : s.size ≤ 1000000) : ∀ (f k p : Nat) (acc : List S31), p ≤ s.size → s.size - p < f → f + 20 ≤ k → acc.length + f ≤ 2000000 →
    record_All.l0 k s acc (p : Int) = some (acc ++ (allN f ((bl s).drop p)).1.map recP, ((p + (allN f ((bl s).drop p)).2 : Nat) : Int)) := by
  intro f
  induction f with
  | zero => intro k p acc hp hf; omega
  | succ f ih =>
    intro k p acc hp hf hk ha
    obtain ⟨k, rfl⟩ : ∃ m, k = m + 1 := ⟨k - 1, by omega⟩
    rw [record_All.l0]
    by_cases hlt : p < s.size
    · rw [if_pos (show (p : Int) < (s.size : Int) by omega)]
      by_cases h : (getL 0 0 ((bl s).drop p)).2.2 = 0
      · obtain ⟨a1, a2, a3⟩ := getL_facts s p hp h
        rw [parse_ok s p (by omega) hp k (by omega) h, Option.bind_some, if_pos rfl, if_pos (by omega),
          ih k _ _ a3 (by omega) (by omega) (by simp only [List.length_append, List.length_singleton]; omega)]
        rw [allN, if_neg (by intro e; have := congrArg List.length e; rw [List.length_drop, bl_length, List.length_nil] at this; omega), if_pos h, List.drop_drop]
        simp only [List.map_cons, List.append_assoc, List.cons_append, List.nil_append]
        congr 2
        rw [Nat.add_assoc]
      · rw [parse_bad s p (by omega) hp k (by omega) h, Option.bind_some, if_neg (show ¬ (((getL 0 0 ((bl s).drop p)).2.2 : Int) = 0) by omega), allN_bad _ _ h]
        simp
    · rw [if_neg (by omega), List.drop_eq_nil_of_le (by rw [bl_length]; omega), allN_nil]
      simp

theorem all_f (s : ByteArray) (hs : s.size ≤ 1000000) (k : Nat) (hk : s.size + 21 ≤ k) :
    record_All.f k s = some ((allN (s.size + 1) (bl s)).1.map recP, ((allN (s.size + 1) (bl s)).2 : Int)) := by
  have := all_l0 s hs (s.size + 1) k 0 [] (by omega) (by omega) (by omega) (by simp only [List.length_nil]; omega)
  unfold record_All.f
  rw [show ((0 : Nat) : Int) = 0 from rfl] at this
  rw [this]; simp

theorem rec_bytes (n : Nat) (h : n < 18446744073709551616) (k : Nat) (hk : 12 ≤ k) : record_Record_Bytes.f k (recP n).f0 (recP n).f1 = some (putS n) := by
  unfold record_Record_Bytes.f
  simp only [recP]
  rw [join4 n h, put_f n h k hk, Option.bind_some]

theorem rd_recP (ns : List Nat) (i : Nat) (h : i < ns.length) : rd_T31 (ns.map recP) (i : Int) = recP ns[i] := by
  simp [rd_T31, List.getD, h]

theorem bytes_l0 (ns : List Nat) (hn : ∀ n ∈ ns, n < 18446744073709551616) (hl : ns.length ≤ 1000000) : ∀ (d i k : Nat) (s : ByteArray), i + d = ns.length → d + 20 ≤ k → bl s = rowB (ns.take i) →
    ∃ r, record_Bytes.l0 k s (ns.map recP) (ns.length : Int) (i : Int) = some r ∧ bl r = rowB ns := by
  intro d
  induction d with
  | zero =>
    intro i k s hi hk hs
    obtain ⟨k, rfl⟩ : ∃ m, k = m + 1 := ⟨k - 1, by omega⟩
    obtain rfl : i = ns.length := by omega
    rw [record_Bytes.l0, if_neg (show ¬ ((ns.length : Int) < (ns.length : Int)) by omega)]
    exact ⟨s, rfl, by rw [hs, List.take_length]⟩
  | succ d ih =>
    intro i k s hi hk hs
    obtain ⟨k, rfl⟩ : ∃ m, k = m + 1 := ⟨k - 1, by omega⟩
    have hlt : i < ns.length := by omega
    have hni := hn ns[i] (List.getElem_mem hlt)
    have hpre := rowB_len (ns.take i) (fun x hx => hn x (List.mem_of_mem_take hx))
    have htk : (ns.take i).length ≤ 1000000 := by rw [List.length_take]; omega
    have hl10 := putN_len ns[i] hni
    have hsz : s.size = (rowB (ns.take i)).length := by rw [← bl_length, hs]
    rw [record_Bytes.l0, if_pos (show ((i : Int) < (ns.length : Int)) by omega), if_pos (show (0 : Int) ≤ (i : Int) by omega), if_pos (show (i : Int) < ((ns.map recP).length : Int) by rw [List.length_map]; omega),
      rd_recP ns i hlt, rec_bytes _ hni k (by omega), Option.bind_some, if_pos (by rw [putS_size]; omega), show wrap64 ((i : Int) + 1) = ((i + 1 : Nat) : Int) from by unfold wrap64; omega]
    exact ih (i + 1) k _ (by omega) (by omega) (by rw [bl_append, bl_putS, hs, List.take_succ_eq_append_getElem hlt, rowB_append, rowB_one])

theorem bytes_f (ns : List Nat) (hn : ∀ n ∈ ns, n < 18446744073709551616) (hl : ns.length ≤ 1000000) (k : Nat) (hk : ns.length + 20 ≤ k) :
    ∃ r, record_Bytes.f k (ns.map recP) = some r ∧ bl r = rowB ns := by
  have := bytes_l0 ns hn hl ns.length 0 k (⟨#[]⟩ : ByteArray) (by omega) (by omega) rfl
  unfold record_Bytes.f
  rw [List.length_map]
  exact this

end Go.Proofs.Ythlllcmffgdcmaa.RecRecordReads

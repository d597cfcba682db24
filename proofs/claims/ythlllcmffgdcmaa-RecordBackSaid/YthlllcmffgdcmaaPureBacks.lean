/- Any 40 decisions, written one behind the other, are read back; their bytes are the document's; whether any one may be is told as the document says. The plain law, and the law's functions over it. -/
import Derived.Test.YthlllcmffgdcmaaBacks0
import Derived.Test.YthlllcmffgdcmaaPureSome
namespace Go.Proofs.Ythlllcmffgdcmaa.PureBacks
open Go.RowKit Go.Proofs.Ythlllcmffgdcmaa.PRecordReads Go.Proofs.Ythlllcmffgdcmaa.Reads Go.Proofs.Ythlllcmffgdcmaa.Some Go.Proofs.Ythlllcmffgdcmaa.RefPut Go.Proofs.Ythlllcmffgdcmaa.Backs Go.Proofs.YthlllcmffgdcmaaW.PrintWords Go.Proofs.YthlllcmffgdcmaaW.PrintLast Go.Proofs.Ythlllcmffgdcmaa.LebPlain Go.Proofs.Ythlllcmffgdcmaa.LebWords Go.Proofs.Ythlllcmffgdcmaa.RecPlain Go.Proofs.Ythlllcmffgdcmaa.LebRecordReads Go.Proofs.Ythlllcmffgdcmaa.RecRecordReads Go.Proofs.Ythlllcmffgdcmaa.PureReads Go.Proofs.Ythlllcmffgdcmaa.PureSome

theorem refPut_f (n : Nat) : ∀ k, n < 18446744073709551616 → (putN n).length < k → shunterref01_Put.f k (n : Int) = some (putS n) := by
  induction n using putN.induct with
  | case1 n h =>
    intro k _ hk
    obtain ⟨k, rfl⟩ : ∃ m, k = m + 1 := ⟨k - 1, by omega⟩
    rw [shunterref01_Put.f, if_pos (show (n : Int) < 128 by omega), show (n : Int) % 256 = (n : Int) from by omega]
    unfold putS; rw [putN_small h]; rfl
  | case2 n h ih =>
    intro k hn hk
    obtain ⟨k, rfl⟩ : ∃ m, k = m + 1 := ⟨k - 1, by omega⟩
    rw [putN_big h] at hk
    simp only [List.length_cons] at hk
    have e1 : IntKind.u64.wrap (Int.tdiv (n : Int) 128) = ((n / 128 : Nat) : Int) := by
      rw [Int.tdiv_eq_ediv_of_nonneg (by omega), IntKind.wrap_u64]; omega
    have e2 : (((Int.tmod (n : Int) 128) % 256) + 128) % 256 = ((n % 128 + 128 : Nat) : Int) := by
      rw [Int.tmod_eq_emod_of_nonneg (by omega)]; omega
    rw [shunterref01_Put.f, if_neg (show ¬ (n : Int) < 128 by omega), e1, e2, ih k (by omega) (by omega)]
    have hl := putN_len (n / 128) (by omega)
    have hs : (strOfNums [((n % 128 + 128 : Nat) : Int)]).size = 1 := by rw [strOfNums_size]; rfl
    simp only [Option.bind_some]
    rw [if_pos (by rw [hs, putS_size]; omega)]
    congr 1
    apply bl_inj
    have h1 := bl_nums [n % 128 + 128] (fun b hb => by simp only [List.mem_singleton] at hb; omega)
    simp only [List.map_cons, List.map_nil, Int.ofNat_eq_natCast] at h1
    rw [bl_append, bl_putS, bl_putS, putN_big h, h1]; rfl

theorem join_eq (n : Nat) (h : n < 18446744073709551616) :
    IntKind.u64.wrap ((IntKind.u64.wrap ((IntKind.u64.wrap (4 * (recQ n).f1)) + (IntKind.u64.wrap (recQ n).f0))) - 1) = (n : Int) := by
  simp only [IntKind.wrap_u64, recQ]
  omega

theorem refbytes_l0 (ns : List Nat) (hn : ∀ n ∈ ns, n < 18446744073709551616) (hl : ns.length ≤ 1000000) : ∀ (d i k : Nat) (s : ByteArray), i + d = ns.length → d + 20 ≤ k → bl s = rowB (ns.take i) →
    ∃ r, shunterref02_Bytes.l0 k s (ns.map recQ) (ns.length : Int) (i : Int) = some r ∧ bl r = rowB ns := by
  intro d
  induction d with
  | zero =>
    intro i k s hi hk hs
    obtain ⟨k, rfl⟩ : ∃ m, k = m + 1 := ⟨k - 1, by omega⟩
    obtain rfl : i = ns.length := by omega
    rw [shunterref02_Bytes.l0, if_neg (show ¬ ((ns.length : Int) < (ns.length : Int)) by omega)]
    exact ⟨s, rfl, by rw [hs, List.take_length]⟩
  | succ d ih =>
    intro i k s hi hk hs
    obtain ⟨k, rfl⟩ : ∃ m, k = m + 1 := ⟨k - 1, by omega⟩
    have hlt : i < ns.length := by omega
    have hni := hn ns[i] (List.getElem_mem hlt)
    have hpre := rowB_len (ns.take i) (fun x hx => hn x (List.mem_of_mem_take hx))
    have htk : (ns.take i).length ≤ 1000000 := by rw [List.length_take]; omega
    have hl10 := putN_len ns[i] hni
    have hsz : s.size = (rowB (ns.take i)).length := by rw [← bl_length, hs]
    rw [shunterref02_Bytes.l0, if_pos (show ((i : Int) < (ns.length : Int)) by omega), if_pos (show (0 : Int) ≤ (i : Int) by omega), if_pos (show (i : Int) < ((ns.map recQ).length : Int) by rw [List.length_map]; omega),
      rd_recQ ns i hlt, join_eq _ hni, refPut_f _ k hni (by omega), Option.bind_some, if_pos (by rw [putS_size]; omega), show wrap64 ((i : Int) + 1) = ((i + 1 : Nat) : Int) from by unfold wrap64; omega]
    exact ih (i + 1) k _ (by omega) (by omega) (by rw [bl_append, bl_putS, hs, List.take_succ_eq_append_getElem hlt, rowB_append, rowB_one])

theorem refbytes_f (ns : List Nat) (hn : ∀ n ∈ ns, n < 18446744073709551616) (hl : ns.length ≤ 1000000) (k : Nat) (hk : ns.length + 20 ≤ k) :
    ∃ r, shunterref02_Bytes.f k (ns.map recQ) = some r ∧ bl r = rowB ns := by
  have := refbytes_l0 ns hn hl ns.length 0 k (⟨#[]⟩ : ByteArray) (by omega) (by omega) rfl
  unfold shunterref02_Bytes.f
  rw [List.length_map]
  exact this

theorem check_same (a b : Int) (k : Nat) (hk : 1 ≤ k) : ∃ r, record_Record_Check.f k a b = some r ∧ shunterref02_Check.f k a b = some r := by
  obtain ⟨k, rfl⟩ : ∃ m, k = m + 1 := ⟨k - 1, by omega⟩
  unfold record_Record_Check.f shunterref02_Check.f
  rw [record_Record_Check.j0, shunterref02_Check.j0, record_Record_Check.j0, shunterref02_Check.j0]
  by_cases h1 : a < 1
  · exact ⟨9, by rw [if_pos h1, if_pos rfl], by rw [if_pos h1, if_pos rfl]⟩
  · rw [if_neg h1, if_neg h1]
    by_cases h2 : a > 4
    · exact ⟨9, by rw [if_pos (decide_eq_true h2)], by rw [if_pos (decide_eq_true h2)]⟩
    · have e : ¬ (decide (a > 4) = true) := by simpa using h2
      rw [if_neg e, if_neg e]
      by_cases h3 : b > 4611686018427387903
      · exact ⟨3, by rw [if_pos h3], by rw [if_pos (by omega)]⟩
      · exact ⟨0, by rw [if_neg h3], by rw [if_neg (by omega)]⟩

theorem backs_any (l : List S36) (a b : Int) : shunterlaw02_RecordBack.f 600 l a b = some true := by
  obtain ⟨ns, hs, hl, hn⟩ := some_f l 600 (by omega)
  obtain ⟨r, hr, hb⟩ := bytes_f ns hn (by omega) 600 (by omega)
  obtain ⟨r', hr', hb'⟩ := refbytes_f ns hn (by omega) 600 (by omega)
  have hrr : r = r' := bl_inj (hb.trans hb'.symm)
  subst hrr
  have hrl := rowB_len ns hn
  have hlr := len_rowB ns
  have hsz : r.size = (rowB ns).length := by rw [← bl_length, hb]
  have hall : allN (r.size + 1) (bl r) = (ns, (rowB ns).length) := by
    have := allN_bytes ns (r.size + 1) [] hn (by omega) (.inl rfl)
    rw [List.append_nil] at this
    rw [hb]; exact this
  obtain ⟨q, hq, hq'⟩ := check_same a b 600 (by omega)
  unfold shunterlaw02_RecordBack.f
  rw [awake_any 600 (by omega), Option.bind_some, if_pos rfl, hs, Option.bind_some, hr, Option.bind_some, all_f r (by omega) 600 (by omega), hall, Option.bind_some,
    told_f ns (by omega) 600 (by omega), Option.bind_some, hr', Option.bind_some, if_pos rfl, Option.bind_some, are_f ns (by omega) 600 (by omega), Option.bind_some, if_pos rfl,
    if_pos (show ((rowB ns).length : Int) = (r.size : Int) by omega), hq, Option.bind_some, hq', Option.bind_some]
  simp

end Go.Proofs.Ythlllcmffgdcmaa.PureBacks

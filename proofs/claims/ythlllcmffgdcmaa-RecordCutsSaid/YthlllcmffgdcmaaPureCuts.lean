/- Of any 40 decisions that are cut off behind any byte the first ones are read: those whose bytes are all there. The plain law, and the law's functions over it. -/
import Derived.Test.YthlllcmffgdcmaaCuts0
import Derived.Test.YthlllcmffgdcmaaPureSome
namespace Go.Proofs.Ythlllcmffgdcmaa.PureCuts
open Go.RowKit Go.Proofs.Ythlllcmffgdcmaa.PRecordReads Go.Proofs.Ythlllcmffgdcmaa.Reads Go.Proofs.Ythlllcmffgdcmaa.Some Go.Proofs.Ythlllcmffgdcmaa.Cuts Go.Proofs.YthlllcmffgdcmaaW.PrintWords Go.Proofs.YthlllcmffgdcmaaW.PrintLast Go.Proofs.Ythlllcmffgdcmaa.LebPlain Go.Proofs.Ythlllcmffgdcmaa.LebWords Go.Proofs.Ythlllcmffgdcmaa.RecPlain Go.Proofs.Ythlllcmffgdcmaa.LebRecordReads Go.Proofs.Ythlllcmffgdcmaa.RecRecordReads Go.Proofs.Ythlllcmffgdcmaa.PureReads Go.Proofs.Ythlllcmffgdcmaa.PureSome

/-- How many of some numbers have all their bytes among the first c. -/
def fit : List Nat → Nat → Nat
  | [], _ => 0
  | n :: ns, c => if (putN n).length ≤ c then fit ns (c - (putN n).length) + 1 else 0

theorem fit_le (ns : List Nat) : ∀ c, fit ns c ≤ ns.length := by
  induction ns with
  | nil => intro c; simp [fit]
  | cons n ns ih => intro c; rw [fit]; split <;> simp [ih]

theorem allN_cut (ns : List Nat) : ∀ (f c : Nat), (∀ n ∈ ns, n < 18446744073709551616) → fit ns c < f → allN f ((rowB ns).take c) = (ns.take (fit ns c), (rowB (ns.take (fit ns c))).length) := by
  induction ns with
  | nil => intro f c _ _; simp [rowB, fit, allN_nil]
  | cons n ns ih =>
    intro f c hn hf
    have hn0 := hn n (by simp)
    have hp := putN_pos n
    rw [fit] at hf ⊢
    by_cases h : (putN n).length ≤ c
    · rw [if_pos h] at hf ⊢
      obtain ⟨f, rfl⟩ : ∃ m, f = m + 1 := ⟨f - 1, by omega⟩
      have ht : (rowB (n :: ns)).take c = putN n ++ (rowB ns).take (c - (putN n).length) := by
        rw [rowB_cons, List.take_append, List.take_of_length_le h]
      have hg := getL_put0 n ((rowB ns).take (c - (putN n).length)) hn0
      rw [ht, allN, if_neg (by intro h; have := congrArg List.length h; rw [List.length_append, List.length_nil] at this; omega), hg]
      simp only
      rw [if_pos trivial, List.drop_left, ih f _ (fun x hx => hn x (by simp [hx])) (by omega), List.take_succ_cons, rowB_cons, List.length_append]
    · rw [if_neg h]
      have ht : (rowB (n :: ns)).take c = (putN n).take c := by
        rw [rowB_cons, List.take_append, show c - (putN n).length = 0 from by omega]; simp
      rw [ht, allN_bad f _ (by rw [getL_cut0 n hn0 c (by omega)]; decide)]
      simp [rowB]

theorem cuts_l0 (ns : List Nat) (hn : ∀ n ∈ ns, n < 18446744073709551616) (hl : ns.length ≤ 40) (c M : Nat) (hc : c ≤ 65535) (hM : fit ns c = M) : ∀ (d i k : Nat), i + d = ns.length → d + 100 ≤ k →
    (rowB (ns.take i)).length ≤ c → i + fit (ns.drop i) (c - (rowB (ns.take i)).length) = M →
    shunterlaw02_RecordCuts.l0 k (c : Int) (ns.map recP) ((ns.take M).map recP) ((rowB (ns.take M)).length : Int) (i : Int) ((rowB (ns.take i)).length : Int) = some true := by
  have hfin : ∀ k i, 60 ≤ k → i ≤ ns.length → i = M → ((shunterlaw02_Told.f k ((ns.map recP).take ((i : Nat) : Int).toNat)).bind fun t165 => ((shunterlaw02_Are.f k ((ns.take M).map recP) t165).bind fun t168 => (if t168 = 0 then (some (((rowB (ns.take M)).length : Int) == ((rowB (ns.take i)).length : Int))) else (some false)))) = some true := by
    intro k i hk hi he
    subst he
    have htl : (ns.take i).length ≤ 40 := by rw [List.length_take]; omega
    rw [Int.toNat_natCast, ← List.map_take, told_f _ (by omega) k (by omega), Option.bind_some, are_f _ (by omega) k (by omega), Option.bind_some, if_pos rfl]
    simp
  intro d
  induction d with
  | zero =>
    intro i k hi hk hle hf
    obtain ⟨k, rfl⟩ : ∃ m, k = m + 1 := ⟨k - 1, by omega⟩
    obtain rfl : i = ns.length := by omega
    rw [List.drop_length] at hf
    simp only [fit, Nat.add_zero] at hf
    rw [shunterlaw02_RecordCuts.l0, if_neg (by rw [List.length_map]; omega), if_pos (by omega), if_pos (by rw [List.length_map]; omega)]
    exact hfin k ns.length (by omega) (by omega) hf
  | succ d ih =>
    intro i k hi hk hle hf
    obtain ⟨k, rfl⟩ : ∃ m, k = m + 1 := ⟨k - 1, by omega⟩
    have hlt : i < ns.length := by omega
    have hni := hn ns[i] (List.getElem_mem hlt)
    have hl10 := putN_len ns[i] hni
    rw [List.drop_eq_getElem_cons hlt, fit] at hf
    have hnext : rowB (ns.take (i + 1)) = rowB (ns.take i) ++ putN ns[i] := by rw [List.take_succ_eq_append_getElem hlt, rowB_append, rowB_one]
    have q0 : (i : Int) < ((ns.map recP).length : Int) := by rw [List.length_map]; omega
    have q1 : (i : Int) ≤ ((ns.map recP).length : Int) := by rw [List.length_map]; omega
    have q2 : (0 : Int) ≤ (i : Int) := by omega
    have q3 : wrap64 ((i : Int) + 1) = ((i + 1 : Nat) : Int) := by unfold wrap64; omega
    have q4 : 12 ≤ k := by omega
    by_cases h : (putN ns[i]).length ≤ c - (rowB (ns.take i)).length
    · rw [if_pos h] at hf
      have := ih (i + 1) k (by omega) (by omega) (by rw [hnext, List.length_append]; omega) (by rw [hnext, List.length_append, ← Nat.sub_sub]; omega)
      rw [hnext, List.length_append] at this
      have q5 : (((rowB (ns.take i)).length + (putN ns[i]).length : Nat) : Int) ≤ (c : Int) := by omega
      have hsz : ((putS ns[i]).size : Int) = ((putN ns[i]).length : Int) := by rw [putS_size]
      have hw : wrap64 (((rowB (ns.take i)).length : Int) + ((putN ns[i]).length : Int)) = (((rowB (ns.take i)).length + (putN ns[i]).length : Nat) : Int) := by unfold wrap64; omega
      rw [shunterlaw02_RecordCuts.l0, if_pos q0, if_pos q2, rd_recP ns i hlt, rec_bytes _ hni k q4, Option.bind_some, hsz, hw, if_pos q5, Option.bind_some, hsz, hw, q3]
      exact this
    · rw [if_neg h] at hf
      have q5 : ¬ ((((rowB (ns.take i)).length + (putN ns[i]).length : Nat) : Int) ≤ (c : Int)) := by omega
      have q6 := hfin k i (by omega) (by omega) (by omega)
      have hsz : ((putS ns[i]).size : Int) = ((putN ns[i]).length : Int) := by rw [putS_size]
      have hw : wrap64 (((rowB (ns.take i)).length : Int) + ((putN ns[i]).length : Int)) = (((rowB (ns.take i)).length + (putN ns[i]).length : Nat) : Int) := by unfold wrap64; omega
      rw [shunterlaw02_RecordCuts.l0, if_pos q0, if_pos q2, rd_recP ns i hlt, rec_bytes _ hni k q4, Option.bind_some, hsz, hw, if_neg q5, if_pos q1]
      exact q6

theorem cuts_any (l : List S36) (a : Int) : shunterlaw02_RecordCuts.f 600 l a = some true := by
  obtain ⟨ns, hs, hl, hn⟩ := some_f l 600 (by omega)
  obtain ⟨r, hr, hb⟩ := bytes_f ns hn (by omega) 600 (by omega)
  have hrl := rowB_len ns hn
  have hsz : r.size = (rowB ns).length := by rw [← bl_length, hb]
  obtain ⟨a0, a1⟩ := and_65535 a
  unfold shunterlaw02_RecordCuts.f
  rw [awake_any 600 (by omega), Option.bind_some, if_pos rfl, hs, Option.bind_some, hr, Option.bind_some]
  generalize Go.bits .and .i64 a 65535 = x at a0 a1
  obtain ⟨x, rfl⟩ := Int.eq_ofNat_of_zero_le a0
  have hw : wrap64 ((r.size : Int) + 1) = ((r.size + 1 : Nat) : Int) := by unfold wrap64; omega
  have hc : Int.tmod (x : Int) ((r.size + 1 : Nat) : Int) = ((x % (r.size + 1) : Nat) : Int) := by
    rw [Int.tmod_eq_emod_of_nonneg (by omega), Int.natCast_emod]
  have hlt : x % (r.size + 1) < r.size + 1 := Nat.mod_lt _ (by omega)
  rw [hw, hc]
  generalize x % (r.size + 1) = c at hlt
  rw [if_neg (by omega), if_pos (by omega), if_pos (by omega), Int.toNat_natCast]
  have hxb : bl (r.extract 0 c) = (rowB ns).take c := by rw [bl_extract, hb]; simp
  have hxs : (r.extract 0 c).size = c := by rw [← bl_length, hxb, List.length_take]; omega
  have hfle := fit_le ns c
  have hfc : fit ns c < c + 1 := by
    have h1 := len_rowB (ns.take (fit ns c))
    have h2 := allN_cut ns (ns.length + 1) c hn (by omega)
    have h3 := (allN_back (ns.length + 1) ((rowB ns).take c) (fun b hb' => rowB_lt ns b (List.mem_of_mem_take hb'))).2.1
    rw [h2] at h3
    simp only [List.length_take] at h1 h3
    omega
  rw [all_f (r.extract 0 c) (by omega) 600 (by omega), hxs, hxb, allN_cut ns (c + 1) c hn hfc, Option.bind_some]
  exact cuts_l0 ns hn hl c (fit ns c) (by omega) rfl ns.length 0 600 (by omega) (by omega) (by simp [rowB]) (by simp [rowB])

end Go.Proofs.Ythlllcmffgdcmaa.PureCuts

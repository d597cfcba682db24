/- Texts of this claim, joined: LebRecordReads, RecRecordReads, BookSome. -/
import Derived.Test.YthlllcmffgdcmaaPRecordReadsx2
import Derived.Test.YthlllcmffgdcmaaM1
import Derived.Test.YthlllcmffgdcmaaSome0
namespace Go.Proofs.Ythlllcmffgdcmaa.LebRecordReads
open Go.RowKit Go.Proofs.Ythlllcmffgdcmaa.PRecordReads Go.Proofs.YthlllcmffgdcmaaW.PrintWords Go.Proofs.YthlllcmffgdcmaaW.PrintLast Go.Proofs.Ythlllcmffgdcmaa.LebPlain Go.Proofs.Ythlllcmffgdcmaa.LebWords

theorem get_l0 (s : ByteArray) (p : Nat) (hs : s.size ≤ 140737488351232) (hp : p ≤ s.size) : ∀ (d k i : Nat) (a : Int) (acc : Nat), i + d = 10 → d < k →
    (i ≤ 9 → a = (acc : Int) ∧ acc < 128 ^ i) → leb_Get.l0 k s (p : Int) a (i : Int) = some (res p (getL i acc ((bl s).drop (p + i)))) := by
  intro d
  induction d with
  | zero =>
    intro k i a acc hi hk _
    obtain ⟨k, rfl⟩ : ∃ m, k = m + 1 := ⟨k - 1, by omega⟩
    simp only [leb_Get.l0]
    rw [if_neg (by omega), getL_full (by omega)]; rfl
  | succ d ih =>
    intro k i a acc hi hk ha
    obtain ⟨k, rfl⟩ : ∃ m, k = m + 1 := ⟨k - 1, by omega⟩
    obtain ⟨rfl, hacc⟩ := ha (by omega)
    have w1 : wrap64 ((p : Int) + (i : Int)) = ((p + i : Nat) : Int) := by unfold wrap64; omega
    have w2 : wrap64 (7 * (i : Int)) = ((7 * i : Nat) : Int) := by unfold wrap64; omega
    have w3 : wrap64 ((i : Int) + 1) = ((i + 1 : Nat) : Int) := by unfold wrap64; omega
    have w4 : wrap64 (((p + i : Nat) : Int) + 1) = ((p + (i + 1) : Nat) : Int) := by unfold wrap64; omega
    simp only [leb_Get.l0, w1, w2, w3, w4]
    clear w1 w2 w3 w4
    have e0 : (i : Int) < 10 := by omega
    rw [if_pos e0]
    clear e0
    by_cases hend : p + i < s.size
    · have e1 : ¬ (((p + i : Nat) : Int) ≥ (s.size : Int)) := by omega
      have e2 : 0 ≤ ((p + i : Nat) : Int) := by omega
      have e3 : ((p + i : Nat) : Int) < (s.size : Int) := by omega
      have e4 : 0 ≤ ((7 * i : Nat) : Int) := by omega
      rw [if_neg e1, if_pos e2, if_pos e3, if_pos e4]
      obtain ⟨b, hb, hb256, hdrop⟩ := bl_drop s (p + i) hend
      rw [hb, hdrop]
      clear e1 e2 e3 e4
      by_cases h128 : 128 ≤ b
      · rw [if_pos (show (b : Int) ≥ 128 by omega), getL, if_neg (show ¬ 10 ≤ i by omega), if_pos h128]
        have := ih k (i + 1) (Go.bits .or .u64 (acc : Int) (shl .u64 (IntKind.u64.wrap (Go.bits .and .u8 (b : Int) 127)) ((7 * i : Nat) : Int))) (acc + b % 128 * 128 ^ i) (by omega) (by omega) ?_
        · rw [this]; rfl
        · intro h9
          refine ⟨or_shl i acc b (by omega) hacc hb256 (by omega), ?_⟩
          have h1 : b % 128 * 128 ^ i ≤ 127 * 128 ^ i := Nat.mul_le_mul_right _ (by omega)
          rw [Nat.pow_succ]; omega
      · rw [if_neg (show ¬ ((b : Int) ≥ 128) by omega), getL, if_neg (show ¬ 10 ≤ i by omega), if_neg h128]
        by_cases hbad : (b = 0 ∧ 0 < i) ∨ (i = 9 ∧ 1 < b)
        · rw [if_pos hbad]
          by_cases hb0 : b = 0
          · rw [if_pos (show (b : Int) = 0 by omega), if_pos (show (i : Int) > 0 by omega)]; rfl
          · rw [if_neg (show ¬ ((b : Int) = 0) by omega), if_pos (show (i : Int) = 9 by omega), if_pos (show (b : Int) > 1 by omega)]; rfl
        · have h9 : i = 9 → b % 128 ≤ 1 := by omega
          rw [if_neg hbad, or_shl i acc b (by omega) hacc hb256 h9, Nat.mod_eq_of_lt (show b < 128 by omega)]
          simp only [res, if_true]
          by_cases hb0 : b = 0
          · rw [if_pos (show (b : Int) = 0 by omega), if_neg (show ¬ ((i : Int) > 0) by omega), if_neg (show ¬ ((i : Int) = 9) by omega)]
          · rw [if_neg (show ¬ ((b : Int) = 0) by omega)]
            by_cases hi9 : i = 9
            · rw [if_pos (show (i : Int) = 9 by omega), if_neg (show ¬ ((b : Int) > 1) by omega)]
            · rw [if_neg (show ¬ ((i : Int) = 9) by omega)]
    · rw [if_pos (show ((p + i : Nat) : Int) ≥ (s.size : Int) by omega), List.drop_eq_nil_of_le (by rw [bl_length]; omega), getL, if_neg (show ¬ 10 ≤ i by omega)]; rfl

theorem get_f (s : ByteArray) (at_ : Int) (hs : s.size ≤ 140737488351232) (k : Nat) (hk : 12 ≤ k) : leb_Get.f k s at_ = some (getA s at_) := by
  obtain ⟨k, rfl⟩ : ∃ m, k = m + 1 := ⟨k - 1, by omega⟩
  unfold leb_Get.f getA
  by_cases h0 : at_ < 0
  · rw [if_pos h0, if_pos (Or.inl h0)]; simp only [leb_Get.j0, if_true]
  · rw [if_neg h0]
    by_cases h1 : (s.size : Int) < at_
    · rw [if_pos (Or.inr h1)]; simp only [leb_Get.j0]; rw [if_pos (by simpa using h1)]
    · rw [if_neg (by omega)]; simp only [leb_Get.j0]; rw [if_neg (by simpa using h1)]
      have := get_l0 s at_.toNat hs (by omega) 10 k 0 0 0 (by omega) (by omega) (fun _ => ⟨rfl, by omega⟩)
      rw [show ((at_.toNat : Nat) : Int) = at_ from by omega] at this
      rw [show ((0 : Nat) : Int) = 0 from rfl] at this
      rw [this]; rfl

theorem put_l0 (n : Nat) : ∀ (k : Nat) (xs : List Int), (putN n).length < k → xs.length + (putN n).length ≤ 100 →
    leb_Put.l0 k (n : Int) xs = some (strOfNums (xs ++ (putN n).map Int.ofNat)) := by
  induction n using putN.induct with
  | case1 n h =>
    intro k xs hk hx
    obtain ⟨k, rfl⟩ : ∃ m, k = m + 1 := ⟨k - 1, by omega⟩
    rw [putN_small h] at hx ⊢
    simp only [List.length_singleton] at hx
    simp only [leb_Put.l0]
    rw [if_neg (by omega), if_pos (by omega), show (n : Int) % 256 = (n : Int) from by omega]; rfl
  | case2 n h ih =>
    intro k xs hk hx
    obtain ⟨k, rfl⟩ : ∃ m, k = m + 1 := ⟨k - 1, by omega⟩
    rw [putN_big h] at hx hk ⊢
    simp only [List.length_cons] at hx hk
    simp only [leb_Put.l0]
    rw [if_pos (by omega), if_pos (by omega), show (n : Int) / 128 = ((n / 128 : Nat) : Int) from by omega,
      show (n : Int) % 256 = ((n % 256 : Nat) : Int) from by omega, or128 _ (by omega), ih k _ (by omega) (by simp only [List.length_append, List.length_singleton]; omega)]
    rw [show n % 256 % 128 = n % 128 from by omega]
    simp

theorem put_f (n : Nat) (h : n < 18446744073709551616) (k : Nat) (hk : 12 ≤ k) : leb_Put.f k (n : Int) = some (putS n) := by
  have := putN_len n h
  unfold leb_Put.f putS
  rw [put_l0 n k [] (by omega) (by simp; omega)]; rfl

theorem awake_any (k : Nat) (hk : 20 ≤ k) : shunterlaw02_awake.f k = some true :=
  at_rounds shunterlaw02_awake.mono hk (by decide +kernel)

end Go.Proofs.Ythlllcmffgdcmaa.LebRecordReads

namespace Go.Proofs.Ythlllcmffgdcmaa.RecRecordReads
open Go.RowKit Go.Proofs.Ythlllcmffgdcmaa.PRecordReads Go.Proofs.YthlllcmffgdcmaaW.PrintWords Go.Proofs.YthlllcmffgdcmaaW.PrintLast Go.Proofs.Ythlllcmffgdcmaa.LebPlain Go.Proofs.Ythlllcmffgdcmaa.LebWords Go.Proofs.Ythlllcmffgdcmaa.LebRecordReads Go.Proofs.Ythlllcmffgdcmaa.RecPlain

/-- A number, as the decision that it says. -/
def recP (n : Nat) : S31 := ⟨((n % 4 + 1 : Nat) : Int), ((n / 4 : Nat) : Int)⟩

theorem and3 (v : Nat) (h : v < 18446744073709551616) : Go.bits .and .u64 (v : Int) 3 = ((v % 4 : Nat) : Int) := by
  rw [u64_and (v : Int) 3 (by omega) (by omega) (by omega) (by omega), Int.toNat_natCast, show (3 : Int).toNat = 2 ^ 2 - 1 from rfl, Nat.and_two_pow_sub_one_eq_mod]

theorem join4 (n : Nat) (h : n < 18446744073709551616) :
    Go.bits .or .u64 (IntKind.u64.wrap (((n / 4 : Nat) : Int) * 4)) (IntKind.u64.wrap (wrap64 (((n % 4 + 1 : Nat) : Int) - 1))) = (n : Int) := by
  have e1 : IntKind.u64.wrap (((n / 4 : Nat) : Int) * 4) = ((n / 4 * 4 : Nat) : Int) := by rw [IntKind.wrap_u64]; omega
  have e2 : IntKind.u64.wrap (wrap64 (((n % 4 + 1 : Nat) : Int) - 1)) = ((n % 4 : Nat) : Int) := by rw [IntKind.wrap_u64]; unfold wrap64; omega
  rw [e1, e2, u64_or _ _ (by omega) (by omega) (by omega) (by omega), Int.toNat_natCast, Int.toNat_natCast,
    nat_join 2 (n / 4 * 4) (n % 4) (by omega) (by omega)]
  omega

theorem getA_at (s : ByteArray) (p : Nat) (h : p ≤ s.size) : getA s (p : Int) = res p (getL 0 0 ((bl s).drop p)) := by
  unfold getA; rw [if_neg (by omega), Int.toNat_natCast]

theorem res_ok (p : Nat) (r : Nat × Nat × Nat) (h : r.2.2 = 0) : res p r = ((r.1 : Int), ((p + r.2.1 : Nat) : Int), 0) := by unfold res; rw [if_pos h]
theorem res_bad (p : Nat) (r : Nat × Nat × Nat) (h : r.2.2 ≠ 0) : res p r = (0, 0, (r.2.2 : Int)) := by unfold res; rw [if_neg h]

/-- What is read at a place where it can be read. -/
theorem getL_facts (s : ByteArray) (p : Nat) (hp : p ≤ s.size) (h : (getL 0 0 ((bl s).drop p)).2.2 = 0) :
    (getL 0 0 ((bl s).drop p)).1 < 18446744073709551616 ∧ 0 < (getL 0 0 ((bl s).drop p)).2.1 ∧ p + (getL 0 0 ((bl s).drop p)).2.1 ≤ s.size := by
  have hg : getL 0 0 ((bl s).drop p) = ((getL 0 0 ((bl s).drop p)).1, (getL 0 0 ((bl s).drop p)).2.1, 0) := by
    conv => lhs; rw [← Prod.eta (getL 0 0 ((bl s).drop p)), ← Prod.eta (getL 0 0 ((bl s).drop p)).2, h]
  obtain ⟨a1, a2, a3, a4, a5⟩ := getL_back0 _ _ _ (fun x hx => bl_lt s x (List.mem_of_mem_drop hx)) hg
  rw [List.length_drop, bl_length] at a4
  exact ⟨a1, a3, by omega⟩

theorem parse_ok (s : ByteArray) (p : Nat) (hs : s.size ≤ 140737488351232) (hp : p ≤ s.size) (k : Nat) (hk : 12 ≤ k) (h : (getL 0 0 ((bl s).drop p)).2.2 = 0) :
    record_Parse.f k s (p : Int) = some ((recP (getL 0 0 ((bl s).drop p)).1).f0, (recP (getL 0 0 ((bl s).drop p)).1).f1, ((p + (getL 0 0 ((bl s).drop p)).2.1 : Nat) : Int), 0) := by
  have hv := (getL_facts s p hp h).1
  unfold record_Parse.f
  rw [get_f s _ hs k hk, getA_at s p hp, res_ok _ _ h, Option.bind_some, if_pos rfl]
  simp only [recP]
  rw [and3 _ hv]
  congr 2
  unfold wrap64; omega

theorem parse_bad (s : ByteArray) (p : Nat) (hs : s.size ≤ 140737488351232) (hp : p ≤ s.size) (k : Nat) (hk : 12 ≤ k) (h : (getL 0 0 ((bl s).drop p)).2.2 ≠ 0) :
    record_Parse.f k s (p : Int) = some (0, 0, 0, ((getL 0 0 ((bl s).drop p)).2.2 : Int)) := by
  unfold record_Parse.f
  rw [get_f s _ hs k hk, getA_at s p hp, res_bad _ _ h, Option.bind_some, if_neg (show ¬ (((getL 0 0 ((bl s).drop p)).2.2 : Int) = 0) by omega)]

theorem all_l0 (s : ByteArray) (hs : s.size ≤ 1000000) : ∀ (f k p : Nat) (acc : List S31), p ≤ s.size → s.size - p < f → f + 20 ≤ k → acc.length + f ≤ 2000000 →
    record_All.l0 k s acc (p : Int) = some (acc ++ (allN f ((bl s).drop p)).1.map recP, ((p + (allN f ((bl s).drop p)).2 : Nat) : Int)) := by
  intro f
  induction f with
  | zero => intro k p acc hp hf; omega
  | succ f ih =>
    intro k p acc hp hf hk ha
    obtain ⟨k, rfl⟩ : ∃ m, k = m + 1 := ⟨k - 1, by omega⟩
    rw [record_All.l0]
    by_cases hlt : p < s.size
    · rw [if_pos (show (p : Int) < (s.size : Int) by omega)]
      by_cases h : (getL 0 0 ((bl s).drop p)).2.2 = 0
      · obtain ⟨a1, a2, a3⟩ := getL_facts s p hp h
        rw [parse_ok s p (by omega) hp k (by omega) h, Option.bind_some, if_pos rfl, if_pos (by omega),
          ih k _ _ a3 (by omega) (by omega) (by simp only [List.length_append, List.length_singleton]; omega)]
        rw [allN, if_neg (by intro e; have := congrArg List.length e; rw [List.length_drop, bl_length, List.length_nil] at this; omega), if_pos h, List.drop_drop]
        simp only [List.map_cons, List.append_assoc, List.cons_append, List.nil_append]
        congr 2
        rw [Nat.add_assoc]
      · rw [parse_bad s p (by omega) hp k (by omega) h, Option.bind_some, if_neg (show ¬ (((getL 0 0 ((bl s).drop p)).2.2 : Int) = 0) by omega), allN_bad _ _ h]
        simp
    · rw [if_neg (by omega), List.drop_eq_nil_of_le (by rw [bl_length]; omega), allN_nil]
      simp

theorem all_f (s : ByteArray) (hs : s.size ≤ 1000000) (k : Nat) (hk : s.size + 21 ≤ k) :
    record_All.f k s = some ((allN (s.size + 1) (bl s)).1.map recP, ((allN (s.size + 1) (bl s)).2 : Int)) := by
  have := all_l0 s hs (s.size + 1) k 0 [] (by omega) (by omega) (by omega) (by simp only [List.length_nil]; omega)
  unfold record_All.f
  rw [show ((0 : Nat) : Int) = 0 from rfl] at this
  rw [this]; simp

theorem rec_bytes (n : Nat) (h : n < 18446744073709551616) (k : Nat) (hk : 12 ≤ k) : record_Record_Bytes.f k (recP n).f0 (recP n).f1 = some (putS n) := by
  unfold record_Record_Bytes.f
  simp only [recP]
  rw [join4 n h, put_f n h k hk, Option.bind_some]

theorem rd_recP (ns : List Nat) (i : Nat) (h : i < ns.length) : rd_T31 (ns.map recP) (i : Int) = recP ns[i] := by
  simp [rd_T31, List.getD, h]

theorem bytes_l0 (ns : List Nat) (hn : ∀ n ∈ ns, n < 18446744073709551616) (hl : ns.length ≤ 1000000) : ∀ (d i k : Nat) (s : ByteArray), i + d = ns.length → d + 20 ≤ k → bl s = rowB (ns.take i) →
    ∃ r, record_Bytes.l0 k s (ns.map recP) (ns.length : Int) (i : Int) = some r ∧ bl r = rowB ns := by
  intro d
  induction d with
  | zero =>
    intro i k s hi hk hs
    obtain ⟨k, rfl⟩ : ∃ m, k = m + 1 := ⟨k - 1, by omega⟩
    obtain rfl : i = ns.length := by omega
    rw [record_Bytes.l0, if_neg (show ¬ ((ns.length : Int) < (ns.length : Int)) by omega)]
    exact ⟨s, rfl, by rw [hs, List.take_length]⟩
  | succ d ih =>
    intro i k s hi hk hs
    obtain ⟨k, rfl⟩ : ∃ m, k = m + 1 := ⟨k - 1, by omega⟩
    have hlt : i < ns.length := by omega
    have hni := hn ns[i] (List.getElem_mem hlt)
    have hpre := rowB_len (ns.take i) (fun x hx => hn x (List.mem_of_mem_take hx))
    have htk : (ns.take i).length ≤ 1000000 := by rw [List.length_take]; omega
    have hl10 := putN_len ns[i] hni
    have hsz : s.size = (rowB (ns.take i)).length := by rw [← bl_length, hs]
    rw [record_Bytes.l0, if_pos (show ((i : Int) < (ns.length : Int)) by omega), if_pos (show (0 : Int) ≤ (i : Int) by omega), if_pos (show (i : Int) < ((ns.map recP).length : Int) by rw [List.length_map]; omega),
      rd_recP ns i hlt, rec_bytes _ hni k (by omega), Option.bind_some, if_pos (by rw [putS_size]; omega), show wrap64 ((i : Int) + 1) = ((i + 1 : Nat) : Int) from by unfold wrap64; omega]
    exact ih (i + 1) k _ (by omega) (by omega) (by rw [bl_append, bl_putS, hs, List.take_succ_eq_append_getElem hlt, rowB_append, rowB_one])

theorem bytes_f (ns : List Nat) (hn : ∀ n ∈ ns, n < 18446744073709551616) (hl : ns.length ≤ 1000000) (k : Nat) (hk : ns.length + 20 ≤ k) :
    ∃ r, record_Bytes.f k (ns.map recP) = some r ∧ bl r = rowB ns := by
  have := bytes_l0 ns hn hl ns.length 0 k (⟨#[]⟩ : ByteArray) (by omega) (by omega) rfl
  unfold record_Bytes.f
  rw [List.length_map]
  exact this

end Go.Proofs.Ythlllcmffgdcmaa.RecRecordReads

namespace Go.Proofs.Ythlllcmffgdcmaa.BookSome
open Go.RowKit Go.Proofs.Ythlllcmffgdcmaa.PRecordReads Go.Proofs.Ythlllcmffgdcmaa.Reads Go.Proofs.Ythlllcmffgdcmaa.Some Go.Proofs.YthlllcmffgdcmaaW.PrintWords Go.Proofs.YthlllcmffgdcmaaW.PrintLast Go.Proofs.Ythlllcmffgdcmaa.LebPlain Go.Proofs.Ythlllcmffgdcmaa.LebWords Go.Proofs.Ythlllcmffgdcmaa.RecPlain Go.Proofs.Ythlllcmffgdcmaa.RecRecordReads
set_option linter.unusedVariables false
set_option linter.unusedSimpArgs false

def recQ (n : Nat) : S36 := ⟨((n % 4 + 1 : Nat) : Int), ((n / 4 : Nat) : Int)⟩

theorem kind_eq (v : Nat) : wrap64 ((wrap64 (Int.tmod (v : Int) 4)) + 1) = ((v % 4 + 1 : Nat) : Int) := by
  rw [Int.tmod_eq_emod_of_nonneg (by omega)]
  have : (v : Int) % 4 = ((v % 4 : Nat) : Int) := by omega
  rw [this]
  have h : v % 4 < 4 := by omega
  generalize v % 4 = x at h
  unfold wrap64; omega

theorem num_eq (v : Nat) (h : v < 18446744073709551616) : IntKind.u64.wrap (Int.tdiv (v : Int) 4) = ((v / 4 : Nat) : Int) := by
  rw [Int.tdiv_eq_ediv_of_nonneg (by omega), IntKind.wrap_u64]; omega

theorem rd_recQ (ns : List Nat) (i : Nat) (h : i < ns.length) : rd_T36 (ns.map recQ) (i : Int) = recQ ns[i] := by
  simp [rd_T36, List.getD, h]

theorem are_l0 (ns : List Nat) (hl : ns.length ≤ 1000000) : ∀ (d i k : Nat), i + d = ns.length → d < k →
    shunterlaw02_Are.l0 k (ns.map recP) (ns.map recQ) (ns.length : Int) (i : Int) = some 0 := by
  intro d
  induction d with
  | zero =>
    intro i k hi hk
    obtain ⟨k, rfl⟩ : ∃ m, k = m + 1 := ⟨k - 1, by omega⟩
    rw [shunterlaw02_Are.l0, if_neg (by omega)]
  | succ d ih =>
    intro i k hi hk
    obtain ⟨k, rfl⟩ : ∃ m, k = m + 1 := ⟨k - 1, by omega⟩
    have hlt : i < ns.length := by omega
    rw [shunterlaw02_Are.l0, if_pos (show (i : Int) < (ns.length : Int) by omega), if_pos (show (0 : Int) ≤ (i : Int) by omega), if_pos (show (i : Int) < ((ns.map recP).length : Int) by rw [List.length_map]; omega),
      if_pos (show (i : Int) < ((ns.map recQ).length : Int) by rw [List.length_map]; omega), rd_recP ns i hlt, rd_recQ ns i hlt, if_neg (by simp [recP, recQ]),
      show wrap64 ((i : Int) + 1) = ((i + 1 : Nat) : Int) from by unfold wrap64; omega]
    exact ih (i + 1) k (by omega) (by omega)

theorem are_f (ns : List Nat) (hl : ns.length ≤ 1000000) (k : Nat) (hk : ns.length < k) : shunterlaw02_Are.f k (ns.map recP) (ns.map recQ) = some 0 := by
  have := are_l0 ns hl ns.length 0 k (by omega) (by omega)
  unfold shunterlaw02_Are.f
  rw [List.length_map, List.length_map, if_pos rfl]
  exact this

theorem and_255 (x : Int) : 0 ≤ Go.bits .and .i64 x 255 ∧ Go.bits .and .i64 x 255 ≤ 255 := by
  have h : (BitVec.ofInt 64 x &&& BitVec.ofInt 64 255).toNat ≤ 255 := by
    rw [BitVec.toNat_and]; exact Nat.and_le_right
  have e : Go.bits .and .i64 x 255 = IntKind.i64.wrap ((BitVec.ofInt 64 x &&& BitVec.ofInt 64 255).toNat : Int) := rfl
  rw [e, IntKind.wrap_i64]
  omega

theorem and_most (x : Int) : 0 ≤ Go.bits .and .u64 x 4611686018427387903 ∧ Go.bits .and .u64 x 4611686018427387903 ≤ 4611686018427387903 := by
  have h : (BitVec.ofInt 64 x &&& BitVec.ofInt 64 4611686018427387903).toNat ≤ 4611686018427387903 := by
    rw [BitVec.toNat_and]; exact Nat.and_le_right
  have e : Go.bits .and .u64 x 4611686018427387903 = IntKind.u64.wrap ((BitVec.ofInt 64 x &&& BitVec.ofInt 64 4611686018427387903).toNat : Int) := rfl
  rw [e, IntKind.wrap_u64]
  omega

theorem some_one (x y : Int) : ∃ n : Nat, n < 18446744073709551616 ∧ (⟨wrap64 (1 + (Int.tmod (Go.bits .and .i64 x 255) 4)), Go.bits .and .u64 y 4611686018427387903⟩ : S31) = recP n := by
  obtain ⟨a0, a1⟩ := and_255 x
  obtain ⟨b0, b1⟩ := and_most y
  generalize Go.bits .and .i64 x 255 = a at a0 a1
  generalize Go.bits .and .u64 y 4611686018427387903 = b at b0 b1
  obtain ⟨a, rfl⟩ := Int.eq_ofNat_of_zero_le a0
  obtain ⟨b, rfl⟩ := Int.eq_ofNat_of_zero_le b0
  refine ⟨4 * b + a % 4, by omega, ?_⟩
  rw [Int.tmod_eq_emod_of_nonneg (by omega)]
  unfold recP
  congr 1
  · have : (a : Int) % 4 = ((a % 4 : Nat) : Int) := by omega
    rw [this]
    have h : a % 4 < 4 := by omega
    rw [show (4 * b + a % 4) % 4 = a % 4 from by omega]
    generalize a % 4 = q at h
    unfold wrap64; omega
  · omega

theorem some_l0 (l : List S36) : ∀ (d k i : Nat) (ns : List Nat), i + d = min l.length 40 → d + 5 ≤ k → ns.length = i → (∀ n ∈ ns, n < 18446744073709551616) →
    ∃ ms : List Nat, shunterlaw02_Some.l0 k l (ns.map recP) (i : Int) = some (ms.map recP) ∧ ms.length = min l.length 40 ∧ ∀ n ∈ ms, n < 18446744073709551616 := by
  intro d
  induction d with
  | zero =>
    intro k i ns hi hk hl hn
    obtain ⟨k, rfl⟩ : ∃ m, k = m + 1 := ⟨k - 1, by omega⟩
    rw [shunterlaw02_Some.l0]
    by_cases h : (i : Int) < (l.length : Int)
    · rw [if_pos h, if_neg (by omega)]; exact ⟨ns, rfl, by omega, hn⟩
    · rw [if_neg h]; exact ⟨ns, rfl, by omega, hn⟩
  | succ d ih =>
    intro k i ns hi hk hl hn
    obtain ⟨k, rfl⟩ : ∃ m, k = m + 1 := ⟨k - 1, by omega⟩
    obtain ⟨n, hn64, he⟩ := some_one ((rd_T36 l (i : Int)).f0) ((rd_T36 l (i : Int)).f1)
    rw [shunterlaw02_Some.l0, if_pos (by omega), if_pos (by omega), if_pos (by omega), if_pos (by rw [List.length_map]; omega), he,
      show wrap64 ((i : Int) + 1) = ((i + 1 : Nat) : Int) from by unfold wrap64; omega, show ns.map recP ++ [recP n] = (ns ++ [n]).map recP from by simp]
    exact ih k (i + 1) (ns ++ [n]) (by omega) (by omega) (by simp [hl]) (fun m hm => by
      rcases List.mem_append.1 hm with h | h
      · exact hn m h
      · simp only [List.mem_singleton] at h; omega)

theorem some_f (l : List S36) (k : Nat) (hk : 50 ≤ k) : ∃ ms : List Nat, shunterlaw02_Some.f k l = some (ms.map recP) ∧ ms.length ≤ 40 ∧ ∀ n ∈ ms, n < 18446744073709551616 := by
  obtain ⟨ms, h1, h2, h3⟩ := some_l0 l (min l.length 40) k 0 [] (by omega) (by omega) rfl (by simp)
  exact ⟨ms, h1, by omega, h3⟩

theorem told_l0 (ns : List Nat) (hl : ns.length ≤ 1000000) : ∀ (d k i : Nat), i + d = ns.length → d < k →
    shunterlaw02_Told.l0 k ((ns.take i).map recQ) (ns.map recP) (ns.length : Int) (i : Int) = some (ns.map recQ) := by
  intro d
  induction d with
  | zero =>
    intro k i hi hk
    obtain ⟨k, rfl⟩ : ∃ m, k = m + 1 := ⟨k - 1, by omega⟩
    obtain rfl : i = ns.length := by omega
    rw [shunterlaw02_Told.l0, if_neg (by omega), List.take_length]
  | succ d ih =>
    intro k i hi hk
    obtain ⟨k, rfl⟩ : ∃ m, k = m + 1 := ⟨k - 1, by omega⟩
    have hlt : i < ns.length := by omega
    rw [shunterlaw02_Told.l0, if_pos (show (i : Int) < (ns.length : Int) by omega), if_pos (show (0 : Int) ≤ (i : Int) by omega), if_pos (show (i : Int) < ((ns.map recP).length : Int) by rw [List.length_map]; omega),
      if_pos (by rw [List.length_map, List.length_take]; omega), rd_recP ns i hlt, show wrap64 ((i : Int) + 1) = ((i + 1 : Nat) : Int) from by unfold wrap64; omega]
    have := ih k (i + 1) (by omega) (by omega)
    rw [List.take_succ_eq_append_getElem hlt, List.map_append] at this
    exact this

theorem told_f (ns : List Nat) (hl : ns.length ≤ 1000000) (k : Nat) (hk : ns.length < k) : shunterlaw02_Told.f k (ns.map recP) = some (ns.map recQ) := by
  have := told_l0 ns hl ns.length k 0 (by omega) hk
  unfold shunterlaw02_Told.f
  rw [List.length_map]
  exact this

end Go.Proofs.Ythlllcmffgdcmaa.BookSome

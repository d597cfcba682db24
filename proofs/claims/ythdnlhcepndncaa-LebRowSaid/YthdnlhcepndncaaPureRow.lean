/- Any 30 numbers in a row are read one by one as they were written; behind them is the end. For every list of numbers (of at most 2^47 - 4096 bytes, the form's reach). -/
import Derived.Test.YthdnlhcepndncaaRow0
import Derived.Test.YthdnlhcepndncaaLebLebRow
namespace Go.Proofs.Ythdnlhcepndncaa.PureRow
open Go.RowKit Go.Proofs.Ythdnlhcepndncaa.PLebRow Go.Proofs.Ythdnlhcepndncaa.Row Go.Proofs.YthdnlhcepndncaaW.PrintWords Go.Proofs.YthdnlhcepndncaaW.PrintLast Go.Proofs.Ythdnlhcepndncaa.LebPlain Go.Proofs.Ythdnlhcepndncaa.LebWords Go.Proofs.Ythdnlhcepndncaa.LebLebRow

theorem len_l0 (n : Nat) : ∀ (k x : Nat), (putN n).length < k → x + (putN n).length ≤ 100 → leb_Len.l0 k (n : Int) (x : Int) = some ((x + (putN n).length - 1 : Nat) : Int) := by
  induction n using putN.induct with
  | case1 n h =>
    intro k x hk hx
    obtain ⟨k, rfl⟩ : ∃ m, k = m + 1 := ⟨k - 1, by omega⟩
    rw [putN_small h] at hx ⊢
    rw [leb_Len.l0, if_neg (show ¬ ((n : Int) ≥ 128) by omega)]
    simp
  | case2 n h ih =>
    intro k x hk hx
    obtain ⟨k, rfl⟩ : ∃ m, k = m + 1 := ⟨k - 1, by omega⟩
    rw [putN_big h] at hx hk ⊢
    simp only [List.length_cons] at hx hk ⊢
    rw [leb_Len.l0, if_pos (show ((n : Int) ≥ 128) by omega), show (n : Int) / 128 = ((n / 128 : Nat) : Int) from by omega,
      show wrap64 ((x : Int) + 1) = ((x + 1 : Nat) : Int) from by unfold wrap64; omega, ih k (x + 1) (by omega) (by omega)]
    congr 2
    omega

theorem len_f (n : Nat) (h : n < 18446744073709551616) (k : Nat) (hk : 12 ≤ k) : leb_Len.f k (n : Int) = some ((putN n).length : Int) := by
  have h1 := putN_len n h
  have h2 := putN_pos n
  have := len_l0 n k 1 (by omega) (by omega)
  rw [show ((1 : Nat) : Int) = 1 from rfl] at this
  unfold leb_Len.f
  rw [this]
  congr 2
  omega

theorem w64 (x : Int) (h0 : 0 ≤ x) (h1 : x < 1000000) : wrap64 x = x := by unfold wrap64; omega

/-- The bytes of some numbers. -/
def bytes (ns : List Nat) : List Nat := ns.flatMap putN

theorem bytes_cons (n : Nat) (ns : List Nat) : bytes (n :: ns) = putN n ++ bytes ns := rfl
theorem bytes_append (a b : List Nat) : bytes (a ++ b) = bytes a ++ bytes b := by simp [bytes]

theorem bytes_len (ns : List Nat) (hn : ∀ n ∈ ns, n < 18446744073709551616) : (bytes ns).length ≤ 10 * ns.length := by
  induction ns with
  | nil => simp [bytes]
  | cons n ns ih =>
    have h1 := putN_len n (hn n (by simp))
    have h2 := ih fun x hx => hn x (by simp [hx])
    rw [bytes_cons, List.length_append, List.length_cons]; omega

theorem take_next (ns : List Nat) (i : Nat) (h : i < ns.length) : bytes (ns.take (i + 1)) = bytes (ns.take i) ++ putN ns[i] := by
  rw [List.take_succ_eq_append_getElem h, bytes_append]; simp [bytes]

theorem drop_at (ns : List Nat) (i : Nat) (h : i < ns.length) : (bytes ns).drop (bytes (ns.take i)).length = putN ns[i] ++ bytes (ns.drop (i + 1)) := by
  conv => lhs; arg 2; rw [← List.take_append_drop i ns, bytes_append]
  rw [List.drop_left, List.drop_eq_getElem_cons h, bytes_cons]

theorem rd_map (ns : List Nat) (i : Nat) (h : i < ns.length) : rd (ns.map Int.ofNat) (i : Int) = (ns[i] : Int) := by
  simp [rd, List.getD, h]

theorem l1_any (ns : List Nat) (hn : ∀ n ∈ ns, n < 18446744073709551616) (h30 : ns.length ≤ 30) (s : ByteArray) (hs : bl s = bytes ns) : ∀ (d i k : Nat), i + d = ns.length → d + 30 ≤ k →
    shunterlaw01_LebRow.l1 k s ((bytes (ns.take i)).length : Int) (ns.map Int.ofNat) (ns.length : Int) (i : Int) = some true := by
  have hlen := bytes_len ns hn
  have hsz : s.size = (bytes ns).length := by rw [← bl_length, hs]
  intro d
  induction d with
  | zero =>
    intro i k hi hk
    obtain ⟨k, rfl⟩ : ∃ m, k = m + 1 := ⟨k - 1, by omega⟩
    obtain rfl : i = ns.length := by omega
    rw [shunterlaw01_LebRow.l1, if_neg (show ¬ ((ns.length : Int) < (ns.length : Int)) by omega), get_f s _ (by omega) k (by omega), List.take_length]
    have : getA s ((bytes ns).length : Int) = (0, 0, 2) := by
      unfold getA
      rw [if_neg (by omega), Int.toNat_natCast, List.drop_eq_nil_of_le (by rw [hs]; omega), getL, if_neg (by omega)]
      simp only [res]
      rw [if_neg (by omega)]; simp
    rw [this]
    simp only [Option.bind_some]
    rw [if_pos (show ((bytes ns).length : Int) = (s.size : Int) by omega)]
    simp
  | succ d ih =>
    intro i k hi hk
    obtain ⟨k, rfl⟩ : ∃ m, k = m + 1 := ⟨k - 1, by omega⟩
    have hlt : i < ns.length := by omega
    have hni := hn ns[i] (List.getElem_mem hlt)
    have hpre := bytes_len (ns.take i) (fun x hx => hn x (List.mem_of_mem_take hx))
    have hpre2 : (bytes (ns.take i)).length ≤ (bytes ns).length := by
      conv => rhs; rw [← List.take_append_drop i ns, bytes_append, List.length_append]
      omega
    have htk : (ns.take i).length ≤ 30 := by rw [List.length_take]; omega
    have hl := putN_len ns[i] hni
    rw [shunterlaw01_LebRow.l1, if_pos (show ((i : Int) < (ns.length : Int)) by omega), if_pos (show (0 : Int) ≤ (i : Int) by omega), if_pos (show (i : Int) < ((ns.map Int.ofNat).length : Int) by rw [List.length_map]; omega),
      get_f s _ (by omega) k (by omega)]
    have hg : getA s ((bytes (ns.take i)).length : Int) = ((ns[i] : Int), (((bytes (ns.take i)).length + (putN ns[i]).length : Nat) : Int), 0) := by
      unfold getA
      rw [if_neg (by omega), Int.toNat_natCast, hs, drop_at ns i hlt, getL_put0 _ _ hni]; simp only [res, if_true]
    rw [hg, rd_map ns i hlt]
    simp only [Option.bind_some, if_true]
    rw [len_f _ hni k (by omega), Option.bind_some]
    have e : (((bytes (ns.take i)).length + (putN ns[i]).length : Nat) : Int) = wrap64 (((bytes (ns.take i)).length : Int) + ((putN ns[i]).length : Int)) := by
      rw [w64 _ (by omega) (by omega)]; omega
    rw [if_pos e]
    have h2 := ih (i + 1) k (by omega) (by omega)
    rw [take_next ns i hlt, List.length_append] at h2
    rw [show wrap64 ((i : Int) + 1) = ((i + 1 : Nat) : Int) from by unfold wrap64; omega]
    exact h2

theorem l0_any (ns : List Nat) (hn : ∀ n ∈ ns, n < 18446744073709551616) (h30 : ns.length ≤ 30) : ∀ (d i k : Nat) (s : ByteArray), i + d = ns.length → d + 100 ≤ k → bl s = bytes (ns.take i) →
    shunterlaw01_LebRow.l0 k (ns.map Int.ofNat) s (ns.map Int.ofNat) (ns.length : Int) (i : Int) = some true := by
  intro d
  induction d with
  | zero =>
    intro i k s hi hk hs
    obtain ⟨k, rfl⟩ : ∃ m, k = m + 1 := ⟨k - 1, by omega⟩
    obtain rfl : i = ns.length := by omega
    rw [shunterlaw01_LebRow.l0, if_neg (show ¬ ((ns.length : Int) < (ns.length : Int)) by omega)]
    rw [List.take_length] at hs
    have := l1_any ns hn h30 s hs ns.length 0 k (by omega) (by omega)
    rw [List.length_map]
    exact this
  | succ d ih =>
    intro i k s hi hk hs
    obtain ⟨k, rfl⟩ : ∃ m, k = m + 1 := ⟨k - 1, by omega⟩
    have hlt : i < ns.length := by omega
    have hni := hn ns[i] (List.getElem_mem hlt)
    have hpre := bytes_len (ns.take i) (fun x hx => hn x (List.mem_of_mem_take hx))
    have htk : (ns.take i).length ≤ 30 := by rw [List.length_take]; omega
    have hl := putN_len ns[i] hni
    have hsz : s.size = (bytes (ns.take i)).length := by rw [← bl_length, hs]
    rw [shunterlaw01_LebRow.l0, if_pos (show ((i : Int) < (ns.length : Int)) by omega), if_pos (show (0 : Int) ≤ (i : Int) by omega), if_pos (show (i : Int) < ((ns.map Int.ofNat).length : Int) by rw [List.length_map]; omega),
      rd_map ns i hlt, put_f _ hni k (by omega)]
    simp only [Option.bind_some]
    rw [if_pos (by rw [putS_size]; omega), show wrap64 ((i : Int) + 1) = ((i + 1 : Nat) : Int) from by unfold wrap64; omega]
    exact ih (i + 1) k _ (by omega) (by omega) (by rw [bl_append, bl_putS, hs, take_next ns i hlt])

theorem nats (l : List Int) (h : ∀ x ∈ l, (Lit.int .u64 x).wf = true) : ∃ ns : List Nat, l = ns.map Int.ofNat ∧ ∀ n ∈ ns, n < 18446744073709551616 := by
  induction l with
  | nil => exact ⟨[], rfl, by simp⟩
  | cons x l ih =>
    obtain ⟨ns, rfl, hn⟩ := ih fun y hy => h y (by simp [hy])
    have b : 0 ≤ x ∧ x ≤ 18446744073709551615 := by simpa [Lit.wf, IntKind.min, IntKind.max, IntKind.signed, IntKind.bits] using h x (by simp)
    obtain ⟨n, rfl⟩ := Int.eq_ofNat_of_zero_le b.1
    exact ⟨n :: ns, rfl, fun m hm => by
      rcases List.mem_cons.1 hm with rfl | hm
      · omega
      · exact hn m hm⟩

theorem LebRow : shunterlaw01_LebRow.Pure := by
  intro l _ hsz hwf
  obtain ⟨ns, rfl, hn⟩ := nats l hwf
  refine ⟨200, ?_⟩
  unfold shunterlaw01_LebRow.f
  rw [awake_any 200 (by omega)]
  simp only [Option.bind_some, if_true]
  rw [List.length_map] at hsz ⊢
  have hm : mn (ns.length : Int) 30 = ((min ns.length 30 : Nat) : Int) := by unfold mn; split <;> omega
  rw [hm, if_pos (by omega), if_pos (by omega), Int.toNat_natCast, ← List.map_take, List.length_map]
  exact l0_any (ns.take (min ns.length 30)) (fun n h => hn n (List.mem_of_mem_take h)) (by rw [List.length_take]; omega) (ns.take (min ns.length 30)).length 0 200 _ (by omega)
    (by rw [List.length_take]; omega) rfl

end Go.Proofs.Ythdnlhcepndncaa.PureRow

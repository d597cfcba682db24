/- Any number, written, is read back between any bytes of at most 20, and takes as few bytes as can be: what leb.Put writes is the document's, leb.Len tells how many bytes, leb.Get reads it. For every number and every two strings (of at most 2^47 - 4096 bytes, the form's reach). -/
import Derived.Test.YthdnlhcepndncaaBack0
import Derived.Test.YthdnlhcepndncaaLebLebReads
namespace Go.Proofs.Ythdnlhcepndncaa.PureBack
open Go.RowKit Go.Proofs.Ythdnlhcepndncaa.PLebReads Go.Proofs.Ythdnlhcepndncaa.Back Go.Proofs.YthdnlhcepndncaaW.PrintWords Go.Proofs.YthdnlhcepndncaaW.PrintLast Go.Proofs.Ythdnlhcepndncaa.LebPlain Go.Proofs.Ythdnlhcepndncaa.LebWords Go.Proofs.Ythdnlhcepndncaa.LebLebReads

theorem cut_f (s : ByteArray) (n : Nat) : ∃ t, shunterlaw01_Cut.f s (n : Int) = some t ∧ t.size ≤ n ∧ t.size ≤ s.size := by
  unfold shunterlaw01_Cut.f
  by_cases h : (s.size : Int) > (n : Int)
  · rw [if_pos h, if_pos (by omega), if_pos (by omega)]
    refine ⟨_, rfl, ?_, ?_⟩ <;> simp only [ByteArray.size_extract, Int.toNat_natCast] <;> omega
  · rw [if_neg h]; exact ⟨s, rfl, by omega, by omega⟩

theorem refPut_f (n : Nat) : ∀ k, n < 18446744073709551616 → (putN n).length < k → shunterref01_Put.f k (n : Int) = some (putS n) := by
  induction n using putN.induct with
  | case1 n h =>
    intro k _ hk
    obtain ⟨k, rfl⟩ : ∃ m, k = m + 1 := ⟨k - 1, by omega⟩
    rw [shunterref01_Put.f, if_pos (show (n : Int) < 128 by omega), show (n : Int) % 256 = (n : Int) from by omega]
    unfold putS; rw [putN_small h]; rfl
  | case2 n h ih =>
    intro k hn hk
    obtain ⟨k, rfl⟩ : ∃ m, k = m + 1 := ⟨k - 1, by omega⟩
    rw [putN_big h] at hk
    simp only [List.length_cons] at hk
    have e1 : IntKind.u64.wrap (Int.tdiv (n : Int) 128) = ((n / 128 : Nat) : Int) := by
      rw [Int.tdiv_eq_ediv_of_nonneg (by omega), IntKind.wrap_u64]; omega
    have e2 : (((Int.tmod (n : Int) 128) % 256) + 128) % 256 = ((n % 128 + 128 : Nat) : Int) := by
      rw [Int.tmod_eq_emod_of_nonneg (by omega)]; omega
    rw [shunterref01_Put.f, if_neg (show ¬ (n : Int) < 128 by omega), e1, e2, ih k (by omega) (by omega)]
    have hl := putN_len (n / 128) (by omega)
    have hs : (strOfNums [((n % 128 + 128 : Nat) : Int)]).size = 1 := by rw [strOfNums_size]; rfl
    simp only [Option.bind_some]
    rw [if_pos (by rw [hs, putS_size]; omega)]
    congr 1
    apply bl_inj
    have h1 := bl_nums [n % 128 + 128] (fun b hb => by simp only [List.mem_singleton] at hb; omega)
    simp only [List.map_cons, List.map_nil, Int.ofNat_eq_natCast] at h1
    rw [bl_append, bl_putS, bl_putS, putN_big h, h1]; rfl

theorem len_l0 (n : Nat) : ∀ (k x : Nat), (putN n).length < k → x + (putN n).length ≤ 100 → leb_Len.l0 k (n : Int) (x : Int) = some ((x + (putN n).length - 1 : Nat) : Int) := by
  induction n using putN.induct with
  | case1 n h =>
    intro k x hk hx
    obtain ⟨k, rfl⟩ : ∃ m, k = m + 1 := ⟨k - 1, by omega⟩
    rw [putN_small h] at hx ⊢
    rw [leb_Len.l0, if_neg (show ¬ ((n : Int) ≥ 128) by omega)]
    simp
  | case2 n h ih =>
    intro k x hk hx
    obtain ⟨k, rfl⟩ : ∃ m, k = m + 1 := ⟨k - 1, by omega⟩
    rw [putN_big h] at hx hk ⊢
    simp only [List.length_cons] at hx hk ⊢
    rw [leb_Len.l0, if_pos (show ((n : Int) ≥ 128) by omega), show (n : Int) / 128 = ((n / 128 : Nat) : Int) from by omega,
      show wrap64 ((x : Int) + 1) = ((x + 1 : Nat) : Int) from by unfold wrap64; omega, ih k (x + 1) (by omega) (by omega)]
    congr 2
    omega

theorem len_f (n : Nat) (h : n < 18446744073709551616) (k : Nat) (hk : 12 ≤ k) : leb_Len.f k (n : Int) = some ((putN n).length : Int) := by
  have h1 := putN_len n h
  have h2 := putN_pos n
  have := len_l0 n k 1 (by omega) (by omega)
  rw [show ((1 : Nat) : Int) = 1 from rfl] at this
  unfold leb_Len.f
  rw [this]
  congr 2
  omega

theorem LebBack : shunterlaw01_LebBack.Pure := by
  intro a0 a1 a2 w0 w1 w2
  refine ⟨60, ?_⟩
  have b0 : 0 ≤ a0 ∧ a0 ≤ 18446744073709551615 := by simpa [Lit.wf, IntKind.min, IntKind.max, IntKind.signed, IntKind.bits] using w0
  obtain ⟨n, rfl⟩ := Int.eq_ofNat_of_zero_le b0.1
  have hn : n < 18446744073709551616 := by omega
  obtain ⟨s, hs, hs20, hss⟩ := cut_f a1 20
  obtain ⟨t, ht, ht20, htt⟩ := cut_f a2 20
  have hl := putN_len n hn
  have hp := putS_size n
  unfold shunterlaw01_LebBack.f
  rw [show (20 : Int) = ((20 : Nat) : Int) from rfl, hs]
  simp only [Option.bind_some]
  rw [ht]
  simp only [Option.bind_some]
  rw [awake_any 60 (by omega)]
  simp only [Option.bind_some, if_true]
  rw [put_f n hn 60 (by omega)]
  simp only [Option.bind_some]
  have hsz : (s ++ putS n).size = s.size + (putN n).length := by rw [ByteArray.size_append, hp]
  have hsz2 : ((s ++ putS n) ++ t).size = s.size + (putN n).length + t.size := by rw [ByteArray.size_append, hsz]
  rw [if_pos (by omega), if_pos (by omega), get_f _ _ (by omega) 60 (by omega)]
  have hget : getA ((s ++ putS n) ++ t) (s.size : Int) = ((n : Int), ((s.size + (putN n).length : Nat) : Int), 0) := by
    unfold getA
    rw [if_neg (by omega), Int.toNat_natCast, bl_append, bl_append, bl_putS, List.append_assoc, List.drop_left' (bl_length s), getL_put0 n _ hn]
    rfl
  rw [hget]
  simp only [Option.bind_some]
  rw [refPut_f n 60 hn (by omega)]
  simp only [Option.bind_some, if_true]
  rw [len_f n hn 60 (by omega)]
  simp only [Option.bind_some]
  rw [if_pos (by omega)]
  congr 1
  rw [beq_iff_eq]
  omega

end Go.Proofs.Ythdnlhcepndncaa.PureBack

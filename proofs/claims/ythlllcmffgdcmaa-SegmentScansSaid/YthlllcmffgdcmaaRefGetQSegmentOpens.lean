/- The document's reader of layer 1, as printed for the law QSegmentOpens, answers as the plain one. -/
import Derived.Test.YthlllcmffgdcmaaQSegmentOpensx7
import Derived.Test.YthlllcmffgdcmaaLebWords
namespace Go.Proofs.Ythlllcmffgdcmaa.RefGetQSegmentOpens
open Go.RowKit Go.Proofs.Ythlllcmffgdcmaa.QSegmentOpens Go.Proofs.YthlllcmffgdcmaaW.PrintWords Go.Proofs.YthlllcmffgdcmaaW.PrintLast Go.Proofs.Ythlllcmffgdcmaa.LebPlain Go.Proofs.Ythlllcmffgdcmaa.LebWords

/-- The bytes from a place on are worth no more than those from an earlier one. -/
theorem val_le (s : ByteArray) (p : Nat) : ∀ j, (∀ t, t < j → ∃ b, bt s ((p + t : Nat) : Int) = (b : Nat) ∧ 128 ≤ b ∧ p + t < s.size) → valL ((bl s).drop (p + j)) ≤ valL ((bl s).drop p) := by
  intro j
  induction j with
  | zero => intro _; exact Nat.le_refl _
  | succ j ih =>
    intro h
    obtain ⟨b, hb, h128, hlt⟩ := h j (by omega)
    obtain ⟨b', hb', _, hd⟩ := bl_drop s (p + j) hlt
    have : b' = b := by omega
    subst this
    have h1 := ih fun t ht => h t (by omega)
    rw [hd, valL, if_pos h128] at h1
    rw [show p + (j + 1) = p + j + 1 from by omega]
    omega

theorem hor_l1 (s : ByteArray) (p K : Nat) (hs : s.size ≤ 140737488351232) (hp : p ≤ s.size) (hv : valL ((bl s).drop p) < 18446744073709551616) : ∀ (j k : Nat),
    (∀ t, t < j → ∃ b, bt s ((p + t : Nat) : Int) = (b : Nat) ∧ 128 ≤ b ∧ p + t < s.size) → j < k → 
    shunterref01_Get.l1 k s (p : Int) (K : Int) (valL ((bl s).drop (p + j)) : Int) ((p : Int) + j - 1) = some ((valL ((bl s).drop p) : Int), wrap64 ((K : Int) + 1), 0) := by
  intro j
  induction j with
  | zero =>
    intro k _ hk
    obtain ⟨k, rfl⟩ : ∃ m, k = m + 1 := ⟨k - 1, by omega⟩
    simp only [shunterref01_Get.l1]
    rw [if_neg (show ¬ ((p : Int) + ((0 : Nat) : Int) - 1 ≥ (p : Int)) by omega)]; rfl
  | succ j ih =>
    intro k h hk
    obtain ⟨k, rfl⟩ : ∃ m, k = m + 1 := ⟨k - 1, by omega⟩
    obtain ⟨b, hb, h128, hlt⟩ := h j (by omega)
    obtain ⟨b', hb', h256, hd⟩ := bl_drop s (p + j) hlt
    have : b' = b := by omega
    subst this
    have hle := val_le s p j fun t ht => h t (by omega)
    have hx : (p : Int) + ((j + 1 : Nat) : Int) - 1 = ((p + j : Nat) : Int) := by omega
    have hw : wrap64 (((p + j : Nat) : Int) - 1) = (p : Int) + (j : Int) - 1 := by unfold wrap64; omega
    rw [hd, valL, if_pos h128] at hle
    have hval : IntKind.u64.wrap ((IntKind.u64.wrap (128 * (valL ((bl s).drop (p + (j + 1))) : Int))) + (IntKind.u64.wrap (Int.tmod (b' : Int) 128))) = (valL ((bl s).drop (p + j)) : Int) := by
      rw [hd, valL, if_pos h128, Int.tmod_eq_emod_of_nonneg (by omega)]
      simp only [IntKind.wrap_u64]
      rw [show p + (j + 1) = p + j + 1 from by omega]
      omega
    rw [hx]
    simp only [shunterref01_Get.l1]
    rw [if_pos (show ((p + j : Nat) : Int) ≥ (p : Int) by omega), if_pos (show 0 ≤ ((p + j : Nat) : Int) by omega), if_pos (show ((p + j : Nat) : Int) < (s.size : Int) by omega),
      hb, hval, hw]
    exact ih k (fun t ht => h t (by omega)) (by omega)

theorem ref_l0 (s : ByteArray) (p : Nat) (hs : s.size ≤ 140737488351232) (hp : p ≤ s.size) : ∀ (d k j acc : Nat), j + d = 10 → d + 20 ≤ k → p + j ≤ s.size →
    (∀ t, t < j → ∃ b, bt s ((p + t : Nat) : Int) = (b : Nat) ∧ 128 ≤ b ∧ p + t < s.size) → getL 0 0 ((bl s).drop p) = getL j acc ((bl s).drop (p + j)) →
    shunterref01_Get.l0 k s (p : Int) ((p + j : Nat) : Int) = some (res p (getL 0 0 ((bl s).drop p))) := by
  intro d
  induction d with
  | zero =>
    intro k j acc hj hk hpj _ hg
    obtain ⟨k, rfl⟩ : ∃ m, k = m + 1 + 1 := ⟨k - 2, by omega⟩
    obtain rfl : j = 10 := by omega
    have w1 : wrap64 ((p : Int) + 10) = ((p + 10 : Nat) : Int) := by unfold wrap64; omega
    rw [hg, getL_full (by omega)]
    simp only [shunterref01_Get.l0, w1]
    rw [if_neg (show ¬ (((p + 10 : Nat) : Int) < ((p + 10 : Nat) : Int)) by omega), ite_self]
    simp only [shunterref01_Get.j2, w1]
    rw [if_pos trivial]; rfl
  | succ d ih =>
    intro k j acc hj hk hpj hall hg
    obtain ⟨k, rfl⟩ : ∃ m, k = m + 1 + 1 + 1 := ⟨k - 3, by omega⟩
    have w1 : wrap64 ((p : Int) + 10) = ((p + 10 : Nat) : Int) := by unfold wrap64; omega
    have w2 : wrap64 (((p + j : Nat) : Int) + 1) = ((p + (j + 1) : Nat) : Int) := by unfold wrap64; omega
    have w3 : wrap64 ((p : Int) + 9) = ((p + 9 : Nat) : Int) := by unfold wrap64; omega
    have n10 : ¬ (((p + j : Nat) : Int) = ((p + 10 : Nat) : Int)) := by omega
    by_cases hend : p + j < s.size
    · obtain ⟨b, hb, h256, hd⟩ := bl_drop s (p + j) hend
      have e1 : ((p + j : Nat) : Int) < (s.size : Int) := by omega
      have e2 : ((p + j : Nat) : Int) < ((p + 10 : Nat) : Int) := by omega
      have e3 : 0 ≤ ((p + j : Nat) : Int) := by omega
      have nsz : ¬ (((p + j : Nat) : Int) = (s.size : Int)) := by omega
      rw [hd, getL, if_neg (show ¬ 10 ≤ j by omega)] at hg
      rw [shunterref01_Get.l0, w1, w2, if_pos e1, if_pos e2, if_pos e3, hb]
      by_cases h128 : 128 ≤ b
      · rw [if_pos h128] at hg
        rw [if_pos (show (b : Int) > 127 by omega)]
        refine ih (k + 1 + 1) (j + 1) _ (by omega) (by omega) (by omega) (fun t ht => ?_) hg
        rcases Nat.lt_or_ge t j with h | h
        · exact hall t h
        · obtain rfl : t = j := by omega
          exact ⟨b, hb, h128, hend⟩
      · rw [if_neg h128] at hg
        rw [if_neg (show ¬ ((b : Int) > 127) by omega), shunterref01_Get.j2, w1, w3, if_neg n10, if_neg nsz, if_pos e3, if_pos e1, hb]
        by_cases hbad : (b = 0 ∧ 0 < j) ∨ (j = 9 ∧ 1 < b)
        · rw [if_pos hbad] at hg
          rw [hg]
          by_cases hb0 : b = 0
          · rw [if_pos (show (b : Int) = 0 by omega), if_pos (show ((p + j : Nat) : Int) > (p : Int) by omega), shunterref01_Get.j3, if_pos rfl]; rfl
          · rw [if_neg (show ¬ ((b : Int) = 0) by omega), if_pos (show ((p + j : Nat) : Int) = ((p + 9 : Nat) : Int) by omega), shunterref01_Get.j3,
              if_pos (show decide ((b : Int) > 1) = true from decide_eq_true (by omega))]; rfl
        · rw [if_neg hbad] at hg
          have hv := getL_val _ _ _ _ _ hg
          simp only [Nat.zero_add, Nat.pow_zero, Nat.mul_one] at hv
          have hb0 := getL_back0 _ _ _ (fun x hx => bl_lt s x (List.mem_of_mem_drop hx)) hg
          rw [hg, hv]
          rw [hv] at hb0
          have hgoal : ∀ q, shunterref01_Get.j3 (k + 1) s (p : Int) ((p + j : Nat) : Int) false = q →
              q = some (res p (valL ((bl s).drop p), j + 1, 0)) := by
            intro q hq
            rw [← hq, shunterref01_Get.j3, if_neg (show ¬ (false = true) by decide)]
            obtain ⟨k, rfl⟩ : ∃ m, k = m + 1 := ⟨k - 1, by omega⟩
            have w4 : wrap64 (((p + j : Nat) : Int) - 1) = (p : Int) + (j : Int) - 1 := by unfold wrap64; omega
            have hlast : IntKind.u64.wrap ((IntKind.u64.wrap (128 * 0)) + (IntKind.u64.wrap (Int.tmod (b : Int) 128))) = (valL ((bl s).drop (p + j)) : Int) := by
              rw [hd, valL, if_neg h128, Int.tmod_eq_emod_of_nonneg (by omega)]
              simp only [IntKind.wrap_u64]
              omega
            rw [shunterref01_Get.l1, if_pos (show ((p + j : Nat) : Int) ≥ (p : Int) by omega), if_pos e3, if_pos e1, hb, hlast, w4,
              hor_l1 s p (p + j) hs hp hb0.1 j k hall (by omega), w2]
            simp [res]
          by_cases hz : b = 0
          · rw [if_pos (show (b : Int) = 0 by omega), if_neg (show ¬ (((p + j : Nat) : Int) > (p : Int)) by omega), if_neg (show ¬ (((p + j : Nat) : Int) = ((p + 9 : Nat) : Int)) by omega)]
            exact hgoal _ rfl
          · rw [if_neg (show ¬ ((b : Int) = 0) by omega)]
            by_cases h9 : j = 9
            · rw [if_pos (show ((p + j : Nat) : Int) = ((p + 9 : Nat) : Int) by omega), show decide ((b : Int) > 1) = false from decide_eq_false (by omega)]
              exact hgoal _ rfl
            · rw [if_neg (show ¬ (((p + j : Nat) : Int) = ((p + 9 : Nat) : Int)) by omega)]
              exact hgoal _ rfl
    · have hsz : ((p + j : Nat) : Int) = (s.size : Int) := by omega
      rw [List.drop_eq_nil_of_le (i := p + j) (by rw [bl_length]; omega), getL, if_neg (show ¬ 10 ≤ j by omega)] at hg
      rw [hg, shunterref01_Get.l0, if_neg (show ¬ (((p + j : Nat) : Int) < (s.size : Int)) by omega), shunterref01_Get.j2, w1, if_neg n10, if_pos hsz]; rfl

theorem ref_f (s : ByteArray) (at_ : Int) (hs : s.size ≤ 140737488351232) (k : Nat) (hk : 40 ≤ k) : shunterref01_Get.f k s at_ = some (getA s at_) := by
  obtain ⟨k, rfl⟩ : ∃ m, k = m + 1 := ⟨k - 1, by omega⟩
  unfold shunterref01_Get.f getA
  by_cases h0 : at_ < 0
  · rw [if_pos h0, if_pos (Or.inl h0)]; simp only [shunterref01_Get.j0, if_true]
  · rw [if_neg h0]
    by_cases h1 : (s.size : Int) < at_
    · rw [if_pos (Or.inr h1)]; simp only [shunterref01_Get.j0]; rw [if_pos (by simpa using h1)]
    · rw [if_neg (by omega)]; simp only [shunterref01_Get.j0]; rw [if_neg (by simpa using h1)]
      have := ref_l0 s at_.toNat hs (by omega) 10 k 0 0 (by omega) (by omega) (by omega) (fun t ht => by omega) rfl
      rw [show ((at_.toNat : Nat) : Int) = at_ from by omega] at this
      rw [show ((at_.toNat + 0 : Nat) : Int) = at_ from by omega] at this
      exact this

end Go.Proofs.Ythlllcmffgdcmaa.RefGetQSegmentOpens

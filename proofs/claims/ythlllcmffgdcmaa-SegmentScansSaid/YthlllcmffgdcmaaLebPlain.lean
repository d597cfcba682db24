/- Plain facts on numbers as bytes of seven bits: what is written is read, what is read was written. No program in sight. -/
namespace Go.Proofs.Ythlllcmffgdcmaa.LebPlain

/-- A number's bytes. -/
def putN (n : Nat) : List Nat := if n < 128 then [n] else (n % 128 + 128) :: putN (n / 128)
termination_by n
decreasing_by omega

theorem putN_small {n : Nat} (h : n < 128) : putN n = [n] := by rw [putN, if_pos h]
theorem putN_big {n : Nat} (h : ¬ n < 128) : putN n = (n % 128 + 128) :: putN (n / 128) := by rw [putN, if_neg h]

theorem putN_pos (n : Nat) : 0 < (putN n).length := by
  by_cases h : n < 128
  · rw [putN_small h]; simp
  · rw [putN_big h]; simp

theorem putN_lt (n : Nat) : ∀ b ∈ putN n, b < 256 := by
  induction n using putN.induct with
  | case1 n h => intro b hb; rw [putN_small h] at hb; simp at hb; omega
  | case2 n h ih =>
    intro b hb
    rw [putN_big h] at hb
    rcases List.mem_cons.1 hb with rfl | hb
    · omega
    · exact ih b hb

/-- The value, the number of bytes, the error's number: at byte i, of what was read so far acc. -/
def getL (i acc : Nat) : List Nat → Nat × Nat × Nat
  | [] => if 10 ≤ i then (0, 0, 1) else (0, 0, 2)
  | b :: l => if 10 ≤ i then (0, 0, 1) else if 128 ≤ b then getL (i + 1) (acc + b % 128 * 128 ^ i) l
      else if (b = 0 ∧ 0 < i) ∨ (i = 9 ∧ 1 < b) then (0, 0, 1) else (acc + b * 128 ^ i, i + 1, 0)

theorem getL_full {i : Nat} (h : 10 ≤ i) (acc : Nat) (l : List Nat) : getL i acc l = (0, 0, 1) := by
  cases l <;> simp [getL, h]

theorem pow_le_of (i : Nat) (h : i ≤ 9) : 128 ^ i ≤ 128 ^ 9 := Nat.pow_le_pow_right (by omega) h

theorem getL_put (n : Nat) : ∀ (i acc : Nat) (rest : List Nat), i ≤ 9 → n * 128 ^ i < 18446744073709551616 → (0 < i → 0 < n) →
    getL i acc (putN n ++ rest) = (acc + n * 128 ^ i, i + (putN n).length, 0) := by
  induction n using putN.induct with
  | case1 n h =>
    intro i acc rest hi hn h0
    rw [putN_small h]
    simp only [List.cons_append, List.nil_append, getL, List.length_singleton]
    rw [if_neg (by omega), if_neg (by omega), if_neg ?_]
    rintro (⟨rfl, hp⟩ | ⟨rfl, h1⟩)
    · have := h0 hp; omega
    · have : (128 : Nat) ^ 9 = 9223372036854775808 := by decide
      rw [this] at hn; omega
  | case2 n h ih =>
    intro i acc rest hi hn h0
    rw [putN_big h]
    have hi9 : i < 9 := by
      rcases Nat.lt_or_ge i 9 with h9 | h9
      · exact h9
      · obtain rfl : i = 9 := by omega
        have : (128 : Nat) ^ 9 = 9223372036854775808 := by decide
        rw [this] at hn; omega
    simp only [List.cons_append, getL, List.length_cons]
    rw [if_neg (by omega), if_pos (by omega)]
    have hp : 128 ^ (i + 1) = 128 * 128 ^ i := by rw [Nat.pow_succ, Nat.mul_comm]
    have hsplit : n = n % 128 + 128 * (n / 128) := (Nat.mod_add_div n 128).symm
    have hle : n / 128 * 128 ^ (i + 1) + n % 128 * 128 ^ i = n * 128 ^ i := by
      conv => rhs; rw [hsplit]
      rw [hp, Nat.add_mul]
      rw [Nat.add_comm]
      congr 1
      rw [← Nat.mul_assoc, Nat.mul_comm (n / 128) 128]
    rw [ih (i + 1) _ rest (by omega) (by omega) (by omega)]
    have hm : (n % 128 + 128) % 128 = n % 128 := by omega
    rw [hm]
    simp only [Prod.mk.injEq, and_true]
    constructor
    · rw [Nat.add_assoc, Nat.add_comm (n % 128 * 128 ^ i), hle]
    · omega

theorem getL_back (l : List Nat) : ∀ (i acc v c : Nat), (∀ b ∈ l, b < 256) → getL i acc l = (v, c, 0) →
    ∃ m, v = acc + m * 128 ^ i ∧ (0 < i → 0 < m) ∧ m * 128 ^ i < 18446744073709551616 ∧ putN m = l.take (c - i) ∧ i < c ∧ c - i ≤ l.length ∧ c ≤ 10 := by
  induction l with
  | nil => intro i acc v c _ h; simp only [getL] at h; split at h <;> simp at h
  | cons b l ih =>
    intro i acc v c hb h
    have hb0 : b < 256 := hb b (by simp)
    simp only [getL] at h
    split at h
    · simp at h
    rename_i hi
    split at h
    · rename_i h128
      obtain ⟨m, h1, h2, h3, h4, h5, h6, h7⟩ := ih (i + 1) _ v c (fun x hx => hb x (by simp [hx])) h
      have hm := h2 (by omega)
      have hp : 128 ^ (i + 1) = 128 * 128 ^ i := by rw [Nat.pow_succ, Nat.mul_comm]
      have he : (b % 128 + 128 * m) * 128 ^ i = b % 128 * 128 ^ i + m * 128 ^ (i + 1) := by
        rw [hp, Nat.add_mul, ← Nat.mul_assoc, Nat.mul_comm 128 m]
      refine ⟨b % 128 + 128 * m, ?_, fun _ => by omega, ?_, ?_, by omega, ?_, h7⟩
      · rw [h1, he]; omega
      · have hi8 : i + 1 ≤ 9 := by omega
        have hpw : (128 : Nat) ^ (i + 1) ≤ 128 ^ 9 := pow_le_of _ hi8
        have hp9 : (128 : Nat) ^ 9 = 9223372036854775808 := by decide
        -- b % 128 * 128^i < 128^(i+1), and m*128^(i+1) is a multiple of 128^(i+1) below 2^64
        have hlt : b % 128 * 128 ^ i < 128 ^ (i + 1) := by
          rw [hp]; exact Nat.mul_lt_mul_of_pos_right (by omega) (Nat.pow_pos (by omega))
        rw [he]
        have hdvd : (128 : Nat) ^ (i + 1) ∣ 18446744073709551616 := by
          have : (18446744073709551616 : Nat) = 128 ^ (i + 1) * (128 ^ (8 - i) * 2) := by
            rw [← Nat.mul_assoc, ← Nat.pow_add, show i + 1 + (8 - i) = 9 from by omega]
          rw [this]; exact Nat.dvd_mul_right _ _
        obtain ⟨q, hq⟩ := hdvd
        rw [hq] at h3 ⊢
        have hmq : m < q := by
          rw [Nat.mul_comm] at h3
          exact Nat.lt_of_mul_lt_mul_left h3
        calc b % 128 * 128 ^ i + m * 128 ^ (i + 1) < 128 ^ (i + 1) + m * 128 ^ (i + 1) := by omega
          _ = (m + 1) * 128 ^ (i + 1) := by rw [Nat.add_mul]; omega
          _ ≤ q * 128 ^ (i + 1) := Nat.mul_le_mul_right _ hmq
          _ = 128 ^ (i + 1) * q := Nat.mul_comm _ _
      · rw [putN_big (by omega), show (b % 128 + 128 * m) / 128 = m from by omega, h4, show (b % 128 + 128 * m) % 128 + 128 = b from by omega,
          show c - i = (c - (i + 1)) + 1 from by omega, List.take_succ_cons]
      · simp only [List.length_cons]; omega
    · rename_i h128
      split at h
      · simp at h
      rename_i hno
      simp only [Prod.mk.injEq, and_true] at h
      obtain ⟨rfl, rfl⟩ := h
      refine ⟨b, rfl, fun hp => ?_, ?_, ?_, by omega, by simp, by omega⟩
      · rcases Nat.eq_zero_or_pos b with rfl | hb
        · exact absurd (.inl ⟨rfl, hp⟩) hno
        · exact hb
      · have hp9 : (128 : Nat) ^ 9 = 9223372036854775808 := by decide
        rcases Nat.lt_or_ge i 9 with h9 | h9
        · have : b * 128 ^ i < 128 * 128 ^ i := Nat.mul_lt_mul_of_pos_right (by omega) (Nat.pow_pos (by omega))
          have h2 : 128 * 128 ^ i = 128 ^ (i + 1) := by rw [Nat.pow_succ, Nat.mul_comm]
          have h3 := pow_le_of (i + 1) (by omega)
          omega
        · obtain rfl : i = 9 := by omega
          have : b ≤ 1 := by
            rcases Nat.lt_or_ge 1 b with h1 | h1
            · exact absurd (.inr ⟨rfl, h1⟩) hno
            · exact h1
          rw [hp9]; omega
      · rw [putN_small (by omega), show i + 1 - i = 1 from by omega]; rfl

theorem getL_back0 (l : List Nat) (v c : Nat) (hb : ∀ b ∈ l, b < 256) (h : getL 0 0 l = (v, c, 0)) :
    v < 18446744073709551616 ∧ putN v = l.take c ∧ 0 < c ∧ c ≤ l.length ∧ c ≤ 10 := by
  obtain ⟨m, h1, _, h3, h4, h5, h6, h7⟩ := getL_back l 0 0 v c hb h
  simp at h1 h3 h4 h6
  subst h1
  exact ⟨h3, h4, h5, h6, h7⟩

theorem getL_put0 (n : Nat) (rest : List Nat) (h : n < 18446744073709551616) : getL 0 0 (putN n ++ rest) = (n, (putN n).length, 0) := by
  have := getL_put n 0 0 rest (by omega) (by simpa using h) (by omega)
  simpa using this

/-- An error says nothing else. -/
theorem getL_err (l : List Nat) : ∀ (i acc : Nat), (getL i acc l).2.2 ≠ 0 → (getL i acc l).1 = 0 ∧ (getL i acc l).2.1 = 0 := by
  induction l with
  | nil => intro i acc h; simp only [getL]; split <;> simp
  | cons b l ih =>
    intro i acc h
    simp only [getL] at h ⊢
    split
    · simp
    split
    · rename_i h1 h2; rw [if_neg h1, if_pos h2] at h; exact ih _ _ h
    split
    · simp
    · rename_i h1 h2 h3; rw [if_neg h1, if_neg h2, if_neg h3] at h; simp at h

/-- The bytes of a number, and how many: at most ten. -/
theorem putN_len (n : Nat) (h : n < 18446744073709551616) : (putN n).length ≤ 10 := by
  have h1 := getL_put0 n [] h
  have h2 := getL_back0 _ _ _ (by simpa using putN_lt n) h1
  exact h2.2.2.2.2

end Go.Proofs.Ythlllcmffgdcmaa.LebPlain

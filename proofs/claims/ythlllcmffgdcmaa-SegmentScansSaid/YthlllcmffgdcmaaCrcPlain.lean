/- Plain facts on the sum: eight steps of a bit at a time are what the table says; the sum of texts one behind the other. No program in sight. -/
namespace Go.Proofs.Ythlllcmffgdcmaa.CrcPlain

/-- The polynomial, its lowest power first. -/
def poly : Nat := 3988292384
/-- A bit's step. -/
def stepN (z : Nat) : Nat := if z % 2 = 1 then (z / 2) ^^^ poly else z / 2
/-- So many steps. -/
def stepsN : Nat → Nat → Nat
  | 0, z => z
  | n + 1, z => stepN (stepsN n z)

theorem xor_odd (u v : Nat) : (u ^^^ v) % 2 = (u % 2 + v % 2) % 2 := by
  rcases Nat.mod_two_eq_zero_or_one u with hu | hu <;> rcases Nat.mod_two_eq_zero_or_one v with hv | hv
  all_goals
    have h := @Nat.xor_mod_two_eq_one u v
    rcases Nat.mod_two_eq_zero_or_one (u ^^^ v) with hx | hx <;> simp_all

theorem xor_half (u v : Nat) : (u ^^^ v) / 2 = u / 2 ^^^ v / 2 := Nat.xor_div_two

theorem stepN_xor (u v : Nat) : stepN (u ^^^ v) = stepN u ^^^ stepN v := by
  unfold stepN
  rw [xor_odd, xor_half]
  rcases Nat.mod_two_eq_zero_or_one u with hu | hu <;> rcases Nat.mod_two_eq_zero_or_one v with hv | hv
  · simp [hu, hv]
  · simp [hu, hv, Nat.xor_assoc]
  · simp only [hu, hv, if_true, Nat.zero_ne_one, if_false, Nat.add_zero, Nat.one_mod]
    rw [Nat.xor_assoc, Nat.xor_assoc, Nat.xor_comm poly]
  · simp only [hu, hv, if_true]
    rw [if_neg (by decide), Nat.xor_assoc (u / 2) poly, ← Nat.xor_assoc poly (v / 2) poly, Nat.xor_comm poly (v / 2), Nat.xor_assoc (v / 2) poly poly, Nat.xor_self, Nat.xor_zero]

theorem stepsN_xor (n u v : Nat) : stepsN n (u ^^^ v) = stepsN n u ^^^ stepsN n v := by
  induction n with
  | zero => rfl
  | succ n ih => rw [stepsN, ih, stepN_xor]; rfl

theorem stepN_zero : stepN 0 = 0 := by decide
theorem stepsN_zero (n : Nat) : stepsN n 0 = 0 := by
  induction n with
  | zero => rfl
  | succ n ih => rw [stepsN, ih, stepN_zero]

theorem stepsN_shift (n : Nat) : ∀ h, stepsN n (h * 2 ^ n) = h := by
  induction n with
  | zero => intro h; simp [stepsN]
  | succ n ih =>
    intro h
    have e : h * 2 ^ (n + 1) = (h * 2) * 2 ^ n := by rw [Nat.pow_succ, Nat.mul_assoc, Nat.mul_comm (2 ^ n) 2]
    rw [stepsN, e, ih (h * 2)]
    unfold stepN
    rw [if_neg (by omega)]; omega

theorem split_xor (n z : Nat) : z = (z / 2 ^ n * 2 ^ n) ^^^ (z % 2 ^ n) := by
  apply Nat.eq_of_testBit_eq
  intro i
  rw [Nat.testBit_xor, Nat.testBit_mul_two_pow, Nat.testBit_div_two_pow, Nat.testBit_mod_two_pow]
  by_cases h : n ≤ i
  · rw [show i - n + n = i from by omega]
    simp [h, Nat.not_lt.2 h]
  · simp [h, Nat.lt_of_not_le h]

/-- Eight steps: what is above the low byte goes down, the low byte adds what the table says. -/
theorem steps8 (z : Nat) : stepsN 8 z = (z / 256) ^^^ stepsN 8 (z % 256) := by
  conv => lhs; rw [split_xor 8 z]
  rw [stepsN_xor, stepsN_shift]

theorem stepN_lt (z : Nat) (h : z < 4294967296) : stepN z < 4294967296 := by
  unfold stepN
  split
  · have : poly < 2 ^ 32 := by decide
    exact Nat.xor_lt_two_pow (n := 32) (by omega) this
  · omega
theorem stepsN_lt (n z : Nat) (h : z < 4294967296) : stepsN n z < 4294967296 := by
  induction n with
  | zero => exact h
  | succ n ih => exact stepN_lt _ ih

theorem xor_low (y b : Nat) (hb : b < 256) : (y ^^^ b) / 256 = y / 256 ∧ (y ^^^ b) % 256 = (y % 256) ^^^ b := by
  have h1 : (y ^^^ b) / 2 ^ 8 = y / 2 ^ 8 ^^^ b / 2 ^ 8 := by
    apply Nat.eq_of_testBit_eq
    intro i
    rw [Nat.testBit_div_two_pow, Nat.testBit_xor, Nat.testBit_xor, Nat.testBit_div_two_pow, Nat.testBit_div_two_pow]
  have h2 : (y ^^^ b) % 2 ^ 8 = y % 2 ^ 8 ^^^ b % 2 ^ 8 := by
    apply Nat.eq_of_testBit_eq
    intro i
    rw [Nat.testBit_mod_two_pow, Nat.testBit_xor, Nat.testBit_xor, Nat.testBit_mod_two_pow, Nat.testBit_mod_two_pow]
    by_cases h : i < 8 <;> simp [h]
  have e : (2 : Nat) ^ 8 = 256 := by decide
  rw [e] at h1 h2
  rw [h1, h2, Nat.div_eq_of_lt hb, Nat.mod_eq_of_lt hb, Nat.xor_zero]
  exact ⟨rfl, rfl⟩

/-- A byte more, with the table. -/
theorem byte_table (y b : Nat) (hb : b < 256) : (y / 256) ^^^ stepsN 8 ((y % 256) ^^^ b) = stepsN 8 (y ^^^ b) := by
  obtain ⟨h1, h2⟩ := xor_low y b hb
  rw [steps8 (y ^^^ b), h1, h2]

/-- A byte more, bit by bit: x is what is there, b what is left of the byte. -/
def bitsN : Nat → Nat → Nat → Nat
  | 0, x, _ => x
  | n + 1, x, b => bitsN n (if (x + b) % 2 = 1 then (x / 2) ^^^ poly else x / 2) (b / 2)

theorem bitsN_eq (n : Nat) : ∀ x b, bitsN n x b ^^^ (b / 2 ^ n) = stepsN n (x ^^^ b) := by
  induction n with
  | zero => intro x b; simp [bitsN, stepsN]
  | succ n ih =>
    intro x b
    rw [bitsN]
    have hs : ∀ z, stepsN (n + 1) z = stepsN n (stepN z) := by
      intro z
      clear ih
      induction n with
      | zero => rfl
      | succ n ih => rw [stepsN, ih]; rfl
    have e : b / 2 ^ (n + 1) = b / 2 / 2 ^ n := by rw [Nat.pow_succ, Nat.mul_comm, Nat.div_div_eq_div_mul]
    rw [e, ih, hs]
    congr 1
    unfold stepN
    rw [xor_odd, xor_half, Nat.add_mod x b 2]
    split
    · rw [Nat.xor_assoc, Nat.xor_assoc, Nat.xor_comm poly]
    · rfl

theorem bits8 (x b : Nat) (hb : b < 256) : bitsN 8 x b = stepsN 8 (x ^^^ b) := by
  have := bitsN_eq 8 x b
  rw [show b / 2 ^ 8 = 0 from Nat.div_eq_of_lt hb, Nat.xor_zero] at this
  exact this

/-- A byte's eight steps, under one name that stays shut. -/
@[irreducible] def s8 (z : Nat) : Nat := stepsN 8 z
theorem s8_eq (z : Nat) : s8 z = stepsN 8 z := by unfold s8; rfl
theorem s8_lt (z : Nat) (h : z < 4294967296) : s8 z < 4294967296 := by rw [s8_eq]; exact stepsN_lt 8 z h

/-- The sum in the making, behind some bytes. -/
def crcN (x : Nat) : List Nat → Nat
  | [] => x
  | b :: l => crcN (s8 (x ^^^ b)) l

theorem crcN_nil (x : Nat) : crcN x [] = x := rfl
theorem crcN_cons (x b : Nat) (l : List Nat) : crcN x (b :: l) = crcN (s8 (x ^^^ b)) l := rfl
theorem crcN_append (l m : List Nat) : ∀ x, crcN x (l ++ m) = crcN (crcN x l) m := by
  induction l with
  | nil => intro x; rw [List.nil_append, crcN_nil]
  | cons b l ih =>
    intro x
    rw [List.cons_append, crcN_cons, crcN_cons]
    exact ih _

theorem xor_lt32 (x b : Nat) (hx : x < 4294967296) (hb : b < 4294967296) : x ^^^ b < 4294967296 := Nat.xor_lt_two_pow (n := 32) hx hb

theorem crcN_lt (l : List Nat) : ∀ x, x < 4294967296 → (∀ b ∈ l, b < 256) → crcN x l < 4294967296 := by
  induction l with
  | nil => intro x h _; exact h
  | cons b l ih =>
    intro x h hl
    have hb : b < 256 := hl b (by simp)
    rw [crcN_cons]
    exact ih _ (s8_lt _ (xor_lt32 x b h (by omega))) (fun c hc => hl c (by simp [hc]))

/-- The sum of a text. -/
def sumN (l : List Nat) : Nat := 4294967295 - crcN 4294967295 l

theorem sumN_nil : sumN [] = 0 := by unfold sumN; rw [crcN_nil]
theorem sumN_lt (l : List Nat) : sumN l < 4294967296 := by unfold sumN; omega

/-- A text more behind a sum. -/
def addN (x : Nat) (l : List Nat) : Nat := 4294967295 - crcN (4294967295 - x) l

theorem addN_lt (x : Nat) (l : List Nat) : addN x l < 4294967296 := by unfold addN; omega
theorem addN_zero (l : List Nat) : addN 0 l = sumN l := rfl
theorem addN_sum (l m : List Nat) (hl : ∀ b ∈ l, b < 256) : addN (sumN l) m = sumN (l ++ m) := by
  unfold addN sumN
  have := crcN_lt l 4294967295 (by omega) hl
  rw [crcN_append, show 4294967295 - (4294967295 - crcN 4294967295 l) = crcN 4294967295 l from by omega]

end Go.Proofs.Ythlllcmffgdcmaa.CrcPlain

/- Plain facts on the sum of bytes that are spoilt: up to 32 bits beside each other that are others give another sum. No program in sight. -/
import Derived.Test.YthlllcmffgdcmaaCrcPlain
namespace Go.Proofs.Ythlllcmffgdcmaa.CrcPlain

theorem stepsN_add (m n z : Nat) : stepsN (m + n) z = stepsN m (stepsN n z) := by
  induction m with
  | zero => rw [Nat.zero_add]; rfl
  | succ m ih => rw [Nat.succ_add, stepsN, ih]; rfl

/-- Bytes as one number, the lowest first. -/
def word : List Nat → Nat
  | [] => 0
  | b :: l => b + 256 * word l

theorem word_cons_xor (b W : Nat) (hb : b < 256) : b + 256 * W = (W * 2 ^ 8) ^^^ b := by
  have h := split_xor 8 (b + 256 * W)
  have e : (2 : Nat) ^ 8 = 256 := by decide
  rw [e] at h ⊢
  rw [show (b + 256 * W) / 256 = W by omega, show (b + 256 * W) % 256 = b by omega] at h
  exact h

theorem crcN_word (l : List Nat) : ∀ x, (∀ b ∈ l, b < 256) → crcN x l = stepsN (8 * l.length) (x ^^^ word l) := by
  induction l with
  | nil => intro x _; rw [crcN_nil]; simp [word, stepsN]
  | cons b l ih =>
    intro x hl
    have hb : b < 256 := hl b (by simp)
    rw [crcN_cons, ih _ (fun c hc => hl c (by simp [hc])), word, word_cons_xor b _ hb, List.length_cons, show 8 * (l.length + 1) = 8 * l.length + 8 by omega, stepsN_add]
    congr 1
    have e : x ^^^ (word l * 2 ^ 8 ^^^ b) = (word l * 2 ^ 8) ^^^ (x ^^^ b) := by rw [← Nat.xor_assoc, Nat.xor_comm x, Nat.xor_assoc]
    rw [e, stepsN_xor, stepsN_shift, s8_eq, Nat.xor_comm]

theorem stepN_ne (z : Nat) (h : z < 4294967296) (h0 : z ≠ 0) : stepN z ≠ 0 := by
  unfold stepN
  split
  · intro he
    have h1 : z / 2 = poly := by
      have := congrArg (· ^^^ poly) he
      simpa [Nat.xor_assoc] using this
    have : poly = 3988292384 := rfl
    omega
  · omega
theorem stepsN_ne (n z : Nat) (h : z < 4294967296) (h0 : z ≠ 0) : stepsN n z ≠ 0 := by
  induction n with
  | zero => exact h0
  | succ n ih => exact stepN_ne _ (stepsN_lt n z h) ih

theorem word_lt (l : List Nat) (hl : ∀ b ∈ l, b < 256) : word l < 2 ^ (8 * l.length) := by
  induction l with
  | nil => simp [word]
  | cons b l ih =>
    have hb : b < 256 := hl b (by simp)
    have := ih (fun c hc => hl c (by simp [hc]))
    rw [word, List.length_cons, show 8 * (l.length + 1) = 8 * l.length + 8 by omega, Nat.pow_add, show (2 : Nat) ^ 8 = 256 by decide]
    omega

theorem word_inj : ∀ (l m : List Nat), l.length = m.length → (∀ b ∈ l, b < 256) → (∀ b ∈ m, b < 256) → word l = word m → l = m
  | [], [], _, _, _, _ => rfl
  | [], _ :: _, h, _, _, _ => by simp at h
  | _ :: _, [], h, _, _, _ => by simp at h
  | b :: l, c :: m, h, hl, hm, e => by
    have hb : b < 256 := hl b (by simp)
    have hc : c < 256 := hm c (by simp)
    simp only [word] at e
    have e1 : b = c := by omega
    have e2 : word l = word m := by omega
    rw [e1, word_inj l m (by simpa using h) (fun c hc => hl c (by simp [hc])) (fun c hc => hm c (by simp [hc])) e2]

/-- A burst of up to 32 bits gives another sum, if it is another text. -/
theorem crc_burst (x : Nat) (l m : List Nat) (hn : l.length = m.length) (hl : ∀ b ∈ l, b < 256) (hm : ∀ b ∈ m, b < 256) (v p : Nat) (hv : v < 4294967296) (hw : word m = word l ^^^ (v * 2 ^ p)) : (crcN x m = crcN x l) ↔ m = l := by
  constructor
  · intro h
    by_cases hv0 : v = 0
    · subst hv0
      rw [Nat.zero_mul, Nat.xor_zero] at hw
      exact word_inj m l hn.symm hm hl hw
    · exfalso
      have h1 : word l ^^^ word m = v * 2 ^ p := by rw [hw, ← Nat.xor_assoc, Nat.xor_self, Nat.zero_xor]
      have hlt : v * 2 ^ p < 2 ^ (8 * l.length) := by
        rw [← h1]
        exact Nat.xor_lt_two_pow (word_lt l hl) (by rw [hn]; exact word_lt m hm)
      have hp : p ≤ 8 * l.length := by
        rcases Nat.lt_or_ge (8 * l.length) p with hc | hc
        · have : 2 ^ (8 * l.length) ≤ 2 ^ p := Nat.pow_le_pow_right (by decide) (by omega)
          have h2 : 1 * 2 ^ p ≤ v * 2 ^ p := Nat.mul_le_mul_right _ (by omega)
          omega
        · exact hc
      have h2 : crcN x l ^^^ crcN x m = stepsN (8 * l.length - p) v := by
        rw [crcN_word l x hl, crcN_word m x hm, ← hn, ← stepsN_xor, show (x ^^^ word l) ^^^ (x ^^^ word m) = word l ^^^ word m by
          rw [Nat.xor_comm x (word l), Nat.xor_assoc, ← Nat.xor_assoc x x, Nat.xor_self, Nat.zero_xor], h1]
        conv => lhs; rw [show 8 * l.length = (8 * l.length - p) + p by omega]
        rw [stepsN_add, stepsN_shift]
      rw [h, Nat.xor_self] at h2
      exact stepsN_ne _ v hv hv0 h2.symm
  · intro h; rw [h]

/-- One bit of a text turned. -/
def flip (l : List Nat) (k : Nat) : List Nat := l.set (k / 8) (l.getD (k / 8) 0 ^^^ 2 ^ (k % 8))

theorem flip_length (l : List Nat) (k : Nat) : (flip l k).length = l.length := by simp [flip]

theorem pow_lt256 (k : Nat) : 2 ^ (k % 8) < 256 := by
  have : (2 : Nat) ^ (k % 8) < 2 ^ 8 := Nat.pow_lt_pow_right (by decide) (Nat.mod_lt _ (by decide))
  simpa using this

theorem xor_lt256 (a b : Nat) (ha : a < 256) (hb : b < 256) : a ^^^ b < 256 := Nat.xor_lt_two_pow (n := 8) ha hb

theorem flip_lt (l : List Nat) (k : Nat) (hl : ∀ b ∈ l, b < 256) : ∀ b ∈ flip l k, b < 256 := by
  intro b hb
  rcases List.mem_or_eq_of_mem_set hb with h | h
  · exact hl b h
  · rw [h]
    refine xor_lt256 _ _ ?_ (pow_lt256 k)
    rw [List.getD_eq_getElem?_getD]
    rcases hq : l[k / 8]? with _ | q
    · simp
    · simpa using hl q (List.mem_of_getElem? hq)

theorem word_flip : ∀ (l : List Nat) (k : Nat), (∀ b ∈ l, b < 256) → k < 8 * l.length → word (flip l k) = word l ^^^ 2 ^ k
  | [], k, _, h => by simp at h
  | b :: l, k, hl, h => by
    have hb : b < 256 := hl b (by simp)
    by_cases h8 : k < 8
    · have e0 : k / 8 = 0 := by omega
      have e1 : k % 8 = k := by omega
      have hk : (2 : Nat) ^ k < 256 := by have := pow_lt256 k; rwa [e1] at this
      unfold flip
      rw [e0, e1, List.set_cons_zero, List.getD_cons_zero, word, word, word_cons_xor b _ hb, word_cons_xor _ _ (xor_lt256 b _ hb hk), Nat.xor_assoc]
    · have e0 : k / 8 = (k - 8) / 8 + 1 := by omega
      have e1 : k % 8 = (k - 8) % 8 := by omega
      have ih := word_flip l (k - 8) (fun c hc => hl c (by simp [hc])) (by simp at h; omega)
      unfold flip at ih ⊢
      rw [e0, e1, List.set_cons_succ, List.getD_cons_succ, word, ih, word, word_cons_xor b _ hb, word_cons_xor b _ hb]
      have e2 : (2 : Nat) ^ k = 2 ^ (k - 8) * 2 ^ 8 := by rw [← Nat.pow_add, show k - 8 + 8 = k by omega]
      have e3 : (word l ^^^ 2 ^ (k - 8)) * 2 ^ 8 = (word l * 2 ^ 8) ^^^ (2 ^ (k - 8) * 2 ^ 8) := by
        rw [← Nat.shiftLeft_eq, ← Nat.shiftLeft_eq, ← Nat.shiftLeft_eq, Nat.shiftLeft_xor_distrib]
      rw [e2, e3, Nat.xor_assoc, Nat.xor_assoc, Nat.xor_comm b]

/-- What is spoilt behind so many bits of the burst. -/
def spoil (l : List Nat) (v bit : Nat) : Nat → List Nat
  | 0 => l
  | i + 1 => if v / 2 ^ i % 2 = 1 then flip (spoil l v bit i) (bit + i) else spoil l v bit i

theorem spoil_length (l : List Nat) (v bit i : Nat) : (spoil l v bit i).length = l.length := by
  induction i with
  | zero => rfl
  | succ i ih => rw [spoil]; split <;> simp [flip_length, ih]
theorem spoil_lt (l : List Nat) (v bit i : Nat) (hl : ∀ b ∈ l, b < 256) : ∀ b ∈ spoil l v bit i, b < 256 := by
  induction i with
  | zero => exact hl
  | succ i ih =>
    rw [spoil]; split
    · exact flip_lt _ _ ih
    · exact ih

theorem mod_succ (v i : Nat) : v % 2 ^ (i + 1) = if v / 2 ^ i % 2 = 1 then (v % 2 ^ i) ^^^ 2 ^ i else v % 2 ^ i := by
  apply Nat.eq_of_testBit_eq
  intro j
  have hb : v / 2 ^ i % 2 = 1 ↔ v.testBit i = true := by
    rw [Nat.testBit_eq_decide_div_mod_eq]; simp
  by_cases hv : v.testBit i = true
  · rw [if_pos (hb.2 hv), Nat.testBit_xor, Nat.testBit_mod_two_pow, Nat.testBit_mod_two_pow, Nat.testBit_two_pow]
    by_cases hj : j = i
    · subst hj; simp [hv]
    · by_cases h1 : j < i
      · simp [h1, show j < i + 1 by omega, show ¬ i = j by omega]
      · simp [h1, show ¬ j < i + 1 by omega, show ¬ i = j by omega]
  · rw [if_neg (fun h => hv (hb.1 h)), Nat.testBit_mod_two_pow, Nat.testBit_mod_two_pow]
    by_cases hj : j = i
    · subst hj; simp [hv]
    · by_cases h1 : j < i
      · simp [h1, show j < i + 1 by omega]
      · simp [h1, show ¬ j < i + 1 by omega]

theorem word_spoil (l : List Nat) (v bit i : Nat) (hl : ∀ b ∈ l, b < 256) (hi : bit + i ≤ 8 * l.length) : word (spoil l v bit i) = word l ^^^ (v % 2 ^ i * 2 ^ bit) := by
  induction i with
  | zero => simp [spoil, Nat.mod_one]
  | succ i ih =>
    have ih := ih (by omega)
    rw [spoil, mod_succ]
    split
    · rw [word_flip _ _ (spoil_lt l v bit i hl) (by rw [spoil_length]; omega), ih, Nat.xor_assoc]
      congr 1
      rw [← Nat.shiftLeft_eq, ← Nat.shiftLeft_eq, Nat.shiftLeft_xor_distrib, Nat.shiftLeft_eq (2 ^ i), ← Nat.pow_add, Nat.add_comm i bit]
    · exact ih

theorem spoil_sum (x : Nat) (l : List Nat) (hl : ∀ b ∈ l, b < 256) (v bit i : Nat) (hi : i ≤ 32) (hb : bit + i ≤ 8 * l.length) : (crcN x (spoil l v bit i) = crcN x l) ↔ spoil l v bit i = l := by
  have h1 : v % 2 ^ i < 2 ^ i := Nat.mod_lt _ (Nat.two_pow_pos i)
  have h2 : 2 ^ i ≤ 2 ^ 32 := Nat.pow_le_pow_right (by decide) hi
  have h3 : (2 : Nat) ^ 32 = 4294967296 := by decide
  exact crc_burst x l _ (spoil_length l v bit i).symm hl (spoil_lt l v bit i hl) (v % 2 ^ i) bit (by omega) (word_spoil l v bit i hl hb)

end Go.Proofs.Ythlllcmffgdcmaa.CrcPlain

/- A heap in a row, each item no later than the four below it: what goes up and down comes to its place, the first is the least, and nothing is lost. No program in sight. -/
namespace Go.Proofs.Ythlllcmffgdcmab.HeapPlain
set_option linter.unusedVariables false
set_option linter.unusedSimpArgs false

/-- Who sleeps: until when, its number, who it is. -/
structure It where
  t : Int
  s : Int
  d : Int
deriving DecidableEq, Inhabited

def It.z : It := ⟨0, 0, 0⟩
/-- Ahead of another one. -/
def It.bf (a b : It) : Prop := a.t < b.t ∨ a.t = b.t ∧ a.s < b.s
def It.le (a b : It) : Prop := a.t < b.t ∨ a.t = b.t ∧ a.s ≤ b.s
instance (a b : It) : Decidable (a.bf b) := by unfold It.bf; infer_instance
instance (a b : It) : Decidable (a.le b) := by unfold It.le; infer_instance
theorem bf_iff (a b : It) : a.bf b ↔ ¬ b.le a := by unfold It.bf It.le; omega
theorem le_of_bf {a b : It} (h : a.bf b) : a.le b := by unfold It.bf at h; unfold It.le; omega
theorem le_of_not {a b : It} (h : ¬ a.bf b) : b.le a := by unfold It.bf at h; unfold It.le; omega
theorem not_bf {a b : It} (h : b.le a) : ¬ a.bf b := by unfold It.le at h; unfold It.bf; omega
theorem le_rfl' (a : It) : a.le a := by unfold It.le; omega
theorem le_tr {a b c : It} (h : a.le b) (k : b.le c) : a.le c := by unfold It.le at *; omega

/-- What stands in a place. -/
def g (l : List It) (k : Nat) : It := l.getD k It.z
/-- Two places, exchanged. -/
def swp (l : List It) (i j : Nat) : List It := (l.set i (g l j)).set j (g l i)
theorem swp_len (l : List It) (i j : Nat) : (swp l i j).length = l.length := by simp [swp]
theorem g_set (l : List It) (i k : Nat) (x : It) (hi : i < l.length) : g (l.set i x) k = if k = i then x else g l k := by
  unfold g
  rw [List.getD_eq_getElem?_getD, List.getD_eq_getElem?_getD, List.getElem?_set]
  by_cases h : i = k
  · subst h; simp [hi]
  · rw [if_neg h, if_neg (Ne.symm h)]
theorem g_swp (l : List It) (i j k : Nat) (hi : i < l.length) (hj : j < l.length) : g (swp l i j) k = if k = j then g l i else if k = i then g l j else g l k := by
  unfold swp
  rw [g_set _ _ _ _ (by simpa using hj), g_set _ _ _ _ hi]
theorem swp_perm (l : List It) (i j : Nat) (hi : i < l.length) (hj : j < l.length) : (swp l i j).Perm l := by
  have h := Array.swap_perm (xs := l.toArray) (i := i) (j := j) (by simpa using hi) (by simpa using hj)
  have e : (l.toArray.swap i j (by simpa using hi) (by simpa using hj)).toList = swp l i j := by
    apply List.ext_getElem?
    intro k
    simp [Array.swap, swp, g, List.getElem?_set, hi, hj]
  have := h.toList
  rw [e] at this
  simpa using this

def par (k : Nat) : Nat := (k - 1) / 4

/-- Up, as far as it goes. -/
def up (l : List It) (i : Nat) : List It := if h : 0 < i ∧ (g l i).bf (g l (par i)) then up (swp l i (par i)) (par i) else l
termination_by i
decreasing_by have := h.1; unfold par; omega
theorem up_go {l : List It} {i : Nat} (h : 0 < i) (k : (g l i).bf (g l (par i))) : up l i = up (swp l i (par i)) (par i) := by rw [up, dif_pos ⟨h, k⟩]
theorem up_stop {l : List It} {i : Nat} (h : ¬ (0 < i ∧ (g l i).bf (g l (par i)))) : up l i = l := by rw [up, dif_neg h]

/-- The least of one and the first so many below it. -/
def lst (l : List It) (i : Nat) : Nat → Nat
  | 0 => i
  | m + 1 => if 4 * i + 1 + m < l.length ∧ (g l (4 * i + 1 + m)).bf (g l (lst l i m)) then 4 * i + 1 + m else lst l i m
def least (l : List It) (i : Nat) : Nat := lst l i 4
theorem lst_or (l : List It) (i m : Nat) : lst l i m = i ∨ (4 * i + 1 ≤ lst l i m ∧ lst l i m < 4 * i + 1 + m ∧ lst l i m < l.length) := by
  induction m with
  | zero => exact .inl rfl
  | succ m ih =>
    unfold lst
    split
    · rename_i h; exact .inr ⟨by omega, by omega, h.1⟩
    · rcases ih with h | ⟨h1, h2, h3⟩
      · exact .inl h
      · exact .inr ⟨h1, by omega, h3⟩
theorem lst_le_self (l : List It) (i m : Nat) : (g l (lst l i m)).le (g l i) := by
  induction m with
  | zero => exact le_rfl' _
  | succ m ih =>
    unfold lst
    split
    · rename_i h; exact le_tr (le_of_bf h.2) ih
    · exact ih
theorem lst_le (l : List It) (i m j : Nat) (hj : j < m) (hl : 4 * i + 1 + j < l.length) : (g l (lst l i m)).le (g l (4 * i + 1 + j)) := by
  induction m with
  | zero => omega
  | succ m ih =>
    unfold lst
    by_cases e : j = m
    · subst e
      split
      · exact le_rfl' _
      · rename_i h
        refine le_of_not fun hb => h ⟨hl, hb⟩
    · split
      · rename_i h; exact le_tr (le_of_bf h.2) (ih (by omega))
      · exact ih (by omega)
theorem lst_stop (l : List It) (i m n : Nat) (h : l.length ≤ 4 * i + 1 + m) (hn : m ≤ n) : lst l i n = lst l i m := by
  induction n with
  | zero => obtain rfl : m = 0 := by omega
            rfl
  | succ n ih =>
    by_cases e : m = n + 1
    · rw [e]
    · rw [lst, if_neg (by omega), ih (by omega)]
theorem least_or (l : List It) (i : Nat) : least l i = i ∨ (par (least l i) = i ∧ i < least l i ∧ least l i < l.length) := by
  rcases lst_or l i 4 with h | ⟨h1, h2, h3⟩
  · exact .inl h
  · exact .inr ⟨by unfold par least; omega, by unfold least; omega, h3⟩
theorem least_le_self (l : List It) (i : Nat) : (g l (least l i)).le (g l i) := lst_le_self l i 4
theorem least_le (l : List It) (i k : Nat) (h0 : 0 < k) (hk : k < l.length) (hp : par k = i) : (g l (least l i)).le (g l k) := by
  unfold par at hp
  have := lst_le l i 4 (k - (4 * i + 1)) (by omega) (by omega)
  rw [show 4 * i + 1 + (k - (4 * i + 1)) = k by omega] at this
  exact this
theorem least_lt (l : List It) (i : Nat) (hi : i < l.length) : least l i < l.length := by
  rcases least_or l i with h | h
  · rw [h]; exact hi
  · exact h.2.2

/-- Down, as far as it goes. -/
def down (l : List It) (i : Nat) : List It := if h : least l i = i then l else down (swp l i (least l i)) (least l i)
termination_by l.length - i
decreasing_by
  rcases least_or l i with h' | h'
  · exact absurd h' h
  · rw [swp_len]; omega
theorem down_stop {l : List It} {i : Nat} (h : least l i = i) : down l i = l := by rw [down, dif_pos h]
theorem down_go {l : List It} {i : Nat} (h : least l i ≠ i) : down l i = down (swp l i (least l i)) (least l i) := by rw [down, dif_neg h]

/-- Each no later than those below it. -/
def H (l : List It) : Prop := ∀ k, 0 < k → k < l.length → (g l (par k)).le (g l k)
def UpOk (l : List It) (i : Nat) : Prop := (∀ k, 0 < k → k < l.length → k ≠ i → (g l (par k)).le (g l k)) ∧ (∀ k, 0 < k → k < l.length → par k = i → 0 < i → (g l (par i)).le (g l k))

theorem up_spec (l : List It) (i : Nat) (hi : i < l.length) (h : UpOk l i) : H (up l i) ∧ (up l i).Perm l ∧ (up l i).length = l.length := by
  induction i using Nat.strongRecOn generalizing l with
  | _ i ih =>
    by_cases hc : 0 < i ∧ (g l i).bf (g l (par i))
    · obtain ⟨h0, hb⟩ := hc
      rw [up_go h0 hb]
      have hpi : par i < i := by unfold par; omega
      have hpl : par i < l.length := by omega
      have hle := le_of_bf hb
      have key : UpOk (swp l i (par i)) (par i) := by
        refine ⟨fun k k0 kl kp => ?_, fun k k0 kl kp p0 => ?_⟩
        · rw [swp_len] at kl
          rw [g_swp _ _ _ _ hi hpl, g_swp _ _ _ _ hi hpl]
          rw [if_neg kp]
          by_cases e : k = i
          · subst e
            rw [if_pos rfl, if_pos rfl]; exact hle
          · rw [if_neg e]
            by_cases e1 : par k = par i
            · rw [if_pos e1]
              have := h.1 k k0 kl e
              rw [e1] at this
              exact le_tr hle this
            · rw [if_neg e1]
              by_cases e2 : par k = i
              · rw [if_pos e2]
                exact h.2 k k0 kl e2 h0
              · rw [if_neg e2]
                exact h.1 k k0 kl e
        · rw [swp_len] at kl
          have hpp : par (par i) < par i := by revert p0; unfold par; omega
          rw [g_swp _ _ _ _ hi hpl, g_swp _ _ _ _ hi hpl]
          rw [if_neg (by omega), if_neg (by omega)]
          have hkp : k ≠ par i := by intro e; rw [e] at kp; omega
          rw [if_neg hkp]
          have e1 := h.1 (par i) p0 hpl (by omega)
          by_cases e : k = i
          · rw [if_pos e]; exact e1
          · rw [if_neg e]
            have e2 := h.1 k k0 kl e
            rw [kp] at e2
            exact le_tr e1 e2
      obtain ⟨r1, r2, r3⟩ := ih (par i) hpi (swp l i (par i)) (by rw [swp_len]; exact hpl) key
      exact ⟨r1, r2.trans (swp_perm l i (par i) hi hpl), r3.trans (swp_len _ _ _)⟩
    · rw [up_stop hc]
      refine ⟨fun k k0 kl => ?_, List.Perm.refl _, rfl⟩
      by_cases e : k = i
      · subst e
        exact le_of_not fun hb => hc ⟨k0, hb⟩
      · exact h.1 k k0 kl e
theorem up_heap {l : List It} (h : H l) (i : Nat) (hi : i < l.length) : up l i = l := up_stop fun ⟨h0, hb⟩ => (bf_iff _ _).1 hb (h i h0 hi)

def DownOk (l : List It) (j : Nat) : Prop := (∀ k, 0 < k → k < l.length → par k ≠ j → (g l (par k)).le (g l k)) ∧ (∀ k, 0 < k → k < l.length → par k = j → 0 < j → (g l (par j)).le (g l k))
theorem down_spec (n : Nat) : ∀ (l : List It) (j : Nat), l.length - j ≤ n → j < l.length → DownOk l j → H (down l j) ∧ (down l j).Perm l ∧ (down l j).length = l.length := by
  induction n with
  | zero => intro l j h1 h2; omega
  | succ n ih =>
    intro l j hn hj h
    by_cases hc : least l j = j
    · rw [down_stop hc]
      refine ⟨fun k k0 kl => ?_, List.Perm.refl _, rfl⟩
      by_cases e : par k = j
      · have := least_le l j k k0 kl e
        rw [hc, ← e] at this
        exact this
      · exact h.1 k k0 kl e
    · rw [down_go hc]
      rcases least_or l j with h' | ⟨mp, mj, ml⟩
      · exact absurd h' hc
      · have hmin := fun k k0 kl kp => least_le l j k k0 kl kp
        have hself := least_le_self l j
        generalize least l j = m at mp mj ml hmin hself ⊢
        have key : DownOk (swp l j m) m := by
          refine ⟨fun k k0 kl kp => ?_, fun k k0 kl kp m0 => ?_⟩
          · rw [swp_len] at kl
            rw [g_swp _ _ _ _ hj ml, g_swp _ _ _ _ hj ml, if_neg kp]
            by_cases e : k = m
            · subst e
              rw [if_pos mp, if_pos rfl]; exact hself
            · rw [if_neg e]
              by_cases e1 : k = j
              · subst e1
                rw [if_neg (by unfold par; omega), if_pos rfl]
                exact h.2 m (by omega) ml mp k0
              · rw [if_neg e1]
                by_cases e2 : par k = j
                · rw [if_pos e2]; exact hmin k k0 kl e2
                · rw [if_neg e2]; exact h.1 k k0 kl e2
          · rw [swp_len] at kl
            have hpk : par k < k := by unfold par; omega
            rw [g_swp _ _ _ _ hj ml, g_swp _ _ _ _ hj ml, mp, if_neg (by omega), if_pos rfl, if_neg (by omega), if_neg (by omega)]
            have := h.1 k k0 kl (by omega)
            rw [kp] at this
            exact this
        obtain ⟨r1, r2, r3⟩ := ih (swp l j m) m (by rw [swp_len]; omega) (by rw [swp_len]; exact ml) key
        exact ⟨r1, r2.trans (swp_perm l j m hj ml), r3.trans (swp_len _ _ _)⟩

/-- All but what touches one place. -/
def But (l : List It) (i : Nat) : Prop := (∀ k, 0 < k → k < l.length → k ≠ i → par k ≠ i → (g l (par k)).le (g l k)) ∧ (∀ k, 0 < k → k < l.length → par k = i → 0 < i → (g l (par i)).le (g l k))
theorem fix_spec (l : List It) (i : Nat) (hi : i < l.length) (h : But l i) : H (up (down l i) i) ∧ (up (down l i) i).Perm l ∧ (up (down l i) i).length = l.length := by
  by_cases hc : least l i = i
  · rw [down_stop hc]
    refine up_spec l i hi ⟨fun k k0 kl ke => ?_, h.2⟩
    by_cases e : par k = i
    · have := least_le l i k k0 kl e
      rw [hc, ← e] at this
      exact this
    · exact h.1 k k0 kl ke e
  · have hd : H (down l i) ∧ (down l i).Perm l ∧ (down l i).length = l.length := by
      rw [down_go hc]
      rcases least_or l i with h' | ⟨mp, mj, ml⟩
      · exact absurd h' hc
      · have hmin := fun k k0 kl kp => least_le l i k k0 kl kp
        have hself := least_le_self l i
        generalize least l i = m at mp mj ml hmin hself ⊢
        have key : DownOk (swp l i m) m := by
          refine ⟨fun k k0 kl kp => ?_, fun k k0 kl kp m0 => ?_⟩
          · rw [swp_len] at kl
            rw [g_swp _ _ _ _ hi ml, g_swp _ _ _ _ hi ml, if_neg kp]
            by_cases e : k = m
            · subst e
              rw [if_pos mp, if_pos rfl]; exact hself
            · rw [if_neg e]
              by_cases e1 : k = i
              · subst e1
                rw [if_neg (by unfold par; omega), if_pos rfl]
                exact h.2 m (by omega) ml mp k0
              · rw [if_neg e1]
                by_cases e2 : par k = i
                · rw [if_pos e2]; exact hmin k k0 kl e2
                · rw [if_neg e2]; exact h.1 k k0 kl e1 e2
          · rw [swp_len] at kl
            have hpk : par k < k := by unfold par; omega
            rw [g_swp _ _ _ _ hi ml, g_swp _ _ _ _ hi ml, mp, if_neg (by omega), if_pos rfl, if_neg (by omega), if_neg (by omega)]
            have := h.1 k k0 kl (by omega) (by omega)
            rw [kp] at this
            exact this
        obtain ⟨r1, r2, r3⟩ := down_spec _ (swp l i m) m (Nat.le_refl _) (by rw [swp_len]; exact ml) key
        exact ⟨r1, r2.trans (swp_perm l i m hi ml), r3.trans (swp_len _ _ _)⟩
    obtain ⟨r1, r2, r3⟩ := hd
    rw [up_heap r1 i (by omega)]
    exact ⟨r1, r2, r3⟩

/-- Without the one in a place. -/
def rm (l : List It) (i : Nat) : List It :=
  let c := (swp l i (l.length - 1)).take (l.length - 1)
  if i < l.length - 1 then up (down c i) i else c
theorem g_take (l : List It) (n k : Nat) (h : k < n) : g (l.take n) k = g l k := by
  unfold g; rw [List.getD_eq_getElem?_getD, List.getD_eq_getElem?_getD, List.getElem?_take_of_lt h]
theorem take_perm (l : List It) (n : Nat) (h : l.length = n + 1) : l.Perm (g l n :: l.take n) := by
  have e : l = l.take n ++ [g l n] := by
    conv => lhs; rw [← List.take_append_drop n l]
    congr 1
    rw [List.drop_eq_getElem_cons (by omega), List.drop_eq_nil_of_le (by omega)]
    unfold g
    rw [List.getD_eq_getElem?_getD, List.getElem?_eq_getElem (by omega)]
    rfl
  conv => lhs; rw [e]
  exact List.perm_append_singleton _ _
theorem rm_spec (l : List It) (i : Nat) (hi : i < l.length) (h : H l) : H (rm l i) ∧ l.Perm (g l i :: rm l i) ∧ (rm l i).length = l.length - 1 := by
  have hl : l.length - 1 < l.length := by omega
  have hp : l.Perm (g l i :: (swp l i (l.length - 1)).take (l.length - 1)) := by
    have h1 := take_perm (swp l i (l.length - 1)) (l.length - 1) (by rw [swp_len]; omega)
    rw [g_swp _ _ _ _ hi hl, if_pos rfl] at h1
    exact (swp_perm l i _ hi hl).symm.trans h1
  have hlen : ((swp l i (l.length - 1)).take (l.length - 1)).length = l.length - 1 := by rw [List.length_take, swp_len]; omega
  have hg : ∀ k, k < l.length - 1 → k ≠ i → g ((swp l i (l.length - 1)).take (l.length - 1)) k = g l k := fun k hk hki => by
    rw [g_take _ _ _ hk, g_swp _ _ _ _ hi hl, if_neg (by omega), if_neg hki]
  unfold rm
  simp only
  split
  · rename_i hlt
    generalize (swp l i (l.length - 1)).take (l.length - 1) = c at hp hlen hg ⊢
    have hb : But c i := by
      refine ⟨fun k k0 kl ki kp => ?_, fun k k0 kl kp i0 => ?_⟩
      · have hpk : par k < k := by unfold par; omega
        rw [hg k (by omega) ki, hg (par k) (by omega) kp]
        exact h k k0 (by omega)
      · have hpk : par k < k := by unfold par; omega
        have hpi : par i < i := by unfold par; omega
        rw [hg k (by omega) (by omega), hg (par i) (by omega) (by omega)]
        have e1 := h k k0 (by omega)
        rw [kp] at e1
        exact le_tr (h i i0 hi) e1
    obtain ⟨r1, r2, r3⟩ := fix_spec c i (by omega) hb
    exact ⟨r1, hp.trans (List.Perm.cons _ r2.symm), by rw [r3, hlen]⟩
  · rename_i hge
    have hie : i = l.length - 1 := by omega
    refine ⟨fun k k0 kl => ?_, hp, hlen⟩
    rw [hlen] at kl
    have hpk : par k < k := by unfold par; omega
    rw [hg k (by omega) (by omega), hg (par k) (by omega) (by omega)]
    exact h k k0 (by omega)

/-- With one more. -/
def psh (l : List It) (x : It) : List It := up (l ++ [x]) l.length
theorem g_app (l : List It) (x : It) (k : Nat) (hk : k < l.length) : g (l ++ [x]) k = g l k := by
  unfold g; rw [List.getD_eq_getElem?_getD, List.getD_eq_getElem?_getD, List.getElem?_append_left hk]
theorem psh_spec (l : List It) (x : It) (h : H l) : H (psh l x) ∧ (psh l x).Perm (x :: l) ∧ (psh l x).length = l.length + 1 := by
  have hk : UpOk (l ++ [x]) l.length := by
    refine ⟨fun k k0 kl ke => ?_, fun k k0 kl kp _ => ?_⟩
    · simp only [List.length_append, List.length_cons, List.length_nil] at kl
      have hpk : par k < k := by unfold par; omega
      rw [g_app _ _ _ (by omega), g_app _ _ _ (by omega)]
      exact h k k0 (by omega)
    · simp only [List.length_append, List.length_cons, List.length_nil] at kl
      have hpk : par k < k := by unfold par; omega
      omega
  obtain ⟨r1, r2, r3⟩ := up_spec _ _ (by simp) hk
  exact ⟨r1, r2.trans (List.perm_append_singleton _ _), by unfold psh; rw [r3]; simp⟩

/-- The first is the least. -/
theorem root_le (l : List It) (h : H l) : ∀ k, k < l.length → (g l 0).le (g l k) := by
  intro k
  induction k using Nat.strongRecOn with
  | _ k ih =>
    intro hk
    by_cases e : k = 0
    · rw [e]; exact le_rfl' _
    · have hpk : par k < k := by unfold par; omega
      exact le_tr (ih (par k) hpk (by omega)) (h k (by omega) hk)
theorem root_le_mem (l : List It) (h : H l) (x : It) (hx : x ∈ l) : (g l 0).le x := by
  obtain ⟨k, hk, rfl⟩ := List.getElem_of_mem hx
  have := root_le l h k hk
  unfold g at this
  rw [List.getD_eq_getElem?_getD (i := k), List.getElem?_eq_getElem hk] at this
  exact this
theorem H_nil : H [] := fun k _ h => by simp at h
theorem g_mem (l : List It) (k : Nat) (h : k < l.length) : g l k ∈ l := by
  unfold g
  rw [List.getD_eq_getElem?_getD, List.getElem?_eq_getElem h]
  exact List.getElem_mem h
end Go.Proofs.Ythlllcmffgdcmab.HeapPlain

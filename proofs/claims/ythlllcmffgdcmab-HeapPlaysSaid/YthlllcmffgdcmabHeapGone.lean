/- Who is cancelled doesn't wake: what a heap of numbered items holds when some of them were taken out. No program in sight. -/
import Derived.Test.YthlllcmffgdcmabHeapSorts
namespace Go.Proofs.Ythlllcmffgdcmab.HeapPlain
set_option linter.unusedVariables false
set_option linter.unusedSimpArgs false

theorem filter_one {α : Type} [DecidableEq α] (l : List α) (hn : l.Nodup) (i : α) (hi : i ∈ l) (p q : α → Bool) (hp : p i = true) (hq : q i = false) (he : ∀ j, j ≠ i → p j = q j) : (l.filter p).Perm (i :: l.filter q) := by
  induction l with
  | nil => cases hi
  | cons a l ih =>
    rw [List.nodup_cons] at hn
    by_cases e : a = i
    · subst e
      rw [List.filter_cons, if_pos hp, List.filter_cons, if_neg (by rw [hq]; simp)]
      refine List.Perm.cons _ ?_
      rw [List.filter_congr (fun j hj => he j (fun e => hn.1 (e ▸ hj)))]
    · have hi' : i ∈ l := by
        rcases List.mem_cons.1 hi with h | h
        · exact absurd h.symm e
        · exact h
      have := ih hn.2 hi'
      rw [List.filter_cons, List.filter_cons, he a e]
      split
      · exact (List.Perm.cons _ this).trans (List.Perm.swap _ _ _)
      · exact this

variable (f : Nat → Int) (G : Nat → Bool) (n : Nat)
/-- Those that are left when the first i were looked at. -/
def lft (i : Nat) : List Nat := (List.range n).filter fun j => !(decide (j < i) && G j)
/-- How many of the first i stay. -/
def cnt (i : Nat) : Nat := ((List.range i).filter fun j => !(G j)).length
theorem cnt_succ (i : Nat) : cnt G (i + 1) = cnt G i + if G i = true then 0 else 1 := by
  unfold cnt
  rw [List.range_succ, List.filter_append, List.length_append]
  by_cases h : G i = true
  · simp [h]
  · simp [h]
theorem cnt_le (i : Nat) : cnt G i ≤ i := by
  induction i with
  | zero => simp [cnt]
  | succ i ih => rw [cnt_succ]; split <;> omega
/-- A heap while some are taken out. -/
structure Gone (i : Nat) (l : List It) : Prop where
  ord : H l
  perm : l.Perm ((lft G n i).map (it f))
variable {f G n}
theorem Gone.start {l : List It} (h : Pushed f n l) : Gone f G n 0 l := ⟨h.ord, by
  have : lft G n 0 = List.range n := by unfold lft; rw [List.filter_eq_self]; intro a _; simp
  rw [this]; exact h.perm⟩
theorem lft_no {i : Nat} (h : G i = false) : lft G n (i + 1) = lft G n i := by
  unfold lft
  refine List.filter_congr fun j _ => ?_
  by_cases e : j = i
  · subst e; rw [h]; simp
  · have : decide (j < i + 1) = decide (j < i) := by by_cases h' : j < i <;> simp [h'] <;> omega
    rw [this]
theorem lft_yes {i : Nat} (hi : i < n) (h : G i = true) : (lft G n i).Perm (i :: lft G n (i + 1)) := by
  unfold lft
  refine filter_one _ List.nodup_range i (List.mem_range.2 hi) _ _ (by simp) (by simp [h]) fun j hj => ?_
  have : decide (j < i + 1) = decide (j < i) := by by_cases h' : j < i <;> simp [h'] <;> omega
  rw [this]
theorem Gone.mem {i : Nat} {l : List It} (h : Gone f G n i l) {y : It} (hy : y ∈ l) : ∃ j, j < n ∧ y = it f j ∧ ¬ (j < i ∧ G j = true) := by
  obtain ⟨j, hj, rfl⟩ := List.mem_map.1 (h.perm.subset hy)
  obtain ⟨h1, h2⟩ := List.mem_filter.1 hj
  exact ⟨j, List.mem_range.1 h1, rfl, by
    simp at h2
    rintro ⟨a, b⟩
    rcases h2 with h | h
    · omega
    · rw [b] at h; cases h⟩
theorem Gone.has {i : Nat} {l : List It} (h : Gone f G n i l) (hi : i < n) : ∃ k, k < l.length ∧ (g l k).s = i := by
  have : it f i ∈ l := h.perm.symm.subset (List.mem_map_of_mem (List.mem_filter.2 ⟨List.mem_range.2 hi, by simp⟩))
  obtain ⟨k, hk, he⟩ := List.getElem_of_mem this
  refine ⟨k, hk, ?_⟩
  unfold g
  rw [List.getD_eq_getElem?_getD, List.getElem?_eq_getElem hk, Option.getD_some, he]
  rfl
theorem Gone.step_no {i : Nat} {l : List It} (h : Gone f G n i l) (hg : G i = false) : Gone f G n (i + 1) l := ⟨h.ord, by rw [lft_no hg]; exact h.perm⟩
theorem Gone.step_yes {i k : Nat} {l : List It} (h : Gone f G n i l) (hi : i < n) (hg : G i = true) (hk : k < l.length) (hs : (g l k).s = i) : Gone f G n (i + 1) (rm l k) := by
  obtain ⟨r1, r2, r3⟩ := rm_spec l k hk h.ord
  refine ⟨r1, ?_⟩
  obtain ⟨j, hj, hy, _⟩ := h.mem (g_mem l k hk)
  have hji : j = i := by rw [hy] at hs; exact Int.ofNat_inj.1 hs
  subst hji
  have h1 := (lft_yes hi hg).map (it f)
  rw [List.map_cons] at h1
  have h2 := (r2.symm.trans h.perm).trans h1
  rw [hy] at h2
  exact h2.cons_inv
theorem Gone.none {i : Nat} {l : List It} (h : Gone f G n (i + 1) l) (hg : G i = true) : ∀ k, k < l.length → (g l k).s ≠ i := by
  intro k hk hs
  obtain ⟨j, hj, hy, hn⟩ := h.mem (g_mem l k hk)
  have hji : j = i := by rw [hy] at hs; exact Int.ofNat_inj.1 hs
  subst hji
  exact hn ⟨by omega, hg⟩
theorem Gone.len {i : Nat} {l : List It} (h : Gone f G n i l) : l.length ≤ n := by
  have := h.perm.length_eq
  rw [List.length_map] at this
  have h2 : (lft G n i).length ≤ (List.range n).length := List.length_filter_le _ _
  rw [List.length_range] at h2
  omega

/-- What wakes. -/
structure Wakes (f : Nat → Int) (G : Nat → Bool) (n : Nat) (os : List It) : Prop where
  mem : ∀ k, k < os.length → ∃ j, j < n ∧ g os k = it f j ∧ G j = false
  next : ∀ k, k + 1 < os.length → (g os k).bf (g os (k + 1))
  len : os.length = cnt G n
theorem g_pair {os : List It} (h : os.Pairwise It.le) : ∀ k, k + 1 < os.length → (g os k).le (g os (k + 1)) := by
  intro k hk
  have := List.pairwise_iff_getElem.1 h k (k + 1) (by omega) hk (by omega)
  unfold g
  rw [List.getD_eq_getElem?_getD, List.getD_eq_getElem?_getD, List.getElem?_eq_getElem (by omega), List.getElem?_eq_getElem hk]
  exact this
theorem Gone.wakes {l os l' : List It} (h : Gone f G n n l) (hp : (os ++ l').Perm l) (hs : os.Pairwise It.le) (hl : l' = []) : Wakes f G n os := by
  subst hl
  rw [List.append_nil] at hp
  have hpl := hp.trans h.perm
  have hnd : (os.map (·.s)).Nodup := by
    refine (hpl.map (·.s)).nodup_iff.2 ?_
    rw [List.map_map]
    unfold List.Nodup lft
    rw [List.pairwise_map]
    exact List.Pairwise.imp (fun {a b} (h : a ≠ b) (e : ((a : Nat) : Int) = (b : Int)) => h (by omega)) (List.Pairwise.filter _ List.nodup_range)
  refine ⟨fun k hk => ?_, fun k hk => bf_of (g_pair hs k hk) fun e => ?_, ?_⟩
  · obtain ⟨j, h1, h2, h3⟩ := h.mem (hp.subset (g_mem os k hk))
    exact ⟨j, h1, h2, by cases hG : G j; rfl; exact absurd ⟨h1, hG⟩ h3⟩
  · have := List.pairwise_iff_getElem.1 hnd k (k + 1) (by rw [List.length_map]; omega) (by rw [List.length_map]; exact hk) (by omega)
    apply this
    rw [List.getElem_map, List.getElem_map]
    unfold g at e
    rw [List.getD_eq_getElem?_getD, List.getD_eq_getElem?_getD, List.getElem?_eq_getElem (by omega), List.getElem?_eq_getElem hk] at e
    exact e
  · rw [hpl.length_eq, List.length_map]
    unfold lft cnt
    congr 1
    refine List.filter_congr fun j hj => ?_
    rw [List.mem_range] at hj
    simp [hj]
end Go.Proofs.Ythlllcmffgdcmab.HeapPlain

/- What comes out of a heap in order is the one list in order; a heap of numbered items. No program in sight. -/
import Derived.Test.YthlllcmffgdcmabHeapPlain
namespace Go.Proofs.Ythlllcmffgdcmab.HeapPlain
set_option linter.unusedVariables false
set_option linter.unusedSimpArgs false

theorem le_anti {a b : It} (h : a.le b) (k : b.le a) : a.t = b.t ∧ a.s = b.s := by unfold It.le at *; omega
/-- One list alone is in order, where no two items stand alike. -/
theorem uniq : ∀ (l m : List It), l.Perm m → l.Pairwise It.le → m.Pairwise It.le → (∀ a ∈ l, ∀ b ∈ l, a.t = b.t → a.s = b.s → a = b) → l = m := by
  intro l
  induction l with
  | nil => intro m h _ _ _; exact h.nil_eq
  | cons a l ih =>
    intro m h hl hm ha
    rcases m with _ | ⟨b, m⟩
    · exact absurd h.symm.nil_eq (by simp)
    · have hab : a = b := by
        have h1 : a ∈ b :: m := h.subset (List.mem_cons_self ..)
        have h2 : b ∈ a :: l := h.symm.subset (List.mem_cons_self ..)
        rcases List.mem_cons.1 h1 with e | e
        · exact e
        · rcases List.mem_cons.1 h2 with e2 | e2
          · exact e2.symm
          · have q1 := (List.pairwise_cons.1 hl).1 b e2
            have q2 := (List.pairwise_cons.1 hm).1 a e
            obtain ⟨t1, t2⟩ := le_anti q1 q2
            exact ha a (List.mem_cons_self ..) b h2 t1 t2
      subst hab
      rw [ih m h.cons_inv (List.pairwise_cons.1 hl).2 (List.pairwise_cons.1 hm).2 (fun x hx y hy => ha x (List.mem_cons_of_mem _ hx) y (List.mem_cons_of_mem _ hy))]

theorem awake_list (os l' : List It) (hp : (os ++ l').Perm (psh (psh (psh [] ⟨5, 0, 1⟩) ⟨3, 1, 2⟩) ⟨5, 2, 3⟩)) (hs : os.Pairwise It.le) (hl : ∀ y ∈ l', 5 < y.t) : os = [⟨3, 1, 2⟩, ⟨5, 0, 1⟩, ⟨5, 2, 3⟩] ∧ l' = [] := by
  have h1 := psh_spec [] ⟨5, 0, 1⟩ H_nil
  have h2 := psh_spec _ ⟨3, 1, 2⟩ h1.1
  have h3 := psh_spec _ ⟨5, 2, 3⟩ h2.1
  have hall : (os ++ l').Perm [⟨5, 2, 3⟩, ⟨3, 1, 2⟩, ⟨5, 0, 1⟩] := hp.trans (h3.2.1.trans (List.Perm.cons _ (h2.2.1.trans (List.Perm.cons _ h1.2.1))))
  have hl' : l' = [] := by
    rcases l' with _ | ⟨y, l'⟩
    · rfl
    · have hy := hl y (List.mem_cons_self ..)
      have := hall.subset (List.mem_append_right os (List.mem_cons_self ..))
      simp only [List.mem_cons, List.not_mem_nil, or_false] at this
      rcases this with rfl | rfl | rfl <;> simp at hy
  subst hl'
  rw [List.append_nil] at hall
  refine ⟨uniq _ _ (hall.trans (by decide)) hs (by decide) (fun a ha b hb => ?_), rfl⟩
  have ha' := hall.subset ha
  have hb' := hall.subset hb
  simp only [List.mem_cons, List.not_mem_nil, or_false] at ha' hb'
  rcases ha' with rfl | rfl | rfl <;> rcases hb' with rfl | rfl | rfl <;> simp

/-- The items that are pushed. -/
def it (f : Nat → Int) (i : Nat) : It := ⟨f i, i, i⟩
def its (f : Nat → Int) (n : Nat) : List It := (List.range n).map (it f)
theorem its_succ (f : Nat → Int) (n : Nat) : its f (n + 1) = its f n ++ [it f n] := by unfold its; rw [List.range_succ, List.map_append]; rfl
theorem its_mem {f : Nat → Int} {n : Nat} {y : It} (h : y ∈ its f n) : ∃ i, i < n ∧ y = it f i := by
  obtain ⟨i, hi, rfl⟩ := List.mem_map.1 h
  exact ⟨i, List.mem_range.1 hi, rfl⟩
theorem its_nodup (f : Nat → Int) (n : Nat) : ((its f n).map (·.s)).Nodup := by
  unfold its
  rw [List.map_map]
  unfold List.Nodup
  rw [List.pairwise_map]
  exact List.Pairwise.imp (fun {a b} (h : a ≠ b) (e : ((a : Nat) : Int) = (b : Int)) => h (by omega)) (List.nodup_range (n := n))
/-- A heap of the first so many items. -/
structure Pushed (f : Nat → Int) (k : Nat) (l : List It) : Prop where
  ord : H l
  perm : l.Perm (its f k)
theorem Pushed.zero (f : Nat → Int) : Pushed f 0 [] := ⟨H_nil, List.Perm.refl _⟩
theorem Pushed.push {f : Nat → Int} {k : Nat} {l : List It} (h : Pushed f k l) : Pushed f (k + 1) (psh l (it f k)) := by
  obtain ⟨h1, h2, _⟩ := psh_spec l (it f k) h.ord
  refine ⟨h1, h2.trans ?_⟩
  rw [its_succ]
  exact (List.Perm.cons _ h.perm).trans (List.perm_append_singleton _ _).symm
theorem Pushed.len {f : Nat → Int} {k : Nat} {l : List It} (h : Pushed f k l) : l.length = k := by
  have := h.perm.length_eq
  simpa [its] using this

/-- A heap that is emptied, the last one that came out. -/
structure Sorts (f : Nat → Int) (n k : Nat) (l : List It) (last : It) : Prop where
  ord : H l
  mem : ∀ y ∈ l, ∃ i, i < n ∧ y = it f i
  nodup : (l.map (·.s)).Nodup
  len : l.length + k = n
  last : k = 0 ∨ ∀ y ∈ l, last.bf y
theorem Sorts.start {f : Nat → Int} {n : Nat} {l : List It} (h : Pushed f n l) (z : It) : Sorts f n 0 l z :=
  ⟨h.ord, fun y hy => its_mem (h.perm.subset hy), (h.perm.map _).nodup_iff.2 (its_nodup f n), by have := h.len; omega, .inl rfl⟩
theorem bf_of {a b : It} (h : a.le b) (hne : a.s ≠ b.s) : a.bf b := by unfold It.le at h; unfold It.bf; omega
theorem Sorts.next {f : Nat → Int} {n k : Nat} {l : List It} {last : It} (h : Sorts f n k l last) (hk : 0 < l.length) : Sorts f n (k + 1) (rm l 0) (g l 0) := by
  obtain ⟨r1, r2, r3⟩ := rm_spec l 0 hk h.ord
  have hsub : ∀ y ∈ rm l 0, y ∈ l := fun y hy => r2.symm.subset (List.mem_cons_of_mem _ hy)
  have hnd : (((g l 0) :: rm l 0).map (·.s)).Nodup := (r2.map _).nodup_iff.1 h.nodup
  rw [List.map_cons, List.nodup_cons] at hnd
  refine ⟨r1, fun y hy => h.mem y (hsub y hy), hnd.2, by have := h.len; omega, .inr fun y hy => ?_⟩
  exact bf_of (root_le_mem l h.ord y (hsub y hy)) (fun e => hnd.1 (by rw [e]; exact List.mem_map_of_mem hy))
end Go.Proofs.Ythlllcmffgdcmab.HeapPlain

/- A heap beside a list in order: whoever is pushed, cancelled and woken, both hold the same items. No program in sight. -/
import Derived.Test.YthlllcmffgdcmabHeapGone
namespace Go.Proofs.Ythlllcmffgdcmab.HeapPlain
set_option linter.unusedVariables false
set_option linter.unusedSimpArgs false

theorem same_num : ∀ (l : List It), (l.map (·.s)).Nodup → ∀ a ∈ l, ∀ b ∈ l, a.s = b.s → a = b := by
  intro l
  induction l with
  | nil => intro _ a ha; cases ha
  | cons c l ih =>
    intro h a ha b hb e
    rw [List.map_cons, List.nodup_cons] at h
    rcases List.mem_cons.1 ha with ea | ha2
    · rcases List.mem_cons.1 hb with eb | hb2
      · rw [ea, eb]
      · exact absurd (by rw [← ea, e]; exact List.mem_map_of_mem hb2) h.1
    · rcases List.mem_cons.1 hb with eb | hb2
      · exact absurd (by rw [← eb, ← e]; exact List.mem_map_of_mem ha2) h.1
      · exact ih h.2 a ha2 b hb2 e

/-- One more, ahead of the first that is later. -/
def ins : List It → It → List It
  | [], y => [y]
  | a :: x, y => if y.t < a.t then y :: a :: x else a :: ins x y
theorem ins_perm (x : List It) (y : It) : (ins x y).Perm (y :: x) := by
  induction x with
  | nil => exact List.Perm.refl _
  | cons a x ih =>
    unfold ins
    split
    · exact List.Perm.refl _
    · exact (List.Perm.cons _ ih).trans (List.Perm.swap _ _ _)
theorem ins_len (x : List It) (y : It) : (ins x y).length = x.length + 1 := by rw [(ins_perm x y).length_eq]; rfl
theorem ins_sorted (x : List It) (y : It) (h : x.Pairwise It.le) (hs : ∀ a ∈ x, a.s < y.s) : (ins x y).Pairwise It.le := by
  induction x with
  | nil => exact List.pairwise_singleton _ _
  | cons a x ih =>
    rw [List.pairwise_cons] at h
    unfold ins
    split
    · rename_i hlt
      refine List.pairwise_cons.2 ⟨fun b hb => ?_, List.pairwise_cons.2 h⟩
      rcases List.mem_cons.1 hb with rfl | hb
      · exact .inl hlt
      · have := h.1 b hb
        unfold It.le at *
        omega
    · rename_i hlt
      refine List.pairwise_cons.2 ⟨fun b hb => ?_, ih h.2 fun b hb => hs b (List.mem_cons_of_mem _ hb)⟩
      rcases List.mem_cons.1 ((ins_perm x y).subset hb) with rfl | hb
      · have := hs a (List.mem_cons_self ..)
        unfold It.le
        omega
      · exact h.1 b hb
/-- Without one. -/
def del (x : List It) (s : Int) : List It := x.filter fun y => y.s != s
/-- Those that wake; those that don't. -/
def wk (x : List It) (now : Int) : List It := x.takeWhile fun y => decide (y.t ≤ now)
def nw (x : List It) (now : Int) : List It := x.dropWhile fun y => decide (y.t ≤ now)

/-- A heap, and the list in order. -/
structure Pl (l x : List It) (sq : Int) : Prop where
  ord : H l
  perm : l.Perm x
  sorted : x.Pairwise It.le
  small : ∀ a ∈ x, a.s < sq
  nodup : (x.map (·.s)).Nodup
theorem Pl.start : Pl [] [] 0 := ⟨H_nil, List.Perm.refl _, List.Pairwise.nil, fun _ h => by (cases h), by simp⟩
theorem Pl.len {l x : List It} {sq : Int} (h : Pl l x sq) : l.length = x.length := h.perm.length_eq
theorem Pl.uniq {l x os : List It} {sq : Int} (h : Pl l x sq) (hp : os.Perm l) (hs : os.Pairwise It.le) : os = x :=
  HeapPlain.uniq os x (hp.trans h.perm) hs h.sorted fun a ha b hb _ e => same_num x h.nodup a ((hp.trans h.perm).subset ha) b ((hp.trans h.perm).subset hb) e
theorem Pl.push {l x : List It} {sq : Int} (h : Pl l x sq) (t d : Int) : Pl (psh l ⟨t, sq, d⟩) (ins x ⟨t, sq, d⟩) (sq + 1) := by
  obtain ⟨r1, r2, r3⟩ := psh_spec l ⟨t, sq, d⟩ h.ord
  refine ⟨r1, (r2.trans (List.Perm.cons _ h.perm)).trans (ins_perm _ _).symm, ins_sorted _ _ h.sorted h.small, fun a ha => ?_, ?_⟩
  · rcases List.mem_cons.1 ((ins_perm _ _).subset ha) with rfl | ha
    · show sq < sq + 1; omega
    · have := h.small a ha; omega
  · refine ((ins_perm x ⟨t, sq, d⟩).map (·.s)).nodup_iff.2 ?_
    rw [List.map_cons, List.nodup_cons]
    refine ⟨fun hm => ?_, h.nodup⟩
    obtain ⟨a, ha, e⟩ := List.mem_map.1 hm
    have := h.small a ha
    have e2 : a.s = sq := e
    omega
theorem del_none {x : List It} {s : Int} (h : ∀ a ∈ x, a.s ≠ s) : del x s = x := by
  unfold del
  rw [List.filter_eq_self]
  intro a ha
  exact bne_iff_ne.2 (h a ha)
theorem del_perm : ∀ {x : List It}, (x.map (·.s)).Nodup → ∀ a ∈ x, x.Perm (a :: del x a.s) := by
  intro x
  induction x with
  | nil => intro _ a ha; cases ha
  | cons c x ih =>
    intro h a ha
    rw [List.map_cons, List.nodup_cons] at h
    rcases List.mem_cons.1 ha with rfl | ha
    · have e : del (a :: x) a.s = x := by
        unfold del
        rw [List.filter_cons, if_neg (by simp)]
        exact del_none fun b hb e => h.1 (e ▸ List.mem_map_of_mem hb)
      rw [e]
    · have hne : c.s ≠ a.s := fun e => h.1 (by rw [e]; exact List.mem_map_of_mem ha)
      have e : del (c :: x) a.s = c :: del x a.s := by
        unfold del
        rw [List.filter_cons, if_pos (bne_iff_ne.2 hne)]
      rw [e]
      exact (List.Perm.cons _ (ih h.2 a ha)).trans (List.Perm.swap _ _ _)
theorem Pl.yes {l x : List It} {sq s : Int} (h : Pl l x sq) {k : Nat} (hk : k < l.length) (hs : (g l k).s = s) : Pl (rm l k) (del x s) sq ∧ (del x s).length < x.length := by
  obtain ⟨r1, r2, r3⟩ := rm_spec l k hk h.ord
  have hm : g l k ∈ x := h.perm.subset (g_mem l k hk)
  have hp := del_perm h.nodup _ hm
  rw [hs] at hp
  refine ⟨⟨r1, ((r2.symm.trans h.perm).trans hp).cons_inv, List.Pairwise.filter _ h.sorted, fun a ha => h.small a (List.mem_filter.1 ha).1, ?_⟩, ?_⟩
  · have := (hp.map (·.s)).nodup_iff.1 h.nodup
    rw [List.map_cons, List.nodup_cons] at this
    exact this.2
  · have := hp.length_eq
    rw [List.length_cons] at this
    omega
theorem Pl.no {l x : List It} {sq s : Int} (h : Pl l x sq) (hs : ∀ k, k < l.length → (g l k).s ≠ s) : del x s = x := by
  refine del_none fun a ha e => ?_
  obtain ⟨k, hk, he⟩ := List.getElem_of_mem (h.perm.symm.subset ha)
  apply hs k hk
  unfold g
  rw [List.getD_eq_getElem?_getD, List.getElem?_eq_getElem hk, Option.getD_some, he]
  exact e
theorem split_at {now : Int} : ∀ (a b : List It), (∀ o ∈ a, o.t ≤ now) → (∀ y ∈ b, now < y.t) → wk (a ++ b) now = a ∧ nw (a ++ b) now = b := by
  intro a
  induction a with
  | nil =>
    intro b _ hb
    rcases b with _ | ⟨c, b⟩
    · exact ⟨rfl, rfl⟩
    · have hc := hb c (List.mem_cons_self ..)
      have q : decide (c.t ≤ now) = false := decide_eq_false (by omega)
      unfold wk nw
      simp [List.takeWhile_cons, List.dropWhile_cons, q]
  | cons c a ih =>
    intro b ha hb
    have hc := ha c (List.mem_cons_self ..)
    have q : decide (c.t ≤ now) = true := decide_eq_true hc
    obtain ⟨r1, r2⟩ := ih b (fun o ho => ha o (List.mem_cons_of_mem _ ho)) hb
    unfold wk nw at *
    simp only [List.cons_append, List.takeWhile_cons, List.dropWhile_cons, q, if_true, r1, r2, and_self]
/-- A list in order, for what may be in any. -/
theorem sorted_of : ∀ (l : List It), ∃ m : List It, m.Perm l ∧ m.Pairwise It.le := by
  intro l
  induction l with
  | nil => exact ⟨[], List.Perm.refl _, List.Pairwise.nil⟩
  | cons a l ih =>
    obtain ⟨m, hp, hs⟩ := ih
    have key : ∀ m : List It, m.Pairwise It.le → ∃ k : List It, k.Perm (a :: m) ∧ k.Pairwise It.le := by
      intro m
      induction m with
      | nil => intro _; exact ⟨[a], List.Perm.refl _, List.pairwise_singleton _ _⟩
      | cons b m ih2 =>
        intro hs
        rw [List.pairwise_cons] at hs
        by_cases h : a.le b
        · refine ⟨a :: b :: m, List.Perm.refl _, List.pairwise_cons.2 ⟨fun c hc => ?_, List.pairwise_cons.2 hs⟩⟩
          rcases List.mem_cons.1 hc with rfl | hc
          · exact h
          · exact le_tr h (hs.1 c hc)
        · obtain ⟨k, k1, k2⟩ := ih2 hs.2
          refine ⟨b :: k, (List.Perm.cons _ k1).trans (List.Perm.swap _ _ _), List.pairwise_cons.2 ⟨fun c hc => ?_, k2⟩⟩
          rcases List.mem_cons.1 (k1.subset hc) with rfl | hc
          · exact le_of_bf ((bf_iff _ _).2 h)
          · exact hs.1 c hc
    obtain ⟨k, k1, k2⟩ := key m hs
    exact ⟨k, k1.trans (List.Perm.cons _ hp), k2⟩
theorem Pl.wake {l x os l' : List It} {sq now : Int} (h : Pl l x sq) (ho : H l') (hp : (os ++ l').Perm l) (hs : os.Pairwise It.le) (hsm : ∀ o ∈ os, o.t ≤ now) (hb : ∀ y ∈ l', now < y.t) : os = wk x now ∧ Pl l' (nw x now) sq := by
  obtain ⟨m, m1, m2⟩ := sorted_of l'
  have e : os ++ m = x := by
    refine h.uniq ((List.Perm.append_left os m1).trans hp) (List.pairwise_append.2 ⟨hs, m2, fun a ha b hb' => ?_⟩)
    have h1 := hsm a ha
    have h2 := hb b (m1.subset hb')
    unfold It.le
    omega
  obtain ⟨r1, r2⟩ := split_at os m hsm fun y hy => hb y (m1.subset hy)
  rw [e] at r1 r2
  refine ⟨r1.symm, ?_⟩
  rw [r2]
  have hn := h.nodup
  rw [← e, List.map_append] at hn
  exact ⟨ho, m1.symm, m2, fun a ha => h.small a (by rw [← e]; exact List.mem_append_right _ ha), (List.nodup_append.1 hn).2.1⟩
theorem Pl.least {l x : List It} {sq : Int} (h : Pl l x sq) (hl : 0 < l.length) : g l 0 = g x 0 := by
  have h0 := g_mem l 0 hl
  have h1 : g x 0 ∈ x := g_mem x 0 (by rw [← h.len]; exact hl)
  have h2 := root_le_mem l h.ord _ (h.perm.symm.subset h1)
  have h3 : (g x 0).le (g l 0) := by
    have hm := h.perm.subset h0
    have hs := h.sorted
    generalize g l 0 = a at hm
    rcases x with _ | ⟨b, x⟩
    · cases hm
    · rw [List.pairwise_cons] at hs
      rcases List.mem_cons.1 hm with rfl | hm
      · exact le_rfl' _
      · exact hs.1 a hm
  exact same_num x h.nodup _ (h.perm.subset h0) _ h1 (le_anti h2 h3).2
end Go.Proofs.Ythlllcmffgdcmab.HeapPlain

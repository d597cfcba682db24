import Derived.Test.YthdnlhcepndncaaPLebReadsx0
namespace Go.Proofs.Ythdnlhcepndncaa.Stores
open Go.RowKit Go.Proofs.YthdnlhcepndncaaW.PrintWords Go.Proofs.YthdnlhcepndncaaW.PrintLast Go.Proofs.YthdnlhcepndncaaW.PrintMore
set_option linter.unusedVariables false
set_option linter.unusedSimpArgs false

/-- A store in memory: its bytes, how many are safe, the room, the calls ahead of a cut, whether it was cut; from block B on. -/
def IsStore (B : Nat) (w : World) (g : Nat) (xs : List Int) (safe room left : Int) (dead : Bool) : Prop :=
  B ≤ g ∧ ∃ v : Value, w.heap[g]? = some (.cells #[v, .int .i64 safe, .int .i64 room, .int .i64 left, .bool dead] 86 (0, 0)) ∧ w.ownsRow B 5 1 v xs.length (nums .u8 xs)

theorem new_calls (B : Nat) (room : Int) (hr : 0 ≤ room) (w : World) (hB : B ≤ w.heap.size) : Calls Try.prog 40 #[.int .i64 room] w fun e w' => ∃ g, e = .returned (.pointer (some ⟨g, 0, none⟩)) ∧ IsStore B w' g [] 0 room (-1) false ∧ Below w.heap.size w w' := by
  have hm : max room 0 = room := by omega
  go_enter Try.func40, Try.ntmps40
  go_wp2
  go_ret
  exact ⟨_, rfl, ⟨hB, .slice none 0 0, by simpa using blk_new w _, own_nil _ _ _ _⟩, below_alloc (Below.refl _ _) _⟩

/-- What a call that writes answers and leaves. -/
def cE (left : Int) (dead : Bool) : Int := if dead = true ∨ left = 0 then 8 else 0
def cL (left : Int) (dead : Bool) : Int := if dead = true ∨ left ≤ 0 then left else left - 1
def cD (left : Int) (dead : Bool) : Bool := dead || decide (left = 0)

set_option maxHeartbeats 4000000 in
set_option maxRecDepth 100000 in
theorem call_calls (B g : Nat) (xs : List Int) (safe room left : Int) (dead : Bool) (w : World) (h : IsStore B w g xs safe room left dead) (hl : left ≤ 9223372036854775807) (hB : B ≤ w.heap.size) :
    Calls Try.prog 51 #[.pointer (some ⟨g, 0, none⟩)] w fun e w' => e = .returned (.int .i64 (cE left dead)) ∧ IsStore B w' g xs safe room (cL left dead) (cD left dead) ∧ Below B w w' := by
  have HS := Aside0.mk h
  obtain ⟨hg, v, hb, ho⟩ := h
  have c3 : w.cell? ⟨g, 3, none⟩ = some (.int .i64 left) := (blk_cell hb 3).trans rfl
  have c4 : w.cell? ⟨g, 4, none⟩ = some (.bool dead) := (blk_cell hb 4).trans rfl
  have f3 := blk_frozen hb 3
  have f4 := blk_frozen hb 4
  have HB := Aside0.mk hb
  have HO := Aside0.mk ho
  have HN := Aside0.mk (own_ne HO.out HB.out (by decide))
  clear hb ho
  cases dead with
  | true =>
    rw [show cE left true = 8 from if_pos (Or.inl rfl), show cL left true = left from if_pos (Or.inl rfl), show cD left true = true from rfl]
    go_enter Try.func51, Try.ntmps51
    go_wp2
    go_ret
    exact ⟨rfl, ⟨hg, v, by simpa using blk_set HB.out 4 _, own_setCell HO.out HN.out _⟩, (Below.refl _ _).setCell hg _⟩
  | false =>
    by_cases h0 : left = 0
    · subst h0
      rw [show cE 0 false = 8 from rfl, show cL 0 false = 0 from rfl, show cD 0 false = true from rfl]
      go_enter Try.func51, Try.ntmps51
      go_wp2
      go_ret
      exact ⟨rfl, ⟨hg, v, by simpa using blk_set HB.out 4 _, own_setCell HO.out HN.out _⟩, (Below.refl _ _).setCell hg _⟩
    · rw [show cE left false = 0 from if_neg (by simp [h0]), show cD left false = false by simp [cD, h0]]
      have p1 : (left == 0) = false := by simpa using h0
      by_cases h1 : 0 < left
      · rw [show cL left false = left - 1 from if_neg (by simp; omega)]
        have p2 : decide (0 < left) = true := decide_eq_true h1
        have HW := Aside0.mk (show wrap64 (left - 1) = left - 1 by simp only [wrap64]; omega)
        clear h0
        go_enter Try.func51, Try.ntmps51
        go_wp2
        go_ret
        exact ⟨rfl, ⟨hg, v, by simpa [HW.out] using blk_set HB.out 3 _, own_setCell HO.out HN.out _⟩, (Below.refl _ _).setCell hg _⟩
      · rw [show cL left false = left from if_pos (Or.inr (by omega))]
        have p2 : decide (0 < left) = false := decide_eq_false h1
        clear h0 h1
        go_enter Try.func51, Try.ntmps51
        go_wp2
        go_ret
        exact ⟨rfl, HS.out, Below.refl _ _⟩
end Go.Proofs.Ythdnlhcepndncaa.Stores

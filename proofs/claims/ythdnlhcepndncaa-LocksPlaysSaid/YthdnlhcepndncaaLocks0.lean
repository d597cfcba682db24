import Derived.Test.YthdnlhcepndncaaPLebReadsx0
namespace Go.Proofs.Ythdnlhcepndncaa.Locks
open Go.RowKit Go.Proofs.YthdnlhcepndncaaW.PrintWords Go.Proofs.YthdnlhcepndncaaW.PrintLast Go.Proofs.YthdnlhcepndncaaW.PrintMore
set_option linter.unusedVariables false
set_option linter.unusedSimpArgs false

theorem info3 : (Try.prog.info? 3).map (fun i => (i.zero, i.size, i.bytes)) = some (some (.int .i64 0), 1, 8) := by kernel_rfl

/-- A lock in memory: who has it, who waits; from block B on. -/
def IsLock (B : Nat) (w : World) (g : Nat) (o : Int) (ws : List Int) : Prop :=
  B ≤ g ∧ ∃ v : Value, w.heap[g]? = some (.cells #[.int .i64 o, v] 80 (0, 0)) ∧ w.ownsRow B 3 1 v ws.length (nums .i64 ws)

theorem new_calls (B : Nat) (w : World) (hB : B ≤ w.heap.size) : Calls Try.prog 16 #[] w fun e w' => ∃ g, e = .returned (.pointer (some ⟨g, 0, none⟩)) ∧ IsLock B w' g (-1) [] ∧ Below w.heap.size w w' := by
  go_enter Try.func16, Try.ntmps16
  go_wp2
  go_ret
  exact ⟨_, rfl, ⟨hB, .slice none 0 0, by simpa using blk_new w _, own_nil _ _ _ _⟩, below_alloc (Below.refl _ _) _⟩

set_option maxHeartbeats 4000000 in
set_option maxRecDepth 100000 in
theorem take_calls (B g : Nat) (o x : Int) (ws : List Int) (w : World) (h : IsLock B w g o ws) (hl : ws.length ≤ 1000) (hB : B ≤ w.heap.size) :
    Calls Try.prog 17 #[.pointer (some ⟨g, 0, none⟩), .int .i64 x] w fun e w' => e = .returned (.bool (o == -1)) ∧ IsLock B w' g (if o = -1 then x else o) (if o = -1 then ws else ws ++ [x]) ∧ Below B w w' := by
  obtain ⟨hg, v, hb, ho⟩ := h
  have c0 : w.cell? ⟨g, 0, none⟩ = some (.int .i64 o) := (blk_cell hb 0).trans rfl
  have c1 : w.cell? ⟨g, 1, none⟩ = some v := (blk_cell hb 1).trans rfl
  have f0 := blk_frozen hb 0
  have f1 := blk_frozen hb 1
  have HB := Aside0.mk hb
  have HO := Aside0.mk ho
  clear hb ho
  by_cases h1 : o = -1
  · subst h1
    go_enter Try.func17, Try.ntmps17
    go_wp2
    go_ret
    exact ⟨rfl, ⟨hg, v, by simpa using blk_set HB.out 0 (.int .i64 x), own_setCell HO.out (own_ne HO.out HB.out (by decide)) _⟩, (Below.refl _ _).setCell hg _⟩
  · have hb1 : (o != -1) = true := by simpa using h1
    have hb2 : (o == -1) = false := by simpa using h1
    have e1 := Aside0.mk (if_neg h1 : (if o = -1 then x else o) = o)
    have e2 := Aside0.mk (if_neg h1 : (if o = -1 then ws else ws ++ [x]) = ws ++ [x])
    rw [e1.out, e2.out, hb2]
    clear h1 hb2
    go_enter Try.func17, Try.ntmps17
    go_wp2_with (first | (at_builtin; refine print_append_num (w0 := w) B rfl _ _ 32 3 .i64 8 rfl Try.underlying32 info3 (by decide) v ws x rfl rfl HO.out (Below.refl _ _) hB (by omega) ?_; intro v1 w1 hown hbel hgr hat; have hne := own_ne HO.out HB.out (by decide); have HB1 := Aside0.mk (blk_grown HB.out hgr hne); have HO1 := Aside0.mk hown; have HL1 := Aside0.mk hbel; clear c0 c1 f0 f1 hat hne hbel hgr; obtain ⟨A1, c1, rfl⟩ := own_slice hown; clear hown; have d1 := (blk_cell HB1.out 1).trans rfl; have f1 := blk_frozen HB1.out 1))
    go_ret
    exact ⟨rfl, ⟨hg, _, by simpa using blk_set HB1.out 1 _, own_setCell HO1.out (own_ne HO1.out HB1.out (by decide)) _⟩, HL1.out.setCell hg _⟩
end Go.Proofs.Ythdnlhcepndncaa.Locks

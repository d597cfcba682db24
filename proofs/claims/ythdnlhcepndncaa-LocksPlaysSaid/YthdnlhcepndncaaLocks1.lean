import Derived.Test.YthdnlhcepndncaaLocks0
namespace Go.Proofs.Ythdnlhcepndncaa.Locks
open Go.RowKit Go.Proofs.YthdnlhcepndncaaW.PrintWords Go.Proofs.YthdnlhcepndncaaW.PrintLast Go.Proofs.YthdnlhcepndncaaW.PrintMore
set_option linter.unusedVariables false
set_option linter.unusedSimpArgs false

theorem owner_calls (B g : Nat) (o : Int) (ws : List Int) (w : World) (h : IsLock B w g o ws) :
    Calls Try.prog 18 #[.pointer (some ⟨g, 0, none⟩)] w fun e w' => e = .returned (.int .i64 o) ∧ w' = w := by
  obtain ⟨hg, v, hb, ho⟩ := h
  have c0 : w.cell? ⟨g, 0, none⟩ = some (.int .i64 o) := (blk_cell hb 0).trans rfl
  clear hb ho
  go_enter Try.func18, Try.ntmps18
  go_wp2
  go_ret
  exact ⟨rfl, rfl⟩

/-- What Give answers and leaves. -/
def gN (o x : Int) (ws : List Int) : Int := if o = -1 ∨ o ≠ x then -1 else ws.headD (-1)
def gE (o x : Int) : Int := if o = -1 ∨ o ≠ x then 5 else 0
def gO (o x : Int) (ws : List Int) : Int := if o = -1 ∨ o ≠ x then o else ws.headD (-1)
def gW (o x : Int) (ws : List Int) : List Int := if o = -1 ∨ o ≠ x then ws else ws.tail
theorem g_no {o x : Int} (ws : List Int) (h : o = -1 ∨ o ≠ x) : gN o x ws = -1 ∧ gE o x = 5 ∧ gO o x ws = o ∧ gW o x ws = ws := ⟨if_pos h, if_pos h, if_pos h, if_pos h⟩
theorem g_yes {o : Int} (ws : List Int) (h : ¬ o = -1) : gN o o ws = ws.headD (-1) ∧ gE o o = 0 ∧ gO o o ws = ws.headD (-1) ∧ gW o o ws = ws.tail :=
  have hh : ¬ (o = -1 ∨ o ≠ o) := by simp [h]
  ⟨if_neg hh, if_neg hh, if_neg hh, if_neg hh⟩

theorem info3' : ∃ i, Try.prog.info? 3 = some i ∧ i.size = 1 := by
  have := info3
  rw [Option.map_eq_some_iff] at this
  obtain ⟨i, hi, h⟩ := this
  simp only [Prod.mk.injEq] at h
  exact ⟨i, hi, h.2.1⟩

set_option maxHeartbeats 4000000 in
set_option maxRecDepth 100000 in
theorem give_calls (B g : Nat) (o x : Int) (ws : List Int) (w : World) (h : IsLock B w g o ws) (hl : ws.length ≤ 1000) (hB : B ≤ w.heap.size) :
    Calls Try.prog 19 #[.pointer (some ⟨g, 0, none⟩), .int .i64 x] w fun e w' =>
      e = .returned (.tuple #[.int .i64 (gN o x ws), .int .i64 (gE o x)]) ∧ IsLock B w' g (gO o x ws) (gW o x ws) ∧ Below B w w' := by
  have HL := h
  obtain ⟨hg, v, hb, ho⟩ := h
  have c0 : w.cell? ⟨g, 0, none⟩ = some (.int .i64 o) := (blk_cell hb 0).trans rfl
  have c1 : w.cell? ⟨g, 1, none⟩ = some v := (blk_cell hb 1).trans rfl
  have f0 := blk_frozen hb 0
  have f1 := blk_frozen hb 1
  have HB := Aside0.mk hb
  have HO := Aside0.mk ho
  have HL := Aside0.mk HL
  clear hb ho
  by_cases h1 : o = -1
  · subst h1
    obtain ⟨e1, e2, e3, e4⟩ := g_no (x := x) ws (Or.inl rfl)
    rw [e1, e2, e3, e4]
    clear e1 e2 e3 e4
    go_enter Try.func19, Try.ntmps19
    go_wp2
    go_ret2
    exact ⟨rfl, HL.out, Below.refl _ _⟩
  · by_cases h2 : o = x
    · subst h2
      obtain ⟨e1, e2, e3, e4⟩ := g_yes ws h1
      rw [e1, e2, e3, e4]
      clear e1 e2 e3 e4
      have hb2 : (o == -1) = false := by simpa using h1
      clear h1
      cases ws with
      | nil =>
        simp only [List.headD_nil, List.tail_nil]
        obtain ⟨A1, c1_, rfl⟩ := own_slice HO.out
        go_enter Try.func19, Try.ntmps19
        go_wp2
        go_ret2
        exact ⟨rfl, ⟨hg, _, by simpa using blk_set HB.out 0 _, own_setCell HO.out (own_ne HO.out HB.out (by decide)) _⟩, (Below.refl _ _).setCell hg _⟩
      | cons y tl =>
        simp only [List.headD_cons, List.tail_cons]
        obtain ⟨A1, c1_, rfl, hle, hr⟩ := own_reads_of_le (enc := Value.int .i64) (d := (0:Int)) HO.out
        have hne := own_ne HO.out HB.out (by decide)
        obtain ⟨g2, cap, he, hgb, hgl⟩ := HO.out.form (by simp)
        injection he with he1 he2 he3
        subst he1
        subst he3
        have hn1 : g2 ≠ g := by
          intro hh
          exact hne (by simp [Value.ownBlock, hh])
        obtain ⟨ad, hA, hc⟩ := hr.2.2 (by simp)
        obtain rfl := Option.some.inj hA
        have k0 : w.cell? (⟨g2, 0, none⟩) = some (.int .i64 y) := hc 0 (by simp)
        clear hc hA
        have HR := Aside0.mk hr
        clear hr
        obtain ⟨i3, hi3, hs3⟩ := info3'
        obtain ⟨A', hd, hdr, hdl⟩ := print_drop_of (P := Try.prog) (Value.int .i64) (0 : Int) 32 3 .i64 Try.underlying32 hi3 hs3 (some ⟨g2, 0, none⟩) c1_ (y :: tl) 1 (by omega) (by simp; omega) hle
        simp only [Int.toNat_one, List.drop_succ_cons, List.drop_zero] at hd hdr hdl
        simp only [List.length_cons] at hd
        have hb1 : ((w.setCell ⟨g, 0, none⟩ (.int .i64 (-1))).setCell ⟨g, 0, none⟩ (.int .i64 y)).heap[g]? = some (.cells #[.int .i64 y, .slice (some ⟨g2, 0, none⟩) (y :: tl).length c1_] 80 (0, 0)) := by simpa using blk_set (blk_set HB.out 0 (.int .i64 (-1))) 0 (.int .i64 y)
        have hbl1 : Below B w ((w.setCell ⟨g, 0, none⟩ (.int .i64 (-1))).setCell ⟨g, 0, none⟩ (.int .i64 y)) := ((Below.refl _ _).setCell hg _).setCell hg _
        have how1 : ((w.setCell ⟨g, 0, none⟩ (.int .i64 (-1))).setCell ⟨g, 0, none⟩ (.int .i64 y)).ownsRow B 3 1 (.slice (some ⟨g2, 0, none⟩) (y :: tl).length c1_) (y :: tl).length (nums .i64 (y :: tl)) :=
          own_setCell (own_setCell HO.out (own_ne HO.out HB.out (by decide)) _) (own_ne HO.out HB.out (by decide)) _
        have hb2 := blk_alloc hb1 (.cells #[] 3)
        have hr2 := hdr _ (own_reads_of' (enc := Value.int .i64) (d := (0:Int)) (how1.alloc (.cells #[] 3)))
        have ho2 : (((w.setCell ⟨g, 0, none⟩ (.int .i64 (-1))).setCell ⟨g, 0, none⟩ (.int .i64 y)).alloc (.cells #[] 3)).ownsRow B 3 1 (.slice (some ⟨w.heap.size, 0, none⟩) 0 0) ([] : List Int).length (nums .i64 []) := by simpa [nums] using own_lit ((w.setCell ⟨g, 0, none⟩ (.int .i64 (-1))).setCell ⟨g, 0, none⟩ (.int .i64 y)) B 3 .i64 [] (by simp; exact hB) (by simp)
        have hbl2 := hbl1.alloc (by simp; exact hB) (.cells #[] 3)
        have k1 : (((w.setCell ⟨g, 0, none⟩ (.int .i64 (-1))).setCell ⟨g, 0, none⟩ (.int .i64 y)).alloc (.cells #[] 3)).cell? ⟨g, 1, none⟩ = some (.slice (some ⟨g2, 0, none⟩) (tl.length + 1) c1_) := (blk_cell hb2 1).trans rfl
        have kf := blk_frozen hb2 1
        have HB1 := Aside0.mk hb2
        have HR2 := Aside0.mk hr2
        have HO2 := Aside0.mk ho2
        have HL2 := Aside0.mk hbl2
        clear hb1 hbl1 how1 hb2 hr2 ho2 hbl2 hdr hdl HR
        go_enter Try.func19, Try.ntmps19
        go_wp2_with (first | (at_builtin; go_loud (refine print_append_row (w0 := w) B rfl _ _ 32 3 .i64 8 rfl Try.underlying32 info3 (by decide) _ [] tl A' _ _ rfl rfl HO2.out (readsInt_of.2 HR2.out) HL2.out (by simp; omega) (by simp at hl ⊢; omega) ?_; intro v1 w1 hown hbel hgr hat; have HB3 := Aside0.mk (blk_grown HB1.out hgr (own_ne HO2.out HB1.out (by decide))); have HO3 := Aside0.mk hown; have HL3 := Aside0.mk hbel; clear c0 c1 f0 f1 k0 k1 kf hat hbel hgr; obtain ⟨A1, c3_, rfl⟩ := own_slice hown; clear hown; have f1 := blk_frozen HB3.out 1; have d1 := (blk_cell HB3.out 1).trans rfl; have d0 : w1.cell? ⟨g, 0, none⟩ = some (.int .i64 y) := (blk_cell HB3.out 0).trans rfl)))
        go_ret2
        exact ⟨rfl, ⟨hg, _, by simpa using blk_set HB3.out 1 _, own_setCell HO3.out (own_ne HO3.out HB3.out (by decide)) _⟩, HL3.out.setCell hg _⟩
    · obtain ⟨e1, e2, e3, e4⟩ := g_no (x := x) ws (Or.inr h2)
      rw [e1, e2, e3, e4]
      clear e1 e2 e3 e4
      have hb2 : (o == -1) = false := by simpa using h1
      have hb3 : (o != x) = true := by simpa using h2
      clear h1 h2
      go_enter Try.func19, Try.ntmps19
      go_wp2
      go_ret2
      exact ⟨rfl, HL.out, Below.refl _ _⟩
end Go.Proofs.Ythdnlhcepndncaa.Locks

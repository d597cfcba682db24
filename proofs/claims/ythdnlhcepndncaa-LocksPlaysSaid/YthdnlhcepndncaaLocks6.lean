import Derived.Test.YthdnlhcepndncaaLocks4
import Derived.Deep.RegionHeld3
import Derived.StillTailTactics
namespace Go.Proofs.Ythdnlhcepndncaa.Locks
open Go.RowKit Go.Proofs.YthdnlhcepndncaaW.PrintWords Go.Proofs.YthdnlhcepndncaaW.PrintLast Go.Proofs.YthdnlhcepndncaaW.PrintMore
set_option linter.unusedVariables false
set_option linter.unusedSimpArgs false

/-- A lock in memory, its row named. -/
def LockV (B : Nat) (w : World) (g : Nat) (o : Int) (ws : List Int) (v : Value) : Prop :=
  B ≤ g ∧ w.heap[g]? = some (.cells #[.int .i64 o, v] 80 (0, 0)) ∧ w.ownsRow B 3 1 v ws.length (nums .i64 ws)
theorem LockV.is {B g : Nat} {w : World} {o : Int} {ws : List Int} {v : Value} (h : LockV B w g o ws v) : IsLock B w g o ws := ⟨h.1, v, h.2.1, h.2.2⟩
theorem LockV.drew {B g : Nat} {w : World} {o : Int} {ws : List Int} {v : Value} (h : LockV B w g o ws v) : LockV B w.drew g o ws v := h
theorem LockV.drewN {B g : Nat} {w : World} {o : Int} {ws : List Int} {v : Value} (h : LockV B w g o ws v) (n : Nat) : LockV B (w.drewN n) g o ws v := h
/-- Where a row lies that was written anew: where it was, or it is new. -/
def RowNext (w : World) (v v' : Value) : Prop := v'.ownBlock = v.ownBlock ∨ ∃ b, v'.ownBlock = some b ∧ w.heap.size ≤ b
/-- What a call leaves that writes in a lock alone. -/
def Stepped (B : Nat) (w w' : World) (g : Nat) (o : Int) (ws : List Int) (v : Value) : Prop :=
  ∃ v', LockV B w' g o ws v' ∧ Below B w w' ∧ KeepBut w w' g v.ownBlock ∧ RowNext w v v'
theorem next_new {w W : World} {u v v1 : Value} (hat : v1.ownBlock = u.ownBlock ∨ ∃ b, v1.ownBlock = some b ∧ W.heap.size ≤ b) (hu : u.ownBlock = some w.heap.size) (hs : w.heap.size ≤ W.heap.size) : RowNext w v v1 := by
  rcases hat with h | ⟨b, h, hb⟩
  · exact .inr ⟨_, h.trans hu, Nat.le_refl _⟩
  · exact .inr ⟨b, h, Nat.le_trans hs hb⟩

set_option maxHeartbeats 4000000 in
set_option maxRecDepth 100000 in
theorem take_v (B g : Nat) (o x : Int) (ws : List Int) (v : Value) (w : World) (h : LockV B w g o ws v) (hl : ws.length ≤ 1000) (hB : B ≤ w.heap.size) :
    Calls Try.prog 17 #[.pointer (some ⟨g, 0, none⟩), .int .i64 x] w fun e w' => e = .returned (.bool (o == -1)) ∧ Stepped B w w' g (if o = -1 then x else o) (if o = -1 then ws else ws ++ [x]) v := by
  obtain ⟨hg, hb, ho⟩ := h
  have c0 : w.cell? ⟨g, 0, none⟩ = some (.int .i64 o) := (blk_cell hb 0).trans rfl
  have c1 : w.cell? ⟨g, 1, none⟩ = some v := (blk_cell hb 1).trans rfl
  have f0 := blk_frozen hb 0
  have f1 := blk_frozen hb 1
  have HB := Aside0.mk hb
  have HO := Aside0.mk ho
  clear hb ho
  by_cases h1 : o = -1
  · subst h1
    go_enter Try.func17, Try.ntmps17
    go_wp2
    go_ret
    exact ⟨rfl, v, ⟨hg, by simpa using blk_set HB.out 0 (.int .i64 x), own_setCell HO.out (own_ne HO.out HB.out (by decide)) _⟩, (Below.refl _ _).setCell hg _, (KeepBut.refl _ _ _).set_ 0 _, .inl rfl⟩
  · have hb1 : (o != -1) = true := by simpa using h1
    have hb2 : (o == -1) = false := by simpa using h1
    have e1 := Aside0.mk (if_neg h1 : (if o = -1 then x else o) = o)
    have e2 := Aside0.mk (if_neg h1 : (if o = -1 then ws else ws ++ [x]) = ws ++ [x])
    rw [e1.out, e2.out, hb2]
    clear h1 hb2
    go_enter Try.func17, Try.ntmps17
    go_wp2_with (first | (at_builtin; refine print_append_num (w0 := w) B rfl _ _ 32 3 .i64 8 rfl Try.underlying32 info3 (by decide) v ws x rfl rfl HO.out (Below.refl _ _) hB (by omega) ?_; intro v1 w1 hown hbel hgr hat; have hne := own_ne HO.out HB.out (by decide); have HB1 := Aside0.mk (blk_grown HB.out hgr hne); have HO1 := Aside0.mk hown; have HL1 := Aside0.mk hbel; have HM1 := Aside0.mk (KeepBut.of_grown hgr g); have HN1 := Aside0.mk hat; clear c0 c1 f0 f1 hat hne hbel hgr; obtain ⟨A1, c1, rfl⟩ := own_slice hown; clear hown; have d1 := (blk_cell HB1.out 1).trans rfl; have f1 := blk_frozen HB1.out 1))
    go_ret
    exact ⟨rfl, _, ⟨hg, by simpa using blk_set HB1.out 1 _, own_setCell HO1.out (own_ne HO1.out HB1.out (by decide)) _⟩, HL1.out.setCell hg _, HM1.out.set_ 1 _, HN1.out⟩

set_option maxHeartbeats 4000000 in
set_option maxRecDepth 100000 in
theorem give_v (B g : Nat) (o x : Int) (ws : List Int) (v : Value) (w : World) (h : LockV B w g o ws v) (hl : ws.length ≤ 1000) (hB : B ≤ w.heap.size) :
    Calls Try.prog 19 #[.pointer (some ⟨g, 0, none⟩), .int .i64 x] w fun e w' =>
      e = .returned (.tuple #[.int .i64 (gN o x ws), .int .i64 (gE o x)]) ∧ Stepped B w w' g (gO o x ws) (gW o x ws) v := by
  have HL := h
  obtain ⟨hg, hb, ho⟩ := h
  have c0 : w.cell? ⟨g, 0, none⟩ = some (.int .i64 o) := (blk_cell hb 0).trans rfl
  have c1 : w.cell? ⟨g, 1, none⟩ = some v := (blk_cell hb 1).trans rfl
  have f0 := blk_frozen hb 0
  have f1 := blk_frozen hb 1
  have HB := Aside0.mk hb
  have HO := Aside0.mk ho
  have HL := Aside0.mk HL
  clear hb ho
  by_cases h1 : o = -1
  · subst h1
    obtain ⟨e1, e2, e3, e4⟩ := g_no (x := x) ws (Or.inl rfl)
    rw [e1, e2, e3, e4]
    clear e1 e2 e3 e4
    go_enter Try.func19, Try.ntmps19
    go_wp2
    go_ret2
    exact ⟨rfl, _, HL.out, Below.refl _ _, KeepBut.refl _ _ _, .inl rfl⟩
  · by_cases h2 : o = x
    · subst h2
      obtain ⟨e1, e2, e3, e4⟩ := g_yes ws h1
      rw [e1, e2, e3, e4]
      clear e1 e2 e3 e4
      have hb2 : (o == -1) = false := by simpa using h1
      clear h1
      cases ws with
      | nil =>
        simp only [List.headD_nil, List.tail_nil]
        obtain ⟨A1, c1_, rfl⟩ := own_slice HO.out
        go_enter Try.func19, Try.ntmps19
        go_wp2
        go_ret2
        exact ⟨rfl, _, ⟨hg, by simpa using blk_set HB.out 0 _, own_setCell HO.out (own_ne HO.out HB.out (by decide)) _⟩, (Below.refl _ _).setCell hg _, (KeepBut.refl _ _ _).set_ 0 _, .inl rfl⟩
      | cons y tl =>
        simp only [List.headD_cons, List.tail_cons]
        obtain ⟨A1, c1_, rfl, hle, hr⟩ := own_reads_of_le (enc := Value.int .i64) (d := (0:Int)) HO.out
        have hne := own_ne HO.out HB.out (by decide)
        obtain ⟨g2, cap, he, hgb, hgl⟩ := HO.out.form (by simp)
        injection he with he1 he2 he3
        subst he1
        subst he3
        have hn1 : g2 ≠ g := by
          intro hh
          exact hne (by simp [Value.ownBlock, hh])
        obtain ⟨ad, hA, hc⟩ := hr.2.2 (by simp)
        obtain rfl := Option.some.inj hA
        have k0 : w.cell? (⟨g2, 0, none⟩) = some (.int .i64 y) := hc 0 (by simp)
        clear hc hA
        have HR := Aside0.mk hr
        clear hr
        obtain ⟨i3, hi3, hs3⟩ := info3'
        obtain ⟨A', hd, hdr, hdl⟩ := print_drop_of (P := Try.prog) (Value.int .i64) (0 : Int) 32 3 .i64 Try.underlying32 hi3 hs3 (some ⟨g2, 0, none⟩) c1_ (y :: tl) 1 (by omega) (by simp; omega) hle
        simp only [Int.toNat_one, List.drop_succ_cons, List.drop_zero] at hd hdr hdl
        simp only [List.length_cons] at hd
        have hb1 : ((w.setCell ⟨g, 0, none⟩ (.int .i64 (-1))).setCell ⟨g, 0, none⟩ (.int .i64 y)).heap[g]? = some (.cells #[.int .i64 y, .slice (some ⟨g2, 0, none⟩) (y :: tl).length c1_] 80 (0, 0)) := by simpa using blk_set (blk_set HB.out 0 (.int .i64 (-1))) 0 (.int .i64 y)
        have hbl1 : Below B w ((w.setCell ⟨g, 0, none⟩ (.int .i64 (-1))).setCell ⟨g, 0, none⟩ (.int .i64 y)) := ((Below.refl _ _).setCell hg _).setCell hg _
        have how1 : ((w.setCell ⟨g, 0, none⟩ (.int .i64 (-1))).setCell ⟨g, 0, none⟩ (.int .i64 y)).ownsRow B 3 1 (.slice (some ⟨g2, 0, none⟩) (y :: tl).length c1_) (y :: tl).length (nums .i64 (y :: tl)) :=
          own_setCell (own_setCell HO.out (own_ne HO.out HB.out (by decide)) _) (own_ne HO.out HB.out (by decide)) _
        have hb2 := blk_alloc hb1 (.cells #[] 3)
        have hr2 := hdr _ (own_reads_of' (enc := Value.int .i64) (d := (0:Int)) (how1.alloc (.cells #[] 3)))
        have ho2 : (((w.setCell ⟨g, 0, none⟩ (.int .i64 (-1))).setCell ⟨g, 0, none⟩ (.int .i64 y)).alloc (.cells #[] 3)).ownsRow B 3 1 (.slice (some ⟨w.heap.size, 0, none⟩) 0 0) ([] : List Int).length (nums .i64 []) := by simpa [nums] using own_lit ((w.setCell ⟨g, 0, none⟩ (.int .i64 (-1))).setCell ⟨g, 0, none⟩ (.int .i64 y)) B 3 .i64 [] (by simp; exact hB) (by simp)
        have hbl2 := hbl1.alloc (by simp; exact hB) (.cells #[] 3)
        have k1 : (((w.setCell ⟨g, 0, none⟩ (.int .i64 (-1))).setCell ⟨g, 0, none⟩ (.int .i64 y)).alloc (.cells #[] 3)).cell? ⟨g, 1, none⟩ = some (.slice (some ⟨g2, 0, none⟩) (tl.length + 1) c1_) := (blk_cell hb2 1).trans rfl
        have kf := blk_frozen hb2 1
        have HM2 := Aside0.mk ((((KeepBut.refl w g (some g2)).set_ 0 (.int .i64 (-1))).set_ 0 (.int .i64 y)).trans (KeepBut.of_below (below_alloc (Below.refl _ _) (.cells #[] 3)) g (some g2)) (.inl rfl))
        have HB1 := Aside0.mk hb2
        have HR2 := Aside0.mk hr2
        have HO2 := Aside0.mk ho2
        have HL2 := Aside0.mk hbl2
        clear hb1 hbl1 how1 hb2 hr2 ho2 hbl2 hdr hdl HR
        go_enter Try.func19, Try.ntmps19
        go_wp2_with (first | (at_builtin; go_loud (refine print_append_row (w0 := w) B rfl _ _ 32 3 .i64 8 rfl Try.underlying32 info3 (by decide) _ [] tl A' _ _ rfl rfl HO2.out (readsInt_of.2 HR2.out) HL2.out (by simp; omega) (by simp at hl ⊢; omega) ?_; intro v1 w1 hown hbel hgr hat; have HB3 := Aside0.mk (blk_grown HB1.out hgr (own_ne HO2.out HB1.out (by decide))); have HO3 := Aside0.mk hown; have HL3 := Aside0.mk hbel; have HM3 := Aside0.mk (HM2.out.trans (KeepBut.of_grown hgr g) (.inr ⟨w.heap.size, rfl, Nat.le_refl _⟩)); have HN3 := Aside0.mk (next_new (w := w) (v := .slice (some ⟨g2, 0, none⟩) (y :: tl).length c1_) hat (show some w.heap.size = some w.heap.size from rfl) (by simp)); clear c0 c1 f0 f1 k0 k1 kf hat hbel hgr; obtain ⟨A1, c3_, rfl⟩ := own_slice hown; clear hown; have f1 := blk_frozen HB3.out 1; have d1 := (blk_cell HB3.out 1).trans rfl; have d0 : w1.cell? ⟨g, 0, none⟩ = some (.int .i64 y) := (blk_cell HB3.out 0).trans rfl)))
        go_ret2
        exact ⟨rfl, _, ⟨hg, by simpa using blk_set HB3.out 1 _, own_setCell HO3.out (own_ne HO3.out HB3.out (by decide)) _⟩, HL3.out.setCell hg _, HM3.out.set_ 1 _, HN3.out⟩
    · obtain ⟨e1, e2, e3, e4⟩ := g_no (x := x) ws (Or.inr h2)
      rw [e1, e2, e3, e4]
      clear e1 e2 e3 e4
      have hb2 : (o == -1) = false := by simpa using h1
      have hb3 : (o != x) = true := by simpa using h2
      clear h1 h2
      go_enter Try.func19, Try.ntmps19
      go_wp2
      go_ret2
      exact ⟨rfl, _, HL.out, Below.refl _ _, KeepBut.refl _ _ _, .inl rfl⟩

set_option maxHeartbeats 4000000 in
theorem waits_calls (B g : Nat) (o : Int) (ws : List Int) (v : Value) (w : World) (h : LockV B w g o ws v) (hl : ws.length ≤ 1000) : Calls Try.prog 49 #[.pointer (some ⟨g, 0, none⟩)] w fun e w' =>
    ∃ v1, e = .returned v1 ∧ w'.ownsRow w.heap.size 3 1 v1 ws.length (nums .i64 ws) ∧ Below w.heap.size w w' := by
  obtain ⟨hg, hb, ho⟩ := h
  obtain ⟨A1, c1_, rfl⟩ := own_slice ho
  have hb2 := blk_alloc hb (.cells #[] 3)
  have HR2 := Aside0.mk (own_reads_of' (enc := Value.int .i64) (d := (0:Int)) (ho.alloc (.cells #[] 3)))
  have HO2 := Aside0.mk (show (w.alloc (.cells #[] 3)).ownsRow w.heap.size 3 1 (.slice (some ⟨w.heap.size, 0, none⟩) 0 0) ([] : List Int).length (nums .i64 []) by simpa [nums] using own_lit w w.heap.size 3 .i64 [] (Nat.le_refl _) (by simp))
  have HL2 := Aside0.mk (below_alloc (Below.refl w.heap.size w) (.cells #[] 3))
  have k1 : (w.alloc (.cells #[] 3)).cell? ⟨g, 1, none⟩ = some (.slice A1 ws.length c1_) := (blk_cell hb2 1).trans rfl
  clear hb ho hb2
  go_enter Try.func49, Try.ntmps49
  go_wp2_with (first | (at_builtin; refine print_append_row (w0 := w) w.heap.size rfl _ _ 32 3 .i64 8 rfl Try.underlying32 info3 (by decide) _ [] ws A1 _ _ rfl rfl HO2.out (readsInt_of.2 HR2.out) HL2.out (by simp) (by simp at hl ⊢; omega) ?_; intro v1 w1 hown hbel hgr hat; have HO3 := Aside0.mk hown; have HL3 := Aside0.mk hbel; clear hown hbel hgr hat k1))
  go_ret
  exact ⟨_, rfl, HO3.out, HL3.out⟩

theorem owner_v (B g : Nat) (o : Int) (ws : List Int) (v : Value) (w : World) (h : LockV B w g o ws v) : Calls Try.prog 18 #[.pointer (some ⟨g, 0, none⟩)] w fun e w' => e = .returned (.int .i64 o) ∧ w = w' :=
  (owner_calls B g o ws w h.is).mono fun _ _ h => ⟨h.1, h.2.symm⟩

set_option maxHeartbeats 4000000 in
theorem clone_calls (B g : Nat) (o : Int) (ws : List Int) (v : Value) (w : World) (h : LockV B w g o ws v) (hl : ws.length ≤ 1000) : Calls Try.prog 20 #[.pointer (some ⟨g, 0, none⟩)] w fun e w' =>
    ∃ gd vd, e = .returned (.pointer (some ⟨gd, 0, none⟩)) ∧ LockV w.heap.size w' gd o ws vd ∧ Below w.heap.size w w' := by
  have H := Aside0.mk h
  have c0 : w.cell? ⟨g, 0, none⟩ = some (.int .i64 o) := (blk_cell h.2.1 0).trans rfl
  clear h
  go_enter Try.func20, Try.ntmps20
  go_wp2
  go_region_held3 (fun w' => w'.cell? ⟨g, 0, none⟩ = some (.int .i64 o)) (first | go_keep | exact pw_cell_below hb_ c0) (first | (go_at_call 49; refine (waits_calls B g o ws v _ (LockV.drew H.out) hl).mono ?_; rintro e w1 ⟨v1, rfl, ho_, hb_⟩; obtain ⟨A1, cc1, rfl⟩ := own_slice ho_))
  go_wp2
  go_ret
  have hbw : Below w.heap.size w w1 := ⟨hb_.os, hb_.tape, hb_.output, hb_.size, hb_.block⟩
  exact ⟨_, _, rfl, ⟨hbw.size, blk_new w1 _, own_alloc ho_ _⟩, below_alloc hbw _⟩
end Go.Proofs.Ythdnlhcepndncaa.Locks

import Derived.Test.YthlllcmffgdcmabFrame2
namespace Go.Proofs.Ythlllcmffgdcmab.Frame
open Go.RowKit Go.Proofs.YthlllcmffgdcmabW.PrintWords Go.Proofs.YthlllcmffgdcmabW.PrintLast Go.Proofs.YthlllcmffgdcmabW.PrintMore
set_option linter.unusedVariables false
set_option linter.unusedSimpArgs false

theorem Stk.setK {w : World} {B g n cap : Nat} {xs : List Int} (h : Stk w B (.slice (some ⟨g, 0, none⟩) n cap) n xs) (hn : 0 < n) {j : Nat} (hj : j < n * 11) : w.cell? ⟨g, j, none⟩ = some (.int .i64 (rd xs j)) ∧ w.frozen? ⟨g, j, none⟩ = false := by
  obtain ⟨g', cap', e, _, _, _, hcell, hf⟩ := h.form hn
  injection e with e
  injection e with e
  injection e with e
  subst e
  exact ⟨hcell j hj, hf j⟩

theorem gb_trans {a b c : World} {r : Option Nat} (h : a.grownBy b r) (k : b.grownBy c r) : a.grownBy c r :=
  ⟨k.os.trans h.os, k.tape.trans h.tape, k.output.trans h.output, Nat.le_trans h.size k.size, fun i hi hr => (k.block i (Nat.lt_of_lt_of_le hi h.size) hr).trans (h.block i hi hr)⟩
theorem gb_below {a b c : World} {r : Option Nat} (h : a.grownBy b r) (k : Below b.heap.size b c) : a.grownBy c r := gb_trans h (grown_of_below k r)
theorem gb_alloc {a b : World} {r : Option Nat} (h : a.grownBy b r) (o : Obj) : a.grownBy (b.alloc o) r := gb_below h (below_alloc (Below.refl _ _) o)
theorem gb_drew {a b : World} {r : Option Nat} (h : a.grownBy b r) : a.grownBy b.drew r := ⟨h.os, h.tape, h.output, h.size, h.block⟩
theorem gb_set {a b : World} {g : Nat} (h : a.grownBy b (some g)) {p : Addr} (hp : p.block = g) (v : Value) : a.grownBy (b.setCell p v) (some g) :=
  ⟨h.os, h.tape, h.output, Nat.le_trans h.size (Nat.le_of_eq (by simp [World.setCell])), fun i hi hr => (Below.heap_setCell b p v i (fun e => hr (by rw [e, hp]))).trans (h.block i hi hr)⟩

/-- An instruction's box. -/
def insV (o a b c : Int) : Array Value := #[.int .i64 o, .int .i64 a, .int .i64 b, .int .i64 c]

set_option maxHeartbeats 2000000 in
set_option maxRecDepth 100000 in
theorem constant_calls (B g n cap : Nat) (xs : List Int) (o b c : Int) (i : Nat) (w : World) (h : Stk w B (.slice (some ⟨g, 0, none⟩) n cap) n xs) (hn : 0 < n) (hi : i < 8) : Calls Try.prog 78 #[.pointer (some ⟨g, (n - 1) * 11, none⟩), .agg (insV o i b c)] w fun e w' =>
    e = .returned (.tuple #[]) ∧ Stk w' B (.slice (some ⟨g, 0, none⟩) n cap) n (xs.set ((n - 1) * 11 + 2 + i) b) ∧ w.grownBy w' (some g) := by
  have HA := Aside0.mk (h.below (below_alloc (Below.refl _ _) (.cells (insV o i b c) 76)))
  have HN := Aside0.mk (blk_new w (.cells (insV o i b c) 76))
  have HK := Aside0.mk (gb_alloc (World.grownBy.refl w (some g)) (.cells (insV o i b c) 76))
  clear h
  go_enter Try.func78, Try.ntmps78
  go_wp2
  generalize w.alloc (.cells (insV o i b c) 76) = w1 at HA HN HK ⊢
  generalize w.heap.size = z at HN ⊢
  have c1 : w1.cell? ⟨z, 1, none⟩ = some (.int .i64 i) := (blk_cell HN.out 1).trans rfl
  have c2 : w1.cell? ⟨z, 2, none⟩ = some (.int .i64 b) := (blk_cell HN.out 2).trans rfl
  have b1 : (0 : Int) ≤ (i : Int) := by omega
  have b2 : (i : Int) < 8 := by omega
  go_still_tail 8, (by kernel_rfl)
  change wpList _ _ _ _ _ w1.drew
  have HAd := Aside0.mk (show Stk w1.drew B _ n xs from HA.out)
  have HKd := Aside0.mk (gb_drew HK.out)
  generalize w1.drew = w2 at HAd HKd ⊢
  obtain ⟨k2, f2⟩ := HAd.out.setK hn (j := (n - 1) * 11 + 2 + i) (by omega)
  go_wp2
  exact bodyPost_end (results_none rfl _ _ _) rfl ⟨rfl, HAd.out.set (by omega) b, gb_set HKd.out rfl _⟩

theorem add_in (a b : Int) (h : -100 ≤ a ∧ a ≤ 100) (h' : -100 ≤ b ∧ b ≤ 100) : IntKind.i64.wrap (a + b) = a + b := by rw [IntKind.wrap_i64]; omega
set_option maxHeartbeats 2000000 in
set_option maxRecDepth 100000 in
theorem add_calls (B g n cap : Nat) (xs : List Int) (o : Int) (i j k : Nat) (w : World) (h : Stk w B (.slice (some ⟨g, 0, none⟩) n cap) n xs) (hn : 0 < n) (hi : i < 8) (hj : j < 8) (hk : k < 8) (x y : Int) (hx : rd xs (((n - 1) * 11 + 2 + j : Nat) : Int) = x) (hy : rd xs (((n - 1) * 11 + 2 + k : Nat) : Int) = y) (hxb : -100 ≤ x ∧ x ≤ 100) (hyb : -100 ≤ y ∧ y ≤ 100) : Calls Try.prog 80 #[.pointer (some ⟨g, (n - 1) * 11, none⟩), .agg (insV o i j k)] w fun e w' =>
    e = .returned (.tuple #[]) ∧ Stk w' B (.slice (some ⟨g, 0, none⟩) n cap) n (xs.set ((n - 1) * 11 + 2 + i) (x + y)) ∧ w.grownBy w' (some g) := by
  have HA := Aside0.mk (h.below (below_alloc (Below.refl _ _) (.cells (insV o i j k) 76)))
  have HN := Aside0.mk (blk_new w (.cells (insV o i j k) 76))
  have HK := Aside0.mk (gb_alloc (World.grownBy.refl w (some g)) (.cells (insV o i j k) 76))
  clear h
  go_enter Try.func80, Try.ntmps80
  go_wp2
  generalize w.alloc (.cells (insV o i j k) 76) = w1 at HA HN HK ⊢
  generalize w.heap.size = z at HN ⊢
  have c1 : w1.cell? ⟨z, 1, none⟩ = some (.int .i64 i) := (blk_cell HN.out 1).trans rfl
  have c2 : w1.cell? ⟨z, 2, none⟩ = some (.int .i64 j) := (blk_cell HN.out 2).trans rfl
  have c3 : w1.cell? ⟨z, 3, none⟩ = some (.int .i64 k) := (blk_cell HN.out 3).trans rfl
  have b1 : (0 : Int) ≤ (i : Int) := by omega
  have b2 : (i : Int) < 8 := by omega
  have b3 : (0 : Int) ≤ (j : Int) := by omega
  have b4 : (j : Int) < 8 := by omega
  have b5 : (0 : Int) ≤ (k : Int) := by omega
  have b6 : (k : Int) < 8 := by omega
  have kx := (HA.out.setK hn (j := (n - 1) * 11 + 2 + j) (by omega)).1
  have ky := (HA.out.setK hn (j := (n - 1) * 11 + 2 + k) (by omega)).1
  rw [hx] at kx
  rw [hy] at ky
  have he := add_in x y hxb hyb
  clear hx hy
  go_still_tail 21, (by kernel_rfl)
  change wpList _ _ _ _ _ w1.drew
  have HAd := Aside0.mk (show Stk w1.drew B _ n xs from HA.out)
  have HKd := Aside0.mk (gb_drew HK.out)
  clear kx ky c1 c2 c3
  generalize w1.drew = w2 at HAd HKd ⊢
  obtain ⟨k2, f2⟩ := HAd.out.setK hn (j := (n - 1) * 11 + 2 + i) (by omega)
  go_wp2
  exact bodyPost_end (results_none rfl _ _ _) rfl ⟨rfl, HAd.out.set (by omega) _, gb_set HKd.out rfl _⟩

set_option maxHeartbeats 2000000 in
set_option maxRecDepth 100000 in
theorem pure_no (g n : Nat) (w : World) : Calls Try.prog 37 #[.pointer (some ⟨g, (n - 1) * 11, none⟩), .agg #[.int .i64 12, .int .i64 0, .int .i64 0, .int .i64 0]] w fun e w' =>
    e = .returned (.bool false) ∧ Below w.heap.size w w' := by
  show Calls Try.prog 37 #[.pointer (some ⟨g, (n - 1) * 11, none⟩), .agg (insV 12 0 0 0)] w _
  have HN := Aside0.mk (blk_new w (.cells (insV 12 0 0 0) 76))
  have HB := Aside0.mk (below_alloc (Below.refl w.heap.size w) (.cells (insV 12 0 0 0) 76))
  go_enter Try.func37, Try.ntmps37
  go_wp2
  have HZ := Aside0.mk (show w.heap.size ≤ (w.alloc (.cells (insV 12 0 0 0) 76)).heap.size by simp)
  generalize w.alloc (.cells (insV 12 0 0 0) 76) = w1 at HN HB HZ ⊢
  obtain ⟨z, hz⟩ : ∃ z, w.heap.size = z := ⟨_, rfl⟩
  rw [hz] at HN ⊢
  have c0 : w1.cell? ⟨z, 0, none⟩ = some (.int .i64 12) := (blk_cell HN.out 0).trans rfl
  clear hz
  go_region_held3 (fun w' => w'.cell? ⟨z, 0, none⟩ = some (.int .i64 12)) (first | assumption | (go_keep; done))
    ((go_at_call 67; refine (table_calls _).mono ?_; rintro e w2 ⟨rfl, ht, hb⟩; have hlk : (Instr.lookup 154 (.map (some w1.heap.size)) (.int .i64 12) true).run Try.prog w2 = .ok (.tuple #[.nilFunc, .bool false]) w2 := look_no ht 12 (by omega) (by omega) (by kernel_rfl); have c2 := pw_cell_below hb (show World.cell? _ ⟨z, 0, none⟩ = some (.int .i64 12) from c0); have hB2 : Below w.heap.size w w2 := (by first | exact below_then HB.out HZ.out hb | exact below_then HB.out.drew HZ.out hb); have HB2 := Aside0.mk hB2; clear ht hb hB2))
  all_goals
    go_wp2
    go_ret
    exact ⟨rfl, HB2.out⟩

set_option maxHeartbeats 2000000 in
set_option maxRecDepth 100000 in
theorem pure_const (B g n cap : Nat) (xs : List Int) (t : Int) (i : Nat) (hi : i < 8) (b : Int) (w : World) (h : Stk w B (.slice (some ⟨g, 0, none⟩) n cap) n xs) (hn : 0 < n) (ht : rd xs (((n - 1) * 11 + 1 : Nat) : Int) = t) (t0 : 0 ≤ t) (t1 : t ≤ 1000) : Calls Try.prog 37 #[.pointer (some ⟨g, (n - 1) * 11, none⟩), .agg #[.int .i64 1, .int .i64 i, .int .i64 b, .int .i64 0]] w fun e w' =>
    e = .returned (.bool true) ∧ Stk w' B (.slice (some ⟨g, 0, none⟩) n cap) n ((xs.set ((n - 1) * 11 + 1) (t + 1)).set ((n - 1) * 11 + 2 + i) b) ∧ w.grownBy w' (some g) := by
  show Calls Try.prog 37 #[.pointer (some ⟨g, (n - 1) * 11, none⟩), .agg (insV 1 i b 0)] w _
  have HN := Aside0.mk (blk_new w (.cells (insV 1 i b 0) 76))
  have HA := Aside0.mk (h.below (below_alloc (Below.refl _ _) (.cells (insV 1 i b 0) 76)))
  have HK := Aside0.mk (gb_alloc (World.grownBy.refl w (some g)) (.cells (insV 1 i b 0) 76))
  have HG := Aside0.mk (show g < w.heap.size by obtain ⟨g', _, e, _, _, hl, _⟩ := h.form hn; injection e with e; injection e with e; injection e with e; subst e; exact hl)
  clear h
  go_enter Try.func37, Try.ntmps37
  go_wp2
  generalize w.alloc (.cells (insV 1 i b 0) 76) = w1 at HN HA HK ⊢
  obtain ⟨z, hz⟩ : ∃ z, w.heap.size = z := ⟨_, rfl⟩
  rw [hz] at HN HG ⊢
  have c0 : w1.cell? ⟨z, 0, none⟩ = some (.int .i64 1) := (blk_cell HN.out 0).trans rfl
  clear hz
  go_region_held3 (fun w' => w'.cell? ⟨z, 0, none⟩ = some (.int .i64 1)) (first | assumption | (go_keep; done))
    ((go_at_call 67; refine (table_calls _).mono ?_; rintro e w2 ⟨rfl, ht, hb⟩; have hlk : (Instr.lookup 154 (.map (some w1.heap.size)) (.int .i64 1) true).run Try.prog w2 = .ok (.tuple #[.func (.func 78) #[] #[], .bool true]) w2 := look_tab ht 1 78 (by omega) (by omega) (by kernel_rfl); have c2 := pw_cell_below hb (show World.cell? _ ⟨z, 0, none⟩ = some (.int .i64 1) from c0); have hA2 : Stk w2 B (.slice (some ⟨g, 0, none⟩) n cap) n xs := (by first | exact HA.out.below hb | exact Stk.below (show Stk w1.drew B _ n xs from HA.out) hb); have hK2 : w.grownBy w2 (some g) := (by first | exact gb_below HK.out hb | exact gb_below (gb_drew HK.out) hb); have hN2 : w2.heap[z]? = some (.cells (insV 1 i b 0) 76) := (by first | exact blk_below HN.out hb | exact blk_below (blk_drew HN.out) hb); have HA2 := Aside0.mk hA2; have HK2 := Aside0.mk hK2; have HN2 := Aside0.mk hN2; clear ht hb hA2 hK2 hN2))
  all_goals
    obtain ⟨k2, f2⟩ := HA2.out.setK hn (j := (n - 1) * 11 + 1) (by omega)
    rw [ht] at k2
    clear hlk c0 c2
    go_upto_region 4 with (fail)
    have HA3 := Aside0.mk (HA2.out.set (j := (n - 1) * 11 + 1) (by omega) (t + 1))
    have HN3 := Aside0.mk (blk_far HN2.out (p := ⟨g, (n - 1) * 11 + 1, none⟩) (by have := HG.out; show z ≠ g; omega) (.int .i64 (t + 1)))
    have HK3 := Aside0.mk (gb_set HK2.out (p := ⟨g, (n - 1) * 11 + 1, none⟩) rfl (.int .i64 (t + 1)))
    clear k2 f2
    generalize w2.setCell ⟨g, (n - 1) * 11 + 1, none⟩ (.int .i64 (t + 1)) = w3 at HA3 HN3 HK3 ⊢
    have d0 : w3.cell? ⟨z, 0, none⟩ = some (.int .i64 1) := (blk_cell HN3.out 0).trans rfl
    have d1 : w3.cell? ⟨z, 1, none⟩ = some (.int .i64 i) := (blk_cell HN3.out 1).trans rfl
    have d2 : w3.cell? ⟨z, 2, none⟩ = some (.int .i64 b) := (blk_cell HN3.out 2).trans rfl
    have d3 : w3.cell? ⟨z, 3, none⟩ = some (.int .i64 0) := (blk_cell HN3.out 3).trans rfl
    go_wp2_with (refine (constant_calls B g n cap (xs.set ((n - 1) * 11 + 1) (t + 1)) 1 b 0 i w3 HA3.out hn hi).mono ?_; rintro e w4 ⟨rfl, hA4, hK4⟩; have HA4 := Aside0.mk hA4; have HK4 := Aside0.mk (gb_trans HK3.out hK4); clear hA4 hK4 d0 d1 d2 d3)
    go_ret
    exact ⟨rfl, HA4.out, HK4.out⟩

theorem rd_set (xs : List Int) (i j : Nat) (x : Int) (hi : i < xs.length) : rd (xs.set i x) (j : Int) = if j = i then x else rd xs j := by
  unfold rd
  rw [Int.toNat_natCast, List.getD_eq_getElem?_getD, List.getD_eq_getElem?_getD, List.getElem?_set]
  by_cases h : i = j
  · subst h; simp [hi]
  · rw [if_neg h, if_neg (Ne.symm h)]
theorem rd_set_ne (xs : List Int) (i j : Nat) (x : Int) (h : i ≠ j) : rd (xs.set i x) (j : Int) = rd xs j := by
  unfold rd
  rw [Int.toNat_natCast, List.getD_eq_getElem?_getD, List.getD_eq_getElem?_getD, List.getElem?_set, if_neg h]

set_option maxHeartbeats 2000000 in
set_option maxRecDepth 100000 in
theorem pure_add (B g n cap : Nat) (xs : List Int) (t : Int) (i j k : Nat) (hi : i < 8) (hj : j < 8) (hk : k < 8) (x y : Int) (w : World) (h : Stk w B (.slice (some ⟨g, 0, none⟩) n cap) n xs) (hn : 0 < n) (ht : rd xs (((n - 1) * 11 + 1 : Nat) : Int) = t) (t0 : 0 ≤ t) (t1 : t ≤ 1000) (hx : rd xs (((n - 1) * 11 + 2 + j : Nat) : Int) = x) (hy : rd xs (((n - 1) * 11 + 2 + k : Nat) : Int) = y) (hxb : -100 ≤ x ∧ x ≤ 100) (hyb : -100 ≤ y ∧ y ≤ 100) : Calls Try.prog 37 #[.pointer (some ⟨g, (n - 1) * 11, none⟩), .agg #[.int .i64 3, .int .i64 i, .int .i64 j, .int .i64 k]] w fun e w' =>
    e = .returned (.bool true) ∧ Stk w' B (.slice (some ⟨g, 0, none⟩) n cap) n ((xs.set ((n - 1) * 11 + 1) (t + 1)).set ((n - 1) * 11 + 2 + i) (x + y)) ∧ w.grownBy w' (some g) := by
  show Calls Try.prog 37 #[.pointer (some ⟨g, (n - 1) * 11, none⟩), .agg (insV 3 i j k)] w _
  have HN := Aside0.mk (blk_new w (.cells (insV 3 i j k) 76))
  have HA := Aside0.mk (h.below (below_alloc (Below.refl _ _) (.cells (insV 3 i j k) 76)))
  have HK := Aside0.mk (gb_alloc (World.grownBy.refl w (some g)) (.cells (insV 3 i j k) 76))
  have HG := Aside0.mk (show g < w.heap.size by obtain ⟨g', _, e, _, _, hl, _⟩ := h.form hn; injection e with e; injection e with e; injection e with e; subst e; exact hl)
  have HX := Aside0.mk (And.intro ((rd_set_ne xs _ _ _ (by omega)).trans hx) (And.intro ((rd_set_ne xs _ _ _ (by omega)).trans hy) (And.intro hxb hyb)) : rd (xs.set ((n - 1) * 11 + 1) (t + 1)) (((n - 1) * 11 + 2 + j : Nat) : Int) = x ∧ rd (xs.set ((n - 1) * 11 + 1) (t + 1)) (((n - 1) * 11 + 2 + k : Nat) : Int) = y ∧ (-100 ≤ x ∧ x ≤ 100) ∧ (-100 ≤ y ∧ y ≤ 100))
  clear h hx hy hxb hyb
  go_enter Try.func37, Try.ntmps37
  go_wp2
  generalize w.alloc (.cells (insV 3 i j k) 76) = w1 at HN HA HK ⊢
  obtain ⟨z, hz⟩ : ∃ z, w.heap.size = z := ⟨_, rfl⟩
  rw [hz] at HN HG ⊢
  have c0 : w1.cell? ⟨z, 0, none⟩ = some (.int .i64 3) := (blk_cell HN.out 0).trans rfl
  clear hz
  go_region_held3 (fun w' => w'.cell? ⟨z, 0, none⟩ = some (.int .i64 3)) (first | assumption | (go_keep; done))
    ((go_at_call 67; refine (table_calls _).mono ?_; rintro e w2 ⟨rfl, ht, hb⟩; have hlk : (Instr.lookup 154 (.map (some w1.heap.size)) (.int .i64 3) true).run Try.prog w2 = .ok (.tuple #[.func (.func 80) #[] #[], .bool true]) w2 := look_tab ht 3 80 (by omega) (by omega) (by kernel_rfl); have c2 := pw_cell_below hb (show World.cell? _ ⟨z, 0, none⟩ = some (.int .i64 3) from c0); have hA2 : Stk w2 B (.slice (some ⟨g, 0, none⟩) n cap) n xs := (by first | exact HA.out.below hb | exact Stk.below (show Stk w1.drew B _ n xs from HA.out) hb); have hK2 : w.grownBy w2 (some g) := (by first | exact gb_below HK.out hb | exact gb_below (gb_drew HK.out) hb); have hN2 : w2.heap[z]? = some (.cells (insV 3 i j k) 76) := (by first | exact blk_below HN.out hb | exact blk_below (blk_drew HN.out) hb); have HA2 := Aside0.mk hA2; have HK2 := Aside0.mk hK2; have HN2 := Aside0.mk hN2; clear ht hb hA2 hK2 hN2))
  all_goals
    obtain ⟨k2, f2⟩ := HA2.out.setK hn (j := (n - 1) * 11 + 1) (by omega)
    rw [ht] at k2
    clear hlk c0 c2
    go_upto_region 4 with (fail)
    have HA3 := Aside0.mk (HA2.out.set (j := (n - 1) * 11 + 1) (by omega) (t + 1))
    have HN3 := Aside0.mk (blk_far HN2.out (p := ⟨g, (n - 1) * 11 + 1, none⟩) (by have := HG.out; show z ≠ g; omega) (.int .i64 (t + 1)))
    have HK3 := Aside0.mk (gb_set HK2.out (p := ⟨g, (n - 1) * 11 + 1, none⟩) rfl (.int .i64 (t + 1)))
    clear k2 f2
    generalize w2.setCell ⟨g, (n - 1) * 11 + 1, none⟩ (.int .i64 (t + 1)) = w3 at HA3 HN3 HK3 ⊢
    have d0 : w3.cell? ⟨z, 0, none⟩ = some (.int .i64 3) := (blk_cell HN3.out 0).trans rfl
    have d1 : w3.cell? ⟨z, 1, none⟩ = some (.int .i64 i) := (blk_cell HN3.out 1).trans rfl
    have d2 : w3.cell? ⟨z, 2, none⟩ = some (.int .i64 j) := (blk_cell HN3.out 2).trans rfl
    have d3 : w3.cell? ⟨z, 3, none⟩ = some (.int .i64 k) := (blk_cell HN3.out 3).trans rfl
    go_wp2_with (refine (add_calls B g n cap (xs.set ((n - 1) * 11 + 1) (t + 1)) 3 i j k w3 HA3.out hn hi hj hk x y HX.out.1 HX.out.2.1 HX.out.2.2.1 HX.out.2.2.2).mono ?_; rintro e w4 ⟨rfl, hA4, hK4⟩; have HA4 := Aside0.mk hA4; have HK4 := Aside0.mk (gb_trans HK3.out hK4); clear hA4 hK4 d0 d1 d2 d3)
    go_ret
    exact ⟨rfl, HA4.out, HK4.out⟩
end Go.Proofs.Ythlllcmffgdcmab.Frame

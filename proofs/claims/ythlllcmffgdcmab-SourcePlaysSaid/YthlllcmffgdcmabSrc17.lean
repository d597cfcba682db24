import Derived.Test.YthlllcmffgdcmabSrc16
namespace Go.Proofs.Ythlllcmffgdcmab.Src
open Go.RowKit Go.Proofs.YthlllcmffgdcmabW.PrintWords Go.Proofs.YthlllcmffgdcmabW.PrintLast Go.Proofs.YthlllcmffgdcmabW.PrintMore
attribute [local go_sem] max2_int min2_int max_two min_two
set_option linter.unusedVariables false
set_option linter.unusedSimpArgs false

theorem gen_orc (B o : Nat) (l : List Int) (k : Nat) (vl : Value) : Gen (fun i => i = o ∨ vl.ownBlock = some i) (fun W => Orc B W o l k vl) :=
  ⟨fun a b h hm => ⟨h.ge, (hm o (.inl rfl)).trans h.blk, own_move h.row fun k hk => hm k (.inr hk)⟩, fun W h i hi => by
    rcases hi with rfl | hi
    · exact ⟨_, _, h.blk, by decide, by decide, by decide⟩
    · obtain ⟨cs, hc⟩ := own_typed h.row i hi
      exact ⟨cs, _, hc, by decide, by decide, by decide⟩⟩
theorem gen_tap (B o : Nat) (T : List (Int × Int)) (k : Nat) (vl : Value) : Gen (fun i => i = o ∨ vl.ownBlock = some i) (fun W => Tap B W o T k vl) :=
  ⟨fun a b h hm => ⟨h.ge, (hm o (.inl rfl)).trans h.blk, own_move h.row fun k hk => hm k (.inr hk)⟩, fun W h i hi => by
    rcases hi with rfl | hi
    · exact ⟨_, _, h.blk, by decide, by decide, by decide⟩
    · obtain ⟨cs, hc⟩ := own_typed h.row i hi
      exact ⟨cs, _, hc, by decide, by decide, by decide⟩⟩

/-- A chain: a tape, and behind it an oracle. -/
structure Chn (B : Nat) (w : World) (o : Nat) (T : List (Int × Int)) (j : Nat) (vt : Value) (l : List Int) (k : Nat) (vn : Value) : Prop where
  ge : B ≤ o
  blk : w.heap[o]? = some (.cells #[vt, .int .i64 j, vn, .int .i64 k] 150 (0, 0))
  rowT : w.ownsRow B 25 2 vt T.length (recs T)
  rowN : w.ownsRow B 23 1 vn l.length (nums .u64 l)
theorem gen_chn (B o : Nat) (T : List (Int × Int)) (j : Nat) (vt : Value) (l : List Int) (k : Nat) (vn : Value) : Gen (fun i => i = o ∨ vt.ownBlock = some i ∨ vn.ownBlock = some i) (fun W => Chn B W o T j vt l k vn) :=
  ⟨fun a b h hm => ⟨h.ge, (hm o (.inl rfl)).trans h.blk, own_move h.rowT fun k hk => hm k (.inr (.inl hk)), own_move h.rowN fun k hk => hm k (.inr (.inr hk))⟩, fun W h i hi => by
    rcases hi with rfl | hi | hi
    · exact ⟨_, _, h.blk, by decide, by decide, by decide⟩
    · obtain ⟨cs, hc⟩ := own_typed h.rowT i hi
      exact ⟨cs, _, hc, by decide, by decide, by decide⟩
    · obtain ⟨cs, hc⟩ := own_typed h.rowN i hi
      exact ⟨cs, _, hc, by decide, by decide, by decide⟩⟩
theorem Chn.below {B : Nat} {w w' : World} {o : Nat} {T : List (Int × Int)} {j : Nat} {vt : Value} {l : List Int} {k : Nat} {vn : Value} (h : Chn B w o T j vt l k vn) (hb : Below w.heap.size w w') : Chn B w' o T j vt l k vn := ⟨h.ge, blk_below h.blk hb, pw_own_below h.rowT hb, pw_own_below h.rowN hb⟩
theorem Chn.nextT {B : Nat} {w : World} {o : Nat} {T : List (Int × Int)} {j : Nat} {vt : Value} {l : List Int} {k : Nat} {vn : Value} (h : Chn B w o T j vt l k vn) : Chn B (w.setCell ⟨o, 1, .none⟩ (.int .i64 ((j : Int) + 1))) o T (j + 1) vt l k vn :=
  ⟨h.ge, by simpa using blk_set h.blk 1 (.int .i64 ((j : Int) + 1)), own_setCell h.rowT (own_ne h.rowT h.blk (by decide)) _, own_setCell h.rowN (own_ne h.rowN h.blk (by decide)) _⟩
theorem Chn.nextN {B : Nat} {w : World} {o : Nat} {T : List (Int × Int)} {j : Nat} {vt : Value} {l : List Int} {k : Nat} {vn : Value} (h : Chn B w o T j vt l k vn) : Chn B (w.setCell ⟨o, 3, .none⟩ (.int .i64 ((k : Int) + 1))) o T j vt l (k + 1) vn :=
  ⟨h.ge, by simpa using blk_set h.blk 3 (.int .i64 ((k : Int) + 1)), own_setCell h.rowT (own_ne h.rowT h.blk (by decide)) _, own_setCell h.rowN (own_ne h.rowN h.blk (by decide)) _⟩
theorem rows_at {B : Nat} {w : World} {l : List (Int × Int)} {vl : Value} (h : w.ownsRow B 25 2 vl l.length (recs l)) {k : Nat} (hk : k < l.length) : ∃ g c, vl = .slice (some ⟨g, 0, none⟩) l.length c ∧
    w.cell? ⟨g, k * 2, none⟩ = some (.int .i64 (l.getD k (0, 0)).1) ∧ w.cell? ⟨g, k * 2 + 1, none⟩ = some (.int .u64 (l.getD k (0, 0)).2) := by
  obtain ⟨hl, h2⟩ := h
  rcases h2 with ⟨_, h0⟩ | ⟨gr, cap, cur, rfl, hb, hh, hc, hm, hs, ht⟩
  · omega
  · have key : ∀ j u, j < l.length * 2 → (recs l)[j]? = some u → w.cell? ⟨gr, j, none⟩ = some u := fun j u hj hu => by
      rw [blk_cell hh j]
      rw [← ht, List.getElem?_take_of_lt hj, Array.getElem?_toList] at hu
      exact hu
    have hg := recs_get l k hk
    exact ⟨gr, cap, rfl, key _ _ (by omega) hg.1, key _ _ (by omega) hg.2⟩

set_option maxHeartbeats 4000000 in
set_option maxRecDepth 100000 in
theorem ctrest_calls (B o : Nat) (l : List (Int × Int)) (k : Nat) (vl : Value) (N : List Int) (q : Nat) (vn : Value) (w : World) (h : Chn B w o l k vl N q vn) (hk : k ≤ l.length) (hl : l.length ≤ 1000) : Calls Try.prog 64 #[.pointer (some ⟨o, 0, none⟩)] w fun e w' =>
    e = .returned (.int .i64 ((l.length : Int) - k)) ∧ ∃ n, w' = w.drewN n := by
  obtain ⟨hg, hb, ho, _⟩ := h
  obtain ⟨A1, c1, rfl⟩ := own_slice ho
  have k0 : w.cell? ⟨o, 0, none⟩ = some (.slice A1 l.length c1) := (blk_cell hb 0).trans rfl
  have k1 : w.cell? ⟨o, 1, none⟩ = some (.int .i64 k) := (blk_cell hb 1).trans rfl
  have e1 : IntKind.i64.wrap ((l.length : Int) - k) = (l.length : Int) - k := by rw [IntKind.wrap_i64]; omega
  clear hb ho
  go_enter Try.func64, Try.ntmps64
  go_wp2
  go_quiet (fail)
  go_wp2
  go_ret
  exact ⟨rfl, nq, rfl⟩

set_option maxHeartbeats 4000000 in
set_option maxRecDepth 100000 in
theorem ctdraw_ok (B o : Nat) (l : List (Int × Int)) (k : Nat) (vl : Value) (N : List Int) (q : Nat) (vn : Value) (kind n v : Int) (w : World) (h : Chn B w o l k vl N q vn) (hB : B ≤ w.heap.size) (hk : k < l.length) (hl : l.length ≤ 1000) (hx : l.getD k (0, 0) = (kind, v)) (hn : v < n) (hn0 : 0 ≤ n) (hn2 : n ≤ 9223372036854775807) : Calls Try.prog 63 #[.pointer (some ⟨o, 0, none⟩), .int .i64 kind, .int .i64 n] w fun e w' =>
    e = .returned (.int .u64 v) ∧ Reach o w w' ∧ Chn B w' o l (k + 1) vl N q vn := by
  have H := Aside0.mk h
  obtain ⟨g, c, rfl, x0, x1⟩ := rows_at h.rowT hk
  rw [hx] at x0 x1
  have k0 : w.cell? ⟨o, 0, none⟩ = some (.slice (some ⟨g, 0, none⟩) l.length c) := (blk_cell h.blk 0).trans rfl
  have k1 : w.cell? ⟨o, 1, none⟩ = some (.int .i64 k) := (blk_cell h.blk 1).trans rfl
  have q1 : decide ((l.length : Int) ≤ (k : Int)) = false := decide_eq_false (by omega)
  have q2 : decide (n ≤ v) = false := decide_eq_false (by omega)
  have b0 : (k : Int) < (l.length : Int) := by omega
  have b1 : (0 : Int) ≤ (k : Int) := by omega
  have e2 : IntKind.u64.wrap n = n := by rw [IntKind.wrap_u64]; omega
  have e3 : IntKind.i64.wrap ((k : Int) + 1) = (k : Int) + 1 := by rw [IntKind.wrap_i64]; omega
  have e4 : wrap64 ((k : Int) + 1) = (k : Int) + 1 := by unfold wrap64; omega
  have HB := Aside0.mk hB
  clear h hx hn hB
  go_enter Try.func63, Try.ntmps63
  go_wp2
  go_quiet (fail)
  go_wp2
  have HT := Aside0.mk ((Reach.refl o w).drewN nq)
  have HN := Aside0.mk (show Chn B (w.drewN nq) o l k (.slice (some ⟨g, 0, none⟩) l.length c) N q vn from ⟨H.out.ge, H.out.blk, H.out.rowT, H.out.rowN⟩)
  replace x0 : (w.drewN nq).cell? ⟨g, k * 2, none⟩ = some (.int .i64 kind) := x0
  replace x1 : (w.drewN nq).cell? ⟨g, k * 2 + 1, none⟩ = some (.int .u64 v) := x1
  replace k0 : (w.drewN nq).cell? ⟨o, 0, none⟩ = some (.slice (some ⟨g, 0, none⟩) l.length c) := k0
  replace k1 : (w.drewN nq).cell? ⟨o, 1, none⟩ = some (.int .i64 k) := k1
  have HS := Aside0.mk (show w.heap.size ≤ (w.drewN nq).heap.size from Nat.le_refl _)
  generalize w.drewN nq = w1 at HT HN x0 x1 k0 k1 HS ⊢
  have x0A := some_alloc x0 (.cells #[.int .i64 0, .int .u64 0] 25)
  have x1A := some_alloc x1 (.cells #[.int .i64 0, .int .u64 0] 25)
  have k0A := some_alloc k0 (.cells #[.int .i64 0, .int .u64 0] 25)
  have k1A := some_alloc k1 (.cells #[.int .i64 0, .int .u64 0] 25)
  go_region_law (fail)
  all_goals
    change Exit.then _ _ _ _ (w1.alloc (.cells #[.int .i64 kind, .int .u64 v] 25)).drew
    clear x0 x1 k0 k1 x0A x1A k0A k1A
    have HT2 := Aside0.mk ((HT.out.step (below_alloc (Below.refl _ _) (.cells #[.int .i64 kind, .int .u64 v] 25))).drew)
    have HN2 := Aside0.mk (show Chn B (w1.alloc (.cells #[.int .i64 kind, .int .u64 v] 25)).drew o l k (.slice (some ⟨g, 0, none⟩) l.length c) N q vn from HN.out.below (below_alloc (Below.refl _ _) _).drew)
    have HZ := Aside0.mk (blk_drew (blk_new w1 (.cells #[.int .i64 kind, .int .u64 v] 25)))
    have hzo : w1.heap.size ≠ o := by have := blk_lt HN.out.blk; omega
    generalize w1.heap.size = z at HZ hzo ⊢
    generalize (w1.alloc (.cells #[.int .i64 kind, .int .u64 v] 25)).drew = w2 at HT2 HN2 HZ ⊢
    have n0 : w2.cell? ⟨z, 0, none⟩ = some (.int .i64 kind) := (blk_cell HZ.out 0).trans rfl
    have n1 : w2.cell? ⟨z, 1, none⟩ = some (.int .u64 v) := (blk_cell HZ.out 1).trans rfl
    have k1 : w2.cell? ⟨o, 1, none⟩ = some (.int .i64 k) := (blk_cell HN2.out.blk 1).trans rfl
    have f1 := blk_frozen HN2.out.blk 1
    clear HT HN HS
    go_wp2
    go_ret
    exact ⟨rfl, HT2.out.set 1 _, HN2.out.nextT⟩

set_option maxHeartbeats 4000000 in
set_option maxRecDepth 100000 in
theorem tdraw_un (o g c j len : Nat) (kind n rk rn : Int) (w : World) (k0 : w.cell? ⟨o, 0, none⟩ = some (.slice (some ⟨g, 0, none⟩) len c)) (k1 : w.cell? ⟨o, 1, none⟩ = some (.int .i64 j)) (x0 : w.cell? ⟨g, j * 2, none⟩ = some (.int .i64 rk)) (x1 : w.cell? ⟨g, j * 2 + 1, none⟩ = some (.int .u64 rn))
    (hj : j < len) (hl : len ≤ 1000) (hn0 : 0 ≤ n) (hn2 : n ≤ 9223372036854775807) (hbad : rk ≠ kind ∨ (rk = kind ∧ n ≤ rn)) : Calls Try.prog 63 #[.pointer (some ⟨o, 0, none⟩), .int .i64 kind, .int .i64 n] w fun e w' =>
    e = .panicked [{ v := unV j kind n rk rn, recovered := false }] ∧ Below w.heap.size w w' := by
  have q1 : decide ((len : Int) ≤ (j : Int)) = false := decide_eq_false (by omega)
  have b0 : (j : Int) < (len : Int) := by omega
  have b1 : (0 : Int) ≤ (j : Int) := by omega
  have e2 : IntKind.u64.wrap n = n := by rw [IntKind.wrap_u64]; omega
  have hlt := World.block_lt_of_cell? w _ k0
  have hcase : (∃ q2 : (rk != kind) = true, True) ∨ (rk = kind ∧ n ≤ rn) := by
    rcases hbad with h | h
    · exact .inl ⟨bne_iff_ne.2 h, trivial⟩
    · exact .inr h
  clear hbad
  unfold unV
  rcases hcase with ⟨q2, _⟩ | ⟨hk, hle⟩
  · go_enter Try.func63, Try.ntmps63
    go_wp2
    go_quiet (fail)
    go_wp2
    have HB := Aside0.mk (pw_below_drewN (Below.refl w.heap.size w) nq)
    replace x0 : (w.drewN nq).cell? ⟨g, j * 2, none⟩ = some (.int .i64 rk) := x0
    replace x1 : (w.drewN nq).cell? ⟨g, j * 2 + 1, none⟩ = some (.int .u64 rn) := x1
    replace k0 : (w.drewN nq).cell? ⟨o, 0, none⟩ = some (.slice (some ⟨g, 0, none⟩) len c) := k0
    replace k1 : (w.drewN nq).cell? ⟨o, 1, none⟩ = some (.int .i64 j) := k1
    have HS := Aside0.mk (show w.heap.size ≤ (w.drewN nq).heap.size from Nat.le_refl _)
    generalize w.drewN nq = w1 at HB x0 x1 k0 k1 HS ⊢
    have x0A := some_alloc x0 (.cells #[.int .i64 0, .int .u64 0] 25)
    have x1A := some_alloc x1 (.cells #[.int .i64 0, .int .u64 0] 25)
    have k0A := some_alloc k0 (.cells #[.int .i64 0, .int .u64 0] 25)
    have k1A := some_alloc k1 (.cells #[.int .i64 0, .int .u64 0] 25)
    go_region_law (fail)
    all_goals
      change Exit.then _ _ _ _ (w1.alloc (.cells #[.int .i64 rk, .int .u64 rn] 25)).drew
      clear x0A x1A k0A k1A
      have HB2 := Aside0.mk ((HB.out.alloc HS.out (.cells #[.int .i64 rk, .int .u64 rn] 25)).drew)
      have HZ := Aside0.mk (blk_drew (blk_new w1 (.cells #[.int .i64 rk, .int .u64 rn] 25)))
      have k2 : ((w1.alloc (.cells #[.int .i64 rk, .int .u64 rn] 25)).drew).cell? ⟨o, 1, none⟩ = some (.int .i64 j) := some_alloc k1 (.cells #[.int .i64 rk, .int .u64 rn] 25)
      clear x0 x1 k0 k1
      generalize w1.heap.size = z at HZ ⊢
      generalize (w1.alloc (.cells #[.int .i64 rk, .int .u64 rn] 25)).drew = w2 at HB2 HZ k2 ⊢
      have n0 : w2.cell? ⟨z, 0, none⟩ = some (.int .i64 rk) := (blk_cell HZ.out 0).trans rfl
      have n1 : w2.cell? ⟨z, 1, none⟩ = some (.int .u64 rn) := (blk_cell HZ.out 1).trans rfl
      go_wp2
      go_still_tail 8, (by kernel_rfl)
      change wpList _ _ _ _ _ w2.drew
      go_wp2
      exact ⟨rfl, rfl, HB2.out.drew⟩
  · subst hk
    have q2 : (rk != rk) = false := bne_self_eq_false rk
    have q3 : decide (n ≤ rn) = true := decide_eq_true hle
    go_enter Try.func63, Try.ntmps63
    go_wp2
    go_quiet (fail)
    go_wp2
    have HB := Aside0.mk (pw_below_drewN (Below.refl w.heap.size w) nq)
    replace x0 : (w.drewN nq).cell? ⟨g, j * 2, none⟩ = some (.int .i64 rk) := x0
    replace x1 : (w.drewN nq).cell? ⟨g, j * 2 + 1, none⟩ = some (.int .u64 rn) := x1
    replace k0 : (w.drewN nq).cell? ⟨o, 0, none⟩ = some (.slice (some ⟨g, 0, none⟩) len c) := k0
    replace k1 : (w.drewN nq).cell? ⟨o, 1, none⟩ = some (.int .i64 j) := k1
    have HS := Aside0.mk (show w.heap.size ≤ (w.drewN nq).heap.size from Nat.le_refl _)
    generalize w.drewN nq = w1 at HB x0 x1 k0 k1 HS ⊢
    have x0A := some_alloc x0 (.cells #[.int .i64 0, .int .u64 0] 25)
    have x1A := some_alloc x1 (.cells #[.int .i64 0, .int .u64 0] 25)
    have k0A := some_alloc k0 (.cells #[.int .i64 0, .int .u64 0] 25)
    have k1A := some_alloc k1 (.cells #[.int .i64 0, .int .u64 0] 25)
    go_region_law (fail)
    all_goals
      change Exit.then _ _ _ _ (w1.alloc (.cells #[.int .i64 rk, .int .u64 rn] 25)).drew
      clear x0A x1A k0A k1A
      have HB2 := Aside0.mk ((HB.out.alloc HS.out (.cells #[.int .i64 rk, .int .u64 rn] 25)).drew)
      have HZ := Aside0.mk (blk_drew (blk_new w1 (.cells #[.int .i64 rk, .int .u64 rn] 25)))
      have k2 : ((w1.alloc (.cells #[.int .i64 rk, .int .u64 rn] 25)).drew).cell? ⟨o, 1, none⟩ = some (.int .i64 j) := some_alloc k1 (.cells #[.int .i64 rk, .int .u64 rn] 25)
      clear x0 x1 k0 k1
      generalize w1.heap.size = z at HZ ⊢
      generalize (w1.alloc (.cells #[.int .i64 rk, .int .u64 rn] 25)).drew = w2 at HB2 HZ k2 ⊢
      have n0 : w2.cell? ⟨z, 0, none⟩ = some (.int .i64 rk) := (blk_cell HZ.out 0).trans rfl
      have n1 : w2.cell? ⟨z, 1, none⟩ = some (.int .u64 rn) := (blk_cell HZ.out 1).trans rfl
      go_wp2
      go_still_tail 8, (by kernel_rfl)
      change wpList _ _ _ _ _ w2.drew
      go_wp2
      exact ⟨rfl, rfl, HB2.out.drew⟩


end Go.Proofs.Ythlllcmffgdcmab.Src

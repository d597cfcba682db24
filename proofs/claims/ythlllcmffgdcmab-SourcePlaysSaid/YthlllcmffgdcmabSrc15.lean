import Derived.Test.YthlllcmffgdcmabSrc14
import Derived.BigRegion
namespace Go.Proofs.Ythlllcmffgdcmab.Src
open Go.RowKit Go.Proofs.YthlllcmffgdcmabW.PrintWords Go.Proofs.YthlllcmffgdcmabW.PrintLast Go.Proofs.YthlllcmffgdcmabW.PrintMore
set_option linter.unusedVariables false
set_option linter.unusedSimpArgs false

/-- A guard's two variables are told what happened; all else is as it was. -/
structure Mark (de g : Nat) (u : Array Value) (w w' : World) : Prop where
  e : w'.heap[de]? = some (.cells #[.int .i64 2] 3 (0, 0))
  u : w'.heap[g]? = some (.cells u 27 (0, 0))
  os : w'.os = w.os
  tape : w'.tape = w.tape
  output : w'.output = w.output
  size : w.heap.size ≤ w'.heap.size
  block : ∀ i, i ≠ de → i ≠ g → i < w.heap.size → w'.heap[i]? = w.heap[i]?
theorem Mark.below {de g : Nat} {u : Array Value} {w w' : World} (h : Mark de g u w w') {B : Nat} (h1 : B ≤ de) (h2 : B ≤ g) (h3 : B ≤ w.heap.size) : Below B w w' := ⟨h.os, h.tape, h.output, h.size, fun i hi => h.block i (by omega) (by omega) (by omega)⟩
theorem Mark.tame {de g : Nat} {u x y : Array Value} {w w' : World} (h : Mark de g u w w') (h1 : w.heap[de]? = some (.cells x 3 (0, 0))) (h2 : w.heap[g]? = some (.cells y 27 (0, 0))) : Tame w w' := fun i cs t hi h3 h27 =>
  (h.block i (blk_ne hi h1 h3) (blk_ne hi h2 h27) (blk_lt hi)).trans hi
theorem Mark.drew {de g : Nat} {u : Array Value} {w w' : World} (h : Mark de g u w w') : Mark de g u w w'.drew := ⟨h.e, h.u, h.os, h.tape, h.output, h.size, h.block⟩
/-- The stores, in their order. -/
theorem mark_ab {de g : Nat} {a b c d e : Value} {x : Int} {w w1 : World} (hb : Below w.heap.size w w1) (h1 : w.heap[de]? = some (.cells #[.int .i64 x] 3 (0, 0))) (h2 : w.heap[g]? = some (.cells zU 27 (0, 0))) :
    Mark de g #[a, b, c, d, e] w (set5 (w1.setCell ⟨de, 0, none⟩ (.int .i64 2)) g a b c d e) := by
  have hne : de ≠ g := blk_ne h1 h2 (by decide)
  have k1 : (w1.setCell ⟨de, 0, none⟩ (.int .i64 2)).heap[de]? = some (.cells #[.int .i64 2] 3 (0, 0)) := by simpa using blk_set (blk_below h1 hb) 0 (.int .i64 2)
  have k2 := blk_far (blk_below h2 hb) (p := ⟨de, 0, none⟩) (Ne.symm hne) (.int .i64 2)
  have hB : Below 0 w (set5 (w1.setCell ⟨de, 0, none⟩ (.int .i64 2)) g a b c d e) := set5_below ((hb.mono (Nat.zero_le _)).setCell (Nat.zero_le _) _) (Nat.zero_le _)
  refine ⟨?_, set5_blk k2, hB.os, hB.tape, hB.output, hB.size, fun i i1 i2 i3 => ?_⟩
  · unfold set5
    exact blk_far (blk_far (blk_far (blk_far (blk_far k1 (p := ⟨g, 0, none⟩) hne a) (p := ⟨g, 1, none⟩) hne b) (p := ⟨g, 2, none⟩) hne c) (p := ⟨g, 3, none⟩) hne d) (p := ⟨g, 4, none⟩) hne e
  · unfold set5
    rw [Below.heap_setCell _ ⟨g, 4, none⟩ _ i i2, Below.heap_setCell _ ⟨g, 3, none⟩ _ i i2, Below.heap_setCell _ ⟨g, 2, none⟩ _ i i2, Below.heap_setCell _ ⟨g, 1, none⟩ _ i i2, Below.heap_setCell _ ⟨g, 0, none⟩ _ i i2, Below.heap_setCell _ ⟨de, 0, none⟩ _ i i1]
    exact hb.block i i3
/-- What a draw panics with where another one stands. -/
def unV (a b c k n : Int) : Value := .iface 27 (.agg #[.int .i64 a, .int .i64 b, .int .i64 c, .int .i64 k, .int .u64 n])
theorem ta_un5 (a b c k n : Int) (w : World) : (Instr.typeAssert (.iface 27 (.agg #[.int .i64 a, .int .i64 b, .int .i64 c, .int .i64 k, .int .u64 n])) 20 27 true).run Try.prog w = .ok (.tuple #[.agg #[.int .i64 a, .int .i64 b, .int .i64 c, .int .i64 k, .int .u64 n], .bool true]) w := by kernel_rfl
theorem ta_un168 (a b c k n : Int) (w : World) : (Instr.typeAssert (.iface 27 (.agg #[.int .i64 a, .int .i64 b, .int .i64 c, .int .i64 k, .int .u64 n])) 20 168 true).run Try.prog w = .ok (.tuple #[.agg #[], .bool false]) w := by kernel_rfl

set_option maxHeartbeats 4000000 in
set_option maxRecDepth 100000 in
theorem caught_un (p q : Addr) (de g : Nat) (x a b c k n : Int) (older : List PanicEntry) (w : World) (hp : w.cell? p = some (.pointer (some ⟨de, 0, none⟩))) (hq : w.cell? q = some (.pointer (some ⟨g, 0, none⟩))) (hd : w.heap[de]? = some (.cells #[.int .i64 x] 3 (0, 0))) (hg : w.heap[g]? = some (.cells zU 27 (0, 0))) :
    CallsD Try.prog 76 #[.pointer (some p), .pointer (some q)] (.panicking ({ v := unV a b c k n, recovered := false } :: older)) w fun e u' w' =>
      e = .returned (.tuple #[]) ∧ u' = .panicking ({ v := unV a b c k n, recovered := true } :: older) ∧ Mark de g #[.int .i64 a, .int .i64 b, .int .i64 c, .int .i64 k, .int .u64 n] w w' := by
  unfold unV
  refine callsD_of_wpS Try.func76 rfl fun c₀ cs hu => ?_
  apply wpS_seq
  apply wpS_region
  simp [wpOpsS, go_sem, recoverD, hu, Try.ntmps76, Exit.thenS]
  refine wpS_of_wp ?_
  rw [tmps_idle]
  generalize hQ : (fun e a' w' => bodyPostS Try.prog Try.f76 _ cs _ e a' _ w') = Q
  have HQ := Aside0.mk hQ
  have HD := Aside0.mk hd
  have HG := Aside0.mk hg
  have t1 := ta_un168 a b c k n
  have t2 := ta_un5 a b c k n
  have hb := below_alloc (Below.refl w.heap.size w) (.cells #[.int .i64 a, .int .i64 b, .int .i64 c, .int .i64 k, .int .u64 n] 27)
  have HB := Aside0.mk hb.drew
  have p0 := pw_cell_below hb hp
  have q0 := pw_cell_below hb hq
  have hd' := blk_below hd hb
  have hg' := blk_below hg hb
  have d0 : (w.alloc (.cells #[.int .i64 a, .int .i64 b, .int .i64 c, .int .i64 k, .int .u64 n] 27)).cell? ⟨de, 0, none⟩ = some (.int .i64 x) := (blk_cell hd' 0).trans rfl
  have fd := blk_frozen hd' 0
  have hz := blk_new w (.cells #[.int .i64 a, .int .i64 b, .int .i64 c, .int .i64 k, .int .u64 n] 27)
  clear hQ hu hp hq hd hg hb
  go_wp2
  have HBL := Aside0.mk (below_alloc (Below.refl w.heap.size w) (.cells #[.int .i64 a, .int .i64 b, .int .i64 c, .int .i64 k, .int .u64 n] 27))
  have HDD := Aside0.mk hd'
  have HGG := Aside0.mk hg'
  have hzg : w.heap.size ≠ g := by have := blk_lt HG.out; omega
  have hzd : w.heap.size ≠ de := by have := blk_lt HD.out; omega
  generalize w.heap.size = z at hz hzg hzd ⊢
  clear hd' hg' d0 fd
  change Code.wp _ _ _ _ (w.alloc (.cells #[.int .i64 a, .int .i64 b, .int .i64 c, .int .i64 k, .int .u64 n] 27))
  generalize w.alloc (.cells #[.int .i64 a, .int .i64 b, .int .i64 c, .int .i64 k, .int .u64 n] 27) = w1 at p0 q0 hz HBL HDD HGG HB ⊢
  have z0 : w1.cell? ⟨z, 0, none⟩ = some (.int .i64 a) := (blk_cell hz 0).trans rfl
  have z1 : w1.cell? ⟨z, 1, none⟩ = some (.int .i64 b) := (blk_cell hz 1).trans rfl
  have z2 : w1.cell? ⟨z, 2, none⟩ = some (.int .i64 c) := (blk_cell hz 2).trans rfl
  have z3 : w1.cell? ⟨z, 3, none⟩ = some (.int .i64 k) := (blk_cell hz 3).trans rfl
  have z4 : w1.cell? ⟨z, 4, none⟩ = some (.int .u64 n) := (blk_cell hz 4).trans rfl
  have d0 : w1.cell? ⟨de, 0, none⟩ = some (.int .i64 x) := (blk_cell HDD.out 0).trans rfl
  have fd := blk_frozen HDD.out 0
  have g0 : w1.cell? ⟨g, 0, none⟩ = some (.int .i64 0) := (blk_cell HGG.out 0).trans rfl
  have g1 : w1.cell? ⟨g, 1, none⟩ = some (.int .i64 0) := (blk_cell HGG.out 1).trans rfl
  have g2 : w1.cell? ⟨g, 2, none⟩ = some (.int .i64 0) := (blk_cell HGG.out 2).trans rfl
  have g3 : w1.cell? ⟨g, 3, none⟩ = some (.int .i64 0) := (blk_cell HGG.out 3).trans rfl
  have g4 : w1.cell? ⟨g, 4, none⟩ = some (.int .u64 0) := (blk_cell HGG.out 4).trans rfl
  have fg0 := blk_frozen HGG.out 0
  have fg1 := blk_frozen HGG.out 1
  have fg2 := blk_frozen HGG.out 2
  have fg3 := blk_frozen HGG.out 3
  have fg4 := blk_frozen HGG.out 4
  clear hz
  have hne : de ≠ g := blk_ne HD.out HG.out (by decide)
  have hne' : g ≠ de := Ne.symm hne
  refine wp_region_noPanic ?_
  go_region_law (fail)
  all_goals
    refine NoPanic.normal ?_
    have HM := Aside0.mk (Mark.drew (mark_ab (a := .int .i64 a) (b := .int .i64 b) (c := .int .i64 c) (d := .int .i64 k) (e := .int .u64 n) HBL.out HD.out HG.out))
    unfold set5 at HM
    generalize (((((((w1.setCell ⟨de, 0, none⟩ (.int .i64 2)).setCell ⟨g, 0, none⟩ (.int .i64 a)).setCell ⟨g, 1, none⟩ (.int .i64 b)).setCell ⟨g, 2, none⟩ (.int .i64 c)).setCell ⟨g, 3, none⟩ (.int .i64 k)).setCell ⟨g, 4, none⟩ (.int .u64 n)).drew) = w9 at HM ⊢
    go_wp2
    rw [← HQ.out]
    simp [bodyPostS, results, Try.results76, unV]
    exact HM.out

set_option maxHeartbeats 1000000 in
theorem caught_un_calls (K : Nat) (caps : Array Value) (hK : ∀ W, (callFunc K caps).run Try.prog W = .ok (.enter K caps) W) (de g : Nat) (a b c k n : Int) (w : World) (Q : World → Prop)
    (hrun : Calls Try.prog K caps (inW w ⟨de, 0, none⟩ ⟨g, 0, none⟩) fun e w' => e = .panicked [{ v := unV a b c k n, recovered := false }] ∧ Q w' ∧ w'.cell? ⟨w.heap.size, 0, none⟩ = some (.pointer (some ⟨de, 0, none⟩)) ∧ w'.cell? ⟨w.heap.size + 1, 0, none⟩ = some (.pointer (some ⟨g, 0, none⟩)) ∧ (∃ x, w'.heap[de]? = some (.cells #[.int .i64 x] 3 (0, 0))) ∧ w'.heap[g]? = some (.cells zU 27 (0, 0))) :
    Calls Try.prog 56 #[.func (.func K) #[] caps, .pointer (some ⟨de, 0, none⟩), .pointer (some ⟨g, 0, none⟩)] w fun e w' => e = .returned (.tuple #[]) ∧ ∃ w1, Q w1 ∧ Mark de g #[.int .i64 a, .int .i64 b, .int .i64 c, .int .i64 k, .int .u64 n] w1 w' := by
  have HR := Aside0.mk hrun
  have h1 := hmf
  clear hrun
  go_enter_defers Try.func56, Try.ntmps56
  go_wp2
  refine HR.out.mono ?_
  rintro e w1 ⟨rfl, hq, c1, c2, ⟨x, c3⟩, c4⟩
  have HQ := Aside0.mk hq
  have H1 := Aside0.mk c1
  have H2 := Aside0.mk c2
  have H3 := Aside0.mk c3
  have H4 := Aside0.mk c4
  clear hq c1 c2 c3 c4
  go_wp2
  refine leaves_cons (f := 76) (args := #[.pointer (some ⟨w.heap.size, 0, none⟩), .pointer (some ⟨w.heap.size + 1, 0, none⟩)]) (by simp) (by simp [go_sem]) ?_
  refine (caught_un _ _ de g x a b c k n [] w1 H1.out H2.out H3.out H4.out).mono ?_
  rintro e u' w'' ⟨rfl, rfl, hm⟩
  have hfin : ∃ w1', Q w1' ∧ Mark de g #[.int .i64 a, .int .i64 b, .int .i64 c, .int .i64 k, .int .u64 n] w1' w'' := ⟨w1, HQ.out, hm⟩
  have HF := Aside0.mk hfin
  clear hfin hm
  simp [Leaves, settle, results, Try.results56, go_sem]
  exact HF.out

set_option maxHeartbeats 4000000 in
set_option maxRecDepth 100000 in
theorem guard_un (K : Nat) (caps : Array Value) (hK : ∀ W, (callFunc K caps).run Try.prog W = .ok (.enter K caps) W) (a b c k n : Int) (w : World) (R : World → Prop)
    (hrun : ∀ W, Below w.heap.size w W → Calls Try.prog K caps W fun e w' => e = .panicked [{ v := unV a b c k n, recovered := false }] ∧ Since w.heap.size W w' ∧ R w') :
    Calls Try.prog 16 #[.func (.func K) #[] caps] w fun e w' => e = .returned (.tuple #[.int .i64 2, .agg #[.int .i64 a, .int .i64 b, .int .i64 c, .int .i64 k, .int .u64 n]]) ∧ ∃ w1, R w1 ∧ Tame w1 w' ∧ Below w.heap.size w1 w' := by
  have hrun2 : Calls Try.prog K caps (inW (gW w) ⟨w.heap.size + 1, 0, none⟩ ⟨w.heap.size + 1 + 1, 0, none⟩) fun e w' => e = .panicked [{ v := unV a b c k n, recovered := false }] ∧ (R w' ∧ Vars w.heap.size w' 0 zU) ∧ w'.cell? ⟨(gW w).heap.size, 0, none⟩ = some (.pointer (some ⟨w.heap.size + 1, 0, none⟩)) ∧ w'.cell? ⟨(gW w).heap.size + 1, 0, none⟩ = some (.pointer (some ⟨w.heap.size + 1 + 1, 0, none⟩)) ∧ (∃ x, w'.heap[w.heap.size + 1]? = some (.cells #[.int .i64 x] 3 (0, 0))) ∧ w'.heap[w.heap.size + 1 + 1]? = some (.cells zU 27 (0, 0)) := by
    refine (hrun _ ((gW_below w).trans ((inW_below _ _ _).mono (gW_below w).size))).mono fun e w' ⟨h1, h2, h3⟩ => ?_
    have hs := gW_size w
    have hs2 : (inW (gW w) ⟨w.heap.size + 1, 0, none⟩ ⟨w.heap.size + 1 + 1, 0, none⟩).heap.size = (gW w).heap.size + 2 := by simp [inW]
    have hv : Vars w.heap.size w' 0 zU := ⟨(h2.2 _ (by omega) (by omega)).trans (blk_below (gW_0 w) (inW_below _ _ _)), (h2.2 _ (by omega) (by omega)).trans (blk_below (gW_1 w) (inW_below _ _ _)), (h2.2 _ (by omega) (by omega)).trans (blk_below (gW_2 w) (inW_below _ _ _))⟩
    have hp : w'.heap[(gW w).heap.size]? = some (.cells #[.pointer (some ⟨w.heap.size + 1, 0, none⟩)] 137 (0, 0)) := (h2.2 _ (by omega) (by omega)).trans (blk_alloc (blk_new (gW w) _) _)
    have hq : w'.heap[(gW w).heap.size + 1]? = some (.cells #[.pointer (some ⟨w.heap.size + 1 + 1, 0, none⟩)] 138 (0, 0)) := (h2.2 _ (by omega) (by omega)).trans (by simpa [inW] using blk_new ((gW w).alloc (.cells #[.pointer (some ⟨w.heap.size + 1, 0, none⟩)] 137)) (.cells #[.pointer (some ⟨w.heap.size + 1 + 1, 0, none⟩)] 138))
    exact ⟨h1, ⟨h3, hv⟩, (blk_cell hp 0).trans rfl, (blk_cell hq 0).trans rfl, ⟨0, hv.e⟩, hv.u⟩
  have HR := Aside0.mk (caught_un_calls K caps hK _ _ a b c k n _ _ hrun2)
  clear hrun hrun2
  go_enter Try.func16, Try.ntmps16
  go_wp2_with (go_at_call 56; refine HR.out.mono ?_; rintro e w1 ⟨rfl, w0, ⟨hR, hV0⟩, hm⟩; have HM := Aside0.mk hm; clear hm)
  have H1 := Aside0.mk hR
  have hr1 : w1.heap[w.heap.size]? = some (.cells zU 27 (0, 0)) := (HM.out.block _ (by omega) (by omega) (blk_lt hV0.r)).trans hV0.r
  have HV := Aside0.mk hr1
  have HW1 := Aside0.mk (HM.out.tame hV0.e hV0.u)
  have HW2 := Aside0.mk (HM.out.below (B := w.heap.size) (by omega) (by omega) (by have := blk_lt hV0.e; omega))
  have a0 : w1.cell? ⟨w.heap.size + 1, 0, none⟩ = some (.int .i64 2) := (blk_cell HM.out.e 0).trans rfl
  have b0 : w1.cell? ⟨w.heap.size + 1 + 1, 0, none⟩ = some (.int .i64 a) := (blk_cell HM.out.u 0).trans rfl
  have b1 : w1.cell? ⟨w.heap.size + 1 + 1, 1, none⟩ = some (.int .i64 b) := (blk_cell HM.out.u 1).trans rfl
  have b2 : w1.cell? ⟨w.heap.size + 1 + 1, 2, none⟩ = some (.int .i64 c) := (blk_cell HM.out.u 2).trans rfl
  have b3 : w1.cell? ⟨w.heap.size + 1 + 1, 3, none⟩ = some (.int .i64 k) := (blk_cell HM.out.u 3).trans rfl
  have b4 : w1.cell? ⟨w.heap.size + 1 + 1, 4, none⟩ = some (.int .u64 n) := (blk_cell HM.out.u 4).trans rfl
  clear hR hV0 hr1
  go_wp2
  go_still_tail 3, (by kernel_rfl)
  change wpList _ _ _ _ _ w1.drew
  have k0 : w1.drew.cell? ⟨w.heap.size, 0, none⟩ = some (.int .i64 0) := (blk_cell HV.out 0).trans rfl
  have k1 : w1.drew.cell? ⟨w.heap.size, 1, none⟩ = some (.int .i64 0) := (blk_cell HV.out 1).trans rfl
  have k2 : w1.drew.cell? ⟨w.heap.size, 2, none⟩ = some (.int .i64 0) := (blk_cell HV.out 2).trans rfl
  have k3 : w1.drew.cell? ⟨w.heap.size, 3, none⟩ = some (.int .i64 0) := (blk_cell HV.out 3).trans rfl
  have k4 : w1.drew.cell? ⟨w.heap.size, 4, none⟩ = some (.int .u64 0) := (blk_cell HV.out 4).trans rfl
  have f0 : w1.drew.frozen? ⟨w.heap.size, 0, none⟩ = false := blk_frozen (blk_drew HV.out) 0
  have f1 : w1.drew.frozen? ⟨w.heap.size, 1, none⟩ = false := blk_frozen (blk_drew HV.out) 1
  have f2 : w1.drew.frozen? ⟨w.heap.size, 2, none⟩ = false := blk_frozen (blk_drew HV.out) 2
  have f3 : w1.drew.frozen? ⟨w.heap.size, 3, none⟩ = false := blk_frozen (blk_drew HV.out) 3
  have f4 : w1.drew.frozen? ⟨w.heap.size, 4, none⟩ = false := blk_frozen (blk_drew HV.out) 4
  have HD := Aside0.mk (blk_drew HV.out)
  have HT := Aside0.mk (show Tame w1 w1.drew from Tame.refl w1)
  have HBD := Aside0.mk (show Below w.heap.size w1 w1.drew from (Below.refl _ _).drew)
  clear a0 b0 b1 b2 b3 b4
  generalize w1.drew = w2 at k0 k1 k2 k3 k4 f0 f1 f2 f3 f4 HD HT HBD ⊢
  go_wp2
  refine bodyPost_ret (results_tc (P := Try.prog) rfl _ (set5 w2 w.heap.size (.int .i64 a) (.int .i64 b) (.int .i64 c) (.int .i64 k) (.int .u64 n)) w.heap.size 27 _ (0, 0) _ rfl (set5_blk HD.out) Try.underlying27 rfl (by kernel_rfl)) rfl ⟨rfl, w0, H1.out, HW1.out.trans (set5_tame HT.out HD.out), HW2.out.trans (set5_below HBD.out (Nat.le_refl _))⟩
end Go.Proofs.Ythlllcmffgdcmab.Src

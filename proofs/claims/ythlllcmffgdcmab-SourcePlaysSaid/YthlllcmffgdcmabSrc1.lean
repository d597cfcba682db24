import Derived.Test.YthlllcmffgdcmabSrc0
import Derived.StillTailTactics
namespace Go.Proofs.Ythlllcmffgdcmab.Src
open Go.RowKit Go.Proofs.YthlllcmffgdcmabW.PrintWords Go.Proofs.YthlllcmffgdcmabW.PrintLast Go.Proofs.YthlllcmffgdcmabW.PrintMore
set_option linter.unusedVariables false
set_option linter.unusedSimpArgs false

/-- Blocks of other types than a guard's own variables are as they were. -/
def Tame (w w' : World) : Prop := ∀ (i : Nat) (cs : Array Value) (t : TypeId), w.heap[i]? = some (.cells cs t (0, 0)) → t ≠ 3 → t ≠ 27 → w'.heap[i]? = some (.cells cs t (0, 0))
/-- Blocks from n on that were there are as they were. -/
def Since (n : Nat) (w w' : World) : Prop := w.heap.size ≤ w'.heap.size ∧ ∀ i, n ≤ i → i < w.heap.size → w'.heap[i]? = w.heap[i]?
theorem Since.refl (n : Nat) (w : World) : Since n w w := ⟨Nat.le_refl _, fun _ _ _ => rfl⟩
theorem Since.trans {n : Nat} {a b c : World} (h : Since n a b) (k : Since n b c) : Since n a c := ⟨Nat.le_trans h.1 k.1, fun i h1 h2 => (k.2 i h1 (Nat.lt_of_lt_of_le h2 h.1)).trans (h.2 i h1 h2)⟩
theorem Since.below {n : Nat} {a b c : World} (h : Since n a b) (k : Below b.heap.size b c) : Since n a c := h.trans ⟨k.size, fun i _ h2 => k.block i h2⟩

def zU : Array Value := #[.int .i64 0, .int .i64 0, .int .i64 0, .int .i64 0, .int .u64 0]
/-- The world behind a guard's own variables. -/
def gW (w : World) : World := ((w.alloc (.cells zU 27)).alloc (.cells #[.int .i64 0] 3)).alloc (.cells zU 27)
theorem gW_below (w : World) : Below w.heap.size w (gW w) := below_alloc (below_alloc (below_alloc (Below.refl _ _) _) _) _
theorem gW_size (w : World) : (gW w).heap.size = w.heap.size + 3 := by simp [gW]
theorem gW_0 (w : World) : (gW w).heap[w.heap.size]? = some (.cells zU 27 (0, 0)) := blk_alloc (blk_alloc (blk_new w _) _) _
theorem gW_1 (w : World) : (gW w).heap[w.heap.size + 1]? = some (.cells #[.int .i64 0] 3 (0, 0)) := by
  have := blk_alloc (blk_new (w.alloc (.cells zU 27)) (.cells #[.int .i64 0] 3)) (.cells zU 27)
  rw [show (w.alloc (.cells zU 27)).heap.size = w.heap.size + 1 by simp] at this
  exact this
theorem gW_2 (w : World) : (gW w).heap[w.heap.size + 1 + 1]? = some (.cells zU 27 (0, 0)) := by
  have := blk_new ((w.alloc (.cells zU 27)).alloc (.cells #[.int .i64 0] 3)) (.cells zU 27)
  rw [show ((w.alloc (.cells zU 27)).alloc (.cells #[.int .i64 0] 3)).heap.size = w.heap.size + 1 + 1 by simp] at this
  exact this
theorem inW_below (w : World) (p q : Addr) : Below w.heap.size w (inW w p q) := below_alloc (below_alloc (Below.refl _ _) _) _

/-- What stands in a guard's own variables. -/
structure Vars (n : Nat) (w : World) (x : Int) (u : Array Value) : Prop where
  r : w.heap[n]? = some (.cells zU 27 (0, 0))
  e : w.heap[n + 1]? = some (.cells #[.int .i64 x] 3 (0, 0))
  u : w.heap[n + 1 + 1]? = some (.cells u 27 (0, 0))

/-- A struct of five cells, stored whole. -/
def set5 (w : World) (n : Nat) (a b c d e : Value) : World := ((((w.setCell ⟨n, 0, none⟩ a).setCell ⟨n, 1, none⟩ b).setCell ⟨n, 2, none⟩ c).setCell ⟨n, 3, none⟩ d).setCell ⟨n, 4, none⟩ e
theorem set5_blk {w : World} {n : Nat} {a b c d e : Value} (h : w.heap[n]? = some (.cells zU 27 (0, 0))) : (set5 w n a b c d e).heap[n]? = some (.cells #[a, b, c, d, e] 27 (0, 0)) := by
  have := blk_set (blk_set (blk_set (blk_set (blk_set h 0 a) 1 b) 2 c) 3 d) 4 e
  simpa [zU, set5] using this
theorem set5_below {B : Nat} {w0 w : World} {n : Nat} {a b c d e : Value} (h : Below B w0 w) (hn : B ≤ n) : Below B w0 (set5 w n a b c d e) :=
  ((((h.setCell hn _).setCell hn _).setCell hn _).setCell hn _).setCell hn _
theorem Tame.refl (w : World) : Tame w w := fun _ _ _ h _ _ => h
theorem Tame.set {w0 w : World} (h : Tame w0 w) {n : Nat} {cs : Array Value} {t : TypeId} (hb : w.heap[n]? = some (.cells cs t (0, 0))) (ht : t = 3 ∨ t = 27) (i : Nat) (v : Value) : Tame w0 (w.setCell ⟨n, i, none⟩ v) := fun k c u hk h3 h27 => by
  have h1 := h k c u hk h3 h27
  refine blk_far h1 ?_ v
  rintro rfl
  rw [hb] at h1
  injection h1 with h1
  injection h1 with _ h1 _
  rcases ht with ht | ht
  · exact h3 (h1.symm.trans ht)
  · exact h27 (h1.symm.trans ht)
theorem Tame.alloc {w0 w : World} (h : Tame w0 w) (o : Obj) : Tame w0 (w.alloc o) := fun k c u hk h3 h27 => blk_alloc (h k c u hk h3 h27) o
theorem Tame.drew {w0 w : World} (h : Tame w0 w) : Tame w0 w.drew := h
theorem Tame.trans {a b c : World} (h : Tame a b) (k : Tame b c) : Tame a c := fun i cs t hi h3 h27 => k i cs t (h i cs t hi h3 h27) h3 h27
theorem set5_tame {w0 w : World} {n : Nat} {a b c d e : Value} (h : Tame w0 w) (hn : w.heap[n]? = some (.cells zU 27 (0, 0))) : Tame w0 (set5 w n a b c d e) :=
  ((((h.set hn (.inr rfl) 0 a).set (blk_set hn 0 a) (.inr rfl) 1 b).set (blk_set (blk_set hn 0 a) 1 b) (.inr rfl) 2 c).set (blk_set (blk_set (blk_set hn 0 a) 1 b) 2 c) (.inr rfl) 3 d).set (blk_set (blk_set (blk_set (blk_set hn 0 a) 1 b) 2 c) 3 d) (.inr rfl) 4 e

set_option maxHeartbeats 1000000 in
set_option maxRecDepth 100000 in
theorem guard_well (K : Nat) (caps : Array Value) (hK : ∀ W, (callFunc K caps).run Try.prog W = .ok (.enter K caps) W) (w : World) (R : World → Prop)
    (hrun : ∀ W, Below w.heap.size w W → Calls Try.prog K caps W fun e w' => e = .returned (.tuple #[]) ∧ Since w.heap.size W w' ∧ R w') :
    Calls Try.prog 16 #[.func (.func K) #[] caps] w fun e w' => e = .returned (.tuple #[.int .i64 0, .agg zU]) ∧ ∃ w1, R w1 ∧ Tame w1 w' ∧ Below w.heap.size w1 w' := by
  have hrun2 : Calls Try.prog K caps (inW (gW w) ⟨w.heap.size + 1, 0, none⟩ ⟨w.heap.size + 1 + 1, 0, none⟩) fun e w' => e = .returned (.tuple #[]) ∧ R w' ∧ Vars w.heap.size w' 0 zU := by
    refine (hrun _ ((gW_below w).trans ((inW_below _ _ _).mono (gW_below w).size))).mono fun e w' ⟨h1, h2, h3⟩ => ⟨h1, h3, ?_⟩
    have hs := gW_size w
    have hs2 : (inW (gW w) ⟨w.heap.size + 1, 0, none⟩ ⟨w.heap.size + 1 + 1, 0, none⟩).heap.size = (gW w).heap.size + 2 := by simp [inW]
    exact ⟨(h2.2 _ (by omega) (by omega)).trans (blk_below (gW_0 w) (inW_below _ _ _)), (h2.2 _ (by omega) (by omega)).trans (blk_below (gW_1 w) (inW_below _ _ _)), (h2.2 _ (by omega) (by omega)).trans (blk_below (gW_2 w) (inW_below _ _ _))⟩
  have HR := Aside0.mk (caught_well K caps hK _ _ _ _ hrun2)
  clear hrun hrun2
  go_enter Try.func16, Try.ntmps16
  go_wp2_with (go_at_call 56; refine HR.out.mono ?_; rintro e w1 ⟨rfl, hR, hV⟩)
  have H1 := Aside0.mk hR
  have HV := Aside0.mk hV
  have a0 : w1.cell? ⟨w.heap.size + 1, 0, none⟩ = some (.int .i64 0) := (blk_cell hV.e 0).trans rfl
  have b0 : w1.cell? ⟨w.heap.size + 1 + 1, 0, none⟩ = some (.int .i64 0) := (blk_cell hV.u 0).trans rfl
  have b1 : w1.cell? ⟨w.heap.size + 1 + 1, 1, none⟩ = some (.int .i64 0) := (blk_cell hV.u 1).trans rfl
  have b2 : w1.cell? ⟨w.heap.size + 1 + 1, 2, none⟩ = some (.int .i64 0) := (blk_cell hV.u 2).trans rfl
  have b3 : w1.cell? ⟨w.heap.size + 1 + 1, 3, none⟩ = some (.int .i64 0) := (blk_cell hV.u 3).trans rfl
  have b4 : w1.cell? ⟨w.heap.size + 1 + 1, 4, none⟩ = some (.int .u64 0) := (blk_cell hV.u 4).trans rfl
  clear hR hV
  go_wp2
  go_still_tail 3, (by kernel_rfl)
  change wpList _ _ _ _ _ w1.drew
  have k0 : w1.drew.cell? ⟨w.heap.size, 0, none⟩ = some (.int .i64 0) := (blk_cell HV.out.r 0).trans rfl
  have k1 : w1.drew.cell? ⟨w.heap.size, 1, none⟩ = some (.int .i64 0) := (blk_cell HV.out.r 1).trans rfl
  have k2 : w1.drew.cell? ⟨w.heap.size, 2, none⟩ = some (.int .i64 0) := (blk_cell HV.out.r 2).trans rfl
  have k3 : w1.drew.cell? ⟨w.heap.size, 3, none⟩ = some (.int .i64 0) := (blk_cell HV.out.r 3).trans rfl
  have k4 : w1.drew.cell? ⟨w.heap.size, 4, none⟩ = some (.int .u64 0) := (blk_cell HV.out.r 4).trans rfl
  have f0 : w1.drew.frozen? ⟨w.heap.size, 0, none⟩ = false := blk_frozen (blk_drew HV.out.r) 0
  have f1 : w1.drew.frozen? ⟨w.heap.size, 1, none⟩ = false := blk_frozen (blk_drew HV.out.r) 1
  have f2 : w1.drew.frozen? ⟨w.heap.size, 2, none⟩ = false := blk_frozen (blk_drew HV.out.r) 2
  have f3 : w1.drew.frozen? ⟨w.heap.size, 3, none⟩ = false := blk_frozen (blk_drew HV.out.r) 3
  have f4 : w1.drew.frozen? ⟨w.heap.size, 4, none⟩ = false := blk_frozen (blk_drew HV.out.r) 4
  have HD := Aside0.mk (blk_drew HV.out.r)
  have HT := Aside0.mk (show Tame w1 w1.drew from Tame.refl w1)
  have HBD := Aside0.mk (show Below w.heap.size w1 w1.drew from (Below.refl _ _).drew)
  clear a0 b0 b1 b2 b3 b4
  generalize w1.drew = w2 at k0 k1 k2 k3 k4 f0 f1 f2 f3 f4 HD HT HBD ⊢
  go_wp2
  refine bodyPost_ret (results_tc (P := Try.prog) rfl _ (set5 w2 w.heap.size (.int .i64 0) (.int .i64 0) (.int .i64 0) (.int .i64 0) (.int .u64 0)) w.heap.size 27 zU (0, 0) _ rfl (set5_blk HD.out) Try.underlying27 rfl (by kernel_rfl)) rfl ⟨rfl, w1, H1.out, set5_tame HT.out HD.out, set5_below HBD.out (Nat.le_refl _)⟩
set_option maxHeartbeats 1000000 in
set_option maxRecDepth 100000 in
theorem guard_dry (K : Nat) (caps : Array Value) (hK : ∀ W, (callFunc K caps).run Try.prog W = .ok (.enter K caps) W) (w : World) (R : World → Prop)
    (hrun : ∀ W, Below w.heap.size w W → Calls Try.prog K caps W fun e w' => e = .panicked [{ v := .iface 168 (.agg #[]), recovered := false }] ∧ Since w.heap.size W w' ∧ R w') :
    Calls Try.prog 16 #[.func (.func K) #[] caps] w fun e w' => e = .returned (.tuple #[.int .i64 1, .agg zU]) ∧ ∃ w1, R w1 ∧ Tame w1 w' ∧ Below w.heap.size w1 w' := by
  have hrun2 : Calls Try.prog K caps (inW (gW w) ⟨w.heap.size + 1, 0, none⟩ ⟨w.heap.size + 1 + 1, 0, none⟩) fun e w' => e = .panicked [{ v := .iface 168 (.agg #[]), recovered := false }] ∧ (R w' ∧ Vars w.heap.size w' 0 zU) ∧ w'.cell? ⟨(gW w).heap.size, 0, none⟩ = some (.pointer (some ⟨w.heap.size + 1, 0, none⟩)) ∧ (∃ x, w'.cell? ⟨w.heap.size + 1, 0, none⟩ = some (.int .i64 x)) ∧ w'.frozen? ⟨w.heap.size + 1, 0, none⟩ = false := by
    refine (hrun _ ((gW_below w).trans ((inW_below _ _ _).mono (gW_below w).size))).mono fun e w' ⟨h1, h2, h3⟩ => ?_
    have hs := gW_size w
    have hs2 : (inW (gW w) ⟨w.heap.size + 1, 0, none⟩ ⟨w.heap.size + 1 + 1, 0, none⟩).heap.size = (gW w).heap.size + 2 := by simp [inW]
    have hv : Vars w.heap.size w' 0 zU := ⟨(h2.2 _ (by omega) (by omega)).trans (blk_below (gW_0 w) (inW_below _ _ _)), (h2.2 _ (by omega) (by omega)).trans (blk_below (gW_1 w) (inW_below _ _ _)), (h2.2 _ (by omega) (by omega)).trans (blk_below (gW_2 w) (inW_below _ _ _))⟩
    have hp : w'.heap[(gW w).heap.size]? = some (.cells #[.pointer (some ⟨w.heap.size + 1, 0, none⟩)] 137 (0, 0)) := (h2.2 _ (by omega) (by omega)).trans (blk_alloc (blk_new (gW w) _) _)
    exact ⟨h1, ⟨h3, hv⟩, (blk_cell hp 0).trans rfl, ⟨0, (blk_cell hv.e 0).trans rfl⟩, blk_frozen hv.e 0⟩
  have HR := Aside0.mk (caught_dry_calls K caps hK _ _ _ _ hrun2)
  clear hrun hrun2
  go_enter Try.func16, Try.ntmps16
  go_wp2_with (go_at_call 56; refine HR.out.mono ?_; rintro e w1 ⟨rfl, w0, ⟨hR, hV0⟩, hw1⟩; have HW := Aside0.mk hw1; clear hw1)
  have hw1 := HW.out
  have H1 := Aside0.mk hR
  have hV : Vars w.heap.size w1 1 zU := by
    rw [hw1]
    exact ⟨blk_far (blk_alloc hV0.r _) (by simp) _, by simpa using blk_set (blk_alloc hV0.e (.cells #[] 168)) 0 (.int .i64 1), blk_far (blk_alloc hV0.u _) (by simp) _⟩
  have HV := Aside0.mk hV
  have HW1 := Aside0.mk (show Tame w0 w1 from hw1 ▸ ((Tame.refl w0).alloc (.cells #[] 168)).set (blk_alloc hV0.e (.cells #[] 168)) (.inl rfl) 0 (.int .i64 1))
  have HW2 := Aside0.mk (show Below w.heap.size w0 w1 from hw1 ▸ ((Below.refl w.heap.size w0).alloc (by have := blk_lt hV0.e; omega) (.cells #[] 168)).setCell (by simp) (.int .i64 1))
  have a0 : w1.cell? ⟨w.heap.size + 1, 0, none⟩ = some (.int .i64 1) := (blk_cell hV.e 0).trans rfl
  have b0 : w1.cell? ⟨w.heap.size + 1 + 1, 0, none⟩ = some (.int .i64 0) := (blk_cell hV.u 0).trans rfl
  have b1 : w1.cell? ⟨w.heap.size + 1 + 1, 1, none⟩ = some (.int .i64 0) := (blk_cell hV.u 1).trans rfl
  have b2 : w1.cell? ⟨w.heap.size + 1 + 1, 2, none⟩ = some (.int .i64 0) := (blk_cell hV.u 2).trans rfl
  have b3 : w1.cell? ⟨w.heap.size + 1 + 1, 3, none⟩ = some (.int .i64 0) := (blk_cell hV.u 3).trans rfl
  have b4 : w1.cell? ⟨w.heap.size + 1 + 1, 4, none⟩ = some (.int .u64 0) := (blk_cell hV.u 4).trans rfl
  clear hR hV hV0 hw1
  go_wp2
  go_still_tail 3, (by kernel_rfl)
  change wpList _ _ _ _ _ w1.drew
  have k0 : w1.drew.cell? ⟨w.heap.size, 0, none⟩ = some (.int .i64 0) := (blk_cell HV.out.r 0).trans rfl
  have k1 : w1.drew.cell? ⟨w.heap.size, 1, none⟩ = some (.int .i64 0) := (blk_cell HV.out.r 1).trans rfl
  have k2 : w1.drew.cell? ⟨w.heap.size, 2, none⟩ = some (.int .i64 0) := (blk_cell HV.out.r 2).trans rfl
  have k3 : w1.drew.cell? ⟨w.heap.size, 3, none⟩ = some (.int .i64 0) := (blk_cell HV.out.r 3).trans rfl
  have k4 : w1.drew.cell? ⟨w.heap.size, 4, none⟩ = some (.int .u64 0) := (blk_cell HV.out.r 4).trans rfl
  have f0 : w1.drew.frozen? ⟨w.heap.size, 0, none⟩ = false := blk_frozen (blk_drew HV.out.r) 0
  have f1 : w1.drew.frozen? ⟨w.heap.size, 1, none⟩ = false := blk_frozen (blk_drew HV.out.r) 1
  have f2 : w1.drew.frozen? ⟨w.heap.size, 2, none⟩ = false := blk_frozen (blk_drew HV.out.r) 2
  have f3 : w1.drew.frozen? ⟨w.heap.size, 3, none⟩ = false := blk_frozen (blk_drew HV.out.r) 3
  have f4 : w1.drew.frozen? ⟨w.heap.size, 4, none⟩ = false := blk_frozen (blk_drew HV.out.r) 4
  have HD := Aside0.mk (blk_drew HV.out.r)
  have HT := Aside0.mk (show Tame w1 w1.drew from Tame.refl w1)
  have HBD := Aside0.mk (show Below w.heap.size w1 w1.drew from (Below.refl _ _).drew)
  clear a0 b0 b1 b2 b3 b4
  generalize w1.drew = w2 at k0 k1 k2 k3 k4 f0 f1 f2 f3 f4 HD HT HBD ⊢
  go_wp2
  refine bodyPost_ret (results_tc (P := Try.prog) rfl _ (set5 w2 w.heap.size (.int .i64 0) (.int .i64 0) (.int .i64 0) (.int .i64 0) (.int .u64 0)) w.heap.size 27 zU (0, 0) _ rfl (set5_blk HD.out) Try.underlying27 rfl (by kernel_rfl)) rfl ⟨rfl, w0, H1.out, HW1.out.trans (set5_tame HT.out HD.out), HW2.out.trans (set5_below HBD.out (Nat.le_refl _))⟩
end Go.Proofs.Ythlllcmffgdcmab.Src

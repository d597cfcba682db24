/- May an instruction be? The document's answer, op by op. -/
import Derived.Test.YthlllcmffgdcmabZCode1
import Derived.Test.YthlllcmffgdcmabZPCodeChecksx4
section
namespace Go.Proofs.Ythlllcmffgdcmab.Code
open Go.RowKit Go.Proofs.YthlllcmffgdcmabW.PrintWords Go.Proofs.YthlllcmffgdcmabW.PrintLast Go.Proofs.YthlllcmffgdcmabW.PrintMore
set_option linter.unusedVariables false
set_option linter.unusedSimpArgs false
def inB (n lo hi : Int) : Bool := if n ≥ lo then decide (n < hi) else false
theorem in_f (n lo hi : Int) (b : Bool) (h : inB n lo hi = b) : Go.Proofs.Ythlllcmffgdcmab.PCodeChecks.shunterref10_in.f n lo hi = some b := by
  unfold Go.Proofs.Ythlllcmffgdcmab.PCodeChecks.shunterref10_in.f
  unfold inB at h
  by_cases hh : n ≥ lo
  · rw [if_pos hh] at h ⊢
    rw [h]
  · rw [if_neg hh] at h ⊢
    rw [h]
theorem reg_f (n : Int) (b : Bool) (h : inB n 0 8 = b) : Go.Proofs.Ythlllcmffgdcmab.PCodeChecks.shunterref10_reg.f n = some b := by
  unfold Go.Proofs.Ythlllcmffgdcmab.PCodeChecks.shunterref10_reg.f
  rw [in_f n 0 8 b h]
  rfl
theorem in_calls (n lo hi : Int) (b : Bool) (h : inB n lo hi = b) (w : World) : Calls Try.prog 73 #[.int .i64 n, .int .i64 lo, .int .i64 hi] w fun e w' => e = .returned (.bool b) ∧ Below w.heap.size w w' :=
  (Go.Proofs.Ythlllcmffgdcmab.PCodeChecks.shunterref10_in.calls n lo hi b w (in_f n lo hi b h)).mono fun e w' ⟨h1, ⟨q, hq⟩⟩ => ⟨h1, by rw [hq]; exact pw_below_drewN (Below.refl _ _) q⟩
theorem reg_calls (n : Int) (b : Bool) (h : inB n 0 8 = b) (w : World) : Calls Try.prog 74 #[.int .i64 n] w fun e w' => e = .returned (.bool b) ∧ Below w.heap.size w w' :=
  (Go.Proofs.Ythlllcmffgdcmab.PCodeChecks.shunterref10_reg.calls n b w (reg_f n b h)).mono fun e w' ⟨h1, ⟨q, hq⟩⟩ => ⟨h1, by rw [hq]; exact pw_below_drewN (Below.refl _ _) q⟩
def gW (w : World) (nf nc ncs : Nat) (A0 A1 A3 : Option Addr) (c0 c1 c3 : Nat) (locks op a b c : Int) : World := (w.alloc (.cells #[.slice A0 nf c0, .slice A1 nc c1, .int .i64 locks, .slice A3 ncs c3] 112)).alloc (.cells #[.int .i64 op, .int .i64 a, .int .i64 b, .int .i64 c] 128)
theorem gW_below (w : World) (nf nc ncs : Nat) (A0 A1 A3 : Option Addr) (c0 c1 c3 : Nat) (locks op a b c : Int) : Below w.heap.size w (gW w nf nc ncs A0 A1 A3 c0 c1 c3 locks op a b c) := below_alloc (below_alloc (Below.refl _ _) _) _
theorem gW_p (w : World) (nf nc ncs : Nat) (A0 A1 A3 : Option Addr) (c0 c1 c3 : Nat) (locks op a b c : Int) : (gW w nf nc ncs A0 A1 A3 c0 c1 c3 locks op a b c).heap[w.heap.size]? = some (.cells #[.slice A0 nf c0, .slice A1 nc c1, .int .i64 locks, .slice A3 ncs c3] 112 (0, 0)) := blk_alloc (blk_new w _) _
theorem gW_x (w : World) (nf nc ncs : Nat) (A0 A1 A3 : Option Addr) (c0 c1 c3 : Nat) (locks op a b c : Int) : (gW w nf nc ncs A0 A1 A3 c0 c1 c3 locks op a b c).heap[w.heap.size + 1]? = some (.cells #[.int .i64 op, .int .i64 a, .int .i64 b, .int .i64 c] 128 (0, 0)) := by
  have := blk_new (w.alloc (.cells #[.slice A0 nf c0, .slice A1 nc c1, .int .i64 locks, .slice A3 ncs c3] 112)) (.cells #[.int .i64 op, .int .i64 a, .int .i64 b, .int .i64 c] 128)
  rwa [show (w.alloc (.cells #[.slice A0 nf c0, .slice A1 nc c1, .int .i64 locks, .slice A3 ncs c3] 112)).heap.size = w.heap.size + 1 by simp] at this
set_option maxHeartbeats 2000000 in
set_option maxRecDepth 100000 in
theorem good_0 (nf nc ncs nfl : Nat) (A0 A1 A2 A3 : Option Addr) (c0 c1 c2 c3 : Nat) (locks a b c : Int) (b1 b2 b3 : Bool) (h1 : (a == 0) = b1) (h2 : (b == 0) = b2) (h3 : (c == 0) = b3) (w : World) :
    Calls Try.prog 75 #[.agg #[.slice A0 nf c0, .slice A1 nc c1, .int .i64 locks, .slice A3 ncs c3], .slice A2 nfl c2, .agg #[.int .i64 0, .int .i64 a, .int .i64 b, .int .i64 c]] w fun e w' => e = .returned (.int .i64 (if b1 && b2 && b3 then 0 else 4)) ∧ Below w.heap.size w w' := by
  have HB := Aside0.mk (gW_below w nf nc ncs A0 A1 A3 c0 c1 c3 locks 0 a b c)
  have p0 : (gW w nf nc ncs A0 A1 A3 c0 c1 c3 locks 0 a b c).cell? ⟨w.heap.size, 0, none⟩ = some (.slice A0 nf c0) := (blk_cell (gW_p w nf nc ncs A0 A1 A3 c0 c1 c3 locks 0 a b c) 0).trans rfl
  have p1 : (gW w nf nc ncs A0 A1 A3 c0 c1 c3 locks 0 a b c).cell? ⟨w.heap.size, 1, none⟩ = some (.slice A1 nc c1) := (blk_cell (gW_p w nf nc ncs A0 A1 A3 c0 c1 c3 locks 0 a b c) 1).trans rfl
  have p2 : (gW w nf nc ncs A0 A1 A3 c0 c1 c3 locks 0 a b c).cell? ⟨w.heap.size, 2, none⟩ = some (.int .i64 locks) := (blk_cell (gW_p w nf nc ncs A0 A1 A3 c0 c1 c3 locks 0 a b c) 2).trans rfl
  have p3 : (gW w nf nc ncs A0 A1 A3 c0 c1 c3 locks 0 a b c).cell? ⟨w.heap.size, 3, none⟩ = some (.slice A3 ncs c3) := (blk_cell (gW_p w nf nc ncs A0 A1 A3 c0 c1 c3 locks 0 a b c) 3).trans rfl
  have x0 : (gW w nf nc ncs A0 A1 A3 c0 c1 c3 locks 0 a b c).cell? ⟨w.heap.size + 1, 0, none⟩ = some (.int .i64 0) := (blk_cell (gW_x w nf nc ncs A0 A1 A3 c0 c1 c3 locks 0 a b c) 0).trans rfl
  have x1 : (gW w nf nc ncs A0 A1 A3 c0 c1 c3 locks 0 a b c).cell? ⟨w.heap.size + 1, 1, none⟩ = some (.int .i64 a) := (blk_cell (gW_x w nf nc ncs A0 A1 A3 c0 c1 c3 locks 0 a b c) 1).trans rfl
  have x2 : (gW w nf nc ncs A0 A1 A3 c0 c1 c3 locks 0 a b c).cell? ⟨w.heap.size + 1, 2, none⟩ = some (.int .i64 b) := (blk_cell (gW_x w nf nc ncs A0 A1 A3 c0 c1 c3 locks 0 a b c) 2).trans rfl
  have x3 : (gW w nf nc ncs A0 A1 A3 c0 c1 c3 locks 0 a b c).cell? ⟨w.heap.size + 1, 3, none⟩ = some (.int .i64 c) := (blk_cell (gW_x w nf nc ncs A0 A1 A3 c0 c1 c3 locks 0 a b c) 3).trans rfl
  go_enter Try.func75, Try.ntmps75
  go_upto_region 2 with (fail)
  change Code.wp _ _ _ _ (gW w nf nc ncs A0 A1 A3 c0 c1 c3 locks 0 a b c)
  generalize gW w nf nc ncs A0 A1 A3 c0 c1 c3 locks 0 a b c = w2 at HB p0 p1 p2 p3 x0 x1 x2 x3 ⊢
  cases b1 with
  | false =>
    go_wp2
    go_ret
    exact ⟨rfl, HB.out⟩
  | true =>
    cases b2 with
    | false =>
      go_wp2
      go_ret
      exact ⟨rfl, HB.out⟩
    | true =>
      cases b3 with
      | false =>
        go_wp2
        go_ret
        exact ⟨rfl, HB.out⟩
      | true =>
        go_wp2
        go_ret
        exact ⟨rfl, HB.out⟩
set_option maxHeartbeats 2000000 in
set_option maxRecDepth 100000 in
theorem good_1 (nf nc ncs nfl : Nat) (A0 A1 A2 A3 : Option Addr) (c0 c1 c2 c3 : Nat) (locks a b c : Int) (b1 b2 : Bool) (h1 : inB a 0 8 = b1) (h2 : (c == 0) = b2) (w : World) :
    Calls Try.prog 75 #[.agg #[.slice A0 nf c0, .slice A1 nc c1, .int .i64 locks, .slice A3 ncs c3], .slice A2 nfl c2, .agg #[.int .i64 1, .int .i64 a, .int .i64 b, .int .i64 c]] w fun e w' => e = .returned (.int .i64 (if b1 && b2 then 0 else 4)) ∧ Below w.heap.size w w' := by
  have H1 := Aside0.mk h1
  clear h1
  have HB := Aside0.mk (gW_below w nf nc ncs A0 A1 A3 c0 c1 c3 locks 1 a b c)
  have p0 : (gW w nf nc ncs A0 A1 A3 c0 c1 c3 locks 1 a b c).cell? ⟨w.heap.size, 0, none⟩ = some (.slice A0 nf c0) := (blk_cell (gW_p w nf nc ncs A0 A1 A3 c0 c1 c3 locks 1 a b c) 0).trans rfl
  have p1 : (gW w nf nc ncs A0 A1 A3 c0 c1 c3 locks 1 a b c).cell? ⟨w.heap.size, 1, none⟩ = some (.slice A1 nc c1) := (blk_cell (gW_p w nf nc ncs A0 A1 A3 c0 c1 c3 locks 1 a b c) 1).trans rfl
  have p2 : (gW w nf nc ncs A0 A1 A3 c0 c1 c3 locks 1 a b c).cell? ⟨w.heap.size, 2, none⟩ = some (.int .i64 locks) := (blk_cell (gW_p w nf nc ncs A0 A1 A3 c0 c1 c3 locks 1 a b c) 2).trans rfl
  have p3 : (gW w nf nc ncs A0 A1 A3 c0 c1 c3 locks 1 a b c).cell? ⟨w.heap.size, 3, none⟩ = some (.slice A3 ncs c3) := (blk_cell (gW_p w nf nc ncs A0 A1 A3 c0 c1 c3 locks 1 a b c) 3).trans rfl
  have x0 : (gW w nf nc ncs A0 A1 A3 c0 c1 c3 locks 1 a b c).cell? ⟨w.heap.size + 1, 0, none⟩ = some (.int .i64 1) := (blk_cell (gW_x w nf nc ncs A0 A1 A3 c0 c1 c3 locks 1 a b c) 0).trans rfl
  have x1 : (gW w nf nc ncs A0 A1 A3 c0 c1 c3 locks 1 a b c).cell? ⟨w.heap.size + 1, 1, none⟩ = some (.int .i64 a) := (blk_cell (gW_x w nf nc ncs A0 A1 A3 c0 c1 c3 locks 1 a b c) 1).trans rfl
  have x2 : (gW w nf nc ncs A0 A1 A3 c0 c1 c3 locks 1 a b c).cell? ⟨w.heap.size + 1, 2, none⟩ = some (.int .i64 b) := (blk_cell (gW_x w nf nc ncs A0 A1 A3 c0 c1 c3 locks 1 a b c) 2).trans rfl
  have x3 : (gW w nf nc ncs A0 A1 A3 c0 c1 c3 locks 1 a b c).cell? ⟨w.heap.size + 1, 3, none⟩ = some (.int .i64 c) := (blk_cell (gW_x w nf nc ncs A0 A1 A3 c0 c1 c3 locks 1 a b c) 3).trans rfl
  go_enter Try.func75, Try.ntmps75
  go_upto_region 2 with (fail)
  change Code.wp _ _ _ _ (gW w nf nc ncs A0 A1 A3 c0 c1 c3 locks 1 a b c)
  generalize gW w nf nc ncs A0 A1 A3 c0 c1 c3 locks 1 a b c = w2 at HB p0 p1 p2 p3 x0 x1 x2 x3 ⊢
  cases b1 with
  | false =>
    go_wp2_with (first
        | (go_at_call 74; (with_reducible refine (reg_calls a _ H1.out _).mono ?_); rintro e w' ⟨rfl, hb⟩; have HB2 := Aside0.mk (below_then HB.out HB.out.size hb); have y1 := pw_cell_below hb x1; have y2 := pw_cell_below hb x2; have y3 := pw_cell_below hb x3; have o0 := pw_cell_below hb p0; have o1 := pw_cell_below hb p1; have o2 := pw_cell_below hb p2; have o3 := pw_cell_below hb p3; clear HB x1 x2 x3 p0 p1 p2 p3 hb; have HB := HB2; have x1 := y1; have x2 := y2; have x3 := y3; have p0 := o0; have p1 := o1; have p2 := o2; have p3 := o3; clear HB2 y1 y2 y3 o0 o1 o2 o3))
    go_ret
    exact ⟨rfl, HB.out⟩
  | true =>
    cases b2 with
    | false =>
      go_wp2_with (first
        | (go_at_call 74; (with_reducible refine (reg_calls a _ H1.out _).mono ?_); rintro e w' ⟨rfl, hb⟩; have HB2 := Aside0.mk (below_then HB.out HB.out.size hb); have y1 := pw_cell_below hb x1; have y2 := pw_cell_below hb x2; have y3 := pw_cell_below hb x3; have o0 := pw_cell_below hb p0; have o1 := pw_cell_below hb p1; have o2 := pw_cell_below hb p2; have o3 := pw_cell_below hb p3; clear HB x1 x2 x3 p0 p1 p2 p3 hb; have HB := HB2; have x1 := y1; have x2 := y2; have x3 := y3; have p0 := o0; have p1 := o1; have p2 := o2; have p3 := o3; clear HB2 y1 y2 y3 o0 o1 o2 o3))
      go_ret
      exact ⟨rfl, HB.out⟩
    | true =>
      go_wp2_with (first
        | (go_at_call 74; (with_reducible refine (reg_calls a _ H1.out _).mono ?_); rintro e w' ⟨rfl, hb⟩; have HB2 := Aside0.mk (below_then HB.out HB.out.size hb); have y1 := pw_cell_below hb x1; have y2 := pw_cell_below hb x2; have y3 := pw_cell_below hb x3; have o0 := pw_cell_below hb p0; have o1 := pw_cell_below hb p1; have o2 := pw_cell_below hb p2; have o3 := pw_cell_below hb p3; clear HB x1 x2 x3 p0 p1 p2 p3 hb; have HB := HB2; have x1 := y1; have x2 := y2; have x3 := y3; have p0 := o0; have p1 := o1; have p2 := o2; have p3 := o3; clear HB2 y1 y2 y3 o0 o1 o2 o3))
      go_ret
      exact ⟨rfl, HB.out⟩
set_option maxHeartbeats 2000000 in
set_option maxRecDepth 100000 in
theorem good_2 (nf nc ncs nfl : Nat) (A0 A1 A2 A3 : Option Addr) (c0 c1 c2 c3 : Nat) (locks a b c : Int) (b1 b2 b3 : Bool) (h1 : inB a 0 8 = b1) (h2 : inB b 0 8 = b2) (h3 : (c == 0) = b3) (w : World) :
    Calls Try.prog 75 #[.agg #[.slice A0 nf c0, .slice A1 nc c1, .int .i64 locks, .slice A3 ncs c3], .slice A2 nfl c2, .agg #[.int .i64 2, .int .i64 a, .int .i64 b, .int .i64 c]] w fun e w' => e = .returned (.int .i64 (if b1 && b2 && b3 then 0 else 4)) ∧ Below w.heap.size w w' := by
  have H1 := Aside0.mk h1
  have H2 := Aside0.mk h2
  clear h1 h2
  have HB := Aside0.mk (gW_below w nf nc ncs A0 A1 A3 c0 c1 c3 locks 2 a b c)
  have p0 : (gW w nf nc ncs A0 A1 A3 c0 c1 c3 locks 2 a b c).cell? ⟨w.heap.size, 0, none⟩ = some (.slice A0 nf c0) := (blk_cell (gW_p w nf nc ncs A0 A1 A3 c0 c1 c3 locks 2 a b c) 0).trans rfl
  have p1 : (gW w nf nc ncs A0 A1 A3 c0 c1 c3 locks 2 a b c).cell? ⟨w.heap.size, 1, none⟩ = some (.slice A1 nc c1) := (blk_cell (gW_p w nf nc ncs A0 A1 A3 c0 c1 c3 locks 2 a b c) 1).trans rfl
  have p2 : (gW w nf nc ncs A0 A1 A3 c0 c1 c3 locks 2 a b c).cell? ⟨w.heap.size, 2, none⟩ = some (.int .i64 locks) := (blk_cell (gW_p w nf nc ncs A0 A1 A3 c0 c1 c3 locks 2 a b c) 2).trans rfl
  have p3 : (gW w nf nc ncs A0 A1 A3 c0 c1 c3 locks 2 a b c).cell? ⟨w.heap.size, 3, none⟩ = some (.slice A3 ncs c3) := (blk_cell (gW_p w nf nc ncs A0 A1 A3 c0 c1 c3 locks 2 a b c) 3).trans rfl
  have x0 : (gW w nf nc ncs A0 A1 A3 c0 c1 c3 locks 2 a b c).cell? ⟨w.heap.size + 1, 0, none⟩ = some (.int .i64 2) := (blk_cell (gW_x w nf nc ncs A0 A1 A3 c0 c1 c3 locks 2 a b c) 0).trans rfl
  have x1 : (gW w nf nc ncs A0 A1 A3 c0 c1 c3 locks 2 a b c).cell? ⟨w.heap.size + 1, 1, none⟩ = some (.int .i64 a) := (blk_cell (gW_x w nf nc ncs A0 A1 A3 c0 c1 c3 locks 2 a b c) 1).trans rfl
  have x2 : (gW w nf nc ncs A0 A1 A3 c0 c1 c3 locks 2 a b c).cell? ⟨w.heap.size + 1, 2, none⟩ = some (.int .i64 b) := (blk_cell (gW_x w nf nc ncs A0 A1 A3 c0 c1 c3 locks 2 a b c) 2).trans rfl
  have x3 : (gW w nf nc ncs A0 A1 A3 c0 c1 c3 locks 2 a b c).cell? ⟨w.heap.size + 1, 3, none⟩ = some (.int .i64 c) := (blk_cell (gW_x w nf nc ncs A0 A1 A3 c0 c1 c3 locks 2 a b c) 3).trans rfl
  go_enter Try.func75, Try.ntmps75
  go_upto_region 2 with (fail)
  change Code.wp _ _ _ _ (gW w nf nc ncs A0 A1 A3 c0 c1 c3 locks 2 a b c)
  generalize gW w nf nc ncs A0 A1 A3 c0 c1 c3 locks 2 a b c = w2 at HB p0 p1 p2 p3 x0 x1 x2 x3 ⊢
  cases b1 with
  | false =>
    go_wp2_with (first
        | (go_at_call 74; (with_reducible refine (reg_calls a _ H1.out _).mono ?_); rintro e w' ⟨rfl, hb⟩; have HB2 := Aside0.mk (below_then HB.out HB.out.size hb); have y1 := pw_cell_below hb x1; have y2 := pw_cell_below hb x2; have y3 := pw_cell_below hb x3; have o0 := pw_cell_below hb p0; have o1 := pw_cell_below hb p1; have o2 := pw_cell_below hb p2; have o3 := pw_cell_below hb p3; clear HB x1 x2 x3 p0 p1 p2 p3 hb; have HB := HB2; have x1 := y1; have x2 := y2; have x3 := y3; have p0 := o0; have p1 := o1; have p2 := o2; have p3 := o3; clear HB2 y1 y2 y3 o0 o1 o2 o3)
        | (go_at_call 74; (with_reducible refine (reg_calls b _ H2.out _).mono ?_); rintro e w' ⟨rfl, hb⟩; have HB2 := Aside0.mk (below_then HB.out HB.out.size hb); have y1 := pw_cell_below hb x1; have y2 := pw_cell_below hb x2; have y3 := pw_cell_below hb x3; have o0 := pw_cell_below hb p0; have o1 := pw_cell_below hb p1; have o2 := pw_cell_below hb p2; have o3 := pw_cell_below hb p3; clear HB x1 x2 x3 p0 p1 p2 p3 hb; have HB := HB2; have x1 := y1; have x2 := y2; have x3 := y3; have p0 := o0; have p1 := o1; have p2 := o2; have p3 := o3; clear HB2 y1 y2 y3 o0 o1 o2 o3))
    go_ret
    exact ⟨rfl, HB.out⟩
  | true =>
    cases b2 with
    | false =>
      go_wp2_with (first
        | (go_at_call 74; (with_reducible refine (reg_calls a _ H1.out _).mono ?_); rintro e w' ⟨rfl, hb⟩; have HB2 := Aside0.mk (below_then HB.out HB.out.size hb); have y1 := pw_cell_below hb x1; have y2 := pw_cell_below hb x2; have y3 := pw_cell_below hb x3; have o0 := pw_cell_below hb p0; have o1 := pw_cell_below hb p1; have o2 := pw_cell_below hb p2; have o3 := pw_cell_below hb p3; clear HB x1 x2 x3 p0 p1 p2 p3 hb; have HB := HB2; have x1 := y1; have x2 := y2; have x3 := y3; have p0 := o0; have p1 := o1; have p2 := o2; have p3 := o3; clear HB2 y1 y2 y3 o0 o1 o2 o3)
        | (go_at_call 74; (with_reducible refine (reg_calls b _ H2.out _).mono ?_); rintro e w' ⟨rfl, hb⟩; have HB2 := Aside0.mk (below_then HB.out HB.out.size hb); have y1 := pw_cell_below hb x1; have y2 := pw_cell_below hb x2; have y3 := pw_cell_below hb x3; have o0 := pw_cell_below hb p0; have o1 := pw_cell_below hb p1; have o2 := pw_cell_below hb p2; have o3 := pw_cell_below hb p3; clear HB x1 x2 x3 p0 p1 p2 p3 hb; have HB := HB2; have x1 := y1; have x2 := y2; have x3 := y3; have p0 := o0; have p1 := o1; have p2 := o2; have p3 := o3; clear HB2 y1 y2 y3 o0 o1 o2 o3))
      go_ret
      exact ⟨rfl, HB.out⟩
    | true =>
      cases b3 with
      | false =>
        go_wp2_with (first
        | (go_at_call 74; (with_reducible refine (reg_calls a _ H1.out _).mono ?_); rintro e w' ⟨rfl, hb⟩; have HB2 := Aside0.mk (below_then HB.out HB.out.size hb); have y1 := pw_cell_below hb x1; have y2 := pw_cell_below hb x2; have y3 := pw_cell_below hb x3; have o0 := pw_cell_below hb p0; have o1 := pw_cell_below hb p1; have o2 := pw_cell_below hb p2; have o3 := pw_cell_below hb p3; clear HB x1 x2 x3 p0 p1 p2 p3 hb; have HB := HB2; have x1 := y1; have x2 := y2; have x3 := y3; have p0 := o0; have p1 := o1; have p2 := o2; have p3 := o3; clear HB2 y1 y2 y3 o0 o1 o2 o3)
        | (go_at_call 74; (with_reducible refine (reg_calls b _ H2.out _).mono ?_); rintro e w' ⟨rfl, hb⟩; have HB2 := Aside0.mk (below_then HB.out HB.out.size hb); have y1 := pw_cell_below hb x1; have y2 := pw_cell_below hb x2; have y3 := pw_cell_below hb x3; have o0 := pw_cell_below hb p0; have o1 := pw_cell_below hb p1; have o2 := pw_cell_below hb p2; have o3 := pw_cell_below hb p3; clear HB x1 x2 x3 p0 p1 p2 p3 hb; have HB := HB2; have x1 := y1; have x2 := y2; have x3 := y3; have p0 := o0; have p1 := o1; have p2 := o2; have p3 := o3; clear HB2 y1 y2 y3 o0 o1 o2 o3))
        go_ret
        exact ⟨rfl, HB.out⟩
      | true =>
        go_wp2_with (first
        | (go_at_call 74; (with_reducible refine (reg_calls a _ H1.out _).mono ?_); rintro e w' ⟨rfl, hb⟩; have HB2 := Aside0.mk (below_then HB.out HB.out.size hb); have y1 := pw_cell_below hb x1; have y2 := pw_cell_below hb x2; have y3 := pw_cell_below hb x3; have o0 := pw_cell_below hb p0; have o1 := pw_cell_below hb p1; have o2 := pw_cell_below hb p2; have o3 := pw_cell_below hb p3; clear HB x1 x2 x3 p0 p1 p2 p3 hb; have HB := HB2; have x1 := y1; have x2 := y2; have x3 := y3; have p0 := o0; have p1 := o1; have p2 := o2; have p3 := o3; clear HB2 y1 y2 y3 o0 o1 o2 o3)
        | (go_at_call 74; (with_reducible refine (reg_calls b _ H2.out _).mono ?_); rintro e w' ⟨rfl, hb⟩; have HB2 := Aside0.mk (below_then HB.out HB.out.size hb); have y1 := pw_cell_below hb x1; have y2 := pw_cell_below hb x2; have y3 := pw_cell_below hb x3; have o0 := pw_cell_below hb p0; have o1 := pw_cell_below hb p1; have o2 := pw_cell_below hb p2; have o3 := pw_cell_below hb p3; clear HB x1 x2 x3 p0 p1 p2 p3 hb; have HB := HB2; have x1 := y1; have x2 := y2; have x3 := y3; have p0 := o0; have p1 := o1; have p2 := o2; have p3 := o3; clear HB2 y1 y2 y3 o0 o1 o2 o3))
        go_ret
        exact ⟨rfl, HB.out⟩
set_option maxHeartbeats 2000000 in
set_option maxRecDepth 100000 in
theorem good_3 (nf nc ncs nfl : Nat) (A0 A1 A2 A3 : Option Addr) (c0 c1 c2 c3 : Nat) (locks a b c : Int) (b1 b2 b3 : Bool) (h1 : inB a 0 8 = b1) (h2 : inB b 0 8 = b2) (h3 : inB c 0 8 = b3) (w : World) :
    Calls Try.prog 75 #[.agg #[.slice A0 nf c0, .slice A1 nc c1, .int .i64 locks, .slice A3 ncs c3], .slice A2 nfl c2, .agg #[.int .i64 3, .int .i64 a, .int .i64 b, .int .i64 c]] w fun e w' => e = .returned (.int .i64 (if b1 && b2 && b3 then 0 else 4)) ∧ Below w.heap.size w w' := by
  have H1 := Aside0.mk h1
  have H2 := Aside0.mk h2
  have H3 := Aside0.mk h3
  clear h1 h2 h3
  have HB := Aside0.mk (gW_below w nf nc ncs A0 A1 A3 c0 c1 c3 locks 3 a b c)
  have p0 : (gW w nf nc ncs A0 A1 A3 c0 c1 c3 locks 3 a b c).cell? ⟨w.heap.size, 0, none⟩ = some (.slice A0 nf c0) := (blk_cell (gW_p w nf nc ncs A0 A1 A3 c0 c1 c3 locks 3 a b c) 0).trans rfl
  have p1 : (gW w nf nc ncs A0 A1 A3 c0 c1 c3 locks 3 a b c).cell? ⟨w.heap.size, 1, none⟩ = some (.slice A1 nc c1) := (blk_cell (gW_p w nf nc ncs A0 A1 A3 c0 c1 c3 locks 3 a b c) 1).trans rfl
  have p2 : (gW w nf nc ncs A0 A1 A3 c0 c1 c3 locks 3 a b c).cell? ⟨w.heap.size, 2, none⟩ = some (.int .i64 locks) := (blk_cell (gW_p w nf nc ncs A0 A1 A3 c0 c1 c3 locks 3 a b c) 2).trans rfl
  have p3 : (gW w nf nc ncs A0 A1 A3 c0 c1 c3 locks 3 a b c).cell? ⟨w.heap.size, 3, none⟩ = some (.slice A3 ncs c3) := (blk_cell (gW_p w nf nc ncs A0 A1 A3 c0 c1 c3 locks 3 a b c) 3).trans rfl
  have x0 : (gW w nf nc ncs A0 A1 A3 c0 c1 c3 locks 3 a b c).cell? ⟨w.heap.size + 1, 0, none⟩ = some (.int .i64 3) := (blk_cell (gW_x w nf nc ncs A0 A1 A3 c0 c1 c3 locks 3 a b c) 0).trans rfl
  have x1 : (gW w nf nc ncs A0 A1 A3 c0 c1 c3 locks 3 a b c).cell? ⟨w.heap.size + 1, 1, none⟩ = some (.int .i64 a) := (blk_cell (gW_x w nf nc ncs A0 A1 A3 c0 c1 c3 locks 3 a b c) 1).trans rfl
  have x2 : (gW w nf nc ncs A0 A1 A3 c0 c1 c3 locks 3 a b c).cell? ⟨w.heap.size + 1, 2, none⟩ = some (.int .i64 b) := (blk_cell (gW_x w nf nc ncs A0 A1 A3 c0 c1 c3 locks 3 a b c) 2).trans rfl
  have x3 : (gW w nf nc ncs A0 A1 A3 c0 c1 c3 locks 3 a b c).cell? ⟨w.heap.size + 1, 3, none⟩ = some (.int .i64 c) := (blk_cell (gW_x w nf nc ncs A0 A1 A3 c0 c1 c3 locks 3 a b c) 3).trans rfl
  go_enter Try.func75, Try.ntmps75
  go_upto_region 2 with (fail)
  change Code.wp _ _ _ _ (gW w nf nc ncs A0 A1 A3 c0 c1 c3 locks 3 a b c)
  generalize gW w nf nc ncs A0 A1 A3 c0 c1 c3 locks 3 a b c = w2 at HB p0 p1 p2 p3 x0 x1 x2 x3 ⊢
  cases b1 with
  | false =>
    go_wp2_with (first
        | (go_at_call 74; (with_reducible refine (reg_calls a _ H1.out _).mono ?_); rintro e w' ⟨rfl, hb⟩; have HB2 := Aside0.mk (below_then HB.out HB.out.size hb); have y1 := pw_cell_below hb x1; have y2 := pw_cell_below hb x2; have y3 := pw_cell_below hb x3; have o0 := pw_cell_below hb p0; have o1 := pw_cell_below hb p1; have o2 := pw_cell_below hb p2; have o3 := pw_cell_below hb p3; clear HB x1 x2 x3 p0 p1 p2 p3 hb; have HB := HB2; have x1 := y1; have x2 := y2; have x3 := y3; have p0 := o0; have p1 := o1; have p2 := o2; have p3 := o3; clear HB2 y1 y2 y3 o0 o1 o2 o3)
        | (go_at_call 74; (with_reducible refine (reg_calls b _ H2.out _).mono ?_); rintro e w' ⟨rfl, hb⟩; have HB2 := Aside0.mk (below_then HB.out HB.out.size hb); have y1 := pw_cell_below hb x1; have y2 := pw_cell_below hb x2; have y3 := pw_cell_below hb x3; have o0 := pw_cell_below hb p0; have o1 := pw_cell_below hb p1; have o2 := pw_cell_below hb p2; have o3 := pw_cell_below hb p3; clear HB x1 x2 x3 p0 p1 p2 p3 hb; have HB := HB2; have x1 := y1; have x2 := y2; have x3 := y3; have p0 := o0; have p1 := o1; have p2 := o2; have p3 := o3; clear HB2 y1 y2 y3 o0 o1 o2 o3)
        | (go_at_call 74; (with_reducible refine (reg_calls c _ H3.out _).mono ?_); rintro e w' ⟨rfl, hb⟩; have HB2 := Aside0.mk (below_then HB.out HB.out.size hb); have y1 := pw_cell_below hb x1; have y2 := pw_cell_below hb x2; have y3 := pw_cell_below hb x3; have o0 := pw_cell_below hb p0; have o1 := pw_cell_below hb p1; have o2 := pw_cell_below hb p2; have o3 := pw_cell_below hb p3; clear HB x1 x2 x3 p0 p1 p2 p3 hb; have HB := HB2; have x1 := y1; have x2 := y2; have x3 := y3; have p0 := o0; have p1 := o1; have p2 := o2; have p3 := o3; clear HB2 y1 y2 y3 o0 o1 o2 o3))
    go_ret
    exact ⟨rfl, HB.out⟩
  | true =>
    cases b2 with
    | false =>
      go_wp2_with (first
        | (go_at_call 74; (with_reducible refine (reg_calls a _ H1.out _).mono ?_); rintro e w' ⟨rfl, hb⟩; have HB2 := Aside0.mk (below_then HB.out HB.out.size hb); have y1 := pw_cell_below hb x1; have y2 := pw_cell_below hb x2; have y3 := pw_cell_below hb x3; have o0 := pw_cell_below hb p0; have o1 := pw_cell_below hb p1; have o2 := pw_cell_below hb p2; have o3 := pw_cell_below hb p3; clear HB x1 x2 x3 p0 p1 p2 p3 hb; have HB := HB2; have x1 := y1; have x2 := y2; have x3 := y3; have p0 := o0; have p1 := o1; have p2 := o2; have p3 := o3; clear HB2 y1 y2 y3 o0 o1 o2 o3)
        | (go_at_call 74; (with_reducible refine (reg_calls b _ H2.out _).mono ?_); rintro e w' ⟨rfl, hb⟩; have HB2 := Aside0.mk (below_then HB.out HB.out.size hb); have y1 := pw_cell_below hb x1; have y2 := pw_cell_below hb x2; have y3 := pw_cell_below hb x3; have o0 := pw_cell_below hb p0; have o1 := pw_cell_below hb p1; have o2 := pw_cell_below hb p2; have o3 := pw_cell_below hb p3; clear HB x1 x2 x3 p0 p1 p2 p3 hb; have HB := HB2; have x1 := y1; have x2 := y2; have x3 := y3; have p0 := o0; have p1 := o1; have p2 := o2; have p3 := o3; clear HB2 y1 y2 y3 o0 o1 o2 o3)
        | (go_at_call 74; (with_reducible refine (reg_calls c _ H3.out _).mono ?_); rintro e w' ⟨rfl, hb⟩; have HB2 := Aside0.mk (below_then HB.out HB.out.size hb); have y1 := pw_cell_below hb x1; have y2 := pw_cell_below hb x2; have y3 := pw_cell_below hb x3; have o0 := pw_cell_below hb p0; have o1 := pw_cell_below hb p1; have o2 := pw_cell_below hb p2; have o3 := pw_cell_below hb p3; clear HB x1 x2 x3 p0 p1 p2 p3 hb; have HB := HB2; have x1 := y1; have x2 := y2; have x3 := y3; have p0 := o0; have p1 := o1; have p2 := o2; have p3 := o3; clear HB2 y1 y2 y3 o0 o1 o2 o3))
      go_ret
      exact ⟨rfl, HB.out⟩
    | true =>
      cases b3 with
      | false =>
        go_wp2_with (first
        | (go_at_call 74; (with_reducible refine (reg_calls a _ H1.out _).mono ?_); rintro e w' ⟨rfl, hb⟩; have HB2 := Aside0.mk (below_then HB.out HB.out.size hb); have y1 := pw_cell_below hb x1; have y2 := pw_cell_below hb x2; have y3 := pw_cell_below hb x3; have o0 := pw_cell_below hb p0; have o1 := pw_cell_below hb p1; have o2 := pw_cell_below hb p2; have o3 := pw_cell_below hb p3; clear HB x1 x2 x3 p0 p1 p2 p3 hb; have HB := HB2; have x1 := y1; have x2 := y2; have x3 := y3; have p0 := o0; have p1 := o1; have p2 := o2; have p3 := o3; clear HB2 y1 y2 y3 o0 o1 o2 o3)
        | (go_at_call 74; (with_reducible refine (reg_calls b _ H2.out _).mono ?_); rintro e w' ⟨rfl, hb⟩; have HB2 := Aside0.mk (below_then HB.out HB.out.size hb); have y1 := pw_cell_below hb x1; have y2 := pw_cell_below hb x2; have y3 := pw_cell_below hb x3; have o0 := pw_cell_below hb p0; have o1 := pw_cell_below hb p1; have o2 := pw_cell_below hb p2; have o3 := pw_cell_below hb p3; clear HB x1 x2 x3 p0 p1 p2 p3 hb; have HB := HB2; have x1 := y1; have x2 := y2; have x3 := y3; have p0 := o0; have p1 := o1; have p2 := o2; have p3 := o3; clear HB2 y1 y2 y3 o0 o1 o2 o3)
        | (go_at_call 74; (with_reducible refine (reg_calls c _ H3.out _).mono ?_); rintro e w' ⟨rfl, hb⟩; have HB2 := Aside0.mk (below_then HB.out HB.out.size hb); have y1 := pw_cell_below hb x1; have y2 := pw_cell_below hb x2; have y3 := pw_cell_below hb x3; have o0 := pw_cell_below hb p0; have o1 := pw_cell_below hb p1; have o2 := pw_cell_below hb p2; have o3 := pw_cell_below hb p3; clear HB x1 x2 x3 p0 p1 p2 p3 hb; have HB := HB2; have x1 := y1; have x2 := y2; have x3 := y3; have p0 := o0; have p1 := o1; have p2 := o2; have p3 := o3; clear HB2 y1 y2 y3 o0 o1 o2 o3))
        go_ret
        exact ⟨rfl, HB.out⟩
      | true =>
        go_wp2_with (first
        | (go_at_call 74; (with_reducible refine (reg_calls a _ H1.out _).mono ?_); rintro e w' ⟨rfl, hb⟩; have HB2 := Aside0.mk (below_then HB.out HB.out.size hb); have y1 := pw_cell_below hb x1; have y2 := pw_cell_below hb x2; have y3 := pw_cell_below hb x3; have o0 := pw_cell_below hb p0; have o1 := pw_cell_below hb p1; have o2 := pw_cell_below hb p2; have o3 := pw_cell_below hb p3; clear HB x1 x2 x3 p0 p1 p2 p3 hb; have HB := HB2; have x1 := y1; have x2 := y2; have x3 := y3; have p0 := o0; have p1 := o1; have p2 := o2; have p3 := o3; clear HB2 y1 y2 y3 o0 o1 o2 o3)
        | (go_at_call 74; (with_reducible refine (reg_calls b _ H2.out _).mono ?_); rintro e w' ⟨rfl, hb⟩; have HB2 := Aside0.mk (below_then HB.out HB.out.size hb); have y1 := pw_cell_below hb x1; have y2 := pw_cell_below hb x2; have y3 := pw_cell_below hb x3; have o0 := pw_cell_below hb p0; have o1 := pw_cell_below hb p1; have o2 := pw_cell_below hb p2; have o3 := pw_cell_below hb p3; clear HB x1 x2 x3 p0 p1 p2 p3 hb; have HB := HB2; have x1 := y1; have x2 := y2; have x3 := y3; have p0 := o0; have p1 := o1; have p2 := o2; have p3 := o3; clear HB2 y1 y2 y3 o0 o1 o2 o3)
        | (go_at_call 74; (with_reducible refine (reg_calls c _ H3.out _).mono ?_); rintro e w' ⟨rfl, hb⟩; have HB2 := Aside0.mk (below_then HB.out HB.out.size hb); have y1 := pw_cell_below hb x1; have y2 := pw_cell_below hb x2; have y3 := pw_cell_below hb x3; have o0 := pw_cell_below hb p0; have o1 := pw_cell_below hb p1; have o2 := pw_cell_below hb p2; have o3 := pw_cell_below hb p3; clear HB x1 x2 x3 p0 p1 p2 p3 hb; have HB := HB2; have x1 := y1; have x2 := y2; have x3 := y3; have p0 := o0; have p1 := o1; have p2 := o2; have p3 := o3; clear HB2 y1 y2 y3 o0 o1 o2 o3))
        go_ret
        exact ⟨rfl, HB.out⟩
set_option maxHeartbeats 2000000 in
set_option maxRecDepth 100000 in
theorem good_4 (nf nc ncs nfl : Nat) (A0 A1 A2 A3 : Option Addr) (c0 c1 c2 c3 : Nat) (locks a b c : Int) (b1 b2 b3 : Bool) (h1 : inB a 0 8 = b1) (h2 : inB b 0 8 = b2) (h3 : inB c 0 8 = b3) (w : World) :
    Calls Try.prog 75 #[.agg #[.slice A0 nf c0, .slice A1 nc c1, .int .i64 locks, .slice A3 ncs c3], .slice A2 nfl c2, .agg #[.int .i64 4, .int .i64 a, .int .i64 b, .int .i64 c]] w fun e w' => e = .returned (.int .i64 (if b1 && b2 && b3 then 0 else 4)) ∧ Below w.heap.size w w' := by
  have H1 := Aside0.mk h1
  have H2 := Aside0.mk h2
  have H3 := Aside0.mk h3
  clear h1 h2 h3
  have HB := Aside0.mk (gW_below w nf nc ncs A0 A1 A3 c0 c1 c3 locks 4 a b c)
  have p0 : (gW w nf nc ncs A0 A1 A3 c0 c1 c3 locks 4 a b c).cell? ⟨w.heap.size, 0, none⟩ = some (.slice A0 nf c0) := (blk_cell (gW_p w nf nc ncs A0 A1 A3 c0 c1 c3 locks 4 a b c) 0).trans rfl
  have p1 : (gW w nf nc ncs A0 A1 A3 c0 c1 c3 locks 4 a b c).cell? ⟨w.heap.size, 1, none⟩ = some (.slice A1 nc c1) := (blk_cell (gW_p w nf nc ncs A0 A1 A3 c0 c1 c3 locks 4 a b c) 1).trans rfl
  have p2 : (gW w nf nc ncs A0 A1 A3 c0 c1 c3 locks 4 a b c).cell? ⟨w.heap.size, 2, none⟩ = some (.int .i64 locks) := (blk_cell (gW_p w nf nc ncs A0 A1 A3 c0 c1 c3 locks 4 a b c) 2).trans rfl
  have p3 : (gW w nf nc ncs A0 A1 A3 c0 c1 c3 locks 4 a b c).cell? ⟨w.heap.size, 3, none⟩ = some (.slice A3 ncs c3) := (blk_cell (gW_p w nf nc ncs A0 A1 A3 c0 c1 c3 locks 4 a b c) 3).trans rfl
  have x0 : (gW w nf nc ncs A0 A1 A3 c0 c1 c3 locks 4 a b c).cell? ⟨w.heap.size + 1, 0, none⟩ = some (.int .i64 4) := (blk_cell (gW_x w nf nc ncs A0 A1 A3 c0 c1 c3 locks 4 a b c) 0).trans rfl
  have x1 : (gW w nf nc ncs A0 A1 A3 c0 c1 c3 locks 4 a b c).cell? ⟨w.heap.size + 1, 1, none⟩ = some (.int .i64 a) := (blk_cell (gW_x w nf nc ncs A0 A1 A3 c0 c1 c3 locks 4 a b c) 1).trans rfl
  have x2 : (gW w nf nc ncs A0 A1 A3 c0 c1 c3 locks 4 a b c).cell? ⟨w.heap.size + 1, 2, none⟩ = some (.int .i64 b) := (blk_cell (gW_x w nf nc ncs A0 A1 A3 c0 c1 c3 locks 4 a b c) 2).trans rfl
  have x3 : (gW w nf nc ncs A0 A1 A3 c0 c1 c3 locks 4 a b c).cell? ⟨w.heap.size + 1, 3, none⟩ = some (.int .i64 c) := (blk_cell (gW_x w nf nc ncs A0 A1 A3 c0 c1 c3 locks 4 a b c) 3).trans rfl
  go_enter Try.func75, Try.ntmps75
  go_upto_region 2 with (fail)
  change Code.wp _ _ _ _ (gW w nf nc ncs A0 A1 A3 c0 c1 c3 locks 4 a b c)
  generalize gW w nf nc ncs A0 A1 A3 c0 c1 c3 locks 4 a b c = w2 at HB p0 p1 p2 p3 x0 x1 x2 x3 ⊢
  cases b1 with
  | false =>
    go_wp2_with (first
        | (go_at_call 74; (with_reducible refine (reg_calls a _ H1.out _).mono ?_); rintro e w' ⟨rfl, hb⟩; have HB2 := Aside0.mk (below_then HB.out HB.out.size hb); have y1 := pw_cell_below hb x1; have y2 := pw_cell_below hb x2; have y3 := pw_cell_below hb x3; have o0 := pw_cell_below hb p0; have o1 := pw_cell_below hb p1; have o2 := pw_cell_below hb p2; have o3 := pw_cell_below hb p3; clear HB x1 x2 x3 p0 p1 p2 p3 hb; have HB := HB2; have x1 := y1; have x2 := y2; have x3 := y3; have p0 := o0; have p1 := o1; have p2 := o2; have p3 := o3; clear HB2 y1 y2 y3 o0 o1 o2 o3)
        | (go_at_call 74; (with_reducible refine (reg_calls b _ H2.out _).mono ?_); rintro e w' ⟨rfl, hb⟩; have HB2 := Aside0.mk (below_then HB.out HB.out.size hb); have y1 := pw_cell_below hb x1; have y2 := pw_cell_below hb x2; have y3 := pw_cell_below hb x3; have o0 := pw_cell_below hb p0; have o1 := pw_cell_below hb p1; have o2 := pw_cell_below hb p2; have o3 := pw_cell_below hb p3; clear HB x1 x2 x3 p0 p1 p2 p3 hb; have HB := HB2; have x1 := y1; have x2 := y2; have x3 := y3; have p0 := o0; have p1 := o1; have p2 := o2; have p3 := o3; clear HB2 y1 y2 y3 o0 o1 o2 o3)
        | (go_at_call 74; (with_reducible refine (reg_calls c _ H3.out _).mono ?_); rintro e w' ⟨rfl, hb⟩; have HB2 := Aside0.mk (below_then HB.out HB.out.size hb); have y1 := pw_cell_below hb x1; have y2 := pw_cell_below hb x2; have y3 := pw_cell_below hb x3; have o0 := pw_cell_below hb p0; have o1 := pw_cell_below hb p1; have o2 := pw_cell_below hb p2; have o3 := pw_cell_below hb p3; clear HB x1 x2 x3 p0 p1 p2 p3 hb; have HB := HB2; have x1 := y1; have x2 := y2; have x3 := y3; have p0 := o0; have p1 := o1; have p2 := o2; have p3 := o3; clear HB2 y1 y2 y3 o0 o1 o2 o3))
    go_ret
    exact ⟨rfl, HB.out⟩
  | true =>
    cases b2 with
    | false =>
      go_wp2_with (first
        | (go_at_call 74; (with_reducible refine (reg_calls a _ H1.out _).mono ?_); rintro e w' ⟨rfl, hb⟩; have HB2 := Aside0.mk (below_then HB.out HB.out.size hb); have y1 := pw_cell_below hb x1; have y2 := pw_cell_below hb x2; have y3 := pw_cell_below hb x3; have o0 := pw_cell_below hb p0; have o1 := pw_cell_below hb p1; have o2 := pw_cell_below hb p2; have o3 := pw_cell_below hb p3; clear HB x1 x2 x3 p0 p1 p2 p3 hb; have HB := HB2; have x1 := y1; have x2 := y2; have x3 := y3; have p0 := o0; have p1 := o1; have p2 := o2; have p3 := o3; clear HB2 y1 y2 y3 o0 o1 o2 o3)
        | (go_at_call 74; (with_reducible refine (reg_calls b _ H2.out _).mono ?_); rintro e w' ⟨rfl, hb⟩; have HB2 := Aside0.mk (below_then HB.out HB.out.size hb); have y1 := pw_cell_below hb x1; have y2 := pw_cell_below hb x2; have y3 := pw_cell_below hb x3; have o0 := pw_cell_below hb p0; have o1 := pw_cell_below hb p1; have o2 := pw_cell_below hb p2; have o3 := pw_cell_below hb p3; clear HB x1 x2 x3 p0 p1 p2 p3 hb; have HB := HB2; have x1 := y1; have x2 := y2; have x3 := y3; have p0 := o0; have p1 := o1; have p2 := o2; have p3 := o3; clear HB2 y1 y2 y3 o0 o1 o2 o3)
        | (go_at_call 74; (with_reducible refine (reg_calls c _ H3.out _).mono ?_); rintro e w' ⟨rfl, hb⟩; have HB2 := Aside0.mk (below_then HB.out HB.out.size hb); have y1 := pw_cell_below hb x1; have y2 := pw_cell_below hb x2; have y3 := pw_cell_below hb x3; have o0 := pw_cell_below hb p0; have o1 := pw_cell_below hb p1; have o2 := pw_cell_below hb p2; have o3 := pw_cell_below hb p3; clear HB x1 x2 x3 p0 p1 p2 p3 hb; have HB := HB2; have x1 := y1; have x2 := y2; have x3 := y3; have p0 := o0; have p1 := o1; have p2 := o2; have p3 := o3; clear HB2 y1 y2 y3 o0 o1 o2 o3))
      go_ret
      exact ⟨rfl, HB.out⟩
    | true =>
      cases b3 with
      | false =>
        go_wp2_with (first
        | (go_at_call 74; (with_reducible refine (reg_calls a _ H1.out _).mono ?_); rintro e w' ⟨rfl, hb⟩; have HB2 := Aside0.mk (below_then HB.out HB.out.size hb); have y1 := pw_cell_below hb x1; have y2 := pw_cell_below hb x2; have y3 := pw_cell_below hb x3; have o0 := pw_cell_below hb p0; have o1 := pw_cell_below hb p1; have o2 := pw_cell_below hb p2; have o3 := pw_cell_below hb p3; clear HB x1 x2 x3 p0 p1 p2 p3 hb; have HB := HB2; have x1 := y1; have x2 := y2; have x3 := y3; have p0 := o0; have p1 := o1; have p2 := o2; have p3 := o3; clear HB2 y1 y2 y3 o0 o1 o2 o3)
        | (go_at_call 74; (with_reducible refine (reg_calls b _ H2.out _).mono ?_); rintro e w' ⟨rfl, hb⟩; have HB2 := Aside0.mk (below_then HB.out HB.out.size hb); have y1 := pw_cell_below hb x1; have y2 := pw_cell_below hb x2; have y3 := pw_cell_below hb x3; have o0 := pw_cell_below hb p0; have o1 := pw_cell_below hb p1; have o2 := pw_cell_below hb p2; have o3 := pw_cell_below hb p3; clear HB x1 x2 x3 p0 p1 p2 p3 hb; have HB := HB2; have x1 := y1; have x2 := y2; have x3 := y3; have p0 := o0; have p1 := o1; have p2 := o2; have p3 := o3; clear HB2 y1 y2 y3 o0 o1 o2 o3)
        | (go_at_call 74; (with_reducible refine (reg_calls c _ H3.out _).mono ?_); rintro e w' ⟨rfl, hb⟩; have HB2 := Aside0.mk (below_then HB.out HB.out.size hb); have y1 := pw_cell_below hb x1; have y2 := pw_cell_below hb x2; have y3 := pw_cell_below hb x3; have o0 := pw_cell_below hb p0; have o1 := pw_cell_below hb p1; have o2 := pw_cell_below hb p2; have o3 := pw_cell_below hb p3; clear HB x1 x2 x3 p0 p1 p2 p3 hb; have HB := HB2; have x1 := y1; have x2 := y2; have x3 := y3; have p0 := o0; have p1 := o1; have p2 := o2; have p3 := o3; clear HB2 y1 y2 y3 o0 o1 o2 o3))
        go_ret
        exact ⟨rfl, HB.out⟩
      | true =>
        go_wp2_with (first
        | (go_at_call 74; (with_reducible refine (reg_calls a _ H1.out _).mono ?_); rintro e w' ⟨rfl, hb⟩; have HB2 := Aside0.mk (below_then HB.out HB.out.size hb); have y1 := pw_cell_below hb x1; have y2 := pw_cell_below hb x2; have y3 := pw_cell_below hb x3; have o0 := pw_cell_below hb p0; have o1 := pw_cell_below hb p1; have o2 := pw_cell_below hb p2; have o3 := pw_cell_below hb p3; clear HB x1 x2 x3 p0 p1 p2 p3 hb; have HB := HB2; have x1 := y1; have x2 := y2; have x3 := y3; have p0 := o0; have p1 := o1; have p2 := o2; have p3 := o3; clear HB2 y1 y2 y3 o0 o1 o2 o3)
        | (go_at_call 74; (with_reducible refine (reg_calls b _ H2.out _).mono ?_); rintro e w' ⟨rfl, hb⟩; have HB2 := Aside0.mk (below_then HB.out HB.out.size hb); have y1 := pw_cell_below hb x1; have y2 := pw_cell_below hb x2; have y3 := pw_cell_below hb x3; have o0 := pw_cell_below hb p0; have o1 := pw_cell_below hb p1; have o2 := pw_cell_below hb p2; have o3 := pw_cell_below hb p3; clear HB x1 x2 x3 p0 p1 p2 p3 hb; have HB := HB2; have x1 := y1; have x2 := y2; have x3 := y3; have p0 := o0; have p1 := o1; have p2 := o2; have p3 := o3; clear HB2 y1 y2 y3 o0 o1 o2 o3)
        | (go_at_call 74; (with_reducible refine (reg_calls c _ H3.out _).mono ?_); rintro e w' ⟨rfl, hb⟩; have HB2 := Aside0.mk (below_then HB.out HB.out.size hb); have y1 := pw_cell_below hb x1; have y2 := pw_cell_below hb x2; have y3 := pw_cell_below hb x3; have o0 := pw_cell_below hb p0; have o1 := pw_cell_below hb p1; have o2 := pw_cell_below hb p2; have o3 := pw_cell_below hb p3; clear HB x1 x2 x3 p0 p1 p2 p3 hb; have HB := HB2; have x1 := y1; have x2 := y2; have x3 := y3; have p0 := o0; have p1 := o1; have p2 := o2; have p3 := o3; clear HB2 y1 y2 y3 o0 o1 o2 o3))
        go_ret
        exact ⟨rfl, HB.out⟩
set_option maxHeartbeats 2000000 in
set_option maxRecDepth 100000 in
theorem good_5 (nf nc ncs nfl : Nat) (A0 A1 A2 A3 : Option Addr) (c0 c1 c2 c3 : Nat) (locks a b c : Int) (b1 b2 b3 : Bool) (h1 : inB a 0 8 = b1) (h2 : inB b 0 8 = b2) (h3 : inB c 0 8 = b3) (w : World) :
    Calls Try.prog 75 #[.agg #[.slice A0 nf c0, .slice A1 nc c1, .int .i64 locks, .slice A3 ncs c3], .slice A2 nfl c2, .agg #[.int .i64 5, .int .i64 a, .int .i64 b, .int .i64 c]] w fun e w' => e = .returned (.int .i64 (if b1 && b2 && b3 then 0 else 4)) ∧ Below w.heap.size w w' := by
  have H1 := Aside0.mk h1
  have H2 := Aside0.mk h2
  have H3 := Aside0.mk h3
  clear h1 h2 h3
  have HB := Aside0.mk (gW_below w nf nc ncs A0 A1 A3 c0 c1 c3 locks 5 a b c)
  have p0 : (gW w nf nc ncs A0 A1 A3 c0 c1 c3 locks 5 a b c).cell? ⟨w.heap.size, 0, none⟩ = some (.slice A0 nf c0) := (blk_cell (gW_p w nf nc ncs A0 A1 A3 c0 c1 c3 locks 5 a b c) 0).trans rfl
  have p1 : (gW w nf nc ncs A0 A1 A3 c0 c1 c3 locks 5 a b c).cell? ⟨w.heap.size, 1, none⟩ = some (.slice A1 nc c1) := (blk_cell (gW_p w nf nc ncs A0 A1 A3 c0 c1 c3 locks 5 a b c) 1).trans rfl
  have p2 : (gW w nf nc ncs A0 A1 A3 c0 c1 c3 locks 5 a b c).cell? ⟨w.heap.size, 2, none⟩ = some (.int .i64 locks) := (blk_cell (gW_p w nf nc ncs A0 A1 A3 c0 c1 c3 locks 5 a b c) 2).trans rfl
  have p3 : (gW w nf nc ncs A0 A1 A3 c0 c1 c3 locks 5 a b c).cell? ⟨w.heap.size, 3, none⟩ = some (.slice A3 ncs c3) := (blk_cell (gW_p w nf nc ncs A0 A1 A3 c0 c1 c3 locks 5 a b c) 3).trans rfl
  have x0 : (gW w nf nc ncs A0 A1 A3 c0 c1 c3 locks 5 a b c).cell? ⟨w.heap.size + 1, 0, none⟩ = some (.int .i64 5) := (blk_cell (gW_x w nf nc ncs A0 A1 A3 c0 c1 c3 locks 5 a b c) 0).trans rfl
  have x1 : (gW w nf nc ncs A0 A1 A3 c0 c1 c3 locks 5 a b c).cell? ⟨w.heap.size + 1, 1, none⟩ = some (.int .i64 a) := (blk_cell (gW_x w nf nc ncs A0 A1 A3 c0 c1 c3 locks 5 a b c) 1).trans rfl
  have x2 : (gW w nf nc ncs A0 A1 A3 c0 c1 c3 locks 5 a b c).cell? ⟨w.heap.size + 1, 2, none⟩ = some (.int .i64 b) := (blk_cell (gW_x w nf nc ncs A0 A1 A3 c0 c1 c3 locks 5 a b c) 2).trans rfl
  have x3 : (gW w nf nc ncs A0 A1 A3 c0 c1 c3 locks 5 a b c).cell? ⟨w.heap.size + 1, 3, none⟩ = some (.int .i64 c) := (blk_cell (gW_x w nf nc ncs A0 A1 A3 c0 c1 c3 locks 5 a b c) 3).trans rfl
  go_enter Try.func75, Try.ntmps75
  go_upto_region 2 with (fail)
  change Code.wp _ _ _ _ (gW w nf nc ncs A0 A1 A3 c0 c1 c3 locks 5 a b c)
  generalize gW w nf nc ncs A0 A1 A3 c0 c1 c3 locks 5 a b c = w2 at HB p0 p1 p2 p3 x0 x1 x2 x3 ⊢
  cases b1 with
  | false =>
    go_wp2_with (first
        | (go_at_call 74; (with_reducible refine (reg_calls a _ H1.out _).mono ?_); rintro e w' ⟨rfl, hb⟩; have HB2 := Aside0.mk (below_then HB.out HB.out.size hb); have y1 := pw_cell_below hb x1; have y2 := pw_cell_below hb x2; have y3 := pw_cell_below hb x3; have o0 := pw_cell_below hb p0; have o1 := pw_cell_below hb p1; have o2 := pw_cell_below hb p2; have o3 := pw_cell_below hb p3; clear HB x1 x2 x3 p0 p1 p2 p3 hb; have HB := HB2; have x1 := y1; have x2 := y2; have x3 := y3; have p0 := o0; have p1 := o1; have p2 := o2; have p3 := o3; clear HB2 y1 y2 y3 o0 o1 o2 o3)
        | (go_at_call 74; (with_reducible refine (reg_calls b _ H2.out _).mono ?_); rintro e w' ⟨rfl, hb⟩; have HB2 := Aside0.mk (below_then HB.out HB.out.size hb); have y1 := pw_cell_below hb x1; have y2 := pw_cell_below hb x2; have y3 := pw_cell_below hb x3; have o0 := pw_cell_below hb p0; have o1 := pw_cell_below hb p1; have o2 := pw_cell_below hb p2; have o3 := pw_cell_below hb p3; clear HB x1 x2 x3 p0 p1 p2 p3 hb; have HB := HB2; have x1 := y1; have x2 := y2; have x3 := y3; have p0 := o0; have p1 := o1; have p2 := o2; have p3 := o3; clear HB2 y1 y2 y3 o0 o1 o2 o3)
        | (go_at_call 74; (with_reducible refine (reg_calls c _ H3.out _).mono ?_); rintro e w' ⟨rfl, hb⟩; have HB2 := Aside0.mk (below_then HB.out HB.out.size hb); have y1 := pw_cell_below hb x1; have y2 := pw_cell_below hb x2; have y3 := pw_cell_below hb x3; have o0 := pw_cell_below hb p0; have o1 := pw_cell_below hb p1; have o2 := pw_cell_below hb p2; have o3 := pw_cell_below hb p3; clear HB x1 x2 x3 p0 p1 p2 p3 hb; have HB := HB2; have x1 := y1; have x2 := y2; have x3 := y3; have p0 := o0; have p1 := o1; have p2 := o2; have p3 := o3; clear HB2 y1 y2 y3 o0 o1 o2 o3))
    go_ret
    exact ⟨rfl, HB.out⟩
  | true =>
    cases b2 with
    | false =>
      go_wp2_with (first
        | (go_at_call 74; (with_reducible refine (reg_calls a _ H1.out _).mono ?_); rintro e w' ⟨rfl, hb⟩; have HB2 := Aside0.mk (below_then HB.out HB.out.size hb); have y1 := pw_cell_below hb x1; have y2 := pw_cell_below hb x2; have y3 := pw_cell_below hb x3; have o0 := pw_cell_below hb p0; have o1 := pw_cell_below hb p1; have o2 := pw_cell_below hb p2; have o3 := pw_cell_below hb p3; clear HB x1 x2 x3 p0 p1 p2 p3 hb; have HB := HB2; have x1 := y1; have x2 := y2; have x3 := y3; have p0 := o0; have p1 := o1; have p2 := o2; have p3 := o3; clear HB2 y1 y2 y3 o0 o1 o2 o3)
        | (go_at_call 74; (with_reducible refine (reg_calls b _ H2.out _).mono ?_); rintro e w' ⟨rfl, hb⟩; have HB2 := Aside0.mk (below_then HB.out HB.out.size hb); have y1 := pw_cell_below hb x1; have y2 := pw_cell_below hb x2; have y3 := pw_cell_below hb x3; have o0 := pw_cell_below hb p0; have o1 := pw_cell_below hb p1; have o2 := pw_cell_below hb p2; have o3 := pw_cell_below hb p3; clear HB x1 x2 x3 p0 p1 p2 p3 hb; have HB := HB2; have x1 := y1; have x2 := y2; have x3 := y3; have p0 := o0; have p1 := o1; have p2 := o2; have p3 := o3; clear HB2 y1 y2 y3 o0 o1 o2 o3)
        | (go_at_call 74; (with_reducible refine (reg_calls c _ H3.out _).mono ?_); rintro e w' ⟨rfl, hb⟩; have HB2 := Aside0.mk (below_then HB.out HB.out.size hb); have y1 := pw_cell_below hb x1; have y2 := pw_cell_below hb x2; have y3 := pw_cell_below hb x3; have o0 := pw_cell_below hb p0; have o1 := pw_cell_below hb p1; have o2 := pw_cell_below hb p2; have o3 := pw_cell_below hb p3; clear HB x1 x2 x3 p0 p1 p2 p3 hb; have HB := HB2; have x1 := y1; have x2 := y2; have x3 := y3; have p0 := o0; have p1 := o1; have p2 := o2; have p3 := o3; clear HB2 y1 y2 y3 o0 o1 o2 o3))
      go_ret
      exact ⟨rfl, HB.out⟩
    | true =>
      cases b3 with
      | false =>
        go_wp2_with (first
        | (go_at_call 74; (with_reducible refine (reg_calls a _ H1.out _).mono ?_); rintro e w' ⟨rfl, hb⟩; have HB2 := Aside0.mk (below_then HB.out HB.out.size hb); have y1 := pw_cell_below hb x1; have y2 := pw_cell_below hb x2; have y3 := pw_cell_below hb x3; have o0 := pw_cell_below hb p0; have o1 := pw_cell_below hb p1; have o2 := pw_cell_below hb p2; have o3 := pw_cell_below hb p3; clear HB x1 x2 x3 p0 p1 p2 p3 hb; have HB := HB2; have x1 := y1; have x2 := y2; have x3 := y3; have p0 := o0; have p1 := o1; have p2 := o2; have p3 := o3; clear HB2 y1 y2 y3 o0 o1 o2 o3)
        | (go_at_call 74; (with_reducible refine (reg_calls b _ H2.out _).mono ?_); rintro e w' ⟨rfl, hb⟩; have HB2 := Aside0.mk (below_then HB.out HB.out.size hb); have y1 := pw_cell_below hb x1; have y2 := pw_cell_below hb x2; have y3 := pw_cell_below hb x3; have o0 := pw_cell_below hb p0; have o1 := pw_cell_below hb p1; have o2 := pw_cell_below hb p2; have o3 := pw_cell_below hb p3; clear HB x1 x2 x3 p0 p1 p2 p3 hb; have HB := HB2; have x1 := y1; have x2 := y2; have x3 := y3; have p0 := o0; have p1 := o1; have p2 := o2; have p3 := o3; clear HB2 y1 y2 y3 o0 o1 o2 o3)
        | (go_at_call 74; (with_reducible refine (reg_calls c _ H3.out _).mono ?_); rintro e w' ⟨rfl, hb⟩; have HB2 := Aside0.mk (below_then HB.out HB.out.size hb); have y1 := pw_cell_below hb x1; have y2 := pw_cell_below hb x2; have y3 := pw_cell_below hb x3; have o0 := pw_cell_below hb p0; have o1 := pw_cell_below hb p1; have o2 := pw_cell_below hb p2; have o3 := pw_cell_below hb p3; clear HB x1 x2 x3 p0 p1 p2 p3 hb; have HB := HB2; have x1 := y1; have x2 := y2; have x3 := y3; have p0 := o0; have p1 := o1; have p2 := o2; have p3 := o3; clear HB2 y1 y2 y3 o0 o1 o2 o3))
        go_ret
        exact ⟨rfl, HB.out⟩
      | true =>
        go_wp2_with (first
        | (go_at_call 74; (with_reducible refine (reg_calls a _ H1.out _).mono ?_); rintro e w' ⟨rfl, hb⟩; have HB2 := Aside0.mk (below_then HB.out HB.out.size hb); have y1 := pw_cell_below hb x1; have y2 := pw_cell_below hb x2; have y3 := pw_cell_below hb x3; have o0 := pw_cell_below hb p0; have o1 := pw_cell_below hb p1; have o2 := pw_cell_below hb p2; have o3 := pw_cell_below hb p3; clear HB x1 x2 x3 p0 p1 p2 p3 hb; have HB := HB2; have x1 := y1; have x2 := y2; have x3 := y3; have p0 := o0; have p1 := o1; have p2 := o2; have p3 := o3; clear HB2 y1 y2 y3 o0 o1 o2 o3)
        | (go_at_call 74; (with_reducible refine (reg_calls b _ H2.out _).mono ?_); rintro e w' ⟨rfl, hb⟩; have HB2 := Aside0.mk (below_then HB.out HB.out.size hb); have y1 := pw_cell_below hb x1; have y2 := pw_cell_below hb x2; have y3 := pw_cell_below hb x3; have o0 := pw_cell_below hb p0; have o1 := pw_cell_below hb p1; have o2 := pw_cell_below hb p2; have o3 := pw_cell_below hb p3; clear HB x1 x2 x3 p0 p1 p2 p3 hb; have HB := HB2; have x1 := y1; have x2 := y2; have x3 := y3; have p0 := o0; have p1 := o1; have p2 := o2; have p3 := o3; clear HB2 y1 y2 y3 o0 o1 o2 o3)
        | (go_at_call 74; (with_reducible refine (reg_calls c _ H3.out _).mono ?_); rintro e w' ⟨rfl, hb⟩; have HB2 := Aside0.mk (below_then HB.out HB.out.size hb); have y1 := pw_cell_below hb x1; have y2 := pw_cell_below hb x2; have y3 := pw_cell_below hb x3; have o0 := pw_cell_below hb p0; have o1 := pw_cell_below hb p1; have o2 := pw_cell_below hb p2; have o3 := pw_cell_below hb p3; clear HB x1 x2 x3 p0 p1 p2 p3 hb; have HB := HB2; have x1 := y1; have x2 := y2; have x3 := y3; have p0 := o0; have p1 := o1; have p2 := o2; have p3 := o3; clear HB2 y1 y2 y3 o0 o1 o2 o3))
        go_ret
        exact ⟨rfl, HB.out⟩
set_option maxHeartbeats 2000000 in
set_option maxRecDepth 100000 in
theorem good_6 (nf nc ncs nfl : Nat) (A0 A1 A2 A3 : Option Addr) (c0 c1 c2 c3 : Nat) (locks a b c : Int) (b1 b2 b3 : Bool) (h1 : inB a 0 8 = b1) (h2 : inB b 0 8 = b2) (h3 : inB c 0 8 = b3) (w : World) :
    Calls Try.prog 75 #[.agg #[.slice A0 nf c0, .slice A1 nc c1, .int .i64 locks, .slice A3 ncs c3], .slice A2 nfl c2, .agg #[.int .i64 6, .int .i64 a, .int .i64 b, .int .i64 c]] w fun e w' => e = .returned (.int .i64 (if b1 && b2 && b3 then 0 else 4)) ∧ Below w.heap.size w w' := by
  have H1 := Aside0.mk h1
  have H2 := Aside0.mk h2
  have H3 := Aside0.mk h3
  clear h1 h2 h3
  have HB := Aside0.mk (gW_below w nf nc ncs A0 A1 A3 c0 c1 c3 locks 6 a b c)
  have p0 : (gW w nf nc ncs A0 A1 A3 c0 c1 c3 locks 6 a b c).cell? ⟨w.heap.size, 0, none⟩ = some (.slice A0 nf c0) := (blk_cell (gW_p w nf nc ncs A0 A1 A3 c0 c1 c3 locks 6 a b c) 0).trans rfl
  have p1 : (gW w nf nc ncs A0 A1 A3 c0 c1 c3 locks 6 a b c).cell? ⟨w.heap.size, 1, none⟩ = some (.slice A1 nc c1) := (blk_cell (gW_p w nf nc ncs A0 A1 A3 c0 c1 c3 locks 6 a b c) 1).trans rfl
  have p2 : (gW w nf nc ncs A0 A1 A3 c0 c1 c3 locks 6 a b c).cell? ⟨w.heap.size, 2, none⟩ = some (.int .i64 locks) := (blk_cell (gW_p w nf nc ncs A0 A1 A3 c0 c1 c3 locks 6 a b c) 2).trans rfl
  have p3 : (gW w nf nc ncs A0 A1 A3 c0 c1 c3 locks 6 a b c).cell? ⟨w.heap.size, 3, none⟩ = some (.slice A3 ncs c3) := (blk_cell (gW_p w nf nc ncs A0 A1 A3 c0 c1 c3 locks 6 a b c) 3).trans rfl
  have x0 : (gW w nf nc ncs A0 A1 A3 c0 c1 c3 locks 6 a b c).cell? ⟨w.heap.size + 1, 0, none⟩ = some (.int .i64 6) := (blk_cell (gW_x w nf nc ncs A0 A1 A3 c0 c1 c3 locks 6 a b c) 0).trans rfl
  have x1 : (gW w nf nc ncs A0 A1 A3 c0 c1 c3 locks 6 a b c).cell? ⟨w.heap.size + 1, 1, none⟩ = some (.int .i64 a) := (blk_cell (gW_x w nf nc ncs A0 A1 A3 c0 c1 c3 locks 6 a b c) 1).trans rfl
  have x2 : (gW w nf nc ncs A0 A1 A3 c0 c1 c3 locks 6 a b c).cell? ⟨w.heap.size + 1, 2, none⟩ = some (.int .i64 b) := (blk_cell (gW_x w nf nc ncs A0 A1 A3 c0 c1 c3 locks 6 a b c) 2).trans rfl
  have x3 : (gW w nf nc ncs A0 A1 A3 c0 c1 c3 locks 6 a b c).cell? ⟨w.heap.size + 1, 3, none⟩ = some (.int .i64 c) := (blk_cell (gW_x w nf nc ncs A0 A1 A3 c0 c1 c3 locks 6 a b c) 3).trans rfl
  go_enter Try.func75, Try.ntmps75
  go_upto_region 2 with (fail)
  change Code.wp _ _ _ _ (gW w nf nc ncs A0 A1 A3 c0 c1 c3 locks 6 a b c)
  generalize gW w nf nc ncs A0 A1 A3 c0 c1 c3 locks 6 a b c = w2 at HB p0 p1 p2 p3 x0 x1 x2 x3 ⊢
  cases b1 with
  | false =>
    go_wp2_with (first
        | (go_at_call 74; (with_reducible refine (reg_calls a _ H1.out _).mono ?_); rintro e w' ⟨rfl, hb⟩; have HB2 := Aside0.mk (below_then HB.out HB.out.size hb); have y1 := pw_cell_below hb x1; have y2 := pw_cell_below hb x2; have y3 := pw_cell_below hb x3; have o0 := pw_cell_below hb p0; have o1 := pw_cell_below hb p1; have o2 := pw_cell_below hb p2; have o3 := pw_cell_below hb p3; clear HB x1 x2 x3 p0 p1 p2 p3 hb; have HB := HB2; have x1 := y1; have x2 := y2; have x3 := y3; have p0 := o0; have p1 := o1; have p2 := o2; have p3 := o3; clear HB2 y1 y2 y3 o0 o1 o2 o3)
        | (go_at_call 74; (with_reducible refine (reg_calls b _ H2.out _).mono ?_); rintro e w' ⟨rfl, hb⟩; have HB2 := Aside0.mk (below_then HB.out HB.out.size hb); have y1 := pw_cell_below hb x1; have y2 := pw_cell_below hb x2; have y3 := pw_cell_below hb x3; have o0 := pw_cell_below hb p0; have o1 := pw_cell_below hb p1; have o2 := pw_cell_below hb p2; have o3 := pw_cell_below hb p3; clear HB x1 x2 x3 p0 p1 p2 p3 hb; have HB := HB2; have x1 := y1; have x2 := y2; have x3 := y3; have p0 := o0; have p1 := o1; have p2 := o2; have p3 := o3; clear HB2 y1 y2 y3 o0 o1 o2 o3)
        | (go_at_call 74; (with_reducible refine (reg_calls c _ H3.out _).mono ?_); rintro e w' ⟨rfl, hb⟩; have HB2 := Aside0.mk (below_then HB.out HB.out.size hb); have y1 := pw_cell_below hb x1; have y2 := pw_cell_below hb x2; have y3 := pw_cell_below hb x3; have o0 := pw_cell_below hb p0; have o1 := pw_cell_below hb p1; have o2 := pw_cell_below hb p2; have o3 := pw_cell_below hb p3; clear HB x1 x2 x3 p0 p1 p2 p3 hb; have HB := HB2; have x1 := y1; have x2 := y2; have x3 := y3; have p0 := o0; have p1 := o1; have p2 := o2; have p3 := o3; clear HB2 y1 y2 y3 o0 o1 o2 o3))
    go_ret
    exact ⟨rfl, HB.out⟩
  | true =>
    cases b2 with
    | false =>
      go_wp2_with (first
        | (go_at_call 74; (with_reducible refine (reg_calls a _ H1.out _).mono ?_); rintro e w' ⟨rfl, hb⟩; have HB2 := Aside0.mk (below_then HB.out HB.out.size hb); have y1 := pw_cell_below hb x1; have y2 := pw_cell_below hb x2; have y3 := pw_cell_below hb x3; have o0 := pw_cell_below hb p0; have o1 := pw_cell_below hb p1; have o2 := pw_cell_below hb p2; have o3 := pw_cell_below hb p3; clear HB x1 x2 x3 p0 p1 p2 p3 hb; have HB := HB2; have x1 := y1; have x2 := y2; have x3 := y3; have p0 := o0; have p1 := o1; have p2 := o2; have p3 := o3; clear HB2 y1 y2 y3 o0 o1 o2 o3)
        | (go_at_call 74; (with_reducible refine (reg_calls b _ H2.out _).mono ?_); rintro e w' ⟨rfl, hb⟩; have HB2 := Aside0.mk (below_then HB.out HB.out.size hb); have y1 := pw_cell_below hb x1; have y2 := pw_cell_below hb x2; have y3 := pw_cell_below hb x3; have o0 := pw_cell_below hb p0; have o1 := pw_cell_below hb p1; have o2 := pw_cell_below hb p2; have o3 := pw_cell_below hb p3; clear HB x1 x2 x3 p0 p1 p2 p3 hb; have HB := HB2; have x1 := y1; have x2 := y2; have x3 := y3; have p0 := o0; have p1 := o1; have p2 := o2; have p3 := o3; clear HB2 y1 y2 y3 o0 o1 o2 o3)
        | (go_at_call 74; (with_reducible refine (reg_calls c _ H3.out _).mono ?_); rintro e w' ⟨rfl, hb⟩; have HB2 := Aside0.mk (below_then HB.out HB.out.size hb); have y1 := pw_cell_below hb x1; have y2 := pw_cell_below hb x2; have y3 := pw_cell_below hb x3; have o0 := pw_cell_below hb p0; have o1 := pw_cell_below hb p1; have o2 := pw_cell_below hb p2; have o3 := pw_cell_below hb p3; clear HB x1 x2 x3 p0 p1 p2 p3 hb; have HB := HB2; have x1 := y1; have x2 := y2; have x3 := y3; have p0 := o0; have p1 := o1; have p2 := o2; have p3 := o3; clear HB2 y1 y2 y3 o0 o1 o2 o3))
      go_ret
      exact ⟨rfl, HB.out⟩
    | true =>
      cases b3 with
      | false =>
        go_wp2_with (first
        | (go_at_call 74; (with_reducible refine (reg_calls a _ H1.out _).mono ?_); rintro e w' ⟨rfl, hb⟩; have HB2 := Aside0.mk (below_then HB.out HB.out.size hb); have y1 := pw_cell_below hb x1; have y2 := pw_cell_below hb x2; have y3 := pw_cell_below hb x3; have o0 := pw_cell_below hb p0; have o1 := pw_cell_below hb p1; have o2 := pw_cell_below hb p2; have o3 := pw_cell_below hb p3; clear HB x1 x2 x3 p0 p1 p2 p3 hb; have HB := HB2; have x1 := y1; have x2 := y2; have x3 := y3; have p0 := o0; have p1 := o1; have p2 := o2; have p3 := o3; clear HB2 y1 y2 y3 o0 o1 o2 o3)
        | (go_at_call 74; (with_reducible refine (reg_calls b _ H2.out _).mono ?_); rintro e w' ⟨rfl, hb⟩; have HB2 := Aside0.mk (below_then HB.out HB.out.size hb); have y1 := pw_cell_below hb x1; have y2 := pw_cell_below hb x2; have y3 := pw_cell_below hb x3; have o0 := pw_cell_below hb p0; have o1 := pw_cell_below hb p1; have o2 := pw_cell_below hb p2; have o3 := pw_cell_below hb p3; clear HB x1 x2 x3 p0 p1 p2 p3 hb; have HB := HB2; have x1 := y1; have x2 := y2; have x3 := y3; have p0 := o0; have p1 := o1; have p2 := o2; have p3 := o3; clear HB2 y1 y2 y3 o0 o1 o2 o3)
        | (go_at_call 74; (with_reducible refine (reg_calls c _ H3.out _).mono ?_); rintro e w' ⟨rfl, hb⟩; have HB2 := Aside0.mk (below_then HB.out HB.out.size hb); have y1 := pw_cell_below hb x1; have y2 := pw_cell_below hb x2; have y3 := pw_cell_below hb x3; have o0 := pw_cell_below hb p0; have o1 := pw_cell_below hb p1; have o2 := pw_cell_below hb p2; have o3 := pw_cell_below hb p3; clear HB x1 x2 x3 p0 p1 p2 p3 hb; have HB := HB2; have x1 := y1; have x2 := y2; have x3 := y3; have p0 := o0; have p1 := o1; have p2 := o2; have p3 := o3; clear HB2 y1 y2 y3 o0 o1 o2 o3))
        go_ret
        exact ⟨rfl, HB.out⟩
      | true =>
        go_wp2_with (first
        | (go_at_call 74; (with_reducible refine (reg_calls a _ H1.out _).mono ?_); rintro e w' ⟨rfl, hb⟩; have HB2 := Aside0.mk (below_then HB.out HB.out.size hb); have y1 := pw_cell_below hb x1; have y2 := pw_cell_below hb x2; have y3 := pw_cell_below hb x3; have o0 := pw_cell_below hb p0; have o1 := pw_cell_below hb p1; have o2 := pw_cell_below hb p2; have o3 := pw_cell_below hb p3; clear HB x1 x2 x3 p0 p1 p2 p3 hb; have HB := HB2; have x1 := y1; have x2 := y2; have x3 := y3; have p0 := o0; have p1 := o1; have p2 := o2; have p3 := o3; clear HB2 y1 y2 y3 o0 o1 o2 o3)
        | (go_at_call 74; (with_reducible refine (reg_calls b _ H2.out _).mono ?_); rintro e w' ⟨rfl, hb⟩; have HB2 := Aside0.mk (below_then HB.out HB.out.size hb); have y1 := pw_cell_below hb x1; have y2 := pw_cell_below hb x2; have y3 := pw_cell_below hb x3; have o0 := pw_cell_below hb p0; have o1 := pw_cell_below hb p1; have o2 := pw_cell_below hb p2; have o3 := pw_cell_below hb p3; clear HB x1 x2 x3 p0 p1 p2 p3 hb; have HB := HB2; have x1 := y1; have x2 := y2; have x3 := y3; have p0 := o0; have p1 := o1; have p2 := o2; have p3 := o3; clear HB2 y1 y2 y3 o0 o1 o2 o3)
        | (go_at_call 74; (with_reducible refine (reg_calls c _ H3.out _).mono ?_); rintro e w' ⟨rfl, hb⟩; have HB2 := Aside0.mk (below_then HB.out HB.out.size hb); have y1 := pw_cell_below hb x1; have y2 := pw_cell_below hb x2; have y3 := pw_cell_below hb x3; have o0 := pw_cell_below hb p0; have o1 := pw_cell_below hb p1; have o2 := pw_cell_below hb p2; have o3 := pw_cell_below hb p3; clear HB x1 x2 x3 p0 p1 p2 p3 hb; have HB := HB2; have x1 := y1; have x2 := y2; have x3 := y3; have p0 := o0; have p1 := o1; have p2 := o2; have p3 := o3; clear HB2 y1 y2 y3 o0 o1 o2 o3))
        go_ret
        exact ⟨rfl, HB.out⟩
set_option maxHeartbeats 2000000 in
set_option maxRecDepth 100000 in
theorem good_7 (nf nc ncs nfl : Nat) (A0 A1 A2 A3 : Option Addr) (c0 c1 c2 c3 : Nat) (locks a b c : Int) (b1 b2 b3 : Bool) (h1 : inB a 0 (nfl : Int) = b1) (h2 : (b == 0) = b2) (h3 : (c == 0) = b3) (w : World) :
    Calls Try.prog 75 #[.agg #[.slice A0 nf c0, .slice A1 nc c1, .int .i64 locks, .slice A3 ncs c3], .slice A2 nfl c2, .agg #[.int .i64 7, .int .i64 a, .int .i64 b, .int .i64 c]] w fun e w' => e = .returned (.int .i64 (if b1 && b2 && b3 then 0 else 4)) ∧ Below w.heap.size w w' := by
  have H1 := Aside0.mk h1
  clear h1
  have HB := Aside0.mk (gW_below w nf nc ncs A0 A1 A3 c0 c1 c3 locks 7 a b c)
  have p0 : (gW w nf nc ncs A0 A1 A3 c0 c1 c3 locks 7 a b c).cell? ⟨w.heap.size, 0, none⟩ = some (.slice A0 nf c0) := (blk_cell (gW_p w nf nc ncs A0 A1 A3 c0 c1 c3 locks 7 a b c) 0).trans rfl
  have p1 : (gW w nf nc ncs A0 A1 A3 c0 c1 c3 locks 7 a b c).cell? ⟨w.heap.size, 1, none⟩ = some (.slice A1 nc c1) := (blk_cell (gW_p w nf nc ncs A0 A1 A3 c0 c1 c3 locks 7 a b c) 1).trans rfl
  have p2 : (gW w nf nc ncs A0 A1 A3 c0 c1 c3 locks 7 a b c).cell? ⟨w.heap.size, 2, none⟩ = some (.int .i64 locks) := (blk_cell (gW_p w nf nc ncs A0 A1 A3 c0 c1 c3 locks 7 a b c) 2).trans rfl
  have p3 : (gW w nf nc ncs A0 A1 A3 c0 c1 c3 locks 7 a b c).cell? ⟨w.heap.size, 3, none⟩ = some (.slice A3 ncs c3) := (blk_cell (gW_p w nf nc ncs A0 A1 A3 c0 c1 c3 locks 7 a b c) 3).trans rfl
  have x0 : (gW w nf nc ncs A0 A1 A3 c0 c1 c3 locks 7 a b c).cell? ⟨w.heap.size + 1, 0, none⟩ = some (.int .i64 7) := (blk_cell (gW_x w nf nc ncs A0 A1 A3 c0 c1 c3 locks 7 a b c) 0).trans rfl
  have x1 : (gW w nf nc ncs A0 A1 A3 c0 c1 c3 locks 7 a b c).cell? ⟨w.heap.size + 1, 1, none⟩ = some (.int .i64 a) := (blk_cell (gW_x w nf nc ncs A0 A1 A3 c0 c1 c3 locks 7 a b c) 1).trans rfl
  have x2 : (gW w nf nc ncs A0 A1 A3 c0 c1 c3 locks 7 a b c).cell? ⟨w.heap.size + 1, 2, none⟩ = some (.int .i64 b) := (blk_cell (gW_x w nf nc ncs A0 A1 A3 c0 c1 c3 locks 7 a b c) 2).trans rfl
  have x3 : (gW w nf nc ncs A0 A1 A3 c0 c1 c3 locks 7 a b c).cell? ⟨w.heap.size + 1, 3, none⟩ = some (.int .i64 c) := (blk_cell (gW_x w nf nc ncs A0 A1 A3 c0 c1 c3 locks 7 a b c) 3).trans rfl
  go_enter Try.func75, Try.ntmps75
  go_upto_region 2 with (fail)
  change Code.wp _ _ _ _ (gW w nf nc ncs A0 A1 A3 c0 c1 c3 locks 7 a b c)
  generalize gW w nf nc ncs A0 A1 A3 c0 c1 c3 locks 7 a b c = w2 at HB p0 p1 p2 p3 x0 x1 x2 x3 ⊢
  cases b1 with
  | false =>
    go_wp2_with (first
        | (go_at_call 73; (with_reducible refine (in_calls a 0 (nfl : Int) _ H1.out _).mono ?_); rintro e w' ⟨rfl, hb⟩; have HB2 := Aside0.mk (below_then HB.out HB.out.size hb); have y1 := pw_cell_below hb x1; have y2 := pw_cell_below hb x2; have y3 := pw_cell_below hb x3; have o0 := pw_cell_below hb p0; have o1 := pw_cell_below hb p1; have o2 := pw_cell_below hb p2; have o3 := pw_cell_below hb p3; clear HB x1 x2 x3 p0 p1 p2 p3 hb; have HB := HB2; have x1 := y1; have x2 := y2; have x3 := y3; have p0 := o0; have p1 := o1; have p2 := o2; have p3 := o3; clear HB2 y1 y2 y3 o0 o1 o2 o3))
    go_ret
    exact ⟨rfl, HB.out⟩
  | true =>
    cases b2 with
    | false =>
      go_wp2_with (first
        | (go_at_call 73; (with_reducible refine (in_calls a 0 (nfl : Int) _ H1.out _).mono ?_); rintro e w' ⟨rfl, hb⟩; have HB2 := Aside0.mk (below_then HB.out HB.out.size hb); have y1 := pw_cell_below hb x1; have y2 := pw_cell_below hb x2; have y3 := pw_cell_below hb x3; have o0 := pw_cell_below hb p0; have o1 := pw_cell_below hb p1; have o2 := pw_cell_below hb p2; have o3 := pw_cell_below hb p3; clear HB x1 x2 x3 p0 p1 p2 p3 hb; have HB := HB2; have x1 := y1; have x2 := y2; have x3 := y3; have p0 := o0; have p1 := o1; have p2 := o2; have p3 := o3; clear HB2 y1 y2 y3 o0 o1 o2 o3))
      go_ret
      exact ⟨rfl, HB.out⟩
    | true =>
      cases b3 with
      | false =>
        go_wp2_with (first
        | (go_at_call 73; (with_reducible refine (in_calls a 0 (nfl : Int) _ H1.out _).mono ?_); rintro e w' ⟨rfl, hb⟩; have HB2 := Aside0.mk (below_then HB.out HB.out.size hb); have y1 := pw_cell_below hb x1; have y2 := pw_cell_below hb x2; have y3 := pw_cell_below hb x3; have o0 := pw_cell_below hb p0; have o1 := pw_cell_below hb p1; have o2 := pw_cell_below hb p2; have o3 := pw_cell_below hb p3; clear HB x1 x2 x3 p0 p1 p2 p3 hb; have HB := HB2; have x1 := y1; have x2 := y2; have x3 := y3; have p0 := o0; have p1 := o1; have p2 := o2; have p3 := o3; clear HB2 y1 y2 y3 o0 o1 o2 o3))
        go_ret
        exact ⟨rfl, HB.out⟩
      | true =>
        go_wp2_with (first
        | (go_at_call 73; (with_reducible refine (in_calls a 0 (nfl : Int) _ H1.out _).mono ?_); rintro e w' ⟨rfl, hb⟩; have HB2 := Aside0.mk (below_then HB.out HB.out.size hb); have y1 := pw_cell_below hb x1; have y2 := pw_cell_below hb x2; have y3 := pw_cell_below hb x3; have o0 := pw_cell_below hb p0; have o1 := pw_cell_below hb p1; have o2 := pw_cell_below hb p2; have o3 := pw_cell_below hb p3; clear HB x1 x2 x3 p0 p1 p2 p3 hb; have HB := HB2; have x1 := y1; have x2 := y2; have x3 := y3; have p0 := o0; have p1 := o1; have p2 := o2; have p3 := o3; clear HB2 y1 y2 y3 o0 o1 o2 o3))
        go_ret
        exact ⟨rfl, HB.out⟩
set_option maxHeartbeats 2000000 in
set_option maxRecDepth 100000 in
theorem good_8 (nf nc ncs nfl : Nat) (A0 A1 A2 A3 : Option Addr) (c0 c1 c2 c3 : Nat) (locks a b c : Int) (b1 b2 b3 : Bool) (h1 : inB a 0 8 = b1) (h2 : inB b 0 (nfl : Int) = b2) (h3 : (c == 0) = b3) (w : World) :
    Calls Try.prog 75 #[.agg #[.slice A0 nf c0, .slice A1 nc c1, .int .i64 locks, .slice A3 ncs c3], .slice A2 nfl c2, .agg #[.int .i64 8, .int .i64 a, .int .i64 b, .int .i64 c]] w fun e w' => e = .returned (.int .i64 (if b1 && b2 && b3 then 0 else 4)) ∧ Below w.heap.size w w' := by
  have H1 := Aside0.mk h1
  have H2 := Aside0.mk h2
  clear h1 h2
  have HB := Aside0.mk (gW_below w nf nc ncs A0 A1 A3 c0 c1 c3 locks 8 a b c)
  have p0 : (gW w nf nc ncs A0 A1 A3 c0 c1 c3 locks 8 a b c).cell? ⟨w.heap.size, 0, none⟩ = some (.slice A0 nf c0) := (blk_cell (gW_p w nf nc ncs A0 A1 A3 c0 c1 c3 locks 8 a b c) 0).trans rfl
  have p1 : (gW w nf nc ncs A0 A1 A3 c0 c1 c3 locks 8 a b c).cell? ⟨w.heap.size, 1, none⟩ = some (.slice A1 nc c1) := (blk_cell (gW_p w nf nc ncs A0 A1 A3 c0 c1 c3 locks 8 a b c) 1).trans rfl
  have p2 : (gW w nf nc ncs A0 A1 A3 c0 c1 c3 locks 8 a b c).cell? ⟨w.heap.size, 2, none⟩ = some (.int .i64 locks) := (blk_cell (gW_p w nf nc ncs A0 A1 A3 c0 c1 c3 locks 8 a b c) 2).trans rfl
  have p3 : (gW w nf nc ncs A0 A1 A3 c0 c1 c3 locks 8 a b c).cell? ⟨w.heap.size, 3, none⟩ = some (.slice A3 ncs c3) := (blk_cell (gW_p w nf nc ncs A0 A1 A3 c0 c1 c3 locks 8 a b c) 3).trans rfl
  have x0 : (gW w nf nc ncs A0 A1 A3 c0 c1 c3 locks 8 a b c).cell? ⟨w.heap.size + 1, 0, none⟩ = some (.int .i64 8) := (blk_cell (gW_x w nf nc ncs A0 A1 A3 c0 c1 c3 locks 8 a b c) 0).trans rfl
  have x1 : (gW w nf nc ncs A0 A1 A3 c0 c1 c3 locks 8 a b c).cell? ⟨w.heap.size + 1, 1, none⟩ = some (.int .i64 a) := (blk_cell (gW_x w nf nc ncs A0 A1 A3 c0 c1 c3 locks 8 a b c) 1).trans rfl
  have x2 : (gW w nf nc ncs A0 A1 A3 c0 c1 c3 locks 8 a b c).cell? ⟨w.heap.size + 1, 2, none⟩ = some (.int .i64 b) := (blk_cell (gW_x w nf nc ncs A0 A1 A3 c0 c1 c3 locks 8 a b c) 2).trans rfl
  have x3 : (gW w nf nc ncs A0 A1 A3 c0 c1 c3 locks 8 a b c).cell? ⟨w.heap.size + 1, 3, none⟩ = some (.int .i64 c) := (blk_cell (gW_x w nf nc ncs A0 A1 A3 c0 c1 c3 locks 8 a b c) 3).trans rfl
  go_enter Try.func75, Try.ntmps75
  go_upto_region 2 with (fail)
  change Code.wp _ _ _ _ (gW w nf nc ncs A0 A1 A3 c0 c1 c3 locks 8 a b c)
  generalize gW w nf nc ncs A0 A1 A3 c0 c1 c3 locks 8 a b c = w2 at HB p0 p1 p2 p3 x0 x1 x2 x3 ⊢
  cases b1 with
  | false =>
    go_wp2_with (first
        | (go_at_call 74; (with_reducible refine (reg_calls a _ H1.out _).mono ?_); rintro e w' ⟨rfl, hb⟩; have HB2 := Aside0.mk (below_then HB.out HB.out.size hb); have y1 := pw_cell_below hb x1; have y2 := pw_cell_below hb x2; have y3 := pw_cell_below hb x3; have o0 := pw_cell_below hb p0; have o1 := pw_cell_below hb p1; have o2 := pw_cell_below hb p2; have o3 := pw_cell_below hb p3; clear HB x1 x2 x3 p0 p1 p2 p3 hb; have HB := HB2; have x1 := y1; have x2 := y2; have x3 := y3; have p0 := o0; have p1 := o1; have p2 := o2; have p3 := o3; clear HB2 y1 y2 y3 o0 o1 o2 o3)
        | (go_at_call 73; (with_reducible refine (in_calls b 0 (nfl : Int) _ H2.out _).mono ?_); rintro e w' ⟨rfl, hb⟩; have HB2 := Aside0.mk (below_then HB.out HB.out.size hb); have y1 := pw_cell_below hb x1; have y2 := pw_cell_below hb x2; have y3 := pw_cell_below hb x3; have o0 := pw_cell_below hb p0; have o1 := pw_cell_below hb p1; have o2 := pw_cell_below hb p2; have o3 := pw_cell_below hb p3; clear HB x1 x2 x3 p0 p1 p2 p3 hb; have HB := HB2; have x1 := y1; have x2 := y2; have x3 := y3; have p0 := o0; have p1 := o1; have p2 := o2; have p3 := o3; clear HB2 y1 y2 y3 o0 o1 o2 o3))
    go_ret
    exact ⟨rfl, HB.out⟩
  | true =>
    cases b2 with
    | false =>
      go_wp2_with (first
        | (go_at_call 74; (with_reducible refine (reg_calls a _ H1.out _).mono ?_); rintro e w' ⟨rfl, hb⟩; have HB2 := Aside0.mk (below_then HB.out HB.out.size hb); have y1 := pw_cell_below hb x1; have y2 := pw_cell_below hb x2; have y3 := pw_cell_below hb x3; have o0 := pw_cell_below hb p0; have o1 := pw_cell_below hb p1; have o2 := pw_cell_below hb p2; have o3 := pw_cell_below hb p3; clear HB x1 x2 x3 p0 p1 p2 p3 hb; have HB := HB2; have x1 := y1; have x2 := y2; have x3 := y3; have p0 := o0; have p1 := o1; have p2 := o2; have p3 := o3; clear HB2 y1 y2 y3 o0 o1 o2 o3)
        | (go_at_call 73; (with_reducible refine (in_calls b 0 (nfl : Int) _ H2.out _).mono ?_); rintro e w' ⟨rfl, hb⟩; have HB2 := Aside0.mk (below_then HB.out HB.out.size hb); have y1 := pw_cell_below hb x1; have y2 := pw_cell_below hb x2; have y3 := pw_cell_below hb x3; have o0 := pw_cell_below hb p0; have o1 := pw_cell_below hb p1; have o2 := pw_cell_below hb p2; have o3 := pw_cell_below hb p3; clear HB x1 x2 x3 p0 p1 p2 p3 hb; have HB := HB2; have x1 := y1; have x2 := y2; have x3 := y3; have p0 := o0; have p1 := o1; have p2 := o2; have p3 := o3; clear HB2 y1 y2 y3 o0 o1 o2 o3))
      go_ret
      exact ⟨rfl, HB.out⟩
    | true =>
      cases b3 with
      | false =>
        go_wp2_with (first
        | (go_at_call 74; (with_reducible refine (reg_calls a _ H1.out _).mono ?_); rintro e w' ⟨rfl, hb⟩; have HB2 := Aside0.mk (below_then HB.out HB.out.size hb); have y1 := pw_cell_below hb x1; have y2 := pw_cell_below hb x2; have y3 := pw_cell_below hb x3; have o0 := pw_cell_below hb p0; have o1 := pw_cell_below hb p1; have o2 := pw_cell_below hb p2; have o3 := pw_cell_below hb p3; clear HB x1 x2 x3 p0 p1 p2 p3 hb; have HB := HB2; have x1 := y1; have x2 := y2; have x3 := y3; have p0 := o0; have p1 := o1; have p2 := o2; have p3 := o3; clear HB2 y1 y2 y3 o0 o1 o2 o3)
        | (go_at_call 73; (with_reducible refine (in_calls b 0 (nfl : Int) _ H2.out _).mono ?_); rintro e w' ⟨rfl, hb⟩; have HB2 := Aside0.mk (below_then HB.out HB.out.size hb); have y1 := pw_cell_below hb x1; have y2 := pw_cell_below hb x2; have y3 := pw_cell_below hb x3; have o0 := pw_cell_below hb p0; have o1 := pw_cell_below hb p1; have o2 := pw_cell_below hb p2; have o3 := pw_cell_below hb p3; clear HB x1 x2 x3 p0 p1 p2 p3 hb; have HB := HB2; have x1 := y1; have x2 := y2; have x3 := y3; have p0 := o0; have p1 := o1; have p2 := o2; have p3 := o3; clear HB2 y1 y2 y3 o0 o1 o2 o3))
        go_ret
        exact ⟨rfl, HB.out⟩
      | true =>
        go_wp2_with (first
        | (go_at_call 74; (with_reducible refine (reg_calls a _ H1.out _).mono ?_); rintro e w' ⟨rfl, hb⟩; have HB2 := Aside0.mk (below_then HB.out HB.out.size hb); have y1 := pw_cell_below hb x1; have y2 := pw_cell_below hb x2; have y3 := pw_cell_below hb x3; have o0 := pw_cell_below hb p0; have o1 := pw_cell_below hb p1; have o2 := pw_cell_below hb p2; have o3 := pw_cell_below hb p3; clear HB x1 x2 x3 p0 p1 p2 p3 hb; have HB := HB2; have x1 := y1; have x2 := y2; have x3 := y3; have p0 := o0; have p1 := o1; have p2 := o2; have p3 := o3; clear HB2 y1 y2 y3 o0 o1 o2 o3)
        | (go_at_call 73; (with_reducible refine (in_calls b 0 (nfl : Int) _ H2.out _).mono ?_); rintro e w' ⟨rfl, hb⟩; have HB2 := Aside0.mk (below_then HB.out HB.out.size hb); have y1 := pw_cell_below hb x1; have y2 := pw_cell_below hb x2; have y3 := pw_cell_below hb x3; have o0 := pw_cell_below hb p0; have o1 := pw_cell_below hb p1; have o2 := pw_cell_below hb p2; have o3 := pw_cell_below hb p3; clear HB x1 x2 x3 p0 p1 p2 p3 hb; have HB := HB2; have x1 := y1; have x2 := y2; have x3 := y3; have p0 := o0; have p1 := o1; have p2 := o2; have p3 := o3; clear HB2 y1 y2 y3 o0 o1 o2 o3))
        go_ret
        exact ⟨rfl, HB.out⟩
set_option maxHeartbeats 2000000 in
set_option maxRecDepth 100000 in
theorem good_9 (nf nc ncs nfl : Nat) (A0 A1 A2 A3 : Option Addr) (c0 c1 c2 c3 : Nat) (locks a b c : Int) (b1 b2 b3 : Bool) (h1 : inB a 0 (nf : Int) = b1) (h2 : inB b 0 8 = b2) (h3 : inB c 0 8 = b3) (w : World) :
    Calls Try.prog 75 #[.agg #[.slice A0 nf c0, .slice A1 nc c1, .int .i64 locks, .slice A3 ncs c3], .slice A2 nfl c2, .agg #[.int .i64 9, .int .i64 a, .int .i64 b, .int .i64 c]] w fun e w' => e = .returned (.int .i64 (if b1 && b2 && b3 then 0 else 4)) ∧ Below w.heap.size w w' := by
  have H1 := Aside0.mk h1
  have H2 := Aside0.mk h2
  have H3 := Aside0.mk h3
  clear h1 h2 h3
  have HB := Aside0.mk (gW_below w nf nc ncs A0 A1 A3 c0 c1 c3 locks 9 a b c)
  have p0 : (gW w nf nc ncs A0 A1 A3 c0 c1 c3 locks 9 a b c).cell? ⟨w.heap.size, 0, none⟩ = some (.slice A0 nf c0) := (blk_cell (gW_p w nf nc ncs A0 A1 A3 c0 c1 c3 locks 9 a b c) 0).trans rfl
  have p1 : (gW w nf nc ncs A0 A1 A3 c0 c1 c3 locks 9 a b c).cell? ⟨w.heap.size, 1, none⟩ = some (.slice A1 nc c1) := (blk_cell (gW_p w nf nc ncs A0 A1 A3 c0 c1 c3 locks 9 a b c) 1).trans rfl
  have p2 : (gW w nf nc ncs A0 A1 A3 c0 c1 c3 locks 9 a b c).cell? ⟨w.heap.size, 2, none⟩ = some (.int .i64 locks) := (blk_cell (gW_p w nf nc ncs A0 A1 A3 c0 c1 c3 locks 9 a b c) 2).trans rfl
  have p3 : (gW w nf nc ncs A0 A1 A3 c0 c1 c3 locks 9 a b c).cell? ⟨w.heap.size, 3, none⟩ = some (.slice A3 ncs c3) := (blk_cell (gW_p w nf nc ncs A0 A1 A3 c0 c1 c3 locks 9 a b c) 3).trans rfl
  have x0 : (gW w nf nc ncs A0 A1 A3 c0 c1 c3 locks 9 a b c).cell? ⟨w.heap.size + 1, 0, none⟩ = some (.int .i64 9) := (blk_cell (gW_x w nf nc ncs A0 A1 A3 c0 c1 c3 locks 9 a b c) 0).trans rfl
  have x1 : (gW w nf nc ncs A0 A1 A3 c0 c1 c3 locks 9 a b c).cell? ⟨w.heap.size + 1, 1, none⟩ = some (.int .i64 a) := (blk_cell (gW_x w nf nc ncs A0 A1 A3 c0 c1 c3 locks 9 a b c) 1).trans rfl
  have x2 : (gW w nf nc ncs A0 A1 A3 c0 c1 c3 locks 9 a b c).cell? ⟨w.heap.size + 1, 2, none⟩ = some (.int .i64 b) := (blk_cell (gW_x w nf nc ncs A0 A1 A3 c0 c1 c3 locks 9 a b c) 2).trans rfl
  have x3 : (gW w nf nc ncs A0 A1 A3 c0 c1 c3 locks 9 a b c).cell? ⟨w.heap.size + 1, 3, none⟩ = some (.int .i64 c) := (blk_cell (gW_x w nf nc ncs A0 A1 A3 c0 c1 c3 locks 9 a b c) 3).trans rfl
  go_enter Try.func75, Try.ntmps75
  go_upto_region 2 with (fail)
  change Code.wp _ _ _ _ (gW w nf nc ncs A0 A1 A3 c0 c1 c3 locks 9 a b c)
  generalize gW w nf nc ncs A0 A1 A3 c0 c1 c3 locks 9 a b c = w2 at HB p0 p1 p2 p3 x0 x1 x2 x3 ⊢
  cases b1 with
  | false =>
    go_wp2_with (first
        | (go_at_call 73; (with_reducible refine (in_calls a 0 (nf : Int) _ H1.out _).mono ?_); rintro e w' ⟨rfl, hb⟩; have HB2 := Aside0.mk (below_then HB.out HB.out.size hb); have y1 := pw_cell_below hb x1; have y2 := pw_cell_below hb x2; have y3 := pw_cell_below hb x3; have o0 := pw_cell_below hb p0; have o1 := pw_cell_below hb p1; have o2 := pw_cell_below hb p2; have o3 := pw_cell_below hb p3; clear HB x1 x2 x3 p0 p1 p2 p3 hb; have HB := HB2; have x1 := y1; have x2 := y2; have x3 := y3; have p0 := o0; have p1 := o1; have p2 := o2; have p3 := o3; clear HB2 y1 y2 y3 o0 o1 o2 o3)
        | (go_at_call 74; (with_reducible refine (reg_calls b _ H2.out _).mono ?_); rintro e w' ⟨rfl, hb⟩; have HB2 := Aside0.mk (below_then HB.out HB.out.size hb); have y1 := pw_cell_below hb x1; have y2 := pw_cell_below hb x2; have y3 := pw_cell_below hb x3; have o0 := pw_cell_below hb p0; have o1 := pw_cell_below hb p1; have o2 := pw_cell_below hb p2; have o3 := pw_cell_below hb p3; clear HB x1 x2 x3 p0 p1 p2 p3 hb; have HB := HB2; have x1 := y1; have x2 := y2; have x3 := y3; have p0 := o0; have p1 := o1; have p2 := o2; have p3 := o3; clear HB2 y1 y2 y3 o0 o1 o2 o3)
        | (go_at_call 74; (with_reducible refine (reg_calls c _ H3.out _).mono ?_); rintro e w' ⟨rfl, hb⟩; have HB2 := Aside0.mk (below_then HB.out HB.out.size hb); have y1 := pw_cell_below hb x1; have y2 := pw_cell_below hb x2; have y3 := pw_cell_below hb x3; have o0 := pw_cell_below hb p0; have o1 := pw_cell_below hb p1; have o2 := pw_cell_below hb p2; have o3 := pw_cell_below hb p3; clear HB x1 x2 x3 p0 p1 p2 p3 hb; have HB := HB2; have x1 := y1; have x2 := y2; have x3 := y3; have p0 := o0; have p1 := o1; have p2 := o2; have p3 := o3; clear HB2 y1 y2 y3 o0 o1 o2 o3))
    go_ret
    exact ⟨rfl, HB.out⟩
  | true =>
    cases b2 with
    | false =>
      go_wp2_with (first
        | (go_at_call 73; (with_reducible refine (in_calls a 0 (nf : Int) _ H1.out _).mono ?_); rintro e w' ⟨rfl, hb⟩; have HB2 := Aside0.mk (below_then HB.out HB.out.size hb); have y1 := pw_cell_below hb x1; have y2 := pw_cell_below hb x2; have y3 := pw_cell_below hb x3; have o0 := pw_cell_below hb p0; have o1 := pw_cell_below hb p1; have o2 := pw_cell_below hb p2; have o3 := pw_cell_below hb p3; clear HB x1 x2 x3 p0 p1 p2 p3 hb; have HB := HB2; have x1 := y1; have x2 := y2; have x3 := y3; have p0 := o0; have p1 := o1; have p2 := o2; have p3 := o3; clear HB2 y1 y2 y3 o0 o1 o2 o3)
        | (go_at_call 74; (with_reducible refine (reg_calls b _ H2.out _).mono ?_); rintro e w' ⟨rfl, hb⟩; have HB2 := Aside0.mk (below_then HB.out HB.out.size hb); have y1 := pw_cell_below hb x1; have y2 := pw_cell_below hb x2; have y3 := pw_cell_below hb x3; have o0 := pw_cell_below hb p0; have o1 := pw_cell_below hb p1; have o2 := pw_cell_below hb p2; have o3 := pw_cell_below hb p3; clear HB x1 x2 x3 p0 p1 p2 p3 hb; have HB := HB2; have x1 := y1; have x2 := y2; have x3 := y3; have p0 := o0; have p1 := o1; have p2 := o2; have p3 := o3; clear HB2 y1 y2 y3 o0 o1 o2 o3)
        | (go_at_call 74; (with_reducible refine (reg_calls c _ H3.out _).mono ?_); rintro e w' ⟨rfl, hb⟩; have HB2 := Aside0.mk (below_then HB.out HB.out.size hb); have y1 := pw_cell_below hb x1; have y2 := pw_cell_below hb x2; have y3 := pw_cell_below hb x3; have o0 := pw_cell_below hb p0; have o1 := pw_cell_below hb p1; have o2 := pw_cell_below hb p2; have o3 := pw_cell_below hb p3; clear HB x1 x2 x3 p0 p1 p2 p3 hb; have HB := HB2; have x1 := y1; have x2 := y2; have x3 := y3; have p0 := o0; have p1 := o1; have p2 := o2; have p3 := o3; clear HB2 y1 y2 y3 o0 o1 o2 o3))
      go_ret
      exact ⟨rfl, HB.out⟩
    | true =>
      cases b3 with
      | false =>
        go_wp2_with (first
        | (go_at_call 73; (with_reducible refine (in_calls a 0 (nf : Int) _ H1.out _).mono ?_); rintro e w' ⟨rfl, hb⟩; have HB2 := Aside0.mk (below_then HB.out HB.out.size hb); have y1 := pw_cell_below hb x1; have y2 := pw_cell_below hb x2; have y3 := pw_cell_below hb x3; have o0 := pw_cell_below hb p0; have o1 := pw_cell_below hb p1; have o2 := pw_cell_below hb p2; have o3 := pw_cell_below hb p3; clear HB x1 x2 x3 p0 p1 p2 p3 hb; have HB := HB2; have x1 := y1; have x2 := y2; have x3 := y3; have p0 := o0; have p1 := o1; have p2 := o2; have p3 := o3; clear HB2 y1 y2 y3 o0 o1 o2 o3)
        | (go_at_call 74; (with_reducible refine (reg_calls b _ H2.out _).mono ?_); rintro e w' ⟨rfl, hb⟩; have HB2 := Aside0.mk (below_then HB.out HB.out.size hb); have y1 := pw_cell_below hb x1; have y2 := pw_cell_below hb x2; have y3 := pw_cell_below hb x3; have o0 := pw_cell_below hb p0; have o1 := pw_cell_below hb p1; have o2 := pw_cell_below hb p2; have o3 := pw_cell_below hb p3; clear HB x1 x2 x3 p0 p1 p2 p3 hb; have HB := HB2; have x1 := y1; have x2 := y2; have x3 := y3; have p0 := o0; have p1 := o1; have p2 := o2; have p3 := o3; clear HB2 y1 y2 y3 o0 o1 o2 o3)
        | (go_at_call 74; (with_reducible refine (reg_calls c _ H3.out _).mono ?_); rintro e w' ⟨rfl, hb⟩; have HB2 := Aside0.mk (below_then HB.out HB.out.size hb); have y1 := pw_cell_below hb x1; have y2 := pw_cell_below hb x2; have y3 := pw_cell_below hb x3; have o0 := pw_cell_below hb p0; have o1 := pw_cell_below hb p1; have o2 := pw_cell_below hb p2; have o3 := pw_cell_below hb p3; clear HB x1 x2 x3 p0 p1 p2 p3 hb; have HB := HB2; have x1 := y1; have x2 := y2; have x3 := y3; have p0 := o0; have p1 := o1; have p2 := o2; have p3 := o3; clear HB2 y1 y2 y3 o0 o1 o2 o3))
        go_ret
        exact ⟨rfl, HB.out⟩
      | true =>
        go_wp2_with (first
        | (go_at_call 73; (with_reducible refine (in_calls a 0 (nf : Int) _ H1.out _).mono ?_); rintro e w' ⟨rfl, hb⟩; have HB2 := Aside0.mk (below_then HB.out HB.out.size hb); have y1 := pw_cell_below hb x1; have y2 := pw_cell_below hb x2; have y3 := pw_cell_below hb x3; have o0 := pw_cell_below hb p0; have o1 := pw_cell_below hb p1; have o2 := pw_cell_below hb p2; have o3 := pw_cell_below hb p3; clear HB x1 x2 x3 p0 p1 p2 p3 hb; have HB := HB2; have x1 := y1; have x2 := y2; have x3 := y3; have p0 := o0; have p1 := o1; have p2 := o2; have p3 := o3; clear HB2 y1 y2 y3 o0 o1 o2 o3)
        | (go_at_call 74; (with_reducible refine (reg_calls b _ H2.out _).mono ?_); rintro e w' ⟨rfl, hb⟩; have HB2 := Aside0.mk (below_then HB.out HB.out.size hb); have y1 := pw_cell_below hb x1; have y2 := pw_cell_below hb x2; have y3 := pw_cell_below hb x3; have o0 := pw_cell_below hb p0; have o1 := pw_cell_below hb p1; have o2 := pw_cell_below hb p2; have o3 := pw_cell_below hb p3; clear HB x1 x2 x3 p0 p1 p2 p3 hb; have HB := HB2; have x1 := y1; have x2 := y2; have x3 := y3; have p0 := o0; have p1 := o1; have p2 := o2; have p3 := o3; clear HB2 y1 y2 y3 o0 o1 o2 o3)
        | (go_at_call 74; (with_reducible refine (reg_calls c _ H3.out _).mono ?_); rintro e w' ⟨rfl, hb⟩; have HB2 := Aside0.mk (below_then HB.out HB.out.size hb); have y1 := pw_cell_below hb x1; have y2 := pw_cell_below hb x2; have y3 := pw_cell_below hb x3; have o0 := pw_cell_below hb p0; have o1 := pw_cell_below hb p1; have o2 := pw_cell_below hb p2; have o3 := pw_cell_below hb p3; clear HB x1 x2 x3 p0 p1 p2 p3 hb; have HB := HB2; have x1 := y1; have x2 := y2; have x3 := y3; have p0 := o0; have p1 := o1; have p2 := o2; have p3 := o3; clear HB2 y1 y2 y3 o0 o1 o2 o3))
        go_ret
        exact ⟨rfl, HB.out⟩
set_option maxHeartbeats 2000000 in
set_option maxRecDepth 100000 in
theorem good_10 (nf nc ncs nfl : Nat) (A0 A1 A2 A3 : Option Addr) (c0 c1 c2 c3 : Nat) (locks a b c : Int) (b1 b2 b3 : Bool) (h1 : inB a 0 8 = b1) (h2 : (b == 0) = b2) (h3 : (c == 0) = b3) (w : World) :
    Calls Try.prog 75 #[.agg #[.slice A0 nf c0, .slice A1 nc c1, .int .i64 locks, .slice A3 ncs c3], .slice A2 nfl c2, .agg #[.int .i64 10, .int .i64 a, .int .i64 b, .int .i64 c]] w fun e w' => e = .returned (.int .i64 (if b1 && b2 && b3 then 0 else 4)) ∧ Below w.heap.size w w' := by
  have H1 := Aside0.mk h1
  clear h1
  have HB := Aside0.mk (gW_below w nf nc ncs A0 A1 A3 c0 c1 c3 locks 10 a b c)
  have p0 : (gW w nf nc ncs A0 A1 A3 c0 c1 c3 locks 10 a b c).cell? ⟨w.heap.size, 0, none⟩ = some (.slice A0 nf c0) := (blk_cell (gW_p w nf nc ncs A0 A1 A3 c0 c1 c3 locks 10 a b c) 0).trans rfl
  have p1 : (gW w nf nc ncs A0 A1 A3 c0 c1 c3 locks 10 a b c).cell? ⟨w.heap.size, 1, none⟩ = some (.slice A1 nc c1) := (blk_cell (gW_p w nf nc ncs A0 A1 A3 c0 c1 c3 locks 10 a b c) 1).trans rfl
  have p2 : (gW w nf nc ncs A0 A1 A3 c0 c1 c3 locks 10 a b c).cell? ⟨w.heap.size, 2, none⟩ = some (.int .i64 locks) := (blk_cell (gW_p w nf nc ncs A0 A1 A3 c0 c1 c3 locks 10 a b c) 2).trans rfl
  have p3 : (gW w nf nc ncs A0 A1 A3 c0 c1 c3 locks 10 a b c).cell? ⟨w.heap.size, 3, none⟩ = some (.slice A3 ncs c3) := (blk_cell (gW_p w nf nc ncs A0 A1 A3 c0 c1 c3 locks 10 a b c) 3).trans rfl
  have x0 : (gW w nf nc ncs A0 A1 A3 c0 c1 c3 locks 10 a b c).cell? ⟨w.heap.size + 1, 0, none⟩ = some (.int .i64 10) := (blk_cell (gW_x w nf nc ncs A0 A1 A3 c0 c1 c3 locks 10 a b c) 0).trans rfl
  have x1 : (gW w nf nc ncs A0 A1 A3 c0 c1 c3 locks 10 a b c).cell? ⟨w.heap.size + 1, 1, none⟩ = some (.int .i64 a) := (blk_cell (gW_x w nf nc ncs A0 A1 A3 c0 c1 c3 locks 10 a b c) 1).trans rfl
  have x2 : (gW w nf nc ncs A0 A1 A3 c0 c1 c3 locks 10 a b c).cell? ⟨w.heap.size + 1, 2, none⟩ = some (.int .i64 b) := (blk_cell (gW_x w nf nc ncs A0 A1 A3 c0 c1 c3 locks 10 a b c) 2).trans rfl
  have x3 : (gW w nf nc ncs A0 A1 A3 c0 c1 c3 locks 10 a b c).cell? ⟨w.heap.size + 1, 3, none⟩ = some (.int .i64 c) := (blk_cell (gW_x w nf nc ncs A0 A1 A3 c0 c1 c3 locks 10 a b c) 3).trans rfl
  go_enter Try.func75, Try.ntmps75
  go_upto_region 2 with (fail)
  change Code.wp _ _ _ _ (gW w nf nc ncs A0 A1 A3 c0 c1 c3 locks 10 a b c)
  generalize gW w nf nc ncs A0 A1 A3 c0 c1 c3 locks 10 a b c = w2 at HB p0 p1 p2 p3 x0 x1 x2 x3 ⊢
  cases b1 with
  | false =>
    go_wp2_with (first
        | (go_at_call 74; (with_reducible refine (reg_calls a _ H1.out _).mono ?_); rintro e w' ⟨rfl, hb⟩; have HB2 := Aside0.mk (below_then HB.out HB.out.size hb); have y1 := pw_cell_below hb x1; have y2 := pw_cell_below hb x2; have y3 := pw_cell_below hb x3; have o0 := pw_cell_below hb p0; have o1 := pw_cell_below hb p1; have o2 := pw_cell_below hb p2; have o3 := pw_cell_below hb p3; clear HB x1 x2 x3 p0 p1 p2 p3 hb; have HB := HB2; have x1 := y1; have x2 := y2; have x3 := y3; have p0 := o0; have p1 := o1; have p2 := o2; have p3 := o3; clear HB2 y1 y2 y3 o0 o1 o2 o3))
    go_ret
    exact ⟨rfl, HB.out⟩
  | true =>
    cases b2 with
    | false =>
      go_wp2_with (first
        | (go_at_call 74; (with_reducible refine (reg_calls a _ H1.out _).mono ?_); rintro e w' ⟨rfl, hb⟩; have HB2 := Aside0.mk (below_then HB.out HB.out.size hb); have y1 := pw_cell_below hb x1; have y2 := pw_cell_below hb x2; have y3 := pw_cell_below hb x3; have o0 := pw_cell_below hb p0; have o1 := pw_cell_below hb p1; have o2 := pw_cell_below hb p2; have o3 := pw_cell_below hb p3; clear HB x1 x2 x3 p0 p1 p2 p3 hb; have HB := HB2; have x1 := y1; have x2 := y2; have x3 := y3; have p0 := o0; have p1 := o1; have p2 := o2; have p3 := o3; clear HB2 y1 y2 y3 o0 o1 o2 o3))
      go_ret
      exact ⟨rfl, HB.out⟩
    | true =>
      cases b3 with
      | false =>
        go_wp2_with (first
        | (go_at_call 74; (with_reducible refine (reg_calls a _ H1.out _).mono ?_); rintro e w' ⟨rfl, hb⟩; have HB2 := Aside0.mk (below_then HB.out HB.out.size hb); have y1 := pw_cell_below hb x1; have y2 := pw_cell_below hb x2; have y3 := pw_cell_below hb x3; have o0 := pw_cell_below hb p0; have o1 := pw_cell_below hb p1; have o2 := pw_cell_below hb p2; have o3 := pw_cell_below hb p3; clear HB x1 x2 x3 p0 p1 p2 p3 hb; have HB := HB2; have x1 := y1; have x2 := y2; have x3 := y3; have p0 := o0; have p1 := o1; have p2 := o2; have p3 := o3; clear HB2 y1 y2 y3 o0 o1 o2 o3))
        go_ret
        exact ⟨rfl, HB.out⟩
      | true =>
        go_wp2_with (first
        | (go_at_call 74; (with_reducible refine (reg_calls a _ H1.out _).mono ?_); rintro e w' ⟨rfl, hb⟩; have HB2 := Aside0.mk (below_then HB.out HB.out.size hb); have y1 := pw_cell_below hb x1; have y2 := pw_cell_below hb x2; have y3 := pw_cell_below hb x3; have o0 := pw_cell_below hb p0; have o1 := pw_cell_below hb p1; have o2 := pw_cell_below hb p2; have o3 := pw_cell_below hb p3; clear HB x1 x2 x3 p0 p1 p2 p3 hb; have HB := HB2; have x1 := y1; have x2 := y2; have x3 := y3; have p0 := o0; have p1 := o1; have p2 := o2; have p3 := o3; clear HB2 y1 y2 y3 o0 o1 o2 o3))
        go_ret
        exact ⟨rfl, HB.out⟩
set_option maxHeartbeats 2000000 in
set_option maxRecDepth 100000 in
theorem good_11 (nf nc ncs nfl : Nat) (A0 A1 A2 A3 : Option Addr) (c0 c1 c2 c3 : Nat) (locks a b c : Int) (b1 b2 b3 : Bool) (h1 : inB a 0 (nf : Int) = b1) (h2 : inB b 0 8 = b2) (h3 : inB c 0 8 = b3) (w : World) :
    Calls Try.prog 75 #[.agg #[.slice A0 nf c0, .slice A1 nc c1, .int .i64 locks, .slice A3 ncs c3], .slice A2 nfl c2, .agg #[.int .i64 11, .int .i64 a, .int .i64 b, .int .i64 c]] w fun e w' => e = .returned (.int .i64 (if b1 && b2 && b3 then 0 else 4)) ∧ Below w.heap.size w w' := by
  have H1 := Aside0.mk h1
  have H2 := Aside0.mk h2
  have H3 := Aside0.mk h3
  clear h1 h2 h3
  have HB := Aside0.mk (gW_below w nf nc ncs A0 A1 A3 c0 c1 c3 locks 11 a b c)
  have p0 : (gW w nf nc ncs A0 A1 A3 c0 c1 c3 locks 11 a b c).cell? ⟨w.heap.size, 0, none⟩ = some (.slice A0 nf c0) := (blk_cell (gW_p w nf nc ncs A0 A1 A3 c0 c1 c3 locks 11 a b c) 0).trans rfl
  have p1 : (gW w nf nc ncs A0 A1 A3 c0 c1 c3 locks 11 a b c).cell? ⟨w.heap.size, 1, none⟩ = some (.slice A1 nc c1) := (blk_cell (gW_p w nf nc ncs A0 A1 A3 c0 c1 c3 locks 11 a b c) 1).trans rfl
  have p2 : (gW w nf nc ncs A0 A1 A3 c0 c1 c3 locks 11 a b c).cell? ⟨w.heap.size, 2, none⟩ = some (.int .i64 locks) := (blk_cell (gW_p w nf nc ncs A0 A1 A3 c0 c1 c3 locks 11 a b c) 2).trans rfl
  have p3 : (gW w nf nc ncs A0 A1 A3 c0 c1 c3 locks 11 a b c).cell? ⟨w.heap.size, 3, none⟩ = some (.slice A3 ncs c3) := (blk_cell (gW_p w nf nc ncs A0 A1 A3 c0 c1 c3 locks 11 a b c) 3).trans rfl
  have x0 : (gW w nf nc ncs A0 A1 A3 c0 c1 c3 locks 11 a b c).cell? ⟨w.heap.size + 1, 0, none⟩ = some (.int .i64 11) := (blk_cell (gW_x w nf nc ncs A0 A1 A3 c0 c1 c3 locks 11 a b c) 0).trans rfl
  have x1 : (gW w nf nc ncs A0 A1 A3 c0 c1 c3 locks 11 a b c).cell? ⟨w.heap.size + 1, 1, none⟩ = some (.int .i64 a) := (blk_cell (gW_x w nf nc ncs A0 A1 A3 c0 c1 c3 locks 11 a b c) 1).trans rfl
  have x2 : (gW w nf nc ncs A0 A1 A3 c0 c1 c3 locks 11 a b c).cell? ⟨w.heap.size + 1, 2, none⟩ = some (.int .i64 b) := (blk_cell (gW_x w nf nc ncs A0 A1 A3 c0 c1 c3 locks 11 a b c) 2).trans rfl
  have x3 : (gW w nf nc ncs A0 A1 A3 c0 c1 c3 locks 11 a b c).cell? ⟨w.heap.size + 1, 3, none⟩ = some (.int .i64 c) := (blk_cell (gW_x w nf nc ncs A0 A1 A3 c0 c1 c3 locks 11 a b c) 3).trans rfl
  go_enter Try.func75, Try.ntmps75
  go_upto_region 2 with (fail)
  change Code.wp _ _ _ _ (gW w nf nc ncs A0 A1 A3 c0 c1 c3 locks 11 a b c)
  generalize gW w nf nc ncs A0 A1 A3 c0 c1 c3 locks 11 a b c = w2 at HB p0 p1 p2 p3 x0 x1 x2 x3 ⊢
  cases b1 with
  | false =>
    go_wp2_with (first
        | (go_at_call 73; (with_reducible refine (in_calls a 0 (nf : Int) _ H1.out _).mono ?_); rintro e w' ⟨rfl, hb⟩; have HB2 := Aside0.mk (below_then HB.out HB.out.size hb); have y1 := pw_cell_below hb x1; have y2 := pw_cell_below hb x2; have y3 := pw_cell_below hb x3; have o0 := pw_cell_below hb p0; have o1 := pw_cell_below hb p1; have o2 := pw_cell_below hb p2; have o3 := pw_cell_below hb p3; clear HB x1 x2 x3 p0 p1 p2 p3 hb; have HB := HB2; have x1 := y1; have x2 := y2; have x3 := y3; have p0 := o0; have p1 := o1; have p2 := o2; have p3 := o3; clear HB2 y1 y2 y3 o0 o1 o2 o3)
        | (go_at_call 74; (with_reducible refine (reg_calls b _ H2.out _).mono ?_); rintro e w' ⟨rfl, hb⟩; have HB2 := Aside0.mk (below_then HB.out HB.out.size hb); have y1 := pw_cell_below hb x1; have y2 := pw_cell_below hb x2; have y3 := pw_cell_below hb x3; have o0 := pw_cell_below hb p0; have o1 := pw_cell_below hb p1; have o2 := pw_cell_below hb p2; have o3 := pw_cell_below hb p3; clear HB x1 x2 x3 p0 p1 p2 p3 hb; have HB := HB2; have x1 := y1; have x2 := y2; have x3 := y3; have p0 := o0; have p1 := o1; have p2 := o2; have p3 := o3; clear HB2 y1 y2 y3 o0 o1 o2 o3)
        | (go_at_call 74; (with_reducible refine (reg_calls c _ H3.out _).mono ?_); rintro e w' ⟨rfl, hb⟩; have HB2 := Aside0.mk (below_then HB.out HB.out.size hb); have y1 := pw_cell_below hb x1; have y2 := pw_cell_below hb x2; have y3 := pw_cell_below hb x3; have o0 := pw_cell_below hb p0; have o1 := pw_cell_below hb p1; have o2 := pw_cell_below hb p2; have o3 := pw_cell_below hb p3; clear HB x1 x2 x3 p0 p1 p2 p3 hb; have HB := HB2; have x1 := y1; have x2 := y2; have x3 := y3; have p0 := o0; have p1 := o1; have p2 := o2; have p3 := o3; clear HB2 y1 y2 y3 o0 o1 o2 o3))
    go_ret
    exact ⟨rfl, HB.out⟩
  | true =>
    cases b2 with
    | false =>
      go_wp2_with (first
        | (go_at_call 73; (with_reducible refine (in_calls a 0 (nf : Int) _ H1.out _).mono ?_); rintro e w' ⟨rfl, hb⟩; have HB2 := Aside0.mk (below_then HB.out HB.out.size hb); have y1 := pw_cell_below hb x1; have y2 := pw_cell_below hb x2; have y3 := pw_cell_below hb x3; have o0 := pw_cell_below hb p0; have o1 := pw_cell_below hb p1; have o2 := pw_cell_below hb p2; have o3 := pw_cell_below hb p3; clear HB x1 x2 x3 p0 p1 p2 p3 hb; have HB := HB2; have x1 := y1; have x2 := y2; have x3 := y3; have p0 := o0; have p1 := o1; have p2 := o2; have p3 := o3; clear HB2 y1 y2 y3 o0 o1 o2 o3)
        | (go_at_call 74; (with_reducible refine (reg_calls b _ H2.out _).mono ?_); rintro e w' ⟨rfl, hb⟩; have HB2 := Aside0.mk (below_then HB.out HB.out.size hb); have y1 := pw_cell_below hb x1; have y2 := pw_cell_below hb x2; have y3 := pw_cell_below hb x3; have o0 := pw_cell_below hb p0; have o1 := pw_cell_below hb p1; have o2 := pw_cell_below hb p2; have o3 := pw_cell_below hb p3; clear HB x1 x2 x3 p0 p1 p2 p3 hb; have HB := HB2; have x1 := y1; have x2 := y2; have x3 := y3; have p0 := o0; have p1 := o1; have p2 := o2; have p3 := o3; clear HB2 y1 y2 y3 o0 o1 o2 o3)
        | (go_at_call 74; (with_reducible refine (reg_calls c _ H3.out _).mono ?_); rintro e w' ⟨rfl, hb⟩; have HB2 := Aside0.mk (below_then HB.out HB.out.size hb); have y1 := pw_cell_below hb x1; have y2 := pw_cell_below hb x2; have y3 := pw_cell_below hb x3; have o0 := pw_cell_below hb p0; have o1 := pw_cell_below hb p1; have o2 := pw_cell_below hb p2; have o3 := pw_cell_below hb p3; clear HB x1 x2 x3 p0 p1 p2 p3 hb; have HB := HB2; have x1 := y1; have x2 := y2; have x3 := y3; have p0 := o0; have p1 := o1; have p2 := o2; have p3 := o3; clear HB2 y1 y2 y3 o0 o1 o2 o3))
      go_ret
      exact ⟨rfl, HB.out⟩
    | true =>
      cases b3 with
      | false =>
        go_wp2_with (first
        | (go_at_call 73; (with_reducible refine (in_calls a 0 (nf : Int) _ H1.out _).mono ?_); rintro e w' ⟨rfl, hb⟩; have HB2 := Aside0.mk (below_then HB.out HB.out.size hb); have y1 := pw_cell_below hb x1; have y2 := pw_cell_below hb x2; have y3 := pw_cell_below hb x3; have o0 := pw_cell_below hb p0; have o1 := pw_cell_below hb p1; have o2 := pw_cell_below hb p2; have o3 := pw_cell_below hb p3; clear HB x1 x2 x3 p0 p1 p2 p3 hb; have HB := HB2; have x1 := y1; have x2 := y2; have x3 := y3; have p0 := o0; have p1 := o1; have p2 := o2; have p3 := o3; clear HB2 y1 y2 y3 o0 o1 o2 o3)
        | (go_at_call 74; (with_reducible refine (reg_calls b _ H2.out _).mono ?_); rintro e w' ⟨rfl, hb⟩; have HB2 := Aside0.mk (below_then HB.out HB.out.size hb); have y1 := pw_cell_below hb x1; have y2 := pw_cell_below hb x2; have y3 := pw_cell_below hb x3; have o0 := pw_cell_below hb p0; have o1 := pw_cell_below hb p1; have o2 := pw_cell_below hb p2; have o3 := pw_cell_below hb p3; clear HB x1 x2 x3 p0 p1 p2 p3 hb; have HB := HB2; have x1 := y1; have x2 := y2; have x3 := y3; have p0 := o0; have p1 := o1; have p2 := o2; have p3 := o3; clear HB2 y1 y2 y3 o0 o1 o2 o3)
        | (go_at_call 74; (with_reducible refine (reg_calls c _ H3.out _).mono ?_); rintro e w' ⟨rfl, hb⟩; have HB2 := Aside0.mk (below_then HB.out HB.out.size hb); have y1 := pw_cell_below hb x1; have y2 := pw_cell_below hb x2; have y3 := pw_cell_below hb x3; have o0 := pw_cell_below hb p0; have o1 := pw_cell_below hb p1; have o2 := pw_cell_below hb p2; have o3 := pw_cell_below hb p3; clear HB x1 x2 x3 p0 p1 p2 p3 hb; have HB := HB2; have x1 := y1; have x2 := y2; have x3 := y3; have p0 := o0; have p1 := o1; have p2 := o2; have p3 := o3; clear HB2 y1 y2 y3 o0 o1 o2 o3))
        go_ret
        exact ⟨rfl, HB.out⟩
      | true =>
        go_wp2_with (first
        | (go_at_call 73; (with_reducible refine (in_calls a 0 (nf : Int) _ H1.out _).mono ?_); rintro e w' ⟨rfl, hb⟩; have HB2 := Aside0.mk (below_then HB.out HB.out.size hb); have y1 := pw_cell_below hb x1; have y2 := pw_cell_below hb x2; have y3 := pw_cell_below hb x3; have o0 := pw_cell_below hb p0; have o1 := pw_cell_below hb p1; have o2 := pw_cell_below hb p2; have o3 := pw_cell_below hb p3; clear HB x1 x2 x3 p0 p1 p2 p3 hb; have HB := HB2; have x1 := y1; have x2 := y2; have x3 := y3; have p0 := o0; have p1 := o1; have p2 := o2; have p3 := o3; clear HB2 y1 y2 y3 o0 o1 o2 o3)
        | (go_at_call 74; (with_reducible refine (reg_calls b _ H2.out _).mono ?_); rintro e w' ⟨rfl, hb⟩; have HB2 := Aside0.mk (below_then HB.out HB.out.size hb); have y1 := pw_cell_below hb x1; have y2 := pw_cell_below hb x2; have y3 := pw_cell_below hb x3; have o0 := pw_cell_below hb p0; have o1 := pw_cell_below hb p1; have o2 := pw_cell_below hb p2; have o3 := pw_cell_below hb p3; clear HB x1 x2 x3 p0 p1 p2 p3 hb; have HB := HB2; have x1 := y1; have x2 := y2; have x3 := y3; have p0 := o0; have p1 := o1; have p2 := o2; have p3 := o3; clear HB2 y1 y2 y3 o0 o1 o2 o3)
        | (go_at_call 74; (with_reducible refine (reg_calls c _ H3.out _).mono ?_); rintro e w' ⟨rfl, hb⟩; have HB2 := Aside0.mk (below_then HB.out HB.out.size hb); have y1 := pw_cell_below hb x1; have y2 := pw_cell_below hb x2; have y3 := pw_cell_below hb x3; have o0 := pw_cell_below hb p0; have o1 := pw_cell_below hb p1; have o2 := pw_cell_below hb p2; have o3 := pw_cell_below hb p3; clear HB x1 x2 x3 p0 p1 p2 p3 hb; have HB := HB2; have x1 := y1; have x2 := y2; have x3 := y3; have p0 := o0; have p1 := o1; have p2 := o2; have p3 := o3; clear HB2 y1 y2 y3 o0 o1 o2 o3))
        go_ret
        exact ⟨rfl, HB.out⟩
end Go.Proofs.Ythlllcmffgdcmab.Code
end

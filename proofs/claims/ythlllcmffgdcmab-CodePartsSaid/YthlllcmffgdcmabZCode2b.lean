/- May an instruction be? The document's answer, op by op. -/
import Derived.Test.YthlllcmffgdcmabZCode2
import Derived.Test.YthlllcmffgdcmabZPCodeChecksx4
section
namespace Go.Proofs.Ythlllcmffgdcmab.Code
open Go.RowKit Go.Proofs.YthlllcmffgdcmabW.PrintWords Go.Proofs.YthlllcmffgdcmabW.PrintLast Go.Proofs.YthlllcmffgdcmabW.PrintMore
set_option linter.unusedVariables false
set_option linter.unusedSimpArgs false
set_option maxHeartbeats 2000000 in
set_option maxRecDepth 100000 in
theorem good_12 (nf nc ncs nfl : Nat) (A0 A1 A2 A3 : Option Addr) (c0 c1 c2 c3 : Nat) (locks a b c : Int) (b1 b2 b3 : Bool) (h1 : (a == 0) = b1) (h2 : (b == 0) = b2) (h3 : (c == 0) = b3) (w : World) :
    Calls Try.prog 75 #[.agg #[.slice A0 nf c0, .slice A1 nc c1, .int .i64 locks, .slice A3 ncs c3], .slice A2 nfl c2, .agg #[.int .i64 12, .int .i64 a, .int .i64 b, .int .i64 c]] w fun e w' => e = .returned (.int .i64 (if b1 && b2 && b3 then 0 else 4)) ∧ Below w.heap.size w w' := by
  have HB := Aside0.mk (gW_below w nf nc ncs A0 A1 A3 c0 c1 c3 locks 12 a b c)
  have p0 : (gW w nf nc ncs A0 A1 A3 c0 c1 c3 locks 12 a b c).cell? ⟨w.heap.size, 0, none⟩ = some (.slice A0 nf c0) := (blk_cell (gW_p w nf nc ncs A0 A1 A3 c0 c1 c3 locks 12 a b c) 0).trans rfl
  have p1 : (gW w nf nc ncs A0 A1 A3 c0 c1 c3 locks 12 a b c).cell? ⟨w.heap.size, 1, none⟩ = some (.slice A1 nc c1) := (blk_cell (gW_p w nf nc ncs A0 A1 A3 c0 c1 c3 locks 12 a b c) 1).trans rfl
  have p2 : (gW w nf nc ncs A0 A1 A3 c0 c1 c3 locks 12 a b c).cell? ⟨w.heap.size, 2, none⟩ = some (.int .i64 locks) := (blk_cell (gW_p w nf nc ncs A0 A1 A3 c0 c1 c3 locks 12 a b c) 2).trans rfl
  have p3 : (gW w nf nc ncs A0 A1 A3 c0 c1 c3 locks 12 a b c).cell? ⟨w.heap.size, 3, none⟩ = some (.slice A3 ncs c3) := (blk_cell (gW_p w nf nc ncs A0 A1 A3 c0 c1 c3 locks 12 a b c) 3).trans rfl
  have x0 : (gW w nf nc ncs A0 A1 A3 c0 c1 c3 locks 12 a b c).cell? ⟨w.heap.size + 1, 0, none⟩ = some (.int .i64 12) := (blk_cell (gW_x w nf nc ncs A0 A1 A3 c0 c1 c3 locks 12 a b c) 0).trans rfl
  have x1 : (gW w nf nc ncs A0 A1 A3 c0 c1 c3 locks 12 a b c).cell? ⟨w.heap.size + 1, 1, none⟩ = some (.int .i64 a) := (blk_cell (gW_x w nf nc ncs A0 A1 A3 c0 c1 c3 locks 12 a b c) 1).trans rfl
  have x2 : (gW w nf nc ncs A0 A1 A3 c0 c1 c3 locks 12 a b c).cell? ⟨w.heap.size + 1, 2, none⟩ = some (.int .i64 b) := (blk_cell (gW_x w nf nc ncs A0 A1 A3 c0 c1 c3 locks 12 a b c) 2).trans rfl
  have x3 : (gW w nf nc ncs A0 A1 A3 c0 c1 c3 locks 12 a b c).cell? ⟨w.heap.size + 1, 3, none⟩ = some (.int .i64 c) := (blk_cell (gW_x w nf nc ncs A0 A1 A3 c0 c1 c3 locks 12 a b c) 3).trans rfl
  go_enter Try.func75, Try.ntmps75
  go_upto_region 2 with (fail)
  change Code.wp _ _ _ _ (gW w nf nc ncs A0 A1 A3 c0 c1 c3 locks 12 a b c)
  generalize gW w nf nc ncs A0 A1 A3 c0 c1 c3 locks 12 a b c = w2 at HB p0 p1 p2 p3 x0 x1 x2 x3 ⊢
  cases b1 with
  | false =>
    go_wp2
    go_ret
    exact ⟨rfl, HB.out⟩
  | true =>
    cases b2 with
    | false =>
      go_wp2
      go_ret
      exact ⟨rfl, HB.out⟩
    | true =>
      cases b3 with
      | false =>
        go_wp2
        go_ret
        exact ⟨rfl, HB.out⟩
      | true =>
        go_wp2
        go_ret
        exact ⟨rfl, HB.out⟩
set_option maxHeartbeats 2000000 in
set_option maxRecDepth 100000 in
theorem good_13 (nf nc ncs nfl : Nat) (A0 A1 A2 A3 : Option Addr) (c0 c1 c2 c3 : Nat) (locks a b c : Int) (b1 b2 b3 : Bool) (h1 : inB a 0 (nc : Int) = b1) (h2 : inB b 0 8 = b2) (h3 : (c == 0) = b3) (w : World) :
    Calls Try.prog 75 #[.agg #[.slice A0 nf c0, .slice A1 nc c1, .int .i64 locks, .slice A3 ncs c3], .slice A2 nfl c2, .agg #[.int .i64 13, .int .i64 a, .int .i64 b, .int .i64 c]] w fun e w' => e = .returned (.int .i64 (if b1 && b2 && b3 then 0 else 4)) ∧ Below w.heap.size w w' := by
  have H1 := Aside0.mk h1
  have H2 := Aside0.mk h2
  clear h1 h2
  have HB := Aside0.mk (gW_below w nf nc ncs A0 A1 A3 c0 c1 c3 locks 13 a b c)
  have p0 : (gW w nf nc ncs A0 A1 A3 c0 c1 c3 locks 13 a b c).cell? ⟨w.heap.size, 0, none⟩ = some (.slice A0 nf c0) := (blk_cell (gW_p w nf nc ncs A0 A1 A3 c0 c1 c3 locks 13 a b c) 0).trans rfl
  have p1 : (gW w nf nc ncs A0 A1 A3 c0 c1 c3 locks 13 a b c).cell? ⟨w.heap.size, 1, none⟩ = some (.slice A1 nc c1) := (blk_cell (gW_p w nf nc ncs A0 A1 A3 c0 c1 c3 locks 13 a b c) 1).trans rfl
  have p2 : (gW w nf nc ncs A0 A1 A3 c0 c1 c3 locks 13 a b c).cell? ⟨w.heap.size, 2, none⟩ = some (.int .i64 locks) := (blk_cell (gW_p w nf nc ncs A0 A1 A3 c0 c1 c3 locks 13 a b c) 2).trans rfl
  have p3 : (gW w nf nc ncs A0 A1 A3 c0 c1 c3 locks 13 a b c).cell? ⟨w.heap.size, 3, none⟩ = some (.slice A3 ncs c3) := (blk_cell (gW_p w nf nc ncs A0 A1 A3 c0 c1 c3 locks 13 a b c) 3).trans rfl
  have x0 : (gW w nf nc ncs A0 A1 A3 c0 c1 c3 locks 13 a b c).cell? ⟨w.heap.size + 1, 0, none⟩ = some (.int .i64 13) := (blk_cell (gW_x w nf nc ncs A0 A1 A3 c0 c1 c3 locks 13 a b c) 0).trans rfl
  have x1 : (gW w nf nc ncs A0 A1 A3 c0 c1 c3 locks 13 a b c).cell? ⟨w.heap.size + 1, 1, none⟩ = some (.int .i64 a) := (blk_cell (gW_x w nf nc ncs A0 A1 A3 c0 c1 c3 locks 13 a b c) 1).trans rfl
  have x2 : (gW w nf nc ncs A0 A1 A3 c0 c1 c3 locks 13 a b c).cell? ⟨w.heap.size + 1, 2, none⟩ = some (.int .i64 b) := (blk_cell (gW_x w nf nc ncs A0 A1 A3 c0 c1 c3 locks 13 a b c) 2).trans rfl
  have x3 : (gW w nf nc ncs A0 A1 A3 c0 c1 c3 locks 13 a b c).cell? ⟨w.heap.size + 1, 3, none⟩ = some (.int .i64 c) := (blk_cell (gW_x w nf nc ncs A0 A1 A3 c0 c1 c3 locks 13 a b c) 3).trans rfl
  go_enter Try.func75, Try.ntmps75
  go_upto_region 2 with (fail)
  change Code.wp _ _ _ _ (gW w nf nc ncs A0 A1 A3 c0 c1 c3 locks 13 a b c)
  generalize gW w nf nc ncs A0 A1 A3 c0 c1 c3 locks 13 a b c = w2 at HB p0 p1 p2 p3 x0 x1 x2 x3 ⊢
  cases b1 with
  | false =>
    go_wp2_with (first
        | (go_at_call 73; (with_reducible refine (in_calls a 0 (nc : Int) _ H1.out _).mono ?_); rintro e w' ⟨rfl, hb⟩; have HB2 := Aside0.mk (below_then HB.out HB.out.size hb); have y1 := pw_cell_below hb x1; have y2 := pw_cell_below hb x2; have y3 := pw_cell_below hb x3; have o0 := pw_cell_below hb p0; have o1 := pw_cell_below hb p1; have o2 := pw_cell_below hb p2; have o3 := pw_cell_below hb p3; clear HB x1 x2 x3 p0 p1 p2 p3 hb; have HB := HB2; have x1 := y1; have x2 := y2; have x3 := y3; have p0 := o0; have p1 := o1; have p2 := o2; have p3 := o3; clear HB2 y1 y2 y3 o0 o1 o2 o3)
        | (go_at_call 74; (with_reducible refine (reg_calls b _ H2.out _).mono ?_); rintro e w' ⟨rfl, hb⟩; have HB2 := Aside0.mk (below_then HB.out HB.out.size hb); have y1 := pw_cell_below hb x1; have y2 := pw_cell_below hb x2; have y3 := pw_cell_below hb x3; have o0 := pw_cell_below hb p0; have o1 := pw_cell_below hb p1; have o2 := pw_cell_below hb p2; have o3 := pw_cell_below hb p3; clear HB x1 x2 x3 p0 p1 p2 p3 hb; have HB := HB2; have x1 := y1; have x2 := y2; have x3 := y3; have p0 := o0; have p1 := o1; have p2 := o2; have p3 := o3; clear HB2 y1 y2 y3 o0 o1 o2 o3))
    go_ret
    exact ⟨rfl, HB.out⟩
  | true =>
    cases b2 with
    | false =>
      go_wp2_with (first
        | (go_at_call 73; (with_reducible refine (in_calls a 0 (nc : Int) _ H1.out _).mono ?_); rintro e w' ⟨rfl, hb⟩; have HB2 := Aside0.mk (below_then HB.out HB.out.size hb); have y1 := pw_cell_below hb x1; have y2 := pw_cell_below hb x2; have y3 := pw_cell_below hb x3; have o0 := pw_cell_below hb p0; have o1 := pw_cell_below hb p1; have o2 := pw_cell_below hb p2; have o3 := pw_cell_below hb p3; clear HB x1 x2 x3 p0 p1 p2 p3 hb; have HB := HB2; have x1 := y1; have x2 := y2; have x3 := y3; have p0 := o0; have p1 := o1; have p2 := o2; have p3 := o3; clear HB2 y1 y2 y3 o0 o1 o2 o3)
        | (go_at_call 74; (with_reducible refine (reg_calls b _ H2.out _).mono ?_); rintro e w' ⟨rfl, hb⟩; have HB2 := Aside0.mk (below_then HB.out HB.out.size hb); have y1 := pw_cell_below hb x1; have y2 := pw_cell_below hb x2; have y3 := pw_cell_below hb x3; have o0 := pw_cell_below hb p0; have o1 := pw_cell_below hb p1; have o2 := pw_cell_below hb p2; have o3 := pw_cell_below hb p3; clear HB x1 x2 x3 p0 p1 p2 p3 hb; have HB := HB2; have x1 := y1; have x2 := y2; have x3 := y3; have p0 := o0; have p1 := o1; have p2 := o2; have p3 := o3; clear HB2 y1 y2 y3 o0 o1 o2 o3))
      go_ret
      exact ⟨rfl, HB.out⟩
    | true =>
      cases b3 with
      | false =>
        go_wp2_with (first
        | (go_at_call 73; (with_reducible refine (in_calls a 0 (nc : Int) _ H1.out _).mono ?_); rintro e w' ⟨rfl, hb⟩; have HB2 := Aside0.mk (below_then HB.out HB.out.size hb); have y1 := pw_cell_below hb x1; have y2 := pw_cell_below hb x2; have y3 := pw_cell_below hb x3; have o0 := pw_cell_below hb p0; have o1 := pw_cell_below hb p1; have o2 := pw_cell_below hb p2; have o3 := pw_cell_below hb p3; clear HB x1 x2 x3 p0 p1 p2 p3 hb; have HB := HB2; have x1 := y1; have x2 := y2; have x3 := y3; have p0 := o0; have p1 := o1; have p2 := o2; have p3 := o3; clear HB2 y1 y2 y3 o0 o1 o2 o3)
        | (go_at_call 74; (with_reducible refine (reg_calls b _ H2.out _).mono ?_); rintro e w' ⟨rfl, hb⟩; have HB2 := Aside0.mk (below_then HB.out HB.out.size hb); have y1 := pw_cell_below hb x1; have y2 := pw_cell_below hb x2; have y3 := pw_cell_below hb x3; have o0 := pw_cell_below hb p0; have o1 := pw_cell_below hb p1; have o2 := pw_cell_below hb p2; have o3 := pw_cell_below hb p3; clear HB x1 x2 x3 p0 p1 p2 p3 hb; have HB := HB2; have x1 := y1; have x2 := y2; have x3 := y3; have p0 := o0; have p1 := o1; have p2 := o2; have p3 := o3; clear HB2 y1 y2 y3 o0 o1 o2 o3))
        go_ret
        exact ⟨rfl, HB.out⟩
      | true =>
        go_wp2_with (first
        | (go_at_call 73; (with_reducible refine (in_calls a 0 (nc : Int) _ H1.out _).mono ?_); rintro e w' ⟨rfl, hb⟩; have HB2 := Aside0.mk (below_then HB.out HB.out.size hb); have y1 := pw_cell_below hb x1; have y2 := pw_cell_below hb x2; have y3 := pw_cell_below hb x3; have o0 := pw_cell_below hb p0; have o1 := pw_cell_below hb p1; have o2 := pw_cell_below hb p2; have o3 := pw_cell_below hb p3; clear HB x1 x2 x3 p0 p1 p2 p3 hb; have HB := HB2; have x1 := y1; have x2 := y2; have x3 := y3; have p0 := o0; have p1 := o1; have p2 := o2; have p3 := o3; clear HB2 y1 y2 y3 o0 o1 o2 o3)
        | (go_at_call 74; (with_reducible refine (reg_calls b _ H2.out _).mono ?_); rintro e w' ⟨rfl, hb⟩; have HB2 := Aside0.mk (below_then HB.out HB.out.size hb); have y1 := pw_cell_below hb x1; have y2 := pw_cell_below hb x2; have y3 := pw_cell_below hb x3; have o0 := pw_cell_below hb p0; have o1 := pw_cell_below hb p1; have o2 := pw_cell_below hb p2; have o3 := pw_cell_below hb p3; clear HB x1 x2 x3 p0 p1 p2 p3 hb; have HB := HB2; have x1 := y1; have x2 := y2; have x3 := y3; have p0 := o0; have p1 := o1; have p2 := o2; have p3 := o3; clear HB2 y1 y2 y3 o0 o1 o2 o3))
        go_ret
        exact ⟨rfl, HB.out⟩
set_option maxHeartbeats 2000000 in
set_option maxRecDepth 100000 in
theorem good_14 (nf nc ncs nfl : Nat) (A0 A1 A2 A3 : Option Addr) (c0 c1 c2 c3 : Nat) (locks a b c : Int) (b1 b2 b3 : Bool) (h1 : inB a 0 (nc : Int) = b1) (h2 : inB b 0 8 = b2) (h3 : inB c 0 8 = b3) (w : World) :
    Calls Try.prog 75 #[.agg #[.slice A0 nf c0, .slice A1 nc c1, .int .i64 locks, .slice A3 ncs c3], .slice A2 nfl c2, .agg #[.int .i64 14, .int .i64 a, .int .i64 b, .int .i64 c]] w fun e w' => e = .returned (.int .i64 (if b1 && b2 && b3 then 0 else 4)) ∧ Below w.heap.size w w' := by
  have H1 := Aside0.mk h1
  have H2 := Aside0.mk h2
  have H3 := Aside0.mk h3
  clear h1 h2 h3
  have HB := Aside0.mk (gW_below w nf nc ncs A0 A1 A3 c0 c1 c3 locks 14 a b c)
  have p0 : (gW w nf nc ncs A0 A1 A3 c0 c1 c3 locks 14 a b c).cell? ⟨w.heap.size, 0, none⟩ = some (.slice A0 nf c0) := (blk_cell (gW_p w nf nc ncs A0 A1 A3 c0 c1 c3 locks 14 a b c) 0).trans rfl
  have p1 : (gW w nf nc ncs A0 A1 A3 c0 c1 c3 locks 14 a b c).cell? ⟨w.heap.size, 1, none⟩ = some (.slice A1 nc c1) := (blk_cell (gW_p w nf nc ncs A0 A1 A3 c0 c1 c3 locks 14 a b c) 1).trans rfl
  have p2 : (gW w nf nc ncs A0 A1 A3 c0 c1 c3 locks 14 a b c).cell? ⟨w.heap.size, 2, none⟩ = some (.int .i64 locks) := (blk_cell (gW_p w nf nc ncs A0 A1 A3 c0 c1 c3 locks 14 a b c) 2).trans rfl
  have p3 : (gW w nf nc ncs A0 A1 A3 c0 c1 c3 locks 14 a b c).cell? ⟨w.heap.size, 3, none⟩ = some (.slice A3 ncs c3) := (blk_cell (gW_p w nf nc ncs A0 A1 A3 c0 c1 c3 locks 14 a b c) 3).trans rfl
  have x0 : (gW w nf nc ncs A0 A1 A3 c0 c1 c3 locks 14 a b c).cell? ⟨w.heap.size + 1, 0, none⟩ = some (.int .i64 14) := (blk_cell (gW_x w nf nc ncs A0 A1 A3 c0 c1 c3 locks 14 a b c) 0).trans rfl
  have x1 : (gW w nf nc ncs A0 A1 A3 c0 c1 c3 locks 14 a b c).cell? ⟨w.heap.size + 1, 1, none⟩ = some (.int .i64 a) := (blk_cell (gW_x w nf nc ncs A0 A1 A3 c0 c1 c3 locks 14 a b c) 1).trans rfl
  have x2 : (gW w nf nc ncs A0 A1 A3 c0 c1 c3 locks 14 a b c).cell? ⟨w.heap.size + 1, 2, none⟩ = some (.int .i64 b) := (blk_cell (gW_x w nf nc ncs A0 A1 A3 c0 c1 c3 locks 14 a b c) 2).trans rfl
  have x3 : (gW w nf nc ncs A0 A1 A3 c0 c1 c3 locks 14 a b c).cell? ⟨w.heap.size + 1, 3, none⟩ = some (.int .i64 c) := (blk_cell (gW_x w nf nc ncs A0 A1 A3 c0 c1 c3 locks 14 a b c) 3).trans rfl
  go_enter Try.func75, Try.ntmps75
  go_upto_region 2 with (fail)
  change Code.wp _ _ _ _ (gW w nf nc ncs A0 A1 A3 c0 c1 c3 locks 14 a b c)
  generalize gW w nf nc ncs A0 A1 A3 c0 c1 c3 locks 14 a b c = w2 at HB p0 p1 p2 p3 x0 x1 x2 x3 ⊢
  cases b1 with
  | false =>
    go_wp2_with (first
        | (go_at_call 73; (with_reducible refine (in_calls a 0 (nc : Int) _ H1.out _).mono ?_); rintro e w' ⟨rfl, hb⟩; have HB2 := Aside0.mk (below_then HB.out HB.out.size hb); have y1 := pw_cell_below hb x1; have y2 := pw_cell_below hb x2; have y3 := pw_cell_below hb x3; have o0 := pw_cell_below hb p0; have o1 := pw_cell_below hb p1; have o2 := pw_cell_below hb p2; have o3 := pw_cell_below hb p3; clear HB x1 x2 x3 p0 p1 p2 p3 hb; have HB := HB2; have x1 := y1; have x2 := y2; have x3 := y3; have p0 := o0; have p1 := o1; have p2 := o2; have p3 := o3; clear HB2 y1 y2 y3 o0 o1 o2 o3)
        | (go_at_call 74; (with_reducible refine (reg_calls b _ H2.out _).mono ?_); rintro e w' ⟨rfl, hb⟩; have HB2 := Aside0.mk (below_then HB.out HB.out.size hb); have y1 := pw_cell_below hb x1; have y2 := pw_cell_below hb x2; have y3 := pw_cell_below hb x3; have o0 := pw_cell_below hb p0; have o1 := pw_cell_below hb p1; have o2 := pw_cell_below hb p2; have o3 := pw_cell_below hb p3; clear HB x1 x2 x3 p0 p1 p2 p3 hb; have HB := HB2; have x1 := y1; have x2 := y2; have x3 := y3; have p0 := o0; have p1 := o1; have p2 := o2; have p3 := o3; clear HB2 y1 y2 y3 o0 o1 o2 o3)
        | (go_at_call 74; (with_reducible refine (reg_calls c _ H3.out _).mono ?_); rintro e w' ⟨rfl, hb⟩; have HB2 := Aside0.mk (below_then HB.out HB.out.size hb); have y1 := pw_cell_below hb x1; have y2 := pw_cell_below hb x2; have y3 := pw_cell_below hb x3; have o0 := pw_cell_below hb p0; have o1 := pw_cell_below hb p1; have o2 := pw_cell_below hb p2; have o3 := pw_cell_below hb p3; clear HB x1 x2 x3 p0 p1 p2 p3 hb; have HB := HB2; have x1 := y1; have x2 := y2; have x3 := y3; have p0 := o0; have p1 := o1; have p2 := o2; have p3 := o3; clear HB2 y1 y2 y3 o0 o1 o2 o3))
    go_ret
    exact ⟨rfl, HB.out⟩
  | true =>
    cases b2 with
    | false =>
      go_wp2_with (first
        | (go_at_call 73; (with_reducible refine (in_calls a 0 (nc : Int) _ H1.out _).mono ?_); rintro e w' ⟨rfl, hb⟩; have HB2 := Aside0.mk (below_then HB.out HB.out.size hb); have y1 := pw_cell_below hb x1; have y2 := pw_cell_below hb x2; have y3 := pw_cell_below hb x3; have o0 := pw_cell_below hb p0; have o1 := pw_cell_below hb p1; have o2 := pw_cell_below hb p2; have o3 := pw_cell_below hb p3; clear HB x1 x2 x3 p0 p1 p2 p3 hb; have HB := HB2; have x1 := y1; have x2 := y2; have x3 := y3; have p0 := o0; have p1 := o1; have p2 := o2; have p3 := o3; clear HB2 y1 y2 y3 o0 o1 o2 o3)
        | (go_at_call 74; (with_reducible refine (reg_calls b _ H2.out _).mono ?_); rintro e w' ⟨rfl, hb⟩; have HB2 := Aside0.mk (below_then HB.out HB.out.size hb); have y1 := pw_cell_below hb x1; have y2 := pw_cell_below hb x2; have y3 := pw_cell_below hb x3; have o0 := pw_cell_below hb p0; have o1 := pw_cell_below hb p1; have o2 := pw_cell_below hb p2; have o3 := pw_cell_below hb p3; clear HB x1 x2 x3 p0 p1 p2 p3 hb; have HB := HB2; have x1 := y1; have x2 := y2; have x3 := y3; have p0 := o0; have p1 := o1; have p2 := o2; have p3 := o3; clear HB2 y1 y2 y3 o0 o1 o2 o3)
        | (go_at_call 74; (with_reducible refine (reg_calls c _ H3.out _).mono ?_); rintro e w' ⟨rfl, hb⟩; have HB2 := Aside0.mk (below_then HB.out HB.out.size hb); have y1 := pw_cell_below hb x1; have y2 := pw_cell_below hb x2; have y3 := pw_cell_below hb x3; have o0 := pw_cell_below hb p0; have o1 := pw_cell_below hb p1; have o2 := pw_cell_below hb p2; have o3 := pw_cell_below hb p3; clear HB x1 x2 x3 p0 p1 p2 p3 hb; have HB := HB2; have x1 := y1; have x2 := y2; have x3 := y3; have p0 := o0; have p1 := o1; have p2 := o2; have p3 := o3; clear HB2 y1 y2 y3 o0 o1 o2 o3))
      go_ret
      exact ⟨rfl, HB.out⟩
    | true =>
      cases b3 with
      | false =>
        go_wp2_with (first
        | (go_at_call 73; (with_reducible refine (in_calls a 0 (nc : Int) _ H1.out _).mono ?_); rintro e w' ⟨rfl, hb⟩; have HB2 := Aside0.mk (below_then HB.out HB.out.size hb); have y1 := pw_cell_below hb x1; have y2 := pw_cell_below hb x2; have y3 := pw_cell_below hb x3; have o0 := pw_cell_below hb p0; have o1 := pw_cell_below hb p1; have o2 := pw_cell_below hb p2; have o3 := pw_cell_below hb p3; clear HB x1 x2 x3 p0 p1 p2 p3 hb; have HB := HB2; have x1 := y1; have x2 := y2; have x3 := y3; have p0 := o0; have p1 := o1; have p2 := o2; have p3 := o3; clear HB2 y1 y2 y3 o0 o1 o2 o3)
        | (go_at_call 74; (with_reducible refine (reg_calls b _ H2.out _).mono ?_); rintro e w' ⟨rfl, hb⟩; have HB2 := Aside0.mk (below_then HB.out HB.out.size hb); have y1 := pw_cell_below hb x1; have y2 := pw_cell_below hb x2; have y3 := pw_cell_below hb x3; have o0 := pw_cell_below hb p0; have o1 := pw_cell_below hb p1; have o2 := pw_cell_below hb p2; have o3 := pw_cell_below hb p3; clear HB x1 x2 x3 p0 p1 p2 p3 hb; have HB := HB2; have x1 := y1; have x2 := y2; have x3 := y3; have p0 := o0; have p1 := o1; have p2 := o2; have p3 := o3; clear HB2 y1 y2 y3 o0 o1 o2 o3)
        | (go_at_call 74; (with_reducible refine (reg_calls c _ H3.out _).mono ?_); rintro e w' ⟨rfl, hb⟩; have HB2 := Aside0.mk (below_then HB.out HB.out.size hb); have y1 := pw_cell_below hb x1; have y2 := pw_cell_below hb x2; have y3 := pw_cell_below hb x3; have o0 := pw_cell_below hb p0; have o1 := pw_cell_below hb p1; have o2 := pw_cell_below hb p2; have o3 := pw_cell_below hb p3; clear HB x1 x2 x3 p0 p1 p2 p3 hb; have HB := HB2; have x1 := y1; have x2 := y2; have x3 := y3; have p0 := o0; have p1 := o1; have p2 := o2; have p3 := o3; clear HB2 y1 y2 y3 o0 o1 o2 o3))
        go_ret
        exact ⟨rfl, HB.out⟩
      | true =>
        go_wp2_with (first
        | (go_at_call 73; (with_reducible refine (in_calls a 0 (nc : Int) _ H1.out _).mono ?_); rintro e w' ⟨rfl, hb⟩; have HB2 := Aside0.mk (below_then HB.out HB.out.size hb); have y1 := pw_cell_below hb x1; have y2 := pw_cell_below hb x2; have y3 := pw_cell_below hb x3; have o0 := pw_cell_below hb p0; have o1 := pw_cell_below hb p1; have o2 := pw_cell_below hb p2; have o3 := pw_cell_below hb p3; clear HB x1 x2 x3 p0 p1 p2 p3 hb; have HB := HB2; have x1 := y1; have x2 := y2; have x3 := y3; have p0 := o0; have p1 := o1; have p2 := o2; have p3 := o3; clear HB2 y1 y2 y3 o0 o1 o2 o3)
        | (go_at_call 74; (with_reducible refine (reg_calls b _ H2.out _).mono ?_); rintro e w' ⟨rfl, hb⟩; have HB2 := Aside0.mk (below_then HB.out HB.out.size hb); have y1 := pw_cell_below hb x1; have y2 := pw_cell_below hb x2; have y3 := pw_cell_below hb x3; have o0 := pw_cell_below hb p0; have o1 := pw_cell_below hb p1; have o2 := pw_cell_below hb p2; have o3 := pw_cell_below hb p3; clear HB x1 x2 x3 p0 p1 p2 p3 hb; have HB := HB2; have x1 := y1; have x2 := y2; have x3 := y3; have p0 := o0; have p1 := o1; have p2 := o2; have p3 := o3; clear HB2 y1 y2 y3 o0 o1 o2 o3)
        | (go_at_call 74; (with_reducible refine (reg_calls c _ H3.out _).mono ?_); rintro e w' ⟨rfl, hb⟩; have HB2 := Aside0.mk (below_then HB.out HB.out.size hb); have y1 := pw_cell_below hb x1; have y2 := pw_cell_below hb x2; have y3 := pw_cell_below hb x3; have o0 := pw_cell_below hb p0; have o1 := pw_cell_below hb p1; have o2 := pw_cell_below hb p2; have o3 := pw_cell_below hb p3; clear HB x1 x2 x3 p0 p1 p2 p3 hb; have HB := HB2; have x1 := y1; have x2 := y2; have x3 := y3; have p0 := o0; have p1 := o1; have p2 := o2; have p3 := o3; clear HB2 y1 y2 y3 o0 o1 o2 o3))
        go_ret
        exact ⟨rfl, HB.out⟩
set_option maxHeartbeats 2000000 in
set_option maxRecDepth 100000 in
theorem good_15 (nf nc ncs nfl : Nat) (A0 A1 A2 A3 : Option Addr) (c0 c1 c2 c3 : Nat) (locks a b c : Int) (b1 b2 b3 : Bool) (h1 : inB a 0 (nc : Int) = b1) (h2 : (b == 0) = b2) (h3 : (c == 0) = b3) (w : World) :
    Calls Try.prog 75 #[.agg #[.slice A0 nf c0, .slice A1 nc c1, .int .i64 locks, .slice A3 ncs c3], .slice A2 nfl c2, .agg #[.int .i64 15, .int .i64 a, .int .i64 b, .int .i64 c]] w fun e w' => e = .returned (.int .i64 (if b1 && b2 && b3 then 0 else 4)) ∧ Below w.heap.size w w' := by
  have H1 := Aside0.mk h1
  clear h1
  have HB := Aside0.mk (gW_below w nf nc ncs A0 A1 A3 c0 c1 c3 locks 15 a b c)
  have p0 : (gW w nf nc ncs A0 A1 A3 c0 c1 c3 locks 15 a b c).cell? ⟨w.heap.size, 0, none⟩ = some (.slice A0 nf c0) := (blk_cell (gW_p w nf nc ncs A0 A1 A3 c0 c1 c3 locks 15 a b c) 0).trans rfl
  have p1 : (gW w nf nc ncs A0 A1 A3 c0 c1 c3 locks 15 a b c).cell? ⟨w.heap.size, 1, none⟩ = some (.slice A1 nc c1) := (blk_cell (gW_p w nf nc ncs A0 A1 A3 c0 c1 c3 locks 15 a b c) 1).trans rfl
  have p2 : (gW w nf nc ncs A0 A1 A3 c0 c1 c3 locks 15 a b c).cell? ⟨w.heap.size, 2, none⟩ = some (.int .i64 locks) := (blk_cell (gW_p w nf nc ncs A0 A1 A3 c0 c1 c3 locks 15 a b c) 2).trans rfl
  have p3 : (gW w nf nc ncs A0 A1 A3 c0 c1 c3 locks 15 a b c).cell? ⟨w.heap.size, 3, none⟩ = some (.slice A3 ncs c3) := (blk_cell (gW_p w nf nc ncs A0 A1 A3 c0 c1 c3 locks 15 a b c) 3).trans rfl
  have x0 : (gW w nf nc ncs A0 A1 A3 c0 c1 c3 locks 15 a b c).cell? ⟨w.heap.size + 1, 0, none⟩ = some (.int .i64 15) := (blk_cell (gW_x w nf nc ncs A0 A1 A3 c0 c1 c3 locks 15 a b c) 0).trans rfl
  have x1 : (gW w nf nc ncs A0 A1 A3 c0 c1 c3 locks 15 a b c).cell? ⟨w.heap.size + 1, 1, none⟩ = some (.int .i64 a) := (blk_cell (gW_x w nf nc ncs A0 A1 A3 c0 c1 c3 locks 15 a b c) 1).trans rfl
  have x2 : (gW w nf nc ncs A0 A1 A3 c0 c1 c3 locks 15 a b c).cell? ⟨w.heap.size + 1, 2, none⟩ = some (.int .i64 b) := (blk_cell (gW_x w nf nc ncs A0 A1 A3 c0 c1 c3 locks 15 a b c) 2).trans rfl
  have x3 : (gW w nf nc ncs A0 A1 A3 c0 c1 c3 locks 15 a b c).cell? ⟨w.heap.size + 1, 3, none⟩ = some (.int .i64 c) := (blk_cell (gW_x w nf nc ncs A0 A1 A3 c0 c1 c3 locks 15 a b c) 3).trans rfl
  go_enter Try.func75, Try.ntmps75
  go_upto_region 2 with (fail)
  change Code.wp _ _ _ _ (gW w nf nc ncs A0 A1 A3 c0 c1 c3 locks 15 a b c)
  generalize gW w nf nc ncs A0 A1 A3 c0 c1 c3 locks 15 a b c = w2 at HB p0 p1 p2 p3 x0 x1 x2 x3 ⊢
  cases b1 with
  | false =>
    go_wp2_with (first
        | (go_at_call 73; (with_reducible refine (in_calls a 0 (nc : Int) _ H1.out _).mono ?_); rintro e w' ⟨rfl, hb⟩; have HB2 := Aside0.mk (below_then HB.out HB.out.size hb); have y1 := pw_cell_below hb x1; have y2 := pw_cell_below hb x2; have y3 := pw_cell_below hb x3; have o0 := pw_cell_below hb p0; have o1 := pw_cell_below hb p1; have o2 := pw_cell_below hb p2; have o3 := pw_cell_below hb p3; clear HB x1 x2 x3 p0 p1 p2 p3 hb; have HB := HB2; have x1 := y1; have x2 := y2; have x3 := y3; have p0 := o0; have p1 := o1; have p2 := o2; have p3 := o3; clear HB2 y1 y2 y3 o0 o1 o2 o3))
    go_ret
    exact ⟨rfl, HB.out⟩
  | true =>
    cases b2 with
    | false =>
      go_wp2_with (first
        | (go_at_call 73; (with_reducible refine (in_calls a 0 (nc : Int) _ H1.out _).mono ?_); rintro e w' ⟨rfl, hb⟩; have HB2 := Aside0.mk (below_then HB.out HB.out.size hb); have y1 := pw_cell_below hb x1; have y2 := pw_cell_below hb x2; have y3 := pw_cell_below hb x3; have o0 := pw_cell_below hb p0; have o1 := pw_cell_below hb p1; have o2 := pw_cell_below hb p2; have o3 := pw_cell_below hb p3; clear HB x1 x2 x3 p0 p1 p2 p3 hb; have HB := HB2; have x1 := y1; have x2 := y2; have x3 := y3; have p0 := o0; have p1 := o1; have p2 := o2; have p3 := o3; clear HB2 y1 y2 y3 o0 o1 o2 o3))
      go_ret
      exact ⟨rfl, HB.out⟩
    | true =>
      cases b3 with
      | false =>
        go_wp2_with (first
        | (go_at_call 73; (with_reducible refine (in_calls a 0 (nc : Int) _ H1.out _).mono ?_); rintro e w' ⟨rfl, hb⟩; have HB2 := Aside0.mk (below_then HB.out HB.out.size hb); have y1 := pw_cell_below hb x1; have y2 := pw_cell_below hb x2; have y3 := pw_cell_below hb x3; have o0 := pw_cell_below hb p0; have o1 := pw_cell_below hb p1; have o2 := pw_cell_below hb p2; have o3 := pw_cell_below hb p3; clear HB x1 x2 x3 p0 p1 p2 p3 hb; have HB := HB2; have x1 := y1; have x2 := y2; have x3 := y3; have p0 := o0; have p1 := o1; have p2 := o2; have p3 := o3; clear HB2 y1 y2 y3 o0 o1 o2 o3))
        go_ret
        exact ⟨rfl, HB.out⟩
      | true =>
        go_wp2_with (first
        | (go_at_call 73; (with_reducible refine (in_calls a 0 (nc : Int) _ H1.out _).mono ?_); rintro e w' ⟨rfl, hb⟩; have HB2 := Aside0.mk (below_then HB.out HB.out.size hb); have y1 := pw_cell_below hb x1; have y2 := pw_cell_below hb x2; have y3 := pw_cell_below hb x3; have o0 := pw_cell_below hb p0; have o1 := pw_cell_below hb p1; have o2 := pw_cell_below hb p2; have o3 := pw_cell_below hb p3; clear HB x1 x2 x3 p0 p1 p2 p3 hb; have HB := HB2; have x1 := y1; have x2 := y2; have x3 := y3; have p0 := o0; have p1 := o1; have p2 := o2; have p3 := o3; clear HB2 y1 y2 y3 o0 o1 o2 o3))
        go_ret
        exact ⟨rfl, HB.out⟩
set_option maxHeartbeats 2000000 in
set_option maxRecDepth 100000 in
theorem good_16 (nf nc ncs nfl : Nat) (A0 A1 A2 A3 : Option Addr) (c0 c1 c2 c3 : Nat) (locks a b c : Int) (b1 b2 b3 : Bool) (h1 : inB a 0 (ncs : Int) = b1) (h2 : inB b 1 (wrap64 (wrap64 ((ncs : Int) - a) + 1)) = b2) (h3 : inB c 0 8 = b3) (w : World) :
    Calls Try.prog 75 #[.agg #[.slice A0 nf c0, .slice A1 nc c1, .int .i64 locks, .slice A3 ncs c3], .slice A2 nfl c2, .agg #[.int .i64 16, .int .i64 a, .int .i64 b, .int .i64 c]] w fun e w' => e = .returned (.int .i64 (if b1 && b2 && b3 then 0 else 4)) ∧ Below w.heap.size w w' := by
  have H1 := Aside0.mk h1
  have H2 := Aside0.mk h2
  have H3 := Aside0.mk h3
  clear h1 h2 h3
  have HB := Aside0.mk (gW_below w nf nc ncs A0 A1 A3 c0 c1 c3 locks 16 a b c)
  have p0 : (gW w nf nc ncs A0 A1 A3 c0 c1 c3 locks 16 a b c).cell? ⟨w.heap.size, 0, none⟩ = some (.slice A0 nf c0) := (blk_cell (gW_p w nf nc ncs A0 A1 A3 c0 c1 c3 locks 16 a b c) 0).trans rfl
  have p1 : (gW w nf nc ncs A0 A1 A3 c0 c1 c3 locks 16 a b c).cell? ⟨w.heap.size, 1, none⟩ = some (.slice A1 nc c1) := (blk_cell (gW_p w nf nc ncs A0 A1 A3 c0 c1 c3 locks 16 a b c) 1).trans rfl
  have p2 : (gW w nf nc ncs A0 A1 A3 c0 c1 c3 locks 16 a b c).cell? ⟨w.heap.size, 2, none⟩ = some (.int .i64 locks) := (blk_cell (gW_p w nf nc ncs A0 A1 A3 c0 c1 c3 locks 16 a b c) 2).trans rfl
  have p3 : (gW w nf nc ncs A0 A1 A3 c0 c1 c3 locks 16 a b c).cell? ⟨w.heap.size, 3, none⟩ = some (.slice A3 ncs c3) := (blk_cell (gW_p w nf nc ncs A0 A1 A3 c0 c1 c3 locks 16 a b c) 3).trans rfl
  have x0 : (gW w nf nc ncs A0 A1 A3 c0 c1 c3 locks 16 a b c).cell? ⟨w.heap.size + 1, 0, none⟩ = some (.int .i64 16) := (blk_cell (gW_x w nf nc ncs A0 A1 A3 c0 c1 c3 locks 16 a b c) 0).trans rfl
  have x1 : (gW w nf nc ncs A0 A1 A3 c0 c1 c3 locks 16 a b c).cell? ⟨w.heap.size + 1, 1, none⟩ = some (.int .i64 a) := (blk_cell (gW_x w nf nc ncs A0 A1 A3 c0 c1 c3 locks 16 a b c) 1).trans rfl
  have x2 : (gW w nf nc ncs A0 A1 A3 c0 c1 c3 locks 16 a b c).cell? ⟨w.heap.size + 1, 2, none⟩ = some (.int .i64 b) := (blk_cell (gW_x w nf nc ncs A0 A1 A3 c0 c1 c3 locks 16 a b c) 2).trans rfl
  have x3 : (gW w nf nc ncs A0 A1 A3 c0 c1 c3 locks 16 a b c).cell? ⟨w.heap.size + 1, 3, none⟩ = some (.int .i64 c) := (blk_cell (gW_x w nf nc ncs A0 A1 A3 c0 c1 c3 locks 16 a b c) 3).trans rfl
  go_enter Try.func75, Try.ntmps75
  go_upto_region 2 with (fail)
  change Code.wp _ _ _ _ (gW w nf nc ncs A0 A1 A3 c0 c1 c3 locks 16 a b c)
  generalize gW w nf nc ncs A0 A1 A3 c0 c1 c3 locks 16 a b c = w2 at HB p0 p1 p2 p3 x0 x1 x2 x3 ⊢
  cases b1 with
  | false =>
    go_wp2_with (first
        | (go_at_call 73; (with_reducible refine (in_calls a 0 (ncs : Int) _ H1.out _).mono ?_); rintro e w' ⟨rfl, hb⟩; have HB2 := Aside0.mk (below_then HB.out HB.out.size hb); have y1 := pw_cell_below hb x1; have y2 := pw_cell_below hb x2; have y3 := pw_cell_below hb x3; have o0 := pw_cell_below hb p0; have o1 := pw_cell_below hb p1; have o2 := pw_cell_below hb p2; have o3 := pw_cell_below hb p3; clear HB x1 x2 x3 p0 p1 p2 p3 hb; have HB := HB2; have x1 := y1; have x2 := y2; have x3 := y3; have p0 := o0; have p1 := o1; have p2 := o2; have p3 := o3; clear HB2 y1 y2 y3 o0 o1 o2 o3)
        | (go_at_call 73; (with_reducible refine (in_calls b 1 (wrap64 (wrap64 ((ncs : Int) - a) + 1)) _ H2.out _).mono ?_); rintro e w' ⟨rfl, hb⟩; have HB2 := Aside0.mk (below_then HB.out HB.out.size hb); have y1 := pw_cell_below hb x1; have y2 := pw_cell_below hb x2; have y3 := pw_cell_below hb x3; have o0 := pw_cell_below hb p0; have o1 := pw_cell_below hb p1; have o2 := pw_cell_below hb p2; have o3 := pw_cell_below hb p3; clear HB x1 x2 x3 p0 p1 p2 p3 hb; have HB := HB2; have x1 := y1; have x2 := y2; have x3 := y3; have p0 := o0; have p1 := o1; have p2 := o2; have p3 := o3; clear HB2 y1 y2 y3 o0 o1 o2 o3)
        | (go_at_call 74; (with_reducible refine (reg_calls c _ H3.out _).mono ?_); rintro e w' ⟨rfl, hb⟩; have HB2 := Aside0.mk (below_then HB.out HB.out.size hb); have y1 := pw_cell_below hb x1; have y2 := pw_cell_below hb x2; have y3 := pw_cell_below hb x3; have o0 := pw_cell_below hb p0; have o1 := pw_cell_below hb p1; have o2 := pw_cell_below hb p2; have o3 := pw_cell_below hb p3; clear HB x1 x2 x3 p0 p1 p2 p3 hb; have HB := HB2; have x1 := y1; have x2 := y2; have x3 := y3; have p0 := o0; have p1 := o1; have p2 := o2; have p3 := o3; clear HB2 y1 y2 y3 o0 o1 o2 o3))
    go_ret
    exact ⟨rfl, HB.out⟩
  | true =>
    cases b2 with
    | false =>
      go_wp2_with (first
        | (go_at_call 73; (with_reducible refine (in_calls a 0 (ncs : Int) _ H1.out _).mono ?_); rintro e w' ⟨rfl, hb⟩; have HB2 := Aside0.mk (below_then HB.out HB.out.size hb); have y1 := pw_cell_below hb x1; have y2 := pw_cell_below hb x2; have y3 := pw_cell_below hb x3; have o0 := pw_cell_below hb p0; have o1 := pw_cell_below hb p1; have o2 := pw_cell_below hb p2; have o3 := pw_cell_below hb p3; clear HB x1 x2 x3 p0 p1 p2 p3 hb; have HB := HB2; have x1 := y1; have x2 := y2; have x3 := y3; have p0 := o0; have p1 := o1; have p2 := o2; have p3 := o3; clear HB2 y1 y2 y3 o0 o1 o2 o3)
        | (go_at_call 73; (with_reducible refine (in_calls b 1 (wrap64 (wrap64 ((ncs : Int) - a) + 1)) _ H2.out _).mono ?_); rintro e w' ⟨rfl, hb⟩; have HB2 := Aside0.mk (below_then HB.out HB.out.size hb); have y1 := pw_cell_below hb x1; have y2 := pw_cell_below hb x2; have y3 := pw_cell_below hb x3; have o0 := pw_cell_below hb p0; have o1 := pw_cell_below hb p1; have o2 := pw_cell_below hb p2; have o3 := pw_cell_below hb p3; clear HB x1 x2 x3 p0 p1 p2 p3 hb; have HB := HB2; have x1 := y1; have x2 := y2; have x3 := y3; have p0 := o0; have p1 := o1; have p2 := o2; have p3 := o3; clear HB2 y1 y2 y3 o0 o1 o2 o3)
        | (go_at_call 74; (with_reducible refine (reg_calls c _ H3.out _).mono ?_); rintro e w' ⟨rfl, hb⟩; have HB2 := Aside0.mk (below_then HB.out HB.out.size hb); have y1 := pw_cell_below hb x1; have y2 := pw_cell_below hb x2; have y3 := pw_cell_below hb x3; have o0 := pw_cell_below hb p0; have o1 := pw_cell_below hb p1; have o2 := pw_cell_below hb p2; have o3 := pw_cell_below hb p3; clear HB x1 x2 x3 p0 p1 p2 p3 hb; have HB := HB2; have x1 := y1; have x2 := y2; have x3 := y3; have p0 := o0; have p1 := o1; have p2 := o2; have p3 := o3; clear HB2 y1 y2 y3 o0 o1 o2 o3))
      go_ret
      exact ⟨rfl, HB.out⟩
    | true =>
      cases b3 with
      | false =>
        go_wp2_with (first
        | (go_at_call 73; (with_reducible refine (in_calls a 0 (ncs : Int) _ H1.out _).mono ?_); rintro e w' ⟨rfl, hb⟩; have HB2 := Aside0.mk (below_then HB.out HB.out.size hb); have y1 := pw_cell_below hb x1; have y2 := pw_cell_below hb x2; have y3 := pw_cell_below hb x3; have o0 := pw_cell_below hb p0; have o1 := pw_cell_below hb p1; have o2 := pw_cell_below hb p2; have o3 := pw_cell_below hb p3; clear HB x1 x2 x3 p0 p1 p2 p3 hb; have HB := HB2; have x1 := y1; have x2 := y2; have x3 := y3; have p0 := o0; have p1 := o1; have p2 := o2; have p3 := o3; clear HB2 y1 y2 y3 o0 o1 o2 o3)
        | (go_at_call 73; (with_reducible refine (in_calls b 1 (wrap64 (wrap64 ((ncs : Int) - a) + 1)) _ H2.out _).mono ?_); rintro e w' ⟨rfl, hb⟩; have HB2 := Aside0.mk (below_then HB.out HB.out.size hb); have y1 := pw_cell_below hb x1; have y2 := pw_cell_below hb x2; have y3 := pw_cell_below hb x3; have o0 := pw_cell_below hb p0; have o1 := pw_cell_below hb p1; have o2 := pw_cell_below hb p2; have o3 := pw_cell_below hb p3; clear HB x1 x2 x3 p0 p1 p2 p3 hb; have HB := HB2; have x1 := y1; have x2 := y2; have x3 := y3; have p0 := o0; have p1 := o1; have p2 := o2; have p3 := o3; clear HB2 y1 y2 y3 o0 o1 o2 o3)
        | (go_at_call 74; (with_reducible refine (reg_calls c _ H3.out _).mono ?_); rintro e w' ⟨rfl, hb⟩; have HB2 := Aside0.mk (below_then HB.out HB.out.size hb); have y1 := pw_cell_below hb x1; have y2 := pw_cell_below hb x2; have y3 := pw_cell_below hb x3; have o0 := pw_cell_below hb p0; have o1 := pw_cell_below hb p1; have o2 := pw_cell_below hb p2; have o3 := pw_cell_below hb p3; clear HB x1 x2 x3 p0 p1 p2 p3 hb; have HB := HB2; have x1 := y1; have x2 := y2; have x3 := y3; have p0 := o0; have p1 := o1; have p2 := o2; have p3 := o3; clear HB2 y1 y2 y3 o0 o1 o2 o3))
        go_ret
        exact ⟨rfl, HB.out⟩
      | true =>
        go_wp2_with (first
        | (go_at_call 73; (with_reducible refine (in_calls a 0 (ncs : Int) _ H1.out _).mono ?_); rintro e w' ⟨rfl, hb⟩; have HB2 := Aside0.mk (below_then HB.out HB.out.size hb); have y1 := pw_cell_below hb x1; have y2 := pw_cell_below hb x2; have y3 := pw_cell_below hb x3; have o0 := pw_cell_below hb p0; have o1 := pw_cell_below hb p1; have o2 := pw_cell_below hb p2; have o3 := pw_cell_below hb p3; clear HB x1 x2 x3 p0 p1 p2 p3 hb; have HB := HB2; have x1 := y1; have x2 := y2; have x3 := y3; have p0 := o0; have p1 := o1; have p2 := o2; have p3 := o3; clear HB2 y1 y2 y3 o0 o1 o2 o3)
        | (go_at_call 73; (with_reducible refine (in_calls b 1 (wrap64 (wrap64 ((ncs : Int) - a) + 1)) _ H2.out _).mono ?_); rintro e w' ⟨rfl, hb⟩; have HB2 := Aside0.mk (below_then HB.out HB.out.size hb); have y1 := pw_cell_below hb x1; have y2 := pw_cell_below hb x2; have y3 := pw_cell_below hb x3; have o0 := pw_cell_below hb p0; have o1 := pw_cell_below hb p1; have o2 := pw_cell_below hb p2; have o3 := pw_cell_below hb p3; clear HB x1 x2 x3 p0 p1 p2 p3 hb; have HB := HB2; have x1 := y1; have x2 := y2; have x3 := y3; have p0 := o0; have p1 := o1; have p2 := o2; have p3 := o3; clear HB2 y1 y2 y3 o0 o1 o2 o3)
        | (go_at_call 74; (with_reducible refine (reg_calls c _ H3.out _).mono ?_); rintro e w' ⟨rfl, hb⟩; have HB2 := Aside0.mk (below_then HB.out HB.out.size hb); have y1 := pw_cell_below hb x1; have y2 := pw_cell_below hb x2; have y3 := pw_cell_below hb x3; have o0 := pw_cell_below hb p0; have o1 := pw_cell_below hb p1; have o2 := pw_cell_below hb p2; have o3 := pw_cell_below hb p3; clear HB x1 x2 x3 p0 p1 p2 p3 hb; have HB := HB2; have x1 := y1; have x2 := y2; have x3 := y3; have p0 := o0; have p1 := o1; have p2 := o2; have p3 := o3; clear HB2 y1 y2 y3 o0 o1 o2 o3))
        go_ret
        exact ⟨rfl, HB.out⟩
set_option maxHeartbeats 2000000 in
set_option maxRecDepth 100000 in
theorem good_17 (nf nc ncs nfl : Nat) (A0 A1 A2 A3 : Option Addr) (c0 c1 c2 c3 : Nat) (locks a b c : Int) (b1 b2 b3 : Bool) (h1 : inB a 0 8 = b1) (h2 : (b == 0) = b2) (h3 : (c == 0) = b3) (w : World) :
    Calls Try.prog 75 #[.agg #[.slice A0 nf c0, .slice A1 nc c1, .int .i64 locks, .slice A3 ncs c3], .slice A2 nfl c2, .agg #[.int .i64 17, .int .i64 a, .int .i64 b, .int .i64 c]] w fun e w' => e = .returned (.int .i64 (if b1 && b2 && b3 then 0 else 4)) ∧ Below w.heap.size w w' := by
  have H1 := Aside0.mk h1
  clear h1
  have HB := Aside0.mk (gW_below w nf nc ncs A0 A1 A3 c0 c1 c3 locks 17 a b c)
  have p0 : (gW w nf nc ncs A0 A1 A3 c0 c1 c3 locks 17 a b c).cell? ⟨w.heap.size, 0, none⟩ = some (.slice A0 nf c0) := (blk_cell (gW_p w nf nc ncs A0 A1 A3 c0 c1 c3 locks 17 a b c) 0).trans rfl
  have p1 : (gW w nf nc ncs A0 A1 A3 c0 c1 c3 locks 17 a b c).cell? ⟨w.heap.size, 1, none⟩ = some (.slice A1 nc c1) := (blk_cell (gW_p w nf nc ncs A0 A1 A3 c0 c1 c3 locks 17 a b c) 1).trans rfl
  have p2 : (gW w nf nc ncs A0 A1 A3 c0 c1 c3 locks 17 a b c).cell? ⟨w.heap.size, 2, none⟩ = some (.int .i64 locks) := (blk_cell (gW_p w nf nc ncs A0 A1 A3 c0 c1 c3 locks 17 a b c) 2).trans rfl
  have p3 : (gW w nf nc ncs A0 A1 A3 c0 c1 c3 locks 17 a b c).cell? ⟨w.heap.size, 3, none⟩ = some (.slice A3 ncs c3) := (blk_cell (gW_p w nf nc ncs A0 A1 A3 c0 c1 c3 locks 17 a b c) 3).trans rfl
  have x0 : (gW w nf nc ncs A0 A1 A3 c0 c1 c3 locks 17 a b c).cell? ⟨w.heap.size + 1, 0, none⟩ = some (.int .i64 17) := (blk_cell (gW_x w nf nc ncs A0 A1 A3 c0 c1 c3 locks 17 a b c) 0).trans rfl
  have x1 : (gW w nf nc ncs A0 A1 A3 c0 c1 c3 locks 17 a b c).cell? ⟨w.heap.size + 1, 1, none⟩ = some (.int .i64 a) := (blk_cell (gW_x w nf nc ncs A0 A1 A3 c0 c1 c3 locks 17 a b c) 1).trans rfl
  have x2 : (gW w nf nc ncs A0 A1 A3 c0 c1 c3 locks 17 a b c).cell? ⟨w.heap.size + 1, 2, none⟩ = some (.int .i64 b) := (blk_cell (gW_x w nf nc ncs A0 A1 A3 c0 c1 c3 locks 17 a b c) 2).trans rfl
  have x3 : (gW w nf nc ncs A0 A1 A3 c0 c1 c3 locks 17 a b c).cell? ⟨w.heap.size + 1, 3, none⟩ = some (.int .i64 c) := (blk_cell (gW_x w nf nc ncs A0 A1 A3 c0 c1 c3 locks 17 a b c) 3).trans rfl
  go_enter Try.func75, Try.ntmps75
  go_upto_region 2 with (fail)
  change Code.wp _ _ _ _ (gW w nf nc ncs A0 A1 A3 c0 c1 c3 locks 17 a b c)
  generalize gW w nf nc ncs A0 A1 A3 c0 c1 c3 locks 17 a b c = w2 at HB p0 p1 p2 p3 x0 x1 x2 x3 ⊢
  cases b1 with
  | false =>
    go_wp2_with (first
        | (go_at_call 74; (with_reducible refine (reg_calls a _ H1.out _).mono ?_); rintro e w' ⟨rfl, hb⟩; have HB2 := Aside0.mk (below_then HB.out HB.out.size hb); have y1 := pw_cell_below hb x1; have y2 := pw_cell_below hb x2; have y3 := pw_cell_below hb x3; have o0 := pw_cell_below hb p0; have o1 := pw_cell_below hb p1; have o2 := pw_cell_below hb p2; have o3 := pw_cell_below hb p3; clear HB x1 x2 x3 p0 p1 p2 p3 hb; have HB := HB2; have x1 := y1; have x2 := y2; have x3 := y3; have p0 := o0; have p1 := o1; have p2 := o2; have p3 := o3; clear HB2 y1 y2 y3 o0 o1 o2 o3))
    go_ret
    exact ⟨rfl, HB.out⟩
  | true =>
    cases b2 with
    | false =>
      go_wp2_with (first
        | (go_at_call 74; (with_reducible refine (reg_calls a _ H1.out _).mono ?_); rintro e w' ⟨rfl, hb⟩; have HB2 := Aside0.mk (below_then HB.out HB.out.size hb); have y1 := pw_cell_below hb x1; have y2 := pw_cell_below hb x2; have y3 := pw_cell_below hb x3; have o0 := pw_cell_below hb p0; have o1 := pw_cell_below hb p1; have o2 := pw_cell_below hb p2; have o3 := pw_cell_below hb p3; clear HB x1 x2 x3 p0 p1 p2 p3 hb; have HB := HB2; have x1 := y1; have x2 := y2; have x3 := y3; have p0 := o0; have p1 := o1; have p2 := o2; have p3 := o3; clear HB2 y1 y2 y3 o0 o1 o2 o3))
      go_ret
      exact ⟨rfl, HB.out⟩
    | true =>
      cases b3 with
      | false =>
        go_wp2_with (first
        | (go_at_call 74; (with_reducible refine (reg_calls a _ H1.out _).mono ?_); rintro e w' ⟨rfl, hb⟩; have HB2 := Aside0.mk (below_then HB.out HB.out.size hb); have y1 := pw_cell_below hb x1; have y2 := pw_cell_below hb x2; have y3 := pw_cell_below hb x3; have o0 := pw_cell_below hb p0; have o1 := pw_cell_below hb p1; have o2 := pw_cell_below hb p2; have o3 := pw_cell_below hb p3; clear HB x1 x2 x3 p0 p1 p2 p3 hb; have HB := HB2; have x1 := y1; have x2 := y2; have x3 := y3; have p0 := o0; have p1 := o1; have p2 := o2; have p3 := o3; clear HB2 y1 y2 y3 o0 o1 o2 o3))
        go_ret
        exact ⟨rfl, HB.out⟩
      | true =>
        go_wp2_with (first
        | (go_at_call 74; (with_reducible refine (reg_calls a _ H1.out _).mono ?_); rintro e w' ⟨rfl, hb⟩; have HB2 := Aside0.mk (below_then HB.out HB.out.size hb); have y1 := pw_cell_below hb x1; have y2 := pw_cell_below hb x2; have y3 := pw_cell_below hb x3; have o0 := pw_cell_below hb p0; have o1 := pw_cell_below hb p1; have o2 := pw_cell_below hb p2; have o3 := pw_cell_below hb p3; clear HB x1 x2 x3 p0 p1 p2 p3 hb; have HB := HB2; have x1 := y1; have x2 := y2; have x3 := y3; have p0 := o0; have p1 := o1; have p2 := o2; have p3 := o3; clear HB2 y1 y2 y3 o0 o1 o2 o3))
        go_ret
        exact ⟨rfl, HB.out⟩
set_option maxHeartbeats 2000000 in
set_option maxRecDepth 100000 in
theorem good_18 (nf nc ncs nfl : Nat) (A0 A1 A2 A3 : Option Addr) (c0 c1 c2 c3 : Nat) (locks a b c : Int) (b1 b2 b3 : Bool) (h1 : inB a 0 locks = b1) (h2 : (b == 0) = b2) (h3 : (c == 0) = b3) (w : World) :
    Calls Try.prog 75 #[.agg #[.slice A0 nf c0, .slice A1 nc c1, .int .i64 locks, .slice A3 ncs c3], .slice A2 nfl c2, .agg #[.int .i64 18, .int .i64 a, .int .i64 b, .int .i64 c]] w fun e w' => e = .returned (.int .i64 (if b1 && b2 && b3 then 0 else 4)) ∧ Below w.heap.size w w' := by
  have H1 := Aside0.mk h1
  clear h1
  have HB := Aside0.mk (gW_below w nf nc ncs A0 A1 A3 c0 c1 c3 locks 18 a b c)
  have p0 : (gW w nf nc ncs A0 A1 A3 c0 c1 c3 locks 18 a b c).cell? ⟨w.heap.size, 0, none⟩ = some (.slice A0 nf c0) := (blk_cell (gW_p w nf nc ncs A0 A1 A3 c0 c1 c3 locks 18 a b c) 0).trans rfl
  have p1 : (gW w nf nc ncs A0 A1 A3 c0 c1 c3 locks 18 a b c).cell? ⟨w.heap.size, 1, none⟩ = some (.slice A1 nc c1) := (blk_cell (gW_p w nf nc ncs A0 A1 A3 c0 c1 c3 locks 18 a b c) 1).trans rfl
  have p2 : (gW w nf nc ncs A0 A1 A3 c0 c1 c3 locks 18 a b c).cell? ⟨w.heap.size, 2, none⟩ = some (.int .i64 locks) := (blk_cell (gW_p w nf nc ncs A0 A1 A3 c0 c1 c3 locks 18 a b c) 2).trans rfl
  have p3 : (gW w nf nc ncs A0 A1 A3 c0 c1 c3 locks 18 a b c).cell? ⟨w.heap.size, 3, none⟩ = some (.slice A3 ncs c3) := (blk_cell (gW_p w nf nc ncs A0 A1 A3 c0 c1 c3 locks 18 a b c) 3).trans rfl
  have x0 : (gW w nf nc ncs A0 A1 A3 c0 c1 c3 locks 18 a b c).cell? ⟨w.heap.size + 1, 0, none⟩ = some (.int .i64 18) := (blk_cell (gW_x w nf nc ncs A0 A1 A3 c0 c1 c3 locks 18 a b c) 0).trans rfl
  have x1 : (gW w nf nc ncs A0 A1 A3 c0 c1 c3 locks 18 a b c).cell? ⟨w.heap.size + 1, 1, none⟩ = some (.int .i64 a) := (blk_cell (gW_x w nf nc ncs A0 A1 A3 c0 c1 c3 locks 18 a b c) 1).trans rfl
  have x2 : (gW w nf nc ncs A0 A1 A3 c0 c1 c3 locks 18 a b c).cell? ⟨w.heap.size + 1, 2, none⟩ = some (.int .i64 b) := (blk_cell (gW_x w nf nc ncs A0 A1 A3 c0 c1 c3 locks 18 a b c) 2).trans rfl
  have x3 : (gW w nf nc ncs A0 A1 A3 c0 c1 c3 locks 18 a b c).cell? ⟨w.heap.size + 1, 3, none⟩ = some (.int .i64 c) := (blk_cell (gW_x w nf nc ncs A0 A1 A3 c0 c1 c3 locks 18 a b c) 3).trans rfl
  go_enter Try.func75, Try.ntmps75
  go_upto_region 2 with (fail)
  change Code.wp _ _ _ _ (gW w nf nc ncs A0 A1 A3 c0 c1 c3 locks 18 a b c)
  generalize gW w nf nc ncs A0 A1 A3 c0 c1 c3 locks 18 a b c = w2 at HB p0 p1 p2 p3 x0 x1 x2 x3 ⊢
  cases b1 with
  | false =>
    go_wp2_with (first
        | (go_at_call 73; (with_reducible refine (in_calls a 0 locks _ H1.out _).mono ?_); rintro e w' ⟨rfl, hb⟩; have HB2 := Aside0.mk (below_then HB.out HB.out.size hb); have y1 := pw_cell_below hb x1; have y2 := pw_cell_below hb x2; have y3 := pw_cell_below hb x3; have o0 := pw_cell_below hb p0; have o1 := pw_cell_below hb p1; have o2 := pw_cell_below hb p2; have o3 := pw_cell_below hb p3; clear HB x1 x2 x3 p0 p1 p2 p3 hb; have HB := HB2; have x1 := y1; have x2 := y2; have x3 := y3; have p0 := o0; have p1 := o1; have p2 := o2; have p3 := o3; clear HB2 y1 y2 y3 o0 o1 o2 o3))
    go_ret
    exact ⟨rfl, HB.out⟩
  | true =>
    cases b2 with
    | false =>
      go_wp2_with (first
        | (go_at_call 73; (with_reducible refine (in_calls a 0 locks _ H1.out _).mono ?_); rintro e w' ⟨rfl, hb⟩; have HB2 := Aside0.mk (below_then HB.out HB.out.size hb); have y1 := pw_cell_below hb x1; have y2 := pw_cell_below hb x2; have y3 := pw_cell_below hb x3; have o0 := pw_cell_below hb p0; have o1 := pw_cell_below hb p1; have o2 := pw_cell_below hb p2; have o3 := pw_cell_below hb p3; clear HB x1 x2 x3 p0 p1 p2 p3 hb; have HB := HB2; have x1 := y1; have x2 := y2; have x3 := y3; have p0 := o0; have p1 := o1; have p2 := o2; have p3 := o3; clear HB2 y1 y2 y3 o0 o1 o2 o3))
      go_ret
      exact ⟨rfl, HB.out⟩
    | true =>
      cases b3 with
      | false =>
        go_wp2_with (first
        | (go_at_call 73; (with_reducible refine (in_calls a 0 locks _ H1.out _).mono ?_); rintro e w' ⟨rfl, hb⟩; have HB2 := Aside0.mk (below_then HB.out HB.out.size hb); have y1 := pw_cell_below hb x1; have y2 := pw_cell_below hb x2; have y3 := pw_cell_below hb x3; have o0 := pw_cell_below hb p0; have o1 := pw_cell_below hb p1; have o2 := pw_cell_below hb p2; have o3 := pw_cell_below hb p3; clear HB x1 x2 x3 p0 p1 p2 p3 hb; have HB := HB2; have x1 := y1; have x2 := y2; have x3 := y3; have p0 := o0; have p1 := o1; have p2 := o2; have p3 := o3; clear HB2 y1 y2 y3 o0 o1 o2 o3))
        go_ret
        exact ⟨rfl, HB.out⟩
      | true =>
        go_wp2_with (first
        | (go_at_call 73; (with_reducible refine (in_calls a 0 locks _ H1.out _).mono ?_); rintro e w' ⟨rfl, hb⟩; have HB2 := Aside0.mk (below_then HB.out HB.out.size hb); have y1 := pw_cell_below hb x1; have y2 := pw_cell_below hb x2; have y3 := pw_cell_below hb x3; have o0 := pw_cell_below hb p0; have o1 := pw_cell_below hb p1; have o2 := pw_cell_below hb p2; have o3 := pw_cell_below hb p3; clear HB x1 x2 x3 p0 p1 p2 p3 hb; have HB := HB2; have x1 := y1; have x2 := y2; have x3 := y3; have p0 := o0; have p1 := o1; have p2 := o2; have p3 := o3; clear HB2 y1 y2 y3 o0 o1 o2 o3))
        go_ret
        exact ⟨rfl, HB.out⟩
set_option maxHeartbeats 2000000 in
set_option maxRecDepth 100000 in
theorem good_19 (nf nc ncs nfl : Nat) (A0 A1 A2 A3 : Option Addr) (c0 c1 c2 c3 : Nat) (locks a b c : Int) (b1 b2 b3 : Bool) (h1 : inB a 0 locks = b1) (h2 : (b == 0) = b2) (h3 : (c == 0) = b3) (w : World) :
    Calls Try.prog 75 #[.agg #[.slice A0 nf c0, .slice A1 nc c1, .int .i64 locks, .slice A3 ncs c3], .slice A2 nfl c2, .agg #[.int .i64 19, .int .i64 a, .int .i64 b, .int .i64 c]] w fun e w' => e = .returned (.int .i64 (if b1 && b2 && b3 then 0 else 4)) ∧ Below w.heap.size w w' := by
  have H1 := Aside0.mk h1
  clear h1
  have HB := Aside0.mk (gW_below w nf nc ncs A0 A1 A3 c0 c1 c3 locks 19 a b c)
  have p0 : (gW w nf nc ncs A0 A1 A3 c0 c1 c3 locks 19 a b c).cell? ⟨w.heap.size, 0, none⟩ = some (.slice A0 nf c0) := (blk_cell (gW_p w nf nc ncs A0 A1 A3 c0 c1 c3 locks 19 a b c) 0).trans rfl
  have p1 : (gW w nf nc ncs A0 A1 A3 c0 c1 c3 locks 19 a b c).cell? ⟨w.heap.size, 1, none⟩ = some (.slice A1 nc c1) := (blk_cell (gW_p w nf nc ncs A0 A1 A3 c0 c1 c3 locks 19 a b c) 1).trans rfl
  have p2 : (gW w nf nc ncs A0 A1 A3 c0 c1 c3 locks 19 a b c).cell? ⟨w.heap.size, 2, none⟩ = some (.int .i64 locks) := (blk_cell (gW_p w nf nc ncs A0 A1 A3 c0 c1 c3 locks 19 a b c) 2).trans rfl
  have p3 : (gW w nf nc ncs A0 A1 A3 c0 c1 c3 locks 19 a b c).cell? ⟨w.heap.size, 3, none⟩ = some (.slice A3 ncs c3) := (blk_cell (gW_p w nf nc ncs A0 A1 A3 c0 c1 c3 locks 19 a b c) 3).trans rfl
  have x0 : (gW w nf nc ncs A0 A1 A3 c0 c1 c3 locks 19 a b c).cell? ⟨w.heap.size + 1, 0, none⟩ = some (.int .i64 19) := (blk_cell (gW_x w nf nc ncs A0 A1 A3 c0 c1 c3 locks 19 a b c) 0).trans rfl
  have x1 : (gW w nf nc ncs A0 A1 A3 c0 c1 c3 locks 19 a b c).cell? ⟨w.heap.size + 1, 1, none⟩ = some (.int .i64 a) := (blk_cell (gW_x w nf nc ncs A0 A1 A3 c0 c1 c3 locks 19 a b c) 1).trans rfl
  have x2 : (gW w nf nc ncs A0 A1 A3 c0 c1 c3 locks 19 a b c).cell? ⟨w.heap.size + 1, 2, none⟩ = some (.int .i64 b) := (blk_cell (gW_x w nf nc ncs A0 A1 A3 c0 c1 c3 locks 19 a b c) 2).trans rfl
  have x3 : (gW w nf nc ncs A0 A1 A3 c0 c1 c3 locks 19 a b c).cell? ⟨w.heap.size + 1, 3, none⟩ = some (.int .i64 c) := (blk_cell (gW_x w nf nc ncs A0 A1 A3 c0 c1 c3 locks 19 a b c) 3).trans rfl
  go_enter Try.func75, Try.ntmps75
  go_upto_region 2 with (fail)
  change Code.wp _ _ _ _ (gW w nf nc ncs A0 A1 A3 c0 c1 c3 locks 19 a b c)
  generalize gW w nf nc ncs A0 A1 A3 c0 c1 c3 locks 19 a b c = w2 at HB p0 p1 p2 p3 x0 x1 x2 x3 ⊢
  cases b1 with
  | false =>
    go_wp2_with (first
        | (go_at_call 73; (with_reducible refine (in_calls a 0 locks _ H1.out _).mono ?_); rintro e w' ⟨rfl, hb⟩; have HB2 := Aside0.mk (below_then HB.out HB.out.size hb); have y1 := pw_cell_below hb x1; have y2 := pw_cell_below hb x2; have y3 := pw_cell_below hb x3; have o0 := pw_cell_below hb p0; have o1 := pw_cell_below hb p1; have o2 := pw_cell_below hb p2; have o3 := pw_cell_below hb p3; clear HB x1 x2 x3 p0 p1 p2 p3 hb; have HB := HB2; have x1 := y1; have x2 := y2; have x3 := y3; have p0 := o0; have p1 := o1; have p2 := o2; have p3 := o3; clear HB2 y1 y2 y3 o0 o1 o2 o3))
    go_ret
    exact ⟨rfl, HB.out⟩
  | true =>
    cases b2 with
    | false =>
      go_wp2_with (first
        | (go_at_call 73; (with_reducible refine (in_calls a 0 locks _ H1.out _).mono ?_); rintro e w' ⟨rfl, hb⟩; have HB2 := Aside0.mk (below_then HB.out HB.out.size hb); have y1 := pw_cell_below hb x1; have y2 := pw_cell_below hb x2; have y3 := pw_cell_below hb x3; have o0 := pw_cell_below hb p0; have o1 := pw_cell_below hb p1; have o2 := pw_cell_below hb p2; have o3 := pw_cell_below hb p3; clear HB x1 x2 x3 p0 p1 p2 p3 hb; have HB := HB2; have x1 := y1; have x2 := y2; have x3 := y3; have p0 := o0; have p1 := o1; have p2 := o2; have p3 := o3; clear HB2 y1 y2 y3 o0 o1 o2 o3))
      go_ret
      exact ⟨rfl, HB.out⟩
    | true =>
      cases b3 with
      | false =>
        go_wp2_with (first
        | (go_at_call 73; (with_reducible refine (in_calls a 0 locks _ H1.out _).mono ?_); rintro e w' ⟨rfl, hb⟩; have HB2 := Aside0.mk (below_then HB.out HB.out.size hb); have y1 := pw_cell_below hb x1; have y2 := pw_cell_below hb x2; have y3 := pw_cell_below hb x3; have o0 := pw_cell_below hb p0; have o1 := pw_cell_below hb p1; have o2 := pw_cell_below hb p2; have o3 := pw_cell_below hb p3; clear HB x1 x2 x3 p0 p1 p2 p3 hb; have HB := HB2; have x1 := y1; have x2 := y2; have x3 := y3; have p0 := o0; have p1 := o1; have p2 := o2; have p3 := o3; clear HB2 y1 y2 y3 o0 o1 o2 o3))
        go_ret
        exact ⟨rfl, HB.out⟩
      | true =>
        go_wp2_with (first
        | (go_at_call 73; (with_reducible refine (in_calls a 0 locks _ H1.out _).mono ?_); rintro e w' ⟨rfl, hb⟩; have HB2 := Aside0.mk (below_then HB.out HB.out.size hb); have y1 := pw_cell_below hb x1; have y2 := pw_cell_below hb x2; have y3 := pw_cell_below hb x3; have o0 := pw_cell_below hb p0; have o1 := pw_cell_below hb p1; have o2 := pw_cell_below hb p2; have o3 := pw_cell_below hb p3; clear HB x1 x2 x3 p0 p1 p2 p3 hb; have HB := HB2; have x1 := y1; have x2 := y2; have x3 := y3; have p0 := o0; have p1 := o1; have p2 := o2; have p3 := o3; clear HB2 y1 y2 y3 o0 o1 o2 o3))
        go_ret
        exact ⟨rfl, HB.out⟩
set_option maxHeartbeats 2000000 in
set_option maxRecDepth 100000 in
theorem good_20 (nf nc ncs nfl : Nat) (A0 A1 A2 A3 : Option Addr) (c0 c1 c2 c3 : Nat) (locks a b c : Int) (b1 b2 b3 : Bool) (h1 : inB a 0 8 = b1) (h2 : (b == 0) = b2) (h3 : (c == 0) = b3) (w : World) :
    Calls Try.prog 75 #[.agg #[.slice A0 nf c0, .slice A1 nc c1, .int .i64 locks, .slice A3 ncs c3], .slice A2 nfl c2, .agg #[.int .i64 20, .int .i64 a, .int .i64 b, .int .i64 c]] w fun e w' => e = .returned (.int .i64 (if b1 && b2 && b3 then 0 else 4)) ∧ Below w.heap.size w w' := by
  have H1 := Aside0.mk h1
  clear h1
  have HB := Aside0.mk (gW_below w nf nc ncs A0 A1 A3 c0 c1 c3 locks 20 a b c)
  have p0 : (gW w nf nc ncs A0 A1 A3 c0 c1 c3 locks 20 a b c).cell? ⟨w.heap.size, 0, none⟩ = some (.slice A0 nf c0) := (blk_cell (gW_p w nf nc ncs A0 A1 A3 c0 c1 c3 locks 20 a b c) 0).trans rfl
  have p1 : (gW w nf nc ncs A0 A1 A3 c0 c1 c3 locks 20 a b c).cell? ⟨w.heap.size, 1, none⟩ = some (.slice A1 nc c1) := (blk_cell (gW_p w nf nc ncs A0 A1 A3 c0 c1 c3 locks 20 a b c) 1).trans rfl
  have p2 : (gW w nf nc ncs A0 A1 A3 c0 c1 c3 locks 20 a b c).cell? ⟨w.heap.size, 2, none⟩ = some (.int .i64 locks) := (blk_cell (gW_p w nf nc ncs A0 A1 A3 c0 c1 c3 locks 20 a b c) 2).trans rfl
  have p3 : (gW w nf nc ncs A0 A1 A3 c0 c1 c3 locks 20 a b c).cell? ⟨w.heap.size, 3, none⟩ = some (.slice A3 ncs c3) := (blk_cell (gW_p w nf nc ncs A0 A1 A3 c0 c1 c3 locks 20 a b c) 3).trans rfl
  have x0 : (gW w nf nc ncs A0 A1 A3 c0 c1 c3 locks 20 a b c).cell? ⟨w.heap.size + 1, 0, none⟩ = some (.int .i64 20) := (blk_cell (gW_x w nf nc ncs A0 A1 A3 c0 c1 c3 locks 20 a b c) 0).trans rfl
  have x1 : (gW w nf nc ncs A0 A1 A3 c0 c1 c3 locks 20 a b c).cell? ⟨w.heap.size + 1, 1, none⟩ = some (.int .i64 a) := (blk_cell (gW_x w nf nc ncs A0 A1 A3 c0 c1 c3 locks 20 a b c) 1).trans rfl
  have x2 : (gW w nf nc ncs A0 A1 A3 c0 c1 c3 locks 20 a b c).cell? ⟨w.heap.size + 1, 2, none⟩ = some (.int .i64 b) := (blk_cell (gW_x w nf nc ncs A0 A1 A3 c0 c1 c3 locks 20 a b c) 2).trans rfl
  have x3 : (gW w nf nc ncs A0 A1 A3 c0 c1 c3 locks 20 a b c).cell? ⟨w.heap.size + 1, 3, none⟩ = some (.int .i64 c) := (blk_cell (gW_x w nf nc ncs A0 A1 A3 c0 c1 c3 locks 20 a b c) 3).trans rfl
  go_enter Try.func75, Try.ntmps75
  go_upto_region 2 with (fail)
  change Code.wp _ _ _ _ (gW w nf nc ncs A0 A1 A3 c0 c1 c3 locks 20 a b c)
  generalize gW w nf nc ncs A0 A1 A3 c0 c1 c3 locks 20 a b c = w2 at HB p0 p1 p2 p3 x0 x1 x2 x3 ⊢
  cases b1 with
  | false =>
    go_wp2_with (first
        | (go_at_call 74; (with_reducible refine (reg_calls a _ H1.out _).mono ?_); rintro e w' ⟨rfl, hb⟩; have HB2 := Aside0.mk (below_then HB.out HB.out.size hb); have y1 := pw_cell_below hb x1; have y2 := pw_cell_below hb x2; have y3 := pw_cell_below hb x3; have o0 := pw_cell_below hb p0; have o1 := pw_cell_below hb p1; have o2 := pw_cell_below hb p2; have o3 := pw_cell_below hb p3; clear HB x1 x2 x3 p0 p1 p2 p3 hb; have HB := HB2; have x1 := y1; have x2 := y2; have x3 := y3; have p0 := o0; have p1 := o1; have p2 := o2; have p3 := o3; clear HB2 y1 y2 y3 o0 o1 o2 o3))
    go_ret
    exact ⟨rfl, HB.out⟩
  | true =>
    cases b2 with
    | false =>
      go_wp2_with (first
        | (go_at_call 74; (with_reducible refine (reg_calls a _ H1.out _).mono ?_); rintro e w' ⟨rfl, hb⟩; have HB2 := Aside0.mk (below_then HB.out HB.out.size hb); have y1 := pw_cell_below hb x1; have y2 := pw_cell_below hb x2; have y3 := pw_cell_below hb x3; have o0 := pw_cell_below hb p0; have o1 := pw_cell_below hb p1; have o2 := pw_cell_below hb p2; have o3 := pw_cell_below hb p3; clear HB x1 x2 x3 p0 p1 p2 p3 hb; have HB := HB2; have x1 := y1; have x2 := y2; have x3 := y3; have p0 := o0; have p1 := o1; have p2 := o2; have p3 := o3; clear HB2 y1 y2 y3 o0 o1 o2 o3))
      go_ret
      exact ⟨rfl, HB.out⟩
    | true =>
      cases b3 with
      | false =>
        go_wp2_with (first
        | (go_at_call 74; (with_reducible refine (reg_calls a _ H1.out _).mono ?_); rintro e w' ⟨rfl, hb⟩; have HB2 := Aside0.mk (below_then HB.out HB.out.size hb); have y1 := pw_cell_below hb x1; have y2 := pw_cell_below hb x2; have y3 := pw_cell_below hb x3; have o0 := pw_cell_below hb p0; have o1 := pw_cell_below hb p1; have o2 := pw_cell_below hb p2; have o3 := pw_cell_below hb p3; clear HB x1 x2 x3 p0 p1 p2 p3 hb; have HB := HB2; have x1 := y1; have x2 := y2; have x3 := y3; have p0 := o0; have p1 := o1; have p2 := o2; have p3 := o3; clear HB2 y1 y2 y3 o0 o1 o2 o3))
        go_ret
        exact ⟨rfl, HB.out⟩
      | true =>
        go_wp2_with (first
        | (go_at_call 74; (with_reducible refine (reg_calls a _ H1.out _).mono ?_); rintro e w' ⟨rfl, hb⟩; have HB2 := Aside0.mk (below_then HB.out HB.out.size hb); have y1 := pw_cell_below hb x1; have y2 := pw_cell_below hb x2; have y3 := pw_cell_below hb x3; have o0 := pw_cell_below hb p0; have o1 := pw_cell_below hb p1; have o2 := pw_cell_below hb p2; have o3 := pw_cell_below hb p3; clear HB x1 x2 x3 p0 p1 p2 p3 hb; have HB := HB2; have x1 := y1; have x2 := y2; have x3 := y3; have p0 := o0; have p1 := o1; have p2 := o2; have p3 := o3; clear HB2 y1 y2 y3 o0 o1 o2 o3))
        go_ret
        exact ⟨rfl, HB.out⟩
set_option maxHeartbeats 2000000 in
set_option maxRecDepth 100000 in
theorem good_21 (nf nc ncs nfl : Nat) (A0 A1 A2 A3 : Option Addr) (c0 c1 c2 c3 : Nat) (locks a b c : Int) (b1 b2 b3 : Bool) (h1 : inB a 0 8 = b1) (h2 : inB b 1 1099511627776 = b2) (h3 : (c == 0) = b3) (w : World) :
    Calls Try.prog 75 #[.agg #[.slice A0 nf c0, .slice A1 nc c1, .int .i64 locks, .slice A3 ncs c3], .slice A2 nfl c2, .agg #[.int .i64 21, .int .i64 a, .int .i64 b, .int .i64 c]] w fun e w' => e = .returned (.int .i64 (if b1 && b2 && b3 then 0 else 4)) ∧ Below w.heap.size w w' := by
  have H1 := Aside0.mk h1
  have H2 := Aside0.mk h2
  clear h1 h2
  have HB := Aside0.mk (gW_below w nf nc ncs A0 A1 A3 c0 c1 c3 locks 21 a b c)
  have p0 : (gW w nf nc ncs A0 A1 A3 c0 c1 c3 locks 21 a b c).cell? ⟨w.heap.size, 0, none⟩ = some (.slice A0 nf c0) := (blk_cell (gW_p w nf nc ncs A0 A1 A3 c0 c1 c3 locks 21 a b c) 0).trans rfl
  have p1 : (gW w nf nc ncs A0 A1 A3 c0 c1 c3 locks 21 a b c).cell? ⟨w.heap.size, 1, none⟩ = some (.slice A1 nc c1) := (blk_cell (gW_p w nf nc ncs A0 A1 A3 c0 c1 c3 locks 21 a b c) 1).trans rfl
  have p2 : (gW w nf nc ncs A0 A1 A3 c0 c1 c3 locks 21 a b c).cell? ⟨w.heap.size, 2, none⟩ = some (.int .i64 locks) := (blk_cell (gW_p w nf nc ncs A0 A1 A3 c0 c1 c3 locks 21 a b c) 2).trans rfl
  have p3 : (gW w nf nc ncs A0 A1 A3 c0 c1 c3 locks 21 a b c).cell? ⟨w.heap.size, 3, none⟩ = some (.slice A3 ncs c3) := (blk_cell (gW_p w nf nc ncs A0 A1 A3 c0 c1 c3 locks 21 a b c) 3).trans rfl
  have x0 : (gW w nf nc ncs A0 A1 A3 c0 c1 c3 locks 21 a b c).cell? ⟨w.heap.size + 1, 0, none⟩ = some (.int .i64 21) := (blk_cell (gW_x w nf nc ncs A0 A1 A3 c0 c1 c3 locks 21 a b c) 0).trans rfl
  have x1 : (gW w nf nc ncs A0 A1 A3 c0 c1 c3 locks 21 a b c).cell? ⟨w.heap.size + 1, 1, none⟩ = some (.int .i64 a) := (blk_cell (gW_x w nf nc ncs A0 A1 A3 c0 c1 c3 locks 21 a b c) 1).trans rfl
  have x2 : (gW w nf nc ncs A0 A1 A3 c0 c1 c3 locks 21 a b c).cell? ⟨w.heap.size + 1, 2, none⟩ = some (.int .i64 b) := (blk_cell (gW_x w nf nc ncs A0 A1 A3 c0 c1 c3 locks 21 a b c) 2).trans rfl
  have x3 : (gW w nf nc ncs A0 A1 A3 c0 c1 c3 locks 21 a b c).cell? ⟨w.heap.size + 1, 3, none⟩ = some (.int .i64 c) := (blk_cell (gW_x w nf nc ncs A0 A1 A3 c0 c1 c3 locks 21 a b c) 3).trans rfl
  go_enter Try.func75, Try.ntmps75
  go_upto_region 2 with (fail)
  change Code.wp _ _ _ _ (gW w nf nc ncs A0 A1 A3 c0 c1 c3 locks 21 a b c)
  generalize gW w nf nc ncs A0 A1 A3 c0 c1 c3 locks 21 a b c = w2 at HB p0 p1 p2 p3 x0 x1 x2 x3 ⊢
  cases b1 with
  | false =>
    go_wp2_with (first
        | (go_at_call 74; (with_reducible refine (reg_calls a _ H1.out _).mono ?_); rintro e w' ⟨rfl, hb⟩; have HB2 := Aside0.mk (below_then HB.out HB.out.size hb); have y1 := pw_cell_below hb x1; have y2 := pw_cell_below hb x2; have y3 := pw_cell_below hb x3; have o0 := pw_cell_below hb p0; have o1 := pw_cell_below hb p1; have o2 := pw_cell_below hb p2; have o3 := pw_cell_below hb p3; clear HB x1 x2 x3 p0 p1 p2 p3 hb; have HB := HB2; have x1 := y1; have x2 := y2; have x3 := y3; have p0 := o0; have p1 := o1; have p2 := o2; have p3 := o3; clear HB2 y1 y2 y3 o0 o1 o2 o3)
        | (go_at_call 73; (with_reducible refine (in_calls b 1 1099511627776 _ H2.out _).mono ?_); rintro e w' ⟨rfl, hb⟩; have HB2 := Aside0.mk (below_then HB.out HB.out.size hb); have y1 := pw_cell_below hb x1; have y2 := pw_cell_below hb x2; have y3 := pw_cell_below hb x3; have o0 := pw_cell_below hb p0; have o1 := pw_cell_below hb p1; have o2 := pw_cell_below hb p2; have o3 := pw_cell_below hb p3; clear HB x1 x2 x3 p0 p1 p2 p3 hb; have HB := HB2; have x1 := y1; have x2 := y2; have x3 := y3; have p0 := o0; have p1 := o1; have p2 := o2; have p3 := o3; clear HB2 y1 y2 y3 o0 o1 o2 o3))
    go_ret
    exact ⟨rfl, HB.out⟩
  | true =>
    cases b2 with
    | false =>
      go_wp2_with (first
        | (go_at_call 74; (with_reducible refine (reg_calls a _ H1.out _).mono ?_); rintro e w' ⟨rfl, hb⟩; have HB2 := Aside0.mk (below_then HB.out HB.out.size hb); have y1 := pw_cell_below hb x1; have y2 := pw_cell_below hb x2; have y3 := pw_cell_below hb x3; have o0 := pw_cell_below hb p0; have o1 := pw_cell_below hb p1; have o2 := pw_cell_below hb p2; have o3 := pw_cell_below hb p3; clear HB x1 x2 x3 p0 p1 p2 p3 hb; have HB := HB2; have x1 := y1; have x2 := y2; have x3 := y3; have p0 := o0; have p1 := o1; have p2 := o2; have p3 := o3; clear HB2 y1 y2 y3 o0 o1 o2 o3)
        | (go_at_call 73; (with_reducible refine (in_calls b 1 1099511627776 _ H2.out _).mono ?_); rintro e w' ⟨rfl, hb⟩; have HB2 := Aside0.mk (below_then HB.out HB.out.size hb); have y1 := pw_cell_below hb x1; have y2 := pw_cell_below hb x2; have y3 := pw_cell_below hb x3; have o0 := pw_cell_below hb p0; have o1 := pw_cell_below hb p1; have o2 := pw_cell_below hb p2; have o3 := pw_cell_below hb p3; clear HB x1 x2 x3 p0 p1 p2 p3 hb; have HB := HB2; have x1 := y1; have x2 := y2; have x3 := y3; have p0 := o0; have p1 := o1; have p2 := o2; have p3 := o3; clear HB2 y1 y2 y3 o0 o1 o2 o3))
      go_ret
      exact ⟨rfl, HB.out⟩
    | true =>
      cases b3 with
      | false =>
        go_wp2_with (first
        | (go_at_call 74; (with_reducible refine (reg_calls a _ H1.out _).mono ?_); rintro e w' ⟨rfl, hb⟩; have HB2 := Aside0.mk (below_then HB.out HB.out.size hb); have y1 := pw_cell_below hb x1; have y2 := pw_cell_below hb x2; have y3 := pw_cell_below hb x3; have o0 := pw_cell_below hb p0; have o1 := pw_cell_below hb p1; have o2 := pw_cell_below hb p2; have o3 := pw_cell_below hb p3; clear HB x1 x2 x3 p0 p1 p2 p3 hb; have HB := HB2; have x1 := y1; have x2 := y2; have x3 := y3; have p0 := o0; have p1 := o1; have p2 := o2; have p3 := o3; clear HB2 y1 y2 y3 o0 o1 o2 o3)
        | (go_at_call 73; (with_reducible refine (in_calls b 1 1099511627776 _ H2.out _).mono ?_); rintro e w' ⟨rfl, hb⟩; have HB2 := Aside0.mk (below_then HB.out HB.out.size hb); have y1 := pw_cell_below hb x1; have y2 := pw_cell_below hb x2; have y3 := pw_cell_below hb x3; have o0 := pw_cell_below hb p0; have o1 := pw_cell_below hb p1; have o2 := pw_cell_below hb p2; have o3 := pw_cell_below hb p3; clear HB x1 x2 x3 p0 p1 p2 p3 hb; have HB := HB2; have x1 := y1; have x2 := y2; have x3 := y3; have p0 := o0; have p1 := o1; have p2 := o2; have p3 := o3; clear HB2 y1 y2 y3 o0 o1 o2 o3))
        go_ret
        exact ⟨rfl, HB.out⟩
      | true =>
        go_wp2_with (first
        | (go_at_call 74; (with_reducible refine (reg_calls a _ H1.out _).mono ?_); rintro e w' ⟨rfl, hb⟩; have HB2 := Aside0.mk (below_then HB.out HB.out.size hb); have y1 := pw_cell_below hb x1; have y2 := pw_cell_below hb x2; have y3 := pw_cell_below hb x3; have o0 := pw_cell_below hb p0; have o1 := pw_cell_below hb p1; have o2 := pw_cell_below hb p2; have o3 := pw_cell_below hb p3; clear HB x1 x2 x3 p0 p1 p2 p3 hb; have HB := HB2; have x1 := y1; have x2 := y2; have x3 := y3; have p0 := o0; have p1 := o1; have p2 := o2; have p3 := o3; clear HB2 y1 y2 y3 o0 o1 o2 o3)
        | (go_at_call 73; (with_reducible refine (in_calls b 1 1099511627776 _ H2.out _).mono ?_); rintro e w' ⟨rfl, hb⟩; have HB2 := Aside0.mk (below_then HB.out HB.out.size hb); have y1 := pw_cell_below hb x1; have y2 := pw_cell_below hb x2; have y3 := pw_cell_below hb x3; have o0 := pw_cell_below hb p0; have o1 := pw_cell_below hb p1; have o2 := pw_cell_below hb p2; have o3 := pw_cell_below hb p3; clear HB x1 x2 x3 p0 p1 p2 p3 hb; have HB := HB2; have x1 := y1; have x2 := y2; have x3 := y3; have p0 := o0; have p1 := o1; have p2 := o2; have p3 := o3; clear HB2 y1 y2 y3 o0 o1 o2 o3))
        go_ret
        exact ⟨rfl, HB.out⟩
set_option maxHeartbeats 2000000 in
set_option maxRecDepth 100000 in
theorem good_22 (nf nc ncs nfl : Nat) (A0 A1 A2 A3 : Option Addr) (c0 c1 c2 c3 : Nat) (locks a b c : Int) (b1 b2 b3 : Bool) (h1 : inB a 0 1048576 = b1) (h2 : (b == 0) = b2) (h3 : (c == 0) = b3) (w : World) :
    Calls Try.prog 75 #[.agg #[.slice A0 nf c0, .slice A1 nc c1, .int .i64 locks, .slice A3 ncs c3], .slice A2 nfl c2, .agg #[.int .i64 22, .int .i64 a, .int .i64 b, .int .i64 c]] w fun e w' => e = .returned (.int .i64 (if b1 && b2 && b3 then 0 else 4)) ∧ Below w.heap.size w w' := by
  have H1 := Aside0.mk h1
  clear h1
  have HB := Aside0.mk (gW_below w nf nc ncs A0 A1 A3 c0 c1 c3 locks 22 a b c)
  have p0 : (gW w nf nc ncs A0 A1 A3 c0 c1 c3 locks 22 a b c).cell? ⟨w.heap.size, 0, none⟩ = some (.slice A0 nf c0) := (blk_cell (gW_p w nf nc ncs A0 A1 A3 c0 c1 c3 locks 22 a b c) 0).trans rfl
  have p1 : (gW w nf nc ncs A0 A1 A3 c0 c1 c3 locks 22 a b c).cell? ⟨w.heap.size, 1, none⟩ = some (.slice A1 nc c1) := (blk_cell (gW_p w nf nc ncs A0 A1 A3 c0 c1 c3 locks 22 a b c) 1).trans rfl
  have p2 : (gW w nf nc ncs A0 A1 A3 c0 c1 c3 locks 22 a b c).cell? ⟨w.heap.size, 2, none⟩ = some (.int .i64 locks) := (blk_cell (gW_p w nf nc ncs A0 A1 A3 c0 c1 c3 locks 22 a b c) 2).trans rfl
  have p3 : (gW w nf nc ncs A0 A1 A3 c0 c1 c3 locks 22 a b c).cell? ⟨w.heap.size, 3, none⟩ = some (.slice A3 ncs c3) := (blk_cell (gW_p w nf nc ncs A0 A1 A3 c0 c1 c3 locks 22 a b c) 3).trans rfl
  have x0 : (gW w nf nc ncs A0 A1 A3 c0 c1 c3 locks 22 a b c).cell? ⟨w.heap.size + 1, 0, none⟩ = some (.int .i64 22) := (blk_cell (gW_x w nf nc ncs A0 A1 A3 c0 c1 c3 locks 22 a b c) 0).trans rfl
  have x1 : (gW w nf nc ncs A0 A1 A3 c0 c1 c3 locks 22 a b c).cell? ⟨w.heap.size + 1, 1, none⟩ = some (.int .i64 a) := (blk_cell (gW_x w nf nc ncs A0 A1 A3 c0 c1 c3 locks 22 a b c) 1).trans rfl
  have x2 : (gW w nf nc ncs A0 A1 A3 c0 c1 c3 locks 22 a b c).cell? ⟨w.heap.size + 1, 2, none⟩ = some (.int .i64 b) := (blk_cell (gW_x w nf nc ncs A0 A1 A3 c0 c1 c3 locks 22 a b c) 2).trans rfl
  have x3 : (gW w nf nc ncs A0 A1 A3 c0 c1 c3 locks 22 a b c).cell? ⟨w.heap.size + 1, 3, none⟩ = some (.int .i64 c) := (blk_cell (gW_x w nf nc ncs A0 A1 A3 c0 c1 c3 locks 22 a b c) 3).trans rfl
  go_enter Try.func75, Try.ntmps75
  go_upto_region 2 with (fail)
  change Code.wp _ _ _ _ (gW w nf nc ncs A0 A1 A3 c0 c1 c3 locks 22 a b c)
  generalize gW w nf nc ncs A0 A1 A3 c0 c1 c3 locks 22 a b c = w2 at HB p0 p1 p2 p3 x0 x1 x2 x3 ⊢
  cases b1 with
  | false =>
    go_wp2_with (first
        | (go_at_call 73; (with_reducible refine (in_calls a 0 1048576 _ H1.out _).mono ?_); rintro e w' ⟨rfl, hb⟩; have HB2 := Aside0.mk (below_then HB.out HB.out.size hb); have y1 := pw_cell_below hb x1; have y2 := pw_cell_below hb x2; have y3 := pw_cell_below hb x3; have o0 := pw_cell_below hb p0; have o1 := pw_cell_below hb p1; have o2 := pw_cell_below hb p2; have o3 := pw_cell_below hb p3; clear HB x1 x2 x3 p0 p1 p2 p3 hb; have HB := HB2; have x1 := y1; have x2 := y2; have x3 := y3; have p0 := o0; have p1 := o1; have p2 := o2; have p3 := o3; clear HB2 y1 y2 y3 o0 o1 o2 o3))
    go_ret
    exact ⟨rfl, HB.out⟩
  | true =>
    cases b2 with
    | false =>
      go_wp2_with (first
        | (go_at_call 73; (with_reducible refine (in_calls a 0 1048576 _ H1.out _).mono ?_); rintro e w' ⟨rfl, hb⟩; have HB2 := Aside0.mk (below_then HB.out HB.out.size hb); have y1 := pw_cell_below hb x1; have y2 := pw_cell_below hb x2; have y3 := pw_cell_below hb x3; have o0 := pw_cell_below hb p0; have o1 := pw_cell_below hb p1; have o2 := pw_cell_below hb p2; have o3 := pw_cell_below hb p3; clear HB x1 x2 x3 p0 p1 p2 p3 hb; have HB := HB2; have x1 := y1; have x2 := y2; have x3 := y3; have p0 := o0; have p1 := o1; have p2 := o2; have p3 := o3; clear HB2 y1 y2 y3 o0 o1 o2 o3))
      go_ret
      exact ⟨rfl, HB.out⟩
    | true =>
      cases b3 with
      | false =>
        go_wp2_with (first
        | (go_at_call 73; (with_reducible refine (in_calls a 0 1048576 _ H1.out _).mono ?_); rintro e w' ⟨rfl, hb⟩; have HB2 := Aside0.mk (below_then HB.out HB.out.size hb); have y1 := pw_cell_below hb x1; have y2 := pw_cell_below hb x2; have y3 := pw_cell_below hb x3; have o0 := pw_cell_below hb p0; have o1 := pw_cell_below hb p1; have o2 := pw_cell_below hb p2; have o3 := pw_cell_below hb p3; clear HB x1 x2 x3 p0 p1 p2 p3 hb; have HB := HB2; have x1 := y1; have x2 := y2; have x3 := y3; have p0 := o0; have p1 := o1; have p2 := o2; have p3 := o3; clear HB2 y1 y2 y3 o0 o1 o2 o3))
        go_ret
        exact ⟨rfl, HB.out⟩
      | true =>
        go_wp2_with (first
        | (go_at_call 73; (with_reducible refine (in_calls a 0 1048576 _ H1.out _).mono ?_); rintro e w' ⟨rfl, hb⟩; have HB2 := Aside0.mk (below_then HB.out HB.out.size hb); have y1 := pw_cell_below hb x1; have y2 := pw_cell_below hb x2; have y3 := pw_cell_below hb x3; have o0 := pw_cell_below hb p0; have o1 := pw_cell_below hb p1; have o2 := pw_cell_below hb p2; have o3 := pw_cell_below hb p3; clear HB x1 x2 x3 p0 p1 p2 p3 hb; have HB := HB2; have x1 := y1; have x2 := y2; have x3 := y3; have p0 := o0; have p1 := o1; have p2 := o2; have p3 := o3; clear HB2 y1 y2 y3 o0 o1 o2 o3))
        go_ret
        exact ⟨rfl, HB.out⟩
set_option maxHeartbeats 2000000 in
set_option maxRecDepth 100000 in
theorem good_else (nf nc ncs nfl : Nat) (A0 A1 A2 A3 : Option Addr) (c0 c1 c2 c3 : Nat) (locks op a b c : Int) (h : op < 0 ∨ 23 ≤ op) (w : World) :
    Calls Try.prog 75 #[.agg #[.slice A0 nf c0, .slice A1 nc c1, .int .i64 locks, .slice A3 ncs c3], .slice A2 nfl c2, .agg #[.int .i64 op, .int .i64 a, .int .i64 b, .int .i64 c]] w fun e w' => e = .returned (.int .i64 9) ∧ Below w.heap.size w w' := by
  have HB := Aside0.mk (gW_below w nf nc ncs A0 A1 A3 c0 c1 c3 locks op a b c)
  have p0 : (gW w nf nc ncs A0 A1 A3 c0 c1 c3 locks op a b c).cell? ⟨w.heap.size, 0, none⟩ = some (.slice A0 nf c0) := (blk_cell (gW_p w nf nc ncs A0 A1 A3 c0 c1 c3 locks op a b c) 0).trans rfl
  have p1 : (gW w nf nc ncs A0 A1 A3 c0 c1 c3 locks op a b c).cell? ⟨w.heap.size, 1, none⟩ = some (.slice A1 nc c1) := (blk_cell (gW_p w nf nc ncs A0 A1 A3 c0 c1 c3 locks op a b c) 1).trans rfl
  have p2 : (gW w nf nc ncs A0 A1 A3 c0 c1 c3 locks op a b c).cell? ⟨w.heap.size, 2, none⟩ = some (.int .i64 locks) := (blk_cell (gW_p w nf nc ncs A0 A1 A3 c0 c1 c3 locks op a b c) 2).trans rfl
  have p3 : (gW w nf nc ncs A0 A1 A3 c0 c1 c3 locks op a b c).cell? ⟨w.heap.size, 3, none⟩ = some (.slice A3 ncs c3) := (blk_cell (gW_p w nf nc ncs A0 A1 A3 c0 c1 c3 locks op a b c) 3).trans rfl
  have x0 : (gW w nf nc ncs A0 A1 A3 c0 c1 c3 locks op a b c).cell? ⟨w.heap.size + 1, 0, none⟩ = some (.int .i64 op) := (blk_cell (gW_x w nf nc ncs A0 A1 A3 c0 c1 c3 locks op a b c) 0).trans rfl
  have x1 : (gW w nf nc ncs A0 A1 A3 c0 c1 c3 locks op a b c).cell? ⟨w.heap.size + 1, 1, none⟩ = some (.int .i64 a) := (blk_cell (gW_x w nf nc ncs A0 A1 A3 c0 c1 c3 locks op a b c) 1).trans rfl
  have x2 : (gW w nf nc ncs A0 A1 A3 c0 c1 c3 locks op a b c).cell? ⟨w.heap.size + 1, 2, none⟩ = some (.int .i64 b) := (blk_cell (gW_x w nf nc ncs A0 A1 A3 c0 c1 c3 locks op a b c) 2).trans rfl
  have x3 : (gW w nf nc ncs A0 A1 A3 c0 c1 c3 locks op a b c).cell? ⟨w.heap.size + 1, 3, none⟩ = some (.int .i64 c) := (blk_cell (gW_x w nf nc ncs A0 A1 A3 c0 c1 c3 locks op a b c) 3).trans rfl
  go_enter Try.func75, Try.ntmps75
  go_upto_region 2 with (fail)
  change Code.wp _ _ _ _ (gW w nf nc ncs A0 A1 A3 c0 c1 c3 locks op a b c)
  generalize gW w nf nc ncs A0 A1 A3 c0 c1 c3 locks op a b c = w2 at HB p0 p1 p2 p3 x0 x1 x2 x3 ⊢
  have q0 : (op == 0) = false := beq_eq_false_iff_ne.2 (by omega)
  have r0 : (op = 0) = False := eq_false (by omega)
  have q1 : (op == 1) = false := beq_eq_false_iff_ne.2 (by omega)
  have r1 : (op = 1) = False := eq_false (by omega)
  have q2 : (op == 2) = false := beq_eq_false_iff_ne.2 (by omega)
  have r2 : (op = 2) = False := eq_false (by omega)
  have q3 : (op == 3) = false := beq_eq_false_iff_ne.2 (by omega)
  have r3 : (op = 3) = False := eq_false (by omega)
  have q4 : (op == 4) = false := beq_eq_false_iff_ne.2 (by omega)
  have r4 : (op = 4) = False := eq_false (by omega)
  have q5 : (op == 5) = false := beq_eq_false_iff_ne.2 (by omega)
  have r5 : (op = 5) = False := eq_false (by omega)
  have q6 : (op == 6) = false := beq_eq_false_iff_ne.2 (by omega)
  have r6 : (op = 6) = False := eq_false (by omega)
  have q7 : (op == 7) = false := beq_eq_false_iff_ne.2 (by omega)
  have r7 : (op = 7) = False := eq_false (by omega)
  have q8 : (op == 8) = false := beq_eq_false_iff_ne.2 (by omega)
  have r8 : (op = 8) = False := eq_false (by omega)
  have q9 : (op == 9) = false := beq_eq_false_iff_ne.2 (by omega)
  have r9 : (op = 9) = False := eq_false (by omega)
  have q10 : (op == 10) = false := beq_eq_false_iff_ne.2 (by omega)
  have r10 : (op = 10) = False := eq_false (by omega)
  have q11 : (op == 11) = false := beq_eq_false_iff_ne.2 (by omega)
  have r11 : (op = 11) = False := eq_false (by omega)
  have q12 : (op == 12) = false := beq_eq_false_iff_ne.2 (by omega)
  have r12 : (op = 12) = False := eq_false (by omega)
  have q13 : (op == 13) = false := beq_eq_false_iff_ne.2 (by omega)
  have r13 : (op = 13) = False := eq_false (by omega)
  have q14 : (op == 14) = false := beq_eq_false_iff_ne.2 (by omega)
  have r14 : (op = 14) = False := eq_false (by omega)
  have q15 : (op == 15) = false := beq_eq_false_iff_ne.2 (by omega)
  have r15 : (op = 15) = False := eq_false (by omega)
  have q16 : (op == 16) = false := beq_eq_false_iff_ne.2 (by omega)
  have r16 : (op = 16) = False := eq_false (by omega)
  have q17 : (op == 17) = false := beq_eq_false_iff_ne.2 (by omega)
  have r17 : (op = 17) = False := eq_false (by omega)
  have q18 : (op == 18) = false := beq_eq_false_iff_ne.2 (by omega)
  have r18 : (op = 18) = False := eq_false (by omega)
  have q19 : (op == 19) = false := beq_eq_false_iff_ne.2 (by omega)
  have r19 : (op = 19) = False := eq_false (by omega)
  have q20 : (op == 20) = false := beq_eq_false_iff_ne.2 (by omega)
  have r20 : (op = 20) = False := eq_false (by omega)
  have q21 : (op == 21) = false := beq_eq_false_iff_ne.2 (by omega)
  have r21 : (op = 21) = False := eq_false (by omega)
  have q22 : (op == 22) = false := beq_eq_false_iff_ne.2 (by omega)
  have r22 : (op = 22) = False := eq_false (by omega)
  clear h
  go_wp2
  go_ret
  exact ⟨rfl, HB.out⟩
end Go.Proofs.Ythlllcmffgdcmab.Code
end
